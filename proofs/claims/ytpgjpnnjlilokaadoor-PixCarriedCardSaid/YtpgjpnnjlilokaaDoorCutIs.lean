/- strings.Cut at this program; the cell of MaxLen. -/
import Derived.Test.YtpgjpnnjlilokaaDoorCutLays
import Derived.Test.YtpgjpnnjlilokaaDoorTxMath
import Derived.Test.YtpgjpnnjlilokaaDoorKit
import Derived.Shelf.Unicode.PredsPay
namespace Go.Proofs.YtpgjpnnjlilokaaDoor
open Go.RowKit Go.Sort Go.Shelf
/-- The library's variable MaxLen holds some int. -/
def Mx (w : World) : Prop := ∃ m, w.cell? ⟨1, 0, none⟩ = some (.int .i64 m)
theorem Mx.below {w w' : World} (h : Mx w) (hb : Below w.heap.size w w') : Mx w' := by
  obtain ⟨m, hm⟩ := h
  exact ⟨m, cell_below hb hm⟩
theorem mx_of_shaped {w : World} (h : w.ShapedOpen Tryd.prog) : Mx w := Lay.cutM.s1_3 w h
theorem cut_is (s sep : List UInt8) (hs : s.length < 4294967281) (w : World) (hm : Mx w) :
    Calls Tryd.prog 35 #[.string (Tx.mk s), .string (Tx.mk sep)] w fun e w' => e = .returned (.tuple #[.string (Tx.mk (Lib.cut s sep).1), .string (Tx.mk (Lib.cut s sep).2.1), .bool (Lib.cut s sep).2.2]) ∧ Below w.heap.size w w' := by
  obtain ⟨m, hm⟩ := hm
  refine (Any.strings_Cut { Lay.cutM with } (Tx.mk s) (Tx.mk sep) m w (by rw [Tx.mk_size]; exact hs) hm).mono ?_
  rintro e w' ⟨rfl, n, rfl⟩
  exact ⟨rfl, below_drewN (Below.refl _ _) n⟩
theorem cut_len (s sep : List UInt8) : (Lib.cut s sep).1.length ≤ s.length ∧ (Lib.cut s sep).2.1.length ≤ s.length := by
  unfold Lib.cut
  split
  · simp; omega
  · simp
end Go.Proofs.YtpgjpnnjlilokaaDoor
