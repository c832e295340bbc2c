/- A row of strings. -/
import Derived.Test.YtpgjpnnjlilokaaDoorTxMath
import Derived.Test.YtpgjpnnjlilokaaDoorKit
import Derived.Test.YtpgjpnnjlilokaaDoorOwn
namespace Go.Proofs.YtpgjpnnjlilokaaDoor
open Go.RowKit Go.Sort
theorem cell_set_other {W : World} {a p : Addr} {v x : Value} (ha : p.block ≠ a.block) (h : W.cell? p = some x) : (W.setCell a v).cell? p = some x := by
  unfold World.cell? at h ⊢
  rw [Below.heap_setCell W a v p.block ha]
  exact h
/-- A row of strings, from a block's begin on. -/
def StrRow (w : World) (g : Nat) (ss : List (List UInt8)) : Prop := g < w.heap.size ∧ ∀ i, i < ss.length → w.cell? ⟨g, i, none⟩ = some (.string (Tx.mk (ss.getD i [])))
theorem StrRow.keep {w w' : World} {g : Nat} {ss : List (List UInt8)} (h : StrRow w g ss) (hb : Below w.heap.size w w') : StrRow w' g ss :=
  ⟨Nat.lt_of_lt_of_le h.1 hb.size, fun i hi => (hb.cell (World.block_lt_of_cell? w _ (h.2 i hi))).trans (h.2 i hi)⟩
theorem StrRow.grown {w w' : World} {g : Nat} {ss : List (List UInt8)} {row : Option Nat} (h : StrRow w g ss) (hg : w.grownBy w' row) (hne : some g ≠ row) (hz : w.heap.size ≤ w'.heap.size) : StrRow w' g ss := by
  refine ⟨Nat.lt_of_lt_of_le h.1 hz, fun i hi => ?_⟩
  have := hg.block g h.1 hne
  have h2 := h.2 i hi
  unfold World.cell? at h2 ⊢
  rw [this]; exact h2
theorem StrRow.setOther {w : World} {g b i : Nat} {v : Value} {ss : List (List UInt8)} (h : StrRow w g ss) (hne : g ≠ b) : StrRow (w.setCell ⟨b, i, none⟩ v) g ss :=
  ⟨by simpa using h.1, fun j hj => cell_set_other hne (h.2 j hj)⟩
theorem StrRow.alloc {w : World} {g : Nat} {ss : List (List UInt8)} (h : StrRow w g ss) (o : Obj) : StrRow (w.alloc o) g ss := h.keep ((Below.refl _ _).alloc (Nat.le_refl _) o)
end Go.Proofs.YtpgjpnnjlilokaaDoor
