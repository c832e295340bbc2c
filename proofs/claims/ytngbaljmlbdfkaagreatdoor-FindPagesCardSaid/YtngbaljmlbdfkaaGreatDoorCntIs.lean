/- strings.Contains at this program; the cell of MaxLen. -/
import Derived.Test.YtngbaljmlbdfkaaGreatDoorCntLays
import Derived.Test.YtngbaljmlbdfkaaGreatDoorKit
namespace Go.Proofs.YtngbaljmlbdfkaaGreatDoor
open Go.RowKit Go.Sort Go.Shelf
/-- The library's variable MaxLen holds some int. -/
def MxL (w : World) : Prop := ∃ m, w.cell? ⟨0, 0, none⟩ = some (.int .i64 m)
theorem MxL.below {w w' : World} (h : MxL w) (hb : Below w.heap.size w w') : MxL w' := by
  obtain ⟨m, hm⟩ := h
  exact ⟨m, (hb.cell (World.block_lt_of_cell? w _ hm)).trans hm⟩
theorem mxL_of_shaped {w : World} (h : w.ShapedOpen Tryz.prog) : MxL w := Lay.contM.s1_3 w h
theorem strContains_is (s sub : ByteArray) (hs : s.size < 4294967281) (w : World) (hm : MxL w) :
    Calls Tryz.prog 90 #[.string s, .string sub] w fun e w' => e = .returned (.bool (Lib.contains s.data.toList sub.data.toList)) ∧ Below w.heap.size w w' := by
  obtain ⟨m, hm⟩ := hm
  refine (Any.strings_Contains { Lay.contM with } s sub m w hs hm).mono ?_
  rintro e w' ⟨rfl, rfl⟩
  exact ⟨rfl, Below.refl _ _⟩
end Go.Proofs.YtngbaljmlbdfkaaGreatDoor
