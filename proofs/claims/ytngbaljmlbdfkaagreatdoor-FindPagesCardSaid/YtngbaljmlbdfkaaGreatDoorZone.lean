/- CheckZone, the reference's ZoneError, and the offset of a zone at a moment. -/
import Derived.Test.YtngbaljmlbdfkaaGreatDoorRow2
import Derived.Test.YtngbaljmlbdfkaaGreatDoorZoneMath
namespace Go.Proofs.YtngbaljmlbdfkaaGreatDoor
open Go.RowKit Go.Sort Go.Shelf
set_option linter.unusedVariables false
theorem zoned_is (o : Int) (b : Bool) (h : Zn.zok o = b) (w : World) : Calls Tryz.prog 62 #[.int .i64 o] w fun e w' => e = .returned (.bool b) ∧ w = w' := by
  cases b
  · have h' := (Zn.zok_no o).1 h
    clear h
    by_cases c : -840 ≤ o
    · go_enter Tryz.func62, Tryz.ntmps62
      go_wp2_with fail
      go_ret
      exact ⟨ret_bool (by simp <;> omega), rfl⟩
    · go_enter Tryz.func62, Tryz.ntmps62
      go_wp2_with fail
      go_ret
      exact ⟨ret_bool (by simp <;> omega), rfl⟩
  · have h' := (Zn.zok_iff o).1 h
    clear h
    go_enter Tryz.func62, Tryz.ntmps62
    go_wp2_with fail
    go_ret
    exact ⟨ret_bool (by simp <;> omega), rfl⟩
theorem outZ_is (o : Int) (b : Bool) (h : Zn.zok o = b) (w : World) : Calls Tryz.prog 169 #[.int .i64 o, .int .i64 (-840), .int .i64 840] w fun e w' => e = .returned (.bool (!b)) ∧ w = w' := by
  cases b
  · exact outside_yes _ _ _ _ ((Zn.zok_no o).1 h)
  · exact outside_no _ _ _ _ ((Zn.zok_iff o).1 h).1 ((Zn.zok_iff o).1 h).2
end Go.Proofs.YtngbaljmlbdfkaaGreatDoor
