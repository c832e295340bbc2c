/- CheckZone, the reference's ZoneError, and the offset of a zone at a moment. -/
import Derived.Test.YtipmegkmkbbklaaRow2
import Derived.Test.YtipmegkmkbbklaaZoneMath
namespace Go.Proofs.Ytipmegkmkbbklaa
open Go.RowKit Go.Sort Go.Shelf
set_option linter.unusedVariables false
theorem zoned_is (o : Int) (b : Bool) (h : Zn.zok o = b) (w : World) : Calls Try.prog 62 #[.int .i64 o] w fun e w' => e = .returned (.bool b) ∧ w = w' := by
  cases b
  · have h' := (Zn.zok_no o).1 h
    clear h
    by_cases c : -840 ≤ o
    · go_enter Try.func62, Try.ntmps62
      go_wp2_with fail
      go_ret
      exact ⟨ret_bool (by simp <;> omega), rfl⟩
    · go_enter Try.func62, Try.ntmps62
      go_wp2_with fail
      go_ret
      exact ⟨ret_bool (by simp <;> omega), rfl⟩
  · have h' := (Zn.zok_iff o).1 h
    clear h
    go_enter Try.func62, Try.ntmps62
    go_wp2_with fail
    go_ret
    exact ⟨ret_bool (by simp <;> omega), rfl⟩
end Go.Proofs.Ytipmegkmkbbklaa
