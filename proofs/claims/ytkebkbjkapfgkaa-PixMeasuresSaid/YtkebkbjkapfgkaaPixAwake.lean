/- awakePix: the package is there. -/
import Derived.Test.YtkebkbjkapfgkaaKit
import Derived.Laws.Bits64
import Derived.Laws.Bits64b
import Derived.Laws.BitsAll
namespace Go.Proofs.Ytkebkbjkapfgkaa
open Go.RowKit Go.Sort
set_option linter.unusedVariables false
set_option maxHeartbeats 400000 in
theorem ones7 (w : World) : Calls Try.prog 79 #[.int .u64 7] w fun e w' => e = .returned (.int .i64 3) ∧ w = w' := by
  go_enter Try.func79, Try.ntmps79
  go_wp2
  go_ret
  exact ⟨ret_int (by decide +kernel), rfl⟩
theorem distance07 (w : World) : Calls Try.prog 44 #[.int .u64 0, .int .u64 7] w fun e w' => e = .returned (.int .i64 3) ∧ w = w' := by
  go_enter Try.func44, Try.ntmps44
  go_wp2_with (go_at_call 79; refine (ones7 _).mono ?_; rintro e w' ⟨rfl, rfl⟩)
  go_ret
  exact ⟨rfl, rfl⟩
theorem awake_is (w : World) : Calls Try.prog 27 #[] w fun e w' => e = .returned (.bool true) ∧ w = w' := by
  go_enter Try.func27, Try.ntmps27
  go_wp2_with (go_at_call 44; refine (distance07 _).mono ?_; rintro e w' ⟨rfl, rfl⟩)
  go_ret
  exact ⟨rfl, rfl⟩
end Go.Proofs.Ytkebkbjkapfgkaa
