/- awakePix: the package is there. -/
import Derived.Test.YtpgjpnnjlilokaaDoorKit
import Derived.Laws.Bits64
import Derived.Laws.Bits64b
import Derived.Laws.BitsAll
namespace Go.Proofs.YtpgjpnnjlilokaaDoor
open Go.RowKit Go.Sort
set_option linter.unusedVariables false
set_option maxHeartbeats 400000 in
theorem ones7 (w : World) : Calls Tryd.prog 39 #[.int .u64 7] w fun e w' => e = .returned (.int .i64 3) ∧ w = w' := by
  go_enter Tryd.func39, Tryd.ntmps39
  go_wp2
  go_ret
  exact ⟨ret_int (by decide +kernel), rfl⟩
theorem distance07 (w : World) : Calls Tryd.prog 30 #[.int .u64 0, .int .u64 7] w fun e w' => e = .returned (.int .i64 3) ∧ w = w' := by
  go_enter Tryd.func30, Tryd.ntmps30
  go_wp2_with (go_at_call 39; refine (ones7 _).mono ?_; rintro e w' ⟨rfl, rfl⟩)
  go_ret
  exact ⟨rfl, rfl⟩
theorem awake_is (w : World) : Calls Tryd.prog 14 #[] w fun e w' => e = .returned (.bool true) ∧ w = w' := by
  go_enter Tryd.func14, Tryd.ntmps14
  go_wp2_with (go_at_call 30; refine (distance07 _).mono ?_; rintro e w' ⟨rfl, rfl⟩)
  go_ret
  exact ⟨rfl, rfl⟩
end Go.Proofs.YtpgjpnnjlilokaaDoor
