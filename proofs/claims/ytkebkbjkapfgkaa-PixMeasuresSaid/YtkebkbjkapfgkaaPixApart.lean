/- apart of the program, size of the reference. -/
import Derived.Test.YtkebkbjkapfgkaaPixSet
import Derived.Test.YtkebkbjkapfgkaaPixSharpMath
namespace Go.Proofs.Ytkebkbjkapfgkaa
open Go.RowKit Go.Sort
set_option linter.unusedVariables false
theorem apart_is (a b : Int) (h1 : 0 ≤ a ∧ a ≤ 255) (h2 : 0 ≤ b ∧ b ≤ 255) (w : World) : Calls Try.prog 78 #[.int .u8 a, .int .u8 b] w fun e w' => e = .returned (.int .i64 (Im.ad a b)) ∧ w = w' := by
  unfold Im.ad
  by_cases h : a < b
  · rw [if_pos h]
    go_enter Try.func78, Try.ntmps78
    go_wp2_with fail
    go_ret
    exact ⟨rfl, rfl⟩
  · rw [if_neg h]
    go_enter Try.func78, Try.ntmps78
    go_wp2_with fail
    all_goals
      go_ret
      exact ⟨ret_int (by omega), rfl⟩
theorem rsize_is (n : Int) (h : -9223372036854775807 ≤ n ∧ n ≤ 9223372036854775807) (w : World) : Calls Try.prog 80 #[.int .i64 n] w fun e w' => e = .returned (.int .i64 (if n < 0 then -n else n)) ∧ w = w' := by
  by_cases c : n < 0
  · rw [if_pos c]
    go_enter Try.func80, Try.ntmps80
    go_wp2_with fail
    go_ret
    exact ⟨rfl, rfl⟩
  · rw [if_neg c]
    go_enter Try.func80, Try.ntmps80
    go_wp2_with fail
    go_ret
    exact ⟨rfl, rfl⟩
theorem rsize_ad (a b : Int) (h1 : 0 ≤ a ∧ a ≤ 255) (h2 : 0 ≤ b ∧ b ≤ 255) (w : World) : Calls Try.prog 80 #[.int .i64 (a - b)] w fun e w' => e = .returned (.int .i64 (Im.ad a b)) ∧ w = w' := by
  have := rsize_is (a - b) (by omega) w
  rwa [show (if a - b < 0 then -(a - b) else a - b) = Im.ad a b by unfold Im.ad; split <;> split <;> omega] at this
end Go.Proofs.Ytkebkbjkapfgkaa
