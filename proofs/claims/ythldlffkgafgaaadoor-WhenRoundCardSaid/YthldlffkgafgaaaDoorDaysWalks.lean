/- The contracts of the functions on days: package when's and the reference's. -/
import Derived.Test.YthldlffkgafgaaaDoorProg
import Derived.Test.YthldlffkgafgaaaDoorDaysMath
import Derived.Test.YthldlffkgafgaaaDoorKit
import Derived.Test.YthldlffkgafgaaaDoorOutside
namespace Go.Proofs.YthldlffkgafgaaaDoor
open Go.RowKit

theorem before_any (y : Int) (w : World) (h1 : 1 ≤ y) (h2 : y ≤ 1000000) :
    Calls Tryd.prog 67 #[.int .i64 y] w fun e w' => e = .returned (.int .i64 (Cal.bef y)) ∧ w = w' := by
  go_enter Tryd.func67, Tryd.ntmps67
  go_wp2
  go_ret
  exact ⟨ret_int (by unfold Cal.bef; omega), rfl⟩
theorem leap_any (y : Int) (w : World) (h1 : 0 ≤ y) :
    Calls Tryd.prog 84 #[.int .i64 y] w fun e w' => e = .returned (.bool (Cal.leapB y)) ∧ w = w' := by
  by_cases c : y % 4 = 0
  · by_cases d : y % 100 = 0
    · go_enter Tryd.func84, Tryd.ntmps84
      go_wp2
      go_ret
      exact ⟨ret_bool (by simp [Cal.leapB, c, d]), rfl⟩
    · go_enter Tryd.func84, Tryd.ntmps84
      go_wp2
      go_ret
      exact ⟨ret_bool (by simp [Cal.leapB, c, d]), rfl⟩
  · go_enter Tryd.func84, Tryd.ntmps84
    go_wp2
    go_ret
    exact ⟨ret_bool (by simp [Cal.leapB, c]), rfl⟩
theorem leapR_any (y : Int) (w : World) (h1 : 0 ≤ y) :
    Calls Tryd.prog 92 #[.int .i64 y] w fun e w' => e = .returned (.bool (Cal.leapB y)) ∧ w = w' := by
  by_cases c : y % 4 = 0
  · by_cases d : y % 100 = 0
    · go_enter Tryd.func92, Tryd.ntmps92
      go_wp2
      go_ret
      exact ⟨ret_bool (by simp [Cal.leapB, c, d]), rfl⟩
    · go_enter Tryd.func92, Tryd.ntmps92
      go_wp2
      go_ret
      exact ⟨ret_bool (by simp [Cal.leapB, c, d]), rfl⟩
  · go_enter Tryd.func92, Tryd.ntmps92
    go_wp2
    go_ret
    exact ⟨ret_bool (by simp [Cal.leapB, c]), rfl⟩

theorem len_2 (y : Int) (h : Cal.leapB y = true) : Cal.len y 2 = 29 := by simp [Cal.len, Cal.lp, h]
theorem len_2' (y : Int) (h : Cal.leapB y = false) : Cal.len y 2 = 28 := by simp [Cal.len, Cal.lp, h]
theorem months (m : Int) (h1 : 1 ≤ m) (h2 : m ≤ 12) : m = 1 ∨ m = 2 ∨ m = 3 ∨ m = 4 ∨ m = 5 ∨ m = 6 ∨ m = 7 ∨ m = 8 ∨ m = 9 ∨ m = 10 ∨ m = 11 ∨ m = 12 := by omega
set_option maxHeartbeats 1000000 in
theorem lengthOf_any (y m : Int) (w : World) (h0 : 0 ≤ y) (h1 : 1 ≤ m) (h2 : m ≤ 12) :
    Calls Tryd.prog 68 #[.int .i64 y, .int .i64 m] w fun e w' => e = .returned (.int .i64 (Cal.len y m)) ∧ Below w.heap.size w w' := by
  by_cases c : m = 2
  · subst c
    cases hl : Cal.leapB y
    · have hc : ∀ W, Calls Tryd.prog 84 #[.int .i64 y] W fun e w' => e = .returned (.bool false) ∧ W = w' := fun W => by rw [← hl]; exact leap_any y W h0
      have HL := Lib.hid hl; clear hl
      have HC := Lib.hid hc; clear hc
      go_enter Tryd.func68, Tryd.ntmps68
      go_wp2_with (go_at_call 84; refine (HC.out _).mono ?_; rintro e w' ⟨rfl, rfl⟩)
      go_ret
      exact ⟨ret_int (len_2' y HL.out).symm, (Below.refl _ _).alloc (Nat.le_refl _) _⟩
    · have hc : ∀ W, Calls Tryd.prog 84 #[.int .i64 y] W fun e w' => e = .returned (.bool true) ∧ W = w' := fun W => by rw [← hl]; exact leap_any y W h0
      have HL := Lib.hid hl; clear hl
      have HC := Lib.hid hc; clear hc
      go_enter Tryd.func68, Tryd.ntmps68
      go_wp2_with (go_at_call 84; refine (HC.out _).mono ?_; rintro e w' ⟨rfl, rfl⟩)
      go_ret
      exact ⟨ret_int (len_2 y HL.out).symm, (Below.refl _ _).alloc (Nat.le_refl _) _⟩
  · rcases months m h1 h2 with h | h | h | h | h | h | h | h | h | h | h | h
    case inr.inl => exact absurd h c
    all_goals
      subst h
      go_enter Tryd.func68, Tryd.ntmps68
      go_wp2_with fail
      go_ret
      exact ⟨ret_int (by simp [Cal.len]), (Below.refl _ _).alloc (Nat.le_refl _) _⟩
theorem long_any (y m : Int) (w : World) (h0 : 0 ≤ y) :
    Calls Tryd.prog 83 #[.int .i64 y, .int .i64 m] w fun e w' => e = .returned (.int .i64 (Cal.len y m)) ∧ w = w' := by
  by_cases c : m = 2
  · subst c
    cases hl : Cal.leapB y
    · have hc : ∀ W, Calls Tryd.prog 92 #[.int .i64 y] W fun e w' => e = .returned (.bool false) ∧ W = w' := fun W => by rw [← hl]; exact leapR_any y W h0
      have HL := Lib.hid hl; clear hl
      have HC := Lib.hid hc; clear hc
      go_enter Tryd.func83, Tryd.ntmps83
      go_wp2_with (go_at_call 92; refine (HC.out _).mono ?_; rintro e w' ⟨rfl, rfl⟩)
      go_ret
      exact ⟨ret_int (len_2' y HL.out).symm, rfl⟩
    · have hc : ∀ W, Calls Tryd.prog 92 #[.int .i64 y] W fun e w' => e = .returned (.bool true) ∧ W = w' := fun W => by rw [← hl]; exact leapR_any y W h0
      have HL := Lib.hid hl; clear hl
      have HC := Lib.hid hc; clear hc
      go_enter Tryd.func83, Tryd.ntmps83
      go_wp2_with (go_at_call 92; refine (HC.out _).mono ?_; rintro e w' ⟨rfl, rfl⟩)
      go_ret
      exact ⟨ret_int (len_2 y HL.out).symm, rfl⟩
  · by_cases h4 : m = 4
    · subst h4
      go_enter Tryd.func83, Tryd.ntmps83
      go_wp2_with fail
      go_ret
      exact ⟨ret_int (by simp [Cal.len]), rfl⟩
    · by_cases h6 : m = 6
      · subst h6
        go_enter Tryd.func83, Tryd.ntmps83
        go_wp2_with fail
        go_ret
        exact ⟨ret_int (by simp [Cal.len]), rfl⟩
      · by_cases h9 : m = 9
        · subst h9
          go_enter Tryd.func83, Tryd.ntmps83
          go_wp2_with fail
          go_ret
          exact ⟨ret_int (by simp [Cal.len]), rfl⟩
        · by_cases h11 : m = 11
          · subst h11
            go_enter Tryd.func83, Tryd.ntmps83
            go_wp2_with fail
            go_ret
            exact ⟨ret_int (by simp [Cal.len]), rfl⟩
          · go_enter Tryd.func83, Tryd.ntmps83
            go_wp2_with fail
            go_ret
            exact ⟨ret_int (by simp [Cal.len, c, h4, h6, h9, h11]), rfl⟩
end Go.Proofs.YthldlffkgafgaaaDoor
