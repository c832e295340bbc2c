/- The contracts of the reference's DayFor: the number of a date, or -1. -/
import Derived.Test.YthldlffkgafgaaaDoorDaysWalks
namespace Go.Proofs.YthldlffkgafgaaaDoor
open Go.RowKit
theorem num_eq (y m d a : Int) (h : a = Cal.bef y + Cal.cum y m) : a + d - 1 = Cal.num y m d := by unfold Cal.num; omega
theorem bef_t (y : Int) (h : Cal.leapB y = true) : Cal.bef (y + 1) = Cal.bef y + 365 + 1 := by rw [Cal.bef_succ, Cal.lp, if_pos h]
theorem bef_f (y : Int) (h : Cal.leapB y = false) : Cal.bef (y + 1) = Cal.bef y + 365 := by rw [Cal.bef_succ, Cal.lp, h]; simp
theorem bef_bd (y : Int) (h1 : 1900 ≤ y) (h2 : y ≤ 2100) : 0 ≤ Cal.bef y ∧ Cal.bef y ≤ 73049 := by
  have := Cal.bef_mono 1900 y h1; rw [Cal.bef_1900] at this
  have g := Cal.bef_mono y 2100 h2; rw [Cal.bef_2100] at g
  omega
set_option maxHeartbeats 1000000 in
theorem dayFor_yes (y m d : Int) (w : World) (h : Cal.vld y m d = true) :
    Calls Tryd.prog 72 #[.agg #[.int .i64 y, .int .i64 m, .int .i64 d]] w fun e w' => e = .returned (.int .i64 (Cal.num y m d)) ∧ Below w.heap.size w w' := by
  obtain ⟨h1, h2, h3, h4, h5, h6⟩ := (Cal.vld_iff y m d).1 h
  have hd := Cal.len_bd y m
  clear h
  go_enter Tryd.func72, Tryd.ntmps72
  go_wp2_with fail
  go_quiet ((go_at_call 83; exact quiet_same (long_any _ _ _ (by omega))))
  go_wp2_with fail
  go_loop [3, 4] (fun n i => ∃ k : Int, 1900 ≤ k ∧ k ≤ y ∧ i = .int .i64 k ∧ n = .int .i64 (Cal.bef k)) (fun _ i => (y - intOf i).toNat)
  case atStart => exact ⟨1900, by omega, by omega, rfl, by rw [Cal.bef_1900]⟩
  case round =>
    obtain ⟨k, hk1, hk2, rfl, rfl⟩ := hrel
    have hb := bef_bd k hk1 (by omega)
    by_cases hlt : k < y
    · cases hl : Cal.leapB k
      · have HC := Lib.hid (leapR_any k)
        rw [hl] at HC
        have HL := Lib.hid hl; clear hl
        go_wp2_with (go_at_call 92; refine (HC.out _ (by omega)).mono ?_; rintro e w' ⟨rfl, rfl⟩)
        go_round
        case rel => exact ⟨k + 1, by omega, by omega, rfl, by rw [bef_f k HL.out]⟩
        case measure => simp [intOf]; omega
      · have HC := Lib.hid (leapR_any k)
        rw [hl] at HC
        have HL := Lib.hid hl; clear hl
        go_wp2_with (go_at_call 92; refine (HC.out _ (by omega)).mono ?_; rintro e w' ⟨rfl, rfl⟩)
        go_round
        case rel => exact ⟨k + 1, by omega, by omega, rfl, by rw [bef_t k HL.out]⟩
        case measure => simp [intOf]; omega
    · obtain rfl : k = y := by omega
      clear hk1 hk2
      go_wp2_with fail
      go_loop [3, 5] (fun n i => ∃ j : Int, 1 ≤ j ∧ j ≤ m ∧ i = .int .i64 j ∧ n = .int .i64 (Cal.bef k + Cal.cum k j)) (fun _ i => (m - intOf i).toNat)
      case atStart => exact ⟨1, by omega, by omega, rfl, by rw [Cal.cum_1]; simp⟩
      case round =>
        obtain ⟨j, hj1, hj2, rfl, rfl⟩ := hrel
        have hc := Cal.cum_bd k j hj1 (by omega)
        have hp := Cal.lp_01 k
        have hn := Cal.len_bd k j
        by_cases hlt2 : j < m
        · go_wp2_with (go_at_call 83; refine (long_any _ _ _ (by omega)).mono ?_; rintro e w' ⟨rfl, rfl⟩)
          go_round
          case rel => exact ⟨j + 1, by omega, by omega, rfl, by rw [Cal.cum_succ k j hj1 (by omega), Int.add_assoc]⟩
          case measure => simp [intOf]; omega
        · obtain rfl : j = m := by omega
          go_wp2_with fail
          go_ret
          exact ⟨ret_int (num_eq _ _ _ _ rfl), below_drewN ((Below.refl _ _).alloc (Nat.le_refl _) _) _⟩
theorem vld_no (y m d : Int) (h : Cal.vld y m d = false) : y < 1900 ∨ 2099 < y ∨ m < 1 ∨ 12 < m ∨ d < 1 ∨ Cal.len y m < d := by
  simp only [Cal.vld, decide_eq_false_iff_not] at h; omega
set_option maxHeartbeats 2000000 in
theorem dayFor_no (y m d : Int) (w : World) (h : Cal.vld y m d = false) :
    Calls Tryd.prog 72 #[.agg #[.int .i64 y, .int .i64 m, .int .i64 d]] w fun e w' => e = .returned (.int .i64 (-1)) ∧ Below w.heap.size w w' := by
  have hv := vld_no y m d h
  clear h
  by_cases g0 : y < 1900
  · clear hv
    go_enter Tryd.func72, Tryd.ntmps72
    go_wp2_with fail
    go_quiet (fail)
    go_wp2_with fail
    go_ret
    exact ⟨rfl, below_drewN ((Below.refl _ _).alloc (Nat.le_refl _) _) _⟩
  · have e0 : decide (y < 1900) = false := by simpa using g0
    by_cases g1 : 2099 < y
    · clear hv
      go_enter Tryd.func72, Tryd.ntmps72
      go_wp2_with fail
      go_quiet (fail)
      go_wp2_with fail
      go_ret
      exact ⟨rfl, below_drewN ((Below.refl _ _).alloc (Nat.le_refl _) _) _⟩
    · have e1 : decide (2099 < y) = false := by simpa using g1
      by_cases g2 : m < 1
      · clear hv
        go_enter Tryd.func72, Tryd.ntmps72
        go_wp2_with fail
        go_quiet (fail)
        go_wp2_with fail
        go_ret
        exact ⟨rfl, below_drewN ((Below.refl _ _).alloc (Nat.le_refl _) _) _⟩
      · have e2 : decide (m < 1) = false := by simpa using g2
        by_cases g3 : 12 < m
        · clear hv
          go_enter Tryd.func72, Tryd.ntmps72
          go_wp2_with fail
          go_quiet (fail)
          go_wp2_with fail
          go_ret
          exact ⟨rfl, below_drewN ((Below.refl _ _).alloc (Nat.le_refl _) _) _⟩
        · have e3 : decide (12 < m) = false := by simpa using g3
          by_cases g4 : d < 1
          · clear hv
            go_enter Tryd.func72, Tryd.ntmps72
            go_wp2_with fail
            go_quiet (fail)
            go_wp2_with fail
            go_ret
            exact ⟨rfl, below_drewN ((Below.refl _ _).alloc (Nat.le_refl _) _) _⟩
          · have e4 : decide (d < 1) = false := by simpa using g4
            have g5 : Cal.len y m < d := by omega
            have hd := Cal.len_bd y m
            clear hv
            go_enter Tryd.func72, Tryd.ntmps72
            go_wp2_with fail
            go_quiet ((go_at_call 83; exact quiet_same (long_any _ _ _ (by omega))))
            go_wp2_with fail
            go_ret
            exact ⟨rfl, below_drewN ((Below.refl _ _).alloc (Nat.le_refl _) _) _⟩
end Go.Proofs.YthldlffkgafgaaaDoor
