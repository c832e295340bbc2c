/- The contracts of package when's DayOf and Weekday. -/
import Derived.Test.YthldlffkgafgaaaDoorDaysRef
namespace Go.Proofs.YthldlffkgafgaaaDoor
open Go.RowKit Go.Sort
theorem box3 (w : World) (a b c : Value) (t : TypeId) : ∃ W1, w.alloc (.cells #[a, b, c] t) = W1 ∧ W1.cell? ⟨w.heap.size, 0, none⟩ = some a ∧ W1.cell? ⟨w.heap.size, 1, none⟩ = some b ∧ W1.cell? ⟨w.heap.size, 2, none⟩ = some c ∧ w.heap.size < W1.heap.size ∧ Below w.heap.size w W1 :=
  ⟨_, rfl, by simp [World.cell?_alloc_at], by simp [World.cell?_alloc_at], by simp [World.cell?_alloc_at], by simp, (Below.refl _ _).alloc (Nat.le_refl _) _⟩
/-- Three cells of an old block, read in a later world. -/
theorem keep3 {W1 w1 : World} {b : Nat} {x y z : Value} (h : Below W1.heap.size W1 w1) (hb : b < W1.heap.size) (c0 : W1.cell? ⟨b, 0, none⟩ = some x) (c1 : W1.cell? ⟨b, 1, none⟩ = some y) (c2 : W1.cell? ⟨b, 2, none⟩ = some z) :
    w1.cell? ⟨b, 0, none⟩ = some x ∧ w1.cell? ⟨b, 1, none⟩ = some y ∧ w1.cell? ⟨b, 2, none⟩ = some z :=
  ⟨(h.cell (p := ⟨b, 0, none⟩) hb).trans c0, (h.cell (p := ⟨b, 1, none⟩) hb).trans c1, (h.cell (p := ⟨b, 2, none⟩) hb).trans c2⟩
theorem outs_no (n lo hi : Int) (w : World) (d : Nat) (os : Array Obj) (h1 : lo ≤ n) (h2 : n ≤ hi) : Calls Tryd.prog 34 #[.int .i64 n, .int .i64 lo, .int .i64 hi] (grow (redrawn w d) os) fun e w'' => e = .returned (.bool false) ∧ ∃ p : Regrown, w'' = grow (redrawn w p.d) p.os :=
  Calls.regrown_of ((outside_no _ _ _ _ h1 h2).mono (fun _ _ h => ⟨h.1, by rw [← h.2]; exact Below.refl _ _⟩))
theorem outs_yes (n lo hi : Int) (w : World) (d : Nat) (os : Array Obj) (h : n < lo ∨ hi < n) : Calls Tryd.prog 34 #[.int .i64 n, .int .i64 lo, .int .i64 hi] (grow (redrawn w d) os) fun e w'' => e = .returned (.bool true) ∧ ∃ p : Regrown, w'' = grow (redrawn w p.d) p.os :=
  Calls.regrown_of ((outside_yes _ _ _ _ h).mono (fun _ _ h => ⟨h.1, by rw [← h.2]; exact Below.refl _ _⟩))
theorem lengthOf_q (y m : Int) (w : World) (d : Nat) (os : Array Obj) (h0 : 0 ≤ y) (h1 : 1 ≤ m) (h2 : m ≤ 12) : Calls Tryd.prog 68 #[.int .i64 y, .int .i64 m] (grow (redrawn w d) os) fun e w'' => e = .returned (.int .i64 (Cal.len y m)) ∧ ∃ p : Regrown, w'' = grow (redrawn w p.d) p.os :=
  Calls.regrown_of (lengthOf_any _ _ _ h0 h1 h2)
theorem before_q (y : Int) (w : World) (d : Nat) (os : Array Obj) (h1 : 1 ≤ y) (h2 : y ≤ 1000000) : Calls Tryd.prog 67 #[.int .i64 y] (grow (redrawn w d) os) fun e w'' => e = .returned (.int .i64 (Cal.bef y)) ∧ ∃ p : Regrown, w'' = grow (redrawn w p.d) p.os :=
  Calls.regrown_of ((before_any _ _ h1 h2).mono (fun _ _ h => ⟨h.1, by rw [← h.2]; exact Below.refl _ _⟩))
set_option maxHeartbeats 1000000 in
theorem dayOf_yes (y m d : Int) (w : World) (h : Cal.vld y m d = true) :
    Calls Tryd.prog 32 #[.agg #[.int .i64 y, .int .i64 m, .int .i64 d]] w fun e w' => e = .returned (.tuple #[.int .i64 (Cal.num y m d), .int .i64 0]) ∧ Below w.heap.size w w' := by
  obtain ⟨h1, h2, h3, h4, h5, h6⟩ := (Cal.vld_iff y m d).1 h
  have hd := Cal.len_bd y m
  have hb := bef_bd y h1 (by omega)
  clear h
  obtain ⟨W1, hW1, c0, c1, c2, hz, hb1⟩ := box3 w (.int .i64 y) (.int .i64 m) (.int .i64 d) 56
  have HW1 := Lib.hid hW1; clear hW1
  go_enter Tryd.func32, Tryd.ntmps32
  go_wp2_with fail
  rw [HW1.out]
  have k0 := cell_regrown c0
  have k1 := cell_regrown c1
  have k2 := cell_regrown c2
  refine wp_region_quiet_below (by kernel_rfl) (by kernel_rfl) ?_
  repeat (go_big_quiet_step ((first | (go_at_call 34; exact outs_no _ _ _ _ _ _ (by omega) (by omega)) | (go_at_call 68; exact lengthOf_q _ _ _ _ _ (by omega) (by omega) (by omega)))))
  refine wpQuiet_nil ?_
  intro _ hw'
  obtain ⟨⟨dq, osq⟩, hw''⟩ := hw'
  subst hw''
  have hBw1 := below_regrown W1 dq osq
  generalize grow (redrawn W1 dq) osq = w1 at *
  clear dq osq
  clear k0 k1 k2
  obtain ⟨d0, d1, d2⟩ := keep3 hBw1 hz c0 c1 c2
  have hzw := hBw1.size
  go_wp2_with fail
  have k0 := cell_regrown d0
  have k1 := cell_regrown d1
  have k2 := cell_regrown d2
  refine wp_region_quiet_below (by kernel_rfl) (by kernel_rfl) ?_
  repeat (go_big_quiet_step ((go_at_call 67; exact before_q _ _ _ _ (by omega) (by omega))))
  refine wpQuiet_nil ?_
  intro _ hw'
  obtain ⟨⟨dq, osq⟩, hw''⟩ := hw'
  subst hw''
  have hBw2 := below_regrown w1 dq osq
  generalize grow (redrawn w1 dq) osq = w2 at *
  clear dq osq
  clear k0 k1 k2
  have hB2 := below_up hBw1 hBw2
  clear hBw1 hBw2 d0 d1 d2 hzw w1
  go_wp2_with fail
  go_loopw [4, 5] (fun n i wr => ∃ j : Int, 1 ≤ j ∧ j ≤ m ∧ i = .int .i64 j ∧ n = .int .i64 (Cal.bef y + d - 1 + Cal.cum y j) ∧ Below W1.heap.size W1 wr) (fun _ i _ => (m - intOf i).toNat)
  case atStart => exact ⟨1, by omega, by omega, rfl, by rw [Cal.cum_1]; simp, hB2⟩
  case round =>
    obtain ⟨j, hj1, hj2, rfl, rfl, hBr⟩ := hrel
    have hc := Cal.cum_bd y j hj1 (by omega)
    have hp := Cal.lp_01 y
    have hn := Cal.len_bd y j
    obtain ⟨d0, d1, d2⟩ := keep3 hBr hz c0 c1 c2
    by_cases hlt : j < m
    · go_wp2_with (go_at_call 68; refine (lengthOf_any _ _ _ (by omega) (by omega) (by omega)).mono ?_; rintro e w' ⟨rfl, hB3⟩)
      go_roundw
      case rel => exact ⟨j + 1, by omega, by omega, rfl, by rw [Cal.cum_succ y j hj1 (by omega)]; go_num, below_up hBr hB3⟩
      case measure => simp [intOf]; omega
    · obtain rfl : j = m := by omega
      go_wp2_with fail
      go_ret2
      exact ⟨ret_int2 (by unfold Cal.num; omega) rfl, below_up hb1 hBr⟩
set_option maxHeartbeats 1000000 in
theorem dayOf_no (y m d : Int) (w : World) (h : Cal.vld y m d = false) :
    Calls Tryd.prog 32 #[.agg #[.int .i64 y, .int .i64 m, .int .i64 d]] w fun e w' => e = .returned (.tuple #[.int .i64 0, .int .i64 1]) ∧ Below w.heap.size w w' := by
  have hv := vld_no y m d h
  have hd := Cal.len_bd y m
  clear h
  obtain ⟨W1, hW1, c0, c1, c2, hz, hb1⟩ := box3 w (.int .i64 y) (.int .i64 m) (.int .i64 d) 56
  have HW1 := Lib.hid hW1; clear hW1
  by_cases g0 : y < 1900 ∨ 2099 < y
  · clear hv
    go_enter Tryd.func32, Tryd.ntmps32
    go_wp2_with fail
    rw [HW1.out]
    have k0 := cell_regrown c0
    have k1 := cell_regrown c1
    have k2 := cell_regrown c2
    refine wp_region_quiet_below (by kernel_rfl) (by kernel_rfl) ?_
    repeat (go_big_quiet_step ((go_at_call 34; exact outs_yes _ _ _ _ _ _ (by omega))))
    refine wpQuiet_nil ?_
    intro _ hw'
    obtain ⟨⟨dq, osq⟩, hw''⟩ := hw'
    subst hw''
    have hBw1 := below_regrown W1 dq osq
    generalize grow (redrawn W1 dq) osq = w1 at *
    clear dq osq
    clear k0 k1 k2
    go_wp2_with fail
    go_ret2
    exact ⟨ret_int2 rfl rfl, below_up hb1 hBw1⟩
  · by_cases g1 : m < 1 ∨ 12 < m
    · clear hv
      go_enter Tryd.func32, Tryd.ntmps32
      go_wp2_with fail
      rw [HW1.out]
      have k0 := cell_regrown c0
      have k1 := cell_regrown c1
      have k2 := cell_regrown c2
      refine wp_region_quiet_below (by kernel_rfl) (by kernel_rfl) ?_
      repeat (go_big_quiet_step ((first | (go_at_call 34; exact outs_no _ _ _ _ _ _ (by omega) (by omega)) | (go_at_call 34; exact outs_yes _ _ _ _ _ _ (by omega)))))
      refine wpQuiet_nil ?_
      intro _ hw'
      obtain ⟨⟨dq, osq⟩, hw''⟩ := hw'
      subst hw''
      have hBw1 := below_regrown W1 dq osq
      generalize grow (redrawn W1 dq) osq = w1 at *
      clear dq osq
      clear k0 k1 k2
      go_wp2_with fail
      go_ret2
      exact ⟨ret_int2 rfl rfl, below_up hb1 hBw1⟩
    · have g2 : d < 1 ∨ Cal.len y m < d := by omega
      clear hv
      go_enter Tryd.func32, Tryd.ntmps32
      go_wp2_with fail
      rw [HW1.out]
      have k0 := cell_regrown c0
      have k1 := cell_regrown c1
      have k2 := cell_regrown c2
      refine wp_region_quiet_below (by kernel_rfl) (by kernel_rfl) ?_
      repeat (go_big_quiet_step ((first | (go_at_call 68; exact lengthOf_q _ _ _ _ _ (by omega) (by omega) (by omega)) | (go_at_call 34; exact outs_no _ _ _ _ _ _ (by omega) (by omega)) | (go_at_call 34; exact outs_yes _ _ _ _ _ _ (by omega)))))
      refine wpQuiet_nil ?_
      intro _ hw'
      obtain ⟨⟨dq, osq⟩, hw''⟩ := hw'
      subst hw''
      have hBw1 := below_regrown W1 dq osq
      generalize grow (redrawn W1 dq) osq = w1 at *
      clear dq osq
      clear k0 k1 k2
      go_wp2_with fail
      go_ret2
      exact ⟨ret_int2 rfl rfl, below_up hb1 hBw1⟩
end Go.Proofs.YthldlffkgafgaaaDoor
