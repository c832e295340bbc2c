/- Parts of the proof, no condition: HdFor. -/
import Derived.Test.YtimjmjmpaicdbaaGreatDoorPk9
import Derived.Test.YtimjmjmpaicdbaaGreatDoorPk11
set_option maxRecDepth 100000
set_option maxHeartbeats 8000000
set_option linter.unusedVariables false
namespace Go.Proofs.YtimjmjmpaicdbaaGreatDoor
open Go.RowKit Go.Sort Go.Shelf
theorem hdFar_is (a o a' o' : Int) (w : World) : Calls Tryz.prog 148 #[.agg #[.int .i64 a, .int .i64 o], .agg #[.int .i64 a', .int .i64 o']] w fun r w' => r = .returned (.int .i64 (Hd.dist a o a' o')) ∧ Below w.heap.size w w' := by
 obtain ⟨e0, h⟩ := Hd.dist_is a o a' o'
 obtain ⟨W1, hW1, hP1, hz1, hB1⟩ := box w #[.int .i64 a, .int .i64 o] 112
 obtain ⟨W2, hW2, hP2, hz2, hB2⟩ := box W1 #[.int .i64 a', .int .i64 o'] 112
 have HW1 := Lib.hid hW1; have HW2 := Lib.hid hW2
 rw [hz1] at hP2
 obtain ⟨p0, p1⟩ := (hP1.keep hB2).two
 obtain ⟨r0, r1⟩ := hP2.two
 have hB := below_up hB1 hB2
 have HD := Lib.hid h
 generalize Hd.dist a o a' o' = d at *
 clear hW1 hW2 hz1 hz2 h
 go_enter Tryz.func148, Tryz.ntmps148
 go_upto_region 1 with fail
 rw [HW1.out, HW2.out]
 go_wp2_with (go_at_call 137; (with_reducible refine (HD.out _).mono ?_); rintro e w4 ⟨rfl, hB4⟩)
 go_ret
 exact ⟨rfl, below_up hB hB4⟩
theorem inside_is (a o a0 o0 a1 o1 : Int) (w : World) : Calls Tryz.prog 149 #[.agg #[.int .i64 a, .int .i64 o], .agg #[.int .i64 a0, .int .i64 o0], .agg #[.int .i64 a1, .int .i64 o1]] w fun e w' => e = .returned (.bool (Hd.box a o a0 o0 a1 o1)) ∧ Below w.heap.size w w' := by
 obtain ⟨W1, hW1, hP1, hz1, hB1⟩ := box w #[.int .i64 a, .int .i64 o] 112
 obtain ⟨W2, hW2, hP2, hz2, hB2⟩ := box W1 #[.int .i64 a0, .int .i64 o0] 112
 obtain ⟨W3, hW3, hP3, hz3, hB3⟩ := box W2 #[.int .i64 a1, .int .i64 o1] 112
 have HW1 := Lib.hid hW1; have HW2 := Lib.hid hW2; have HW3 := Lib.hid hW3
 rw [hz1] at hP2 hz2
 rw [hz2] at hP3
 have hB23 := below_up hB2 hB3
 have hB := below_up hB1 hB23
 obtain ⟨p0, p1⟩ := (hP1.keep hB23).two
 obtain ⟨r0, r1⟩ := (hP2.keep hB3).two
 obtain ⟨s0, s1⟩ := hP3.two
 clear hW1 hW2 hW3 hz1 hz2 hz3
 unfold Hd.box
 by_cases h1 : a < a0
 ·rw [if_neg (by omega)]
  go_enter Tryz.func149, Tryz.ntmps149
  go_upto_region 1 with fail
  rw [HW1.out, HW2.out, HW3.out]
  go_wp2_with fail
  go_ret
  exact ⟨ret_bool (by simp <;> omega), hB⟩
 by_cases h2 : a1 < a
 ·rw [if_neg (by omega)]
  go_enter Tryz.func149, Tryz.ntmps149
  go_upto_region 1 with fail
  rw [HW1.out, HW2.out, HW3.out]
  go_wp2_with fail
  go_ret
  exact ⟨ret_bool (by simp <;> omega), hB⟩
 rw [if_pos (by omega)]
 by_cases h3 : o0 ≤ o1
 ·rw [if_pos h3]
  by_cases h4 : o0 ≤ o
  ·go_enter Tryz.func149, Tryz.ntmps149
   go_upto_region 1 with fail
   rw [HW1.out, HW2.out, HW3.out]
   go_wp2_with fail
   go_ret
   exact ⟨ret_bool (by simp <;> omega), hB⟩
  ·go_enter Tryz.func149, Tryz.ntmps149
   go_upto_region 1 with fail
   rw [HW1.out, HW2.out, HW3.out]
   go_wp2_with fail
   go_ret
   exact ⟨ret_bool (by simp <;> omega), hB⟩
 ·rw [if_neg h3]
  by_cases h4 : o0 ≤ o
  ·go_enter Tryz.func149, Tryz.ntmps149
   go_upto_region 1 with fail
   rw [HW1.out, HW2.out, HW3.out]
   go_wp2_with fail
   go_ret
   exact ⟨ret_bool (by simp <;> omega), hB⟩
  ·go_enter Tryz.func149, Tryz.ntmps149
   go_upto_region 1 with fail
   rw [HW1.out, HW2.out, HW3.out]
   go_wp2_with fail
   go_ret
   exact ⟨ret_bool (by simp <;> omega), hB⟩

theorem for_4 (p : Ph) (hR : p.Right) (ka : Option Addr) (kn kc : Nat) (text : ByteArray) (lo hi : Int) (aa : Option Addr) (an ac : Nat) (lat lon : Nat → Int) (w : World) (hI : p.In w) : Calls Tryz.prog 92 #[.agg #[.int .i64 p.id, .string p.file, .int .i64 p.mom, .int .i64 p.zone, .slice p.wa p.wn p.wc, .int .i64 p.W, .int .i64 p.H, .int .i64 p.turn, .int .i64 p.stars, .slice p.ta p.tn p.tc, .string p.cap, .slice p.pa p.pn p.pc, .bool p.hid], .agg #[.int .i64 4, .slice ka kn kc, .string text, .int .i64 lo, .int .i64 hi, .slice aa an ac]] w fun e w' => e = .returned (.bool (Hd.leaf p 4 text lo hi lat lon)) ∧ Below w.heap.size w w' := by
 have htn := hR.fits.tn; have hpn := hR.fits.pn; have hwn := hR.fits.wn
 rw [Hd.leaf4]
 obtain ⟨W1, hW1, hP, hz1, hB1⟩ := bxP w p
 obtain ⟨W2, hW2, hC, hz2, hB2⟩ := box W1 #[.int .i64 4, .slice ka kn kc, .string text, .int .i64 lo, .int .i64 hi, .slice aa an ac] 25
 have HW1 := Lib.hid hW1; have HW2 := Lib.hid hW2
 have hP := hP.keep hB2
 rw [hz1] at hC
 have hB := below_up hB1 hB2
 obtain ⟨q0, q1, q2, q3, q4, q5, q6, q7, q8, q9, q10, q11, q12⟩ := hP.photo
 have k5 := cell_regrown q5; have k6 := cell_regrown q6
 have HI2 := Lib.hid (hI.keep hB)
 clear hW1 hW2 hz1 hz2 hI
 go_enter Tryz.func92, Tryz.ntmps92
 go_upto_region 1 with fail
 rw [HW1.out, HW2.out]
 refine wp_region_quiet_below (by kernel_rfl) (by kernel_rfl) ?_
 repeat (go_big_quiet_step (fail))
 refine wpQuiet_nil ?_
 intro _ hw'
 obtain ⟨⟨dq, osq⟩, hw''⟩ := hw'
 subst hw''
 have hBx3 := below_regrown W2 dq osq
 generalize grow (redrawn W2 dq) osq = x3 at *
 clear dq osq
 clear k5 k6 q0 q1 q2 q3 q4 q5 q6 q7 q8 q9 q10 q11 q12
 have hP := hP.keep hBx3
 have hC := hC.keep hBx3
 have hI := HI2.out.keep hBx3
 have hB := below_up hB hBx3
 obtain ⟨q0, q1, q2, q3, q4, q5, q6, q7, q8, q9, q10, q11, q12⟩ := hP.photo
 obtain ⟨l0, l1, l2, l3, l4, l5⟩ := hC.six
 skip
 by_cases ht : 4 < p.turn
 ·go_wp2_with (go_at_call 145; (with_reducible refine (hdContS p.ta p.tn p.tc p.tag text _ hI.tags htn).mono ?_); rintro e w4 ⟨rfl, rfl⟩)
  go_ret
  exact ⟨rfl, hB⟩
 ·go_wp2_with (go_at_call 145; (with_reducible refine (hdContS p.ta p.tn p.tc p.tag text _ hI.tags htn).mono ?_); rintro e w4 ⟨rfl, rfl⟩)
  go_ret
  exact ⟨rfl, hB⟩

theorem for_6 (p : Ph) (hR : p.Right) (ka : Option Addr) (kn kc : Nat) (text : ByteArray) (lo hi : Int) (aa : Option Addr) (an ac : Nat) (lat lon : Nat → Int) (w : World) (hI : p.In w) : Calls Tryz.prog 92 #[.agg #[.int .i64 p.id, .string p.file, .int .i64 p.mom, .int .i64 p.zone, .slice p.wa p.wn p.wc, .int .i64 p.W, .int .i64 p.H, .int .i64 p.turn, .int .i64 p.stars, .slice p.ta p.tn p.tc, .string p.cap, .slice p.pa p.pn p.pc, .bool p.hid], .agg #[.int .i64 6, .slice ka kn kc, .string text, .int .i64 lo, .int .i64 hi, .slice aa an ac]] w fun e w' => e = .returned (.bool (Hd.leaf p 6 text lo hi lat lon)) ∧ Below w.heap.size w w' := by
 have htn := hR.fits.tn; have hpn := hR.fits.pn; have hwn := hR.fits.wn
 rw [Hd.leaf6]
 obtain ⟨W1, hW1, hP, hz1, hB1⟩ := bxP w p
 obtain ⟨W2, hW2, hC, hz2, hB2⟩ := box W1 #[.int .i64 6, .slice ka kn kc, .string text, .int .i64 lo, .int .i64 hi, .slice aa an ac] 25
 have HW1 := Lib.hid hW1; have HW2 := Lib.hid hW2
 have hP := hP.keep hB2
 rw [hz1] at hC
 have hB := below_up hB1 hB2
 obtain ⟨q0, q1, q2, q3, q4, q5, q6, q7, q8, q9, q10, q11, q12⟩ := hP.photo
 have k5 := cell_regrown q5; have k6 := cell_regrown q6
 have HI2 := Lib.hid (hI.keep hB)
 clear hW1 hW2 hz1 hz2 hI
 go_enter Tryz.func92, Tryz.ntmps92
 go_upto_region 1 with fail
 rw [HW1.out, HW2.out]
 refine wp_region_quiet_below (by kernel_rfl) (by kernel_rfl) ?_
 repeat (go_big_quiet_step (fail))
 refine wpQuiet_nil ?_
 intro _ hw'
 obtain ⟨⟨dq, osq⟩, hw''⟩ := hw'
 subst hw''
 have hBx3 := below_regrown W2 dq osq
 generalize grow (redrawn W2 dq) osq = x3 at *
 clear dq osq
 clear k5 k6 q0 q1 q2 q3 q4 q5 q6 q7 q8 q9 q10 q11 q12
 have hP := hP.keep hBx3
 have hC := hC.keep hBx3
 have hI := HI2.out.keep hBx3
 have hB := below_up hB hBx3
 obtain ⟨q0, q1, q2, q3, q4, q5, q6, q7, q8, q9, q10, q11, q12⟩ := hP.photo
 obtain ⟨l0, l1, l2, l3, l4, l5⟩ := hC.six
 skip
 by_cases ht : 4 < p.turn
 ·go_wp2_with (go_at_call 147; (with_reducible refine (hdContI p.pa p.pn p.pc p.who lo _ hI.people hpn).mono ?_); rintro e w4 ⟨rfl, rfl⟩)
  go_ret
  exact ⟨rfl, hB⟩
 ·go_wp2_with (go_at_call 147; (with_reducible refine (hdContI p.pa p.pn p.pc p.who lo _ hI.people hpn).mono ?_); rintro e w4 ⟨rfl, rfl⟩)
  go_ret
  exact ⟨rfl, hB⟩

theorem for_7 (p : Ph) (hR : p.Right) (ka : Option Addr) (kn kc : Nat) (text : ByteArray) (lo hi : Int) (aa : Option Addr) (an ac : Nat) (lat lon : Nat → Int) (w : World) (hI : p.In w) : Calls Tryz.prog 92 #[.agg #[.int .i64 p.id, .string p.file, .int .i64 p.mom, .int .i64 p.zone, .slice p.wa p.wn p.wc, .int .i64 p.W, .int .i64 p.H, .int .i64 p.turn, .int .i64 p.stars, .slice p.ta p.tn p.tc, .string p.cap, .slice p.pa p.pn p.pc, .bool p.hid], .agg #[.int .i64 7, .slice ka kn kc, .string text, .int .i64 lo, .int .i64 hi, .slice aa an ac]] w fun e w' => e = .returned (.bool (Hd.leaf p 7 text lo hi lat lon)) ∧ Below w.heap.size w w' := by
 have htn := hR.fits.tn; have hpn := hR.fits.pn; have hwn := hR.fits.wn
 rw [Hd.leaf7]
 obtain ⟨W1, hW1, hP, hz1, hB1⟩ := bxP w p
 obtain ⟨W2, hW2, hC, hz2, hB2⟩ := box W1 #[.int .i64 7, .slice ka kn kc, .string text, .int .i64 lo, .int .i64 hi, .slice aa an ac] 25
 have HW1 := Lib.hid hW1; have HW2 := Lib.hid hW2
 have hP := hP.keep hB2
 rw [hz1] at hC
 have hB := below_up hB1 hB2
 obtain ⟨q0, q1, q2, q3, q4, q5, q6, q7, q8, q9, q10, q11, q12⟩ := hP.photo
 have k5 := cell_regrown q5; have k6 := cell_regrown q6
 have HI2 := Lib.hid (hI.keep hB)
 clear hW1 hW2 hz1 hz2 hI
 go_enter Tryz.func92, Tryz.ntmps92
 go_upto_region 1 with fail
 rw [HW1.out, HW2.out]
 refine wp_region_quiet_below (by kernel_rfl) (by kernel_rfl) ?_
 repeat (go_big_quiet_step (fail))
 refine wpQuiet_nil ?_
 intro _ hw'
 obtain ⟨⟨dq, osq⟩, hw''⟩ := hw'
 subst hw''
 have hBx3 := below_regrown W2 dq osq
 generalize grow (redrawn W2 dq) osq = x3 at *
 clear dq osq
 clear k5 k6 q0 q1 q2 q3 q4 q5 q6 q7 q8 q9 q10 q11 q12
 have hP := hP.keep hBx3
 have hC := hC.keep hBx3
 have hI := HI2.out.keep hBx3
 have hB := below_up hB hBx3
 obtain ⟨q0, q1, q2, q3, q4, q5, q6, q7, q8, q9, q10, q11, q12⟩ := hP.photo
 obtain ⟨l0, l1, l2, l3, l4, l5⟩ := hC.six
 have HIN := Lib.hid (fun W => in_is p.stars lo hi _ rfl W)
 by_cases ht : 4 < p.turn
 ·go_wp2_with (go_at_call 31; (with_reducible refine (HIN.out _).mono ?_); rintro e w4 ⟨rfl, rfl⟩)
  go_ret
  exact ⟨ret_bool (by simp), hB⟩
 ·go_wp2_with (go_at_call 31; (with_reducible refine (HIN.out _).mono ?_); rintro e w4 ⟨rfl, rfl⟩)
  go_ret
  exact ⟨ret_bool (by simp), hB⟩

theorem for_9 (p : Ph) (hR : p.Right) (ka : Option Addr) (kn kc : Nat) (text : ByteArray) (lo hi : Int) (aa : Option Addr) (an ac : Nat) (lat lon : Nat → Int) (w : World) (hI : p.In w) : Calls Tryz.prog 92 #[.agg #[.int .i64 p.id, .string p.file, .int .i64 p.mom, .int .i64 p.zone, .slice p.wa p.wn p.wc, .int .i64 p.W, .int .i64 p.H, .int .i64 p.turn, .int .i64 p.stars, .slice p.ta p.tn p.tc, .string p.cap, .slice p.pa p.pn p.pc, .bool p.hid], .agg #[.int .i64 9, .slice ka kn kc, .string text, .int .i64 lo, .int .i64 hi, .slice aa an ac]] w fun e w' => e = .returned (.bool (Hd.leaf p 9 text lo hi lat lon)) ∧ Below w.heap.size w w' := by
 have htn := hR.fits.tn; have hpn := hR.fits.pn; have hwn := hR.fits.wn
 rw [Hd.leaf9]
 obtain ⟨W1, hW1, hP, hz1, hB1⟩ := bxP w p
 obtain ⟨W2, hW2, hC, hz2, hB2⟩ := box W1 #[.int .i64 9, .slice ka kn kc, .string text, .int .i64 lo, .int .i64 hi, .slice aa an ac] 25
 have HW1 := Lib.hid hW1; have HW2 := Lib.hid hW2
 have hP := hP.keep hB2
 rw [hz1] at hC
 have hB := below_up hB1 hB2
 obtain ⟨q0, q1, q2, q3, q4, q5, q6, q7, q8, q9, q10, q11, q12⟩ := hP.photo
 have k5 := cell_regrown q5; have k6 := cell_regrown q6
 have HI2 := Lib.hid (hI.keep hB)
 clear hW1 hW2 hz1 hz2 hI
 go_enter Tryz.func92, Tryz.ntmps92
 go_upto_region 1 with fail
 rw [HW1.out, HW2.out]
 refine wp_region_quiet_below (by kernel_rfl) (by kernel_rfl) ?_
 repeat (go_big_quiet_step (fail))
 refine wpQuiet_nil ?_
 intro _ hw'
 obtain ⟨⟨dq, osq⟩, hw''⟩ := hw'
 subst hw''
 have hBx3 := below_regrown W2 dq osq
 generalize grow (redrawn W2 dq) osq = x3 at *
 clear dq osq
 clear k5 k6 q0 q1 q2 q3 q4 q5 q6 q7 q8 q9 q10 q11 q12
 have hP := hP.keep hBx3
 have hC := hC.keep hBx3
 have hI := HI2.out.keep hBx3
 have hB := below_up hB hBx3
 obtain ⟨q0, q1, q2, q3, q4, q5, q6, q7, q8, q9, q10, q11, q12⟩ := hP.photo
 obtain ⟨l0, l1, l2, l3, l4, l5⟩ := hC.six
 skip
 by_cases ht : 4 < p.turn
 ·go_wp2_with fail
  go_ret
  exact ⟨ret_bool (by unfold Hd.tall; first | (rw [if_pos (by omega)]; simp <;> omega) | (rw [if_neg (by omega)]; simp <;> omega)), hB⟩
 ·go_wp2_with fail
  go_ret
  exact ⟨ret_bool (by unfold Hd.tall; first | (rw [if_pos (by omega)]; simp <;> omega) | (rw [if_neg (by omega)]; simp <;> omega)), hB⟩

theorem for_10 (p : Ph) (hR : p.Right) (ka : Option Addr) (kn kc : Nat) (text : ByteArray) (lo hi : Int) (aa : Option Addr) (an ac : Nat) (lat lon : Nat → Int) (w : World) (hI : p.In w) : Calls Tryz.prog 92 #[.agg #[.int .i64 p.id, .string p.file, .int .i64 p.mom, .int .i64 p.zone, .slice p.wa p.wn p.wc, .int .i64 p.W, .int .i64 p.H, .int .i64 p.turn, .int .i64 p.stars, .slice p.ta p.tn p.tc, .string p.cap, .slice p.pa p.pn p.pc, .bool p.hid], .agg #[.int .i64 10, .slice ka kn kc, .string text, .int .i64 lo, .int .i64 hi, .slice aa an ac]] w fun e w' => e = .returned (.bool (Hd.leaf p 10 text lo hi lat lon)) ∧ Below w.heap.size w w' := by
 have htn := hR.fits.tn; have hpn := hR.fits.pn; have hwn := hR.fits.wn
 rw [Hd.leaf10]
 obtain ⟨W1, hW1, hP, hz1, hB1⟩ := bxP w p
 obtain ⟨W2, hW2, hC, hz2, hB2⟩ := box W1 #[.int .i64 10, .slice ka kn kc, .string text, .int .i64 lo, .int .i64 hi, .slice aa an ac] 25
 have HW1 := Lib.hid hW1; have HW2 := Lib.hid hW2
 have hP := hP.keep hB2
 rw [hz1] at hC
 have hB := below_up hB1 hB2
 obtain ⟨q0, q1, q2, q3, q4, q5, q6, q7, q8, q9, q10, q11, q12⟩ := hP.photo
 have k5 := cell_regrown q5; have k6 := cell_regrown q6
 have HI2 := Lib.hid (hI.keep hB)
 clear hW1 hW2 hz1 hz2 hI
 go_enter Tryz.func92, Tryz.ntmps92
 go_upto_region 1 with fail
 rw [HW1.out, HW2.out]
 refine wp_region_quiet_below (by kernel_rfl) (by kernel_rfl) ?_
 repeat (go_big_quiet_step (fail))
 refine wpQuiet_nil ?_
 intro _ hw'
 obtain ⟨⟨dq, osq⟩, hw''⟩ := hw'
 subst hw''
 have hBx3 := below_regrown W2 dq osq
 generalize grow (redrawn W2 dq) osq = x3 at *
 clear dq osq
 clear k5 k6 q0 q1 q2 q3 q4 q5 q6 q7 q8 q9 q10 q11 q12
 have hP := hP.keep hBx3
 have hC := hC.keep hBx3
 have hI := HI2.out.keep hBx3
 have hB := below_up hB hBx3
 obtain ⟨q0, q1, q2, q3, q4, q5, q6, q7, q8, q9, q10, q11, q12⟩ := hP.photo
 obtain ⟨l0, l1, l2, l3, l4, l5⟩ := hC.six
 skip
 by_cases ht : 4 < p.turn
 ·go_wp2_with fail
  go_ret
  exact ⟨ret_bool (by unfold Hd.tall; first | (rw [if_pos (by omega)]; simp <;> omega) | (rw [if_neg (by omega)]; simp <;> omega)), hB⟩
 ·go_wp2_with fail
  go_ret
  exact ⟨ret_bool (by unfold Hd.tall; first | (rw [if_pos (by omega)]; simp <;> omega) | (rw [if_neg (by omega)]; simp <;> omega)), hB⟩

theorem for_11 (p : Ph) (hR : p.Right) (ka : Option Addr) (kn kc : Nat) (text : ByteArray) (lo hi : Int) (aa : Option Addr) (an ac : Nat) (lat lon : Nat → Int) (w : World) (hI : p.In w) : Calls Tryz.prog 92 #[.agg #[.int .i64 p.id, .string p.file, .int .i64 p.mom, .int .i64 p.zone, .slice p.wa p.wn p.wc, .int .i64 p.W, .int .i64 p.H, .int .i64 p.turn, .int .i64 p.stars, .slice p.ta p.tn p.tc, .string p.cap, .slice p.pa p.pn p.pc, .bool p.hid], .agg #[.int .i64 11, .slice ka kn kc, .string text, .int .i64 lo, .int .i64 hi, .slice aa an ac]] w fun e w' => e = .returned (.bool (Hd.leaf p 11 text lo hi lat lon)) ∧ Below w.heap.size w w' := by
 have htn := hR.fits.tn; have hpn := hR.fits.pn; have hwn := hR.fits.wn
 rw [Hd.leaf11]
 obtain ⟨W1, hW1, hP, hz1, hB1⟩ := bxP w p
 obtain ⟨W2, hW2, hC, hz2, hB2⟩ := box W1 #[.int .i64 11, .slice ka kn kc, .string text, .int .i64 lo, .int .i64 hi, .slice aa an ac] 25
 have HW1 := Lib.hid hW1; have HW2 := Lib.hid hW2
 have hP := hP.keep hB2
 rw [hz1] at hC
 have hB := below_up hB1 hB2
 obtain ⟨q0, q1, q2, q3, q4, q5, q6, q7, q8, q9, q10, q11, q12⟩ := hP.photo
 have k5 := cell_regrown q5; have k6 := cell_regrown q6
 have HI2 := Lib.hid (hI.keep hB)
 clear hW1 hW2 hz1 hz2 hI
 go_enter Tryz.func92, Tryz.ntmps92
 go_upto_region 1 with fail
 rw [HW1.out, HW2.out]
 refine wp_region_quiet_below (by kernel_rfl) (by kernel_rfl) ?_
 repeat (go_big_quiet_step (fail))
 refine wpQuiet_nil ?_
 intro _ hw'
 obtain ⟨⟨dq, osq⟩, hw''⟩ := hw'
 subst hw''
 have hBx3 := below_regrown W2 dq osq
 generalize grow (redrawn W2 dq) osq = x3 at *
 clear dq osq
 clear k5 k6 q0 q1 q2 q3 q4 q5 q6 q7 q8 q9 q10 q11 q12
 have hP := hP.keep hBx3
 have hC := hC.keep hBx3
 have hI := HI2.out.keep hBx3
 have hB := below_up hB hBx3
 obtain ⟨q0, q1, q2, q3, q4, q5, q6, q7, q8, q9, q10, q11, q12⟩ := hP.photo
 obtain ⟨l0, l1, l2, l3, l4, l5⟩ := hC.six
 skip
 by_cases ht : 4 < p.turn
 ·go_wp2_with fail
  go_ret
  exact ⟨ret_bool (by unfold Hd.tall; first | (rw [if_pos (by omega), Bool.eq_iff_iff]; simp <;> omega) | (rw [if_neg (by omega), Bool.eq_iff_iff]; simp <;> omega)), hB⟩
 ·go_wp2_with fail
  go_ret
  exact ⟨ret_bool (by unfold Hd.tall; first | (rw [if_pos (by omega), Bool.eq_iff_iff]; simp <;> omega) | (rw [if_neg (by omega), Bool.eq_iff_iff]; simp <;> omega)), hB⟩

theorem for_12 (p : Ph) (hR : p.Right) (ka : Option Addr) (kn kc : Nat) (text : ByteArray) (lo hi : Int) (aa : Option Addr) (an ac : Nat) (lat lon : Nat → Int) (w : World) (hI : p.In w) : Calls Tryz.prog 92 #[.agg #[.int .i64 p.id, .string p.file, .int .i64 p.mom, .int .i64 p.zone, .slice p.wa p.wn p.wc, .int .i64 p.W, .int .i64 p.H, .int .i64 p.turn, .int .i64 p.stars, .slice p.ta p.tn p.tc, .string p.cap, .slice p.pa p.pn p.pc, .bool p.hid], .agg #[.int .i64 12, .slice ka kn kc, .string text, .int .i64 lo, .int .i64 hi, .slice aa an ac]] w fun e w' => e = .returned (.bool (Hd.leaf p 12 text lo hi lat lon)) ∧ Below w.heap.size w w' := by
 have htn := hR.fits.tn; have hpn := hR.fits.pn; have hwn := hR.fits.wn
 rw [Hd.leaf12]
 obtain ⟨W1, hW1, hP, hz1, hB1⟩ := bxP w p
 obtain ⟨W2, hW2, hC, hz2, hB2⟩ := box W1 #[.int .i64 12, .slice ka kn kc, .string text, .int .i64 lo, .int .i64 hi, .slice aa an ac] 25
 have HW1 := Lib.hid hW1; have HW2 := Lib.hid hW2
 have hP := hP.keep hB2
 rw [hz1] at hC
 have hB := below_up hB1 hB2
 obtain ⟨q0, q1, q2, q3, q4, q5, q6, q7, q8, q9, q10, q11, q12⟩ := hP.photo
 have k5 := cell_regrown q5; have k6 := cell_regrown q6
 have HI2 := Lib.hid (hI.keep hB)
 clear hW1 hW2 hz1 hz2 hI
 go_enter Tryz.func92, Tryz.ntmps92
 go_upto_region 1 with fail
 rw [HW1.out, HW2.out]
 refine wp_region_quiet_below (by kernel_rfl) (by kernel_rfl) ?_
 repeat (go_big_quiet_step (fail))
 refine wpQuiet_nil ?_
 intro _ hw'
 obtain ⟨⟨dq, osq⟩, hw''⟩ := hw'
 subst hw''
 have hBx3 := below_regrown W2 dq osq
 generalize grow (redrawn W2 dq) osq = x3 at *
 clear dq osq
 clear k5 k6 q0 q1 q2 q3 q4 q5 q6 q7 q8 q9 q10 q11 q12
 have hP := hP.keep hBx3
 have hC := hC.keep hBx3
 have hI := HI2.out.keep hBx3
 have hB := below_up hB hBx3
 obtain ⟨q0, q1, q2, q3, q4, q5, q6, q7, q8, q9, q10, q11, q12⟩ := hP.photo
 obtain ⟨l0, l1, l2, l3, l4, l5⟩ := hC.six
 skip
 by_cases ht : 4 < p.turn
 ·go_wp2_with fail
  go_ret
  exact ⟨ret_bool (by first | rfl | simp [bne]), hB⟩
 ·go_wp2_with fail
  go_ret
  exact ⟨ret_bool (by first | rfl | simp [bne]), hB⟩

theorem for_13 (p : Ph) (hR : p.Right) (ka : Option Addr) (kn kc : Nat) (text : ByteArray) (lo hi : Int) (aa : Option Addr) (an ac : Nat) (lat lon : Nat → Int) (w : World) (hI : p.In w) : Calls Tryz.prog 92 #[.agg #[.int .i64 p.id, .string p.file, .int .i64 p.mom, .int .i64 p.zone, .slice p.wa p.wn p.wc, .int .i64 p.W, .int .i64 p.H, .int .i64 p.turn, .int .i64 p.stars, .slice p.ta p.tn p.tc, .string p.cap, .slice p.pa p.pn p.pc, .bool p.hid], .agg #[.int .i64 13, .slice ka kn kc, .string text, .int .i64 lo, .int .i64 hi, .slice aa an ac]] w fun e w' => e = .returned (.bool (Hd.leaf p 13 text lo hi lat lon)) ∧ Below w.heap.size w w' := by
 have htn := hR.fits.tn; have hpn := hR.fits.pn; have hwn := hR.fits.wn
 rw [Hd.leaf13]
 obtain ⟨W1, hW1, hP, hz1, hB1⟩ := bxP w p
 obtain ⟨W2, hW2, hC, hz2, hB2⟩ := box W1 #[.int .i64 13, .slice ka kn kc, .string text, .int .i64 lo, .int .i64 hi, .slice aa an ac] 25
 have HW1 := Lib.hid hW1; have HW2 := Lib.hid hW2
 have hP := hP.keep hB2
 rw [hz1] at hC
 have hB := below_up hB1 hB2
 obtain ⟨q0, q1, q2, q3, q4, q5, q6, q7, q8, q9, q10, q11, q12⟩ := hP.photo
 have k5 := cell_regrown q5; have k6 := cell_regrown q6
 have HI2 := Lib.hid (hI.keep hB)
 clear hW1 hW2 hz1 hz2 hI
 go_enter Tryz.func92, Tryz.ntmps92
 go_upto_region 1 with fail
 rw [HW1.out, HW2.out]
 refine wp_region_quiet_below (by kernel_rfl) (by kernel_rfl) ?_
 repeat (go_big_quiet_step (fail))
 refine wpQuiet_nil ?_
 intro _ hw'
 obtain ⟨⟨dq, osq⟩, hw''⟩ := hw'
 subst hw''
 have hBx3 := below_regrown W2 dq osq
 generalize grow (redrawn W2 dq) osq = x3 at *
 clear dq osq
 clear k5 k6 q0 q1 q2 q3 q4 q5 q6 q7 q8 q9 q10 q11 q12
 have hP := hP.keep hBx3
 have hC := hC.keep hBx3
 have hI := HI2.out.keep hBx3
 have hB := below_up hB hBx3
 obtain ⟨q0, q1, q2, q3, q4, q5, q6, q7, q8, q9, q10, q11, q12⟩ := hP.photo
 obtain ⟨l0, l1, l2, l3, l4, l5⟩ := hC.six
 skip
 by_cases ht : 4 < p.turn
 ·go_wp2_with fail
  go_ret
  exact ⟨ret_bool (by first | rfl | simp), hB⟩
 ·go_wp2_with fail
  go_ret
  exact ⟨ret_bool (by first | rfl | simp), hB⟩

theorem for_16 (p : Ph) (hR : p.Right) (ka : Option Addr) (kn kc : Nat) (text : ByteArray) (lo hi : Int) (aa : Option Addr) (an ac : Nat) (lat lon : Nat → Int) (w : World) (hI : p.In w) : Calls Tryz.prog 92 #[.agg #[.int .i64 p.id, .string p.file, .int .i64 p.mom, .int .i64 p.zone, .slice p.wa p.wn p.wc, .int .i64 p.W, .int .i64 p.H, .int .i64 p.turn, .int .i64 p.stars, .slice p.ta p.tn p.tc, .string p.cap, .slice p.pa p.pn p.pc, .bool p.hid], .agg #[.int .i64 16, .slice ka kn kc, .string text, .int .i64 lo, .int .i64 hi, .slice aa an ac]] w fun e w' => e = .returned (.bool (Hd.leaf p 16 text lo hi lat lon)) ∧ Below w.heap.size w w' := by
 have htn := hR.fits.tn; have hpn := hR.fits.pn; have hwn := hR.fits.wn
 rw [Hd.leaf16]
 obtain ⟨W1, hW1, hP, hz1, hB1⟩ := bxP w p
 obtain ⟨W2, hW2, hC, hz2, hB2⟩ := box W1 #[.int .i64 16, .slice ka kn kc, .string text, .int .i64 lo, .int .i64 hi, .slice aa an ac] 25
 have HW1 := Lib.hid hW1; have HW2 := Lib.hid hW2
 have hP := hP.keep hB2
 rw [hz1] at hC
 have hB := below_up hB1 hB2
 obtain ⟨q0, q1, q2, q3, q4, q5, q6, q7, q8, q9, q10, q11, q12⟩ := hP.photo
 have k5 := cell_regrown q5; have k6 := cell_regrown q6
 have HI2 := Lib.hid (hI.keep hB)
 clear hW1 hW2 hz1 hz2 hI
 go_enter Tryz.func92, Tryz.ntmps92
 go_upto_region 1 with fail
 rw [HW1.out, HW2.out]
 refine wp_region_quiet_below (by kernel_rfl) (by kernel_rfl) ?_
 repeat (go_big_quiet_step (fail))
 refine wpQuiet_nil ?_
 intro _ hw'
 obtain ⟨⟨dq, osq⟩, hw''⟩ := hw'
 subst hw''
 have hBx3 := below_regrown W2 dq osq
 generalize grow (redrawn W2 dq) osq = x3 at *
 clear dq osq
 clear k5 k6 q0 q1 q2 q3 q4 q5 q6 q7 q8 q9 q10 q11 q12
 have hP := hP.keep hBx3
 have hC := hC.keep hBx3
 have hI := HI2.out.keep hBx3
 have hB := below_up hB hBx3
 obtain ⟨q0, q1, q2, q3, q4, q5, q6, q7, q8, q9, q10, q11, q12⟩ := hP.photo
 obtain ⟨l0, l1, l2, l3, l4, l5⟩ := hC.six
 skip
 by_cases ht : 4 < p.turn
 ·go_wp2_with fail
  go_ret
  exact ⟨rfl, hB⟩
 ·go_wp2_with fail
  go_ret
  exact ⟨rfl, hB⟩
theorem calls_q {P : Program} {f : FuncId} {args : Array Value} {w : World} {b : Bool} {B : World → Prop} (h : ∀ q, b = q → Calls P f args w fun e w' => e = .returned (.bool q) ∧ B w') : Calls P f args w fun e w' => e = .returned (.bool b) ∧ B w' := h b rfl
theorem for_5 (p : Ph) (hR : p.Right) (ka : Option Addr) (kn kc : Nat) (text : ByteArray) (lo hi : Int) (aa : Option Addr) (an ac : Nat) (lat lon : Nat → Int) (w : World) (hI : p.In w) (hmx : MxL w) (ht5 : text.size ≤ 200) : Calls Tryz.prog 92 #[.agg #[.int .i64 p.id, .string p.file, .int .i64 p.mom, .int .i64 p.zone, .slice p.wa p.wn p.wc, .int .i64 p.W, .int .i64 p.H, .int .i64 p.turn, .int .i64 p.stars, .slice p.ta p.tn p.tc, .string p.cap, .slice p.pa p.pn p.pc, .bool p.hid], .agg #[.int .i64 5, .slice ka kn kc, .string text, .int .i64 lo, .int .i64 hi, .slice aa an ac]] w fun e w' => e = .returned (.bool (Hd.leaf p 5 text lo hi lat lon)) ∧ Below w.heap.size w w' := by
 have hcap := hR.cap
 rw [Hd.leaf5]
 obtain ⟨W1, hW1, hP, hz1, hB1⟩ := bxP w p
 obtain ⟨W2, hW2, hC, hz2, hB2⟩ := box W1 #[.int .i64 5, .slice ka kn kc, .string text, .int .i64 lo, .int .i64 hi, .slice aa an ac] 25
 have HW1 := Lib.hid hW1; have HW2 := Lib.hid hW2
 have hP := hP.keep hB2
 rw [hz1] at hC
 have hB := below_up hB1 hB2
 obtain ⟨q0, q1, q2, q3, q4, q5, q6, q7, q8, q9, q10, q11, q12⟩ := hP.photo
 have k5 := cell_regrown q5; have k6 := cell_regrown q6
 have HI2 := Lib.hid (hI.keep hB)
 clear hW1 hW2 hz1 hz2 hI
 go_enter Tryz.func92, Tryz.ntmps92
 go_upto_region 1 with fail
 rw [HW1.out, HW2.out]
 refine wp_region_quiet_below (by kernel_rfl) (by kernel_rfl) ?_
 repeat (go_big_quiet_step (fail))
 refine wpQuiet_nil ?_
 intro _ hw'
 obtain ⟨⟨dq, osq⟩, hw''⟩ := hw'
 subst hw''
 have hBx3 := below_regrown W2 dq osq
 generalize grow (redrawn W2 dq) osq = x3 at *
 clear dq osq
 clear k5 k6 q0 q1 q2 q3 q4 q5 q6 q7 q8 q9 q10 q11 q12
 have hP := hP.keep hBx3
 have hC := hC.keep hBx3
 have hI := HI2.out.keep hBx3
 have hB := below_up hB hBx3
 obtain ⟨q0, q1, q2, q3, q4, q5, q6, q7, q8, q9, q10, q11, q12⟩ := hP.photo
 obtain ⟨l0, l1, l2, l3, l4, l5⟩ := hC.six
 have hm3 := hmx.below hB
 have HC1 := Lib.hid (fun dd os => Calls.regrown_of (small_is p.cap hcap (grow (redrawn x3 dd) os)))
 have HC2 := Lib.hid (fun dd os => Calls.regrown_of (small_is text ht5 (grow (redrawn x3 dd) os)))
 have HC3 := Lib.hid (fun dd os => Calls.regrown_of (strContains_is (Hd.low p.cap) (Hd.low text) (by rw [Hd.low_size]; omega) (grow (redrawn x3 dd) os) (hm3.below (below_regrown x3 dd os))))
 have k10 := cell_regrown q10
 have m2 := cell_regrown l2
 by_cases ht : 4 < p.turn
 ·go_wp2_with fail
  refine wp_region_quiet_below (by kernel_rfl) (by kernel_rfl) ?_
  repeat (go_big_quiet_step ((first | (go_at_call 146; with_reducible exact HC1.out _ _) | (go_at_call 146; with_reducible exact HC2.out _ _) | (go_at_call 124; with_reducible exact HC3.out _ _))))
  refine wpQuiet_nil ?_
  intro _ hw'
  obtain ⟨⟨dq, osq⟩, hw''⟩ := hw'
  subst hw''
  have hBx4 := below_regrown x3 dq osq
  generalize grow (redrawn x3 dq) osq = x4 at *
  clear dq osq
  clear k10 m2
  go_wp2_with fail
  go_ret
  exact ⟨rfl, below_up hB hBx4⟩
 ·go_wp2_with fail
  refine wp_region_quiet_below (by kernel_rfl) (by kernel_rfl) ?_
  repeat (go_big_quiet_step ((first | (go_at_call 146; with_reducible exact HC1.out _ _) | (go_at_call 146; with_reducible exact HC2.out _ _) | (go_at_call 124; with_reducible exact HC3.out _ _))))
  refine wpQuiet_nil ?_
  intro _ hw'
  obtain ⟨⟨dq, osq⟩, hw''⟩ := hw'
  subst hw''
  have hBx4 := below_regrown x3 dq osq
  generalize grow (redrawn x3 dq) osq = x4 at *
  clear dq osq
  clear k10 m2
  go_wp2_with fail
  go_ret
  exact ⟨rfl, below_up hB hBx4⟩
theorem for_8 (p : Ph) (hR : p.Right) (ka : Option Addr) (kn kc : Nat) (text : ByteArray) (lo hi : Int) (aa : Option Addr) (an ac : Nat) (lat lon : Nat → Int) (w : World) (hI : p.In w) : Calls Tryz.prog 92 #[.agg #[.int .i64 p.id, .string p.file, .int .i64 p.mom, .int .i64 p.zone, .slice p.wa p.wn p.wc, .int .i64 p.W, .int .i64 p.H, .int .i64 p.turn, .int .i64 p.stars, .slice p.ta p.tn p.tc, .string p.cap, .slice p.pa p.pn p.pc, .bool p.hid], .agg #[.int .i64 8, .slice ka kn kc, .string text, .int .i64 lo, .int .i64 hi, .slice aa an ac]] w fun e w' => e = .returned (.bool (Hd.leaf p 8 text lo hi lat lon)) ∧ Below w.heap.size w w' := by
 obtain ⟨⟨t1, t2⟩, t3⟩ := hR.time
 rw [Hd.leaf8]
 obtain ⟨W1, hW1, hP, hz1, hB1⟩ := bxP w p
 obtain ⟨W2, hW2, hC, hz2, hB2⟩ := box W1 #[.int .i64 8, .slice ka kn kc, .string text, .int .i64 lo, .int .i64 hi, .slice aa an ac] 25
 have HW1 := Lib.hid hW1; have HW2 := Lib.hid hW2
 have hP := hP.keep hB2
 rw [hz1] at hC
 have hB := below_up hB1 hB2
 obtain ⟨q0, q1, q2, q3, q4, q5, q6, q7, q8, q9, q10, q11, q12⟩ := hP.photo
 have k5 := cell_regrown q5; have k6 := cell_regrown q6
 have HI2 := Lib.hid (hI.keep hB)
 clear hW1 hW2 hz1 hz2 hI
 go_enter Tryz.func92, Tryz.ntmps92
 go_upto_region 1 with fail
 rw [HW1.out, HW2.out]
 refine wp_region_quiet_below (by kernel_rfl) (by kernel_rfl) ?_
 repeat (go_big_quiet_step (fail))
 refine wpQuiet_nil ?_
 intro _ hw'
 obtain ⟨⟨dq, osq⟩, hw''⟩ := hw'
 subst hw''
 have hBx3 := below_regrown W2 dq osq
 generalize grow (redrawn W2 dq) osq = x3 at *
 clear dq osq
 clear k5 k6 q0 q1 q2 q3 q4 q5 q6 q7 q8 q9 q10 q11 q12
 have hP := hP.keep hBx3
 have hC := hC.keep hBx3
 have hI := HI2.out.keep hBx3
 have hB := below_up hB hBx3
 obtain ⟨q0, q1, q2, q3, q4, q5, q6, q7, q8, q9, q10, q11, q12⟩ := hP.photo
 obtain ⟨l0, l1, l2, l3, l4, l5⟩ := hC.six
 have e1 : IntKind.i64.wrap (60 * p.zone) = 60 * p.zone := by rw [IntKind.wrap_i64]; omega
 have e2 : IntKind.i64.wrap (p.mom + 60 * p.zone) = p.mom + 60 * p.zone := by rw [IntKind.wrap_i64]; omega
 have HIN := Lib.hid (fun W => in_is (p.mom + 60 * p.zone) lo hi _ rfl W)
 by_cases h0 : 0 ≤ p.mom
 ·by_cases ht : 4 < p.turn
  ·go_wp2_with (go_at_call 31; (with_reducible refine (HIN.out _).mono ?_); rintro e w4 ⟨rfl, rfl⟩)
   go_ret
   exact ⟨ret_bool (by simp <;> omega), hB⟩
  ·go_wp2_with (go_at_call 31; (with_reducible refine (HIN.out _).mono ?_); rintro e w4 ⟨rfl, rfl⟩)
   go_ret
   exact ⟨ret_bool (by simp <;> omega), hB⟩
 ·by_cases ht : 4 < p.turn
  ·go_wp2_with (go_at_call 31; (with_reducible refine (HIN.out _).mono ?_); rintro e w4 ⟨rfl, rfl⟩)
   go_ret
   exact ⟨ret_bool (by simp <;> omega), hB⟩
  ·go_wp2_with (go_at_call 31; (with_reducible refine (HIN.out _).mono ?_); rintro e w4 ⟨rfl, rfl⟩)
   go_ret
   exact ⟨ret_bool (by simp <;> omega), hB⟩

theorem for_14 (p : Ph) (hR : p.Right) (ka : Option Addr) (kn kc : Nat) (text : ByteArray) (lo hi : Int) (aa : Option Addr) (an ac : Nat) (lat lon : Nat → Int) (w : World) (hI : p.In w) (hr : Row2 w aa an (fun i => .int .i64 (lat i)) (fun i => .int .i64 (lon i))) (hn : an = 1) : Calls Tryz.prog 92 #[.agg #[.int .i64 p.id, .string p.file, .int .i64 p.mom, .int .i64 p.zone, .slice p.wa p.wn p.wc, .int .i64 p.W, .int .i64 p.H, .int .i64 p.turn, .int .i64 p.stars, .slice p.ta p.tn p.tc, .string p.cap, .slice p.pa p.pn p.pc, .bool p.hid], .agg #[.int .i64 14, .slice ka kn kc, .string text, .int .i64 lo, .int .i64 hi, .slice aa an ac]] w fun e w' => e = .returned (.bool (Hd.leaf p 14 text lo hi lat lon)) ∧ Below w.heap.size w w' := by
 rw [Hd.leaf14]
 have HR2 := Lib.hid hr
 have HN := Lib.hid hn
 clear hr hn
 refine calls_q (B := fun w' => Below w.heap.size w w') fun q hq => ?_
 have HQ := Lib.hid hq
 clear hq
 obtain ⟨W1, hW1, hP, hz1, hB1⟩ := bxP w p
 obtain ⟨W2, hW2, hC, hz2, hB2⟩ := box W1 #[.int .i64 14, .slice ka kn kc, .string text, .int .i64 lo, .int .i64 hi, .slice aa an ac] 25
 have HW1 := Lib.hid hW1; have HW2 := Lib.hid hW2
 have hP := hP.keep hB2
 rw [hz1] at hC
 have hB := below_up hB1 hB2
 obtain ⟨q0, q1, q2, q3, q4, q5, q6, q7, q8, q9, q10, q11, q12⟩ := hP.photo
 have k5 := cell_regrown q5; have k6 := cell_regrown q6
 have HI2 := Lib.hid (hI.keep hB)
 clear hW1 hW2 hz1 hz2 hI
 go_enter Tryz.func92, Tryz.ntmps92
 go_upto_region 1 with fail
 rw [HW1.out, HW2.out]
 refine wp_region_quiet_below (by kernel_rfl) (by kernel_rfl) ?_
 repeat (go_big_quiet_step (fail))
 refine wpQuiet_nil ?_
 intro _ hw'
 obtain ⟨⟨dq, osq⟩, hw''⟩ := hw'
 subst hw''
 have hBx3 := below_regrown W2 dq osq
 generalize grow (redrawn W2 dq) osq = x3 at *
 clear dq osq
 clear k5 k6 q0 q1 q2 q3 q4 q5 q6 q7 q8 q9 q10 q11 q12
 have hP := hP.keep hBx3
 have hC := hC.keep hBx3
 have hI := HI2.out.keep hBx3
 have hB := below_up hB hBx3
 obtain ⟨q0, q1, q2, q3, q4, q5, q6, q7, q8, q9, q10, q11, q12⟩ := hP.photo
 obtain ⟨l0, l1, l2, l3, l4, l5⟩ := hC.six
 obtain ⟨g, off, rfl, hg, hc⟩ := (HR2.out.keep hB) (by have := HN.out; omega)
 have z0 := (hc 0 (by have := HN.out; omega)).1; have z1 := (hc 0 (by have := HN.out; omega)).2
 have han0 : (0 : Int) < (an : Int) := by have := HN.out; omega
 simp only [Nat.zero_mul, Nat.add_zero] at z0 z1
 skip
 by_cases h0 : 0 < p.wn
 ·obtain ⟨b2, off2, hwa, hb2, hcc⟩ := hI.places h0
  have x0 := (hcc 0 h0).1; have x1 := (hcc 0 h0).2
  simp only [Nat.zero_mul, Nat.add_zero] at x0 x1
  have k4 := cell_regrown q4
  rw [hwa] at k4 q4
  have y0 := cell_regrown x0; have y1 := cell_regrown x1; have y2 := cell_regrown z0; have y3 := cell_regrown z1; have m5 := cell_regrown l5; have m3 := cell_regrown l3
  have e0 : decide (0 < p.wn) = true := by simpa using h0
  have HQ2 : Hid (decide (Hd.dist (p.lat 0) (p.lon 0) (lat 0) (lon 0) ≤ lo) = q) := Lib.hid (by have := HQ.out; rw [e0, Bool.true_and] at this; exact this)
  clear hcc hI hwa hc
  have HD := Lib.hid (fun dd os => Calls.regrown_of (hdFar_is (p.lat 0) (p.lon 0) (lat 0) (lon 0) (grow (redrawn x3 dd) os))); generalize Hd.dist (p.lat 0) (p.lon 0) (lat 0) (lon 0) = dst at *
  generalize p.lat 0 = a0 at *; generalize p.lon 0 = o0 at *; generalize lat 0 = a1 at *; generalize lon 0 = o1 at *
  generalize p.wn = wn at *
  have h1 : (0 : Int) < (wn : Int) := by omega
  by_cases ht : 4 < p.turn
  ·go_wp2_with fail
   refine wp_region_quiet_below (by kernel_rfl) (by kernel_rfl) ?_
   repeat (go_big_quiet_step ((go_at_call 148; with_reducible exact HD.out _ _)))
   refine wpQuiet_nil ?_
   intro _ hw'
   obtain ⟨⟨dq, osq⟩, hw''⟩ := hw'
   subst hw''
   have hBx4 := below_regrown x3 dq osq
   generalize grow (redrawn x3 dq) osq = x4 at *
   clear dq osq
   clear k4 y0 y1
   go_wp2_with fail
   go_ret
   exact ⟨ret_bool HQ2.out, below_up hB hBx4⟩
  ·go_wp2_with fail
   refine wp_region_quiet_below (by kernel_rfl) (by kernel_rfl) ?_
   repeat (go_big_quiet_step ((go_at_call 148; with_reducible exact HD.out _ _)))
   refine wpQuiet_nil ?_
   intro _ hw'
   obtain ⟨⟨dq, osq⟩, hw''⟩ := hw'
   subst hw''
   have hBx4 := below_regrown x3 dq osq
   generalize grow (redrawn x3 dq) osq = x4 at *
   clear dq osq
   clear k4 y0 y1
   go_wp2_with fail
   go_ret
   exact ⟨ret_bool HQ2.out, below_up hB hBx4⟩
 ·obtain ⟨wn, hwn⟩ : ∃ wn, p.wn = wn := ⟨_, rfl⟩
  have e0 : decide (0 < p.wn) = false := by simpa using h0
  have HQ2 : Hid (false = q) := Lib.hid (by have := HQ.out; rw [e0, Bool.false_and] at this; exact this)
  rw [hwn] at q4 h0
  obtain rfl : wn = 0 := by omega
  have k4 := cell_regrown q4
  clear hI hwn h0 e0 hc
  by_cases ht : 4 < p.turn
  ·go_wp2_with fail
   refine wp_region_quiet_below (by kernel_rfl) (by kernel_rfl) ?_
   repeat (go_big_quiet_step (fail))
   refine wpQuiet_nil ?_
   intro _ hw'
   obtain ⟨⟨dq, osq⟩, hw''⟩ := hw'
   subst hw''
   have hBx4 := below_regrown x3 dq osq
   generalize grow (redrawn x3 dq) osq = x4 at *
   clear dq osq
   clear k4
   go_wp2_with fail
   go_ret
   exact ⟨ret_bool HQ2.out, below_up hB hBx4⟩
  ·go_wp2_with fail
   refine wp_region_quiet_below (by kernel_rfl) (by kernel_rfl) ?_
   repeat (go_big_quiet_step (fail))
   refine wpQuiet_nil ?_
   intro _ hw'
   obtain ⟨⟨dq, osq⟩, hw''⟩ := hw'
   subst hw''
   have hBx4 := below_regrown x3 dq osq
   generalize grow (redrawn x3 dq) osq = x4 at *
   clear dq osq
   clear k4
   go_wp2_with fail
   go_ret
   exact ⟨ret_bool HQ2.out, below_up hB hBx4⟩

theorem for_15 (p : Ph) (hR : p.Right) (ka : Option Addr) (kn kc : Nat) (text : ByteArray) (lo hi : Int) (aa : Option Addr) (an ac : Nat) (lat lon : Nat → Int) (w : World) (hI : p.In w) (hr : Row2 w aa an (fun i => .int .i64 (lat i)) (fun i => .int .i64 (lon i))) (hn : an = 2) : Calls Tryz.prog 92 #[.agg #[.int .i64 p.id, .string p.file, .int .i64 p.mom, .int .i64 p.zone, .slice p.wa p.wn p.wc, .int .i64 p.W, .int .i64 p.H, .int .i64 p.turn, .int .i64 p.stars, .slice p.ta p.tn p.tc, .string p.cap, .slice p.pa p.pn p.pc, .bool p.hid], .agg #[.int .i64 15, .slice ka kn kc, .string text, .int .i64 lo, .int .i64 hi, .slice aa an ac]] w fun e w' => e = .returned (.bool (Hd.leaf p 15 text lo hi lat lon)) ∧ Below w.heap.size w w' := by
 rw [Hd.leaf15]
 have HR2 := Lib.hid hr
 have HN := Lib.hid hn
 clear hr hn
 refine calls_q (B := fun w' => Below w.heap.size w w') fun q hq => ?_
 have HQ := Lib.hid hq
 clear hq
 obtain ⟨W1, hW1, hP, hz1, hB1⟩ := bxP w p
 obtain ⟨W2, hW2, hC, hz2, hB2⟩ := box W1 #[.int .i64 15, .slice ka kn kc, .string text, .int .i64 lo, .int .i64 hi, .slice aa an ac] 25
 have HW1 := Lib.hid hW1; have HW2 := Lib.hid hW2
 have hP := hP.keep hB2
 rw [hz1] at hC
 have hB := below_up hB1 hB2
 obtain ⟨q0, q1, q2, q3, q4, q5, q6, q7, q8, q9, q10, q11, q12⟩ := hP.photo
 have k5 := cell_regrown q5; have k6 := cell_regrown q6
 have HI2 := Lib.hid (hI.keep hB)
 clear hW1 hW2 hz1 hz2 hI
 go_enter Tryz.func92, Tryz.ntmps92
 go_upto_region 1 with fail
 rw [HW1.out, HW2.out]
 refine wp_region_quiet_below (by kernel_rfl) (by kernel_rfl) ?_
 repeat (go_big_quiet_step (fail))
 refine wpQuiet_nil ?_
 intro _ hw'
 obtain ⟨⟨dq, osq⟩, hw''⟩ := hw'
 subst hw''
 have hBx3 := below_regrown W2 dq osq
 generalize grow (redrawn W2 dq) osq = x3 at *
 clear dq osq
 clear k5 k6 q0 q1 q2 q3 q4 q5 q6 q7 q8 q9 q10 q11 q12
 have hP := hP.keep hBx3
 have hC := hC.keep hBx3
 have hI := HI2.out.keep hBx3
 have hB := below_up hB hBx3
 obtain ⟨q0, q1, q2, q3, q4, q5, q6, q7, q8, q9, q10, q11, q12⟩ := hP.photo
 obtain ⟨l0, l1, l2, l3, l4, l5⟩ := hC.six
 obtain ⟨g, off, rfl, hg, hc⟩ := (HR2.out.keep hB) (by have := HN.out; omega)
 have z0 := (hc 0 (by have := HN.out; omega)).1; have z1 := (hc 0 (by have := HN.out; omega)).2
 have han0 : (0 : Int) < (an : Int) := by have := HN.out; omega
 simp only [Nat.zero_mul, Nat.add_zero] at z0 z1
 have z2 := (hc 1 (by have := HN.out; omega)).1; have z3 := (hc 1 (by have := HN.out; omega)).2; have han1 : (1 : Int) < (an : Int) := (by have := HN.out; omega); simp only [Nat.one_mul] at z2 z3
 by_cases h0 : 0 < p.wn
 ·obtain ⟨b2, off2, hwa, hb2, hcc⟩ := hI.places h0
  have x0 := (hcc 0 h0).1; have x1 := (hcc 0 h0).2
  simp only [Nat.zero_mul, Nat.add_zero] at x0 x1
  have k4 := cell_regrown q4
  rw [hwa] at k4 q4
  have y0 := cell_regrown x0; have y1 := cell_regrown x1; have y2 := cell_regrown z0; have y3 := cell_regrown z1; have m5 := cell_regrown l5; have m3 := cell_regrown l3
  have e0 : decide (0 < p.wn) = true := by simpa using h0
  have HQ2 : Hid (Hd.box (p.lat 0) (p.lon 0) (lat 0) (lon 0) (lat 1) (lon 1) = q) := Lib.hid (by have := HQ.out; rw [e0, Bool.true_and] at this; exact this)
  clear hcc hI hwa hc
  have HD := Lib.hid (fun dd os => Calls.regrown_of (inside_is (p.lat 0) (p.lon 0) (lat 0) (lon 0) (lat 1) (lon 1) (grow (redrawn x3 dd) os))); have y4 := cell_regrown z2; have y5 := cell_regrown z3; generalize Hd.box (p.lat 0) (p.lon 0) (lat 0) (lon 0) (lat 1) (lon 1) = dst at *; generalize lat 1 = a2 at *; generalize lon 1 = o2 at *
  generalize p.lat 0 = a0 at *; generalize p.lon 0 = o0 at *; generalize lat 0 = a1 at *; generalize lon 0 = o1 at *
  generalize p.wn = wn at *
  have h1 : (0 : Int) < (wn : Int) := by omega
  by_cases ht : 4 < p.turn
  ·go_wp2_with fail
   refine wp_region_quiet_below (by kernel_rfl) (by kernel_rfl) ?_
   repeat (go_big_quiet_step ((go_at_call 149; with_reducible exact HD.out _ _)))
   refine wpQuiet_nil ?_
   intro _ hw'
   obtain ⟨⟨dq, osq⟩, hw''⟩ := hw'
   subst hw''
   have hBx4 := below_regrown x3 dq osq
   generalize grow (redrawn x3 dq) osq = x4 at *
   clear dq osq
   clear k4 y0 y1
   go_wp2_with fail
   go_ret
   exact ⟨ret_bool HQ2.out, below_up hB hBx4⟩
  ·go_wp2_with fail
   refine wp_region_quiet_below (by kernel_rfl) (by kernel_rfl) ?_
   repeat (go_big_quiet_step ((go_at_call 149; with_reducible exact HD.out _ _)))
   refine wpQuiet_nil ?_
   intro _ hw'
   obtain ⟨⟨dq, osq⟩, hw''⟩ := hw'
   subst hw''
   have hBx4 := below_regrown x3 dq osq
   generalize grow (redrawn x3 dq) osq = x4 at *
   clear dq osq
   clear k4 y0 y1
   go_wp2_with fail
   go_ret
   exact ⟨ret_bool HQ2.out, below_up hB hBx4⟩
 ·obtain ⟨wn, hwn⟩ : ∃ wn, p.wn = wn := ⟨_, rfl⟩
  have e0 : decide (0 < p.wn) = false := by simpa using h0
  have HQ2 : Hid (false = q) := Lib.hid (by have := HQ.out; rw [e0, Bool.false_and] at this; exact this)
  rw [hwn] at q4 h0
  obtain rfl : wn = 0 := by omega
  have k4 := cell_regrown q4
  clear hI hwn h0 e0 hc
  by_cases ht : 4 < p.turn
  ·go_wp2_with fail
   refine wp_region_quiet_below (by kernel_rfl) (by kernel_rfl) ?_
   repeat (go_big_quiet_step (fail))
   refine wpQuiet_nil ?_
   intro _ hw'
   obtain ⟨⟨dq, osq⟩, hw''⟩ := hw'
   subst hw''
   have hBx4 := below_regrown x3 dq osq
   generalize grow (redrawn x3 dq) osq = x4 at *
   clear dq osq
   clear k4
   go_wp2_with fail
   go_ret
   exact ⟨ret_bool HQ2.out, below_up hB hBx4⟩
  ·go_wp2_with fail
   refine wp_region_quiet_below (by kernel_rfl) (by kernel_rfl) ?_
   repeat (go_big_quiet_step (fail))
   refine wpQuiet_nil ?_
   intro _ hw'
   obtain ⟨⟨dq, osq⟩, hw''⟩ := hw'
   subst hw''
   have hBx4 := below_regrown x3 dq osq
   generalize grow (redrawn x3 dq) osq = x4 at *
   clear dq osq
   clear k4
   go_wp2_with fail
   go_ret
   exact ⟨ret_bool HQ2.out, below_up hB hBx4⟩
theorem for_leaf (c : Cnd) (hg : c.Good) (h4 : 4 ≤ c.op) (p : Ph) (hR : p.Right) (w : World) (hI : p.In w) (hc : c.In w) (hmx : MxL w) : Calls Tryz.prog 92 #[.agg #[.int .i64 p.id, .string p.file, .int .i64 p.mom, .int .i64 p.zone, .slice p.wa p.wn p.wc, .int .i64 p.W, .int .i64 p.H, .int .i64 p.turn, .int .i64 p.stars, .slice p.ta p.tn p.tc, .string p.cap, .slice p.pa p.pn p.pc, .bool p.hid], .agg #[.int .i64 c.op, .slice c.ka c.kn c.kc, .string c.text, .int .i64 c.low, .int .i64 c.high, .slice c.aa c.an c.ac]] w fun e w' => e = .returned (.bool (Hd.leaf p c.op c.text c.low c.high c.lat c.lon)) ∧ Below w.heap.size w w' := by
 have hop := hg.op
 have h1 := hg.at1; have h2 := hg.at2; have h3 := hg.says; have hr := hc.row
 generalize c.op = k at *
 have : k = 4 ∨ k = 5 ∨ k = 6 ∨ k = 7 ∨ k = 8 ∨ k = 9 ∨ k = 10 ∨ k = 11 ∨ k = 12 ∨ k = 13 ∨ k = 14 ∨ k = 15 ∨ k = 16 := by omega
 rcases this with rfl | rfl | rfl | rfl | rfl | rfl | rfl | rfl | rfl | rfl | rfl | rfl | rfl
 ·exact for_4 p hR _ _ _ _ _ _ _ _ _ _ _ w hI
 ·exact for_5 p hR _ _ _ _ _ _ _ _ _ _ _ w hI hmx (h3 rfl).2
 ·exact for_6 p hR _ _ _ _ _ _ _ _ _ _ _ w hI
 ·exact for_7 p hR _ _ _ _ _ _ _ _ _ _ _ w hI
 ·exact for_8 p hR _ _ _ _ _ _ _ _ _ _ _ w hI
 ·exact for_9 p hR _ _ _ _ _ _ _ _ _ _ _ w hI
 ·exact for_10 p hR _ _ _ _ _ _ _ _ _ _ _ w hI
 ·exact for_11 p hR _ _ _ _ _ _ _ _ _ _ _ w hI
 ·exact for_12 p hR _ _ _ _ _ _ _ _ _ _ _ w hI
 ·exact for_13 p hR _ _ _ _ _ _ _ _ _ _ _ w hI
 ·exact for_14 p hR _ _ _ _ _ _ _ _ _ _ _ w hI hr (h1 rfl)
 ·exact for_15 p hR _ _ _ _ _ _ _ _ _ _ _ w hI hr (h2 rfl)
 ·exact for_16 p hR _ _ _ _ _ _ _ _ _ _ _ w hI

theorem for_1 (c : Cnd) (hk : c.op = 1) (p : Ph) (hR : p.Right) (w : World) (hF : c.Fits) (hG : c.Good) (hI : p.In w) (hc : c.In w) (hmx : MxL w) (ih : ∀ i (w : World) (p : Ph), (c.kids i).In w → (c.kids i).Fits → (c.kids i).Good → p.In w → p.Right → MxL w → Calls Tryz.prog 92 #[.agg #[.int .i64 p.id, .string p.file, .int .i64 p.mom, .int .i64 p.zone, .slice p.wa p.wn p.wc, .int .i64 p.W, .int .i64 p.H, .int .i64 p.turn, .int .i64 p.stars, .slice p.ta p.tn p.tc, .string p.cap, .slice p.pa p.pn p.pc, .bool p.hid], .agg #[.int .i64 (c.kids i).op, .slice (c.kids i).ka (c.kids i).kn (c.kids i).kc, .string (c.kids i).text, .int .i64 (c.kids i).low, .int .i64 (c.kids i).high, .slice (c.kids i).aa (c.kids i).an (c.kids i).ac]] w fun e w' => e = .returned (.bool ((c.kids i).holds p)) ∧ Below w.heap.size w w') :
  Calls Tryz.prog 92 #[.agg #[.int .i64 p.id, .string p.file, .int .i64 p.mom, .int .i64 p.zone, .slice p.wa p.wn p.wc, .int .i64 p.W, .int .i64 p.H, .int .i64 p.turn, .int .i64 p.stars, .slice p.ta p.tn p.tc, .string p.cap, .slice p.pa p.pn p.pc, .bool p.hid], .agg #[.int .i64 c.op, .slice c.ka c.kn c.kc, .string c.text, .int .i64 c.low, .int .i64 c.high, .slice c.aa c.an c.ac]] w fun e w' => e = .returned (.bool (Hd.all (fun i => (c.kids i).holds p) c.kn)) ∧ Below w.heap.size w w' := by
 have HY := Lib.hid (fun (h : ∀ j, j < c.kn → (c.kids j).holds p = true) => Hd.all_yes (f := fun i => (c.kids i).holds p) h)
 have HN := Lib.hid (fun j (hj : j < c.kn) (h : (c.kids j).holds p = false) => Hd.all_no (f := fun i => (c.kids i).holds p) hj h)
 generalize hQQ : Hd.all (fun i => (c.kids i).holds p) c.kn = qq at *
 clear hQQ
 obtain ⟨W1, hW1, hP, hz1, hB1⟩ := bxP w p
 obtain ⟨W2, hW2, hC, hz2, hB2⟩ := box W1 #[.int .i64 c.op, .slice c.ka c.kn c.kc, .string c.text, .int .i64 c.low, .int .i64 c.high, .slice c.aa c.an c.ac] 25
 have HW1 := Lib.hid hW1; have HW2 := Lib.hid hW2
 have hP := hP.keep hB2
 rw [hz1] at hC
 have hB := below_up hB1 hB2
 obtain ⟨q0, q1, q2, q3, q4, q5, q6, q7, q8, q9, q10, q11, q12⟩ := hP.photo
 have k5 := cell_regrown q5; have k6 := cell_regrown q6
 have HI := Lib.hid hI; have HCI := Lib.hid hc; have HIH := Lib.hid ih; have HF := Lib.hid hF; have HG := Lib.hid hG
 obtain ⟨hkn, han, hts⟩ := hF.size
 have HK := Lib.hid hk
 clear hW1 hW2 hz1 hz2 hI hc ih hF hG hk
 go_enter Tryz.func92, Tryz.ntmps92
 go_upto_region 1 with fail
 rw [HW1.out, HW2.out]
 refine wp_region_quiet_below (by kernel_rfl) (by kernel_rfl) ?_
 repeat (go_big_quiet_step (fail))
 refine wpQuiet_nil ?_
 intro _ hw'
 obtain ⟨⟨dq, osq⟩, hw''⟩ := hw'
 subst hw''
 have hBx3 := below_regrown W2 dq osq
 generalize grow (redrawn W2 dq) osq = x3 at *
 clear dq osq
 clear k5 k6 q0 q1 q2 q3 q4 q5 q6 q7 q8 q9 q10 q11 q12
 have hP := hP.keep hBx3
 have hC := hC.keep hBx3
 have hB := below_up hB hBx3
 have HP := Lib.hid hP; have HC := Lib.hid hC
 obtain ⟨q0, q1, q2, q3, q4, q5, q6, q7, q8, q9, q10, q11, q12⟩ := hP.photo
 obtain ⟨l0, l1, l2, l3, l4, l5⟩ := hC.six
 rw [HK.out] at l0
 by_cases ht : 4 < p.turn
 ·-- true: what goes on
  go_wp2_with fail
  clear q0 q1 q2 q3 q4 q5 q6 q7 q8 q9 q10 q11 q12 l0 l2 l3 l4 l5 hP hC
  go_loopg [26] c.kn (fun gk i wr => ∃ j : Nat, j ≤ c.kn ∧ gk = c.kn - j ∧ i = .int .i64 j ∧ (∀ k, k < j → (c.kids k).holds p = true) ∧ Below x3.heap.size x3 wr)
  case atStart => exact ⟨0, by omega, rfl, rfl, fun k hk => by omega, Below.refl _ _⟩
  case round =>
   obtain ⟨j, hj, rfl, rfl, hall, hBr⟩ := hrel
   have HALL := Lib.hid hall; clear hall
   have hB0 := below_up hB hBr
   have hPr := HP.out.keep hBr
   have hCr := HC.out.keep hBr
   by_cases hlt : j < c.kn
   ·obtain ⟨b, off, hka, hbl, hcell⟩ := (Cnd.In.keep hB0 HCI.out).kid (by omega)
    rw [hka]
    obtain ⟨c0, c1, c2, c3, c4, c5⟩ := hcell j hlt
    clear hcell
    obtain ⟨x, hx⟩ : ∃ x, c.kids j = x := ⟨_, rfl⟩
    obtain ⟨W4, hW4, hX, hz4, hB4⟩ := box wr #[.int .i64 x.op, .slice x.ka x.kn x.kc, .string x.text, .int .i64 x.low, .int .i64 x.high, .slice x.aa x.an x.ac] 25
    have hB04 := below_up hB0 hB4
    have HCALL := Lib.hid (fun dd os => Calls.regrown_of (HIH.out j (grow (redrawn W4 dd) os) p (Cnd.In.keep (below_up hB04 (below_regrown W4 dd os)) (HCI.out.each j hlt)) (HF.out.each j hlt) (HG.out.each j hlt) (HI.out.keep (below_up hB04 (below_regrown W4 dd os))) hR (hmx.below (below_up hB04 (below_regrown W4 dd os)))))
    rw [hx] at HCALL c0 c1 c2 c3 c4 c5
    have HX := Lib.hid hx
    have HW4 := Lib.hid hW4
    clear hx hW4 hz4
    obtain ⟨x0, x1, x2, x3', x4', x5⟩ := hX.six
    obtain ⟨q0, q1, q2, q3, q4, q5, q6, q7, q8, q9, q10, q11, q12⟩ := (hPr.keep hB4).photo
    have hC4 := hCr.keep hB4
    obtain ⟨l0, l1, l2, l3, l4, l5⟩ := hC4.six
    rw [HK.out] at l0
    have k0 := cell_regrown q0; have k1 := cell_regrown q1; have k2 := cell_regrown q2; have k3 := cell_regrown q3; have k4 := cell_regrown q4; have k5 := cell_regrown q5; have k6 := cell_regrown q6; have k7 := cell_regrown q7; have k8 := cell_regrown q8; have k9 := cell_regrown q9; have k10 := cell_regrown q10; have k11 := cell_regrown q11; have k12 := cell_regrown q12
    have y0 := cell_regrown x0; have y1 := cell_regrown x1; have y2 := cell_regrown x2; have y3 := cell_regrown x3'; have y4 := cell_regrown x4'; have y5 := cell_regrown x5
    have m0 := cell_regrown l0
    clear hC hP
    go_upto_region 10 with fail
    rw [HW4.out]
    cases hq : x.holds p
    ·have HQ := Lib.hid (show (c.kids j).holds p = false by rw [HX.out]; exact hq)
     rw [hq] at HCALL
     clear hq
     refine wp_region_quiet_below (by kernel_rfl) (by kernel_rfl) ?_
     repeat (go_big_quiet_step ((go_at_call 92; with_reducible exact HCALL.out _ _)))
     refine wpQuiet_nil ?_
     intro _ hw'
     obtain ⟨⟨dq, osq⟩, hw''⟩ := hw'
     subst hw''
     have hBw5 := below_regrown W4 dq osq
     generalize grow (redrawn W4 dq) osq = w5 at *
     clear dq osq
     clear k0 k1 k2 k3 k4 k5 k6 k7 k8 k9 k10 k11 k12 y0 y1 y2 y3 y4 y5 m0 q0 q1 q2 q3 q4 q5 q6 q7 q8 q9 q10 q11 q12 x0 x1 x2 x3' x4' x5 l0 l1 l2 l3 l4 l5
     obtain ⟨l0, l1, l2, l3, l4, l5⟩ := (hC4.keep hBw5).six
     rw [HK.out] at l0
     go_wp2_with fail
     go_ret
     exact ⟨ret_bool (HN.out j hlt HQ.out).symm, below_up hB04 hBw5⟩
    ·have HQ := Lib.hid (show (c.kids j).holds p = true by rw [HX.out]; exact hq)
     rw [hq] at HCALL
     clear hq
     refine wp_region_quiet_below (by kernel_rfl) (by kernel_rfl) ?_
     repeat (go_big_quiet_step ((go_at_call 92; with_reducible exact HCALL.out _ _)))
     refine wpQuiet_nil ?_
     intro _ hw'
     obtain ⟨⟨dq, osq⟩, hw''⟩ := hw'
     subst hw''
     have hBw5 := below_regrown W4 dq osq
     generalize grow (redrawn W4 dq) osq = w5 at *
     clear dq osq
     clear k0 k1 k2 k3 k4 k5 k6 k7 k8 k9 k10 k11 k12 y0 y1 y2 y3 y4 y5 m0 q0 q1 q2 q3 q4 q5 q6 q7 q8 q9 q10 q11 q12 x0 x1 x2 x3' x4' x5 l0 l1 l2 l3 l4 l5
     obtain ⟨l0, l1, l2, l3, l4, l5⟩ := (hC4.keep hBw5).six
     rw [HK.out] at l0
     go_wp2_with fail
     rw [← hka]
     go_roundg (c.kn - (j + 1))
     case rel => exact ⟨j + 1, by omega, rfl, by go_num, fun k hk => by (by_cases e : k = j); (subst e; exact HQ.out); exact HALL.out k (by omega), below_up hBr (below_up hB4 hBw5)⟩
     case measure => omega
   ·obtain rfl : j = c.kn := by omega
    obtain ⟨l0, l1, l2, l3, l4, l5⟩ := hCr.six
    rw [HK.out] at l0
    go_wp2_with fail
    go_ret
    exact ⟨ret_bool (HY.out HALL.out).symm, hB0⟩
 ·-- true: what goes on
  go_wp2_with fail
  clear q0 q1 q2 q3 q4 q5 q6 q7 q8 q9 q10 q11 q12 l0 l2 l3 l4 l5 hP hC
  go_loopg [26] c.kn (fun gk i wr => ∃ j : Nat, j ≤ c.kn ∧ gk = c.kn - j ∧ i = .int .i64 j ∧ (∀ k, k < j → (c.kids k).holds p = true) ∧ Below x3.heap.size x3 wr)
  case atStart => exact ⟨0, by omega, rfl, rfl, fun k hk => by omega, Below.refl _ _⟩
  case round =>
   obtain ⟨j, hj, rfl, rfl, hall, hBr⟩ := hrel
   have HALL := Lib.hid hall; clear hall
   have hB0 := below_up hB hBr
   have hPr := HP.out.keep hBr
   have hCr := HC.out.keep hBr
   by_cases hlt : j < c.kn
   ·obtain ⟨b, off, hka, hbl, hcell⟩ := (Cnd.In.keep hB0 HCI.out).kid (by omega)
    rw [hka]
    obtain ⟨c0, c1, c2, c3, c4, c5⟩ := hcell j hlt
    clear hcell
    obtain ⟨x, hx⟩ : ∃ x, c.kids j = x := ⟨_, rfl⟩
    obtain ⟨W4, hW4, hX, hz4, hB4⟩ := box wr #[.int .i64 x.op, .slice x.ka x.kn x.kc, .string x.text, .int .i64 x.low, .int .i64 x.high, .slice x.aa x.an x.ac] 25
    have hB04 := below_up hB0 hB4
    have HCALL := Lib.hid (fun dd os => Calls.regrown_of (HIH.out j (grow (redrawn W4 dd) os) p (Cnd.In.keep (below_up hB04 (below_regrown W4 dd os)) (HCI.out.each j hlt)) (HF.out.each j hlt) (HG.out.each j hlt) (HI.out.keep (below_up hB04 (below_regrown W4 dd os))) hR (hmx.below (below_up hB04 (below_regrown W4 dd os)))))
    rw [hx] at HCALL c0 c1 c2 c3 c4 c5
    have HX := Lib.hid hx
    have HW4 := Lib.hid hW4
    clear hx hW4 hz4
    obtain ⟨x0, x1, x2, x3', x4', x5⟩ := hX.six
    obtain ⟨q0, q1, q2, q3, q4, q5, q6, q7, q8, q9, q10, q11, q12⟩ := (hPr.keep hB4).photo
    have hC4 := hCr.keep hB4
    obtain ⟨l0, l1, l2, l3, l4, l5⟩ := hC4.six
    rw [HK.out] at l0
    have k0 := cell_regrown q0; have k1 := cell_regrown q1; have k2 := cell_regrown q2; have k3 := cell_regrown q3; have k4 := cell_regrown q4; have k5 := cell_regrown q5; have k6 := cell_regrown q6; have k7 := cell_regrown q7; have k8 := cell_regrown q8; have k9 := cell_regrown q9; have k10 := cell_regrown q10; have k11 := cell_regrown q11; have k12 := cell_regrown q12
    have y0 := cell_regrown x0; have y1 := cell_regrown x1; have y2 := cell_regrown x2; have y3 := cell_regrown x3'; have y4 := cell_regrown x4'; have y5 := cell_regrown x5
    have m0 := cell_regrown l0
    clear hC hP
    go_upto_region 10 with fail
    rw [HW4.out]
    cases hq : x.holds p
    ·have HQ := Lib.hid (show (c.kids j).holds p = false by rw [HX.out]; exact hq)
     rw [hq] at HCALL
     clear hq
     refine wp_region_quiet_below (by kernel_rfl) (by kernel_rfl) ?_
     repeat (go_big_quiet_step ((go_at_call 92; with_reducible exact HCALL.out _ _)))
     refine wpQuiet_nil ?_
     intro _ hw'
     obtain ⟨⟨dq, osq⟩, hw''⟩ := hw'
     subst hw''
     have hBw5 := below_regrown W4 dq osq
     generalize grow (redrawn W4 dq) osq = w5 at *
     clear dq osq
     clear k0 k1 k2 k3 k4 k5 k6 k7 k8 k9 k10 k11 k12 y0 y1 y2 y3 y4 y5 m0 q0 q1 q2 q3 q4 q5 q6 q7 q8 q9 q10 q11 q12 x0 x1 x2 x3' x4' x5 l0 l1 l2 l3 l4 l5
     obtain ⟨l0, l1, l2, l3, l4, l5⟩ := (hC4.keep hBw5).six
     rw [HK.out] at l0
     go_wp2_with fail
     go_ret
     exact ⟨ret_bool (HN.out j hlt HQ.out).symm, below_up hB04 hBw5⟩
    ·have HQ := Lib.hid (show (c.kids j).holds p = true by rw [HX.out]; exact hq)
     rw [hq] at HCALL
     clear hq
     refine wp_region_quiet_below (by kernel_rfl) (by kernel_rfl) ?_
     repeat (go_big_quiet_step ((go_at_call 92; with_reducible exact HCALL.out _ _)))
     refine wpQuiet_nil ?_
     intro _ hw'
     obtain ⟨⟨dq, osq⟩, hw''⟩ := hw'
     subst hw''
     have hBw5 := below_regrown W4 dq osq
     generalize grow (redrawn W4 dq) osq = w5 at *
     clear dq osq
     clear k0 k1 k2 k3 k4 k5 k6 k7 k8 k9 k10 k11 k12 y0 y1 y2 y3 y4 y5 m0 q0 q1 q2 q3 q4 q5 q6 q7 q8 q9 q10 q11 q12 x0 x1 x2 x3' x4' x5 l0 l1 l2 l3 l4 l5
     obtain ⟨l0, l1, l2, l3, l4, l5⟩ := (hC4.keep hBw5).six
     rw [HK.out] at l0
     go_wp2_with fail
     rw [← hka]
     go_roundg (c.kn - (j + 1))
     case rel => exact ⟨j + 1, by omega, rfl, by go_num, fun k hk => by (by_cases e : k = j); (subst e; exact HQ.out); exact HALL.out k (by omega), below_up hBr (below_up hB4 hBw5)⟩
     case measure => omega
   ·obtain rfl : j = c.kn := by omega
    obtain ⟨l0, l1, l2, l3, l4, l5⟩ := hCr.six
    rw [HK.out] at l0
    go_wp2_with fail
    go_ret
    exact ⟨ret_bool (HY.out HALL.out).symm, hB0⟩

theorem for_2 (c : Cnd) (hk : c.op = 2) (p : Ph) (hR : p.Right) (w : World) (hF : c.Fits) (hG : c.Good) (hI : p.In w) (hc : c.In w) (hmx : MxL w) (ih : ∀ i (w : World) (p : Ph), (c.kids i).In w → (c.kids i).Fits → (c.kids i).Good → p.In w → p.Right → MxL w → Calls Tryz.prog 92 #[.agg #[.int .i64 p.id, .string p.file, .int .i64 p.mom, .int .i64 p.zone, .slice p.wa p.wn p.wc, .int .i64 p.W, .int .i64 p.H, .int .i64 p.turn, .int .i64 p.stars, .slice p.ta p.tn p.tc, .string p.cap, .slice p.pa p.pn p.pc, .bool p.hid], .agg #[.int .i64 (c.kids i).op, .slice (c.kids i).ka (c.kids i).kn (c.kids i).kc, .string (c.kids i).text, .int .i64 (c.kids i).low, .int .i64 (c.kids i).high, .slice (c.kids i).aa (c.kids i).an (c.kids i).ac]] w fun e w' => e = .returned (.bool ((c.kids i).holds p)) ∧ Below w.heap.size w w') :
  Calls Tryz.prog 92 #[.agg #[.int .i64 p.id, .string p.file, .int .i64 p.mom, .int .i64 p.zone, .slice p.wa p.wn p.wc, .int .i64 p.W, .int .i64 p.H, .int .i64 p.turn, .int .i64 p.stars, .slice p.ta p.tn p.tc, .string p.cap, .slice p.pa p.pn p.pc, .bool p.hid], .agg #[.int .i64 c.op, .slice c.ka c.kn c.kc, .string c.text, .int .i64 c.low, .int .i64 c.high, .slice c.aa c.an c.ac]] w fun e w' => e = .returned (.bool (Fd.hit (fun i => (c.kids i).holds p) c.kn)) ∧ Below w.heap.size w w' := by
 have HY := Lib.hid (fun (h : ∀ j, j < c.kn → (c.kids j).holds p = false) => Hd.hit_no (f := fun i => (c.kids i).holds p) h)
 have HN := Lib.hid (fun j (hj : j < c.kn) (h : (c.kids j).holds p = true) => Hd.hit_yes (f := fun i => (c.kids i).holds p) hj h)
 generalize hQQ : Fd.hit (fun i => (c.kids i).holds p) c.kn = qq at *
 clear hQQ
 obtain ⟨W1, hW1, hP, hz1, hB1⟩ := bxP w p
 obtain ⟨W2, hW2, hC, hz2, hB2⟩ := box W1 #[.int .i64 c.op, .slice c.ka c.kn c.kc, .string c.text, .int .i64 c.low, .int .i64 c.high, .slice c.aa c.an c.ac] 25
 have HW1 := Lib.hid hW1; have HW2 := Lib.hid hW2
 have hP := hP.keep hB2
 rw [hz1] at hC
 have hB := below_up hB1 hB2
 obtain ⟨q0, q1, q2, q3, q4, q5, q6, q7, q8, q9, q10, q11, q12⟩ := hP.photo
 have k5 := cell_regrown q5; have k6 := cell_regrown q6
 have HI := Lib.hid hI; have HCI := Lib.hid hc; have HIH := Lib.hid ih; have HF := Lib.hid hF; have HG := Lib.hid hG
 obtain ⟨hkn, han, hts⟩ := hF.size
 have HK := Lib.hid hk
 clear hW1 hW2 hz1 hz2 hI hc ih hF hG hk
 go_enter Tryz.func92, Tryz.ntmps92
 go_upto_region 1 with fail
 rw [HW1.out, HW2.out]
 refine wp_region_quiet_below (by kernel_rfl) (by kernel_rfl) ?_
 repeat (go_big_quiet_step (fail))
 refine wpQuiet_nil ?_
 intro _ hw'
 obtain ⟨⟨dq, osq⟩, hw''⟩ := hw'
 subst hw''
 have hBx3 := below_regrown W2 dq osq
 generalize grow (redrawn W2 dq) osq = x3 at *
 clear dq osq
 clear k5 k6 q0 q1 q2 q3 q4 q5 q6 q7 q8 q9 q10 q11 q12
 have hP := hP.keep hBx3
 have hC := hC.keep hBx3
 have hB := below_up hB hBx3
 have HP := Lib.hid hP; have HC := Lib.hid hC
 obtain ⟨q0, q1, q2, q3, q4, q5, q6, q7, q8, q9, q10, q11, q12⟩ := hP.photo
 obtain ⟨l0, l1, l2, l3, l4, l5⟩ := hC.six
 rw [HK.out] at l0
 by_cases ht : 4 < p.turn
 ·-- false: what goes on
  go_wp2_with fail
  clear q0 q1 q2 q3 q4 q5 q6 q7 q8 q9 q10 q11 q12 l0 l2 l3 l4 l5 hP hC
  go_loopg [26] c.kn (fun gk i wr => ∃ j : Nat, j ≤ c.kn ∧ gk = c.kn - j ∧ i = .int .i64 j ∧ (∀ k, k < j → (c.kids k).holds p = false) ∧ Below x3.heap.size x3 wr)
  case atStart => exact ⟨0, by omega, rfl, rfl, fun k hk => by omega, Below.refl _ _⟩
  case round =>
   obtain ⟨j, hj, rfl, rfl, hall, hBr⟩ := hrel
   have HALL := Lib.hid hall; clear hall
   have hB0 := below_up hB hBr
   have hPr := HP.out.keep hBr
   have hCr := HC.out.keep hBr
   by_cases hlt : j < c.kn
   ·obtain ⟨b, off, hka, hbl, hcell⟩ := (Cnd.In.keep hB0 HCI.out).kid (by omega)
    rw [hka]
    obtain ⟨c0, c1, c2, c3, c4, c5⟩ := hcell j hlt
    clear hcell
    obtain ⟨x, hx⟩ : ∃ x, c.kids j = x := ⟨_, rfl⟩
    obtain ⟨W4, hW4, hX, hz4, hB4⟩ := box wr #[.int .i64 x.op, .slice x.ka x.kn x.kc, .string x.text, .int .i64 x.low, .int .i64 x.high, .slice x.aa x.an x.ac] 25
    have hB04 := below_up hB0 hB4
    have HCALL := Lib.hid (fun dd os => Calls.regrown_of (HIH.out j (grow (redrawn W4 dd) os) p (Cnd.In.keep (below_up hB04 (below_regrown W4 dd os)) (HCI.out.each j hlt)) (HF.out.each j hlt) (HG.out.each j hlt) (HI.out.keep (below_up hB04 (below_regrown W4 dd os))) hR (hmx.below (below_up hB04 (below_regrown W4 dd os)))))
    rw [hx] at HCALL c0 c1 c2 c3 c4 c5
    have HX := Lib.hid hx
    have HW4 := Lib.hid hW4
    clear hx hW4 hz4
    obtain ⟨x0, x1, x2, x3', x4', x5⟩ := hX.six
    obtain ⟨q0, q1, q2, q3, q4, q5, q6, q7, q8, q9, q10, q11, q12⟩ := (hPr.keep hB4).photo
    have hC4 := hCr.keep hB4
    obtain ⟨l0, l1, l2, l3, l4, l5⟩ := hC4.six
    rw [HK.out] at l0
    have k0 := cell_regrown q0; have k1 := cell_regrown q1; have k2 := cell_regrown q2; have k3 := cell_regrown q3; have k4 := cell_regrown q4; have k5 := cell_regrown q5; have k6 := cell_regrown q6; have k7 := cell_regrown q7; have k8 := cell_regrown q8; have k9 := cell_regrown q9; have k10 := cell_regrown q10; have k11 := cell_regrown q11; have k12 := cell_regrown q12
    have y0 := cell_regrown x0; have y1 := cell_regrown x1; have y2 := cell_regrown x2; have y3 := cell_regrown x3'; have y4 := cell_regrown x4'; have y5 := cell_regrown x5
    have m0 := cell_regrown l0
    clear hC hP
    go_upto_region 10 with fail
    rw [HW4.out]
    cases hq : x.holds p
    ·have HQ := Lib.hid (show (c.kids j).holds p = false by rw [HX.out]; exact hq)
     rw [hq] at HCALL
     clear hq
     refine wp_region_quiet_below (by kernel_rfl) (by kernel_rfl) ?_
     repeat (go_big_quiet_step ((go_at_call 92; with_reducible exact HCALL.out _ _)))
     refine wpQuiet_nil ?_
     intro _ hw'
     obtain ⟨⟨dq, osq⟩, hw''⟩ := hw'
     subst hw''
     have hBw5 := below_regrown W4 dq osq
     generalize grow (redrawn W4 dq) osq = w5 at *
     clear dq osq
     clear k0 k1 k2 k3 k4 k5 k6 k7 k8 k9 k10 k11 k12 y0 y1 y2 y3 y4 y5 m0 q0 q1 q2 q3 q4 q5 q6 q7 q8 q9 q10 q11 q12 x0 x1 x2 x3' x4' x5 l0 l1 l2 l3 l4 l5
     obtain ⟨l0, l1, l2, l3, l4, l5⟩ := (hC4.keep hBw5).six
     rw [HK.out] at l0
     go_wp2_with fail
     rw [← hka]
     go_roundg (c.kn - (j + 1))
     case rel => exact ⟨j + 1, by omega, rfl, by go_num, fun k hk => by (by_cases e : k = j); (subst e; exact HQ.out); exact HALL.out k (by omega), below_up hBr (below_up hB4 hBw5)⟩
     case measure => omega
    ·have HQ := Lib.hid (show (c.kids j).holds p = true by rw [HX.out]; exact hq)
     rw [hq] at HCALL
     clear hq
     refine wp_region_quiet_below (by kernel_rfl) (by kernel_rfl) ?_
     repeat (go_big_quiet_step ((go_at_call 92; with_reducible exact HCALL.out _ _)))
     refine wpQuiet_nil ?_
     intro _ hw'
     obtain ⟨⟨dq, osq⟩, hw''⟩ := hw'
     subst hw''
     have hBw5 := below_regrown W4 dq osq
     generalize grow (redrawn W4 dq) osq = w5 at *
     clear dq osq
     clear k0 k1 k2 k3 k4 k5 k6 k7 k8 k9 k10 k11 k12 y0 y1 y2 y3 y4 y5 m0 q0 q1 q2 q3 q4 q5 q6 q7 q8 q9 q10 q11 q12 x0 x1 x2 x3' x4' x5 l0 l1 l2 l3 l4 l5
     obtain ⟨l0, l1, l2, l3, l4, l5⟩ := (hC4.keep hBw5).six
     rw [HK.out] at l0
     go_wp2_with fail
     go_ret
     exact ⟨ret_bool (HN.out j hlt HQ.out).symm, below_up hB04 hBw5⟩
   ·obtain rfl : j = c.kn := by omega
    obtain ⟨l0, l1, l2, l3, l4, l5⟩ := hCr.six
    rw [HK.out] at l0
    go_wp2_with fail
    go_ret
    exact ⟨ret_bool (HY.out HALL.out).symm, hB0⟩
 ·-- false: what goes on
  go_wp2_with fail
  clear q0 q1 q2 q3 q4 q5 q6 q7 q8 q9 q10 q11 q12 l0 l2 l3 l4 l5 hP hC
  go_loopg [26] c.kn (fun gk i wr => ∃ j : Nat, j ≤ c.kn ∧ gk = c.kn - j ∧ i = .int .i64 j ∧ (∀ k, k < j → (c.kids k).holds p = false) ∧ Below x3.heap.size x3 wr)
  case atStart => exact ⟨0, by omega, rfl, rfl, fun k hk => by omega, Below.refl _ _⟩
  case round =>
   obtain ⟨j, hj, rfl, rfl, hall, hBr⟩ := hrel
   have HALL := Lib.hid hall; clear hall
   have hB0 := below_up hB hBr
   have hPr := HP.out.keep hBr
   have hCr := HC.out.keep hBr
   by_cases hlt : j < c.kn
   ·obtain ⟨b, off, hka, hbl, hcell⟩ := (Cnd.In.keep hB0 HCI.out).kid (by omega)
    rw [hka]
    obtain ⟨c0, c1, c2, c3, c4, c5⟩ := hcell j hlt
    clear hcell
    obtain ⟨x, hx⟩ : ∃ x, c.kids j = x := ⟨_, rfl⟩
    obtain ⟨W4, hW4, hX, hz4, hB4⟩ := box wr #[.int .i64 x.op, .slice x.ka x.kn x.kc, .string x.text, .int .i64 x.low, .int .i64 x.high, .slice x.aa x.an x.ac] 25
    have hB04 := below_up hB0 hB4
    have HCALL := Lib.hid (fun dd os => Calls.regrown_of (HIH.out j (grow (redrawn W4 dd) os) p (Cnd.In.keep (below_up hB04 (below_regrown W4 dd os)) (HCI.out.each j hlt)) (HF.out.each j hlt) (HG.out.each j hlt) (HI.out.keep (below_up hB04 (below_regrown W4 dd os))) hR (hmx.below (below_up hB04 (below_regrown W4 dd os)))))
    rw [hx] at HCALL c0 c1 c2 c3 c4 c5
    have HX := Lib.hid hx
    have HW4 := Lib.hid hW4
    clear hx hW4 hz4
    obtain ⟨x0, x1, x2, x3', x4', x5⟩ := hX.six
    obtain ⟨q0, q1, q2, q3, q4, q5, q6, q7, q8, q9, q10, q11, q12⟩ := (hPr.keep hB4).photo
    have hC4 := hCr.keep hB4
    obtain ⟨l0, l1, l2, l3, l4, l5⟩ := hC4.six
    rw [HK.out] at l0
    have k0 := cell_regrown q0; have k1 := cell_regrown q1; have k2 := cell_regrown q2; have k3 := cell_regrown q3; have k4 := cell_regrown q4; have k5 := cell_regrown q5; have k6 := cell_regrown q6; have k7 := cell_regrown q7; have k8 := cell_regrown q8; have k9 := cell_regrown q9; have k10 := cell_regrown q10; have k11 := cell_regrown q11; have k12 := cell_regrown q12
    have y0 := cell_regrown x0; have y1 := cell_regrown x1; have y2 := cell_regrown x2; have y3 := cell_regrown x3'; have y4 := cell_regrown x4'; have y5 := cell_regrown x5
    have m0 := cell_regrown l0
    clear hC hP
    go_upto_region 10 with fail
    rw [HW4.out]
    cases hq : x.holds p
    ·have HQ := Lib.hid (show (c.kids j).holds p = false by rw [HX.out]; exact hq)
     rw [hq] at HCALL
     clear hq
     refine wp_region_quiet_below (by kernel_rfl) (by kernel_rfl) ?_
     repeat (go_big_quiet_step ((go_at_call 92; with_reducible exact HCALL.out _ _)))
     refine wpQuiet_nil ?_
     intro _ hw'
     obtain ⟨⟨dq, osq⟩, hw''⟩ := hw'
     subst hw''
     have hBw5 := below_regrown W4 dq osq
     generalize grow (redrawn W4 dq) osq = w5 at *
     clear dq osq
     clear k0 k1 k2 k3 k4 k5 k6 k7 k8 k9 k10 k11 k12 y0 y1 y2 y3 y4 y5 m0 q0 q1 q2 q3 q4 q5 q6 q7 q8 q9 q10 q11 q12 x0 x1 x2 x3' x4' x5 l0 l1 l2 l3 l4 l5
     obtain ⟨l0, l1, l2, l3, l4, l5⟩ := (hC4.keep hBw5).six
     rw [HK.out] at l0
     go_wp2_with fail
     rw [← hka]
     go_roundg (c.kn - (j + 1))
     case rel => exact ⟨j + 1, by omega, rfl, by go_num, fun k hk => by (by_cases e : k = j); (subst e; exact HQ.out); exact HALL.out k (by omega), below_up hBr (below_up hB4 hBw5)⟩
     case measure => omega
    ·have HQ := Lib.hid (show (c.kids j).holds p = true by rw [HX.out]; exact hq)
     rw [hq] at HCALL
     clear hq
     refine wp_region_quiet_below (by kernel_rfl) (by kernel_rfl) ?_
     repeat (go_big_quiet_step ((go_at_call 92; with_reducible exact HCALL.out _ _)))
     refine wpQuiet_nil ?_
     intro _ hw'
     obtain ⟨⟨dq, osq⟩, hw''⟩ := hw'
     subst hw''
     have hBw5 := below_regrown W4 dq osq
     generalize grow (redrawn W4 dq) osq = w5 at *
     clear dq osq
     clear k0 k1 k2 k3 k4 k5 k6 k7 k8 k9 k10 k11 k12 y0 y1 y2 y3 y4 y5 m0 q0 q1 q2 q3 q4 q5 q6 q7 q8 q9 q10 q11 q12 x0 x1 x2 x3' x4' x5 l0 l1 l2 l3 l4 l5
     obtain ⟨l0, l1, l2, l3, l4, l5⟩ := (hC4.keep hBw5).six
     rw [HK.out] at l0
     go_wp2_with fail
     go_ret
     exact ⟨ret_bool (HN.out j hlt HQ.out).symm, below_up hB04 hBw5⟩
   ·obtain rfl : j = c.kn := by omega
    obtain ⟨l0, l1, l2, l3, l4, l5⟩ := hCr.six
    rw [HK.out] at l0
    go_wp2_with fail
    go_ret
    exact ⟨ret_bool (HY.out HALL.out).symm, hB0⟩
theorem for_3 (c : Cnd) (hk : c.op = 3) (p : Ph) (hR : p.Right) (w : World) (hF : c.Fits) (hG : c.Good) (hI : p.In w) (hc : c.In w) (hmx : MxL w) (ih : ∀ i (w : World) (p : Ph), (c.kids i).In w → (c.kids i).Fits → (c.kids i).Good → p.In w → p.Right → MxL w → Calls Tryz.prog 92 #[.agg #[.int .i64 p.id, .string p.file, .int .i64 p.mom, .int .i64 p.zone, .slice p.wa p.wn p.wc, .int .i64 p.W, .int .i64 p.H, .int .i64 p.turn, .int .i64 p.stars, .slice p.ta p.tn p.tc, .string p.cap, .slice p.pa p.pn p.pc, .bool p.hid], .agg #[.int .i64 (c.kids i).op, .slice (c.kids i).ka (c.kids i).kn (c.kids i).kc, .string (c.kids i).text, .int .i64 (c.kids i).low, .int .i64 (c.kids i).high, .slice (c.kids i).aa (c.kids i).an (c.kids i).ac]] w fun e w' => e = .returned (.bool ((c.kids i).holds p)) ∧ Below w.heap.size w w') :
  Calls Tryz.prog 92 #[.agg #[.int .i64 p.id, .string p.file, .int .i64 p.mom, .int .i64 p.zone, .slice p.wa p.wn p.wc, .int .i64 p.W, .int .i64 p.H, .int .i64 p.turn, .int .i64 p.stars, .slice p.ta p.tn p.tc, .string p.cap, .slice p.pa p.pn p.pc, .bool p.hid], .agg #[.int .i64 c.op, .slice c.ka c.kn c.kc, .string c.text, .int .i64 c.low, .int .i64 c.high, .slice c.aa c.an c.ac]] w fun e w' => e = .returned (.bool (!(c.kids 0).holds p)) ∧ Below w.heap.size w w' := by
 refine calls_q (B := fun w' => Below w.heap.size w w') fun qz hqz => ?_
 have HQ0 := Lib.hid hqz
 clear hqz
 have HKN1 := Lib.hid (hG.kid1 hk)
 obtain ⟨W1, hW1, hP, hz1, hB1⟩ := bxP w p
 obtain ⟨W2, hW2, hC, hz2, hB2⟩ := box W1 #[.int .i64 c.op, .slice c.ka c.kn c.kc, .string c.text, .int .i64 c.low, .int .i64 c.high, .slice c.aa c.an c.ac] 25
 have HW1 := Lib.hid hW1; have HW2 := Lib.hid hW2
 have hP := hP.keep hB2
 rw [hz1] at hC
 have hB := below_up hB1 hB2
 obtain ⟨q0, q1, q2, q3, q4, q5, q6, q7, q8, q9, q10, q11, q12⟩ := hP.photo
 have k5 := cell_regrown q5; have k6 := cell_regrown q6
 have HI := Lib.hid hI; have HCI := Lib.hid hc; have HIH := Lib.hid ih; have HF := Lib.hid hF; have HG := Lib.hid hG
 obtain ⟨hkn, han, hts⟩ := hF.size
 have HK := Lib.hid hk
 clear hW1 hW2 hz1 hz2 hI hc ih hF hG hk
 go_enter Tryz.func92, Tryz.ntmps92
 go_upto_region 1 with fail
 rw [HW1.out, HW2.out]
 refine wp_region_quiet_below (by kernel_rfl) (by kernel_rfl) ?_
 repeat (go_big_quiet_step (fail))
 refine wpQuiet_nil ?_
 intro _ hw'
 obtain ⟨⟨dq, osq⟩, hw''⟩ := hw'
 subst hw''
 have hBx3 := below_regrown W2 dq osq
 generalize grow (redrawn W2 dq) osq = x3 at *
 clear dq osq
 clear k5 k6 q0 q1 q2 q3 q4 q5 q6 q7 q8 q9 q10 q11 q12
 have hP := hP.keep hBx3
 have hC := hC.keep hBx3
 have hB := below_up hB hBx3
 have HP := Lib.hid hP; have HC := Lib.hid hC
 obtain ⟨q0, q1, q2, q3, q4, q5, q6, q7, q8, q9, q10, q11, q12⟩ := hP.photo
 obtain ⟨l0, l1, l2, l3, l4, l5⟩ := hC.six
 rw [HK.out] at l0
 obtain ⟨b, off, hka, hbl, hcell⟩ := (Cnd.In.keep hB HCI.out).kid (by have := HKN1.out; omega)
 obtain ⟨c0, c1, c2, c3, c4, c5⟩ := hcell 0 (by have := HKN1.out; omega)
 have hk0 : 0 < c.kn := by have := HKN1.out; omega
 have HCALL := Lib.hid (fun dd os => Calls.regrown_of (HIH.out 0 (grow (redrawn x3 dd) os) p (Cnd.In.keep (below_up hB (below_regrown x3 dd os)) (HCI.out.each 0 hk0)) (HF.out.each 0 hk0) (HG.out.each 0 hk0) (HI.out.keep (below_up hB (below_regrown x3 dd os))) hR (hmx.below (below_up hB (below_regrown x3 dd os)))))
 generalize c.kids 0 = x at *
 rw [hka] at l1
 simp only [Nat.zero_mul, Nat.add_zero] at c0 c1 c2 c3 c4 c5
 have k0 := cell_regrown q0; have k1 := cell_regrown q1; have k2 := cell_regrown q2; have k3 := cell_regrown q3; have k4 := cell_regrown q4; have k5 := cell_regrown q5; have k6 := cell_regrown q6; have k7 := cell_regrown q7; have k8 := cell_regrown q8; have k9 := cell_regrown q9; have k10 := cell_regrown q10; have k11 := cell_regrown q11; have k12 := cell_regrown q12
 have y0 := cell_regrown c0; have y1 := cell_regrown c1; have y2 := cell_regrown c2; have y3 := cell_regrown c3; have y4 := cell_regrown c4; have y5 := cell_regrown c5
 have m1 := cell_regrown l1
 have hkz : (0 : Int) < (c.kn : Int) := by omega
 generalize x.holds p = q at *
 clear hk0 hcell hka
 by_cases ht : 4 < p.turn
 ·go_wp2_with fail
  refine wp_region_quiet_below (by kernel_rfl) (by kernel_rfl) ?_
  repeat (go_big_quiet_step ((go_at_call 92; with_reducible exact HCALL.out _ _)))
  refine wpQuiet_nil ?_
  intro _ hw'
  obtain ⟨⟨dq, osq⟩, hw''⟩ := hw'
  subst hw''
  have hBx4 := below_regrown x3 dq osq
  generalize grow (redrawn x3 dq) osq = x4 at *
  clear dq osq
  clear k0 k1 k2 k3 k4 k5 k6 k7 k8 k9 k10 k11 k12 y0 y1 y2 y3 y4 y5 m1
  go_wp2_with fail
  go_ret
  exact ⟨ret_bool HQ0.out, below_up hB hBx4⟩
 ·go_wp2_with fail
  refine wp_region_quiet_below (by kernel_rfl) (by kernel_rfl) ?_
  repeat (go_big_quiet_step ((go_at_call 92; with_reducible exact HCALL.out _ _)))
  refine wpQuiet_nil ?_
  intro _ hw'
  obtain ⟨⟨dq, osq⟩, hw''⟩ := hw'
  subst hw''
  have hBx4 := below_regrown x3 dq osq
  generalize grow (redrawn x3 dq) osq = x4 at *
  clear dq osq
  clear k0 k1 k2 k3 k4 k5 k6 k7 k8 k9 k10 k11 k12 y0 y1 y2 y3 y4 y5 m1
  go_wp2_with fail
  go_ret
  exact ⟨ret_bool HQ0.out, below_up hB hBx4⟩
theorem holdsFor_is : ∀ (c : Cnd) (w : World) (p : Ph), c.In w → c.Fits → c.Good → p.In w → p.Right → MxL w → Calls Tryz.prog 92 #[.agg #[.int .i64 p.id, .string p.file, .int .i64 p.mom, .int .i64 p.zone, .slice p.wa p.wn p.wc, .int .i64 p.W, .int .i64 p.H, .int .i64 p.turn, .int .i64 p.stars, .slice p.ta p.tn p.tc, .string p.cap, .slice p.pa p.pn p.pc, .bool p.hid], .agg #[.int .i64 c.op, .slice c.ka c.kn c.kc, .string c.text, .int .i64 c.low, .int .i64 c.high, .slice c.aa c.an c.ac]] w fun e w' => e = .returned (.bool (c.holds p)) ∧ Below w.heap.size w w' := by
 refine Cnd.ind (fun w p h => absurd rfl h.ne) fun c hne ih w p hc hF hG hI hR hmx => ?_
 rw [Cnd.holds_eq hne]
 have hop := hG.op
 by_cases h1 : c.op = 1
 ·rw [if_pos h1]; exact for_1 c h1 p hR w hF hG hI hc hmx ih
 ·rw [if_neg h1]
  by_cases h2 : c.op = 2
  ·rw [if_pos h2]; exact for_2 c h2 p hR w hF hG hI hc hmx ih
  ·rw [if_neg h2]
   by_cases h3 : c.op = 3
   ·rw [if_pos h3]; exact for_3 c h3 p hR w hF hG hI hc hmx ih
   ·rw [if_neg h3]; exact for_leaf c hG (by omega) p hR w hI hc hmx
end Go.Proofs.YtimjmjmpaicdbaaGreatDoor
