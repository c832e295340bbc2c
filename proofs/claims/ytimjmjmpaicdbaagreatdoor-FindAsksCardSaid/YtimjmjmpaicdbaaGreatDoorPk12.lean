/- Parts of the proof, no condition: HdCl. -/
import Derived.Test.YtimjmjmpaicdbaaGreatDoorPk9
import Derived.Test.YtimjmjmpaicdbaaGreatDoorPk11
import Derived.Deep.RegionHeld3
set_option maxRecDepth 100000
set_option maxHeartbeats 8000000
set_option linter.unusedVariables false
namespace Go.Proofs.YtimjmjmpaicdbaaGreatDoor
open Go.RowKit Go.Sort Go.Shelf
theorem ask1_is (p : Ph) (hp : p.Right) (b : Nat) (op : Int) (ka : Option Addr) (kn kc : Nat) (text : ByteArray) (lo hi : Int) (aa : Option Addr) (an ac : Nat) (V : World) (hb : Blk V b #[.int .i64 op, .slice ka kn kc, .string text, .int .i64 lo, .int .i64 hi, .slice aa an ac] 25) (hI : p.In V) :
  Calls Tryz.prog 120 #[.agg #[.int .i64 p.id, .string p.file, .int .i64 p.mom, .int .i64 p.zone, .slice p.wa p.wn p.wc, .int .i64 p.W, .int .i64 p.H, .int .i64 p.turn, .int .i64 p.stars, .slice p.ta p.tn p.tc, .string p.cap, .slice p.pa p.pn p.pc, .bool p.hid], .pointer (some ⟨b, 0, none⟩)] V fun e w' => e = .returned (.bool (Fd.hit (fun i => text.toList == (p.tag i).toList) p.tn)) ∧ Below V.heap.size V w' := by
 obtain ⟨W1, hW1, hP, hz1, hB1⟩ := bxP V p
 have HW1 := Lib.hid hW1
 obtain ⟨q0, q1, q2, q3, q4, q5, q6, q7, q8, q9, q10, q11, q12⟩ := hP.photo
 have HI1 := Lib.hid (hI.keep hB1)
 clear hW1 hz1
 obtain ⟨l0, l1, l2, l3, l4, l5⟩ := (hb.keep hB1).six
 have HC := Lib.hid (hasS_is p.ta p.tn p.tc p.tag text W1 HI1.out.tags hp.fits.tn)
 clear hI
 go_enter Tryz.func120, Tryz.ntmps120
 go_upto_region 1 with fail
 rw [HW1.out]
 go_wp2_with (go_at_call 121; (with_reducible refine HC.out.mono ?_); rintro e w4 ⟨rfl, hB4⟩)
 go_ret
 exact ⟨rfl, below_up hB1 hB4⟩
theorem ask2_is (p : Ph) (hp : p.Right) (b : Nat) (t : ByteArray) (V : World) (hb : Blk V b #[.string t] 9) (hm : MxL V) (hI : p.In V) :
  Calls Tryz.prog 123 #[.agg #[.int .i64 p.id, .string p.file, .int .i64 p.mom, .int .i64 p.zone, .slice p.wa p.wn p.wc, .int .i64 p.W, .int .i64 p.H, .int .i64 p.turn, .int .i64 p.stars, .slice p.ta p.tn p.tc, .string p.cap, .slice p.pa p.pn p.pc, .bool p.hid], .pointer (some ⟨b, 0, none⟩)] V fun e w' => e = .returned (.bool (Lib.contains (Hd.low p.cap).data.toList t.data.toList)) ∧ Below V.heap.size V w' := by
 obtain ⟨W1, hW1, hP, hz1, hB1⟩ := bxP V p
 have HW1 := Lib.hid hW1
 obtain ⟨q0, q1, q2, q3, q4, q5, q6, q7, q8, q9, q10, q11, q12⟩ := hP.photo
 have HI1 := Lib.hid (hI.keep hB1)
 clear hW1 hz1
 have l0 := (hb.keep hB1).one
 have hm1 := hm.below hB1
 have HC1 := Lib.hid (fun dd os => Calls.regrown_of (lower_is p.cap hp.cap (grow (redrawn W1 dd) os)))
 have HC2 := Lib.hid (fun dd os => Calls.regrown_of (strContains_is (Hd.low p.cap) t (by rw [Hd.low_size]; have := hp.cap; omega) (grow (redrawn W1 dd) os) (hm1.below (below_regrown W1 dd os))))
 have k10 := cell_regrown q10
 have k0 := cell_regrown l0
 clear hI
 go_enter Tryz.func123, Tryz.ntmps123
 go_upto_region 1 with fail
 rw [HW1.out]
 refine wp_region_quiet_below (by kernel_rfl) (by kernel_rfl) ?_
 repeat (go_big_quiet_step ((first | (go_at_call 122; with_reducible exact HC1.out _ _) | (go_at_call 124; with_reducible exact HC2.out _ _))))
 refine wpQuiet_nil ?_
 intro _ hw'
 obtain ⟨⟨dq, osq⟩, hw''⟩ := hw'
 subst hw''
 have hBx3 := below_regrown W1 dq osq
 generalize grow (redrawn W1 dq) osq = x3 at *
 clear dq osq
 clear k0 k10
 go_wp2_with fail
 go_ret
 exact ⟨rfl, below_up hB1 hBx3⟩
theorem ask3_is (p : Ph) (hp : p.Right) (b : Nat) (op : Int) (ka : Option Addr) (kn kc : Nat) (text : ByteArray) (lo hi : Int) (aa : Option Addr) (an ac : Nat) (V : World) (hb : Blk V b #[.int .i64 op, .slice ka kn kc, .string text, .int .i64 lo, .int .i64 hi, .slice aa an ac] 25) (hI : p.In V) :
  Calls Tryz.prog 125 #[.agg #[.int .i64 p.id, .string p.file, .int .i64 p.mom, .int .i64 p.zone, .slice p.wa p.wn p.wc, .int .i64 p.W, .int .i64 p.H, .int .i64 p.turn, .int .i64 p.stars, .slice p.ta p.tn p.tc, .string p.cap, .slice p.pa p.pn p.pc, .bool p.hid], .pointer (some ⟨b, 0, none⟩)] V fun e w' => e = .returned (.bool (Fd.hit (fun i => lo == p.who i) p.pn)) ∧ Below V.heap.size V w' := by
 obtain ⟨W1, hW1, hP, hz1, hB1⟩ := bxP V p
 have HW1 := Lib.hid hW1
 obtain ⟨q0, q1, q2, q3, q4, q5, q6, q7, q8, q9, q10, q11, q12⟩ := hP.photo
 have HI1 := Lib.hid (hI.keep hB1)
 clear hW1 hz1
 obtain ⟨l0, l1, l2, l3, l4, l5⟩ := (hb.keep hB1).six
 have HC := Lib.hid (hasI_is p.pa p.pn p.pc p.who lo W1 HI1.out.people hp.fits.pn)
 clear hI
 go_enter Tryz.func125, Tryz.ntmps125
 go_upto_region 1 with fail
 rw [HW1.out]
 go_wp2_with (go_at_call 126; (with_reducible refine HC.out.mono ?_); rintro e w4 ⟨rfl, hB4⟩)
 go_ret
 exact ⟨rfl, below_up hB1 hB4⟩
theorem ask4_is (p : Ph) (b : Nat) (op : Int) (ka : Option Addr) (kn kc : Nat) (text : ByteArray) (lo hi : Int) (aa : Option Addr) (an ac : Nat) (V : World) (hb : Blk V b #[.int .i64 op, .slice ka kn kc, .string text, .int .i64 lo, .int .i64 hi, .slice aa an ac] 25) (hI : p.In V) :
  Calls Tryz.prog 127 #[.agg #[.int .i64 p.id, .string p.file, .int .i64 p.mom, .int .i64 p.zone, .slice p.wa p.wn p.wc, .int .i64 p.W, .int .i64 p.H, .int .i64 p.turn, .int .i64 p.stars, .slice p.ta p.tn p.tc, .string p.cap, .slice p.pa p.pn p.pc, .bool p.hid], .pointer (some ⟨b, 0, none⟩)] V fun e w' => e = .returned (.bool (decide (lo ≤ p.stars ∧ p.stars ≤ hi))) ∧ Below V.heap.size V w' := by
 obtain ⟨W1, hW1, hP, hz1, hB1⟩ := bxP V p
 have HW1 := Lib.hid hW1
 obtain ⟨q0, q1, q2, q3, q4, q5, q6, q7, q8, q9, q10, q11, q12⟩ := hP.photo
 have HI1 := Lib.hid (hI.keep hB1)
 clear hW1 hz1
 obtain ⟨l0, l1, l2, l3, l4, l5⟩ := (hb.keep hB1).six
 have HC := Lib.hid (fun W => outsideF_is p.stars lo hi _ rfl W)
 clear hI
 go_enter Tryz.func127, Tryz.ntmps127
 go_upto_region 1 with fail
 rw [HW1.out]
 go_wp2_with (go_at_call 32; (with_reducible refine (HC.out _).mono ?_); rintro e w4 ⟨rfl, rfl⟩)
 go_ret
 exact ⟨ret_bool (by simp), hB1⟩
theorem ask5_is (p : Ph) (hp : p.Right) (b : Nat) (op : Int) (ka : Option Addr) (kn kc : Nat) (text : ByteArray) (lo hi : Int) (aa : Option Addr) (an ac : Nat) (V : World) (hb : Blk V b #[.int .i64 op, .slice ka kn kc, .string text, .int .i64 lo, .int .i64 hi, .slice aa an ac] 25) (hI : p.In V) :
  Calls Tryz.prog 128 #[.agg #[.int .i64 p.id, .string p.file, .int .i64 p.mom, .int .i64 p.zone, .slice p.wa p.wn p.wc, .int .i64 p.W, .int .i64 p.H, .int .i64 p.turn, .int .i64 p.stars, .slice p.ta p.tn p.tc, .string p.cap, .slice p.pa p.pn p.pc, .bool p.hid], .pointer (some ⟨b, 0, none⟩)] V fun e w' => e = .returned (.bool (decide (0 ≤ p.mom) && decide (lo ≤ p.mom + 60 * p.zone ∧ p.mom + 60 * p.zone ≤ hi))) ∧ Below V.heap.size V w' := by
 obtain ⟨⟨t1, t2⟩, t3⟩ := hp.time
 obtain ⟨W1, hW1, hP, hz1, hB1⟩ := bxP V p
 have HW1 := Lib.hid hW1
 obtain ⟨q0, q1, q2, q3, q4, q5, q6, q7, q8, q9, q10, q11, q12⟩ := hP.photo
 have HI1 := Lib.hid (hI.keep hB1)
 clear hW1 hz1
 obtain ⟨l0, l1, l2, l3, l4, l5⟩ := (hb.keep hB1).six
 have HO := Lib.hid (fun dd os => Calls.regrown_of ((outsideF_is (p.mom + 60 * p.zone) lo hi (decide (lo ≤ p.mom + 60 * p.zone ∧ p.mom + 60 * p.zone ≤ hi)) rfl (grow (redrawn W1 dd) os)).mono fun e w' h => ⟨h.1, h.2 ▸ Below.refl _ _⟩))
 have k0 := cell_regrown q0; have k1 := cell_regrown q1; have k2 := cell_regrown q2; have k3 := cell_regrown q3; have k4 := cell_regrown q4; have k5 := cell_regrown q5; have k6 := cell_regrown q6; have k7 := cell_regrown q7; have k8 := cell_regrown q8; have k9 := cell_regrown q9; have k10 := cell_regrown q10; have k11 := cell_regrown q11; have k12 := cell_regrown q12
 have m3 := cell_regrown l3; have m4 := cell_regrown l4
 clear hI
 by_cases h0 : 0 ≤ p.mom
 ·have HL := Lib.hid (fun dd os => Calls.regrown_of (localP_is p (grow (redrawn W1 dd) os) ⟨h0, t2⟩ t3))
  have e0 : decide (0 ≤ p.mom) = true := by simpa using h0
  rw [e0]
  go_enter Tryz.func128, Tryz.ntmps128
  go_upto_region 1 with fail
  rw [HW1.out]
  refine wp_region_quiet_below (by kernel_rfl) (by kernel_rfl) ?_
  repeat (go_big_quiet_step ((first | (go_at_call 84; with_reducible exact HL.out _ _) | (go_at_call 32; with_reducible exact HO.out _ _))))
  refine wpQuiet_nil ?_
  intro _ hw'
  obtain ⟨⟨dq, osq⟩, hw''⟩ := hw'
  subst hw''
  have hBx3 := below_regrown W1 dq osq
  generalize grow (redrawn W1 dq) osq = x3 at *
  clear dq osq
  clear k0 k1 k2 k3 k4 k5 k6 k7 k8 k9 k10 k11 k12 m3 m4
  go_wp2_with fail
  go_ret
  exact ⟨ret_bool (by simp), below_up hB1 hBx3⟩
 ·have e0 : decide (0 ≤ p.mom) = false := by simpa using h0
  have e1 : (0 ≤ p.mom) = False := by simpa using h0
  rw [e0]
  go_enter Tryz.func128, Tryz.ntmps128
  go_upto_region 1 with fail
  rw [HW1.out]
  refine wp_region_quiet_below (by kernel_rfl) (by kernel_rfl) ?_
  repeat (go_big_quiet_step (fail))
  refine wpQuiet_nil ?_
  intro _ hw'
  obtain ⟨⟨dq, osq⟩, hw''⟩ := hw'
  subst hw''
  have hBx3 := below_regrown W1 dq osq
  generalize grow (redrawn W1 dq) osq = x3 at *
  clear dq osq
  clear k0 k1 k2 k3 k4 k5 k6 k7 k8 k9 k10 k11 k12 m3 m4
  go_wp2_with fail
  go_ret
  exact ⟨ret_bool (by simp), below_up hB1 hBx3⟩

theorem ask6_is (p : Ph) (hp : p.Right) (V : World) : Calls Tryz.prog 129 #[.agg #[.int .i64 p.id, .string p.file, .int .i64 p.mom, .int .i64 p.zone, .slice p.wa p.wn p.wc, .int .i64 p.W, .int .i64 p.H, .int .i64 p.turn, .int .i64 p.stars, .slice p.ta p.tn p.tc, .string p.cap, .slice p.pa p.pn p.pc, .bool p.hid]] V fun e w' => e = .returned (.bool (decide (0 < Hd.tall p))) ∧ Below V.heap.size V w' := by
 have hI := True.intro
 obtain ⟨W1, hW1, hP, hz1, hB1⟩ := bxP V p
 have HW1 := Lib.hid hW1
 obtain ⟨q0, q1, q2, q3, q4, q5, q6, q7, q8, q9, q10, q11, q12⟩ := hP.photo
 clear hW1 hz1
 have HC := Lib.hid (higher_is p hp W1)
 generalize Hd.tall p = t at *
 go_enter Tryz.func129, Tryz.ntmps129
 go_upto_region 1 with fail
 rw [HW1.out]
 go_wp2_with (go_at_call 130; (with_reducible refine HC.out.mono ?_); rintro e w4 ⟨rfl, hB4⟩)
 go_ret
 exact ⟨ret_bool (by first | rfl | simp), below_up hB1 hB4⟩

theorem ask7_is (p : Ph) (hp : p.Right) (V : World) : Calls Tryz.prog 131 #[.agg #[.int .i64 p.id, .string p.file, .int .i64 p.mom, .int .i64 p.zone, .slice p.wa p.wn p.wc, .int .i64 p.W, .int .i64 p.H, .int .i64 p.turn, .int .i64 p.stars, .slice p.ta p.tn p.tc, .string p.cap, .slice p.pa p.pn p.pc, .bool p.hid]] V fun e w' => e = .returned (.bool (decide (Hd.tall p < 0))) ∧ Below V.heap.size V w' := by
 have hI := True.intro
 obtain ⟨W1, hW1, hP, hz1, hB1⟩ := bxP V p
 have HW1 := Lib.hid hW1
 obtain ⟨q0, q1, q2, q3, q4, q5, q6, q7, q8, q9, q10, q11, q12⟩ := hP.photo
 clear hW1 hz1
 have HC := Lib.hid (higher_is p hp W1)
 generalize Hd.tall p = t at *
 go_enter Tryz.func131, Tryz.ntmps131
 go_upto_region 1 with fail
 rw [HW1.out]
 go_wp2_with (go_at_call 130; (with_reducible refine HC.out.mono ?_); rintro e w4 ⟨rfl, hB4⟩)
 go_ret
 exact ⟨ret_bool (by first | rfl | simp), below_up hB1 hB4⟩

theorem ask8_is (p : Ph) (hp : p.Right) (V : World) : Calls Tryz.prog 132 #[.agg #[.int .i64 p.id, .string p.file, .int .i64 p.mom, .int .i64 p.zone, .slice p.wa p.wn p.wc, .int .i64 p.W, .int .i64 p.H, .int .i64 p.turn, .int .i64 p.stars, .slice p.ta p.tn p.tc, .string p.cap, .slice p.pa p.pn p.pc, .bool p.hid]] V fun e w' => e = .returned (.bool (decide (Hd.tall p = 0))) ∧ Below V.heap.size V w' := by
 have hI := True.intro
 obtain ⟨W1, hW1, hP, hz1, hB1⟩ := bxP V p
 have HW1 := Lib.hid hW1
 obtain ⟨q0, q1, q2, q3, q4, q5, q6, q7, q8, q9, q10, q11, q12⟩ := hP.photo
 clear hW1 hz1
 have HC := Lib.hid (higher_is p hp W1)
 generalize Hd.tall p = t at *
 go_enter Tryz.func132, Tryz.ntmps132
 go_upto_region 1 with fail
 rw [HW1.out]
 go_wp2_with (go_at_call 130; (with_reducible refine HC.out.mono ?_); rintro e w4 ⟨rfl, hB4⟩)
 go_ret
 exact ⟨ret_bool (by first | rfl | simp), below_up hB1 hB4⟩
theorem ask9_is (p : Ph) (V : World) : Calls Tryz.prog 133 #[.agg #[.int .i64 p.id, .string p.file, .int .i64 p.mom, .int .i64 p.zone, .slice p.wa p.wn p.wc, .int .i64 p.W, .int .i64 p.H, .int .i64 p.turn, .int .i64 p.stars, .slice p.ta p.tn p.tc, .string p.cap, .slice p.pa p.pn p.pc, .bool p.hid]] V fun e w' => e = .returned (.bool (!(p.turn == 1))) ∧ Below V.heap.size V w' := by
 have hI := True.intro
 obtain ⟨W1, hW1, hP, hz1, hB1⟩ := bxP V p
 have HW1 := Lib.hid hW1
 obtain ⟨q0, q1, q2, q3, q4, q5, q6, q7, q8, q9, q10, q11, q12⟩ := hP.photo
 clear hW1 hz1
 go_enter Tryz.func133, Tryz.ntmps133
 go_upto_region 1 with fail
 rw [HW1.out]
 go_wp2_with fail
 go_ret
 exact ⟨ret_bool (by first | rfl | simp [bne]), hB1⟩
theorem ask13_is (p : Ph) (V : World) : Calls Tryz.prog 140 #[.agg #[.int .i64 p.id, .string p.file, .int .i64 p.mom, .int .i64 p.zone, .slice p.wa p.wn p.wc, .int .i64 p.W, .int .i64 p.H, .int .i64 p.turn, .int .i64 p.stars, .slice p.ta p.tn p.tc, .string p.cap, .slice p.pa p.pn p.pc, .bool p.hid]] V fun e w' => e = .returned (.bool p.hid) ∧ Below V.heap.size V w' := by
 obtain ⟨W1, hW1, hP, hz1, hB1⟩ := bxP V p
 have HW1 := Lib.hid hW1
 obtain ⟨q0, q1, q2, q3, q4, q5, q6, q7, q8, q9, q10, q11, q12⟩ := hP.photo
 clear hW1 hz1
 go_enter Tryz.func140, Tryz.ntmps140
 go_upto_region 1 with fail
 rw [HW1.out]
 go_wp2_with fail
 go_ret
 exact ⟨rfl, hB1⟩
theorem ask10_is (a o : Int) (V : World) : Calls Tryz.prog 135 #[.agg #[.int .i64 a, .int .i64 o]] V fun e w' => e = .returned (.bool true) ∧ Below V.heap.size V w' := by
 obtain ⟨W1, hW1, hP, hz1, hB1⟩ := box V #[.int .i64 a, .int .i64 o] 112
 have HW1 := Lib.hid hW1
 clear hW1 hz1
 go_enter Tryz.func135, Tryz.ntmps135
 go_upto_region 1 with fail
 rw [HW1.out]
 go_wp2_with fail
 go_ret
 exact ⟨rfl, hB1⟩
theorem ask11_is (a o : Int) (b : Nat) (op : Int) (ka : Option Addr) (kn kc : Nat) (text : ByteArray) (lo hi : Int) (aa : Option Addr) (an ac : Nat) (lat lon : Nat → Int) (V : World) (hb : Blk V b #[.int .i64 op, .slice ka kn kc, .string text, .int .i64 lo, .int .i64 hi, .slice aa an ac] 25) (hr : Row2 V aa an (fun i => .int .i64 (lat i)) (fun i => .int .i64 (lon i))) (hn : an = 1) :
  Calls Tryz.prog 136 #[.agg #[.int .i64 a, .int .i64 o], .pointer (some ⟨b, 0, none⟩)] V fun e w' => e = .returned (.bool (decide (Hd.dist a o (lat 0) (lon 0) ≤ lo))) ∧ Below V.heap.size V w' := by
 subst hn
 obtain ⟨W1, hW1, hP, hz1, hB1⟩ := box V #[.int .i64 a, .int .i64 o] 112
 have HW1 := Lib.hid hW1
 obtain ⟨p0, p1⟩ := hP.two
 have hb1 := hb.keep hB1
 obtain ⟨l0, l1, l2, l3, l4, l5⟩ := hb1.six
 obtain ⟨g, off, rfl, hg, hc⟩ := (hr.keep hB1) (by omega)
 have x0 := (hc 0 (by omega)).1; have x1 := (hc 0 (by omega)).2
 simp only [Nat.zero_mul, Nat.add_zero] at x0 x1
 obtain ⟨dd0, hdd⟩ := Hd.dist_is a o (lat 0) (lon 0)
 have HD := Lib.hid (fun dd os => Calls.regrown_of (hdd (grow (redrawn W1 dd) os)))
 have k0 := cell_regrown x0; have k1 := cell_regrown x1; have k5 := cell_regrown l5; have m0 := cell_regrown p0; have m1 := cell_regrown p1
 clear hW1 hz1 hr hc hdd
 generalize Hd.dist a o (lat 0) (lon 0) = d at *
 generalize lat 0 = a0 at *; generalize lon 0 = o0 at *
 go_enter Tryz.func136, Tryz.ntmps136
 go_upto_region 1 with fail
 rw [HW1.out]
 refine wp_region_quiet_below (by kernel_rfl) (by kernel_rfl) ?_
 repeat (go_big_quiet_step ((go_at_call 137; with_reducible exact HD.out _ _)))
 refine wpQuiet_nil ?_
 intro _ hw'
 obtain ⟨⟨dq, osq⟩, hw''⟩ := hw'
 subst hw''
 have hBx3 := below_regrown W1 dq osq
 generalize grow (redrawn W1 dq) osq = x3 at *
 clear dq osq
 obtain ⟨n0, n1, n2, n3, n4, n5⟩ := (hb1.keep hBx3).six
 clear k0 k1 k5 m0 m1
 go_wp2_with fail
 go_ret
 exact ⟨ret_bool (by simp), below_up hB1 hBx3⟩
theorem ask12_is (a o : Int) (b : Nat) (op : Int) (ka : Option Addr) (kn kc : Nat) (text : ByteArray) (lo hi : Int) (aa : Option Addr) (an ac : Nat) (lat lon : Nat → Int) (V : World) (hb : Blk V b #[.int .i64 op, .slice ka kn kc, .string text, .int .i64 lo, .int .i64 hi, .slice aa an ac] 25) (hr : Row2 V aa an (fun i => .int .i64 (lat i)) (fun i => .int .i64 (lon i))) (hn : an = 2) :
  Calls Tryz.prog 138 #[.agg #[.int .i64 a, .int .i64 o], .pointer (some ⟨b, 0, none⟩)] V fun e w' => e = .returned (.bool (Hd.box a o (lat 0) (lon 0) (lat 1) (lon 1))) ∧ Below V.heap.size V w' := by
 obtain ⟨W1, hW1, hP, hz1, hB1⟩ := box V #[.int .i64 a, .int .i64 o] 112
 have HW1 := Lib.hid hW1
 obtain ⟨p0, p1⟩ := hP.two
 obtain ⟨l0, l1, l2, l3, l4, l5⟩ := (hb.keep hB1).six
 have HC := Lib.hid (inBox_is a o aa an ac lat lon W1 (hr.keep hB1) hn)
 clear hW1 hz1 hr hn
 go_enter Tryz.func138, Tryz.ntmps138
 go_upto_region 1 with fail
 rw [HW1.out]
 go_wp2_with (go_at_call 139; (with_reducible refine HC.out.mono ?_); rintro e w4 ⟨rfl, hB4⟩)
 go_ret
 exact ⟨rfl, below_up hB1 hB4⟩
theorem plc1_is (g : Nat) (lb : Array Value) (eg : ∀ args w, (callFunc g args).run Tryz.prog w = .ok (.enter g args) w) (q : Bool) (p : Ph) (b : Nat) (V : World) (hb : Blk V b #[.func (.func g) #[] lb] 116) (hI : p.In V)
  (hc : 0 < p.wn → ∀ W, Below V.heap.size V W → Calls Tryz.prog g (#[.agg #[.int .i64 (p.lat 0), .int .i64 (p.lon 0)]] ++ lb) W fun e w' => e = .returned (.bool q) ∧ Below W.heap.size W w') :
  Calls Tryz.prog 172 #[.agg #[.int .i64 p.id, .string p.file, .int .i64 p.mom, .int .i64 p.zone, .slice p.wa p.wn p.wc, .int .i64 p.W, .int .i64 p.H, .int .i64 p.turn, .int .i64 p.stars, .slice p.ta p.tn p.tc, .string p.cap, .slice p.pa p.pn p.pc, .bool p.hid], .pointer (some ⟨b, 0, none⟩)] V fun e w' => e = .returned (.bool (decide (0 < p.wn) && q)) ∧ Below V.heap.size V w' := by
 obtain ⟨W1, hW1, hP, hz1, hB1⟩ := bxP V p
 have HW1 := Lib.hid hW1
 obtain ⟨q0, q1, q2, q3, q4, q5, q6, q7, q8, q9, q10, q11, q12⟩ := hP.photo
 have HI1 := Lib.hid (hI.keep hB1)
 clear hW1 hz1
 have l0 := (hb.keep hB1).one
 have k0 := cell_regrown l0
 have k4 := cell_regrown q4
 have hI1 := HI1.out.places
 by_cases h0 : 0 < p.wn
 ·obtain ⟨b2, off, hwa, hb2, hcc⟩ := hI1 h0
  have x0 := (hcc 0 h0).1; have x1 := (hcc 0 h0).2
  simp only [Nat.zero_mul, Nat.add_zero] at x0 x1
  rw [hwa] at k4 q4
  have HC := Lib.hid (fun dd os => Calls.regrown_of (hc h0 (grow (redrawn W1 dd) os) (below_up hB1 (below_regrown W1 dd os))))
  have y0 := cell_regrown x0; have y1 := cell_regrown x1
  have e0 : decide (0 < p.wn) = true := by simpa using h0
  rw [e0]
  clear hc hI hcc hI1 hwa
  generalize p.lat 0 = a0 at *; generalize p.lon 0 = o0 at *
  generalize p.wn = wn at *
  have h1 : (0 : Int) < (wn : Int) := by omega
  go_enter Tryz.func172, Tryz.ntmps172
  go_upto_region 1 with fail
  rw [HW1.out]
  refine wp_region_quiet_below (by kernel_rfl) (by kernel_rfl) ?_
  repeat (go_big_quiet_step ((go_at_fn g; with_reducible exact HC.out _ _)))
  refine wpQuiet_nil ?_
  intro _ hw'
  obtain ⟨⟨dq, osq⟩, hw''⟩ := hw'
  subst hw''
  have hBx3 := below_regrown W1 dq osq
  generalize grow (redrawn W1 dq) osq = x3 at *
  clear dq osq
  clear k0 k4 y0 y1
  go_wp2_with fail
  go_ret
  exact ⟨ret_bool (by simp), below_up hB1 hBx3⟩
 ·obtain ⟨wn, hwn⟩ : ∃ wn, p.wn = wn := ⟨_, rfl⟩
  obtain rfl : wn = 0 := by omega
  have e0 : decide (0 < p.wn) = false := by simpa using h0
  rw [e0]
  rw [hwn] at k4 q4
  clear hc hI hI1 hwn h0 e0
  go_enter Tryz.func172, Tryz.ntmps172
  go_upto_region 1 with fail
  rw [HW1.out]
  refine wp_region_quiet_below (by kernel_rfl) (by kernel_rfl) ?_
  repeat (go_big_quiet_step (fail))
  refine wpQuiet_nil ?_
  intro _ hw'
  obtain ⟨⟨dq, osq⟩, hw''⟩ := hw'
  subst hw''
  have hBx3 := below_regrown W1 dq osq
  generalize grow (redrawn W1 dq) osq = x3 at *
  clear dq osq
  clear k0 k4
  go_wp2_with fail
  go_ret
  exact ⟨ret_bool (by simp), below_up hB1 hBx3⟩
def NodeIs (f : Ph → Bool) (D : Nat → Prop) (w : World) (v : Value) : Prop :=
 ∃ T u g, v = .iface T u ∧ (∀ n W, (nilAhead (n + 1) T u "tintype/find.holds").run Tryz.prog W = .ok (some false) W) ∧ (∀ n W, (method (n + 1) T u "tintype/find.holds").run Tryz.prog W = .ok (g, u) W) ∧
   (∀ args W, (callFunc g args).run Tryz.prog W = .ok (.enter g args) W) ∧
   ∀ V (p : Ph), (∀ b, D b → V.heap[b]? = w.heap[b]?) → p.In V → p.Right → Calls Tryz.prog g #[u, .agg #[.int .i64 p.id, .string p.file, .int .i64 p.mom, .int .i64 p.zone, .slice p.wa p.wn p.wc, .int .i64 p.W, .int .i64 p.H, .int .i64 p.turn, .int .i64 p.stars, .slice p.ta p.tn p.tc, .string p.cap, .slice p.pa p.pn p.pc, .bool p.hid]] V fun e w' => e = .returned (.bool (f p)) ∧ Below V.heap.size V w'
theorem NodeIs.keep {f : Ph → Bool} {D : Nat → Prop} {w w' : World} {v : Value} (h : NodeIs f D w v) (hb : ∀ b, D b → w'.heap[b]? = w.heap[b]?) : NodeIs f D w' v := by
 obtain ⟨T, u, g, h1, h2, h3, h4, h5⟩ := h
 exact ⟨T, u, g, h1, h2, h3, h4, fun V p hV hI hR => h5 V p (fun b hD => (hV b hD).trans (hb b hD)) hI hR⟩
theorem NodeIs.below {f : Ph → Bool} {D : Nat → Prop} {w w' : World} {v : Value} (h : NodeIs f D w v) (hD : ∀ b, D b → b < w.heap.size) (hb : Below w.heap.size w w') : NodeIs f D w' v :=
 h.keep fun b h => hb.block b (hD b h)
theorem NodeIs.wide {f : Ph → Bool} {D E : Nat → Prop} {w : World} {v : Value} (h : NodeIs f D w v) (hE : ∀ b, D b → E b) : NodeIs f E w v := by
 obtain ⟨T, u, g, h1, h2, h3, h4, h5⟩ := h
 exact ⟨T, u, g, h1, h2, h3, h4, fun V p hV hI hR => h5 V p (fun b hD => hV b (hE b hD)) hI hR⟩

theorem nil_all (u : Value) (n : Nat) (W : World) : (nilAhead (n + 1) 123 u "tintype/find.holds").run Tryz.prog W = .ok (some false) W := by kernel_rfl
theorem meth_all (u : Value) (n : Nat) (W : World) : (method (n + 1) 123 u "tintype/find.holds").run Tryz.prog W = .ok (305, u) W := by kernel_rfl
theorem eg_all : ∀ args W, (callFunc 305 args).run Tryz.prog W = .ok (.enter 305 args) W := enters_of Tryz.func305 (by kernel_rfl) rfl

theorem nil_some (u : Value) (n : Nat) (W : World) : (nilAhead (n + 1) 124 u "tintype/find.holds").run Tryz.prog W = .ok (some false) W := by kernel_rfl
theorem meth_some (u : Value) (n : Nat) (W : World) : (method (n + 1) 124 u "tintype/find.holds").run Tryz.prog W = .ok (306, u) W := by kernel_rfl
theorem eg_some : ∀ args W, (callFunc 306 args).run Tryz.prog W = .ok (.enter 306 args) W := enters_of Tryz.func306 (by kernel_rfl) rfl

theorem nil_no (u : Value) (n : Nat) (W : World) : (nilAhead (n + 1) 126 u "tintype/find.holds").run Tryz.prog W = .ok (some false) W := by kernel_rfl
theorem meth_no (u : Value) (n : Nat) (W : World) : (method (n + 1) 126 u "tintype/find.holds").run Tryz.prog W = .ok (307, u) W := by kernel_rfl
theorem eg_no : ∀ args W, (callFunc 307 args).run Tryz.prog W = .ok (.enter 307 args) W := enters_of Tryz.func307 (by kernel_rfl) rfl

theorem nil_leaf (u : Value) (n : Nat) (W : World) : (nilAhead (n + 1) 129 u "tintype/find.holds").run Tryz.prog W = .ok (some false) W := by kernel_rfl
theorem meth_leaf (u : Value) (n : Nat) (W : World) : (method (n + 1) 129 u "tintype/find.holds").run Tryz.prog W = .ok (308, u) W := by kernel_rfl
theorem eg_leaf : ∀ args W, (callFunc 308 args).run Tryz.prog W = .ok (.enter 308 args) W := enters_of Tryz.func308 (by kernel_rfl) rfl

theorem allHolds_is (p : Ph) (hR : p.Right) (f : Nat → Ph → Bool) (D : Nat → Prop) (a : Option Addr) (n ca : Nat) (x : Nat → Value) (w : World) (hr : Row w a n x) (hD : ∀ b, D b → b < w.heap.size) (hx : ∀ i, i < n → NodeIs (f i) D w (x i)) (hn : n ≤ 9223372036854775807) (hI : p.In w) :
  Calls Tryz.prog 305 #[.slice a n ca, .agg #[.int .i64 p.id, .string p.file, .int .i64 p.mom, .int .i64 p.zone, .slice p.wa p.wn p.wc, .int .i64 p.W, .int .i64 p.H, .int .i64 p.turn, .int .i64 p.stars, .slice p.ta p.tn p.tc, .string p.cap, .slice p.pa p.pn p.pc, .bool p.hid]] w fun e w' => e = .returned (.bool (Hd.all (fun i => f i p) n)) ∧ Below w.heap.size w w' := by
 obtain ⟨W1, hW1, hP, hz1, hB1⟩ := bxP w p
 have HW1 := Lib.hid hW1
 have HR := Lib.hid hr; have HX := Lib.hid hx; have HI := Lib.hid hI; have HD := Lib.hid hD
 have HY := Lib.hid (fun (h : ∀ j, j < n → f j p = true) => Hd.all_yes (f := fun i => f i p) h)
 have HN := Lib.hid (fun j (hj : j < n) (h : f j p = false) => Hd.all_no (f := fun i => f i p) hj h)
 generalize Hd.all (fun i => f i p) n = q at *
 clear hW1 hz1 hr hx hI hD
 go_enter Tryz.func305, Tryz.ntmps305
 go_upto_region 1 with fail
 rw [HW1.out]
 go_wp2_with fail
 go_loopg [9] n (fun gk i wr => ∃ j : Nat, j ≤ n ∧ gk = n - j ∧ i = .int .i64 j ∧ (∀ k, k < j → f k p = true) ∧ Below W1.heap.size W1 wr)
 case atStart => exact ⟨0, by omega, rfl, rfl, fun k hk => by omega, Below.refl _ _⟩
 case round =>
  obtain ⟨j, hj, rfl, rfl, hall, hB⟩ := hrel
  have HALL := Lib.hid hall; clear hall
  have hB0 := below_up hB1 hB
  by_cases hlt : j < n
  ·obtain ⟨b, off, rfl, hb, hcell⟩ := (HR.out.keep hB0) (by omega)
   have c0 := hcell j hlt
   clear hcell
   obtain ⟨T, u, g, hv, hn1, hn2, eg, hcall⟩ := (HX.out j hlt).below HD.out hB0
   rw [hv] at c0
   obtain ⟨q0, q1, q2, q3, q4, q5, q6, q7, q8, q9, q10, q11, q12⟩ := (hP.keep hB).photo
   have HC := Lib.hid (hcall wr p (fun _ _ => rfl) (HI.out.keep hB0) hR)
   clear hv hcall
   cases hf : f j p
   ·have HF := Lib.hid hf
    rw [hf] at HC
    clear hf
    go_wp2_with (go_at_fn g; refine HC.out.mono ?_; rintro e w5 ⟨rfl, hB5⟩)
    go_ret
    exact ⟨ret_bool (HN.out j hlt HF.out).symm, below_up hB0 hB5⟩
   ·have HF := Lib.hid hf
    rw [hf] at HC
    clear hf
    go_wp2_with (go_at_fn g; refine HC.out.mono ?_; rintro e w5 ⟨rfl, hB5⟩)
    go_roundg (n - (j + 1))
    case rel => exact ⟨j + 1, by omega, rfl, by go_num, fun k hk => by (by_cases e : k = j); (subst e; exact HF.out); exact HALL.out k (by omega), below_up hB hB5⟩
    case measure => omega
  ·obtain rfl : j = n := by omega
   go_wp2_with fail
   go_ret
   exact ⟨ret_bool (HY.out HALL.out).symm, hB0⟩

theorem someHolds_is (p : Ph) (hR : p.Right) (f : Nat → Ph → Bool) (D : Nat → Prop) (a : Option Addr) (n ca : Nat) (x : Nat → Value) (w : World) (hr : Row w a n x) (hD : ∀ b, D b → b < w.heap.size) (hx : ∀ i, i < n → NodeIs (f i) D w (x i)) (hn : n ≤ 9223372036854775807) (hI : p.In w) :
  Calls Tryz.prog 306 #[.slice a n ca, .agg #[.int .i64 p.id, .string p.file, .int .i64 p.mom, .int .i64 p.zone, .slice p.wa p.wn p.wc, .int .i64 p.W, .int .i64 p.H, .int .i64 p.turn, .int .i64 p.stars, .slice p.ta p.tn p.tc, .string p.cap, .slice p.pa p.pn p.pc, .bool p.hid]] w fun e w' => e = .returned (.bool (Fd.hit (fun i => f i p) n)) ∧ Below w.heap.size w w' := by
 obtain ⟨W1, hW1, hP, hz1, hB1⟩ := bxP w p
 have HW1 := Lib.hid hW1
 have HR := Lib.hid hr; have HX := Lib.hid hx; have HI := Lib.hid hI; have HD := Lib.hid hD
 have HY := Lib.hid (fun (h : ∀ j, j < n → f j p = false) => Hd.hit_no (f := fun i => f i p) h)
 have HN := Lib.hid (fun j (hj : j < n) (h : f j p = true) => Hd.hit_yes (f := fun i => f i p) hj h)
 generalize Fd.hit (fun i => f i p) n = q at *
 clear hW1 hz1 hr hx hI hD
 go_enter Tryz.func306, Tryz.ntmps306
 go_upto_region 1 with fail
 rw [HW1.out]
 go_wp2_with fail
 go_loopg [9] n (fun gk i wr => ∃ j : Nat, j ≤ n ∧ gk = n - j ∧ i = .int .i64 j ∧ (∀ k, k < j → f k p = false) ∧ Below W1.heap.size W1 wr)
 case atStart => exact ⟨0, by omega, rfl, rfl, fun k hk => by omega, Below.refl _ _⟩
 case round =>
  obtain ⟨j, hj, rfl, rfl, hall, hB⟩ := hrel
  have HALL := Lib.hid hall; clear hall
  have hB0 := below_up hB1 hB
  by_cases hlt : j < n
  ·obtain ⟨b, off, rfl, hb, hcell⟩ := (HR.out.keep hB0) (by omega)
   have c0 := hcell j hlt
   clear hcell
   obtain ⟨T, u, g, hv, hn1, hn2, eg, hcall⟩ := (HX.out j hlt).below HD.out hB0
   rw [hv] at c0
   obtain ⟨q0, q1, q2, q3, q4, q5, q6, q7, q8, q9, q10, q11, q12⟩ := (hP.keep hB).photo
   have HC := Lib.hid (hcall wr p (fun _ _ => rfl) (HI.out.keep hB0) hR)
   clear hv hcall
   cases hf : f j p
   ·have HF := Lib.hid hf
    rw [hf] at HC
    clear hf
    go_wp2_with (go_at_fn g; refine HC.out.mono ?_; rintro e w5 ⟨rfl, hB5⟩)
    go_roundg (n - (j + 1))
    case rel => exact ⟨j + 1, by omega, rfl, by go_num, fun k hk => by (by_cases e : k = j); (subst e; exact HF.out); exact HALL.out k (by omega), below_up hB hB5⟩
    case measure => omega
   ·have HF := Lib.hid hf
    rw [hf] at HC
    clear hf
    go_wp2_with (go_at_fn g; refine HC.out.mono ?_; rintro e w5 ⟨rfl, hB5⟩)
    go_ret
    exact ⟨ret_bool (HN.out j hlt HF.out).symm, below_up hB0 hB5⟩
  ·obtain rfl : j = n := by omega
   go_wp2_with fail
   go_ret
   exact ⟨ret_bool (HY.out HALL.out).symm, hB0⟩
theorem noHolds_is (p : Ph) (hR : p.Right) (f : Ph → Bool) (D : Nat → Prop) (v : Value) (w : World) (hD : ∀ b, D b → b < w.heap.size) (hx : NodeIs f D w v) (hI : p.In w) :
  Calls Tryz.prog 307 #[.agg #[v], .agg #[.int .i64 p.id, .string p.file, .int .i64 p.mom, .int .i64 p.zone, .slice p.wa p.wn p.wc, .int .i64 p.W, .int .i64 p.H, .int .i64 p.turn, .int .i64 p.stars, .slice p.ta p.tn p.tc, .string p.cap, .slice p.pa p.pn p.pc, .bool p.hid]] w fun e w' => e = .returned (.bool (!f p)) ∧ Below w.heap.size w w' := by
 obtain ⟨T, u, g, rfl, hn1, hn2, eg, hcall⟩ := hx
 obtain ⟨W1, hW1, hN, hz1, hB1⟩ := box w #[.iface T u] 126
 obtain ⟨W2, hW2, hP, hz2, hB2⟩ := bxP W1 p
 have HW1 := Lib.hid hW1; have HW2 := Lib.hid hW2
 have hB := below_up hB1 hB2
 rw [hz1] at hP
 have n0 := (hN.keep hB2).one
 obtain ⟨q0, q1, q2, q3, q4, q5, q6, q7, q8, q9, q10, q11, q12⟩ := hP.photo
 have HC := Lib.hid (hcall W2 p (fun b h => hB.block b (hD b h)) (hI.keep hB) hR)
 clear hW1 hW2 hz1 hz2 hcall hD hI
 generalize f p = q at *
 go_enter Tryz.func307, Tryz.ntmps307
 go_upto_region 1 with fail
 rw [HW1.out, HW2.out]
 go_wp2_with (go_at_fn g; refine HC.out.mono ?_; rintro e w5 ⟨rfl, hB5⟩)
 go_ret
 exact ⟨rfl, below_up hB hB5⟩
def AskIs (f : Ph → Bool) (D : Nat → Prop) (w : World) (g : Nat) (lb : Array Value) : Prop :=
 (∀ args W, (callFunc g args).run Tryz.prog W = .ok (.enter g args) W) ∧
 ∀ V (p : Ph), (∀ b, D b → V.heap[b]? = w.heap[b]?) → p.In V → p.Right → Calls Tryz.prog g (#[.agg #[.int .i64 p.id, .string p.file, .int .i64 p.mom, .int .i64 p.zone, .slice p.wa p.wn p.wc, .int .i64 p.W, .int .i64 p.H, .int .i64 p.turn, .int .i64 p.stars, .slice p.ta p.tn p.tc, .string p.cap, .slice p.pa p.pn p.pc, .bool p.hid]] ++ lb) V fun e w' => e = .returned (.bool (f p)) ∧ Below V.heap.size V w'
theorem leafHolds_is (p : Ph) (hR : p.Right) (f : Ph → Bool) (D : Nat → Prop) (g : Nat) (lb : Array Value) (op : Int) (ka : Option Addr) (kn kc : Nat) (text : ByteArray) (lo hi : Int) (aa : Option Addr) (an ac : Nat) (w : World) (hD : ∀ b, D b → b < w.heap.size) (hx : AskIs f D w g lb) (hI : p.In w) :
  Calls Tryz.prog 308 #[.agg #[.int .i64 op, .slice ka kn kc, .string text, .int .i64 lo, .int .i64 hi, .slice aa an ac, .func (.func g) #[] lb], .agg #[.int .i64 p.id, .string p.file, .int .i64 p.mom, .int .i64 p.zone, .slice p.wa p.wn p.wc, .int .i64 p.W, .int .i64 p.H, .int .i64 p.turn, .int .i64 p.stars, .slice p.ta p.tn p.tc, .string p.cap, .slice p.pa p.pn p.pc, .bool p.hid]] w fun e w' => e = .returned (.bool (f p)) ∧ Below w.heap.size w w' := by
 obtain ⟨eg, hcall⟩ := hx
 obtain ⟨W1, hW1, hN, hz1, hB1⟩ := box w #[.int .i64 op, .slice ka kn kc, .string text, .int .i64 lo, .int .i64 hi, .slice aa an ac, .func (.func g) #[] lb] 129
 obtain ⟨W2, hW2, hP, hz2, hB2⟩ := bxP W1 p
 have HW1 := Lib.hid hW1; have HW2 := Lib.hid hW2
 have hB := below_up hB1 hB2
 rw [hz1] at hP
 have n0 : W2.cell? ⟨w.heap.size, 6, none⟩ = some (.func (.func g) #[] lb) := by have := hN.keep hB2; simp only [this.cell]; rfl
 obtain ⟨q0, q1, q2, q3, q4, q5, q6, q7, q8, q9, q10, q11, q12⟩ := hP.photo
 have HC := Lib.hid (hcall W2 p (fun b h => hB.block b (hD b h)) (hI.keep hB) hR)
 clear hW1 hW2 hz1 hz2 hcall hD hI
 generalize f p = q at *
 go_enter Tryz.func308, Tryz.ntmps308
 go_upto_region 1 with fail
 rw [HW1.out, HW2.out]
 go_wp2_with (go_at_fn g; refine HC.out.mono ?_; rintro e w5 ⟨rfl, hB5⟩)
 go_ret
 exact ⟨rfl, below_up hB hB5⟩
def Dm (w0 w w' : World) (b : Nat) : Prop := b < w0.heap.size ∨ (w.heap.size ≤ b ∧ b < w'.heap.size)
def AskPost (w0 w : World) (f : Ph → Bool) (e : Ending) (w' : World) : Prop :=
 ∃ g lb, e = .returned (.func (.func g) #[] lb) ∧ AskIs f (Dm w0 w w') w' g lb ∧ Below w.heap.size w w'
theorem Row2.same {w0 V : World} {a : Option Addr} {n : Nat} {f g : Nat → Value} (h : Row2 w0 a n f g) (hb : ∀ b, b < w0.heap.size → V.heap[b]? = w0.heap[b]?) (hs : w0.heap.size ≤ V.heap.size) : Row2 V a n f g := by
 intro hn
 obtain ⟨b, off, rfl, hlt, hc⟩ := h hn
 have hcell : ∀ o, V.cell? ⟨b, o, none⟩ = w0.cell? ⟨b, o, none⟩ := fun o => by unfold World.cell?; rw [hb b hlt]
 exact ⟨b, off, rfl, Nat.lt_of_lt_of_le hlt hs, fun i hi => ⟨(hcell _).trans (hc i hi).1, (hcell _).trans (hc i hi).2⟩⟩
theorem MxL.same {w0 V : World} (h : MxL w0) (hb : ∀ b, b < w0.heap.size → V.heap[b]? = w0.heap[b]?) : MxL V := by
 obtain ⟨m, hm⟩ := h
 refine ⟨m, ?_⟩
 have hlt := World.block_lt_of_cell? w0 _ hm
 rw [← hm]
 unfold World.cell?
 rw [hb _ hlt]
structure AskAt (w0 w V w' : World) : Prop where
 same : ∀ b, b < w0.heap.size → V.heap[b]? = w0.heap[b]?
 new : ∀ b, w.heap.size ≤ b → b < w'.heap.size → V.heap[b]? = w'.heap[b]?
theorem askAt {w0 w V w' : World} (h0 : Below w0.heap.size w0 w) (h1 : Below w.heap.size w w') (hV : ∀ b, Dm w0 w w' b → V.heap[b]? = w'.heap[b]?) : AskAt w0 w V w' :=
 ⟨fun b hb => (hV b (.inl hb)).trans ((h1.block b (Nat.lt_of_lt_of_le hb h0.size)).trans (h0.block b hb)), fun b h1 h2 => hV b (.inr ⟨h1, h2⟩)⟩
theorem askAt_size {w0 w V w' : World} (h : AskAt w0 w V w') (h0 : Below w0.heap.size w0 w) : w0.heap.size ≤ V.heap.size := by
 rcases Nat.lt_or_ge V.heap.size w0.heap.size with g | g
 ·have := h.same _ g
  rw [Array.getElem?_eq_none (Nat.le_refl _)] at this
  rw [Array.getElem?_eq_getElem g] at this
  cases this
 ·exact g
theorem placed_fn (g : Nat) (lb : Array Value) (w : World) : Calls Tryz.prog 134 #[.func (.func g) #[] lb] w fun e w' => e = .returned (.func (.func 172) #[] #[.pointer (some ⟨w.heap.size, 0, none⟩)]) ∧ w' = w.alloc (.cells #[.func (.func g) #[] lb] 116) := by
 go_enter Tryz.func134, Tryz.ntmps134
 go_wp2_with fail
 go_ret
 exact ⟨rfl, rfl⟩
theorem egPlc : ∀ args W, (callFunc 172 args).run Tryz.prog W = .ok (.enter 172 args) W := enters_of Tryz.func172 (by kernel_rfl) rfl

theorem asking_4 (ka : Option Addr) (kn kc : Nat) (text : ByteArray) (lo hi : Int) (aa : Option Addr) (an ac : Nat) (lat lon : Nat → Int) (w0 w : World) (h0 : Below w0.heap.size w0 w) : Calls Tryz.prog 82 #[.agg #[.int .i64 4, .slice ka kn kc, .string text, .int .i64 lo, .int .i64 hi, .slice aa an ac]] w (AskPost w0 w fun p => Hd.leaf p 4 text lo hi lat lon) := by
 have eg : ∀ args W, (callFunc 120 args).run Tryz.prog W = .ok (.enter 120 args) W := enters_of Tryz.func120 (by kernel_rfl) rfl
 obtain ⟨W1, hW1, hP, hz1, hB1⟩ := box w #[.int .i64 4, .slice ka kn kc, .string text, .int .i64 lo, .int .i64 hi, .slice aa an ac] 25
 have HW1 := Lib.hid hW1
 obtain ⟨l0, l1, l2, l3, l4, l5⟩ := hP.six
 clear hW1 hz1
 go_enter Tryz.func82, Tryz.ntmps82
 go_upto_region 1 with fail
 rw [HW1.out]
 go_wp2_with fail
 go_ret
 refine ⟨_, _, rfl, ⟨eg, fun V p hV hI hR => ?_⟩, hB1⟩
 have hA := askAt h0 hB1 hV
 have hb : Blk V w.heap.size #[.int .i64 4, .slice ka kn kc, .string text, .int .i64 lo, .int .i64 hi, .slice aa an ac] 25 := (hA.new _ (Nat.le_refl _) hP.lt).trans hP
 exact ask1_is p hR _ 4 ka kn kc text lo hi aa an ac V hb hI

theorem asking_6 (ka : Option Addr) (kn kc : Nat) (text : ByteArray) (lo hi : Int) (aa : Option Addr) (an ac : Nat) (lat lon : Nat → Int) (w0 w : World) (h0 : Below w0.heap.size w0 w) : Calls Tryz.prog 82 #[.agg #[.int .i64 6, .slice ka kn kc, .string text, .int .i64 lo, .int .i64 hi, .slice aa an ac]] w (AskPost w0 w fun p => Hd.leaf p 6 text lo hi lat lon) := by
 have eg : ∀ args W, (callFunc 125 args).run Tryz.prog W = .ok (.enter 125 args) W := enters_of Tryz.func125 (by kernel_rfl) rfl
 obtain ⟨W1, hW1, hP, hz1, hB1⟩ := box w #[.int .i64 6, .slice ka kn kc, .string text, .int .i64 lo, .int .i64 hi, .slice aa an ac] 25
 have HW1 := Lib.hid hW1
 obtain ⟨l0, l1, l2, l3, l4, l5⟩ := hP.six
 clear hW1 hz1
 go_enter Tryz.func82, Tryz.ntmps82
 go_upto_region 1 with fail
 rw [HW1.out]
 go_wp2_with fail
 go_ret
 refine ⟨_, _, rfl, ⟨eg, fun V p hV hI hR => ?_⟩, hB1⟩
 have hA := askAt h0 hB1 hV
 have hb : Blk V w.heap.size #[.int .i64 6, .slice ka kn kc, .string text, .int .i64 lo, .int .i64 hi, .slice aa an ac] 25 := (hA.new _ (Nat.le_refl _) hP.lt).trans hP
 exact ask3_is p hR _ 6 ka kn kc text lo hi aa an ac V hb hI

theorem asking_7 (ka : Option Addr) (kn kc : Nat) (text : ByteArray) (lo hi : Int) (aa : Option Addr) (an ac : Nat) (lat lon : Nat → Int) (w0 w : World) (h0 : Below w0.heap.size w0 w) : Calls Tryz.prog 82 #[.agg #[.int .i64 7, .slice ka kn kc, .string text, .int .i64 lo, .int .i64 hi, .slice aa an ac]] w (AskPost w0 w fun p => Hd.leaf p 7 text lo hi lat lon) := by
 have eg : ∀ args W, (callFunc 127 args).run Tryz.prog W = .ok (.enter 127 args) W := enters_of Tryz.func127 (by kernel_rfl) rfl
 obtain ⟨W1, hW1, hP, hz1, hB1⟩ := box w #[.int .i64 7, .slice ka kn kc, .string text, .int .i64 lo, .int .i64 hi, .slice aa an ac] 25
 have HW1 := Lib.hid hW1
 obtain ⟨l0, l1, l2, l3, l4, l5⟩ := hP.six
 clear hW1 hz1
 go_enter Tryz.func82, Tryz.ntmps82
 go_upto_region 1 with fail
 rw [HW1.out]
 go_wp2_with fail
 go_ret
 refine ⟨_, _, rfl, ⟨eg, fun V p hV hI hR => ?_⟩, hB1⟩
 have hA := askAt h0 hB1 hV
 have hb : Blk V w.heap.size #[.int .i64 7, .slice ka kn kc, .string text, .int .i64 lo, .int .i64 hi, .slice aa an ac] 25 := (hA.new _ (Nat.le_refl _) hP.lt).trans hP
 exact ask4_is p _ 7 ka kn kc text lo hi aa an ac V hb hI

theorem asking_8 (ka : Option Addr) (kn kc : Nat) (text : ByteArray) (lo hi : Int) (aa : Option Addr) (an ac : Nat) (lat lon : Nat → Int) (w0 w : World) (h0 : Below w0.heap.size w0 w) : Calls Tryz.prog 82 #[.agg #[.int .i64 8, .slice ka kn kc, .string text, .int .i64 lo, .int .i64 hi, .slice aa an ac]] w (AskPost w0 w fun p => Hd.leaf p 8 text lo hi lat lon) := by
 have eg : ∀ args W, (callFunc 128 args).run Tryz.prog W = .ok (.enter 128 args) W := enters_of Tryz.func128 (by kernel_rfl) rfl
 obtain ⟨W1, hW1, hP, hz1, hB1⟩ := box w #[.int .i64 8, .slice ka kn kc, .string text, .int .i64 lo, .int .i64 hi, .slice aa an ac] 25
 have HW1 := Lib.hid hW1
 obtain ⟨l0, l1, l2, l3, l4, l5⟩ := hP.six
 clear hW1 hz1
 go_enter Tryz.func82, Tryz.ntmps82
 go_upto_region 1 with fail
 rw [HW1.out]
 go_wp2_with fail
 go_ret
 refine ⟨_, _, rfl, ⟨eg, fun V p hV hI hR => ?_⟩, hB1⟩
 have hA := askAt h0 hB1 hV
 have hb : Blk V w.heap.size #[.int .i64 8, .slice ka kn kc, .string text, .int .i64 lo, .int .i64 hi, .slice aa an ac] 25 := (hA.new _ (Nat.le_refl _) hP.lt).trans hP
 exact ask5_is p hR _ 8 ka kn kc text lo hi aa an ac V hb hI

theorem asking_9 (ka : Option Addr) (kn kc : Nat) (text : ByteArray) (lo hi : Int) (aa : Option Addr) (an ac : Nat) (lat lon : Nat → Int) (w0 w : World) (h0 : Below w0.heap.size w0 w) : Calls Tryz.prog 82 #[.agg #[.int .i64 9, .slice ka kn kc, .string text, .int .i64 lo, .int .i64 hi, .slice aa an ac]] w (AskPost w0 w fun p => Hd.leaf p 9 text lo hi lat lon) := by
 have eg : ∀ args W, (callFunc 129 args).run Tryz.prog W = .ok (.enter 129 args) W := enters_of Tryz.func129 (by kernel_rfl) rfl
 obtain ⟨W1, hW1, hP, hz1, hB1⟩ := box w #[.int .i64 9, .slice ka kn kc, .string text, .int .i64 lo, .int .i64 hi, .slice aa an ac] 25
 have HW1 := Lib.hid hW1
 obtain ⟨l0, l1, l2, l3, l4, l5⟩ := hP.six
 clear hW1 hz1
 go_enter Tryz.func82, Tryz.ntmps82
 go_upto_region 1 with fail
 rw [HW1.out]
 go_wp2_with fail
 go_ret
 refine ⟨_, _, rfl, ⟨eg, fun V p hV hI hR => ?_⟩, hB1⟩
 have hA := askAt h0 hB1 hV
 have hb : Blk V w.heap.size #[.int .i64 9, .slice ka kn kc, .string text, .int .i64 lo, .int .i64 hi, .slice aa an ac] 25 := (hA.new _ (Nat.le_refl _) hP.lt).trans hP
 exact ask6_is p hR V

theorem asking_10 (ka : Option Addr) (kn kc : Nat) (text : ByteArray) (lo hi : Int) (aa : Option Addr) (an ac : Nat) (lat lon : Nat → Int) (w0 w : World) (h0 : Below w0.heap.size w0 w) : Calls Tryz.prog 82 #[.agg #[.int .i64 10, .slice ka kn kc, .string text, .int .i64 lo, .int .i64 hi, .slice aa an ac]] w (AskPost w0 w fun p => Hd.leaf p 10 text lo hi lat lon) := by
 have eg : ∀ args W, (callFunc 131 args).run Tryz.prog W = .ok (.enter 131 args) W := enters_of Tryz.func131 (by kernel_rfl) rfl
 obtain ⟨W1, hW1, hP, hz1, hB1⟩ := box w #[.int .i64 10, .slice ka kn kc, .string text, .int .i64 lo, .int .i64 hi, .slice aa an ac] 25
 have HW1 := Lib.hid hW1
 obtain ⟨l0, l1, l2, l3, l4, l5⟩ := hP.six
 clear hW1 hz1
 go_enter Tryz.func82, Tryz.ntmps82
 go_upto_region 1 with fail
 rw [HW1.out]
 go_wp2_with fail
 go_ret
 refine ⟨_, _, rfl, ⟨eg, fun V p hV hI hR => ?_⟩, hB1⟩
 have hA := askAt h0 hB1 hV
 have hb : Blk V w.heap.size #[.int .i64 10, .slice ka kn kc, .string text, .int .i64 lo, .int .i64 hi, .slice aa an ac] 25 := (hA.new _ (Nat.le_refl _) hP.lt).trans hP
 exact ask7_is p hR V

theorem asking_11 (ka : Option Addr) (kn kc : Nat) (text : ByteArray) (lo hi : Int) (aa : Option Addr) (an ac : Nat) (lat lon : Nat → Int) (w0 w : World) (h0 : Below w0.heap.size w0 w) : Calls Tryz.prog 82 #[.agg #[.int .i64 11, .slice ka kn kc, .string text, .int .i64 lo, .int .i64 hi, .slice aa an ac]] w (AskPost w0 w fun p => Hd.leaf p 11 text lo hi lat lon) := by
 have eg : ∀ args W, (callFunc 132 args).run Tryz.prog W = .ok (.enter 132 args) W := enters_of Tryz.func132 (by kernel_rfl) rfl
 obtain ⟨W1, hW1, hP, hz1, hB1⟩ := box w #[.int .i64 11, .slice ka kn kc, .string text, .int .i64 lo, .int .i64 hi, .slice aa an ac] 25
 have HW1 := Lib.hid hW1
 obtain ⟨l0, l1, l2, l3, l4, l5⟩ := hP.six
 clear hW1 hz1
 go_enter Tryz.func82, Tryz.ntmps82
 go_upto_region 1 with fail
 rw [HW1.out]
 go_wp2_with fail
 go_ret
 refine ⟨_, _, rfl, ⟨eg, fun V p hV hI hR => ?_⟩, hB1⟩
 have hA := askAt h0 hB1 hV
 have hb : Blk V w.heap.size #[.int .i64 11, .slice ka kn kc, .string text, .int .i64 lo, .int .i64 hi, .slice aa an ac] 25 := (hA.new _ (Nat.le_refl _) hP.lt).trans hP
 exact ask8_is p hR V

theorem asking_12 (ka : Option Addr) (kn kc : Nat) (text : ByteArray) (lo hi : Int) (aa : Option Addr) (an ac : Nat) (lat lon : Nat → Int) (w0 w : World) (h0 : Below w0.heap.size w0 w) : Calls Tryz.prog 82 #[.agg #[.int .i64 12, .slice ka kn kc, .string text, .int .i64 lo, .int .i64 hi, .slice aa an ac]] w (AskPost w0 w fun p => Hd.leaf p 12 text lo hi lat lon) := by
 have eg : ∀ args W, (callFunc 133 args).run Tryz.prog W = .ok (.enter 133 args) W := enters_of Tryz.func133 (by kernel_rfl) rfl
 obtain ⟨W1, hW1, hP, hz1, hB1⟩ := box w #[.int .i64 12, .slice ka kn kc, .string text, .int .i64 lo, .int .i64 hi, .slice aa an ac] 25
 have HW1 := Lib.hid hW1
 obtain ⟨l0, l1, l2, l3, l4, l5⟩ := hP.six
 clear hW1 hz1
 go_enter Tryz.func82, Tryz.ntmps82
 go_upto_region 1 with fail
 rw [HW1.out]
 go_wp2_with fail
 go_ret
 refine ⟨_, _, rfl, ⟨eg, fun V p hV hI hR => ?_⟩, hB1⟩
 have hA := askAt h0 hB1 hV
 have hb : Blk V w.heap.size #[.int .i64 12, .slice ka kn kc, .string text, .int .i64 lo, .int .i64 hi, .slice aa an ac] 25 := (hA.new _ (Nat.le_refl _) hP.lt).trans hP
 exact ask9_is p V

theorem asking_16 (ka : Option Addr) (kn kc : Nat) (text : ByteArray) (lo hi : Int) (aa : Option Addr) (an ac : Nat) (lat lon : Nat → Int) (w0 w : World) (h0 : Below w0.heap.size w0 w) : Calls Tryz.prog 82 #[.agg #[.int .i64 16, .slice ka kn kc, .string text, .int .i64 lo, .int .i64 hi, .slice aa an ac]] w (AskPost w0 w fun p => Hd.leaf p 16 text lo hi lat lon) := by
 have eg : ∀ args W, (callFunc 140 args).run Tryz.prog W = .ok (.enter 140 args) W := enters_of Tryz.func140 (by kernel_rfl) rfl
 obtain ⟨W1, hW1, hP, hz1, hB1⟩ := box w #[.int .i64 16, .slice ka kn kc, .string text, .int .i64 lo, .int .i64 hi, .slice aa an ac] 25
 have HW1 := Lib.hid hW1
 obtain ⟨l0, l1, l2, l3, l4, l5⟩ := hP.six
 clear hW1 hz1
 go_enter Tryz.func82, Tryz.ntmps82
 go_upto_region 1 with fail
 rw [HW1.out]
 go_wp2_with fail
 go_ret
 refine ⟨_, _, rfl, ⟨eg, fun V p hV hI hR => ?_⟩, hB1⟩
 have hA := askAt h0 hB1 hV
 have hb : Blk V w.heap.size #[.int .i64 16, .slice ka kn kc, .string text, .int .i64 lo, .int .i64 hi, .slice aa an ac] 25 := (hA.new _ (Nat.le_refl _) hP.lt).trans hP
 exact ask13_is p V
theorem asking_5 (ka : Option Addr) (kn kc : Nat) (text : ByteArray) (lo hi : Int) (aa : Option Addr) (an ac : Nat) (lat lon : Nat → Int) (w0 w : World) (h0 : Below w0.heap.size w0 w) (hmx : MxL w0) (ht : text.size ≤ 200) : Calls Tryz.prog 82 #[.agg #[.int .i64 5, .slice ka kn kc, .string text, .int .i64 lo, .int .i64 hi, .slice aa an ac]] w (AskPost w0 w fun p => Hd.leaf p 5 text lo hi lat lon) := by
 have eg : ∀ args W, (callFunc 123 args).run Tryz.prog W = .ok (.enter 123 args) W := enters_of Tryz.func123 (by kernel_rfl) rfl
 have HC := Lib.hid (fun W => lower_is text ht W)
 obtain ⟨W1, hW1, hP, hz1, hB1⟩ := box w #[.int .i64 5, .slice ka kn kc, .string text, .int .i64 lo, .int .i64 hi, .slice aa an ac] 25
 have HW1 := Lib.hid hW1
 obtain ⟨l0, l1, l2, l3, l4, l5⟩ := hP.six
 clear hW1 hz1
 go_enter Tryz.func82, Tryz.ntmps82
 go_upto_region 1 with fail
 rw [HW1.out]
 go_wp2_with (go_at_call 122; (with_reducible refine (HC.out _).mono ?_); rintro e w4 ⟨rfl, hB4⟩)
 go_ret
 have hB := below_up hB1 hB4
 have hBx := below_allocs hB (.cells #[.string (Hd.low text)] 9)
 refine ⟨_, _, rfl, ⟨eg, fun V p hV hI hR => ?_⟩, hBx⟩
 have hA := askAt h0 hBx hV
 have hb : Blk V w4.heap.size #[.string (Hd.low text)] 9 := (hA.new _ hB.size (by simp)).trans (Blk.new w4 _ _)
 exact ask2_is p hR _ _ V hb (hmx.same hA.same) hI

theorem asking_13 (ka : Option Addr) (kn kc : Nat) (text : ByteArray) (lo hi : Int) (aa : Option Addr) (an ac : Nat) (lat lon : Nat → Int) (w0 w : World) (h0 : Below w0.heap.size w0 w) (hr : Row2 w0 aa an (fun i => .int .i64 (lat i)) (fun i => .int .i64 (lon i)))  : Calls Tryz.prog 82 #[.agg #[.int .i64 13, .slice ka kn kc, .string text, .int .i64 lo, .int .i64 hi, .slice aa an ac]] w (AskPost w0 w fun p => Hd.leaf p 13 text lo hi lat lon) := by
 have eg2 : ∀ args W, (callFunc 135 args).run Tryz.prog W = .ok (.enter 135 args) W := enters_of Tryz.func135 (by kernel_rfl) rfl
 have HC := Lib.hid (fun lb W => placed_fn 135 lb W)
 obtain ⟨W1, hW1, hP, hz1, hB1⟩ := box w #[.int .i64 13, .slice ka kn kc, .string text, .int .i64 lo, .int .i64 hi, .slice aa an ac] 25
 have HW1 := Lib.hid hW1
 obtain ⟨l0, l1, l2, l3, l4, l5⟩ := hP.six
 clear hW1 hz1
 go_enter Tryz.func82, Tryz.ntmps82
 go_upto_region 1 with fail
 rw [HW1.out]
 go_wp2_with (go_at_call 134; (with_reducible refine (HC.out _ _).mono ?_); rintro e w4 ⟨rfl, rfl⟩)
 go_ret
 have hBx := below_allocs hB1 (.cells #[.func (.func 135) #[] #[]] 116)
 refine ⟨_, _, rfl, ⟨egPlc, fun V p hV hI hR => ?_⟩, hBx⟩
 have hA := askAt h0 hBx hV
 have hs := askAt_size hA h0
 have hb : Blk V w.heap.size #[.int .i64 13, .slice ka kn kc, .string text, .int .i64 lo, .int .i64 hi, .slice aa an ac] 25 := (hA.new _ (Nat.le_refl _) (by have := hP.lt; simp; omega)).trans (hP.alloc _)
 have hb2 : Blk V W1.heap.size #[.func (.func 135) #[] #[]] 116 := (hA.new _ hB1.size (by simp)).trans (Blk.new W1 _ _)
 have hr2 := hr.same (V := V) hA.same hs
 have h := plc1_is 135 _ eg2 (true) p _ V hb2 hI (fun _ W hW => ask10_is _ _ W)
 first
  | with_reducible exact h
  | exact h
  | (rw [Bool.and_true] at h; exact h)

theorem asking_14 (ka : Option Addr) (kn kc : Nat) (text : ByteArray) (lo hi : Int) (aa : Option Addr) (an ac : Nat) (lat lon : Nat → Int) (w0 w : World) (h0 : Below w0.heap.size w0 w) (hr : Row2 w0 aa an (fun i => .int .i64 (lat i)) (fun i => .int .i64 (lon i))) (hn : Hid (an = 1)) : Calls Tryz.prog 82 #[.agg #[.int .i64 14, .slice ka kn kc, .string text, .int .i64 lo, .int .i64 hi, .slice aa an ac]] w (AskPost w0 w fun p => Hd.leaf p 14 text lo hi lat lon) := by
 have eg2 : ∀ args W, (callFunc 136 args).run Tryz.prog W = .ok (.enter 136 args) W := enters_of Tryz.func136 (by kernel_rfl) rfl
 have HC := Lib.hid (fun lb W => placed_fn 136 lb W)
 obtain ⟨W1, hW1, hP, hz1, hB1⟩ := box w #[.int .i64 14, .slice ka kn kc, .string text, .int .i64 lo, .int .i64 hi, .slice aa an ac] 25
 have HW1 := Lib.hid hW1
 obtain ⟨l0, l1, l2, l3, l4, l5⟩ := hP.six
 clear hW1 hz1
 go_enter Tryz.func82, Tryz.ntmps82
 go_upto_region 1 with fail
 rw [HW1.out]
 go_wp2_with (go_at_call 134; (with_reducible refine (HC.out _ _).mono ?_); rintro e w4 ⟨rfl, rfl⟩)
 go_ret
 have hBx := below_allocs hB1 (.cells #[.func (.func 136) #[] #[.pointer (some ⟨w.heap.size, 0, none⟩)]] 116)
 refine ⟨_, _, rfl, ⟨egPlc, fun V p hV hI hR => ?_⟩, hBx⟩
 have hA := askAt h0 hBx hV
 have hs := askAt_size hA h0
 have hb : Blk V w.heap.size #[.int .i64 14, .slice ka kn kc, .string text, .int .i64 lo, .int .i64 hi, .slice aa an ac] 25 := (hA.new _ (Nat.le_refl _) (by have := hP.lt; simp; omega)).trans (hP.alloc _)
 have hb2 : Blk V W1.heap.size #[.func (.func 136) #[] #[.pointer (some ⟨w.heap.size, 0, none⟩)]] 116 := (hA.new _ hB1.size (by simp)).trans (Blk.new W1 _ _)
 have hr2 := hr.same (V := V) hA.same hs
 have h := plc1_is 136 _ eg2 (decide (Hd.dist (p.lat 0) (p.lon 0) (lat 0) (lon 0) ≤ lo)) p _ V hb2 hI (fun _ W hW => ask11_is _ _ _ 14 ka kn kc text lo hi aa an ac lat lon W (hb.keep hW) (hr2.keep hW) hn.out)
 first
  | with_reducible exact h
  | exact h
  | (rw [Bool.and_true] at h; exact h)

theorem asking_15 (ka : Option Addr) (kn kc : Nat) (text : ByteArray) (lo hi : Int) (aa : Option Addr) (an ac : Nat) (lat lon : Nat → Int) (w0 w : World) (h0 : Below w0.heap.size w0 w) (hr : Row2 w0 aa an (fun i => .int .i64 (lat i)) (fun i => .int .i64 (lon i))) (hn : Hid (an = 2)) : Calls Tryz.prog 82 #[.agg #[.int .i64 15, .slice ka kn kc, .string text, .int .i64 lo, .int .i64 hi, .slice aa an ac]] w (AskPost w0 w fun p => Hd.leaf p 15 text lo hi lat lon) := by
 have eg2 : ∀ args W, (callFunc 138 args).run Tryz.prog W = .ok (.enter 138 args) W := enters_of Tryz.func138 (by kernel_rfl) rfl
 have HC := Lib.hid (fun lb W => placed_fn 138 lb W)
 obtain ⟨W1, hW1, hP, hz1, hB1⟩ := box w #[.int .i64 15, .slice ka kn kc, .string text, .int .i64 lo, .int .i64 hi, .slice aa an ac] 25
 have HW1 := Lib.hid hW1
 obtain ⟨l0, l1, l2, l3, l4, l5⟩ := hP.six
 clear hW1 hz1
 go_enter Tryz.func82, Tryz.ntmps82
 go_upto_region 1 with fail
 rw [HW1.out]
 go_wp2_with (go_at_call 134; (with_reducible refine (HC.out _ _).mono ?_); rintro e w4 ⟨rfl, rfl⟩)
 go_ret
 have hBx := below_allocs hB1 (.cells #[.func (.func 138) #[] #[.pointer (some ⟨w.heap.size, 0, none⟩)]] 116)
 refine ⟨_, _, rfl, ⟨egPlc, fun V p hV hI hR => ?_⟩, hBx⟩
 have hA := askAt h0 hBx hV
 have hs := askAt_size hA h0
 have hb : Blk V w.heap.size #[.int .i64 15, .slice ka kn kc, .string text, .int .i64 lo, .int .i64 hi, .slice aa an ac] 25 := (hA.new _ (Nat.le_refl _) (by have := hP.lt; simp; omega)).trans (hP.alloc _)
 have hb2 : Blk V W1.heap.size #[.func (.func 138) #[] #[.pointer (some ⟨w.heap.size, 0, none⟩)]] 116 := (hA.new _ hB1.size (by simp)).trans (Blk.new W1 _ _)
 have hr2 := hr.same (V := V) hA.same hs
 have h := plc1_is 138 _ eg2 (Hd.box (p.lat 0) (p.lon 0) (lat 0) (lon 0) (lat 1) (lon 1)) p _ V hb2 hI (fun _ W hW => ask12_is _ _ _ 15 ka kn kc text lo hi aa an ac lat lon W (hb.keep hW) (hr2.keep hW) hn.out)
 first
  | with_reducible exact h
  | exact h
  | (rw [Bool.and_true] at h; exact h)
theorem asking_is (c : Cnd) (hg : c.Good) (h4 : 4 ≤ c.op) (w0 w : World) (hI : c.In w0) (h0 : Below w0.heap.size w0 w) (hmx : MxL w0) : Calls Tryz.prog 82 #[.agg #[.int .i64 c.op, .slice c.ka c.kn c.kc, .string c.text, .int .i64 c.low, .int .i64 c.high, .slice c.aa c.an c.ac]] w (AskPost w0 w fun p => Hd.leaf p c.op c.text c.low c.high c.lat c.lon) := by
 have hop := hg.op
 have h1 := hg.at1; have h2 := hg.at2; have h3 := hg.says; have hr := hI.row
 generalize c.op = k at *
 have : k = 4 ∨ k = 5 ∨ k = 6 ∨ k = 7 ∨ k = 8 ∨ k = 9 ∨ k = 10 ∨ k = 11 ∨ k = 12 ∨ k = 13 ∨ k = 14 ∨ k = 15 ∨ k = 16 := by omega
 rcases this with rfl | rfl | rfl | rfl | rfl | rfl | rfl | rfl | rfl | rfl | rfl | rfl | rfl
 ·exact asking_4 _ _ _ _ _ _ _ _ _ _ _ w0 w h0
 ·exact asking_5 _ _ _ _ _ _ _ _ _ _ _ w0 w h0 hmx (h3 rfl).2
 ·exact asking_6 _ _ _ _ _ _ _ _ _ _ _ w0 w h0
 ·exact asking_7 _ _ _ _ _ _ _ _ _ _ _ w0 w h0
 ·exact asking_8 _ _ _ _ _ _ _ _ _ _ _ w0 w h0
 ·exact asking_9 _ _ _ _ _ _ _ _ _ _ _ w0 w h0
 ·exact asking_10 _ _ _ _ _ _ _ _ _ _ _ w0 w h0
 ·exact asking_11 _ _ _ _ _ _ _ _ _ _ _ w0 w h0
 ·exact asking_12 _ _ _ _ _ _ _ _ _ _ _ w0 w h0
 ·exact asking_13 _ _ _ _ _ _ _ _ _ _ _ w0 w h0 hr
 ·exact asking_14 _ _ _ _ _ _ _ _ _ _ _ w0 w h0 hr (Lib.hid (h1 rfl))
 ·exact asking_15 _ _ _ _ _ _ _ _ _ _ _ w0 w h0 hr (Lib.hid (h2 rfl))
 ·exact asking_16 _ _ _ _ _ _ _ _ _ _ _ w0 w h0
theorem infoNode : (Tryz.prog.info? 81).map (fun i => (i.zero, i.size, i.bytes)) = some (some .nilIface, 1, 16) := by kernel_rfl
theorem Dm.lt {w0 w w' : World} {b : Nat} (h0 : w0.heap.size ≤ w.heap.size) (h1 : w.heap.size ≤ w'.heap.size) (h : Dm w0 w w' b) : b < w'.heap.size := by
 rcases h with h | h <;> omega
theorem AskIs.keep {f : Ph → Bool} {D : Nat → Prop} {w V : World} {g : Nat} {lb : Array Value} (h : AskIs f D w g lb) (hV : ∀ b, D b → V.heap[b]? = w.heap[b]?) : AskIs f D V g lb :=
 ⟨h.1, fun V' p h' hI hR => h.2 V' p (fun b hb => (h' b hb).trans (hV b hb)) hI hR⟩
structure Kids (w0 w W1 : World) (c : Cnd) (j : Nat) (v : Value) (wr : World) : Prop where
 rows : ∃ xs, wr.ownsRow W1.heap.size 81 1 v j xs ∧ ∀ k, k < j → ∃ x D, xs[k]? = some x ∧ NodeIs (fun p => (c.kids k).holds p) D wr x ∧ ∀ b, D b → (b < w0.heap.size ∨ w.heap.size ≤ b) ∧ b < wr.heap.size ∧ v.ownBlock ≠ some b
 bel : Below W1.heap.size W1 wr
theorem Kids.next {w0 w W1 : World} {c : Cnd} {j : Nat} {v x : Value} {wr w7 w8 : World} {g cap : Nat} {E : Nat → Prop} (h : Kids w0 w W1 c j v wr) (hw0 : w0.heap.size ≤ w.heap.size) (hw : w.heap.size ≤ W1.heap.size) (hB7 : Below wr.heap.size wr w7) (hx : NodeIs (fun p => (c.kids j).holds p) E w7 x) (hE : ∀ b, E b → b < w0.heap.size ∨ (wr.heap.size ≤ b ∧ b < w7.heap.size)) (o : Obj)
  (xs : List Value) (hxs : wr.ownsRow W1.heap.size 81 1 v j xs) (hall : ∀ k, k < j → ∃ x D, xs[k]? = some x ∧ NodeIs (fun p => (c.kids k).holds p) D wr x ∧ ∀ b, D b → (b < w0.heap.size ∨ w.heap.size ≤ b) ∧ b < wr.heap.size ∧ v.ownBlock ≠ some b)
  (hown : w8.ownsRow W1.heap.size 81 1 (.slice (some ⟨g, 0, none⟩) (j + 1) cap) (j + 1) (xs ++ [x])) (hgr : (w7.alloc o).grownBy w8 v.ownBlock) (hnew : NewOr (w7.alloc o) v.ownBlock g) : Kids w0 w W1 c (j + 1) (.slice (some ⟨g, 0, none⟩) (j + 1) cap) w8 := by
 have hs7 := hB7.size
 have hs8 : w7.heap.size + 1 ≤ w8.heap.size := by have := hgr.size; simp at this; omega
 have hWr := h.bel.size
 have hlen : xs.length = j := by have := hxs.1; omega
 have hbl : ∀ b, b < w7.heap.size → v.ownBlock ≠ some b → w8.heap[b]? = w7.heap[b]? := by
  intro b hb hne
  rw [hgr.block b (by simp; omega) (fun e => hne e.symm)]
  exact Below.heap_alloc w7 o b hb
 have hlt : ∀ b, v.ownBlock = some b → W1.heap.size ≤ b ∧ b < wr.heap.size := hxs.lt
 refine ⟨⟨_, hown, ?_⟩, ?_⟩
 ·intro k hk
  by_cases e : k = j
  ·subst e
   refine ⟨x, E, by rw [List.getElem?_append_right (by omega)]; simp [hlen], hx.keep fun b hb => hbl b ?_ ?_, fun b hb => ⟨?_, ?_, ?_⟩⟩
   ·rcases hE b hb with h1 | h1 <;> omega
   ·intro e; have := hlt b e; rcases hE b hb with h1 | h1 <;> omega
   ·rcases hE b hb with h1 | h1 <;> omega
   ·rcases hE b hb with h1 | h1 <;> omega
   ·intro e
    have e : g = b := by simpa [Value.ownBlock] using e
    subst e
    rcases hnew with h1 | h1
    ·have := hlt g h1; rcases hE g hb with h2 | h2 <;> omega
    ·simp at h1; rcases hE g hb with h2 | h2 <;> omega
  ·obtain ⟨y, D, hy, hN, hD⟩ := hall k (by omega)
   refine ⟨y, D, by rw [List.getElem?_append_left (by omega)]; exact hy, hN.keep fun b hb => ?_, fun b hb => ⟨(hD b hb).1, ?_, ?_⟩⟩
   ·have := hD b hb
    exact (hbl b (by omega) this.2.2).trans (hB7.block b this.2.1)
   ·have := hD b hb; omega
   ·intro e
    have e : g = b := by simpa [Value.ownBlock] using e
    subst e
    have h3 := hD g hb
    rcases hnew with h1 | h1
    ·exact h3.2.2 h1
    ·simp at h1; omega
 ·refine h.bel.trans ((hB7.mono hWr).trans ?_)
  have hal : Below W1.heap.size w7 (w7.alloc o) := (Below.refl _ _).alloc (by omega) o
  refine hal.trans ⟨hgr.os, hgr.tape, hgr.output, hgr.size, fun b hb => hgr.block b (by simp; omega) fun e => ?_⟩
  have := hlt b e.symm; omega
theorem nodeOf_is (w0 : World) (hmx : MxL w0) : ∀ (c : Cnd) (w : World), c.In w0 → c.Fits → c.Good → Below w0.heap.size w0 w →
  Calls Tryz.prog 40 #[.agg #[.int .i64 c.op, .slice c.ka c.kn c.kc, .string c.text, .int .i64 c.low, .int .i64 c.high, .slice c.aa c.an c.ac]] w fun e w' => ∃ v, e = .returned v ∧ NodeIs (fun p => c.holds p) (Dm w0 w w') w' v ∧ Below w.heap.size w w' := by
 refine Cnd.ind (fun w h => absurd rfl h.ne) fun c hne ih w hI hF hG h0 => ?_
 obtain ⟨i0, hi0, hy0, hy1, hy2⟩ := info_parts infoNode
 have HI0 := Lib.hid hi0; have HI1 := Lib.hid hy0; have HI2 := Lib.hid hy1; have HI3 := Lib.hid hy2
 obtain ⟨hkn, han, hts⟩ := hF.size
 have hfew := hG.few
 obtain ⟨W1, hW1, hP, hz1, hB1⟩ := box w #[.int .i64 c.op, .slice c.ka c.kn c.kc, .string c.text, .int .i64 c.low, .int .i64 c.high, .slice c.aa c.an c.ac] 25
 have HW1 := Lib.hid hW1
 have HIH := Lib.hid ih; have HI := Lib.hid hI; have HF := Lib.hid hF; have HG := Lib.hid hG; have H0 := Lib.hid h0
 have HPP := Lib.hid hP
 have HOP := Lib.hid hG.op
 have HEQ := Lib.hid (fun p => Cnd.holds_eq (p := p) hne)
 have HASK := Lib.hid (fun (h4 : 4 ≤ c.op) W (hb : Below w0.heap.size w0 W) => asking_is c hG h4 w0 W hI hb hmx)
 have HK1 := Lib.hid hG.kid1
 obtain ⟨l0, l1, l2, l3, l4, l5⟩ := hP.six
 clear ih hI hF hG hW1 hi0 hy0 hy1 hy2 hP hne
 have hw0 := h0.size
 go_enter Tryz.func40, Tryz.ntmps40
 go_upto_region 2 with fail
 rw [HW1.out]
 go_wp2_with fail
 go_loopg [3, 9] c.kn (fun gk s3 i wr => ∃ j : Nat, j ≤ c.kn ∧ gk = c.kn - j ∧ i = .int .i64 j ∧ Kids w0 w W1 c j s3 wr)
 case atStart => exact ⟨0, by omega, rfl, rfl, ⟨[], World.ownsRow_nil _ _ _ _, fun k hk => by omega⟩, Below.refl _ _⟩
 case round =>
  obtain ⟨j, hj, rfl, rfl, hK⟩ := hrel
  have HK := Lib.hid hK
  have hBr := below_up hB1 hK.bel
  by_cases hlt : j < c.kn
  ·obtain ⟨xs, hown, hall⟩ := hK.rows
   have hb0 : Below w0.heap.size w0 wr := H0.out.trans (hBr.mono hw0)
   obtain ⟨b, off, hka, hbl, hcell⟩ := (Cnd.In.keep hb0 HI.out).kid (by omega)
   rw [hka]
   obtain ⟨c0, c1, c2, c3, c4, c5⟩ := hcell j hlt
   clear hcell
   obtain ⟨x, hx⟩ : ∃ x, c.kids j = x := ⟨_, rfl⟩
   obtain ⟨W4, hW4⟩ : ∃ W4, wr.alloc (.cells #[.int .i64 x.op, .slice x.ka x.kn x.kc, .string x.text, .int .i64 x.low, .int .i64 x.high, .slice x.aa x.an x.ac] 25) = W4 := ⟨_, rfl⟩
   have hB4 : Below wr.heap.size wr W4 := by rw [← hW4]; exact below_allocs (Below.refl _ _) _
   have hX := Blk.new wr #[.int .i64 x.op, .slice x.ka x.kn x.kc, .string x.text, .int .i64 x.low, .int .i64 x.high, .slice x.aa x.an x.ac] 25
   rw [hW4] at hX
   have HCALL := Lib.hid (HIH.out j W4 (HI.out.each j hlt) (HF.out.each j hlt) (HG.out.each j hlt) (hb0.trans (hB4.mono hb0.size)))
   rw [hx] at HCALL c0 c1 c2 c3 c4 c5
   have HX := Lib.hid hx
   have HW4 := Lib.hid hW4; have HALL := Lib.hid hall; have HOWN := Lib.hid hown; have HB0 := Lib.hid hb0
   clear hx hW4 hall hown hK l0 l1 l2 l3 l4 l5
   obtain ⟨x0, x1, x2, x3, x4, x5⟩ := hX.six
   have hs4 := hB4.size
   go_upto_region 5 with fail
   rw [HW4.out]
   go_wp2_with (first
    | (go_at_call 40; (with_reducible refine HCALL.out.mono ?_); rintro e w7 ⟨v7, rfl, hN7, hB7⟩; obtain ⟨T7, u7, rfl⟩ : ∃ T u, v7 = .iface T u := by { obtain ⟨T, u, g, hv, _⟩ := hN7; exact ⟨T, u, hv⟩ }; have HN7 := Lib.hid hN7; have hB47 := below_up hB4 hB7; have HOWN7 := Lib.hid ((own_keepH HOWN.out hB47).alloc (.cells #[.iface T7 u7] 81)); clear hN7)
    | (at_builtin; refine wpList_append_own2 _ rfl _ _ 122 rfl W1.heap.size 81 i0 .nilIface 1 16 Tryz.underlying122 HI0.out HI1.out HI2.out HI3.out rfl (by decide) _ _ _ rfl HOWN7.out ⟨w7.heap.size, 0, none⟩ 1 1 [.iface T7 u7] rfl (by decide) rfl (cell_one_new _ _ _) (by simp [Value.oneCell']) (by unfold maxLen; omega) (by omega) (by have := hB47.size; have := hBr.size; have := HK.out.bel.size; simp; omega) ?_; intro g8 cap8 w8 hown8 hgrow8 hnew8))
   have HK8 := Lib.hid (HK.out.next (E := Dm w0 W4 w7) hw0 hB1.size hB47 (by rw [HX.out]; exact HN7.out) (fun b hb => by rcases hb with h | h; exact .inl h; right; omega) _ _ HOWN.out HALL.out hown8 hgrow8 hnew8)
   clear hown8 hgrow8 hnew8
   rw [← hka]
   go_roundg (c.kn - (j + 1))
   case rel => exact ⟨j + 1, by omega, rfl, by go_num, HK8.out⟩
   case measure => omega
  ·obtain rfl : j = c.kn := by omega
   obtain ⟨xs, hown, hall⟩ := hK.rows
   obtain ⟨a3, ca3, rfl, hrow⟩ := own_rowH hown
   have hbel := hK.bel
   have hs1 := hB1.size
   have hs2 := hbel.size
   have HROW := Lib.hid (fun (V : World) (hV : ∀ b, Dm w0 w wr b → V.heap[b]? = wr.heap[b]?) => hrow V (fun b h1 h2 => hV b (.inr ⟨by omega, h2⟩)))
   have HDL := Lib.hid (fun (V : World) (hV : ∀ b, Dm w0 w wr b → V.heap[b]? = wr.heap[b]?) (b : Nat) (hb : Dm w0 w wr b) => show b < V.heap.size by
    have hlt : b < wr.heap.size := by rcases hb with h | h <;> omega
    have := hV b hb
    rcases Nat.lt_or_ge b V.heap.size with h' | h'
    ·exact h'
    ·rw [Array.getElem?_eq_none h', Array.getElem?_eq_getElem hlt] at this; cases this)
   have HNS := Lib.hid (fun (V : World) (hV : ∀ b, Dm w0 w wr b → V.heap[b]? = wr.heap[b]?) (k : Nat) (hk : k < c.kn) => show NodeIs (fun p => (c.kids k).holds p) (Dm w0 w wr) V (xs[k]?.getD .nilIface) by
    obtain ⟨x, D, hx, hN, hD⟩ := hall k hk
    rw [hx]
    refine (NodeIs.wide hN fun b hb => ?_).keep hV
    have := hD b hb
    rcases this.1 with h | h
    ·exact .inl h
    ·exact .inr ⟨h, this.2.1⟩)
   clear hrow hall l0 l1 l2 l3 l4 l5
   obtain ⟨l0, l1, l2, l3, l4, l5⟩ := (HPP.out.keep hbel).six
   have HBR := Lib.hid hBr
   obtain ⟨k, hk⟩ : ∃ k, c.op = k := ⟨_, rfl⟩
   have HKK := Lib.hid hk
   rw [hk] at l0
   clear hk hK
   by_cases k1 : k = 1
   ·subst k1
    go_wp2_with fail
    go_ret
    refine ⟨_, rfl, ⟨123, _, _, rfl, nil_all _, meth_all _, eg_all, fun V p hV hI hR => ?_⟩, HBR.out⟩
    have HEQ2 := HEQ.out p
    rw [if_pos HKK.out] at HEQ2
    refine (allHolds_is p hR (fun i p => (c.kids i).holds p) (Dm w0 w wr) a3 c.kn ca3 _ V (HROW.out V hV) (HDL.out V hV) (HNS.out V hV) hkn hI).mono ?_
    rintro e w' ⟨rfl, hb⟩
    exact ⟨by show _ = Ending.returned (.bool (c.holds p)); rw [HEQ2], hb⟩
   have hk1 : (k == 1) = false := by simpa using k1
   by_cases k2 : k = 2
   ·subst k2
    go_wp2_with fail
    go_ret
    refine ⟨_, rfl, ⟨124, _, _, rfl, nil_some _, meth_some _, eg_some, fun V p hV hI hR => ?_⟩, HBR.out⟩
    have HEQ2 := HEQ.out p
    rw [if_neg (by rw [HKK.out]; decide), if_pos HKK.out] at HEQ2
    refine (someHolds_is p hR (fun i p => (c.kids i).holds p) (Dm w0 w wr) a3 c.kn ca3 _ V (HROW.out V hV) (HDL.out V hV) (HNS.out V hV) hkn hI).mono ?_
    rintro e w' ⟨rfl, hb⟩
    exact ⟨by show _ = Ending.returned (.bool (c.holds p)); rw [HEQ2], hb⟩
   have hk2 : (k == 2) = false := by simpa using k2
   by_cases k3 : k = 3
   ·subst k3
    have hkn1 := HK1.out HKK.out
    have hN0 := HNS.out wr (fun _ _ => rfl) 0 (by omega)
    obtain ⟨b3, off3, rfl, hb3, hcell⟩ := HROW.out wr (fun _ _ => rfl) (by omega)
    have c0 := hcell 0 (by omega)
    obtain ⟨y, hy⟩ : ∃ y, xs[0]?.getD .nilIface = y := ⟨_, rfl⟩
    rw [hy] at hN0
    simp only [Nat.add_zero, hy] at c0
    obtain ⟨T0, u0, rfl⟩ : ∃ T u, y = .iface T u := by obtain ⟨T, u, g, hv, _⟩ := hN0; exact ⟨T, u, hv⟩
    have HN0 := Lib.hid hN0
    have hkz : (0 : Int) < (c.kn : Int) := by omega
    clear hN0 hy hcell hkn1
    go_wp2_with fail
    go_ret
    refine ⟨_, rfl, ⟨126, _, _, rfl, nil_no _, meth_no _, eg_no, fun V p hV hI hR => ?_⟩, HBR.out⟩
    have HEQ2 := HEQ.out p
    rw [if_neg (by rw [HKK.out]; decide), if_neg (by rw [HKK.out]; decide), if_pos HKK.out] at HEQ2
    refine (noHolds_is p hR (fun p => (c.kids 0).holds p) (Dm w0 w wr) _ V (HDL.out V hV) (HN0.out.keep hV) hI).mono ?_
    rintro e w' ⟨rfl, hb⟩
    exact ⟨by show _ = Ending.returned (.bool (c.holds p)); rw [HEQ2], hb⟩
   have hk3 : (k == 3) = false := by simpa using k3
   have h4 : 4 ≤ k := by have := HOP.out; rw [HKK.out] at this; omega
   have h0r : Below w0.heap.size w0 wr := H0.out.trans (HBR.out.mono hw0)
   have HA := Lib.hid (HASK.out (by rw [HKK.out]; exact h4) wr.drew (h0r.drew))
   rw [HKK.out] at HA
   have hPd := (HPP.out.keep hbel).drew
   have HKN := Lib.hid (And.intro k1 (And.intro k2 k3))
   clear k1 k2 k3 h4
   go_wp2_with fail
   clear l0 l1 l2 l3 l4 l5
   rw [HKK.out] at hPd
   obtain ⟨l0, l1, l2, l3, l4, l5⟩ := hPd.six
   go_region_held3 (fun w' => w'.cell? ⟨w.heap.size, 0, none⟩ = some (.int .i64 k) ∧ w'.cell? ⟨w.heap.size, 1, none⟩ = some (.slice c.ka c.kn c.kc) ∧ w'.cell? ⟨w.heap.size, 2, none⟩ = some (.string c.text) ∧ w'.cell? ⟨w.heap.size, 3, none⟩ = some (.int .i64 c.low) ∧ w'.cell? ⟨w.heap.size, 4, none⟩ = some (.int .i64 c.high) ∧ w'.cell? ⟨w.heap.size, 5, none⟩ = some (.slice c.aa c.an c.ac))
    (first | with_reducible exact ⟨l0, l1, l2, l3, l4, l5⟩)
    (first | (go_at_call 82; (with_reducible refine HA.out.mono ?_); rintro e w5 ⟨g5, lb5, rfl, hA5, hB5⟩; obtain ⟨l0, l1, l2, l3, l4, l5⟩ := (hPd.keep hB5).six))
   go_wp2_with fail
   go_ret
   refine ⟨_, rfl, ⟨129, _, _, rfl, nil_leaf _, meth_leaf _, eg_leaf, fun V p hV hI hR => ?_⟩, HBR.out.trans ((Below.refl _ wr).drew.trans (hB5.mono (by have := HBR.out.size; exact this)))⟩
   have hsz : w.heap.size ≤ wr.heap.size := HBR.out.size
   have hs5 : wr.heap.size ≤ w5.heap.size := hB5.size
   have hDm : ∀ b, Dm w0 wr.drew w5 b → Dm w0 w w5 b := fun b hb => hb.imp id (fun h => ⟨Nat.le_trans hsz h.1, h.2⟩)
   have hDV : ∀ b, Dm w0 wr.drew w5 b → b < V.heap.size := by
    intro b hb
    have hlt : b < w5.heap.size := Dm.lt (Nat.le_trans hw0 hsz) hs5 hb
    have := hV b (hDm b hb)
    rcases Nat.lt_or_ge b V.heap.size with h' | h'
    ·exact h'
    ·rw [Array.getElem?_eq_none h', Array.getElem?_eq_getElem hlt] at this; cases this
   have hAV := hA5.keep (V := V) fun b hb => hV b (hDm b hb)
   have HEQ2 := HEQ.out p
   rw [if_neg (by rw [HKK.out]; exact HKN.out.1), if_neg (by rw [HKK.out]; exact HKN.out.2.1), if_neg (by rw [HKK.out]; exact HKN.out.2.2), HKK.out] at HEQ2
   refine (leafHolds_is p hR _ _ g5 lb5 k c.ka c.kn c.kc c.text c.low c.high c.aa c.an c.ac V hDV hAV hI).mono ?_
   rintro e w' ⟨rfl, hb⟩
   exact ⟨by show _ = Ending.returned (.bool (c.holds p)); rw [HEQ2], hb⟩
namespace Fd
def sel (f : Ph → Bool) (x : Nat → Ph) : Nat → List Ph
 | 0 => []
 | n + 1 => if f (x n) then sel f x n ++ [x n] else sel f x n
theorem sel_le (f : Ph → Bool) (x : Nat → Ph) (n : Nat) : (sel f x n).length ≤ n := by
 induction n with
 | zero => exact Nat.le_refl _
 | succ n ih =>
   unfold sel
   split
   ·rw [List.length_append, List.length_singleton]; omega
   ·omega
theorem sel_mem {f : Ph → Bool} {x : Nat → Ph} {n : Nat} {p : Ph} (h : p ∈ sel f x n) : ∃ i, i < n ∧ p = x i := by
 induction n with
 | zero => simp [sel] at h
 | succ n ih =>
   unfold sel at h
   split at h
   ·rcases List.mem_append.1 h with g | g
    ·obtain ⟨i, hi, e⟩ := ih g; exact ⟨i, by omega, e⟩
    ·exact ⟨n, by omega, by simpa using g⟩
   ·obtain ⟨i, hi, e⟩ := ih h; exact ⟨i, by omega, e⟩
end Fd
def PhsPost (w : World) (L : List Ph) (e : Ending) (w' : World) : Prop :=
 ∃ a ca, e = .returned (.slice a L.length ca) ∧ L.length ≤ ca ∧ ca ≤ 9223372036854775807 ∧ Phs w' a L.length (fun i => L[i]?.getD Ph.zero) ∧ Below w.heap.size w w'
theorem holding_is (f : Ph → Bool) (D : Nat → Prop) (v : Value) (a : Option Addr) (n ca : Nat) (x : Nat → Ph) (w : World) (hx : Phs w a n x) (hR : ∀ i, i < n → (x i).Right) (hN : NodeIs f D w v) (hD : ∀ b, D b → b < w.heap.size) (hn : n ≤ 1000) :
  Calls Tryz.prog 39 #[.slice a n ca, v] w (PhsPost w (Fd.sel f x n)) := by
 obtain ⟨T, u, g, rfl, hn1, hn2, eg, hcall⟩ := hN
 obtain ⟨i0, hi0, hy0, hy1, hy2⟩ := info_parts infoPhoto
 have HI0 := Lib.hid hi0; have HI1 := Lib.hid hy0; have HI2 := Lib.hid hy1; have HI3 := Lib.hid hy2
 have HX := Lib.hid hx; have HR := Lib.hid hR
 have HCALL := Lib.hid (fun V p (hb : Below w.heap.size w V) (hI : Ph.In p V) (hp : Ph.Right p) => hcall V p (fun b h => hb.block b (hD b h)) hI hp)
 clear hx hR hcall hD hi0 hy0 hy1 hy2
 go_enter Tryz.func39, Tryz.ntmps39
 go_wp2_with fail
 go_loopg [5, 10] n (fun gk v i wr => ∃ j : Nat, j ≤ n ∧ gk = n - j ∧ i = .int .i64 j ∧ wr.ownsRow w.heap.size 85 13 v (Fd.sel f x j).length (Fd.phFlat (Fd.sel f x j)) ∧ Below w.heap.size w wr)
 case atStart => exact ⟨0, by omega, rfl, rfl, World.ownsRow_nil _ _ _ _, Below.refl _ _⟩
 case round =>
  obtain ⟨j, hj, rfl, rfl, hown, hB⟩ := hrel
  have hle := Fd.sel_le f x j
  have hsz := hB.size
  by_cases hlt : j < n
  ·have HXr := HX.out.keep hB
   obtain ⟨b, off, rfl, hb, hcell⟩ := HXr.row (by omega)
   obtain ⟨q0, q1, q2, q3, q4, q5, q6, q7, q8, q9, q10, q11, q12⟩ := hcell j hlt
   have hIy := HXr.each j hlt
   have hRy := HR.out j hlt
   have HY := Lib.hid (show ∀ q, f (x j) = q → Fd.sel f x (j + 1) = if q then Fd.sel f x j ++ [x j] else Fd.sel f x j from fun q hq => by rw [← hq]; rfl)
   clear hcell HXr
   generalize x j = y at *
   generalize hL : Fd.sel f x j = L at *
   obtain ⟨W4, hW4, hP, hz4, hB4⟩ := bxP wr y
   have HW4 := Lib.hid hW4
   have hB04 := below_up hB hB4
   have HC := Lib.hid (HCALL.out W4 y hB04 (hIy.keep hB4) hRy)
   have HOWN := Lib.hid (own_keepH hown hB4)
   have HL := Lib.hid hL
   clear hW4 hown hIy hRy hL
   obtain ⟨m0, m1, m2, m3, m4, m5, m6, m7, m8, m9, m10, m11, m12⟩ := hP.photo
   go_upto_region 5 with fail
   rw [HW4.out]
   clear q0 q1 q2 q3 q4 q5 q6 q7 q8 q9 q10 q11 q12
   cases hq : f y
   ·have HF := Lib.hid (HY.out false hq)
    rw [hq] at HC
    clear hq HY
    go_wp2_with (go_at_fn g; refine HC.out.mono ?_; rintro e w5 ⟨rfl, hB5⟩)
    go_roundg (n - (j + 1))
    case rel => exact ⟨j + 1, by omega, rfl, by go_num, by rw [HF.out]; exact own_keepH HOWN.out hB5, below_up hB04 hB5⟩
    case measure => omega
   ·have HF := Lib.hid (HY.out true hq)
    rw [hq] at HC
    clear hq HY
    go_wp2_with (first
     | (go_at_fn g; refine HC.out.mono ?_; rintro e w5 ⟨rfl, hB5⟩; have hB45 := below_up hB4 hB5; have hB05 := below_up hB hB45; have hsz5 := hB05.size; have HOWN5 := Lib.hid (own_keepH HOWN.out hB5); obtain ⟨m0, m1, m2, m3, m4, m5, m6, m7, m8, m9, m10, m11, m12⟩ := (hP.keep hB5).photo)
     | (at_builtin; refine wpList_append_own2 _ rfl _ _ 39 rfl w.heap.size 85 i0 (.agg #[.int .i64 0, .string ByteArray.empty, .int .i64 0, .int .i64 0, .slice none 0 0, .int .i64 0, .int .i64 0, .int .i64 0, .int .i64 0, .slice none 0 0, .string ByteArray.empty, .slice none 0 0, .bool false]) 13 168 Tryz.underlying39 HI0.out HI1.out HI2.out HI3.out rfl (by decide) _ _ _ rfl (HOWN5.out.alloc _) ⟨w5.heap.size, 0, none⟩ 1 1 (Fd.phCells y) rfl (by decide) rfl (cell_ph_new _ _ _) (phCells_one _) (by unfold maxLen; omega) (by omega) (by simp; omega) ?_; intro g8 cap8 w8 hown8 hgrow8 hnew8))
    have HOWN8 := Lib.hid hown8
    have HB8 := Lib.hid ((below_allocs hB05 (.cells #[.int .i64 y.id, .string y.file, .int .i64 y.mom, .int .i64 y.zone, .slice y.wa y.wn y.wc, .int .i64 y.W, .int .i64 y.H, .int .i64 y.turn, .int .i64 y.stars, .slice y.ta y.tn y.tc, .string y.cap, .slice y.pa y.pn y.pc, .bool y.hid] 85)).grown hgrow8 (by simp; omega) (fun k e => (HOWN5.out.lt k e).1))
    clear hown8 hgrow8 hnew8
    go_roundg (n - (j + 1))
    case rel => exact ⟨j + 1, by omega, rfl, by go_num, by rw [HF.out]; have := HOWN8.out; rw [← Fd.phFlat_snoc] at this; simpa using this, HB8.out⟩
    case measure => omega
  ·obtain rfl : j = n := by omega
   obtain ⟨a1, c1, rfl, hk, hm, hrow⟩ := Phs.of_own hown (fun p hp => by obtain ⟨i, hi, rfl⟩ := Fd.sel_mem hp; exact (HX.out.each i hi).keep hB)
   have HROW := Lib.hid hrow
   clear hown hrow
   go_wp2_with fail
   go_ret
   exact ⟨a1, c1, rfl, hk, hm, HROW.out, hB⟩
theorem found_is (f : Ph → Bool) (c : Cnd) (a : Option Addr) (n ca : Nat) (x : Nat → Ph) (w : World) (hx : Phs w a n x) (hcall : ∀ V i, i < n → Below w.heap.size w V → Calls Tryz.prog 92 #[.agg #[.int .i64 (x i).id, .string (x i).file, .int .i64 (x i).mom, .int .i64 (x i).zone, .slice (x i).wa (x i).wn (x i).wc, .int .i64 (x i).W, .int .i64 (x i).H, .int .i64 (x i).turn, .int .i64 (x i).stars, .slice (x i).ta (x i).tn (x i).tc, .string (x i).cap, .slice (x i).pa (x i).pn (x i).pc, .bool (x i).hid], .agg #[.int .i64 c.op, .slice c.ka c.kn c.kc, .string c.text, .int .i64 c.low, .int .i64 c.high, .slice c.aa c.an c.ac]] V fun e w' => e = .returned (.bool (f (x i))) ∧ Below V.heap.size V w') (hn : n ≤ 1000) :
  Calls Tryz.prog 49 #[.slice a n ca, .agg #[.int .i64 c.op, .slice c.ka c.kn c.kc, .string c.text, .int .i64 c.low, .int .i64 c.high, .slice c.aa c.an c.ac]] w (PhsPost w (Fd.sel f x n)) := by
 obtain ⟨i0, hi0, hy0, hy1, hy2⟩ := info_parts infoPhoto
 have HI0 := Lib.hid hi0; have HI1 := Lib.hid hy0; have HI2 := Lib.hid hy1; have HI3 := Lib.hid hy2
 have HX := Lib.hid hx
 have HCALL := Lib.hid hcall
 obtain ⟨W1, hW1, hK, hz1, hB1⟩ := box w #[.int .i64 c.op, .slice c.ka c.kn c.kc, .string c.text, .int .i64 c.low, .int .i64 c.high, .slice c.aa c.an c.ac] 25
 have HW1 := Lib.hid hW1
 obtain ⟨l0, l1, l2, l3, l4, l5⟩ := hK.six
 clear hx hcall hi0 hy0 hy1 hy2 hW1 hz1
 go_enter Tryz.func49, Tryz.ntmps49
 go_upto_region 1 with fail
 rw [HW1.out]
 go_wp2_with fail
 clear l0 l1 l2 l3 l4 l5
 have hs1 := hB1.size
 go_loopg [5, 10] n (fun gk v i wr => ∃ j : Nat, j ≤ n ∧ gk = n - j ∧ i = .int .i64 j ∧ wr.ownsRow W1.heap.size 85 13 v (Fd.sel f x j).length (Fd.phFlat (Fd.sel f x j)) ∧ Below W1.heap.size W1 wr)
 case atStart => exact ⟨0, by omega, rfl, rfl, World.ownsRow_nil _ _ _ _, Below.refl _ _⟩
 case round =>
  obtain ⟨j, hj, rfl, rfl, hown, hBr⟩ := hrel
  have hle := Fd.sel_le f x j
  have hB := below_up hB1 hBr
  have hsr := hBr.size
  have hKr := hK.keep hBr
  by_cases hlt : j < n
  ·have HXr := HX.out.keep hB
   obtain ⟨b, off, rfl, hb, hcell⟩ := HXr.row (by omega)
   obtain ⟨q0, q1, q2, q3, q4, q5, q6, q7, q8, q9, q10, q11, q12⟩ := hcell j hlt
   have HCJ := Lib.hid (fun V => HCALL.out V j hlt)
   have HY := Lib.hid (show ∀ q, f (x j) = q → Fd.sel f x (j + 1) = if q then Fd.sel f x j ++ [x j] else Fd.sel f x j from fun q hq => by rw [← hq]; rfl)
   clear hcell HXr
   generalize x j = y at *
   generalize hL : Fd.sel f x j = L at *
   obtain ⟨W4, hW4, hP, hz4, hB4⟩ := bxP wr y
   have HW4 := Lib.hid hW4
   have hB04 := below_up hB hB4
   have HC := Lib.hid (HCJ.out W4 hB04)
   have HOWN := Lib.hid (own_keepH hown hB4)
   have HL := Lib.hid hL
   clear hW4 hown hL HCJ
   obtain ⟨m0, m1, m2, m3, m4, m5, m6, m7, m8, m9, m10, m11, m12⟩ := hP.photo
   have hK4 := hKr.keep hB4
   obtain ⟨l0, l1, l2, l3, l4, l5⟩ := hK4.six
   go_upto_region 5 with fail
   rw [HW4.out]
   clear q0 q1 q2 q3 q4 q5 q6 q7 q8 q9 q10 q11 q12
   cases hq : f y
   ·have HF := Lib.hid (HY.out false hq)
    rw [hq] at HC
    clear hq HY
    go_wp2_with (go_at_call 92; (with_reducible refine HC.out.mono ?_); rintro e w5 ⟨rfl, hB5⟩)
    go_roundg (n - (j + 1))
    case rel => exact ⟨j + 1, by omega, rfl, by go_num, by rw [HF.out]; exact own_keepH HOWN.out hB5, below_up hBr (below_up hB4 hB5)⟩
    case measure => omega
   ·have HF := Lib.hid (HY.out true hq)
    rw [hq] at HC
    clear hq HY
    go_wp2_with (first
     | (go_at_call 92; (with_reducible refine HC.out.mono ?_); rintro e w5 ⟨rfl, hB5⟩; have hB45 := below_up hB4 hB5; have hB05 := below_up hBr hB45; have hsz5 := hB05.size; have HOWN5 := Lib.hid (own_keepH HOWN.out hB5); obtain ⟨m0, m1, m2, m3, m4, m5, m6, m7, m8, m9, m10, m11, m12⟩ := (hP.keep hB5).photo)
     | (at_builtin; refine wpList_append_own2 _ rfl _ _ 39 rfl W1.heap.size 85 i0 (.agg #[.int .i64 0, .string ByteArray.empty, .int .i64 0, .int .i64 0, .slice none 0 0, .int .i64 0, .int .i64 0, .int .i64 0, .int .i64 0, .slice none 0 0, .string ByteArray.empty, .slice none 0 0, .bool false]) 13 168 Tryz.underlying39 HI0.out HI1.out HI2.out HI3.out rfl (by decide) _ _ _ rfl (HOWN5.out.alloc _) ⟨w5.heap.size, 0, none⟩ 1 1 (Fd.phCells y) rfl (by decide) rfl (cell_ph_new _ _ _) (phCells_one _) (by unfold maxLen; omega) (by omega) (by simp; omega) ?_; intro g8 cap8 w8 hown8 hgrow8 hnew8))
    have HOWN8 := Lib.hid hown8
    have HB8 := Lib.hid ((below_allocs hB05 (.cells #[.int .i64 y.id, .string y.file, .int .i64 y.mom, .int .i64 y.zone, .slice y.wa y.wn y.wc, .int .i64 y.W, .int .i64 y.H, .int .i64 y.turn, .int .i64 y.stars, .slice y.ta y.tn y.tc, .string y.cap, .slice y.pa y.pn y.pc, .bool y.hid] 85)).grown hgrow8 (by simp; omega) (fun k e => (HOWN5.out.lt k e).1))
    clear hown8 hgrow8 hnew8
    go_roundg (n - (j + 1))
    case rel => exact ⟨j + 1, by omega, rfl, by go_num, by rw [HF.out]; have := HOWN8.out; rw [← Fd.phFlat_snoc] at this; simpa using this, HB8.out⟩
    case measure => omega
  ·obtain rfl : j = n := by omega
   obtain ⟨a1, c1, rfl, hk, hm, hrow⟩ := Phs.of_own hown (fun p hp => by obtain ⟨i, hi, rfl⟩ := Fd.sel_mem hp; exact (HX.out.each i hi).keep hB)
   have HROW := Lib.hid hrow
   clear hown hrow
   go_wp2_with fail
   go_ret
   exact ⟨a1, c1, rfl, hk, hm, HROW.out, hB⟩
def Hd.err (e : Int) (c : Cnd) : Int := if e = 0 then c.err else e
end Go.Proofs.YtimjmjmpaicdbaaGreatDoor
