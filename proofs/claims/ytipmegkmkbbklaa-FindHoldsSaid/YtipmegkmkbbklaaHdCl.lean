/- The closures that 'asking' makes. -/
import Derived.Test.YtipmegkmkbbklaaHdMath
import Derived.Test.YtipmegkmkbbklaaCntIs
namespace Go.Proofs.Ytipmegkmkbbklaa
open Go.RowKit Go.Sort Go.Shelf
set_option linter.unusedVariables false
set_option maxHeartbeats 1000000 in
theorem ask1_is (p : Ph) (hp : p.Right) (b : Nat) (op : Int) (ka : Option Addr) (kn kc : Nat) (text : ByteArray) (lo hi : Int) (aa : Option Addr) (an ac : Nat) (V : World) (hb : Blk V b #[.int .i64 op, .slice ka kn kc, .string text, .int .i64 lo, .int .i64 hi, .slice aa an ac] 53) (hI : p.In V) :
    Calls Try.prog 108 #[.agg #[.int .i64 p.id, .string p.file, .int .i64 p.mom, .int .i64 p.zone, .slice p.wa p.wn p.wc, .int .i64 p.W, .int .i64 p.H, .int .i64 p.turn, .int .i64 p.stars, .slice p.ta p.tn p.tc, .string p.cap, .slice p.pa p.pn p.pc, .bool p.hid], .pointer (some ⟨b, 0, none⟩)] V fun e w' => e = .returned (.bool (Fd.hit (fun i => text.toList == (p.tag i).toList) p.tn)) ∧ Below V.heap.size V w' := by
  obtain ⟨W1, hW1, hP, hz1, hB1⟩ := box V #[.int .i64 p.id, .string p.file, .int .i64 p.mom, .int .i64 p.zone, .slice p.wa p.wn p.wc, .int .i64 p.W, .int .i64 p.H, .int .i64 p.turn, .int .i64 p.stars, .slice p.ta p.tn p.tc, .string p.cap, .slice p.pa p.pn p.pc, .bool p.hid] 26
  have HW1 := Lib.hid hW1
  obtain ⟨q0, q1, q2, q3, q4, q5, q6, q7, q8, q9, q10, q11, q12⟩ := hP.photo
  have HI1 := Lib.hid (hI.keep hB1)
  clear hW1 hz1
  obtain ⟨l0, l1, l2, l3, l4, l5⟩ := (hb.keep hB1).six
  have HC := Lib.hid (hasS_is p.ta p.tn p.tc p.tag text W1 HI1.out.tags hp.fits.tn)
  clear hI
  go_enter Try.func108, Try.ntmps108
  go_upto_region 1 with fail
  rw [HW1.out]
  go_wp2_with (go_at_call 109; (with_reducible refine HC.out.mono ?_); rintro e w4 ⟨rfl, hB4⟩)
  go_ret
  exact ⟨rfl, below_up hB1 hB4⟩
set_option maxRecDepth 100000 in
set_option maxHeartbeats 2000000 in
theorem ask2_is (p : Ph) (hp : p.Right) (b : Nat) (t : ByteArray) (V : World) (hb : Blk V b #[.string t] 9) (hm : MxL V) (hI : p.In V) :
    Calls Try.prog 111 #[.agg #[.int .i64 p.id, .string p.file, .int .i64 p.mom, .int .i64 p.zone, .slice p.wa p.wn p.wc, .int .i64 p.W, .int .i64 p.H, .int .i64 p.turn, .int .i64 p.stars, .slice p.ta p.tn p.tc, .string p.cap, .slice p.pa p.pn p.pc, .bool p.hid], .pointer (some ⟨b, 0, none⟩)] V fun e w' => e = .returned (.bool (Lib.contains (Hd.low p.cap).data.toList t.data.toList)) ∧ Below V.heap.size V w' := by
  obtain ⟨W1, hW1, hP, hz1, hB1⟩ := box V #[.int .i64 p.id, .string p.file, .int .i64 p.mom, .int .i64 p.zone, .slice p.wa p.wn p.wc, .int .i64 p.W, .int .i64 p.H, .int .i64 p.turn, .int .i64 p.stars, .slice p.ta p.tn p.tc, .string p.cap, .slice p.pa p.pn p.pc, .bool p.hid] 26
  have HW1 := Lib.hid hW1
  obtain ⟨q0, q1, q2, q3, q4, q5, q6, q7, q8, q9, q10, q11, q12⟩ := hP.photo
  have HI1 := Lib.hid (hI.keep hB1)
  clear hW1 hz1
  have l0 := (hb.keep hB1).one
  have hm1 := hm.below hB1
  have HC1 := Lib.hid (fun dd os => Calls.regrown_of (lower_is p.cap hp.cap (grow (redrawn W1 dd) os)))
  have HC2 := Lib.hid (fun dd os => Calls.regrown_of (strContains_is (Hd.low p.cap) t (by rw [Hd.low_size]; have := hp.cap; omega) (grow (redrawn W1 dd) os) (hm1.below (below_regrown W1 dd os))))
  have k10 := cell_regrown q10
  have k0 := cell_regrown l0
  clear hI
  go_enter Try.func111, Try.ntmps111
  go_upto_region 1 with fail
  rw [HW1.out]
  refine wp_region_quiet_below (by kernel_rfl) (by kernel_rfl) ?_
  repeat (go_big_quiet_step ((first | (go_at_call 110; with_reducible exact HC1.out _ _) | (go_at_call 68; with_reducible exact HC2.out _ _))))
  refine wpQuiet_nil ?_
  intro _ hw'
  obtain ⟨⟨dq, osq⟩, hw''⟩ := hw'
  subst hw''
  have hBx3 := below_regrown W1 dq osq
  generalize grow (redrawn W1 dq) osq = x3 at *
  clear dq osq
  clear k0 k10
  go_wp2_with fail
  go_ret
  exact ⟨rfl, below_up hB1 hBx3⟩
set_option maxHeartbeats 1000000 in
theorem ask3_is (p : Ph) (hp : p.Right) (b : Nat) (op : Int) (ka : Option Addr) (kn kc : Nat) (text : ByteArray) (lo hi : Int) (aa : Option Addr) (an ac : Nat) (V : World) (hb : Blk V b #[.int .i64 op, .slice ka kn kc, .string text, .int .i64 lo, .int .i64 hi, .slice aa an ac] 53) (hI : p.In V) :
    Calls Try.prog 112 #[.agg #[.int .i64 p.id, .string p.file, .int .i64 p.mom, .int .i64 p.zone, .slice p.wa p.wn p.wc, .int .i64 p.W, .int .i64 p.H, .int .i64 p.turn, .int .i64 p.stars, .slice p.ta p.tn p.tc, .string p.cap, .slice p.pa p.pn p.pc, .bool p.hid], .pointer (some ⟨b, 0, none⟩)] V fun e w' => e = .returned (.bool (Fd.hit (fun i => lo == p.who i) p.pn)) ∧ Below V.heap.size V w' := by
  obtain ⟨W1, hW1, hP, hz1, hB1⟩ := box V #[.int .i64 p.id, .string p.file, .int .i64 p.mom, .int .i64 p.zone, .slice p.wa p.wn p.wc, .int .i64 p.W, .int .i64 p.H, .int .i64 p.turn, .int .i64 p.stars, .slice p.ta p.tn p.tc, .string p.cap, .slice p.pa p.pn p.pc, .bool p.hid] 26
  have HW1 := Lib.hid hW1
  obtain ⟨q0, q1, q2, q3, q4, q5, q6, q7, q8, q9, q10, q11, q12⟩ := hP.photo
  have HI1 := Lib.hid (hI.keep hB1)
  clear hW1 hz1
  obtain ⟨l0, l1, l2, l3, l4, l5⟩ := (hb.keep hB1).six
  have HC := Lib.hid (hasI_is p.pa p.pn p.pc p.who lo W1 HI1.out.people hp.fits.pn)
  clear hI
  go_enter Try.func112, Try.ntmps112
  go_upto_region 1 with fail
  rw [HW1.out]
  go_wp2_with (go_at_call 113; (with_reducible refine HC.out.mono ?_); rintro e w4 ⟨rfl, hB4⟩)
  go_ret
  exact ⟨rfl, below_up hB1 hB4⟩
set_option maxHeartbeats 1000000 in
theorem ask4_is (p : Ph) (b : Nat) (op : Int) (ka : Option Addr) (kn kc : Nat) (text : ByteArray) (lo hi : Int) (aa : Option Addr) (an ac : Nat) (V : World) (hb : Blk V b #[.int .i64 op, .slice ka kn kc, .string text, .int .i64 lo, .int .i64 hi, .slice aa an ac] 53) (hI : p.In V) :
    Calls Try.prog 114 #[.agg #[.int .i64 p.id, .string p.file, .int .i64 p.mom, .int .i64 p.zone, .slice p.wa p.wn p.wc, .int .i64 p.W, .int .i64 p.H, .int .i64 p.turn, .int .i64 p.stars, .slice p.ta p.tn p.tc, .string p.cap, .slice p.pa p.pn p.pc, .bool p.hid], .pointer (some ⟨b, 0, none⟩)] V fun e w' => e = .returned (.bool (decide (lo ≤ p.stars ∧ p.stars ≤ hi))) ∧ Below V.heap.size V w' := by
  obtain ⟨W1, hW1, hP, hz1, hB1⟩ := box V #[.int .i64 p.id, .string p.file, .int .i64 p.mom, .int .i64 p.zone, .slice p.wa p.wn p.wc, .int .i64 p.W, .int .i64 p.H, .int .i64 p.turn, .int .i64 p.stars, .slice p.ta p.tn p.tc, .string p.cap, .slice p.pa p.pn p.pc, .bool p.hid] 26
  have HW1 := Lib.hid hW1
  obtain ⟨q0, q1, q2, q3, q4, q5, q6, q7, q8, q9, q10, q11, q12⟩ := hP.photo
  have HI1 := Lib.hid (hI.keep hB1)
  clear hW1 hz1
  obtain ⟨l0, l1, l2, l3, l4, l5⟩ := (hb.keep hB1).six
  have HC := Lib.hid (fun W => outsideF_is p.stars lo hi _ rfl W)
  clear hI
  go_enter Try.func114, Try.ntmps114
  go_upto_region 1 with fail
  rw [HW1.out]
  go_wp2_with (go_at_call 71; (with_reducible refine (HC.out _).mono ?_); rintro e w4 ⟨rfl, rfl⟩)
  go_ret
  exact ⟨ret_bool (by simp), hB1⟩
set_option maxRecDepth 100000 in
set_option maxHeartbeats 2000000 in
theorem ask5_is (p : Ph) (hp : p.Right) (b : Nat) (op : Int) (ka : Option Addr) (kn kc : Nat) (text : ByteArray) (lo hi : Int) (aa : Option Addr) (an ac : Nat) (V : World) (hb : Blk V b #[.int .i64 op, .slice ka kn kc, .string text, .int .i64 lo, .int .i64 hi, .slice aa an ac] 53) (hI : p.In V) :
    Calls Try.prog 115 #[.agg #[.int .i64 p.id, .string p.file, .int .i64 p.mom, .int .i64 p.zone, .slice p.wa p.wn p.wc, .int .i64 p.W, .int .i64 p.H, .int .i64 p.turn, .int .i64 p.stars, .slice p.ta p.tn p.tc, .string p.cap, .slice p.pa p.pn p.pc, .bool p.hid], .pointer (some ⟨b, 0, none⟩)] V fun e w' => e = .returned (.bool (decide (0 ≤ p.mom) && decide (lo ≤ p.mom + 60 * p.zone ∧ p.mom + 60 * p.zone ≤ hi))) ∧ Below V.heap.size V w' := by
  obtain ⟨⟨t1, t2⟩, t3⟩ := hp.time
  obtain ⟨W1, hW1, hP, hz1, hB1⟩ := box V #[.int .i64 p.id, .string p.file, .int .i64 p.mom, .int .i64 p.zone, .slice p.wa p.wn p.wc, .int .i64 p.W, .int .i64 p.H, .int .i64 p.turn, .int .i64 p.stars, .slice p.ta p.tn p.tc, .string p.cap, .slice p.pa p.pn p.pc, .bool p.hid] 26
  have HW1 := Lib.hid hW1
  obtain ⟨q0, q1, q2, q3, q4, q5, q6, q7, q8, q9, q10, q11, q12⟩ := hP.photo
  have HI1 := Lib.hid (hI.keep hB1)
  clear hW1 hz1
  obtain ⟨l0, l1, l2, l3, l4, l5⟩ := (hb.keep hB1).six
  have HO := Lib.hid (fun dd os => Calls.regrown_of ((outsideF_is (p.mom + 60 * p.zone) lo hi (decide (lo ≤ p.mom + 60 * p.zone ∧ p.mom + 60 * p.zone ≤ hi)) rfl (grow (redrawn W1 dd) os)).mono fun e w' h => ⟨h.1, h.2 ▸ Below.refl _ _⟩))
  have k0 := cell_regrown q0; have k1 := cell_regrown q1; have k2 := cell_regrown q2; have k3 := cell_regrown q3; have k4 := cell_regrown q4; have k5 := cell_regrown q5; have k6 := cell_regrown q6; have k7 := cell_regrown q7; have k8 := cell_regrown q8; have k9 := cell_regrown q9; have k10 := cell_regrown q10; have k11 := cell_regrown q11; have k12 := cell_regrown q12
  have m3 := cell_regrown l3; have m4 := cell_regrown l4
  clear hI
  by_cases h0 : 0 ≤ p.mom
  · have HL := Lib.hid (fun dd os => Calls.regrown_of (localP_is p (grow (redrawn W1 dd) os) ⟨h0, t2⟩ t3))
    have e0 : decide (0 ≤ p.mom) = true := by simpa using h0
    rw [e0]
    go_enter Try.func115, Try.ntmps115
    go_upto_region 1 with fail
    rw [HW1.out]
    refine wp_region_quiet_below (by kernel_rfl) (by kernel_rfl) ?_
    repeat (go_big_quiet_step ((first | (go_at_call 96; with_reducible exact HL.out _ _) | (go_at_call 71; with_reducible exact HO.out _ _))))
    refine wpQuiet_nil ?_
    intro _ hw'
    obtain ⟨⟨dq, osq⟩, hw''⟩ := hw'
    subst hw''
    have hBx3 := below_regrown W1 dq osq
    generalize grow (redrawn W1 dq) osq = x3 at *
    clear dq osq
    clear k0 k1 k2 k3 k4 k5 k6 k7 k8 k9 k10 k11 k12 m3 m4
    go_wp2_with fail
    go_ret
    exact ⟨ret_bool (by simp), below_up hB1 hBx3⟩
  · have e0 : decide (0 ≤ p.mom) = false := by simpa using h0
    have e1 : (0 ≤ p.mom) = False := by simpa using h0
    rw [e0]
    go_enter Try.func115, Try.ntmps115
    go_upto_region 1 with fail
    rw [HW1.out]
    refine wp_region_quiet_below (by kernel_rfl) (by kernel_rfl) ?_
    repeat (go_big_quiet_step (fail))
    refine wpQuiet_nil ?_
    intro _ hw'
    obtain ⟨⟨dq, osq⟩, hw''⟩ := hw'
    subst hw''
    have hBx3 := below_regrown W1 dq osq
    generalize grow (redrawn W1 dq) osq = x3 at *
    clear dq osq
    clear k0 k1 k2 k3 k4 k5 k6 k7 k8 k9 k10 k11 k12 m3 m4
    go_wp2_with fail
    go_ret
    exact ⟨ret_bool (by simp), below_up hB1 hBx3⟩
-- ask6_is: the theorem; f.asking$6: the function; 0 < Hd.tall p: the answer
set_option maxHeartbeats 1000000 in
theorem ask6_is (p : Ph) (hp : p.Right) (V : World) : Calls Try.prog 116 #[.agg #[.int .i64 p.id, .string p.file, .int .i64 p.mom, .int .i64 p.zone, .slice p.wa p.wn p.wc, .int .i64 p.W, .int .i64 p.H, .int .i64 p.turn, .int .i64 p.stars, .slice p.ta p.tn p.tc, .string p.cap, .slice p.pa p.pn p.pc, .bool p.hid]] V fun e w' => e = .returned (.bool (decide (0 < Hd.tall p))) ∧ Below V.heap.size V w' := by
  have hI := True.intro
  obtain ⟨W1, hW1, hP, hz1, hB1⟩ := box V #[.int .i64 p.id, .string p.file, .int .i64 p.mom, .int .i64 p.zone, .slice p.wa p.wn p.wc, .int .i64 p.W, .int .i64 p.H, .int .i64 p.turn, .int .i64 p.stars, .slice p.ta p.tn p.tc, .string p.cap, .slice p.pa p.pn p.pc, .bool p.hid] 26
  have HW1 := Lib.hid hW1
  obtain ⟨q0, q1, q2, q3, q4, q5, q6, q7, q8, q9, q10, q11, q12⟩ := hP.photo
  clear hW1 hz1
  have HC := Lib.hid (higher_is p hp W1)
  generalize Hd.tall p = t at *
  go_enter Try.func116, Try.ntmps116
  go_upto_region 1 with fail
  rw [HW1.out]
  go_wp2_with (go_at_call 117; (with_reducible refine HC.out.mono ?_); rintro e w4 ⟨rfl, hB4⟩)
  go_ret
  exact ⟨ret_bool (by first | rfl | simp), below_up hB1 hB4⟩
-- ask7_is: the theorem; f.asking$7: the function; Hd.tall p < 0: the answer
set_option maxHeartbeats 1000000 in
theorem ask7_is (p : Ph) (hp : p.Right) (V : World) : Calls Try.prog 118 #[.agg #[.int .i64 p.id, .string p.file, .int .i64 p.mom, .int .i64 p.zone, .slice p.wa p.wn p.wc, .int .i64 p.W, .int .i64 p.H, .int .i64 p.turn, .int .i64 p.stars, .slice p.ta p.tn p.tc, .string p.cap, .slice p.pa p.pn p.pc, .bool p.hid]] V fun e w' => e = .returned (.bool (decide (Hd.tall p < 0))) ∧ Below V.heap.size V w' := by
  have hI := True.intro
  obtain ⟨W1, hW1, hP, hz1, hB1⟩ := box V #[.int .i64 p.id, .string p.file, .int .i64 p.mom, .int .i64 p.zone, .slice p.wa p.wn p.wc, .int .i64 p.W, .int .i64 p.H, .int .i64 p.turn, .int .i64 p.stars, .slice p.ta p.tn p.tc, .string p.cap, .slice p.pa p.pn p.pc, .bool p.hid] 26
  have HW1 := Lib.hid hW1
  obtain ⟨q0, q1, q2, q3, q4, q5, q6, q7, q8, q9, q10, q11, q12⟩ := hP.photo
  clear hW1 hz1
  have HC := Lib.hid (higher_is p hp W1)
  generalize Hd.tall p = t at *
  go_enter Try.func118, Try.ntmps118
  go_upto_region 1 with fail
  rw [HW1.out]
  go_wp2_with (go_at_call 117; (with_reducible refine HC.out.mono ?_); rintro e w4 ⟨rfl, hB4⟩)
  go_ret
  exact ⟨ret_bool (by first | rfl | simp), below_up hB1 hB4⟩
-- ask8_is: the theorem; f.asking$8: the function; Hd.tall p = 0: the answer
set_option maxHeartbeats 1000000 in
theorem ask8_is (p : Ph) (hp : p.Right) (V : World) : Calls Try.prog 119 #[.agg #[.int .i64 p.id, .string p.file, .int .i64 p.mom, .int .i64 p.zone, .slice p.wa p.wn p.wc, .int .i64 p.W, .int .i64 p.H, .int .i64 p.turn, .int .i64 p.stars, .slice p.ta p.tn p.tc, .string p.cap, .slice p.pa p.pn p.pc, .bool p.hid]] V fun e w' => e = .returned (.bool (decide (Hd.tall p = 0))) ∧ Below V.heap.size V w' := by
  have hI := True.intro
  obtain ⟨W1, hW1, hP, hz1, hB1⟩ := box V #[.int .i64 p.id, .string p.file, .int .i64 p.mom, .int .i64 p.zone, .slice p.wa p.wn p.wc, .int .i64 p.W, .int .i64 p.H, .int .i64 p.turn, .int .i64 p.stars, .slice p.ta p.tn p.tc, .string p.cap, .slice p.pa p.pn p.pc, .bool p.hid] 26
  have HW1 := Lib.hid hW1
  obtain ⟨q0, q1, q2, q3, q4, q5, q6, q7, q8, q9, q10, q11, q12⟩ := hP.photo
  clear hW1 hz1
  have HC := Lib.hid (higher_is p hp W1)
  generalize Hd.tall p = t at *
  go_enter Try.func119, Try.ntmps119
  go_upto_region 1 with fail
  rw [HW1.out]
  go_wp2_with (go_at_call 117; (with_reducible refine HC.out.mono ?_); rintro e w4 ⟨rfl, hB4⟩)
  go_ret
  exact ⟨ret_bool (by first | rfl | simp), below_up hB1 hB4⟩
set_option maxHeartbeats 1000000 in
theorem ask9_is (p : Ph) (V : World) : Calls Try.prog 120 #[.agg #[.int .i64 p.id, .string p.file, .int .i64 p.mom, .int .i64 p.zone, .slice p.wa p.wn p.wc, .int .i64 p.W, .int .i64 p.H, .int .i64 p.turn, .int .i64 p.stars, .slice p.ta p.tn p.tc, .string p.cap, .slice p.pa p.pn p.pc, .bool p.hid]] V fun e w' => e = .returned (.bool (!(p.turn == 1))) ∧ Below V.heap.size V w' := by
  have hI := True.intro
  obtain ⟨W1, hW1, hP, hz1, hB1⟩ := box V #[.int .i64 p.id, .string p.file, .int .i64 p.mom, .int .i64 p.zone, .slice p.wa p.wn p.wc, .int .i64 p.W, .int .i64 p.H, .int .i64 p.turn, .int .i64 p.stars, .slice p.ta p.tn p.tc, .string p.cap, .slice p.pa p.pn p.pc, .bool p.hid] 26
  have HW1 := Lib.hid hW1
  obtain ⟨q0, q1, q2, q3, q4, q5, q6, q7, q8, q9, q10, q11, q12⟩ := hP.photo
  clear hW1 hz1
  go_enter Try.func120, Try.ntmps120
  go_upto_region 1 with fail
  rw [HW1.out]
  go_wp2_with fail
  go_ret
  exact ⟨ret_bool (by first | rfl | simp [bne]), hB1⟩
set_option maxHeartbeats 1000000 in
theorem ask13_is (p : Ph) (V : World) : Calls Try.prog 126 #[.agg #[.int .i64 p.id, .string p.file, .int .i64 p.mom, .int .i64 p.zone, .slice p.wa p.wn p.wc, .int .i64 p.W, .int .i64 p.H, .int .i64 p.turn, .int .i64 p.stars, .slice p.ta p.tn p.tc, .string p.cap, .slice p.pa p.pn p.pc, .bool p.hid]] V fun e w' => e = .returned (.bool p.hid) ∧ Below V.heap.size V w' := by
  obtain ⟨W1, hW1, hP, hz1, hB1⟩ := box V #[.int .i64 p.id, .string p.file, .int .i64 p.mom, .int .i64 p.zone, .slice p.wa p.wn p.wc, .int .i64 p.W, .int .i64 p.H, .int .i64 p.turn, .int .i64 p.stars, .slice p.ta p.tn p.tc, .string p.cap, .slice p.pa p.pn p.pc, .bool p.hid] 26
  have HW1 := Lib.hid hW1
  obtain ⟨q0, q1, q2, q3, q4, q5, q6, q7, q8, q9, q10, q11, q12⟩ := hP.photo
  clear hW1 hz1
  go_enter Try.func126, Try.ntmps126
  go_upto_region 1 with fail
  rw [HW1.out]
  go_wp2_with fail
  go_ret
  exact ⟨rfl, hB1⟩
theorem ask10_is (a o : Int) (V : World) : Calls Try.prog 122 #[.agg #[.int .i64 a, .int .i64 o]] V fun e w' => e = .returned (.bool true) ∧ Below V.heap.size V w' := by
  obtain ⟨W1, hW1, hP, hz1, hB1⟩ := box V #[.int .i64 a, .int .i64 o] 71
  have HW1 := Lib.hid hW1
  clear hW1 hz1
  go_enter Try.func122, Try.ntmps122
  go_upto_region 1 with fail
  rw [HW1.out]
  go_wp2_with fail
  go_ret
  exact ⟨rfl, hB1⟩
set_option maxRecDepth 100000 in
set_option maxHeartbeats 2000000 in
theorem ask11_is (a o : Int) (b : Nat) (op : Int) (ka : Option Addr) (kn kc : Nat) (text : ByteArray) (lo hi : Int) (aa : Option Addr) (an ac : Nat) (lat lon : Nat → Int) (V : World) (hb : Blk V b #[.int .i64 op, .slice ka kn kc, .string text, .int .i64 lo, .int .i64 hi, .slice aa an ac] 53) (hr : Row2 V aa an (fun i => .int .i64 (lat i)) (fun i => .int .i64 (lon i))) (hn : an = 1) :
    Calls Try.prog 123 #[.agg #[.int .i64 a, .int .i64 o], .pointer (some ⟨b, 0, none⟩)] V fun e w' => e = .returned (.bool (decide (Hd.dist a o (lat 0) (lon 0) ≤ lo))) ∧ Below V.heap.size V w' := by
  subst hn
  obtain ⟨W1, hW1, hP, hz1, hB1⟩ := box V #[.int .i64 a, .int .i64 o] 71
  have HW1 := Lib.hid hW1
  obtain ⟨p0, p1⟩ := hP.two
  have hb1 := hb.keep hB1
  obtain ⟨l0, l1, l2, l3, l4, l5⟩ := hb1.six
  obtain ⟨g, off, rfl, hg, hc⟩ := (hr.keep hB1) (by omega)
  have x0 := (hc 0 (by omega)).1; have x1 := (hc 0 (by omega)).2
  simp only [Nat.zero_mul, Nat.add_zero] at x0 x1
  obtain ⟨dd0, hdd⟩ := Hd.dist_is a o (lat 0) (lon 0)
  have HD := Lib.hid (fun dd os => Calls.regrown_of (hdd (grow (redrawn W1 dd) os)))
  have k0 := cell_regrown x0; have k1 := cell_regrown x1; have k5 := cell_regrown l5; have m0 := cell_regrown p0; have m1 := cell_regrown p1
  clear hW1 hz1 hr hc hdd
  generalize Hd.dist a o (lat 0) (lon 0) = d at *
  generalize lat 0 = a0 at *; generalize lon 0 = o0 at *
  go_enter Try.func123, Try.ntmps123
  go_upto_region 1 with fail
  rw [HW1.out]
  refine wp_region_quiet_below (by kernel_rfl) (by kernel_rfl) ?_
  repeat (go_big_quiet_step ((go_at_call 80; with_reducible exact HD.out _ _)))
  refine wpQuiet_nil ?_
  intro _ hw'
  obtain ⟨⟨dq, osq⟩, hw''⟩ := hw'
  subst hw''
  have hBx3 := below_regrown W1 dq osq
  generalize grow (redrawn W1 dq) osq = x3 at *
  clear dq osq
  obtain ⟨n0, n1, n2, n3, n4, n5⟩ := (hb1.keep hBx3).six
  clear k0 k1 k5 m0 m1
  go_wp2_with fail
  go_ret
  exact ⟨ret_bool (by simp), below_up hB1 hBx3⟩
set_option maxHeartbeats 1000000 in
theorem ask12_is (a o : Int) (b : Nat) (op : Int) (ka : Option Addr) (kn kc : Nat) (text : ByteArray) (lo hi : Int) (aa : Option Addr) (an ac : Nat) (lat lon : Nat → Int) (V : World) (hb : Blk V b #[.int .i64 op, .slice ka kn kc, .string text, .int .i64 lo, .int .i64 hi, .slice aa an ac] 53) (hr : Row2 V aa an (fun i => .int .i64 (lat i)) (fun i => .int .i64 (lon i))) (hn : an = 2) :
    Calls Try.prog 124 #[.agg #[.int .i64 a, .int .i64 o], .pointer (some ⟨b, 0, none⟩)] V fun e w' => e = .returned (.bool (Hd.box a o (lat 0) (lon 0) (lat 1) (lon 1))) ∧ Below V.heap.size V w' := by
  obtain ⟨W1, hW1, hP, hz1, hB1⟩ := box V #[.int .i64 a, .int .i64 o] 71
  have HW1 := Lib.hid hW1
  obtain ⟨p0, p1⟩ := hP.two
  obtain ⟨l0, l1, l2, l3, l4, l5⟩ := (hb.keep hB1).six
  have HC := Lib.hid (inBox_is a o aa an ac lat lon W1 (hr.keep hB1) hn)
  clear hW1 hz1 hr hn
  go_enter Try.func124, Try.ntmps124
  go_upto_region 1 with fail
  rw [HW1.out]
  go_wp2_with (go_at_call 125; (with_reducible refine HC.out.mono ?_); rintro e w4 ⟨rfl, hB4⟩)
  go_ret
  exact ⟨rfl, below_up hB1 hB4⟩
set_option maxRecDepth 100000 in
set_option maxHeartbeats 2000000 in
/-- placed's closure: the photo has a place, and the place is asked. -/
theorem plc1_is (g : Nat) (lb : Array Value) (eg : ∀ args w, (callFunc g args).run Try.prog w = .ok (.enter g args) w) (q : Bool) (p : Ph) (b : Nat) (V : World) (hb : Blk V b #[.func (.func g) #[] lb] 99) (hI : p.In V)
    (hc : 0 < p.wn → ∀ W, Below V.heap.size V W → Calls Try.prog g (#[.agg #[.int .i64 (p.lat 0), .int .i64 (p.lon 0)]] ++ lb) W fun e w' => e = .returned (.bool q) ∧ Below W.heap.size W w') :
    Calls Try.prog 138 #[.agg #[.int .i64 p.id, .string p.file, .int .i64 p.mom, .int .i64 p.zone, .slice p.wa p.wn p.wc, .int .i64 p.W, .int .i64 p.H, .int .i64 p.turn, .int .i64 p.stars, .slice p.ta p.tn p.tc, .string p.cap, .slice p.pa p.pn p.pc, .bool p.hid], .pointer (some ⟨b, 0, none⟩)] V fun e w' => e = .returned (.bool (decide (0 < p.wn) && q)) ∧ Below V.heap.size V w' := by
  obtain ⟨W1, hW1, hP, hz1, hB1⟩ := box V #[.int .i64 p.id, .string p.file, .int .i64 p.mom, .int .i64 p.zone, .slice p.wa p.wn p.wc, .int .i64 p.W, .int .i64 p.H, .int .i64 p.turn, .int .i64 p.stars, .slice p.ta p.tn p.tc, .string p.cap, .slice p.pa p.pn p.pc, .bool p.hid] 26
  have HW1 := Lib.hid hW1
  obtain ⟨q0, q1, q2, q3, q4, q5, q6, q7, q8, q9, q10, q11, q12⟩ := hP.photo
  have HI1 := Lib.hid (hI.keep hB1)
  clear hW1 hz1
  have l0 := (hb.keep hB1).one
  have k0 := cell_regrown l0
  have k4 := cell_regrown q4
  have hI1 := HI1.out.places
  by_cases h0 : 0 < p.wn
  · obtain ⟨b2, off, hwa, hb2, hcc⟩ := hI1 h0
    have x0 := (hcc 0 h0).1; have x1 := (hcc 0 h0).2
    simp only [Nat.zero_mul, Nat.add_zero] at x0 x1
    rw [hwa] at k4 q4
    have HC := Lib.hid (fun dd os => Calls.regrown_of (hc h0 (grow (redrawn W1 dd) os) (below_up hB1 (below_regrown W1 dd os))))
    have y0 := cell_regrown x0; have y1 := cell_regrown x1
    have e0 : decide (0 < p.wn) = true := by simpa using h0
    rw [e0]
    clear hc hI hcc hI1 hwa
    generalize p.lat 0 = a0 at *; generalize p.lon 0 = o0 at *
    generalize p.wn = wn at *
    have h1 : (0 : Int) < (wn : Int) := by omega
    go_enter Try.func138, Try.ntmps138
    go_upto_region 1 with fail
    rw [HW1.out]
    refine wp_region_quiet_below (by kernel_rfl) (by kernel_rfl) ?_
    repeat (go_big_quiet_step ((go_at_fn g; with_reducible exact HC.out _ _)))
    refine wpQuiet_nil ?_
    intro _ hw'
    obtain ⟨⟨dq, osq⟩, hw''⟩ := hw'
    subst hw''
    have hBx3 := below_regrown W1 dq osq
    generalize grow (redrawn W1 dq) osq = x3 at *
    clear dq osq
    clear k0 k4 y0 y1
    go_wp2_with fail
    go_ret
    exact ⟨ret_bool (by simp), below_up hB1 hBx3⟩
  · obtain ⟨wn, hwn⟩ : ∃ wn, p.wn = wn := ⟨_, rfl⟩
    obtain rfl : wn = 0 := by omega
    have e0 : decide (0 < p.wn) = false := by simpa using h0
    rw [e0]
    rw [hwn] at k4 q4
    clear hc hI hI1 hwn h0 e0
    go_enter Try.func138, Try.ntmps138
    go_upto_region 1 with fail
    rw [HW1.out]
    refine wp_region_quiet_below (by kernel_rfl) (by kernel_rfl) ?_
    repeat (go_big_quiet_step (fail))
    refine wpQuiet_nil ?_
    intro _ hw'
    obtain ⟨⟨dq, osq⟩, hw''⟩ := hw'
    subst hw''
    have hBx3 := below_regrown W1 dq osq
    generalize grow (redrawn W1 dq) osq = x3 at *
    clear dq osq
    clear k0 k4
    go_wp2_with fail
    go_ret
    exact ⟨ret_bool (by simp), below_up hB1 hBx3⟩
end Go.Proofs.Ytipmegkmkbbklaa
namespace Go.Proofs.Ytipmegkmkbbklaa
open Go.RowKit Go.Sort Go.Shelf
set_option linter.unusedVariables false
/-- The value is a node: its method answers as f, wherever the blocks D are as they are here. -/
def NodeIs (f : Ph → Bool) (D : Nat → Prop) (w : World) (v : Value) : Prop :=
  ∃ T u g, v = .iface T u ∧ (∀ n W, (nilAhead (n + 1) T u "tintype/find.holds").run Try.prog W = .ok (some false) W) ∧ (∀ n W, (method (n + 1) T u "tintype/find.holds").run Try.prog W = .ok (g, u) W) ∧
    (∀ args W, (callFunc g args).run Try.prog W = .ok (.enter g args) W) ∧
    ∀ V (p : Ph), (∀ b, D b → V.heap[b]? = w.heap[b]?) → p.In V → p.Right → Calls Try.prog g #[u, .agg #[.int .i64 p.id, .string p.file, .int .i64 p.mom, .int .i64 p.zone, .slice p.wa p.wn p.wc, .int .i64 p.W, .int .i64 p.H, .int .i64 p.turn, .int .i64 p.stars, .slice p.ta p.tn p.tc, .string p.cap, .slice p.pa p.pn p.pc, .bool p.hid]] V fun e w' => e = .returned (.bool (f p)) ∧ Below V.heap.size V w'
theorem NodeIs.keep {f : Ph → Bool} {D : Nat → Prop} {w w' : World} {v : Value} (h : NodeIs f D w v) (hb : ∀ b, D b → w'.heap[b]? = w.heap[b]?) : NodeIs f D w' v := by
  obtain ⟨T, u, g, h1, h2, h3, h4, h5⟩ := h
  exact ⟨T, u, g, h1, h2, h3, h4, fun V p hV hI hR => h5 V p (fun b hD => (hV b hD).trans (hb b hD)) hI hR⟩
theorem NodeIs.below {f : Ph → Bool} {D : Nat → Prop} {w w' : World} {v : Value} (h : NodeIs f D w v) (hD : ∀ b, D b → b < w.heap.size) (hb : Below w.heap.size w w') : NodeIs f D w' v :=
  h.keep fun b h => hb.block b (hD b h)
theorem NodeIs.wide {f : Ph → Bool} {D E : Nat → Prop} {w : World} {v : Value} (h : NodeIs f D w v) (hE : ∀ b, D b → E b) : NodeIs f E w v := by
  obtain ⟨T, u, g, h1, h2, h3, h4, h5⟩ := h
  exact ⟨T, u, g, h1, h2, h3, h4, fun V p hV hI hR => h5 V p (fun b hD => hV b (hE b hD)) hI hR⟩
-- all: the type's name
set_option maxRecDepth 100000 in
theorem nil_all (u : Value) (n : Nat) (W : World) : (nilAhead (n + 1) 120 u "tintype/find.holds").run Try.prog W = .ok (some false) W := by kernel_rfl
set_option maxRecDepth 100000 in
theorem meth_all (u : Value) (n : Nat) (W : World) : (method (n + 1) 120 u "tintype/find.holds").run Try.prog W = .ok (163, u) W := by kernel_rfl
theorem eg_all : ∀ args W, (callFunc 163 args).run Try.prog W = .ok (.enter 163 args) W := enters_of Try.func163 (by kernel_rfl) rfl
-- some: the type's name
set_option maxRecDepth 100000 in
theorem nil_some (u : Value) (n : Nat) (W : World) : (nilAhead (n + 1) 121 u "tintype/find.holds").run Try.prog W = .ok (some false) W := by kernel_rfl
set_option maxRecDepth 100000 in
theorem meth_some (u : Value) (n : Nat) (W : World) : (method (n + 1) 121 u "tintype/find.holds").run Try.prog W = .ok (164, u) W := by kernel_rfl
theorem eg_some : ∀ args W, (callFunc 164 args).run Try.prog W = .ok (.enter 164 args) W := enters_of Try.func164 (by kernel_rfl) rfl
-- no: the type's name
set_option maxRecDepth 100000 in
theorem nil_no (u : Value) (n : Nat) (W : World) : (nilAhead (n + 1) 123 u "tintype/find.holds").run Try.prog W = .ok (some false) W := by kernel_rfl
set_option maxRecDepth 100000 in
theorem meth_no (u : Value) (n : Nat) (W : World) : (method (n + 1) 123 u "tintype/find.holds").run Try.prog W = .ok (165, u) W := by kernel_rfl
theorem eg_no : ∀ args W, (callFunc 165 args).run Try.prog W = .ok (.enter 165 args) W := enters_of Try.func165 (by kernel_rfl) rfl
-- leaf: the type's name
set_option maxRecDepth 100000 in
theorem nil_leaf (u : Value) (n : Nat) (W : World) : (nilAhead (n + 1) 126 u "tintype/find.holds").run Try.prog W = .ok (some false) W := by kernel_rfl
set_option maxRecDepth 100000 in
theorem meth_leaf (u : Value) (n : Nat) (W : World) : (method (n + 1) 126 u "tintype/find.holds").run Try.prog W = .ok (166, u) W := by kernel_rfl
theorem eg_leaf : ∀ args W, (callFunc 166 args).run Try.prog W = .ok (.enter 166 args) W := enters_of Try.func166 (by kernel_rfl) rfl
-- allHolds_is: the theorem; all: the type's name; Hd.all: the answer; Hd.all_yes: the law 'goes on to the end'; Hd.all_no: the law 'ends here'; true: what goes on; false: what ends
set_option maxRecDepth 100000 in
set_option maxHeartbeats 2000000 in
theorem allHolds_is (p : Ph) (hR : p.Right) (f : Nat → Ph → Bool) (D : Nat → Prop) (a : Option Addr) (n ca : Nat) (x : Nat → Value) (w : World) (hr : Row w a n x) (hD : ∀ b, D b → b < w.heap.size) (hx : ∀ i, i < n → NodeIs (f i) D w (x i)) (hn : n ≤ 9223372036854775807) (hI : p.In w) :
    Calls Try.prog 163 #[.slice a n ca, .agg #[.int .i64 p.id, .string p.file, .int .i64 p.mom, .int .i64 p.zone, .slice p.wa p.wn p.wc, .int .i64 p.W, .int .i64 p.H, .int .i64 p.turn, .int .i64 p.stars, .slice p.ta p.tn p.tc, .string p.cap, .slice p.pa p.pn p.pc, .bool p.hid]] w fun e w' => e = .returned (.bool (Hd.all (fun i => f i p) n)) ∧ Below w.heap.size w w' := by
  obtain ⟨W1, hW1, hP, hz1, hB1⟩ := box w #[.int .i64 p.id, .string p.file, .int .i64 p.mom, .int .i64 p.zone, .slice p.wa p.wn p.wc, .int .i64 p.W, .int .i64 p.H, .int .i64 p.turn, .int .i64 p.stars, .slice p.ta p.tn p.tc, .string p.cap, .slice p.pa p.pn p.pc, .bool p.hid] 26
  have HW1 := Lib.hid hW1
  have HR := Lib.hid hr; have HX := Lib.hid hx; have HI := Lib.hid hI; have HD := Lib.hid hD
  have HY := Lib.hid (fun (h : ∀ j, j < n → f j p = true) => Hd.all_yes (f := fun i => f i p) h)
  have HN := Lib.hid (fun j (hj : j < n) (h : f j p = false) => Hd.all_no (f := fun i => f i p) hj h)
  generalize Hd.all (fun i => f i p) n = q at *
  clear hW1 hz1 hr hx hI hD
  go_enter Try.func163, Try.ntmps163
  go_upto_region 1 with fail
  rw [HW1.out]
  go_wp2_with fail
  go_loopg [9] n (fun gk i wr => ∃ j : Nat, j ≤ n ∧ gk = n - j ∧ i = .int .i64 j ∧ (∀ k, k < j → f k p = true) ∧ Below W1.heap.size W1 wr)
  case atStart => exact ⟨0, by omega, rfl, rfl, fun k hk => by omega, Below.refl _ _⟩
  case round =>
    obtain ⟨j, hj, rfl, rfl, hall, hB⟩ := hrel
    have HALL := Lib.hid hall; clear hall
    have hB0 := below_up hB1 hB
    by_cases hlt : j < n
    · obtain ⟨b, off, rfl, hb, hcell⟩ := (HR.out.keep hB0) (by omega)
      have c0 := hcell j hlt
      clear hcell
      obtain ⟨T, u, g, hv, hn1, hn2, eg, hcall⟩ := (HX.out j hlt).below HD.out hB0
      rw [hv] at c0
      obtain ⟨q0, q1, q2, q3, q4, q5, q6, q7, q8, q9, q10, q11, q12⟩ := (hP.keep hB).photo
      have HC := Lib.hid (hcall wr p (fun _ _ => rfl) (HI.out.keep hB0) hR)
      clear hv hcall
      cases hf : f j p
      · have HF := Lib.hid hf
        rw [hf] at HC
        clear hf
        go_wp2_with (go_at_fn g; refine HC.out.mono ?_; rintro e w5 ⟨rfl, hB5⟩)
        go_ret
        exact ⟨ret_bool (HN.out j hlt HF.out).symm, below_up hB0 hB5⟩
      · have HF := Lib.hid hf
        rw [hf] at HC
        clear hf
        go_wp2_with (go_at_fn g; refine HC.out.mono ?_; rintro e w5 ⟨rfl, hB5⟩)
        go_roundg (n - (j + 1))
        case rel => exact ⟨j + 1, by omega, rfl, by go_num, fun k hk => by (by_cases e : k = j); (subst e; exact HF.out); exact HALL.out k (by omega), below_up hB hB5⟩
        case measure => omega
    · obtain rfl : j = n := by omega
      go_wp2_with fail
      go_ret
      exact ⟨ret_bool (HY.out HALL.out).symm, hB0⟩
-- someHolds_is: the theorem; some: the type's name; Fd.hit: the answer; Hd.hit_no: the law 'goes on to the end'; Hd.hit_yes: the law 'ends here'; false: what goes on; true: what ends
set_option maxRecDepth 100000 in
set_option maxHeartbeats 2000000 in
theorem someHolds_is (p : Ph) (hR : p.Right) (f : Nat → Ph → Bool) (D : Nat → Prop) (a : Option Addr) (n ca : Nat) (x : Nat → Value) (w : World) (hr : Row w a n x) (hD : ∀ b, D b → b < w.heap.size) (hx : ∀ i, i < n → NodeIs (f i) D w (x i)) (hn : n ≤ 9223372036854775807) (hI : p.In w) :
    Calls Try.prog 164 #[.slice a n ca, .agg #[.int .i64 p.id, .string p.file, .int .i64 p.mom, .int .i64 p.zone, .slice p.wa p.wn p.wc, .int .i64 p.W, .int .i64 p.H, .int .i64 p.turn, .int .i64 p.stars, .slice p.ta p.tn p.tc, .string p.cap, .slice p.pa p.pn p.pc, .bool p.hid]] w fun e w' => e = .returned (.bool (Fd.hit (fun i => f i p) n)) ∧ Below w.heap.size w w' := by
  obtain ⟨W1, hW1, hP, hz1, hB1⟩ := box w #[.int .i64 p.id, .string p.file, .int .i64 p.mom, .int .i64 p.zone, .slice p.wa p.wn p.wc, .int .i64 p.W, .int .i64 p.H, .int .i64 p.turn, .int .i64 p.stars, .slice p.ta p.tn p.tc, .string p.cap, .slice p.pa p.pn p.pc, .bool p.hid] 26
  have HW1 := Lib.hid hW1
  have HR := Lib.hid hr; have HX := Lib.hid hx; have HI := Lib.hid hI; have HD := Lib.hid hD
  have HY := Lib.hid (fun (h : ∀ j, j < n → f j p = false) => Hd.hit_no (f := fun i => f i p) h)
  have HN := Lib.hid (fun j (hj : j < n) (h : f j p = true) => Hd.hit_yes (f := fun i => f i p) hj h)
  generalize Fd.hit (fun i => f i p) n = q at *
  clear hW1 hz1 hr hx hI hD
  go_enter Try.func164, Try.ntmps164
  go_upto_region 1 with fail
  rw [HW1.out]
  go_wp2_with fail
  go_loopg [9] n (fun gk i wr => ∃ j : Nat, j ≤ n ∧ gk = n - j ∧ i = .int .i64 j ∧ (∀ k, k < j → f k p = false) ∧ Below W1.heap.size W1 wr)
  case atStart => exact ⟨0, by omega, rfl, rfl, fun k hk => by omega, Below.refl _ _⟩
  case round =>
    obtain ⟨j, hj, rfl, rfl, hall, hB⟩ := hrel
    have HALL := Lib.hid hall; clear hall
    have hB0 := below_up hB1 hB
    by_cases hlt : j < n
    · obtain ⟨b, off, rfl, hb, hcell⟩ := (HR.out.keep hB0) (by omega)
      have c0 := hcell j hlt
      clear hcell
      obtain ⟨T, u, g, hv, hn1, hn2, eg, hcall⟩ := (HX.out j hlt).below HD.out hB0
      rw [hv] at c0
      obtain ⟨q0, q1, q2, q3, q4, q5, q6, q7, q8, q9, q10, q11, q12⟩ := (hP.keep hB).photo
      have HC := Lib.hid (hcall wr p (fun _ _ => rfl) (HI.out.keep hB0) hR)
      clear hv hcall
      cases hf : f j p
      · have HF := Lib.hid hf
        rw [hf] at HC
        clear hf
        go_wp2_with (go_at_fn g; refine HC.out.mono ?_; rintro e w5 ⟨rfl, hB5⟩)
        go_roundg (n - (j + 1))
        case rel => exact ⟨j + 1, by omega, rfl, by go_num, fun k hk => by (by_cases e : k = j); (subst e; exact HF.out); exact HALL.out k (by omega), below_up hB hB5⟩
        case measure => omega
      · have HF := Lib.hid hf
        rw [hf] at HC
        clear hf
        go_wp2_with (go_at_fn g; refine HC.out.mono ?_; rintro e w5 ⟨rfl, hB5⟩)
        go_ret
        exact ⟨ret_bool (HN.out j hlt HF.out).symm, below_up hB0 hB5⟩
    · obtain rfl : j = n := by omega
      go_wp2_with fail
      go_ret
      exact ⟨ret_bool (HY.out HALL.out).symm, hB0⟩
set_option maxRecDepth 100000 in
set_option maxHeartbeats 2000000 in
theorem noHolds_is (p : Ph) (hR : p.Right) (f : Ph → Bool) (D : Nat → Prop) (v : Value) (w : World) (hD : ∀ b, D b → b < w.heap.size) (hx : NodeIs f D w v) (hI : p.In w) :
    Calls Try.prog 165 #[.agg #[v], .agg #[.int .i64 p.id, .string p.file, .int .i64 p.mom, .int .i64 p.zone, .slice p.wa p.wn p.wc, .int .i64 p.W, .int .i64 p.H, .int .i64 p.turn, .int .i64 p.stars, .slice p.ta p.tn p.tc, .string p.cap, .slice p.pa p.pn p.pc, .bool p.hid]] w fun e w' => e = .returned (.bool (!f p)) ∧ Below w.heap.size w w' := by
  obtain ⟨T, u, g, rfl, hn1, hn2, eg, hcall⟩ := hx
  obtain ⟨W1, hW1, hN, hz1, hB1⟩ := box w #[.iface T u] 123
  obtain ⟨W2, hW2, hP, hz2, hB2⟩ := box W1 #[.int .i64 p.id, .string p.file, .int .i64 p.mom, .int .i64 p.zone, .slice p.wa p.wn p.wc, .int .i64 p.W, .int .i64 p.H, .int .i64 p.turn, .int .i64 p.stars, .slice p.ta p.tn p.tc, .string p.cap, .slice p.pa p.pn p.pc, .bool p.hid] 26
  have HW1 := Lib.hid hW1; have HW2 := Lib.hid hW2
  have hB := below_up hB1 hB2
  rw [hz1] at hP
  have n0 := (hN.keep hB2).one
  obtain ⟨q0, q1, q2, q3, q4, q5, q6, q7, q8, q9, q10, q11, q12⟩ := hP.photo
  have HC := Lib.hid (hcall W2 p (fun b h => hB.block b (hD b h)) (hI.keep hB) hR)
  clear hW1 hW2 hz1 hz2 hcall hD hI
  generalize f p = q at *
  go_enter Try.func165, Try.ntmps165
  go_upto_region 1 with fail
  rw [HW1.out, HW2.out]
  go_wp2_with (go_at_fn g; refine HC.out.mono ?_; rintro e w5 ⟨rfl, hB5⟩)
  go_ret
  exact ⟨rfl, below_up hB hB5⟩
/-- The value is a question to a photo. -/
def AskIs (f : Ph → Bool) (D : Nat → Prop) (w : World) (g : Nat) (lb : Array Value) : Prop :=
  (∀ args W, (callFunc g args).run Try.prog W = .ok (.enter g args) W) ∧
  ∀ V (p : Ph), (∀ b, D b → V.heap[b]? = w.heap[b]?) → p.In V → p.Right → Calls Try.prog g (#[.agg #[.int .i64 p.id, .string p.file, .int .i64 p.mom, .int .i64 p.zone, .slice p.wa p.wn p.wc, .int .i64 p.W, .int .i64 p.H, .int .i64 p.turn, .int .i64 p.stars, .slice p.ta p.tn p.tc, .string p.cap, .slice p.pa p.pn p.pc, .bool p.hid]] ++ lb) V fun e w' => e = .returned (.bool (f p)) ∧ Below V.heap.size V w'
set_option maxRecDepth 100000 in
set_option maxHeartbeats 2000000 in
theorem leafHolds_is (p : Ph) (hR : p.Right) (f : Ph → Bool) (D : Nat → Prop) (g : Nat) (lb : Array Value) (op : Int) (ka : Option Addr) (kn kc : Nat) (text : ByteArray) (lo hi : Int) (aa : Option Addr) (an ac : Nat) (w : World) (hD : ∀ b, D b → b < w.heap.size) (hx : AskIs f D w g lb) (hI : p.In w) :
    Calls Try.prog 166 #[.agg #[.int .i64 op, .slice ka kn kc, .string text, .int .i64 lo, .int .i64 hi, .slice aa an ac, .func (.func g) #[] lb], .agg #[.int .i64 p.id, .string p.file, .int .i64 p.mom, .int .i64 p.zone, .slice p.wa p.wn p.wc, .int .i64 p.W, .int .i64 p.H, .int .i64 p.turn, .int .i64 p.stars, .slice p.ta p.tn p.tc, .string p.cap, .slice p.pa p.pn p.pc, .bool p.hid]] w fun e w' => e = .returned (.bool (f p)) ∧ Below w.heap.size w w' := by
  obtain ⟨eg, hcall⟩ := hx
  obtain ⟨W1, hW1, hN, hz1, hB1⟩ := box w #[.int .i64 op, .slice ka kn kc, .string text, .int .i64 lo, .int .i64 hi, .slice aa an ac, .func (.func g) #[] lb] 126
  obtain ⟨W2, hW2, hP, hz2, hB2⟩ := box W1 #[.int .i64 p.id, .string p.file, .int .i64 p.mom, .int .i64 p.zone, .slice p.wa p.wn p.wc, .int .i64 p.W, .int .i64 p.H, .int .i64 p.turn, .int .i64 p.stars, .slice p.ta p.tn p.tc, .string p.cap, .slice p.pa p.pn p.pc, .bool p.hid] 26
  have HW1 := Lib.hid hW1; have HW2 := Lib.hid hW2
  have hB := below_up hB1 hB2
  rw [hz1] at hP
  have n0 : W2.cell? ⟨w.heap.size, 6, none⟩ = some (.func (.func g) #[] lb) := by have := hN.keep hB2; simp only [this.cell]; rfl
  obtain ⟨q0, q1, q2, q3, q4, q5, q6, q7, q8, q9, q10, q11, q12⟩ := hP.photo
  have HC := Lib.hid (hcall W2 p (fun b h => hB.block b (hD b h)) (hI.keep hB) hR)
  clear hW1 hW2 hz1 hz2 hcall hD hI
  generalize f p = q at *
  go_enter Try.func166, Try.ntmps166
  go_upto_region 1 with fail
  rw [HW1.out, HW2.out]
  go_wp2_with (go_at_fn g; refine HC.out.mono ?_; rintro e w5 ⟨rfl, hB5⟩)
  go_ret
  exact ⟨rfl, below_up hB hB5⟩
end Go.Proofs.Ytipmegkmkbbklaa
namespace Go.Proofs.Ytipmegkmkbbklaa
open Go.RowKit Go.Sort Go.Shelf
set_option linter.unusedVariables false
/-- The blocks that were there at first, and those made between. -/
def Dm (w0 w w' : World) (b : Nat) : Prop := b < w0.heap.size ∨ (w.heap.size ≤ b ∧ b < w'.heap.size)
def AskPost (w0 w : World) (f : Ph → Bool) (e : Ending) (w' : World) : Prop :=
  ∃ g lb, e = .returned (.func (.func g) #[] lb) ∧ AskIs f (Dm w0 w w') w' g lb ∧ Below w.heap.size w w'
theorem Row2.same {w0 V : World} {a : Option Addr} {n : Nat} {f g : Nat → Value} (h : Row2 w0 a n f g) (hb : ∀ b, b < w0.heap.size → V.heap[b]? = w0.heap[b]?) (hs : w0.heap.size ≤ V.heap.size) : Row2 V a n f g := by
  intro hn
  obtain ⟨b, off, rfl, hlt, hc⟩ := h hn
  have hcell : ∀ o, V.cell? ⟨b, o, none⟩ = w0.cell? ⟨b, o, none⟩ := fun o => by unfold World.cell?; rw [hb b hlt]
  exact ⟨b, off, rfl, Nat.lt_of_lt_of_le hlt hs, fun i hi => ⟨(hcell _).trans (hc i hi).1, (hcell _).trans (hc i hi).2⟩⟩
theorem MxL.same {w0 V : World} (h : MxL w0) (hb : ∀ b, b < w0.heap.size → V.heap[b]? = w0.heap[b]?) : MxL V := by
  obtain ⟨m, hm⟩ := h
  refine ⟨m, ?_⟩
  have hlt := World.block_lt_of_cell? w0 _ hm
  rw [← hm]
  unfold World.cell?
  rw [hb _ hlt]
/-- What an operation finds: the worlds before it. -/
structure AskAt (w0 w V w' : World) : Prop where
  same : ∀ b, b < w0.heap.size → V.heap[b]? = w0.heap[b]?
  new : ∀ b, w.heap.size ≤ b → b < w'.heap.size → V.heap[b]? = w'.heap[b]?
theorem askAt {w0 w V w' : World} (h0 : Below w0.heap.size w0 w) (h1 : Below w.heap.size w w') (hV : ∀ b, Dm w0 w w' b → V.heap[b]? = w'.heap[b]?) : AskAt w0 w V w' :=
  ⟨fun b hb => (hV b (.inl hb)).trans ((h1.block b (Nat.lt_of_lt_of_le hb h0.size)).trans (h0.block b hb)), fun b h1 h2 => hV b (.inr ⟨h1, h2⟩)⟩
theorem askAt_size {w0 w V w' : World} (h : AskAt w0 w V w') (h0 : Below w0.heap.size w0 w) : w0.heap.size ≤ V.heap.size := by
  rcases Nat.lt_or_ge V.heap.size w0.heap.size with g | g
  · have := h.same _ g
    rw [Array.getElem?_eq_none (Nat.le_refl _)] at this
    rw [Array.getElem?_eq_getElem g] at this
    cases this
  · exact g
theorem placed_fn (g : Nat) (lb : Array Value) (w : World) : Calls Try.prog 121 #[.func (.func g) #[] lb] w fun e w' => e = .returned (.func (.func 138) #[] #[.pointer (some ⟨w.heap.size, 0, none⟩)]) ∧ w' = w.alloc (.cells #[.func (.func g) #[] lb] 99) := by
  go_enter Try.func121, Try.ntmps121
  go_wp2_with fail
  go_ret
  exact ⟨rfl, rfl⟩
theorem egPlc : ∀ args W, (callFunc 138 args).run Try.prog W = .ok (.enter 138 args) W := enters_of Try.func138 (by kernel_rfl) rfl
-- asking_4: the theorem; 4: the operation; f.asking$1: the closure; ask1_is p hR _ 4 ka kn kc text lo hi aa an ac V hb hI: the closure's contract; : more facts
set_option maxRecDepth 100000 in
set_option maxHeartbeats 2000000 in
theorem asking_4 (ka : Option Addr) (kn kc : Nat) (text : ByteArray) (lo hi : Int) (aa : Option Addr) (an ac : Nat) (lat lon : Nat → Int) (w0 w : World) (h0 : Below w0.heap.size w0 w) : Calls Try.prog 92 #[.agg #[.int .i64 4, .slice ka kn kc, .string text, .int .i64 lo, .int .i64 hi, .slice aa an ac]] w (AskPost w0 w fun p => Hd.leaf p 4 text lo hi lat lon) := by
  have eg : ∀ args W, (callFunc 108 args).run Try.prog W = .ok (.enter 108 args) W := enters_of Try.func108 (by kernel_rfl) rfl
  obtain ⟨W1, hW1, hP, hz1, hB1⟩ := box w #[.int .i64 4, .slice ka kn kc, .string text, .int .i64 lo, .int .i64 hi, .slice aa an ac] 53
  have HW1 := Lib.hid hW1
  obtain ⟨l0, l1, l2, l3, l4, l5⟩ := hP.six
  clear hW1 hz1
  go_enter Try.func92, Try.ntmps92
  go_upto_region 1 with fail
  rw [HW1.out]
  go_wp2_with fail
  go_ret
  refine ⟨_, _, rfl, ⟨eg, fun V p hV hI hR => ?_⟩, hB1⟩
  have hA := askAt h0 hB1 hV
  have hb : Blk V w.heap.size #[.int .i64 4, .slice ka kn kc, .string text, .int .i64 lo, .int .i64 hi, .slice aa an ac] 53 := (hA.new _ (Nat.le_refl _) hP.lt).trans hP
  exact ask1_is p hR _ 4 ka kn kc text lo hi aa an ac V hb hI
-- asking_6: the theorem; 6: the operation; f.asking$3: the closure; ask3_is p hR _ 6 ka kn kc text lo hi aa an ac V hb hI: the closure's contract; : more facts
set_option maxRecDepth 100000 in
set_option maxHeartbeats 2000000 in
theorem asking_6 (ka : Option Addr) (kn kc : Nat) (text : ByteArray) (lo hi : Int) (aa : Option Addr) (an ac : Nat) (lat lon : Nat → Int) (w0 w : World) (h0 : Below w0.heap.size w0 w) : Calls Try.prog 92 #[.agg #[.int .i64 6, .slice ka kn kc, .string text, .int .i64 lo, .int .i64 hi, .slice aa an ac]] w (AskPost w0 w fun p => Hd.leaf p 6 text lo hi lat lon) := by
  have eg : ∀ args W, (callFunc 112 args).run Try.prog W = .ok (.enter 112 args) W := enters_of Try.func112 (by kernel_rfl) rfl
  obtain ⟨W1, hW1, hP, hz1, hB1⟩ := box w #[.int .i64 6, .slice ka kn kc, .string text, .int .i64 lo, .int .i64 hi, .slice aa an ac] 53
  have HW1 := Lib.hid hW1
  obtain ⟨l0, l1, l2, l3, l4, l5⟩ := hP.six
  clear hW1 hz1
  go_enter Try.func92, Try.ntmps92
  go_upto_region 1 with fail
  rw [HW1.out]
  go_wp2_with fail
  go_ret
  refine ⟨_, _, rfl, ⟨eg, fun V p hV hI hR => ?_⟩, hB1⟩
  have hA := askAt h0 hB1 hV
  have hb : Blk V w.heap.size #[.int .i64 6, .slice ka kn kc, .string text, .int .i64 lo, .int .i64 hi, .slice aa an ac] 53 := (hA.new _ (Nat.le_refl _) hP.lt).trans hP
  exact ask3_is p hR _ 6 ka kn kc text lo hi aa an ac V hb hI
-- asking_7: the theorem; 7: the operation; f.asking$4: the closure; ask4_is p _ 7 ka kn kc text lo hi aa an ac V hb hI: the closure's contract; : more facts
set_option maxRecDepth 100000 in
set_option maxHeartbeats 2000000 in
theorem asking_7 (ka : Option Addr) (kn kc : Nat) (text : ByteArray) (lo hi : Int) (aa : Option Addr) (an ac : Nat) (lat lon : Nat → Int) (w0 w : World) (h0 : Below w0.heap.size w0 w) : Calls Try.prog 92 #[.agg #[.int .i64 7, .slice ka kn kc, .string text, .int .i64 lo, .int .i64 hi, .slice aa an ac]] w (AskPost w0 w fun p => Hd.leaf p 7 text lo hi lat lon) := by
  have eg : ∀ args W, (callFunc 114 args).run Try.prog W = .ok (.enter 114 args) W := enters_of Try.func114 (by kernel_rfl) rfl
  obtain ⟨W1, hW1, hP, hz1, hB1⟩ := box w #[.int .i64 7, .slice ka kn kc, .string text, .int .i64 lo, .int .i64 hi, .slice aa an ac] 53
  have HW1 := Lib.hid hW1
  obtain ⟨l0, l1, l2, l3, l4, l5⟩ := hP.six
  clear hW1 hz1
  go_enter Try.func92, Try.ntmps92
  go_upto_region 1 with fail
  rw [HW1.out]
  go_wp2_with fail
  go_ret
  refine ⟨_, _, rfl, ⟨eg, fun V p hV hI hR => ?_⟩, hB1⟩
  have hA := askAt h0 hB1 hV
  have hb : Blk V w.heap.size #[.int .i64 7, .slice ka kn kc, .string text, .int .i64 lo, .int .i64 hi, .slice aa an ac] 53 := (hA.new _ (Nat.le_refl _) hP.lt).trans hP
  exact ask4_is p _ 7 ka kn kc text lo hi aa an ac V hb hI
-- asking_8: the theorem; 8: the operation; f.asking$5: the closure; ask5_is p hR _ 8 ka kn kc text lo hi aa an ac V hb hI: the closure's contract; : more facts
set_option maxRecDepth 100000 in
set_option maxHeartbeats 2000000 in
theorem asking_8 (ka : Option Addr) (kn kc : Nat) (text : ByteArray) (lo hi : Int) (aa : Option Addr) (an ac : Nat) (lat lon : Nat → Int) (w0 w : World) (h0 : Below w0.heap.size w0 w) : Calls Try.prog 92 #[.agg #[.int .i64 8, .slice ka kn kc, .string text, .int .i64 lo, .int .i64 hi, .slice aa an ac]] w (AskPost w0 w fun p => Hd.leaf p 8 text lo hi lat lon) := by
  have eg : ∀ args W, (callFunc 115 args).run Try.prog W = .ok (.enter 115 args) W := enters_of Try.func115 (by kernel_rfl) rfl
  obtain ⟨W1, hW1, hP, hz1, hB1⟩ := box w #[.int .i64 8, .slice ka kn kc, .string text, .int .i64 lo, .int .i64 hi, .slice aa an ac] 53
  have HW1 := Lib.hid hW1
  obtain ⟨l0, l1, l2, l3, l4, l5⟩ := hP.six
  clear hW1 hz1
  go_enter Try.func92, Try.ntmps92
  go_upto_region 1 with fail
  rw [HW1.out]
  go_wp2_with fail
  go_ret
  refine ⟨_, _, rfl, ⟨eg, fun V p hV hI hR => ?_⟩, hB1⟩
  have hA := askAt h0 hB1 hV
  have hb : Blk V w.heap.size #[.int .i64 8, .slice ka kn kc, .string text, .int .i64 lo, .int .i64 hi, .slice aa an ac] 53 := (hA.new _ (Nat.le_refl _) hP.lt).trans hP
  exact ask5_is p hR _ 8 ka kn kc text lo hi aa an ac V hb hI
-- asking_9: the theorem; 9: the operation; f.asking$6: the closure; ask6_is p hR V: the closure's contract; : more facts
set_option maxRecDepth 100000 in
set_option maxHeartbeats 2000000 in
theorem asking_9 (ka : Option Addr) (kn kc : Nat) (text : ByteArray) (lo hi : Int) (aa : Option Addr) (an ac : Nat) (lat lon : Nat → Int) (w0 w : World) (h0 : Below w0.heap.size w0 w) : Calls Try.prog 92 #[.agg #[.int .i64 9, .slice ka kn kc, .string text, .int .i64 lo, .int .i64 hi, .slice aa an ac]] w (AskPost w0 w fun p => Hd.leaf p 9 text lo hi lat lon) := by
  have eg : ∀ args W, (callFunc 116 args).run Try.prog W = .ok (.enter 116 args) W := enters_of Try.func116 (by kernel_rfl) rfl
  obtain ⟨W1, hW1, hP, hz1, hB1⟩ := box w #[.int .i64 9, .slice ka kn kc, .string text, .int .i64 lo, .int .i64 hi, .slice aa an ac] 53
  have HW1 := Lib.hid hW1
  obtain ⟨l0, l1, l2, l3, l4, l5⟩ := hP.six
  clear hW1 hz1
  go_enter Try.func92, Try.ntmps92
  go_upto_region 1 with fail
  rw [HW1.out]
  go_wp2_with fail
  go_ret
  refine ⟨_, _, rfl, ⟨eg, fun V p hV hI hR => ?_⟩, hB1⟩
  have hA := askAt h0 hB1 hV
  have hb : Blk V w.heap.size #[.int .i64 9, .slice ka kn kc, .string text, .int .i64 lo, .int .i64 hi, .slice aa an ac] 53 := (hA.new _ (Nat.le_refl _) hP.lt).trans hP
  exact ask6_is p hR V
-- asking_10: the theorem; 10: the operation; f.asking$7: the closure; ask7_is p hR V: the closure's contract; : more facts
set_option maxRecDepth 100000 in
set_option maxHeartbeats 2000000 in
theorem asking_10 (ka : Option Addr) (kn kc : Nat) (text : ByteArray) (lo hi : Int) (aa : Option Addr) (an ac : Nat) (lat lon : Nat → Int) (w0 w : World) (h0 : Below w0.heap.size w0 w) : Calls Try.prog 92 #[.agg #[.int .i64 10, .slice ka kn kc, .string text, .int .i64 lo, .int .i64 hi, .slice aa an ac]] w (AskPost w0 w fun p => Hd.leaf p 10 text lo hi lat lon) := by
  have eg : ∀ args W, (callFunc 118 args).run Try.prog W = .ok (.enter 118 args) W := enters_of Try.func118 (by kernel_rfl) rfl
  obtain ⟨W1, hW1, hP, hz1, hB1⟩ := box w #[.int .i64 10, .slice ka kn kc, .string text, .int .i64 lo, .int .i64 hi, .slice aa an ac] 53
  have HW1 := Lib.hid hW1
  obtain ⟨l0, l1, l2, l3, l4, l5⟩ := hP.six
  clear hW1 hz1
  go_enter Try.func92, Try.ntmps92
  go_upto_region 1 with fail
  rw [HW1.out]
  go_wp2_with fail
  go_ret
  refine ⟨_, _, rfl, ⟨eg, fun V p hV hI hR => ?_⟩, hB1⟩
  have hA := askAt h0 hB1 hV
  have hb : Blk V w.heap.size #[.int .i64 10, .slice ka kn kc, .string text, .int .i64 lo, .int .i64 hi, .slice aa an ac] 53 := (hA.new _ (Nat.le_refl _) hP.lt).trans hP
  exact ask7_is p hR V
-- asking_11: the theorem; 11: the operation; f.asking$8: the closure; ask8_is p hR V: the closure's contract; : more facts
set_option maxRecDepth 100000 in
set_option maxHeartbeats 2000000 in
theorem asking_11 (ka : Option Addr) (kn kc : Nat) (text : ByteArray) (lo hi : Int) (aa : Option Addr) (an ac : Nat) (lat lon : Nat → Int) (w0 w : World) (h0 : Below w0.heap.size w0 w) : Calls Try.prog 92 #[.agg #[.int .i64 11, .slice ka kn kc, .string text, .int .i64 lo, .int .i64 hi, .slice aa an ac]] w (AskPost w0 w fun p => Hd.leaf p 11 text lo hi lat lon) := by
  have eg : ∀ args W, (callFunc 119 args).run Try.prog W = .ok (.enter 119 args) W := enters_of Try.func119 (by kernel_rfl) rfl
  obtain ⟨W1, hW1, hP, hz1, hB1⟩ := box w #[.int .i64 11, .slice ka kn kc, .string text, .int .i64 lo, .int .i64 hi, .slice aa an ac] 53
  have HW1 := Lib.hid hW1
  obtain ⟨l0, l1, l2, l3, l4, l5⟩ := hP.six
  clear hW1 hz1
  go_enter Try.func92, Try.ntmps92
  go_upto_region 1 with fail
  rw [HW1.out]
  go_wp2_with fail
  go_ret
  refine ⟨_, _, rfl, ⟨eg, fun V p hV hI hR => ?_⟩, hB1⟩
  have hA := askAt h0 hB1 hV
  have hb : Blk V w.heap.size #[.int .i64 11, .slice ka kn kc, .string text, .int .i64 lo, .int .i64 hi, .slice aa an ac] 53 := (hA.new _ (Nat.le_refl _) hP.lt).trans hP
  exact ask8_is p hR V
-- asking_12: the theorem; 12: the operation; f.asking$9: the closure; ask9_is p V: the closure's contract; : more facts
set_option maxRecDepth 100000 in
set_option maxHeartbeats 2000000 in
theorem asking_12 (ka : Option Addr) (kn kc : Nat) (text : ByteArray) (lo hi : Int) (aa : Option Addr) (an ac : Nat) (lat lon : Nat → Int) (w0 w : World) (h0 : Below w0.heap.size w0 w) : Calls Try.prog 92 #[.agg #[.int .i64 12, .slice ka kn kc, .string text, .int .i64 lo, .int .i64 hi, .slice aa an ac]] w (AskPost w0 w fun p => Hd.leaf p 12 text lo hi lat lon) := by
  have eg : ∀ args W, (callFunc 120 args).run Try.prog W = .ok (.enter 120 args) W := enters_of Try.func120 (by kernel_rfl) rfl
  obtain ⟨W1, hW1, hP, hz1, hB1⟩ := box w #[.int .i64 12, .slice ka kn kc, .string text, .int .i64 lo, .int .i64 hi, .slice aa an ac] 53
  have HW1 := Lib.hid hW1
  obtain ⟨l0, l1, l2, l3, l4, l5⟩ := hP.six
  clear hW1 hz1
  go_enter Try.func92, Try.ntmps92
  go_upto_region 1 with fail
  rw [HW1.out]
  go_wp2_with fail
  go_ret
  refine ⟨_, _, rfl, ⟨eg, fun V p hV hI hR => ?_⟩, hB1⟩
  have hA := askAt h0 hB1 hV
  have hb : Blk V w.heap.size #[.int .i64 12, .slice ka kn kc, .string text, .int .i64 lo, .int .i64 hi, .slice aa an ac] 53 := (hA.new _ (Nat.le_refl _) hP.lt).trans hP
  exact ask9_is p V
-- asking_16: the theorem; 16: the operation; f.asking$13: the closure; ask13_is p V: the closure's contract; : more facts
set_option maxRecDepth 100000 in
set_option maxHeartbeats 2000000 in
theorem asking_16 (ka : Option Addr) (kn kc : Nat) (text : ByteArray) (lo hi : Int) (aa : Option Addr) (an ac : Nat) (lat lon : Nat → Int) (w0 w : World) (h0 : Below w0.heap.size w0 w) : Calls Try.prog 92 #[.agg #[.int .i64 16, .slice ka kn kc, .string text, .int .i64 lo, .int .i64 hi, .slice aa an ac]] w (AskPost w0 w fun p => Hd.leaf p 16 text lo hi lat lon) := by
  have eg : ∀ args W, (callFunc 126 args).run Try.prog W = .ok (.enter 126 args) W := enters_of Try.func126 (by kernel_rfl) rfl
  obtain ⟨W1, hW1, hP, hz1, hB1⟩ := box w #[.int .i64 16, .slice ka kn kc, .string text, .int .i64 lo, .int .i64 hi, .slice aa an ac] 53
  have HW1 := Lib.hid hW1
  obtain ⟨l0, l1, l2, l3, l4, l5⟩ := hP.six
  clear hW1 hz1
  go_enter Try.func92, Try.ntmps92
  go_upto_region 1 with fail
  rw [HW1.out]
  go_wp2_with fail
  go_ret
  refine ⟨_, _, rfl, ⟨eg, fun V p hV hI hR => ?_⟩, hB1⟩
  have hA := askAt h0 hB1 hV
  have hb : Blk V w.heap.size #[.int .i64 16, .slice ka kn kc, .string text, .int .i64 lo, .int .i64 hi, .slice aa an ac] 53 := (hA.new _ (Nat.le_refl _) hP.lt).trans hP
  exact ask13_is p V
set_option maxRecDepth 100000 in
set_option maxHeartbeats 2000000 in
theorem asking_5 (ka : Option Addr) (kn kc : Nat) (text : ByteArray) (lo hi : Int) (aa : Option Addr) (an ac : Nat) (lat lon : Nat → Int) (w0 w : World) (h0 : Below w0.heap.size w0 w) (hmx : MxL w0) (ht : text.size ≤ 200) : Calls Try.prog 92 #[.agg #[.int .i64 5, .slice ka kn kc, .string text, .int .i64 lo, .int .i64 hi, .slice aa an ac]] w (AskPost w0 w fun p => Hd.leaf p 5 text lo hi lat lon) := by
  have eg : ∀ args W, (callFunc 111 args).run Try.prog W = .ok (.enter 111 args) W := enters_of Try.func111 (by kernel_rfl) rfl
  have HC := Lib.hid (fun W => lower_is text ht W)
  obtain ⟨W1, hW1, hP, hz1, hB1⟩ := box w #[.int .i64 5, .slice ka kn kc, .string text, .int .i64 lo, .int .i64 hi, .slice aa an ac] 53
  have HW1 := Lib.hid hW1
  obtain ⟨l0, l1, l2, l3, l4, l5⟩ := hP.six
  clear hW1 hz1
  go_enter Try.func92, Try.ntmps92
  go_upto_region 1 with fail
  rw [HW1.out]
  go_wp2_with (go_at_call 110; (with_reducible refine (HC.out _).mono ?_); rintro e w4 ⟨rfl, hB4⟩)
  go_ret
  have hB := below_up hB1 hB4
  have hBx := below_allocs hB (.cells #[.string (Hd.low text)] 9)
  refine ⟨_, _, rfl, ⟨eg, fun V p hV hI hR => ?_⟩, hBx⟩
  have hA := askAt h0 hBx hV
  have hb : Blk V w4.heap.size #[.string (Hd.low text)] 9 := (hA.new _ hB.size (by simp)).trans (Blk.new w4 _ _)
  exact ask2_is p hR _ _ V hb (hmx.same hA.same) hI
-- asking_13: the theorem; 13: the operation; f.asking$10: the closure; true: the question; ask10_is _ _ W: the closure's contract; : premises
set_option maxRecDepth 100000 in
set_option maxHeartbeats 2000000 in
theorem asking_13 (ka : Option Addr) (kn kc : Nat) (text : ByteArray) (lo hi : Int) (aa : Option Addr) (an ac : Nat) (lat lon : Nat → Int) (w0 w : World) (h0 : Below w0.heap.size w0 w) (hr : Row2 w0 aa an (fun i => .int .i64 (lat i)) (fun i => .int .i64 (lon i)))  : Calls Try.prog 92 #[.agg #[.int .i64 13, .slice ka kn kc, .string text, .int .i64 lo, .int .i64 hi, .slice aa an ac]] w (AskPost w0 w fun p => Hd.leaf p 13 text lo hi lat lon) := by
  have eg2 : ∀ args W, (callFunc 122 args).run Try.prog W = .ok (.enter 122 args) W := enters_of Try.func122 (by kernel_rfl) rfl
  have HC := Lib.hid (fun lb W => placed_fn 122 lb W)
  obtain ⟨W1, hW1, hP, hz1, hB1⟩ := box w #[.int .i64 13, .slice ka kn kc, .string text, .int .i64 lo, .int .i64 hi, .slice aa an ac] 53
  have HW1 := Lib.hid hW1
  obtain ⟨l0, l1, l2, l3, l4, l5⟩ := hP.six
  clear hW1 hz1
  go_enter Try.func92, Try.ntmps92
  go_upto_region 1 with fail
  rw [HW1.out]
  go_wp2_with (go_at_call 121; (with_reducible refine (HC.out _ _).mono ?_); rintro e w4 ⟨rfl, rfl⟩)
  go_ret
  have hBx := below_allocs hB1 (.cells #[.func (.func 122) #[] #[]] 99)
  refine ⟨_, _, rfl, ⟨egPlc, fun V p hV hI hR => ?_⟩, hBx⟩
  have hA := askAt h0 hBx hV
  have hs := askAt_size hA h0
  have hb : Blk V w.heap.size #[.int .i64 13, .slice ka kn kc, .string text, .int .i64 lo, .int .i64 hi, .slice aa an ac] 53 := (hA.new _ (Nat.le_refl _) (by have := hP.lt; simp; omega)).trans (hP.alloc _)
  have hb2 : Blk V W1.heap.size #[.func (.func 122) #[] #[]] 99 := (hA.new _ hB1.size (by simp)).trans (Blk.new W1 _ _)
  have hr2 := hr.same (V := V) hA.same hs
  have h := plc1_is 122 _ eg2 (true) p _ V hb2 hI (fun _ W hW => ask10_is _ _ W)
  first
    | with_reducible exact h
    | exact h
    | (rw [Bool.and_true] at h; exact h)
-- asking_14: the theorem; 14: the operation; f.asking$11: the closure; decide (Hd.dist (p.lat 0) (p.lon 0) (lat 0) (lon 0) ≤ lo): the question; ask11_is _ _ _ 14 ka kn kc text lo hi aa an ac lat lon W (hb.keep hW) (hr2.keep hW) hn.out: the closure's contract; (hn : Hid (an = 1)): premises
set_option maxRecDepth 100000 in
set_option maxHeartbeats 2000000 in
theorem asking_14 (ka : Option Addr) (kn kc : Nat) (text : ByteArray) (lo hi : Int) (aa : Option Addr) (an ac : Nat) (lat lon : Nat → Int) (w0 w : World) (h0 : Below w0.heap.size w0 w) (hr : Row2 w0 aa an (fun i => .int .i64 (lat i)) (fun i => .int .i64 (lon i))) (hn : Hid (an = 1)) : Calls Try.prog 92 #[.agg #[.int .i64 14, .slice ka kn kc, .string text, .int .i64 lo, .int .i64 hi, .slice aa an ac]] w (AskPost w0 w fun p => Hd.leaf p 14 text lo hi lat lon) := by
  have eg2 : ∀ args W, (callFunc 123 args).run Try.prog W = .ok (.enter 123 args) W := enters_of Try.func123 (by kernel_rfl) rfl
  have HC := Lib.hid (fun lb W => placed_fn 123 lb W)
  obtain ⟨W1, hW1, hP, hz1, hB1⟩ := box w #[.int .i64 14, .slice ka kn kc, .string text, .int .i64 lo, .int .i64 hi, .slice aa an ac] 53
  have HW1 := Lib.hid hW1
  obtain ⟨l0, l1, l2, l3, l4, l5⟩ := hP.six
  clear hW1 hz1
  go_enter Try.func92, Try.ntmps92
  go_upto_region 1 with fail
  rw [HW1.out]
  go_wp2_with (go_at_call 121; (with_reducible refine (HC.out _ _).mono ?_); rintro e w4 ⟨rfl, rfl⟩)
  go_ret
  have hBx := below_allocs hB1 (.cells #[.func (.func 123) #[] #[.pointer (some ⟨w.heap.size, 0, none⟩)]] 99)
  refine ⟨_, _, rfl, ⟨egPlc, fun V p hV hI hR => ?_⟩, hBx⟩
  have hA := askAt h0 hBx hV
  have hs := askAt_size hA h0
  have hb : Blk V w.heap.size #[.int .i64 14, .slice ka kn kc, .string text, .int .i64 lo, .int .i64 hi, .slice aa an ac] 53 := (hA.new _ (Nat.le_refl _) (by have := hP.lt; simp; omega)).trans (hP.alloc _)
  have hb2 : Blk V W1.heap.size #[.func (.func 123) #[] #[.pointer (some ⟨w.heap.size, 0, none⟩)]] 99 := (hA.new _ hB1.size (by simp)).trans (Blk.new W1 _ _)
  have hr2 := hr.same (V := V) hA.same hs
  have h := plc1_is 123 _ eg2 (decide (Hd.dist (p.lat 0) (p.lon 0) (lat 0) (lon 0) ≤ lo)) p _ V hb2 hI (fun _ W hW => ask11_is _ _ _ 14 ka kn kc text lo hi aa an ac lat lon W (hb.keep hW) (hr2.keep hW) hn.out)
  first
    | with_reducible exact h
    | exact h
    | (rw [Bool.and_true] at h; exact h)
-- asking_15: the theorem; 15: the operation; f.asking$12: the closure; Hd.box (p.lat 0) (p.lon 0) (lat 0) (lon 0) (lat 1) (lon 1): the question; ask12_is _ _ _ 15 ka kn kc text lo hi aa an ac lat lon W (hb.keep hW) (hr2.keep hW) hn.out: the closure's contract; (hn : Hid (an = 2)): premises
set_option maxRecDepth 100000 in
set_option maxHeartbeats 2000000 in
theorem asking_15 (ka : Option Addr) (kn kc : Nat) (text : ByteArray) (lo hi : Int) (aa : Option Addr) (an ac : Nat) (lat lon : Nat → Int) (w0 w : World) (h0 : Below w0.heap.size w0 w) (hr : Row2 w0 aa an (fun i => .int .i64 (lat i)) (fun i => .int .i64 (lon i))) (hn : Hid (an = 2)) : Calls Try.prog 92 #[.agg #[.int .i64 15, .slice ka kn kc, .string text, .int .i64 lo, .int .i64 hi, .slice aa an ac]] w (AskPost w0 w fun p => Hd.leaf p 15 text lo hi lat lon) := by
  have eg2 : ∀ args W, (callFunc 124 args).run Try.prog W = .ok (.enter 124 args) W := enters_of Try.func124 (by kernel_rfl) rfl
  have HC := Lib.hid (fun lb W => placed_fn 124 lb W)
  obtain ⟨W1, hW1, hP, hz1, hB1⟩ := box w #[.int .i64 15, .slice ka kn kc, .string text, .int .i64 lo, .int .i64 hi, .slice aa an ac] 53
  have HW1 := Lib.hid hW1
  obtain ⟨l0, l1, l2, l3, l4, l5⟩ := hP.six
  clear hW1 hz1
  go_enter Try.func92, Try.ntmps92
  go_upto_region 1 with fail
  rw [HW1.out]
  go_wp2_with (go_at_call 121; (with_reducible refine (HC.out _ _).mono ?_); rintro e w4 ⟨rfl, rfl⟩)
  go_ret
  have hBx := below_allocs hB1 (.cells #[.func (.func 124) #[] #[.pointer (some ⟨w.heap.size, 0, none⟩)]] 99)
  refine ⟨_, _, rfl, ⟨egPlc, fun V p hV hI hR => ?_⟩, hBx⟩
  have hA := askAt h0 hBx hV
  have hs := askAt_size hA h0
  have hb : Blk V w.heap.size #[.int .i64 15, .slice ka kn kc, .string text, .int .i64 lo, .int .i64 hi, .slice aa an ac] 53 := (hA.new _ (Nat.le_refl _) (by have := hP.lt; simp; omega)).trans (hP.alloc _)
  have hb2 : Blk V W1.heap.size #[.func (.func 124) #[] #[.pointer (some ⟨w.heap.size, 0, none⟩)]] 99 := (hA.new _ hB1.size (by simp)).trans (Blk.new W1 _ _)
  have hr2 := hr.same (V := V) hA.same hs
  have h := plc1_is 124 _ eg2 (Hd.box (p.lat 0) (p.lon 0) (lat 0) (lon 0) (lat 1) (lon 1)) p _ V hb2 hI (fun _ W hW => ask12_is _ _ _ 15 ka kn kc text lo hi aa an ac lat lon W (hb.keep hW) (hr2.keep hW) hn.out)
  first
    | with_reducible exact h
    | exact h
    | (rw [Bool.and_true] at h; exact h)
theorem asking_is (c : Cnd) (hg : c.Good) (h4 : 4 ≤ c.op) (w0 w : World) (hI : c.In w0) (h0 : Below w0.heap.size w0 w) (hmx : MxL w0) : Calls Try.prog 92 #[.agg #[.int .i64 c.op, .slice c.ka c.kn c.kc, .string c.text, .int .i64 c.low, .int .i64 c.high, .slice c.aa c.an c.ac]] w (AskPost w0 w fun p => Hd.leaf p c.op c.text c.low c.high c.lat c.lon) := by
  have hop := hg.op
  have h1 := hg.at1; have h2 := hg.at2; have h3 := hg.says; have hr := hI.row
  generalize c.op = k at *
  have : k = 4 ∨ k = 5 ∨ k = 6 ∨ k = 7 ∨ k = 8 ∨ k = 9 ∨ k = 10 ∨ k = 11 ∨ k = 12 ∨ k = 13 ∨ k = 14 ∨ k = 15 ∨ k = 16 := by omega
  rcases this with rfl | rfl | rfl | rfl | rfl | rfl | rfl | rfl | rfl | rfl | rfl | rfl | rfl
  · exact asking_4 _ _ _ _ _ _ _ _ _ _ _ w0 w h0
  · exact asking_5 _ _ _ _ _ _ _ _ _ _ _ w0 w h0 hmx (h3 rfl).2
  · exact asking_6 _ _ _ _ _ _ _ _ _ _ _ w0 w h0
  · exact asking_7 _ _ _ _ _ _ _ _ _ _ _ w0 w h0
  · exact asking_8 _ _ _ _ _ _ _ _ _ _ _ w0 w h0
  · exact asking_9 _ _ _ _ _ _ _ _ _ _ _ w0 w h0
  · exact asking_10 _ _ _ _ _ _ _ _ _ _ _ w0 w h0
  · exact asking_11 _ _ _ _ _ _ _ _ _ _ _ w0 w h0
  · exact asking_12 _ _ _ _ _ _ _ _ _ _ _ w0 w h0
  · exact asking_13 _ _ _ _ _ _ _ _ _ _ _ w0 w h0 hr
  · exact asking_14 _ _ _ _ _ _ _ _ _ _ _ w0 w h0 hr (Lib.hid (h1 rfl))
  · exact asking_15 _ _ _ _ _ _ _ _ _ _ _ w0 w h0 hr (Lib.hid (h2 rfl))
  · exact asking_16 _ _ _ _ _ _ _ _ _ _ _ w0 w h0
end Go.Proofs.Ytipmegkmkbbklaa
