/- Parts of the proof, no condition: CxStrL. -/
import Derived.Test.YtimjmjmpaicdbaaGreatDoorPc14
import Derived.Test.YtimjmjmpaicdbaaGreatDoorPc4
set_option maxRecDepth 100000
set_option maxHeartbeats 2000000
set_option linter.unusedSimpArgs false
set_option linter.unusedVariables false
namespace Go.Proofs.YtimjmjmpaicdbaaGreatDoor
open Go.RowKit Go.Sort Go.Shelf
theorem csLeaf_4 (op : Int) (ka : Option Addr) (kn kc : Nat) (text : ByteArray) (low high : Int) (aa : Option Addr) (an ac : Nat) (lat lon : Nat → Int) (w : World) (hop : op = 4) (hts : text.size ≤ 200) :
  Calls Tryz.prog 22 #[.agg #[.int .i64 op, .slice ka kn kc, .string text, .int .i64 low, .int .i64 high, .slice aa an ac]] w fun e w' => e = .returned (.tuple #[.string (Tx.mk (Cx.word op ++ Cx.leafT op text low high lat lon)), .bool (Cx.leafE op low high == 0)]) ∧ Below w.heap.size w w' := by
 subst hop
 obtain ⟨W1, hW1, hP, hz1, hB1⟩ := box w #[.int .i64 4, .slice ka kn kc, .string text, .int .i64 low, .int .i64 high, .slice aa an ac] 25
 have HW1 := Lib.hid hW1
 clear hW1 hz1
 obtain ⟨q0, q1, q2, q3, q4, q5⟩ := hP.six
 have HN := Lib.hid (fun W => nestWord_is 4 W)
 rw [if_neg (by decide), if_neg (by decide), if_neg (by decide)] at HN
 have HE : Hid (Tx.mk (Cx.word 4 ++ Cx.leafT 4 text low high lat lon) = ⟨#[116, 97, 103, 32]⟩ ++ text) := Lib.hid (by show Tx.mk ([116, 97, 103, 32] ++ (text.data.toList)) = _; rw [← Tx.mk_append])
 have HZ : Hid ((Cx.leafE 4 low high == 0) = true) := Lib.hid rfl
 clear hP
 go_enter Tryz.func22, Tryz.ntmps22
 go_wp2_with fail
 rw [HW1.out]
 go_wp2_with (go_at_call 61; (with_reducible refine (HN.out _).mono ?_); rintro e wq ⟨rfl, hwq⟩; subst wq)
 go_ret2
 exact ⟨by rw [HE.out, HZ.out]; rfl, hB1⟩
theorem csLeaf_5 (op : Int) (ka : Option Addr) (kn kc : Nat) (text : ByteArray) (low high : Int) (aa : Option Addr) (an ac : Nat) (lat lon : Nat → Int) (w : World) (hop : op = 5) (hts : text.size ≤ 200) :
  Calls Tryz.prog 22 #[.agg #[.int .i64 op, .slice ka kn kc, .string text, .int .i64 low, .int .i64 high, .slice aa an ac]] w fun e w' => e = .returned (.tuple #[.string (Tx.mk (Cx.word op ++ Cx.leafT op text low high lat lon)), .bool (Cx.leafE op low high == 0)]) ∧ Below w.heap.size w w' := by
 subst hop
 obtain ⟨W1, hW1, hP, hz1, hB1⟩ := box w #[.int .i64 5, .slice ka kn kc, .string text, .int .i64 low, .int .i64 high, .slice aa an ac] 25
 have HW1 := Lib.hid hW1
 clear hW1 hz1
 obtain ⟨q0, q1, q2, q3, q4, q5⟩ := hP.six
 have HN := Lib.hid (fun W => nestWord_is 5 W)
 rw [if_neg (by decide), if_neg (by decide), if_neg (by decide)] at HN
 have HQ := Lib.hid (quotedR_is text.data.toList (by have h2 : text.data.toList.length = text.size := rfl; omega) W1)
 rw [show Tx.mk text.data.toList = text from rfl] at HQ
 have hqs : (Tx.mk (Cx.qt text.data.toList)).size ≤ 402 := by
  have h1 := Cx.esc_le text.data.toList
  have h2 : text.data.toList.length = text.size := rfl
  rw [Tx.mk_size]; unfold Cx.qt; simp only [List.length_append, List.length_cons, List.length_nil]; omega
 have HE : Hid (Tx.mk (Cx.word 5 ++ Cx.leafT 5 text low high lat lon) = ⟨#[115, 97, 121, 115, 32]⟩ ++ Tx.mk (Cx.qt text.data.toList)) := Lib.hid (by show Tx.mk ([115, 97, 121, 115, 32] ++ (Cx.qt text.data.toList)) = _; rw [← Tx.mk_append])
 have HZ : Hid ((Cx.leafE 5 low high == 0) = true) := Lib.hid rfl
 generalize Tx.mk (Cx.qt text.data.toList) = Q at *
 clear hP
 go_enter Tryz.func22, Tryz.ntmps22
 go_wp2_with fail
 rw [HW1.out]
 go_wp2_with (first | (go_at_call 61; (with_reducible refine (HN.out _).mono ?_); rintro e wq ⟨rfl, hwq⟩; subst wq) | (go_at_call 62; refine HQ.out.mono ?_; rintro e w3 ⟨rfl, hB3⟩))
 go_ret2
 exact ⟨by rw [HE.out, HZ.out]; rfl, below_up hB1 hB3⟩
theorem csLeaf_6 (op : Int) (ka : Option Addr) (kn kc : Nat) (text : ByteArray) (low high : Int) (aa : Option Addr) (an ac : Nat) (lat lon : Nat → Int) (w : World) (hop : op = 6) (hlo : 0 ≤ low ∧ low ≤ 6311433599) :
  Calls Tryz.prog 22 #[.agg #[.int .i64 op, .slice ka kn kc, .string text, .int .i64 low, .int .i64 high, .slice aa an ac]] w fun e w' => e = .returned (.tuple #[.string (Tx.mk (Cx.word op ++ Cx.leafT op text low high lat lon)), .bool (Cx.leafE op low high == 0)]) ∧ Below w.heap.size w w' := by
 subst hop
 obtain ⟨W1, hW1, hP, hz1, hB1⟩ := box w #[.int .i64 6, .slice ka kn kc, .string text, .int .i64 low, .int .i64 high, .slice aa an ac] 25
 have HW1 := Lib.hid hW1
 clear hW1 hz1
 obtain ⟨q0, q1, q2, q3, q4, q5⟩ := hP.six
 have HN := Lib.hid (fun W => nestWord_is 6 W)
 rw [if_neg (by decide), if_neg (by decide), if_neg (by decide)] at HN
 have HI := Lib.hid (toldC low (by omega) W1)
 have his := Cx.num_size (n := low) (by omega)
 have HE : Hid (Tx.mk (Cx.word 6 ++ Cx.leafT 6 text low high lat lon) = ⟨#[112, 101, 114, 115, 111, 110, 32]⟩ ++ Cx.num low) := Lib.hid (by show Tx.mk ([112, 101, 114, 115, 111, 110, 32] ++ (Lib.itoa low)) = _; rw [← Tx.mk_append]; rfl)
 have HZ : Hid ((Cx.leafE 6 low high == 0) = true) := Lib.hid rfl
 generalize Cx.num low = Q at *
 clear hP hlo
 go_enter Tryz.func22, Tryz.ntmps22
 go_wp2_with fail
 rw [HW1.out]
 go_wp2_with (first | (go_at_call 61; (with_reducible refine (HN.out _).mono ?_); rintro e wq ⟨rfl, hwq⟩; subst wq) | (go_at_call 36; refine HI.out.mono ?_; rintro e w3 ⟨rfl, hB3⟩))
 go_ret2
 exact ⟨by rw [HE.out, HZ.out]; rfl, below_up hB1 hB3⟩
theorem csLeaf_7 (op : Int) (ka : Option Addr) (kn kc : Nat) (text : ByteArray) (low high : Int) (aa : Option Addr) (an ac : Nat) (lat lon : Nat → Int) (w : World) (hop : op = 7) (hlo : 0 ≤ low ∧ low ≤ 6311433599) (hhi : 0 ≤ high ∧ high ≤ 6311433599) :
  Calls Tryz.prog 22 #[.agg #[.int .i64 op, .slice ka kn kc, .string text, .int .i64 low, .int .i64 high, .slice aa an ac]] w fun e w' => e = .returned (.tuple #[.string (Tx.mk (Cx.word op ++ Cx.leafT op text low high lat lon)), .bool (Cx.leafE op low high == 0)]) ∧ Below w.heap.size w w' := by
 subst hop
 obtain ⟨W1, hW1, hP, hz1, hB1⟩ := box w #[.int .i64 7, .slice ka kn kc, .string text, .int .i64 low, .int .i64 high, .slice aa an ac] 25
 have HW1 := Lib.hid hW1
 clear hW1 hz1
 obtain ⟨q0, q1, q2, q3, q4, q5⟩ := hP.six
 have HN := Lib.hid (fun W => nestWord_is 7 W)
 rw [if_neg (by decide), if_neg (by decide), if_neg (by decide)] at HN
 have HA := Lib.hid (fun d os => Calls.regrown_of (toldC low (by omega) (grow (redrawn W1 d) os)))
 have HB := Lib.hid (fun d os => Calls.regrown_of (toldC high (by omega) (grow (redrawn W1 d) os)))
 have his := Cx.num_size (n := low) (by omega)
 have his2 := Cx.num_size (n := high) (by omega)
 have HE : Hid (Tx.mk (Cx.word 7 ++ Cx.leafT 7 text low high lat lon) = ⟨#[115, 116, 97, 114, 115, 32]⟩ ++ Cx.num low ++ ⟨#[46, 46]⟩ ++ Cx.num high) := Lib.hid (by show Tx.mk ([115, 116, 97, 114, 115, 32] ++ (Lib.itoa low ++ [46, 46] ++ Lib.itoa high)) = _; rw [← List.append_assoc, ← List.append_assoc, ← Tx.mk_append, ← Tx.mk_append, ← Tx.mk_append]; rfl)
 have HZ : Hid ((Cx.leafE 7 low high == 0) = true) := Lib.hid rfl
 have k3 := cell_regrown q3
 have k4 := cell_regrown q4
 generalize Cx.num low = Q at *
 generalize Cx.num high = U at *
 clear hP hlo hhi
 go_enter Tryz.func22, Tryz.ntmps22
 go_wp2_with fail
 rw [HW1.out]
 go_wp2_with (go_at_call 61; (with_reducible refine (HN.out _).mono ?_); rintro e wq ⟨rfl, hwq⟩; subst wq)
 refine wp_region_quiet_below (by kernel_rfl) (by kernel_rfl) ?_
 repeat (go_big_quiet_step ((go_at_call 36; first | with_reducible exact HA.out _ _ | with_reducible exact HB.out _ _)))
 refine wpQuiet_nil ?_
 intro _ hw'
 obtain ⟨⟨dq, osq⟩, hw''⟩ := hw'
 subst hw''
 have hBw2 := below_regrown W1 dq osq
 generalize grow (redrawn W1 dq) osq = w2 at *
 clear dq osq
 go_wp2_with fail
 go_ret2
 exact ⟨by rw [HE.out, HZ.out]; rfl, below_up hB1 hBw2⟩
theorem csLeaf_8 (op : Int) (ka : Option Addr) (kn kc : Nat) (text : ByteArray) (low high : Int) (aa : Option Addr) (an ac : Nat) (lat lon : Nat → Int) (w : World) (hop : op = 8) (hmx : Mx w) :
  Calls Tryz.prog 22 #[.agg #[.int .i64 op, .slice ka kn kc, .string text, .int .i64 low, .int .i64 high, .slice aa an ac]] w fun e w' => e = .returned (.tuple #[.string (Tx.mk (Cx.word op ++ Cx.leafT op text low high lat lon)), .bool (Cx.leafE op low high == 0)]) ∧ Below w.heap.size w w' := by
 subst hop
 obtain ⟨W1, hW1, hP, hz1, hB1⟩ := box w #[.int .i64 8, .slice ka kn kc, .string text, .int .i64 low, .int .i64 high, .slice aa an ac] 25
 have HW1 := Lib.hid hW1
 clear hW1 hz1
 obtain ⟨q0, q1, q2, q3, q4, q5⟩ := hP.six
 have HN := Lib.hid (fun W => nestWord_is 8 W)
 rw [if_neg (by decide), if_neg (by decide), if_neg (by decide)] at HN
 have HS := Lib.hid ((Cx.sp_is low high).2.1 W1 (hmx.below hB1))
 have hss : (Tx.mk (Cx.spT low high)).size ≤ 22 := by rw [Tx.mk_size]; exact (Cx.sp_is low high).2.2.2.1
 have HE : Hid (Tx.mk (Cx.word 8 ++ Cx.leafT 8 text low high lat lon) = ⟨#[116, 97, 107, 101, 110, 32]⟩ ++ Tx.mk (Cx.spT low high)) := Lib.hid (by show Tx.mk ([116, 97, 107, 101, 110, 32] ++ (Cx.spT low high)) = _; rw [← Tx.mk_append])
 have HZ : Hid (Cx.leafE 8 low high = Cx.spE low high) := Lib.hid rfl
 generalize Tx.mk (Cx.spT low high) = Q at *
 generalize Cx.spE low high = ee at *
 clear hP hmx
 go_enter Tryz.func22, Tryz.ntmps22
 go_wp2_with fail
 rw [HW1.out]
 go_wp2_with (first | (go_at_call 61; (with_reducible refine (HN.out _).mono ?_); rintro e wq ⟨rfl, hwq⟩; subst wq) | (go_at_call 63; refine HS.out.mono ?_; rintro e w3 ⟨rfl, hB3⟩))
 go_ret2
 exact ⟨by rw [HE.out, HZ.out]; rfl, below_up hB1 hB3⟩
theorem csLeaf_14 (op : Int) (ka : Option Addr) (kn kc : Nat) (text : ByteArray) (low high : Int) (aa : Option Addr) (an ac : Nat) (lat lon : Nat → Int) (w : World) (hop : op = 14) (hlo : 0 ≤ low ∧ low ≤ 6311433599) (han : an = 1) (hp : ∀ k, k < an → (-90000000 ≤ lat k ∧ lat k ≤ 90000000) ∧ (-180000000 ≤ lon k ∧ lon k ≤ 180000000)) (hr : Row2 w aa an (fun i => .int .i64 (lat i)) (fun i => .int .i64 (lon i))) :
  Calls Tryz.prog 22 #[.agg #[.int .i64 op, .slice ka kn kc, .string text, .int .i64 low, .int .i64 high, .slice aa an ac]] w fun e w' => e = .returned (.tuple #[.string (Tx.mk (Cx.word op ++ Cx.leafT op text low high lat lon)), .bool (Cx.leafE op low high == 0)]) ∧ Below w.heap.size w w' := by
 subst hop
 obtain ⟨W1, hW1, hP, hz1, hB1⟩ := box w #[.int .i64 14, .slice ka kn kc, .string text, .int .i64 low, .int .i64 high, .slice aa an ac] 25
 have HW1 := Lib.hid hW1
 clear hW1 hz1
 obtain ⟨q0, q1, q2, q3, q4, q5⟩ := hP.six
 have HN := Lib.hid (fun W => nestWord_is 14 W)
 rw [if_neg (by decide), if_neg (by decide), if_neg (by decide)] at HN
 subst han
 obtain ⟨⟨p1, p2⟩, p3, p4⟩ := hp 0 (by omega)
 have hps := Cx.plc_size (a := lat 0) (o := lon 0) ⟨p1, p2⟩ ⟨p3, p4⟩
 obtain ⟨b1, o1, rfl, hb1, hc1⟩ := hr.keep hB1 (by omega)
 obtain ⟨x0, x1⟩ := hc1 0 (by omega)
 rw [Nat.zero_mul, Nat.add_zero] at x0 x1
 have HA := Lib.hid (fun d os => Calls.regrown_of (toldC low (by omega) (grow (redrawn W1 d) os)))
 have HB := Lib.hid (fun d os => Calls.regrown_of (at_is (lat 0) (lon 0) ⟨p1, p2⟩ ⟨p3, p4⟩ (grow (redrawn W1 d) os)))
 have his := Cx.num_size (n := low) (by omega)
 have HE : Hid (Tx.mk (Cx.word 14 ++ Cx.leafT 14 text low high lat lon) = ⟨#[119, 105, 116, 104, 105, 110, 32]⟩ ++ Cx.num low ++ ⟨#[32, 111, 102, 32]⟩ ++ Cx.plc (lat 0) (lon 0)) := Lib.hid (by show Tx.mk ([119, 105, 116, 104, 105, 110, 32] ++ (Lib.itoa low ++ [32, 111, 102, 32] ++ Cx.pl (lat 0) (lon 0))) = _; rw [← List.append_assoc, ← List.append_assoc, ← Tx.mk_append, ← Tx.mk_append, ← Tx.mk_append, Cx.plc_mk]; rfl)
 have HZ : Hid ((Cx.leafE 14 low high == 0) = true) := Lib.hid rfl
 have k3 := cell_regrown q3
 have k5 := cell_regrown q5
 have m0 := cell_regrown x0
 have m1 := cell_regrown x1
 generalize Cx.num low = Q at *
 generalize Cx.plc (lat 0) (lon 0) = U at *
 clear hP hlo hp hc1 p1 p2 p3 p4
 go_enter Tryz.func22, Tryz.ntmps22
 go_wp2_with fail
 rw [HW1.out]
 go_wp2_with (go_at_call 61; (with_reducible refine (HN.out _).mono ?_); rintro e wq ⟨rfl, hwq⟩; subst wq)
 refine wp_region_quiet_below (by kernel_rfl) (by kernel_rfl) ?_
 repeat (go_big_quiet_step ((first | (go_at_call 36; with_reducible exact HA.out _ _) | (go_at_call 64; with_reducible exact HB.out _ _))))
 refine wpQuiet_nil ?_
 intro _ hw'
 obtain ⟨⟨dq, osq⟩, hw''⟩ := hw'
 subst hw''
 have hBw2 := below_regrown W1 dq osq
 generalize grow (redrawn W1 dq) osq = w2 at *
 clear dq osq
 go_wp2_with fail
 go_ret2
 exact ⟨by rw [HE.out, HZ.out]; rfl, below_up hB1 hBw2⟩
theorem csLeaf_15 (op : Int) (ka : Option Addr) (kn kc : Nat) (text : ByteArray) (low high : Int) (aa : Option Addr) (an ac : Nat) (lat lon : Nat → Int) (w : World) (hop : op = 15) (han : an = 2) (hp : ∀ k, k < an → (-90000000 ≤ lat k ∧ lat k ≤ 90000000) ∧ (-180000000 ≤ lon k ∧ lon k ≤ 180000000)) (hr : Row2 w aa an (fun i => .int .i64 (lat i)) (fun i => .int .i64 (lon i))) :
  Calls Tryz.prog 22 #[.agg #[.int .i64 op, .slice ka kn kc, .string text, .int .i64 low, .int .i64 high, .slice aa an ac]] w fun e w' => e = .returned (.tuple #[.string (Tx.mk (Cx.word op ++ Cx.leafT op text low high lat lon)), .bool (Cx.leafE op low high == 0)]) ∧ Below w.heap.size w w' := by
 subst hop
 obtain ⟨W1, hW1, hP, hz1, hB1⟩ := box w #[.int .i64 15, .slice ka kn kc, .string text, .int .i64 low, .int .i64 high, .slice aa an ac] 25
 have HW1 := Lib.hid hW1
 clear hW1 hz1
 obtain ⟨q0, q1, q2, q3, q4, q5⟩ := hP.six
 have HN := Lib.hid (fun W => nestWord_is 15 W)
 rw [if_neg (by decide), if_neg (by decide), if_neg (by decide)] at HN
 subst han
 obtain ⟨⟨p1, p2⟩, p3, p4⟩ := hp 0 (by omega)
 obtain ⟨⟨p5, p6⟩, p7, p8⟩ := hp 1 (by omega)
 have hps := Cx.plc_size (a := lat 0) (o := lon 0) ⟨p1, p2⟩ ⟨p3, p4⟩
 have hps2 := Cx.plc_size (a := lat 1) (o := lon 1) ⟨p5, p6⟩ ⟨p7, p8⟩
 obtain ⟨b1, o1, rfl, hb1, hc1⟩ := hr.keep hB1 (by omega)
 have x0 : W1.cell? ⟨b1, o1, none⟩ = some (.int .i64 (lat 0)) := by have := (hc1 0 (by omega)).1; rwa [Nat.zero_mul, Nat.add_zero] at this
 have x1 : W1.cell? ⟨b1, o1 + 1, none⟩ = some (.int .i64 (lon 0)) := by have := (hc1 0 (by omega)).2; rwa [Nat.zero_mul, Nat.add_zero] at this
 have x2 : W1.cell? ⟨b1, o1 + 2, none⟩ = some (.int .i64 (lat 1)) := (hc1 1 (by omega)).1
 have x3 : W1.cell? ⟨b1, o1 + 3, none⟩ = some (.int .i64 (lon 1)) := (hc1 1 (by omega)).2
 have HA := Lib.hid (fun d os => Calls.regrown_of (at_is (lat 0) (lon 0) ⟨p1, p2⟩ ⟨p3, p4⟩ (grow (redrawn W1 d) os)))
 have HB := Lib.hid (fun d os => Calls.regrown_of (at_is (lat 1) (lon 1) ⟨p5, p6⟩ ⟨p7, p8⟩ (grow (redrawn W1 d) os)))
 have HE : Hid (Tx.mk (Cx.word 15 ++ Cx.leafT 15 text low high lat lon) = ⟨#[98, 111, 120, 32]⟩ ++ Cx.plc (lat 0) (lon 0) ++ ⟨#[32]⟩ ++ Cx.plc (lat 1) (lon 1)) := Lib.hid (by show Tx.mk ([98, 111, 120, 32] ++ (Cx.pl (lat 0) (lon 0) ++ [32] ++ Cx.pl (lat 1) (lon 1))) = _; rw [← List.append_assoc, ← List.append_assoc, ← Tx.mk_append, ← Tx.mk_append, ← Tx.mk_append, Cx.plc_mk, Cx.plc_mk])
 have HZ : Hid ((Cx.leafE 15 low high == 0) = true) := Lib.hid rfl
 have k5 := cell_regrown q5
 have m0 := cell_regrown x0
 have m1 := cell_regrown x1
 have m2 := cell_regrown x2
 have m3 := cell_regrown x3
 generalize Cx.plc (lat 0) (lon 0) = Q at *
 generalize Cx.plc (lat 1) (lon 1) = U at *
 generalize lat 0 = a0 at *
 generalize lon 0 = b0 at *
 generalize lat 1 = a1 at *
 generalize lon 1 = b2 at *
 clear hP hc1 p1 p2 p3 p4 p5 p6 p7 p8
 go_enter Tryz.func22, Tryz.ntmps22
 go_wp2_with fail
 rw [HW1.out]
 go_wp2_with (go_at_call 61; (with_reducible refine (HN.out _).mono ?_); rintro e wq ⟨rfl, hwq⟩; subst wq)
 refine wp_region_quiet_below (by kernel_rfl) (by kernel_rfl) ?_
 repeat (go_big_quiet_step ((go_at_call 64; first | with_reducible exact HA.out _ _ | with_reducible exact HB.out _ _)))
 refine wpQuiet_nil ?_
 intro _ hw'
 obtain ⟨⟨dq, osq⟩, hw''⟩ := hw'
 subst hw''
 have hBw2 := below_regrown W1 dq osq
 generalize grow (redrawn W1 dq) osq = w2 at *
 clear dq osq
 go_wp2_with fail
 go_ret2
 exact ⟨by rw [HE.out, HZ.out]; rfl, below_up hB1 hBw2⟩
theorem csLeaf_9 (op : Int) (ka : Option Addr) (kn kc : Nat) (text : ByteArray) (low high : Int) (aa : Option Addr) (an ac : Nat) (lat lon : Nat → Int) (w : World) (hop : op = 9)  :
  Calls Tryz.prog 22 #[.agg #[.int .i64 op, .slice ka kn kc, .string text, .int .i64 low, .int .i64 high, .slice aa an ac]] w fun e w' => e = .returned (.tuple #[.string (Tx.mk (Cx.word op ++ Cx.leafT op text low high lat lon)), .bool (Cx.leafE op low high == 0)]) ∧ Below w.heap.size w w' := by
 subst hop
 obtain ⟨W1, hW1, hP, hz1, hB1⟩ := box w #[.int .i64 9, .slice ka kn kc, .string text, .int .i64 low, .int .i64 high, .slice aa an ac] 25
 have HW1 := Lib.hid hW1
 clear hW1 hz1
 obtain ⟨q0, q1, q2, q3, q4, q5⟩ := hP.six
 have HN := Lib.hid (fun W => nestWord_is 9 W)
 rw [if_neg (by decide), if_neg (by decide), if_neg (by decide)] at HN
 have HL := Lib.hid (fun W => loneWord_is 9 (by omega) W)
 have HE : Hid (Tx.mk (Cx.word 9 ++ Cx.leafT 9 text low high lat lon) = Cx.wrd 9) := Lib.hid rfl
 have HZ : Hid ((Cx.leafE 9 low high == 0) = true) := Lib.hid rfl
 generalize Cx.wrd 9 = X at *
 clear hP
 go_enter Tryz.func22, Tryz.ntmps22
 go_wp2_with fail
 rw [HW1.out]
 go_wp2_with (first | (go_at_call 61; (with_reducible refine (HN.out _).mono ?_); rintro e wq ⟨rfl, hwq⟩; subst wq) | (go_at_call 65; (with_reducible refine (HL.out _).mono ?_); rintro e wq ⟨rfl, hwq⟩; subst wq))
 go_ret2
 exact ⟨by rw [HE.out, HZ.out]; rfl, hB1⟩
theorem csLeaf_10 (op : Int) (ka : Option Addr) (kn kc : Nat) (text : ByteArray) (low high : Int) (aa : Option Addr) (an ac : Nat) (lat lon : Nat → Int) (w : World) (hop : op = 10)  :
  Calls Tryz.prog 22 #[.agg #[.int .i64 op, .slice ka kn kc, .string text, .int .i64 low, .int .i64 high, .slice aa an ac]] w fun e w' => e = .returned (.tuple #[.string (Tx.mk (Cx.word op ++ Cx.leafT op text low high lat lon)), .bool (Cx.leafE op low high == 0)]) ∧ Below w.heap.size w w' := by
 subst hop
 obtain ⟨W1, hW1, hP, hz1, hB1⟩ := box w #[.int .i64 10, .slice ka kn kc, .string text, .int .i64 low, .int .i64 high, .slice aa an ac] 25
 have HW1 := Lib.hid hW1
 clear hW1 hz1
 obtain ⟨q0, q1, q2, q3, q4, q5⟩ := hP.six
 have HN := Lib.hid (fun W => nestWord_is 10 W)
 rw [if_neg (by decide), if_neg (by decide), if_neg (by decide)] at HN
 have HL := Lib.hid (fun W => loneWord_is 10 (by omega) W)
 have HE : Hid (Tx.mk (Cx.word 10 ++ Cx.leafT 10 text low high lat lon) = Cx.wrd 10) := Lib.hid rfl
 have HZ : Hid ((Cx.leafE 10 low high == 0) = true) := Lib.hid rfl
 generalize Cx.wrd 10 = X at *
 clear hP
 go_enter Tryz.func22, Tryz.ntmps22
 go_wp2_with fail
 rw [HW1.out]
 go_wp2_with (first | (go_at_call 61; (with_reducible refine (HN.out _).mono ?_); rintro e wq ⟨rfl, hwq⟩; subst wq) | (go_at_call 65; (with_reducible refine (HL.out _).mono ?_); rintro e wq ⟨rfl, hwq⟩; subst wq))
 go_ret2
 exact ⟨by rw [HE.out, HZ.out]; rfl, hB1⟩
theorem csLeaf_11 (op : Int) (ka : Option Addr) (kn kc : Nat) (text : ByteArray) (low high : Int) (aa : Option Addr) (an ac : Nat) (lat lon : Nat → Int) (w : World) (hop : op = 11)  :
  Calls Tryz.prog 22 #[.agg #[.int .i64 op, .slice ka kn kc, .string text, .int .i64 low, .int .i64 high, .slice aa an ac]] w fun e w' => e = .returned (.tuple #[.string (Tx.mk (Cx.word op ++ Cx.leafT op text low high lat lon)), .bool (Cx.leafE op low high == 0)]) ∧ Below w.heap.size w w' := by
 subst hop
 obtain ⟨W1, hW1, hP, hz1, hB1⟩ := box w #[.int .i64 11, .slice ka kn kc, .string text, .int .i64 low, .int .i64 high, .slice aa an ac] 25
 have HW1 := Lib.hid hW1
 clear hW1 hz1
 obtain ⟨q0, q1, q2, q3, q4, q5⟩ := hP.six
 have HN := Lib.hid (fun W => nestWord_is 11 W)
 rw [if_neg (by decide), if_neg (by decide), if_neg (by decide)] at HN
 have HL := Lib.hid (fun W => loneWord_is 11 (by omega) W)
 have HE : Hid (Tx.mk (Cx.word 11 ++ Cx.leafT 11 text low high lat lon) = Cx.wrd 11) := Lib.hid rfl
 have HZ : Hid ((Cx.leafE 11 low high == 0) = true) := Lib.hid rfl
 generalize Cx.wrd 11 = X at *
 clear hP
 go_enter Tryz.func22, Tryz.ntmps22
 go_wp2_with fail
 rw [HW1.out]
 go_wp2_with (first | (go_at_call 61; (with_reducible refine (HN.out _).mono ?_); rintro e wq ⟨rfl, hwq⟩; subst wq) | (go_at_call 65; (with_reducible refine (HL.out _).mono ?_); rintro e wq ⟨rfl, hwq⟩; subst wq))
 go_ret2
 exact ⟨by rw [HE.out, HZ.out]; rfl, hB1⟩
theorem csLeaf_12 (op : Int) (ka : Option Addr) (kn kc : Nat) (text : ByteArray) (low high : Int) (aa : Option Addr) (an ac : Nat) (lat lon : Nat → Int) (w : World) (hop : op = 12)  :
  Calls Tryz.prog 22 #[.agg #[.int .i64 op, .slice ka kn kc, .string text, .int .i64 low, .int .i64 high, .slice aa an ac]] w fun e w' => e = .returned (.tuple #[.string (Tx.mk (Cx.word op ++ Cx.leafT op text low high lat lon)), .bool (Cx.leafE op low high == 0)]) ∧ Below w.heap.size w w' := by
 subst hop
 obtain ⟨W1, hW1, hP, hz1, hB1⟩ := box w #[.int .i64 12, .slice ka kn kc, .string text, .int .i64 low, .int .i64 high, .slice aa an ac] 25
 have HW1 := Lib.hid hW1
 clear hW1 hz1
 obtain ⟨q0, q1, q2, q3, q4, q5⟩ := hP.six
 have HN := Lib.hid (fun W => nestWord_is 12 W)
 rw [if_neg (by decide), if_neg (by decide), if_neg (by decide)] at HN
 have HL := Lib.hid (fun W => loneWord_is 12 (by omega) W)
 have HE : Hid (Tx.mk (Cx.word 12 ++ Cx.leafT 12 text low high lat lon) = Cx.wrd 12) := Lib.hid rfl
 have HZ : Hid ((Cx.leafE 12 low high == 0) = true) := Lib.hid rfl
 generalize Cx.wrd 12 = X at *
 clear hP
 go_enter Tryz.func22, Tryz.ntmps22
 go_wp2_with fail
 rw [HW1.out]
 go_wp2_with (first | (go_at_call 61; (with_reducible refine (HN.out _).mono ?_); rintro e wq ⟨rfl, hwq⟩; subst wq) | (go_at_call 65; (with_reducible refine (HL.out _).mono ?_); rintro e wq ⟨rfl, hwq⟩; subst wq))
 go_ret2
 exact ⟨by rw [HE.out, HZ.out]; rfl, hB1⟩
theorem csLeaf_13 (op : Int) (ka : Option Addr) (kn kc : Nat) (text : ByteArray) (low high : Int) (aa : Option Addr) (an ac : Nat) (lat lon : Nat → Int) (w : World) (hop : op = 13)  :
  Calls Tryz.prog 22 #[.agg #[.int .i64 op, .slice ka kn kc, .string text, .int .i64 low, .int .i64 high, .slice aa an ac]] w fun e w' => e = .returned (.tuple #[.string (Tx.mk (Cx.word op ++ Cx.leafT op text low high lat lon)), .bool (Cx.leafE op low high == 0)]) ∧ Below w.heap.size w w' := by
 subst hop
 obtain ⟨W1, hW1, hP, hz1, hB1⟩ := box w #[.int .i64 13, .slice ka kn kc, .string text, .int .i64 low, .int .i64 high, .slice aa an ac] 25
 have HW1 := Lib.hid hW1
 clear hW1 hz1
 obtain ⟨q0, q1, q2, q3, q4, q5⟩ := hP.six
 have HN := Lib.hid (fun W => nestWord_is 13 W)
 rw [if_neg (by decide), if_neg (by decide), if_neg (by decide)] at HN
 have HL := Lib.hid (fun W => loneWord_is 13 (by omega) W)
 have HE : Hid (Tx.mk (Cx.word 13 ++ Cx.leafT 13 text low high lat lon) = Cx.wrd 13) := Lib.hid rfl
 have HZ : Hid ((Cx.leafE 13 low high == 0) = true) := Lib.hid rfl
 generalize Cx.wrd 13 = X at *
 clear hP
 go_enter Tryz.func22, Tryz.ntmps22
 go_wp2_with fail
 rw [HW1.out]
 go_wp2_with (first | (go_at_call 61; (with_reducible refine (HN.out _).mono ?_); rintro e wq ⟨rfl, hwq⟩; subst wq) | (go_at_call 65; (with_reducible refine (HL.out _).mono ?_); rintro e wq ⟨rfl, hwq⟩; subst wq))
 go_ret2
 exact ⟨by rw [HE.out, HZ.out]; rfl, hB1⟩
theorem csLeaf_16 (op : Int) (ka : Option Addr) (kn kc : Nat) (text : ByteArray) (low high : Int) (aa : Option Addr) (an ac : Nat) (lat lon : Nat → Int) (w : World) (hop : op = 16)  :
  Calls Tryz.prog 22 #[.agg #[.int .i64 op, .slice ka kn kc, .string text, .int .i64 low, .int .i64 high, .slice aa an ac]] w fun e w' => e = .returned (.tuple #[.string (Tx.mk (Cx.word op ++ Cx.leafT op text low high lat lon)), .bool (Cx.leafE op low high == 0)]) ∧ Below w.heap.size w w' := by
 subst hop
 obtain ⟨W1, hW1, hP, hz1, hB1⟩ := box w #[.int .i64 16, .slice ka kn kc, .string text, .int .i64 low, .int .i64 high, .slice aa an ac] 25
 have HW1 := Lib.hid hW1
 clear hW1 hz1
 obtain ⟨q0, q1, q2, q3, q4, q5⟩ := hP.six
 have HN := Lib.hid (fun W => nestWord_is 16 W)
 rw [if_neg (by decide), if_neg (by decide), if_neg (by decide)] at HN
 have HL := Lib.hid (fun W => loneWord_is 16 (by omega) W)
 have HE : Hid (Tx.mk (Cx.word 16 ++ Cx.leafT 16 text low high lat lon) = Cx.wrd 16) := Lib.hid rfl
 have HZ : Hid ((Cx.leafE 16 low high == 0) = true) := Lib.hid rfl
 generalize Cx.wrd 16 = X at *
 clear hP
 go_enter Tryz.func22, Tryz.ntmps22
 go_wp2_with fail
 rw [HW1.out]
 go_wp2_with (first | (go_at_call 61; (with_reducible refine (HN.out _).mono ?_); rintro e wq ⟨rfl, hwq⟩; subst wq) | (go_at_call 65; (with_reducible refine (HL.out _).mono ?_); rintro e wq ⟨rfl, hwq⟩; subst wq))
 go_ret2
 exact ⟨by rw [HE.out, HZ.out]; rfl, hB1⟩
end Go.Proofs.YtimjmjmpaicdbaaGreatDoor
