/- Parts of the proof, no condition: CxLeaf. -/
import Derived.Test.YtimjmjmpaicdbaaGreatDoorPc14
import Derived.Test.YtimjmjmpaicdbaaGreatDoorPc16
import Derived.Test.YtimjmjmpaicdbaaGreatDoorPc4
set_option maxRecDepth 100000
set_option maxHeartbeats 2000000
set_option linter.unusedSimpArgs false
set_option linter.unusedVariables false
namespace Go.Proofs.YtimjmjmpaicdbaaGreatDoor
open Go.RowKit Go.Sort Go.Shelf
theorem ctLeaf_4 (op : Int) (ka : Option Addr) (kn kc : Nat) (text : ByteArray) (low high : Int) (aa : Option Addr) (an ac : Nat) (lat lon : Nat → Int) (w : World) (ht : Tx.Tab w) (hop : op = 4) (hts : text.size ≤ 200) :
  Calls Tryz.prog 21 #[.agg #[.int .i64 op, .slice ka kn kc, .string text, .int .i64 low, .int .i64 high, .slice aa an ac]] w fun e w' => e = .returned (.tuple #[.string (Tx.mk (Cx.word op ++ Cx.leafT op text low high lat lon)), .int .i64 (Cx.leafE op low high)]) ∧ Below w.heap.size w w' := by
 subst hop
 obtain ⟨W1, hW1, hP, hz1, hB1⟩ := box w #[.int .i64 4, .slice ka kn kc, .string text, .int .i64 low, .int .i64 high, .slice aa an ac] 25
 have HW1 := Lib.hid hW1
 clear hW1 hz1
 obtain ⟨q0, q1, q2, q3, q4, q5⟩ := hP.six
 have HW := Lib.hid (fun W => opWord_is 4 (by omega) W)
 have hws := Cx.wrd_size 4
 have HE : Hid (Tx.mk (Cx.word 4 ++ Cx.leafT 4 text low high lat lon) = Cx.wrd 4 ++ text) := Lib.hid (by rw [← Tx.mk_append]; rfl)
 have HZ : Hid (Cx.leafE 4 low high = 0) := Lib.hid rfl
 generalize Cx.wrd 4 = X at *
 clear hP
 go_enter Tryz.func21, Tryz.ntmps21
 go_wp2_with fail
 rw [HW1.out]
 go_wp2_with (go_at_call 56; (with_reducible refine (HW.out _).mono ?_); rintro e wq ⟨rfl, hwq⟩; subst wq)
 go_ret2
 exact ⟨by rw [HE.out, HZ.out]; rfl, hB1⟩
theorem ctLeaf_5 (op : Int) (ka : Option Addr) (kn kc : Nat) (text : ByteArray) (low high : Int) (aa : Option Addr) (an ac : Nat) (lat lon : Nat → Int) (w : World) (ht : Tx.Tab w) (hop : op = 5) (hts : text.size ≤ 200) :
  Calls Tryz.prog 21 #[.agg #[.int .i64 op, .slice ka kn kc, .string text, .int .i64 low, .int .i64 high, .slice aa an ac]] w fun e w' => e = .returned (.tuple #[.string (Tx.mk (Cx.word op ++ Cx.leafT op text low high lat lon)), .int .i64 (Cx.leafE op low high)]) ∧ Below w.heap.size w w' := by
 subst hop
 obtain ⟨W1, hW1, hP, hz1, hB1⟩ := box w #[.int .i64 5, .slice ka kn kc, .string text, .int .i64 low, .int .i64 high, .slice aa an ac] 25
 have HW1 := Lib.hid hW1
 clear hW1 hz1
 obtain ⟨q0, q1, q2, q3, q4, q5⟩ := hP.six
 have HW := Lib.hid (fun W => opWord_is 5 (by omega) W)
 have hws := Cx.wrd_size 5
 have HQ := Lib.hid (quoted_is text (by omega) W1)
 have hqs : (Tx.mk (Cx.qt text.data.toList)).size ≤ 402 := by
  have h1 := Cx.esc_le text.data.toList
  have h2 : text.data.toList.length = text.size := rfl
  rw [Tx.mk_size]; unfold Cx.qt; simp only [List.length_append, List.length_cons, List.length_nil]; omega
 have HE : Hid (Tx.mk (Cx.word 5 ++ Cx.leafT 5 text low high lat lon) = Cx.wrd 5 ++ Tx.mk (Cx.qt text.data.toList)) := Lib.hid (by rw [← Tx.mk_append]; rfl)
 have HZ : Hid (Cx.leafE 5 low high = 0) := Lib.hid rfl
 generalize Cx.wrd 5 = X at *
 generalize Tx.mk (Cx.qt text.data.toList) = Q at *
 clear hP
 go_enter Tryz.func21, Tryz.ntmps21
 go_wp2_with fail
 rw [HW1.out]
 go_wp2_with (first | (go_at_call 56; (with_reducible refine (HW.out _).mono ?_); rintro e wq ⟨rfl, hwq⟩; subst wq) | (go_at_call 58; refine HQ.out.mono ?_; rintro e w3 ⟨rfl, hB3⟩))
 go_ret2
 exact ⟨by rw [HE.out, HZ.out]; rfl, below_up hB1 hB3⟩
theorem ctLeaf_6 (op : Int) (ka : Option Addr) (kn kc : Nat) (text : ByteArray) (low high : Int) (aa : Option Addr) (an ac : Nat) (lat lon : Nat → Int) (w : World) (ht : Tx.Tab w) (hop : op = 6) (hlo : 0 ≤ low ∧ low ≤ 6311433599) :
  Calls Tryz.prog 21 #[.agg #[.int .i64 op, .slice ka kn kc, .string text, .int .i64 low, .int .i64 high, .slice aa an ac]] w fun e w' => e = .returned (.tuple #[.string (Tx.mk (Cx.word op ++ Cx.leafT op text low high lat lon)), .int .i64 (Cx.leafE op low high)]) ∧ Below w.heap.size w w' := by
 subst hop
 obtain ⟨W1, hW1, hP, hz1, hB1⟩ := box w #[.int .i64 6, .slice ka kn kc, .string text, .int .i64 low, .int .i64 high, .slice aa an ac] 25
 have HW1 := Lib.hid hW1
 clear hW1 hz1
 obtain ⟨q0, q1, q2, q3, q4, q5⟩ := hP.six
 have HW := Lib.hid (fun W => opWord_is 6 (by omega) W)
 have hws := Cx.wrd_size 6
 have HI := Lib.hid (itoaC low (by omega) W1 (Tx.tab_below ht hB1))
 have his := Cx.num_size (n := low) (by omega)
 have HE : Hid (Tx.mk (Cx.word 6 ++ Cx.leafT 6 text low high lat lon) = Cx.wrd 6 ++ Cx.num low) := Lib.hid (by rw [← Tx.mk_append]; rfl)
 have HZ : Hid (Cx.leafE 6 low high = 0) := Lib.hid rfl
 generalize Cx.wrd 6 = X at *
 generalize Cx.num low = Q at *
 clear hP ht hlo
 go_enter Tryz.func21, Tryz.ntmps21
 go_wp2_with fail
 rw [HW1.out]
 go_wp2_with (first | (go_at_call 56; (with_reducible refine (HW.out _).mono ?_); rintro e wq ⟨rfl, hwq⟩; subst wq) | (go_at_call 28; refine HI.out.mono ?_; rintro e w3 ⟨rfl, hB3⟩))
 go_ret2
 exact ⟨by rw [HE.out, HZ.out]; rfl, below_up hB1 hB3⟩
theorem ctLeaf_7 (op : Int) (ka : Option Addr) (kn kc : Nat) (text : ByteArray) (low high : Int) (aa : Option Addr) (an ac : Nat) (lat lon : Nat → Int) (w : World) (ht : Tx.Tab w) (hop : op = 7) (hlo : 0 ≤ low ∧ low ≤ 6311433599) (hhi : 0 ≤ high ∧ high ≤ 6311433599) :
  Calls Tryz.prog 21 #[.agg #[.int .i64 op, .slice ka kn kc, .string text, .int .i64 low, .int .i64 high, .slice aa an ac]] w fun e w' => e = .returned (.tuple #[.string (Tx.mk (Cx.word op ++ Cx.leafT op text low high lat lon)), .int .i64 (Cx.leafE op low high)]) ∧ Below w.heap.size w w' := by
 subst hop
 obtain ⟨W1, hW1, hP, hz1, hB1⟩ := box w #[.int .i64 7, .slice ka kn kc, .string text, .int .i64 low, .int .i64 high, .slice aa an ac] 25
 have HW1 := Lib.hid hW1
 clear hW1 hz1
 obtain ⟨q0, q1, q2, q3, q4, q5⟩ := hP.six
 have HW := Lib.hid (fun W => opWord_is 7 (by omega) W)
 have hws := Cx.wrd_size 7
 have HT1 := Lib.hid (Tx.tab_below ht hB1)
 have HA := Lib.hid (fun d os => Calls.regrown_of (itoaC low (by omega) (grow (redrawn W1 d) os) (Tx.tab_below HT1.out (below_regrown W1 d os))))
 have HB := Lib.hid (fun d os => Calls.regrown_of (itoaC high (by omega) (grow (redrawn W1 d) os) (Tx.tab_below HT1.out (below_regrown W1 d os))))
 have his := Cx.num_size (n := low) (by omega)
 have his2 := Cx.num_size (n := high) (by omega)
 have HE : Hid (Tx.mk (Cx.word 7 ++ Cx.leafT 7 text low high lat lon) = Cx.wrd 7 ++ Cx.num low ++ ⟨#[46, 46]⟩ ++ Cx.num high) := Lib.hid (by show Tx.mk (Cx.word 7 ++ (Lib.itoa low ++ [46, 46] ++ Lib.itoa high)) = _; rw [← List.append_assoc, ← List.append_assoc, ← Tx.mk_append, ← Tx.mk_append, ← Tx.mk_append]; rfl)
 have HZ : Hid (Cx.leafE 7 low high = 0) := Lib.hid rfl
 have k3 := cell_regrown q3
 have k4 := cell_regrown q4
 generalize Cx.wrd 7 = X at *
 generalize Cx.num low = Q at *
 generalize Cx.num high = U at *
 clear hP ht hlo hhi
 go_enter Tryz.func21, Tryz.ntmps21
 go_wp2_with fail
 rw [HW1.out]
 go_wp2_with (go_at_call 56; (with_reducible refine (HW.out _).mono ?_); rintro e wq ⟨rfl, hwq⟩; subst wq)
 refine wp_region_quiet_below (by kernel_rfl) (by kernel_rfl) ?_
 repeat (go_big_quiet_step ((go_at_call 28; first | with_reducible exact HA.out _ _ | with_reducible exact HB.out _ _)))
 refine wpQuiet_nil ?_
 intro _ hw'
 obtain ⟨⟨dq, osq⟩, hw''⟩ := hw'
 subst hw''
 have hBw2 := below_regrown W1 dq osq
 generalize grow (redrawn W1 dq) osq = w2 at *
 clear dq osq
 go_wp2_with fail
 go_ret2
 exact ⟨by rw [HE.out, HZ.out]; rfl, below_up hB1 hBw2⟩
theorem ctLeaf_8 (op : Int) (ka : Option Addr) (kn kc : Nat) (text : ByteArray) (low high : Int) (aa : Option Addr) (an ac : Nat) (lat lon : Nat → Int) (w : World) (ht : Tx.Tab w) (hop : op = 8) (hmx : Mx w) :
  Calls Tryz.prog 21 #[.agg #[.int .i64 op, .slice ka kn kc, .string text, .int .i64 low, .int .i64 high, .slice aa an ac]] w fun e w' => e = .returned (.tuple #[.string (Tx.mk (Cx.word op ++ Cx.leafT op text low high lat lon)), .int .i64 (Cx.leafE op low high)]) ∧ Below w.heap.size w w' := by
 subst hop
 obtain ⟨W1, hW1, hP, hz1, hB1⟩ := box w #[.int .i64 8, .slice ka kn kc, .string text, .int .i64 low, .int .i64 high, .slice aa an ac] 25
 have HW1 := Lib.hid hW1
 clear hW1 hz1
 obtain ⟨q0, q1, q2, q3, q4, q5⟩ := hP.six
 have HW := Lib.hid (fun W => opWord_is 8 (by omega) W)
 have hws := Cx.wrd_size 8
 have HS := Lib.hid ((Cx.sp_is low high).1 W1 (Tx.tab_below ht hB1) (hmx.below hB1))
 have hss : (Tx.mk (Cx.spT low high)).size ≤ 22 := by rw [Tx.mk_size]; exact (Cx.sp_is low high).2.2.2.1
 have HE : Hid (Tx.mk (Cx.word 8 ++ Cx.leafT 8 text low high lat lon) = Cx.wrd 8 ++ Tx.mk (Cx.spT low high)) := Lib.hid (by rw [← Tx.mk_append]; rfl)
 have HZ : Hid (Cx.leafE 8 low high = Cx.spE low high) := Lib.hid rfl
 generalize Cx.wrd 8 = X at *
 generalize Tx.mk (Cx.spT low high) = Q at *
 generalize Cx.spE low high = ee at *
 clear hP ht hmx
 go_enter Tryz.func21, Tryz.ntmps21
 go_wp2_with fail
 rw [HW1.out]
 go_wp2_with (first | (go_at_call 56; (with_reducible refine (HW.out _).mono ?_); rintro e wq ⟨rfl, hwq⟩; subst wq) | (go_at_call 59; refine HS.out.mono ?_; rintro e w3 ⟨rfl, hB3⟩))
 go_ret2
 exact ⟨by rw [HE.out, HZ.out]; rfl, below_up hB1 hB3⟩
theorem ctLeaf_14 (op : Int) (ka : Option Addr) (kn kc : Nat) (text : ByteArray) (low high : Int) (aa : Option Addr) (an ac : Nat) (lat lon : Nat → Int) (w : World) (ht : Tx.Tab w) (hop : op = 14) (hlo : 0 ≤ low ∧ low ≤ 6311433599) (han : an = 1) (hp : ∀ k, k < an → (-90000000 ≤ lat k ∧ lat k ≤ 90000000) ∧ (-180000000 ≤ lon k ∧ lon k ≤ 180000000)) (hr : Row2 w aa an (fun i => .int .i64 (lat i)) (fun i => .int .i64 (lon i))) :
  Calls Tryz.prog 21 #[.agg #[.int .i64 op, .slice ka kn kc, .string text, .int .i64 low, .int .i64 high, .slice aa an ac]] w fun e w' => e = .returned (.tuple #[.string (Tx.mk (Cx.word op ++ Cx.leafT op text low high lat lon)), .int .i64 (Cx.leafE op low high)]) ∧ Below w.heap.size w w' := by
 subst hop
 obtain ⟨W1, hW1, hP, hz1, hB1⟩ := box w #[.int .i64 14, .slice ka kn kc, .string text, .int .i64 low, .int .i64 high, .slice aa an ac] 25
 have HW1 := Lib.hid hW1
 clear hW1 hz1
 obtain ⟨q0, q1, q2, q3, q4, q5⟩ := hP.six
 have HW := Lib.hid (fun W => opWord_is 14 (by omega) W)
 have hws := Cx.wrd_size 14
 subst han
 have HT1 := Lib.hid (Tx.tab_below ht hB1)
 have HR1 := Lib.hid (hr.keep hB1)
 obtain ⟨⟨p1, p2⟩, p3, p4⟩ := hp 0 (by omega)
 have hps := Cx.plc_size (a := lat 0) (o := lon 0) ⟨p1, p2⟩ ⟨p3, p4⟩
 have hpj : Tx.mk (Lib.join (Cx.strs lat lon 1) [32]) = Cx.plc (lat 0) (lon 0) := by rw [Cx.strs_one, Cx.plc_mk]
 have hpl : (Lib.join (Cx.strs lat lon 1) [32]).length ≤ 100000000 := by have := congrArg ByteArray.size hpj; rw [Tx.mk_size] at this; omega
 have HA := Lib.hid (fun d os => Calls.regrown_of (itoaC low (by omega) (grow (redrawn W1 d) os) (Tx.tab_below HT1.out (below_regrown W1 d os))))
 have HB := Lib.hid (fun d os => Calls.regrown_of (placeText_is aa 1 ac lat lon (grow (redrawn W1 d) os) (HR1.out.keep (below_regrown W1 d os)) (by omega) hp (Tx.tab_below HT1.out (below_regrown W1 d os)) hpl))
 rw [hpj] at HB
 have his := Cx.num_size (n := low) (by omega)
 have HE : Hid (Tx.mk (Cx.word 14 ++ Cx.leafT 14 text low high lat lon) = Cx.wrd 14 ++ Cx.num low ++ ⟨#[32, 111, 102, 32]⟩ ++ Cx.plc (lat 0) (lon 0)) := Lib.hid (by show Tx.mk (Cx.word 14 ++ (Lib.itoa low ++ [32, 111, 102, 32] ++ Cx.pl (lat 0) (lon 0))) = _; rw [← List.append_assoc, ← List.append_assoc, ← Tx.mk_append, ← Tx.mk_append, ← Tx.mk_append, Cx.plc_mk]; rfl)
 have HZ : Hid (Cx.leafE 14 low high = 0) := Lib.hid rfl
 have k3 := cell_regrown q3
 have k5 := cell_regrown q5
 generalize Cx.wrd 14 = X at *
 generalize Cx.num low = Q at *
 generalize Cx.plc (lat 0) (lon 0) = U at *
 clear hP ht hlo hp hr hpj hpl p1 p2 p3 p4
 go_enter Tryz.func21, Tryz.ntmps21
 go_wp2_with fail
 rw [HW1.out]
 go_wp2_with (go_at_call 56; (with_reducible refine (HW.out _).mono ?_); rintro e wq ⟨rfl, hwq⟩; subst wq)
 refine wp_region_quiet_below (by kernel_rfl) (by kernel_rfl) ?_
 repeat (go_big_quiet_step ((first | (go_at_call 28; with_reducible exact HA.out _ _) | (go_at_call 60; with_reducible exact HB.out _ _))))
 refine wpQuiet_nil ?_
 intro _ hw'
 obtain ⟨⟨dq, osq⟩, hw''⟩ := hw'
 subst hw''
 have hBw2 := below_regrown W1 dq osq
 generalize grow (redrawn W1 dq) osq = w2 at *
 clear dq osq
 go_wp2_with fail
 go_ret2
 exact ⟨by rw [HE.out, HZ.out]; rfl, below_up hB1 hBw2⟩
theorem ctLeaf_15 (op : Int) (ka : Option Addr) (kn kc : Nat) (text : ByteArray) (low high : Int) (aa : Option Addr) (an ac : Nat) (lat lon : Nat → Int) (w : World) (ht : Tx.Tab w) (hop : op = 15) (han : an = 2) (hp : ∀ k, k < an → (-90000000 ≤ lat k ∧ lat k ≤ 90000000) ∧ (-180000000 ≤ lon k ∧ lon k ≤ 180000000)) (hr : Row2 w aa an (fun i => .int .i64 (lat i)) (fun i => .int .i64 (lon i))) :
  Calls Tryz.prog 21 #[.agg #[.int .i64 op, .slice ka kn kc, .string text, .int .i64 low, .int .i64 high, .slice aa an ac]] w fun e w' => e = .returned (.tuple #[.string (Tx.mk (Cx.word op ++ Cx.leafT op text low high lat lon)), .int .i64 (Cx.leafE op low high)]) ∧ Below w.heap.size w w' := by
 subst hop
 obtain ⟨W1, hW1, hP, hz1, hB1⟩ := box w #[.int .i64 15, .slice ka kn kc, .string text, .int .i64 low, .int .i64 high, .slice aa an ac] 25
 have HW1 := Lib.hid hW1
 clear hW1 hz1
 obtain ⟨q0, q1, q2, q3, q4, q5⟩ := hP.six
 have HW := Lib.hid (fun W => opWord_is 15 (by omega) W)
 have hws := Cx.wrd_size 15
 subst han
 have HT1 := Lib.hid (Tx.tab_below ht hB1)
 have HR1 := Lib.hid (hr.keep hB1)
 obtain ⟨⟨p1, p2⟩, p3, p4⟩ := hp 0 (by omega)
 obtain ⟨⟨p5, p6⟩, p7, p8⟩ := hp 1 (by omega)
 have hps := Cx.plc_size (a := lat 0) (o := lon 0) ⟨p1, p2⟩ ⟨p3, p4⟩
 have hps2 := Cx.plc_size (a := lat 1) (o := lon 1) ⟨p5, p6⟩ ⟨p7, p8⟩
 have hpj : Tx.mk (Lib.join (Cx.strs lat lon 2) [32]) = Cx.plc (lat 0) (lon 0) ++ ⟨#[32]⟩ ++ Cx.plc (lat 1) (lon 1) := by rw [Cx.strs_two, ← Tx.mk_append, ← Tx.mk_append, Cx.plc_mk, Cx.plc_mk]
 have hPS : (Cx.plc (lat 0) (lon 0) ++ ⟨#[32]⟩ ++ Cx.plc (lat 1) (lon 1)).size ≤ 87 := by simp only [ByteArray.size_append]; have e : (⟨#[32]⟩ : ByteArray).size = 1 := rfl; omega
 have hpl : (Lib.join (Cx.strs lat lon 2) [32]).length ≤ 100000000 := by have := congrArg ByteArray.size hpj; rw [Tx.mk_size] at this; omega
 have HB := Lib.hid (placeText_is aa 2 ac lat lon W1 HR1.out (by omega) hp HT1.out hpl)
 rw [hpj] at HB
 have HE : Hid (Tx.mk (Cx.word 15 ++ Cx.leafT 15 text low high lat lon) = Cx.wrd 15 ++ (Cx.plc (lat 0) (lon 0) ++ ⟨#[32]⟩ ++ Cx.plc (lat 1) (lon 1))) := Lib.hid (by show Tx.mk (Cx.word 15 ++ (Cx.pl (lat 0) (lon 0) ++ [32] ++ Cx.pl (lat 1) (lon 1))) = _; rw [← Tx.mk_append, ← Tx.mk_append, ← Tx.mk_append, Cx.plc_mk, Cx.plc_mk]; rfl)
 have HZ : Hid (Cx.leafE 15 low high = 0) := Lib.hid rfl
 generalize Cx.wrd 15 = X at *
 generalize Cx.plc (lat 0) (lon 0) ++ ⟨#[32]⟩ ++ Cx.plc (lat 1) (lon 1) = U at *
 clear hP ht hp hr hpj hpl p1 p2 p3 p4 p5 p6 p7 p8 hps hps2
 go_enter Tryz.func21, Tryz.ntmps21
 go_wp2_with fail
 rw [HW1.out]
 go_wp2_with (first | (go_at_call 56; (with_reducible refine (HW.out _).mono ?_); rintro e wq ⟨rfl, hwq⟩; subst wq) | (go_at_call 60; refine HB.out.mono ?_; rintro e w3 ⟨rfl, hB3⟩))
 go_ret2
 exact ⟨by rw [HE.out, HZ.out]; rfl, below_up hB1 hB3⟩
theorem ctLeaf_9 (op : Int) (ka : Option Addr) (kn kc : Nat) (text : ByteArray) (low high : Int) (aa : Option Addr) (an ac : Nat) (lat lon : Nat → Int) (w : World) (ht : Tx.Tab w) (hop : op = 9)  :
  Calls Tryz.prog 21 #[.agg #[.int .i64 op, .slice ka kn kc, .string text, .int .i64 low, .int .i64 high, .slice aa an ac]] w fun e w' => e = .returned (.tuple #[.string (Tx.mk (Cx.word op ++ Cx.leafT op text low high lat lon)), .int .i64 (Cx.leafE op low high)]) ∧ Below w.heap.size w w' := by
 subst hop
 obtain ⟨W1, hW1, hP, hz1, hB1⟩ := box w #[.int .i64 9, .slice ka kn kc, .string text, .int .i64 low, .int .i64 high, .slice aa an ac] 25
 have HW1 := Lib.hid hW1
 clear hW1 hz1
 obtain ⟨q0, q1, q2, q3, q4, q5⟩ := hP.six
 have HW := Lib.hid (fun W => opWord_is 9 (by omega) W)
 have hws := Cx.wrd_size 9
 have HE : Hid (Tx.mk (Cx.word 9 ++ Cx.leafT 9 text low high lat lon) = Cx.wrd 9) := Lib.hid rfl
 have HZ : Hid (Cx.leafE 9 low high = 0) := Lib.hid rfl
 generalize Cx.wrd 9 = X at *
 clear hP
 go_enter Tryz.func21, Tryz.ntmps21
 go_wp2_with fail
 rw [HW1.out]
 go_wp2_with (go_at_call 56; (with_reducible refine (HW.out _).mono ?_); rintro e wq ⟨rfl, hwq⟩; subst wq)
 go_ret2
 exact ⟨by rw [HE.out, HZ.out]; rfl, hB1⟩
theorem ctLeaf_10 (op : Int) (ka : Option Addr) (kn kc : Nat) (text : ByteArray) (low high : Int) (aa : Option Addr) (an ac : Nat) (lat lon : Nat → Int) (w : World) (ht : Tx.Tab w) (hop : op = 10)  :
  Calls Tryz.prog 21 #[.agg #[.int .i64 op, .slice ka kn kc, .string text, .int .i64 low, .int .i64 high, .slice aa an ac]] w fun e w' => e = .returned (.tuple #[.string (Tx.mk (Cx.word op ++ Cx.leafT op text low high lat lon)), .int .i64 (Cx.leafE op low high)]) ∧ Below w.heap.size w w' := by
 subst hop
 obtain ⟨W1, hW1, hP, hz1, hB1⟩ := box w #[.int .i64 10, .slice ka kn kc, .string text, .int .i64 low, .int .i64 high, .slice aa an ac] 25
 have HW1 := Lib.hid hW1
 clear hW1 hz1
 obtain ⟨q0, q1, q2, q3, q4, q5⟩ := hP.six
 have HW := Lib.hid (fun W => opWord_is 10 (by omega) W)
 have hws := Cx.wrd_size 10
 have HE : Hid (Tx.mk (Cx.word 10 ++ Cx.leafT 10 text low high lat lon) = Cx.wrd 10) := Lib.hid rfl
 have HZ : Hid (Cx.leafE 10 low high = 0) := Lib.hid rfl
 generalize Cx.wrd 10 = X at *
 clear hP
 go_enter Tryz.func21, Tryz.ntmps21
 go_wp2_with fail
 rw [HW1.out]
 go_wp2_with (go_at_call 56; (with_reducible refine (HW.out _).mono ?_); rintro e wq ⟨rfl, hwq⟩; subst wq)
 go_ret2
 exact ⟨by rw [HE.out, HZ.out]; rfl, hB1⟩
theorem ctLeaf_11 (op : Int) (ka : Option Addr) (kn kc : Nat) (text : ByteArray) (low high : Int) (aa : Option Addr) (an ac : Nat) (lat lon : Nat → Int) (w : World) (ht : Tx.Tab w) (hop : op = 11)  :
  Calls Tryz.prog 21 #[.agg #[.int .i64 op, .slice ka kn kc, .string text, .int .i64 low, .int .i64 high, .slice aa an ac]] w fun e w' => e = .returned (.tuple #[.string (Tx.mk (Cx.word op ++ Cx.leafT op text low high lat lon)), .int .i64 (Cx.leafE op low high)]) ∧ Below w.heap.size w w' := by
 subst hop
 obtain ⟨W1, hW1, hP, hz1, hB1⟩ := box w #[.int .i64 11, .slice ka kn kc, .string text, .int .i64 low, .int .i64 high, .slice aa an ac] 25
 have HW1 := Lib.hid hW1
 clear hW1 hz1
 obtain ⟨q0, q1, q2, q3, q4, q5⟩ := hP.six
 have HW := Lib.hid (fun W => opWord_is 11 (by omega) W)
 have hws := Cx.wrd_size 11
 have HE : Hid (Tx.mk (Cx.word 11 ++ Cx.leafT 11 text low high lat lon) = Cx.wrd 11) := Lib.hid rfl
 have HZ : Hid (Cx.leafE 11 low high = 0) := Lib.hid rfl
 generalize Cx.wrd 11 = X at *
 clear hP
 go_enter Tryz.func21, Tryz.ntmps21
 go_wp2_with fail
 rw [HW1.out]
 go_wp2_with (go_at_call 56; (with_reducible refine (HW.out _).mono ?_); rintro e wq ⟨rfl, hwq⟩; subst wq)
 go_ret2
 exact ⟨by rw [HE.out, HZ.out]; rfl, hB1⟩
theorem ctLeaf_12 (op : Int) (ka : Option Addr) (kn kc : Nat) (text : ByteArray) (low high : Int) (aa : Option Addr) (an ac : Nat) (lat lon : Nat → Int) (w : World) (ht : Tx.Tab w) (hop : op = 12)  :
  Calls Tryz.prog 21 #[.agg #[.int .i64 op, .slice ka kn kc, .string text, .int .i64 low, .int .i64 high, .slice aa an ac]] w fun e w' => e = .returned (.tuple #[.string (Tx.mk (Cx.word op ++ Cx.leafT op text low high lat lon)), .int .i64 (Cx.leafE op low high)]) ∧ Below w.heap.size w w' := by
 subst hop
 obtain ⟨W1, hW1, hP, hz1, hB1⟩ := box w #[.int .i64 12, .slice ka kn kc, .string text, .int .i64 low, .int .i64 high, .slice aa an ac] 25
 have HW1 := Lib.hid hW1
 clear hW1 hz1
 obtain ⟨q0, q1, q2, q3, q4, q5⟩ := hP.six
 have HW := Lib.hid (fun W => opWord_is 12 (by omega) W)
 have hws := Cx.wrd_size 12
 have HE : Hid (Tx.mk (Cx.word 12 ++ Cx.leafT 12 text low high lat lon) = Cx.wrd 12) := Lib.hid rfl
 have HZ : Hid (Cx.leafE 12 low high = 0) := Lib.hid rfl
 generalize Cx.wrd 12 = X at *
 clear hP
 go_enter Tryz.func21, Tryz.ntmps21
 go_wp2_with fail
 rw [HW1.out]
 go_wp2_with (go_at_call 56; (with_reducible refine (HW.out _).mono ?_); rintro e wq ⟨rfl, hwq⟩; subst wq)
 go_ret2
 exact ⟨by rw [HE.out, HZ.out]; rfl, hB1⟩
theorem ctLeaf_13 (op : Int) (ka : Option Addr) (kn kc : Nat) (text : ByteArray) (low high : Int) (aa : Option Addr) (an ac : Nat) (lat lon : Nat → Int) (w : World) (ht : Tx.Tab w) (hop : op = 13)  :
  Calls Tryz.prog 21 #[.agg #[.int .i64 op, .slice ka kn kc, .string text, .int .i64 low, .int .i64 high, .slice aa an ac]] w fun e w' => e = .returned (.tuple #[.string (Tx.mk (Cx.word op ++ Cx.leafT op text low high lat lon)), .int .i64 (Cx.leafE op low high)]) ∧ Below w.heap.size w w' := by
 subst hop
 obtain ⟨W1, hW1, hP, hz1, hB1⟩ := box w #[.int .i64 13, .slice ka kn kc, .string text, .int .i64 low, .int .i64 high, .slice aa an ac] 25
 have HW1 := Lib.hid hW1
 clear hW1 hz1
 obtain ⟨q0, q1, q2, q3, q4, q5⟩ := hP.six
 have HW := Lib.hid (fun W => opWord_is 13 (by omega) W)
 have hws := Cx.wrd_size 13
 have HE : Hid (Tx.mk (Cx.word 13 ++ Cx.leafT 13 text low high lat lon) = Cx.wrd 13) := Lib.hid rfl
 have HZ : Hid (Cx.leafE 13 low high = 0) := Lib.hid rfl
 generalize Cx.wrd 13 = X at *
 clear hP
 go_enter Tryz.func21, Tryz.ntmps21
 go_wp2_with fail
 rw [HW1.out]
 go_wp2_with (go_at_call 56; (with_reducible refine (HW.out _).mono ?_); rintro e wq ⟨rfl, hwq⟩; subst wq)
 go_ret2
 exact ⟨by rw [HE.out, HZ.out]; rfl, hB1⟩
theorem ctLeaf_16 (op : Int) (ka : Option Addr) (kn kc : Nat) (text : ByteArray) (low high : Int) (aa : Option Addr) (an ac : Nat) (lat lon : Nat → Int) (w : World) (ht : Tx.Tab w) (hop : op = 16)  :
  Calls Tryz.prog 21 #[.agg #[.int .i64 op, .slice ka kn kc, .string text, .int .i64 low, .int .i64 high, .slice aa an ac]] w fun e w' => e = .returned (.tuple #[.string (Tx.mk (Cx.word op ++ Cx.leafT op text low high lat lon)), .int .i64 (Cx.leafE op low high)]) ∧ Below w.heap.size w w' := by
 subst hop
 obtain ⟨W1, hW1, hP, hz1, hB1⟩ := box w #[.int .i64 16, .slice ka kn kc, .string text, .int .i64 low, .int .i64 high, .slice aa an ac] 25
 have HW1 := Lib.hid hW1
 clear hW1 hz1
 obtain ⟨q0, q1, q2, q3, q4, q5⟩ := hP.six
 have HW := Lib.hid (fun W => opWord_is 16 (by omega) W)
 have hws := Cx.wrd_size 16
 have HE : Hid (Tx.mk (Cx.word 16 ++ Cx.leafT 16 text low high lat lon) = Cx.wrd 16) := Lib.hid rfl
 have HZ : Hid (Cx.leafE 16 low high = 0) := Lib.hid rfl
 generalize Cx.wrd 16 = X at *
 clear hP
 go_enter Tryz.func21, Tryz.ntmps21
 go_wp2_with fail
 rw [HW1.out]
 go_wp2_with (go_at_call 56; (with_reducible refine (HW.out _).mono ?_); rintro e wq ⟨rfl, hwq⟩; subst wq)
 go_ret2
 exact ⟨by rw [HE.out, HZ.out]; rfl, hB1⟩
end Go.Proofs.YtimjmjmpaicdbaaGreatDoor
