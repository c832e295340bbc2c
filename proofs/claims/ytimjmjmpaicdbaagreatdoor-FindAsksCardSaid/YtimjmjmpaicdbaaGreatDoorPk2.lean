/- Parts of the proof, no condition: FdSmall, CndOp. -/
import Derived.Test.YtimjmjmpaicdbaaGreatDoorPk1
set_option maxRecDepth 100000
set_option maxHeartbeats 4000000
set_option linter.unusedVariables false
namespace Go.Proofs.YtimjmjmpaicdbaaGreatDoor
open Go.RowKit Go.Sort Go.Shelf
theorem localP_is (p : Ph) (w : World) (hm : 0 ≤ p.mom ∧ p.mom ≤ 6311433599) (hz : -840 ≤ p.zone ∧ p.zone ≤ 840) : Calls Tryz.prog 84 #[.agg #[.int .i64 p.id, .string p.file, .int .i64 p.mom, .int .i64 p.zone, .slice p.wa p.wn p.wc, .int .i64 p.W, .int .i64 p.H, .int .i64 p.turn, .int .i64 p.stars, .slice p.ta p.tn p.tc, .string p.cap, .slice p.pa p.pn p.pc, .bool p.hid]] w fun e w' => e = .returned (.int .i64 (p.mom + 60 * p.zone)) ∧ Below w.heap.size w w' := by
 obtain ⟨W1, hW1, hP, hz1, hB1⟩ := bxP w p
 have HW1 := Lib.hid hW1
 clear hW1 hz1
 obtain ⟨q0, q1, q2, q3, q4, q5, q6, q7, q8, q9, q10, q11, q12⟩ := hP.photo
 go_enter Tryz.func84, Tryz.ntmps84
 go_wp2_with fail
 rw [HW1.out]
 go_wp2_with fail
 go_ret
 exact ⟨rfl, hB1⟩
theorem checkWhen_is (p : Ph) (w : World) (b : Bool) (h : Fd.whenB p.mom p.zone = b) : Calls Tryz.prog 114 #[.agg #[.int .i64 p.id, .string p.file, .int .i64 p.mom, .int .i64 p.zone, .slice p.wa p.wn p.wc, .int .i64 p.W, .int .i64 p.H, .int .i64 p.turn, .int .i64 p.stars, .slice p.ta p.tn p.tc, .string p.cap, .slice p.pa p.pn p.pc, .bool p.hid]] w fun e w' => e = .returned (.int .i64 (if b = true then 0 else 2)) ∧ Below w.heap.size w w' := by
 obtain ⟨W1, hW1, hP, hz1, hB1⟩ := bxP w p
 have HW1 := Lib.hid hW1
 clear hW1 hz1
 obtain ⟨q0, q1, q2, q3, q4, q5, q6, q7, q8, q9, q10, q11, q12⟩ := hP.photo
 by_cases h1 : -1 ≤ p.mom ∧ p.mom ≤ 6311433599
 ·by_cases h2 : -840 ≤ p.zone ∧ p.zone ≤ 840
  ·have z1 := h2.1
   have z2 := h2.2
   have m2 := h1.2
   by_cases h3 : 0 ≤ p.mom
   ·by_cases h4 : 0 ≤ p.mom + 60 * p.zone ∧ p.mom + 60 * p.zone ≤ 6311433599
    ·obtain rfl : b = true := by rw [← h]; exact decide_eq_true ⟨h1, h2, fun _ => h4⟩
     rw [if_pos rfl]
     have H1 := Lib.hid h1; have H2 := Lib.hid h2; have H4 := Lib.hid h4; have HH := Lib.hid h; clear h1 h2 h4 h
     go_enter Tryz.func114, Tryz.ntmps114
     go_wp2_with fail
     rw [HW1.out]
     go_wp2_with (first
      | (go_at_call 32; (with_reducible refine (outsideF_no p.mom (-1) 6311433599 _ H1.out).mono ?_); rintro e w2 ⟨rfl, rfl⟩)
      | (go_at_call 32; (with_reducible refine (outsideF_no p.zone (-840) 840 _ H2.out).mono ?_); rintro e w2 ⟨rfl, rfl⟩)
      | (go_at_call 84; refine (localP_is p _ ⟨h3, m2⟩ H2.out).mono ?_; rintro e w3 ⟨rfl, hB3⟩)
      | (go_at_call 32; (with_reducible refine (outsideF_no (p.mom + 60 * p.zone) 0 6311433599 _ H4.out).mono ?_); rintro e w2 ⟨rfl, rfl⟩))
     go_ret
     exact ⟨rfl, below_up hB1 hB3⟩
    ·obtain rfl : b = false := by rw [← h]; exact decide_eq_false fun g => h4 (g.2.2 h3)
     rw [if_neg (by simp)]
     have h5 : p.mom + 60 * p.zone < 0 ∨ 6311433599 < p.mom + 60 * p.zone := by omega
     have H1 := Lib.hid h1; have H2 := Lib.hid h2; have H4 := Lib.hid h5; have HH := Lib.hid h; clear h1 h2 h4 h5 h
     go_enter Tryz.func114, Tryz.ntmps114
     go_wp2_with fail
     rw [HW1.out]
     go_wp2_with (first
      | (go_at_call 32; (with_reducible refine (outsideF_no p.mom (-1) 6311433599 _ H1.out).mono ?_); rintro e w2 ⟨rfl, rfl⟩)
      | (go_at_call 32; (with_reducible refine (outsideF_no p.zone (-840) 840 _ H2.out).mono ?_); rintro e w2 ⟨rfl, rfl⟩)
      | (go_at_call 84; refine (localP_is p _ ⟨h3, m2⟩ H2.out).mono ?_; rintro e w3 ⟨rfl, hB3⟩)
      | (go_at_call 32; (with_reducible refine (outsideF_yes (p.mom + 60 * p.zone) 0 6311433599 _ H4.out).mono ?_); rintro e w2 ⟨rfl, rfl⟩))
     go_ret
     exact ⟨rfl, below_up hB1 hB3⟩
   ·obtain rfl : b = true := by rw [← h]; exact decide_eq_true ⟨h1, h2, fun g => absurd g h3⟩
    rw [if_pos rfl]
    have H1 := Lib.hid h1; have H2 := Lib.hid h2; have H4 := Lib.hid h1; have HH := Lib.hid h; clear h1 h2 h
    go_enter Tryz.func114, Tryz.ntmps114
    go_wp2_with fail
    rw [HW1.out]
    go_wp2_with (first
     | (go_at_call 32; (with_reducible refine (outsideF_no p.mom (-1) 6311433599 _ H1.out).mono ?_); rintro e w2 ⟨rfl, rfl⟩)
     | (go_at_call 32; (with_reducible refine (outsideF_no p.zone (-840) 840 _ H2.out).mono ?_); rintro e w2 ⟨rfl, rfl⟩)
     | (go_at_call 84; refine (localP_is p _ ⟨h3, m2⟩ H2.out).mono ?_; rintro e w3 ⟨rfl, hB3⟩)
     | (go_at_call 32; (with_reducible refine (outsideF_no (p.mom + 60 * p.zone) 0 6311433599 _ H4.out).mono ?_); rintro e w2 ⟨rfl, rfl⟩))
    go_ret
    exact ⟨rfl, hB1⟩
  ·obtain rfl : b = false := by rw [← h]; exact decide_eq_false fun g => h2 g.2.1
   rw [if_neg (by simp)]
   have h5 : p.zone < -840 ∨ 840 < p.zone := by omega
   have H1 := Lib.hid h1; have H2 := Lib.hid h5; have H4 := Lib.hid h1; have HH := Lib.hid h; clear h1 h2 h5 h
   go_enter Tryz.func114, Tryz.ntmps114
   go_wp2_with fail
   rw [HW1.out]
   go_wp2_with (first
    | (go_at_call 32; (with_reducible refine (outsideF_no p.mom (-1) 6311433599 _ H1.out).mono ?_); rintro e w2 ⟨rfl, rfl⟩)
    | (go_at_call 32; (with_reducible refine (outsideF_yes p.zone (-840) 840 _ H2.out).mono ?_); rintro e w2 ⟨rfl, rfl⟩)
    | (go_at_call 84; refine (localP_is p _ H1.out H2.out).mono ?_; rintro e w3 ⟨rfl, hB3⟩)
    | (go_at_call 32; (with_reducible refine (outsideF_no (p.mom + 60 * p.zone) 0 6311433599 _ H4.out).mono ?_); rintro e w2 ⟨rfl, rfl⟩))
   go_ret
   exact ⟨rfl, hB1⟩
 ·obtain rfl : b = false := by rw [← h]; exact decide_eq_false fun g => h1 g.1
  rw [if_neg (by simp)]
  have h5 : p.mom < -1 ∨ 6311433599 < p.mom := by omega
  have H1 := Lib.hid h5; have H2 := Lib.hid h5; have H4 := Lib.hid h1; have HH := Lib.hid h; clear h1 h5 h
  go_enter Tryz.func114, Tryz.ntmps114
  go_wp2_with fail
  rw [HW1.out]
  go_wp2_with (first
   | (go_at_call 32; (with_reducible refine (outsideF_yes p.mom (-1) 6311433599 _ H1.out).mono ?_); rintro e w2 ⟨rfl, rfl⟩)
   | (go_at_call 32; (with_reducible refine (outsideF_yes p.zone (-840) 840 _ H2.out).mono ?_); rintro e w2 ⟨rfl, rfl⟩)
   | (go_at_call 84; refine (localP_is p _ H1.out H2.out).mono ?_; rintro e w3 ⟨rfl, hB3⟩)
   | (go_at_call 32; (with_reducible refine (outsideF_no (p.mom + 60 * p.zone) 0 6311433599 _ H4.out).mono ?_); rintro e w2 ⟨rfl, rfl⟩))
  go_ret
  exact ⟨rfl, hB1⟩
theorem checkPlace_is (a o : Int) (w : World) (b : Bool) (h : Fd.placeB a o = b) : Calls Tryz.prog 110 #[.agg #[.int .i64 a, .int .i64 o]] w fun e w' => e = .returned (.int .i64 (if b = true then 0 else 2)) ∧ Below w.heap.size w w' := by
 cases h1 : decide (-90000000 ≤ a ∧ a ≤ 90000000)
 ·obtain rfl : b = false := by rw [← h]; exact decide_eq_false fun g => of_decide_eq_false h1 g.1
  rw [if_neg (by simp)]
  have H1 := Lib.hid h1; clear h1 h
  obtain ⟨W1, hW1, hP, hz1, hB1⟩ := box w #[.int .i64 a, .int .i64 o] 112
  have HW1 := Lib.hid hW1
  clear hW1 hz1
  obtain ⟨q0, q1⟩ := hP.two
  go_enter Tryz.func110, Tryz.ntmps110
  go_wp2_with fail
  rw [HW1.out]
  go_wp2_with (first
   | (go_at_call 32; (with_reducible refine (outsideF_is a (-90000000) 90000000 false H1.out _).mono ?_); rintro e w2 ⟨rfl, rfl⟩)
   | (go_at_call 32; (with_reducible refine (outsideF_is o (-180000000) 179999999 false H1.out _).mono ?_); rintro e w2 ⟨rfl, rfl⟩))
  go_ret
  exact ⟨rfl, hB1⟩
 ·cases h2 : decide (-180000000 ≤ o ∧ o ≤ 179999999)
  ·obtain rfl : b = false := by rw [← h]; exact decide_eq_false fun g => of_decide_eq_false h2 g.2
   rw [if_neg (by simp)]
   have H1 := Lib.hid h1; have H2 := Lib.hid h2; clear h1 h2 h
   obtain ⟨W1, hW1, hP, hz1, hB1⟩ := box w #[.int .i64 a, .int .i64 o] 112
   have HW1 := Lib.hid hW1
   clear hW1 hz1
   obtain ⟨q0, q1⟩ := hP.two
   go_enter Tryz.func110, Tryz.ntmps110
   go_wp2_with fail
   rw [HW1.out]
   go_wp2_with (first
    | (go_at_call 32; (with_reducible refine (outsideF_is a (-90000000) 90000000 true H1.out _).mono ?_); rintro e w2 ⟨rfl, rfl⟩)
    | (go_at_call 32; (with_reducible refine (outsideF_is o (-180000000) 179999999 false H2.out _).mono ?_); rintro e w2 ⟨rfl, rfl⟩))
   go_ret
   exact ⟨rfl, hB1⟩
  ·obtain rfl : b = true := by rw [← h]; exact decide_eq_true ⟨of_decide_eq_true h1, of_decide_eq_true h2⟩
   rw [if_pos rfl]
   have H1 := Lib.hid h1; have H2 := Lib.hid h2; clear h1 h2 h
   obtain ⟨W1, hW1, hP, hz1, hB1⟩ := box w #[.int .i64 a, .int .i64 o] 112
   have HW1 := Lib.hid hW1
   clear hW1 hz1
   obtain ⟨q0, q1⟩ := hP.two
   go_enter Tryz.func110, Tryz.ntmps110
   go_wp2_with fail
   rw [HW1.out]
   go_wp2_with (first
    | (go_at_call 32; (with_reducible refine (outsideF_is a (-90000000) 90000000 true H1.out _).mono ?_); rintro e w2 ⟨rfl, rfl⟩)
    | (go_at_call 32; (with_reducible refine (outsideF_is o (-180000000) 179999999 true H2.out _).mono ?_); rintro e w2 ⟨rfl, rfl⟩))
   go_ret
   exact ⟨rfl, hB1⟩
theorem placed_is (a o : Int) (w : World) (b : Bool) (h : Fd.placeB a o = b) : Calls Tryz.prog 72 #[.agg #[.int .i64 a, .int .i64 o]] w fun e w' => e = .returned (.bool b) ∧ Below w.heap.size w w' := by
 cases h1 : decide (-90000000 ≤ a ∧ a ≤ 90000000)
 ·obtain rfl : b = false := by rw [← h]; exact decide_eq_false fun g => of_decide_eq_false h1 g.1
  have H1 := Lib.hid h1; clear h1 h
  obtain ⟨W1, hW1, hP, hz1, hB1⟩ := box w #[.int .i64 a, .int .i64 o] 112
  have HW1 := Lib.hid hW1
  clear hW1 hz1
  obtain ⟨q0, q1⟩ := hP.two
  go_enter Tryz.func72, Tryz.ntmps72
  go_wp2_with fail
  rw [HW1.out]
  go_wp2_with (first
   | (go_at_call 31; (with_reducible refine (in_is a (-90000000) 90000000 false H1.out _).mono ?_); rintro e w2 ⟨rfl, rfl⟩)
   | (go_at_call 31; (with_reducible refine (in_is o (-180000000) 179999999 false H1.out _).mono ?_); rintro e w2 ⟨rfl, rfl⟩))
  go_ret
  exact ⟨rfl, hB1⟩
 ·cases h2 : decide (-180000000 ≤ o ∧ o ≤ 179999999)
  ·obtain rfl : b = false := by rw [← h]; exact decide_eq_false fun g => of_decide_eq_false h2 g.2
   have H1 := Lib.hid h1; have H2 := Lib.hid h2; clear h1 h2 h
   obtain ⟨W1, hW1, hP, hz1, hB1⟩ := box w #[.int .i64 a, .int .i64 o] 112
   have HW1 := Lib.hid hW1
   clear hW1 hz1
   obtain ⟨q0, q1⟩ := hP.two
   go_enter Tryz.func72, Tryz.ntmps72
   go_wp2_with fail
   rw [HW1.out]
   go_wp2_with (first
    | (go_at_call 31; (with_reducible refine (in_is a (-90000000) 90000000 true H1.out _).mono ?_); rintro e w2 ⟨rfl, rfl⟩)
    | (go_at_call 31; (with_reducible refine (in_is o (-180000000) 179999999 false H2.out _).mono ?_); rintro e w2 ⟨rfl, rfl⟩))
   go_ret
   exact ⟨rfl, hB1⟩
  ·obtain rfl : b = true := by rw [← h]; exact decide_eq_true ⟨of_decide_eq_true h1, of_decide_eq_true h2⟩
   have H1 := Lib.hid h1; have H2 := Lib.hid h2; clear h1 h2 h
   obtain ⟨W1, hW1, hP, hz1, hB1⟩ := box w #[.int .i64 a, .int .i64 o] 112
   have HW1 := Lib.hid hW1
   clear hW1 hz1
   obtain ⟨q0, q1⟩ := hP.two
   go_enter Tryz.func72, Tryz.ntmps72
   go_wp2_with fail
   rw [HW1.out]
   go_wp2_with (first
    | (go_at_call 31; (with_reducible refine (in_is a (-90000000) 90000000 true H1.out _).mono ?_); rintro e w2 ⟨rfl, rfl⟩)
    | (go_at_call 31; (with_reducible refine (in_is o (-180000000) 179999999 true H2.out _).mono ?_); rintro e w2 ⟨rfl, rfl⟩))
   go_ret
   exact ⟨rfl, hB1⟩
theorem checkIds_is (a : Option Addr) (n ca : Nat) (who : Nat → Int) (w : World) (hr : Row w a n (fun i => .int .i64 (who i))) (hn : n ≤ 9223372036854775807) :
  Calls Tryz.prog 169 #[.slice a n ca] w fun e w' => e = .returned (.int .i64 (Fd.scan (Fd.pbad who) 0 n)) ∧ w = w' := by
 obtain ⟨q, hq⟩ : ∃ q, Fd.scan (Fd.pbad who) 0 n = q := ⟨_, rfl⟩
 rw [hq]
 have HR := Lib.hid hr; have HQ := Lib.hid hq; clear hr hq
 go_enter Tryz.func169, Tryz.ntmps169
 go_wp2_with fail
 go_loopg [7] n (fun gk i wr => ∃ j : Nat, j ≤ n ∧ gk = n - j ∧ i = .int .i64 j ∧ Fd.scan (Fd.pbad who) j (n - j) = q ∧ w = wr)
 case atStart => exact ⟨0, by omega, rfl, rfl, HQ.out, rfl⟩
 case round =>
  obtain ⟨j, hj, rfl, rfl, hsc, rfl⟩ := hrel
  have HSC := Lib.hid hsc; clear hsc
  by_cases hlt : j < n
  ·obtain ⟨b, off, rfl, hb, hcell⟩ := HR.out (by omega)
   have c0 : w.cell? ⟨b, off + j, none⟩ = some (.int .i64 (who j)) := hcell j hlt
   have hcell : ∀ i, i < n → w.cell? ⟨b, off + i, none⟩ = some (.int .i64 (who i)) := hcell
   have HC := Lib.hid hcell
   clear hcell
   have hcell := HC.out
   cases hin : decide (1 ≤ who j ∧ who j ≤ 1000000)
   ·have HIN := Lib.hid hin
    have HBAD := Lib.hid (id (Fd.scan_here HSC.out hlt (Fd.pbad_out hin) (by omega)))
    clear hin
    go_wp2_with (go_at_call 32; (with_reducible refine (outsideF_is (who j) 1 1000000 false HIN.out _).mono ?_); rintro e w2 ⟨rfl, rfl⟩)
    go_ret
    exact ⟨ret_int HBAD.out, rfl⟩
   ·have HIN := Lib.hid hin
    by_cases hj0 : j = 0
    ·have hj0' : decide ((0 : Int) < (j : Int)) = false := by simpa using hj0
     have hj0'' : ((0 : Int) < (j : Int)) = False := by simpa using hj0
     have hj0n : (0 < j) = False := by simpa using hj0
     have HBAD := Lib.hid (Fd.scan_next HSC.out hlt (Fd.pbad_first hin hj0))
     clear hin hj0
     go_wp2_with (go_at_call 32; (with_reducible refine (outsideF_is (who j) 1 1000000 true HIN.out _).mono ?_); rintro e w2 ⟨rfl, rfl⟩)
     go_roundg (n - (j + 1))
     case rel => exact ⟨j + 1, by omega, rfl, by go_num, HBAD.out, rfl⟩
     case measure => omega
    ·have hj1 : 1 ≤ j := by omega
     have hj0' : decide ((0 : Int) < (j : Int)) = true := by simp; omega
     have hj0n : 0 < j := by omega
     have d0 := hcell (j - 1) (by omega)
     have hi0 : (0 : Int) ≤ (j : Int) - 1 := by omega
     have hi1 : (j : Int) - 1 < (n : Int) := by omega
     by_cases ho : who j ≤ who (j - 1)
     ·have HBAD := Lib.hid (id (Fd.scan_here HSC.out hlt (Fd.pbad_ord hin hj0 ho) (by omega)))
      clear hin hj0
      go_wp2_with (go_at_call 32; (with_reducible refine (outsideF_is (who j) 1 1000000 true HIN.out _).mono ?_); rintro e w2 ⟨rfl, rfl⟩)
      go_ret
      exact ⟨ret_int HBAD.out, rfl⟩
     ·have HBAD := Lib.hid (Fd.scan_next HSC.out hlt (Fd.pbad_ok hin hj0 ho))
      have ho' : who (j - 1) < who j := by omega
      clear hin hj0 ho
      go_wp2_with (go_at_call 32; (with_reducible refine (outsideF_is (who j) 1 1000000 true HIN.out _).mono ?_); rintro e w2 ⟨rfl, rfl⟩)
      go_roundg (n - (j + 1))
      case rel => exact ⟨j + 1, by omega, rfl, by go_num, HBAD.out, rfl⟩
      case measure => omega
  ·obtain rfl : j = n := by omega
   go_wp2_with fail
   go_ret
   exact ⟨ret_int (Fd.scan_end HSC.out).symm, rfl⟩
theorem checkWords_is (p : Ph) (w : World) (hI : p.In w) (hF : p.Fits) : Calls Tryz.prog 115 #[.agg #[.int .i64 p.id, .string p.file, .int .i64 p.mom, .int .i64 p.zone, .slice p.wa p.wn p.wc, .int .i64 p.W, .int .i64 p.H, .int .i64 p.turn, .int .i64 p.stars, .slice p.ta p.tn p.tc, .string p.cap, .slice p.pa p.pn p.pc, .bool p.hid]] w fun e w' => e = .returned (.int .i64 p.words) ∧ Below w.heap.size w w' := by
 obtain ⟨W1, hW1, hP, hz1, hB1⟩ := bxP w p
 have HW1 := Lib.hid hW1
 clear hW1 hz1
 obtain ⟨q0, q1, q2, q3, q4, q5, q6, q7, q8, q9, q10, q11, q12⟩ := hP.photo
 have hI := hI.keep hB1
 have HTG := Lib.hid hI.tags
 have HTS := Lib.hid hF.tag
 have HID := Lib.hid (fun W (hB : Below W1.heap.size W1 W) => checkIds_is p.pa p.pn p.pc p.who W (hI.keep hB).people hF.pn)
 have hbt := hF.tn; have hbp := hF.pn; have hbc := hF.cap
 obtain ⟨b, hb⟩ : ∃ b, Fd.plainB p.cap = b := ⟨_, rfl⟩
 have HLOW := Lib.hid (fun W => low_is p.cap hF.cap b hb W)
 obtain ⟨q, hq⟩ : ∃ q, p.words = q := ⟨_, rfl⟩
 rw [hq]
 unfold Ph.words at hq
 rw [hb] at hq
 clear hI hF hb
 generalize p.ta = ta at *
 by_cases ht : 20 < p.tn
 ·rw [if_pos ht] at hq
  subst hq
  have ht' : (20 : Int) < (p.tn : Int) := by omega
  go_enter Tryz.func115, Tryz.ntmps115
  go_wp2_with fail
  rw [HW1.out]
  go_wp2_with fail
  go_ret
  exact ⟨rfl, hB1⟩
 ·rw [if_neg ht] at hq
  have ht' : ¬ (20 : Int) < (p.tn : Int) := by omega
  obtain ⟨s, hs⟩ : ∃ s, Fd.scan (Fd.tbad p.tag) 0 p.tn = s := ⟨_, rfl⟩
  rw [hs] at hq
  have HTO : Hid (∀ e : Int, e ≠ 0 → e = s → e = q) := by
   intro e h0 he
   subst he
   rw [if_neg h0] at hq
   exact hq
  have HS := Lib.hid hs; have HQ := Lib.hid hq; clear hs hq
  go_enter Tryz.func115, Tryz.ntmps115
  go_wp2_with fail
  rw [HW1.out]
  go_wp2_with fail
  go_loopg [12] p.tn (fun gk i wr => ∃ j : Nat, j ≤ p.tn ∧ gk = p.tn - j ∧ i = .int .i64 j ∧ Fd.scan (Fd.tbad p.tag) j (p.tn - j) = s ∧ W1 = wr)
  case atStart => exact ⟨0, by omega, rfl, rfl, HS.out, rfl⟩
  case round =>
   obtain ⟨j, hj, rfl, rfl, hsc, rfl⟩ := hrel
   have HSC := Lib.hid hsc; clear hsc
   by_cases hlt : j < p.tn
   ·obtain ⟨b1, off, rfl, hb1, hcell⟩ := HTG.out (by omega)
    have hcell : ∀ i, i < p.tn → W1.cell? ⟨b1, off + i, none⟩ = some (.string (p.tag i)) := hcell
    have c0 := hcell j hlt
    have HC := Lib.hid hcell
    clear hcell
    have hcell := HC.out
    cases hin : Fd.nameB (p.tag j)
    ·have HIN := Lib.hid hin
     have HBAD := Lib.hid (HTO.out _ (by omega) (Fd.scan_here HSC.out hlt (Fd.tbad_name hin) (by omega)))
     clear hin
     go_wp2_with (go_at_call 108; (with_reducible refine (isNameW_is (p.tag j) (HTS.out j hlt) false HIN.out _).mono ?_); rintro e w2 ⟨rfl, rfl⟩)
     go_ret
     exact ⟨ret_int HBAD.out, hB1⟩
    ·have HIN := Lib.hid hin
     by_cases hj0 : j = 0
     ·have hj0' : decide ((0 : Int) < (j : Int)) = false := by simpa using hj0
      have hj0'' : ((0 : Int) < (j : Int)) = False := by simpa using hj0
      have hj0n : (0 < j) = False := by simpa using hj0
      have HBAD := Lib.hid (Fd.scan_next HSC.out hlt (Fd.tbad_first hin hj0))
      clear hin hj0
      go_wp2_with (go_at_call 108; (with_reducible refine (isNameW_is (p.tag j) (HTS.out j hlt) true HIN.out _).mono ?_); rintro e w2 ⟨rfl, rfl⟩)
      go_roundg (p.tn - (j + 1))
      case rel => exact ⟨j + 1, by omega, rfl, by go_num, HBAD.out, rfl⟩
      case measure => omega
     ·have hj1 : 1 ≤ j := by omega
      have hj0' : decide ((0 : Int) < (j : Int)) = true := by simp; omega
      have hj0n : 0 < j := by omega
      have d0 := hcell (j - 1) (by omega)
      have hi0 : (0 : Int) ≤ (j : Int) - 1 := by omega
      have hi1 : (j : Int) - 1 < (p.tn : Int) := by omega
      cases ho : Fd.leS (p.tag j) (p.tag (j - 1))
      ·have HBAD := Lib.hid (Fd.scan_next HSC.out hlt (Fd.tbad_ok hin hj0 ho))
       unfold Fd.leS at ho
       clear hin hj0
       go_wp2_with (go_at_call 108; (with_reducible refine (isNameW_is (p.tag j) (HTS.out j hlt) true HIN.out _).mono ?_); rintro e w2 ⟨rfl, rfl⟩)
       go_roundg (p.tn - (j + 1))
       case rel => exact ⟨j + 1, by omega, rfl, by go_num, HBAD.out, rfl⟩
       case measure => omega
      ·have HBAD := Lib.hid (HTO.out _ (by omega) (Fd.scan_here HSC.out hlt (Fd.tbad_ord hin hj0 ho) (by omega)))
       unfold Fd.leS at ho
       clear hin hj0
       go_wp2_with (go_at_call 108; (with_reducible refine (isNameW_is (p.tag j) (HTS.out j hlt) true HIN.out _).mono ?_); rintro e w2 ⟨rfl, rfl⟩)
       go_ret
       exact ⟨ret_int HBAD.out, hB1⟩
   ·obtain rfl : j = p.tn := by omega
    have hs0 := Fd.scan_end HSC.out
    have hq := HQ.out
    rw [if_pos hs0] at hq
    clear hs0
    by_cases hc : 200 < p.cap.size
    ·rw [if_pos hc] at hq
     have hc' : (200 : Int) < (p.cap.size : Int) := by omega
     subst hq
     go_wp2_with fail
     go_ret
     exact ⟨rfl, hB1⟩
    ·rw [if_neg hc] at hq
     have hc' : ¬ (200 : Int) < (p.cap.size : Int) := by omega
     cases b
     ·rw [if_neg (by simp)] at hq
      subst hq
      go_wp2_with (go_at_call 109; refine (HLOW.out _).mono ?_; rintro e w3 ⟨rfl, hB3⟩)
      go_ret
      exact ⟨rfl, below_up hB1 hB3⟩
     ·rw [if_pos rfl] at hq
      by_cases hn : 20 < p.pn
      ·rw [if_pos hn] at hq
       have hn' : (20 : Int) < (p.pn : Int) := by omega
       subst hq
       go_wp2_with (go_at_call 109; refine (HLOW.out _).mono ?_; rintro e w3 ⟨rfl, hB3⟩; obtain ⟨t0, t1, t2, t3, t4, t5, t6, t7, t8, t9, t10, t11, t12⟩ := (hP.keep hB3).photo)
       go_ret
       exact ⟨rfl, below_up hB1 hB3⟩
      ·rw [if_neg hn] at hq
       have hn' : ¬ (20 : Int) < (p.pn : Int) := by omega
       have HQ2 := Lib.hid hq; clear hq
       go_wp2_with (first
        | (go_at_call 109; refine (HLOW.out _).mono ?_; rintro e w3 ⟨rfl, hB3⟩; obtain ⟨t0, t1, t2, t3, t4, t5, t6, t7, t8, t9, t10, t11, t12⟩ := (hP.keep hB3).photo)
        | (go_at_call 169; refine (HID.out _ hB3).mono ?_; rintro e w4 ⟨rfl, rfl⟩))
       go_ret
       exact ⟨ret_int HQ2.out, below_up hB1 hB3⟩
end Go.Proofs.YtimjmjmpaicdbaaGreatDoor
namespace Go.Proofs.YtimjmjmpaicdbaaGreatDoor
open Go.RowKit Go.Sort
theorem Blk.six {w : World} {b : Nat} {c0 c1 c2 c3 c4 c5 : Value} {t : TypeId} (h : Blk w b #[c0, c1, c2, c3, c4, c5] t) :
  w.cell? ⟨b, 0, none⟩ = some c0 ∧ w.cell? ⟨b, 1, none⟩ = some c1 ∧ w.cell? ⟨b, 2, none⟩ = some c2 ∧ w.cell? ⟨b, 3, none⟩ = some c3 ∧ w.cell? ⟨b, 4, none⟩ = some c4 ∧ w.cell? ⟨b, 5, none⟩ = some c5 :=
 ⟨by rw [h.cell]; rfl, by rw [h.cell]; rfl, by rw [h.cell]; rfl, by rw [h.cell]; rfl, by rw [h.cell]; rfl, by rw [h.cell]; rfl⟩
def FormC (op : Int) (ft fl fh : Bool) (a : Int) : Prop := ∀ w : World, Calls Tryz.prog 107 #[.int .i64 op] w fun e w' => e = .returned (.agg #[.bool ft, .bool fl, .bool fh, .int .i64 a]) ∧ Below w.heap.size w w'
theorem Blk.four {w : World} {b : Nat} {c0 c1 c2 c3 : Value} {t : TypeId} (h : Blk w b #[c0, c1, c2, c3] t) :
  w.cell? ⟨b, 0, none⟩ = some c0 ∧ w.cell? ⟨b, 1, none⟩ = some c1 ∧ w.cell? ⟨b, 2, none⟩ = some c2 ∧ w.cell? ⟨b, 3, none⟩ = some c3 :=
 ⟨by rw [h.cell]; rfl, by rw [h.cell]; rfl, by rw [h.cell]; rfl, by rw [h.cell]; rfl⟩
theorem Fd.size_of_full {s : ByteArray} (h : s.toList.isEmpty = false) : 1 ≤ s.size := by
 rcases Nat.eq_zero_or_pos s.size with h0 | h0
 ·rw [strEmpty_yes s h0] at h; cases h
 ·exact h0
theorem Fd.size_of_empty {s : ByteArray} (h : s.toList.isEmpty = true) : s.size = 0 := by
 rcases Nat.eq_zero_or_pos s.size with h0 | h0
 ·exact h0
 ·rw [strEmpty_no s (by omega)] at h; cases h
theorem Cnd.formC_A (op : Int) (hop : op = 1 ∨ op = 2) : FormC op false false false 0 := by
 rcases hop with rfl | rfl <;> (intro w; go_enter Tryz.func107, Tryz.ntmps107; go_wp2_with fail; refine bodyPost_ret (v := .agg #[.bool false, .bool false, .bool false, .int .i64 0]) (by simp [results, Tryz.results107, go_sem]) rfl ⟨rfl, below_allocs (Below.refl _ _) _⟩)
theorem Cnd.formB_A (op : Int) (kn an : Nat) (text : ByteArray) (low high : Int) (hop : op = 1 ∨ op = 2) (g0 : an = 0) (g1 : text.toList.isEmpty = true) (g2 : low = 0) (g3 : high = 0) : Cnd.formB op kn an text low high = true := by
 rcases hop with rfl | rfl <;> simp_all [Cnd.formB, Cnd.kidsB, Cnd.fText, Cnd.fLow, Cnd.fHigh, Cnd.fAt]
theorem Cnd.formB_at_A (op : Int) (kn an : Nat) (text : ByteArray) (low high : Int) (hop : op = 1 ∨ op = 2) (g : ¬ an = 0) : Cnd.formB op kn an text low high = false := by
 rcases hop with rfl | rfl <;> (unfold Cnd.formB; simp [Cnd.kidsB, Cnd.fText, Cnd.fLow, Cnd.fHigh, Cnd.fAt]; intros; first | omega | simp_all)
theorem Cnd.formB_text_A (op : Int) (kn an : Nat) (text : ByteArray) (low high : Int) (hop : op = 1 ∨ op = 2) (g : text.toList.isEmpty = false) : Cnd.formB op kn an text low high = false := by
 rcases hop with rfl | rfl <;> (unfold Cnd.formB; simp [Cnd.kidsB, Cnd.fText, Cnd.fLow, Cnd.fHigh, Cnd.fAt]; intros; first | omega | simp_all)
theorem Cnd.formB_low_A (op : Int) (kn an : Nat) (text : ByteArray) (low high : Int) (hop : op = 1 ∨ op = 2) (g : ¬ low = 0) : Cnd.formB op kn an text low high = false := by
 rcases hop with rfl | rfl <;> (unfold Cnd.formB; simp [Cnd.kidsB, Cnd.fText, Cnd.fLow, Cnd.fHigh, Cnd.fAt]; intros; first | omega | simp_all)
theorem Cnd.formB_high_A (op : Int) (kn an : Nat) (text : ByteArray) (low high : Int) (hop : op = 1 ∨ op = 2) (g : ¬ high = 0) : Cnd.formB op kn an text low high = false := by
 rcases hop with rfl | rfl <;> (unfold Cnd.formB; simp [Cnd.kidsB, Cnd.fText, Cnd.fLow, Cnd.fHigh, Cnd.fAt]; intros; first | omega | simp_all)
theorem Cnd.formC_B (op : Int) (hop : op = 3) : FormC op false false false 0 := by
 subst hop <;> (intro w; go_enter Tryz.func107, Tryz.ntmps107; go_wp2_with fail; refine bodyPost_ret (v := .agg #[.bool false, .bool false, .bool false, .int .i64 0]) (by simp [results, Tryz.results107, go_sem]) rfl ⟨rfl, below_allocs (Below.refl _ _) _⟩)
theorem Cnd.formB_B (op : Int) (kn an : Nat) (text : ByteArray) (low high : Int) (hop : op = 3) (g0 : kn = 1) (g1 : an = 0) (g2 : text.toList.isEmpty = true) (g3 : low = 0) (g4 : high = 0) : Cnd.formB op kn an text low high = true := by
 subst hop <;> simp_all [Cnd.formB, Cnd.kidsB, Cnd.fText, Cnd.fLow, Cnd.fHigh, Cnd.fAt]
theorem Cnd.formB_kids_B (op : Int) (kn an : Nat) (text : ByteArray) (low high : Int) (hop : op = 3) (g : ¬ kn = 1) : Cnd.formB op kn an text low high = false := by
 subst hop <;> (unfold Cnd.formB; simp [Cnd.kidsB, Cnd.fText, Cnd.fLow, Cnd.fHigh, Cnd.fAt]; intros; first | omega | simp_all)
theorem Cnd.formB_at_B (op : Int) (kn an : Nat) (text : ByteArray) (low high : Int) (hop : op = 3) (g : ¬ an = 0) : Cnd.formB op kn an text low high = false := by
 subst hop <;> (unfold Cnd.formB; simp [Cnd.kidsB, Cnd.fText, Cnd.fLow, Cnd.fHigh, Cnd.fAt]; intros; first | omega | simp_all)
theorem Cnd.formB_text_B (op : Int) (kn an : Nat) (text : ByteArray) (low high : Int) (hop : op = 3) (g : text.toList.isEmpty = false) : Cnd.formB op kn an text low high = false := by
 subst hop <;> (unfold Cnd.formB; simp [Cnd.kidsB, Cnd.fText, Cnd.fLow, Cnd.fHigh, Cnd.fAt]; intros; first | omega | simp_all)
theorem Cnd.formB_low_B (op : Int) (kn an : Nat) (text : ByteArray) (low high : Int) (hop : op = 3) (g : ¬ low = 0) : Cnd.formB op kn an text low high = false := by
 subst hop <;> (unfold Cnd.formB; simp [Cnd.kidsB, Cnd.fText, Cnd.fLow, Cnd.fHigh, Cnd.fAt]; intros; first | omega | simp_all)
theorem Cnd.formB_high_B (op : Int) (kn an : Nat) (text : ByteArray) (low high : Int) (hop : op = 3) (g : ¬ high = 0) : Cnd.formB op kn an text low high = false := by
 subst hop <;> (unfold Cnd.formB; simp [Cnd.kidsB, Cnd.fText, Cnd.fLow, Cnd.fHigh, Cnd.fAt]; intros; first | omega | simp_all)
theorem Cnd.formC_C (op : Int) (hop : op = 4) : FormC op true false false 0 := by
 subst hop <;> (intro w; go_enter Tryz.func107, Tryz.ntmps107; go_wp2_with fail; refine bodyPost_ret (v := .agg #[.bool true, .bool false, .bool false, .int .i64 0]) (by simp [results, Tryz.results107, go_sem]) rfl ⟨rfl, below_allocs (Below.refl _ _) _⟩)
theorem Cnd.formB_C (op : Int) (kn an : Nat) (text : ByteArray) (low high : Int) (hop : op = 4) (g0 : kn = 0) (g1 : an = 0) (g2 : low = 0) (g3 : high = 0) : Cnd.formB op kn an text low high = true := by
 subst hop <;> simp_all [Cnd.formB, Cnd.kidsB, Cnd.fText, Cnd.fLow, Cnd.fHigh, Cnd.fAt]
theorem Cnd.formB_kids_C (op : Int) (kn an : Nat) (text : ByteArray) (low high : Int) (hop : op = 4) (g : ¬ kn = 0) : Cnd.formB op kn an text low high = false := by
 subst hop <;> (unfold Cnd.formB; simp [Cnd.kidsB, Cnd.fText, Cnd.fLow, Cnd.fHigh, Cnd.fAt]; intros; first | omega | simp_all)
theorem Cnd.formB_at_C (op : Int) (kn an : Nat) (text : ByteArray) (low high : Int) (hop : op = 4) (g : ¬ an = 0) : Cnd.formB op kn an text low high = false := by
 subst hop <;> (unfold Cnd.formB; simp [Cnd.kidsB, Cnd.fText, Cnd.fLow, Cnd.fHigh, Cnd.fAt]; intros; first | omega | simp_all)
theorem Cnd.formB_low_C (op : Int) (kn an : Nat) (text : ByteArray) (low high : Int) (hop : op = 4) (g : ¬ low = 0) : Cnd.formB op kn an text low high = false := by
 subst hop <;> (unfold Cnd.formB; simp [Cnd.kidsB, Cnd.fText, Cnd.fLow, Cnd.fHigh, Cnd.fAt]; intros; first | omega | simp_all)
theorem Cnd.formB_high_C (op : Int) (kn an : Nat) (text : ByteArray) (low high : Int) (hop : op = 4) (g : ¬ high = 0) : Cnd.formB op kn an text low high = false := by
 subst hop <;> (unfold Cnd.formB; simp [Cnd.kidsB, Cnd.fText, Cnd.fLow, Cnd.fHigh, Cnd.fAt]; intros; first | omega | simp_all)
theorem Cnd.formC_D (op : Int) (hop : op = 5) : FormC op true false false 0 := by
 subst hop <;> (intro w; go_enter Tryz.func107, Tryz.ntmps107; go_wp2_with fail; refine bodyPost_ret (v := .agg #[.bool true, .bool false, .bool false, .int .i64 0]) (by simp [results, Tryz.results107, go_sem]) rfl ⟨rfl, below_allocs (Below.refl _ _) _⟩)
theorem Cnd.formB_D (op : Int) (kn an : Nat) (text : ByteArray) (low high : Int) (hop : op = 5) (g0 : kn = 0) (g1 : an = 0) (g2 : low = 0) (g3 : high = 0) : Cnd.formB op kn an text low high = true := by
 subst hop <;> simp_all [Cnd.formB, Cnd.kidsB, Cnd.fText, Cnd.fLow, Cnd.fHigh, Cnd.fAt]
theorem Cnd.formB_kids_D (op : Int) (kn an : Nat) (text : ByteArray) (low high : Int) (hop : op = 5) (g : ¬ kn = 0) : Cnd.formB op kn an text low high = false := by
 subst hop <;> (unfold Cnd.formB; simp [Cnd.kidsB, Cnd.fText, Cnd.fLow, Cnd.fHigh, Cnd.fAt]; intros; first | omega | simp_all)
theorem Cnd.formB_at_D (op : Int) (kn an : Nat) (text : ByteArray) (low high : Int) (hop : op = 5) (g : ¬ an = 0) : Cnd.formB op kn an text low high = false := by
 subst hop <;> (unfold Cnd.formB; simp [Cnd.kidsB, Cnd.fText, Cnd.fLow, Cnd.fHigh, Cnd.fAt]; intros; first | omega | simp_all)
theorem Cnd.formB_low_D (op : Int) (kn an : Nat) (text : ByteArray) (low high : Int) (hop : op = 5) (g : ¬ low = 0) : Cnd.formB op kn an text low high = false := by
 subst hop <;> (unfold Cnd.formB; simp [Cnd.kidsB, Cnd.fText, Cnd.fLow, Cnd.fHigh, Cnd.fAt]; intros; first | omega | simp_all)
theorem Cnd.formB_high_D (op : Int) (kn an : Nat) (text : ByteArray) (low high : Int) (hop : op = 5) (g : ¬ high = 0) : Cnd.formB op kn an text low high = false := by
 subst hop <;> (unfold Cnd.formB; simp [Cnd.kidsB, Cnd.fText, Cnd.fLow, Cnd.fHigh, Cnd.fAt]; intros; first | omega | simp_all)
theorem Cnd.formC_E (op : Int) (hop : op = 6) : FormC op false true false 0 := by
 subst hop <;> (intro w; go_enter Tryz.func107, Tryz.ntmps107; go_wp2_with fail; refine bodyPost_ret (v := .agg #[.bool false, .bool true, .bool false, .int .i64 0]) (by simp [results, Tryz.results107, go_sem]) rfl ⟨rfl, below_allocs (Below.refl _ _) _⟩)
theorem Cnd.formB_E (op : Int) (kn an : Nat) (text : ByteArray) (low high : Int) (hop : op = 6) (g0 : kn = 0) (g1 : an = 0) (g2 : text.toList.isEmpty = true) (g3 : high = 0) : Cnd.formB op kn an text low high = true := by
 subst hop <;> simp_all [Cnd.formB, Cnd.kidsB, Cnd.fText, Cnd.fLow, Cnd.fHigh, Cnd.fAt]
theorem Cnd.formB_kids_E (op : Int) (kn an : Nat) (text : ByteArray) (low high : Int) (hop : op = 6) (g : ¬ kn = 0) : Cnd.formB op kn an text low high = false := by
 subst hop <;> (unfold Cnd.formB; simp [Cnd.kidsB, Cnd.fText, Cnd.fLow, Cnd.fHigh, Cnd.fAt]; intros; first | omega | simp_all)
theorem Cnd.formB_at_E (op : Int) (kn an : Nat) (text : ByteArray) (low high : Int) (hop : op = 6) (g : ¬ an = 0) : Cnd.formB op kn an text low high = false := by
 subst hop <;> (unfold Cnd.formB; simp [Cnd.kidsB, Cnd.fText, Cnd.fLow, Cnd.fHigh, Cnd.fAt]; intros; first | omega | simp_all)
theorem Cnd.formB_text_E (op : Int) (kn an : Nat) (text : ByteArray) (low high : Int) (hop : op = 6) (g : text.toList.isEmpty = false) : Cnd.formB op kn an text low high = false := by
 subst hop <;> (unfold Cnd.formB; simp [Cnd.kidsB, Cnd.fText, Cnd.fLow, Cnd.fHigh, Cnd.fAt]; intros; first | omega | simp_all)
theorem Cnd.formB_high_E (op : Int) (kn an : Nat) (text : ByteArray) (low high : Int) (hop : op = 6) (g : ¬ high = 0) : Cnd.formB op kn an text low high = false := by
 subst hop <;> (unfold Cnd.formB; simp [Cnd.kidsB, Cnd.fText, Cnd.fLow, Cnd.fHigh, Cnd.fAt]; intros; first | omega | simp_all)
theorem Cnd.formC_F (op : Int) (hop : op = 7) : FormC op false true true 0 := by
 subst hop <;> (intro w; go_enter Tryz.func107, Tryz.ntmps107; go_wp2_with fail; refine bodyPost_ret (v := .agg #[.bool false, .bool true, .bool true, .int .i64 0]) (by simp [results, Tryz.results107, go_sem]) rfl ⟨rfl, below_allocs (Below.refl _ _) _⟩)
theorem Cnd.formB_F (op : Int) (kn an : Nat) (text : ByteArray) (low high : Int) (hop : op = 7) (g0 : kn = 0) (g1 : an = 0) (g2 : text.toList.isEmpty = true) : Cnd.formB op kn an text low high = true := by
 subst hop <;> simp_all [Cnd.formB, Cnd.kidsB, Cnd.fText, Cnd.fLow, Cnd.fHigh, Cnd.fAt]
theorem Cnd.formB_kids_F (op : Int) (kn an : Nat) (text : ByteArray) (low high : Int) (hop : op = 7) (g : ¬ kn = 0) : Cnd.formB op kn an text low high = false := by
 subst hop <;> (unfold Cnd.formB; simp [Cnd.kidsB, Cnd.fText, Cnd.fLow, Cnd.fHigh, Cnd.fAt]; intros; first | omega | simp_all)
theorem Cnd.formB_at_F (op : Int) (kn an : Nat) (text : ByteArray) (low high : Int) (hop : op = 7) (g : ¬ an = 0) : Cnd.formB op kn an text low high = false := by
 subst hop <;> (unfold Cnd.formB; simp [Cnd.kidsB, Cnd.fText, Cnd.fLow, Cnd.fHigh, Cnd.fAt]; intros; first | omega | simp_all)
theorem Cnd.formB_text_F (op : Int) (kn an : Nat) (text : ByteArray) (low high : Int) (hop : op = 7) (g : text.toList.isEmpty = false) : Cnd.formB op kn an text low high = false := by
 subst hop <;> (unfold Cnd.formB; simp [Cnd.kidsB, Cnd.fText, Cnd.fLow, Cnd.fHigh, Cnd.fAt]; intros; first | omega | simp_all)
theorem Cnd.formC_G (op : Int) (hop : op = 8) : FormC op false true true 0 := by
 subst hop <;> (intro w; go_enter Tryz.func107, Tryz.ntmps107; go_wp2_with fail; refine bodyPost_ret (v := .agg #[.bool false, .bool true, .bool true, .int .i64 0]) (by simp [results, Tryz.results107, go_sem]) rfl ⟨rfl, below_allocs (Below.refl _ _) _⟩)
theorem Cnd.formB_G (op : Int) (kn an : Nat) (text : ByteArray) (low high : Int) (hop : op = 8) (g0 : kn = 0) (g1 : an = 0) (g2 : text.toList.isEmpty = true) : Cnd.formB op kn an text low high = true := by
 subst hop <;> simp_all [Cnd.formB, Cnd.kidsB, Cnd.fText, Cnd.fLow, Cnd.fHigh, Cnd.fAt]
theorem Cnd.formB_kids_G (op : Int) (kn an : Nat) (text : ByteArray) (low high : Int) (hop : op = 8) (g : ¬ kn = 0) : Cnd.formB op kn an text low high = false := by
 subst hop <;> (unfold Cnd.formB; simp [Cnd.kidsB, Cnd.fText, Cnd.fLow, Cnd.fHigh, Cnd.fAt]; intros; first | omega | simp_all)
theorem Cnd.formB_at_G (op : Int) (kn an : Nat) (text : ByteArray) (low high : Int) (hop : op = 8) (g : ¬ an = 0) : Cnd.formB op kn an text low high = false := by
 subst hop <;> (unfold Cnd.formB; simp [Cnd.kidsB, Cnd.fText, Cnd.fLow, Cnd.fHigh, Cnd.fAt]; intros; first | omega | simp_all)
theorem Cnd.formB_text_G (op : Int) (kn an : Nat) (text : ByteArray) (low high : Int) (hop : op = 8) (g : text.toList.isEmpty = false) : Cnd.formB op kn an text low high = false := by
 subst hop <;> (unfold Cnd.formB; simp [Cnd.kidsB, Cnd.fText, Cnd.fLow, Cnd.fHigh, Cnd.fAt]; intros; first | omega | simp_all)
theorem Cnd.formC_H (op : Int) (hop : op = 9 ∨ op = 10 ∨ op = 11 ∨ op = 12 ∨ op = 13 ∨ op = 16) : FormC op false false false 0 := by
 rcases hop with rfl | rfl | rfl | rfl | rfl | rfl <;> (intro w; go_enter Tryz.func107, Tryz.ntmps107; go_wp2_with fail; refine bodyPost_ret (v := .agg #[.bool false, .bool false, .bool false, .int .i64 0]) (by simp [results, Tryz.results107, go_sem]) rfl ⟨rfl, below_allocs (Below.refl _ _) _⟩)
theorem Cnd.formB_H (op : Int) (kn an : Nat) (text : ByteArray) (low high : Int) (hop : op = 9 ∨ op = 10 ∨ op = 11 ∨ op = 12 ∨ op = 13 ∨ op = 16) (g0 : kn = 0) (g1 : an = 0) (g2 : text.toList.isEmpty = true) (g3 : low = 0) (g4 : high = 0) : Cnd.formB op kn an text low high = true := by
 rcases hop with rfl | rfl | rfl | rfl | rfl | rfl <;> simp_all [Cnd.formB, Cnd.kidsB, Cnd.fText, Cnd.fLow, Cnd.fHigh, Cnd.fAt]
theorem Cnd.formB_kids_H (op : Int) (kn an : Nat) (text : ByteArray) (low high : Int) (hop : op = 9 ∨ op = 10 ∨ op = 11 ∨ op = 12 ∨ op = 13 ∨ op = 16) (g : ¬ kn = 0) : Cnd.formB op kn an text low high = false := by
 rcases hop with rfl | rfl | rfl | rfl | rfl | rfl <;> (unfold Cnd.formB; simp [Cnd.kidsB, Cnd.fText, Cnd.fLow, Cnd.fHigh, Cnd.fAt]; intros; first | omega | simp_all)
theorem Cnd.formB_at_H (op : Int) (kn an : Nat) (text : ByteArray) (low high : Int) (hop : op = 9 ∨ op = 10 ∨ op = 11 ∨ op = 12 ∨ op = 13 ∨ op = 16) (g : ¬ an = 0) : Cnd.formB op kn an text low high = false := by
 rcases hop with rfl | rfl | rfl | rfl | rfl | rfl <;> (unfold Cnd.formB; simp [Cnd.kidsB, Cnd.fText, Cnd.fLow, Cnd.fHigh, Cnd.fAt]; intros; first | omega | simp_all)
theorem Cnd.formB_text_H (op : Int) (kn an : Nat) (text : ByteArray) (low high : Int) (hop : op = 9 ∨ op = 10 ∨ op = 11 ∨ op = 12 ∨ op = 13 ∨ op = 16) (g : text.toList.isEmpty = false) : Cnd.formB op kn an text low high = false := by
 rcases hop with rfl | rfl | rfl | rfl | rfl | rfl <;> (unfold Cnd.formB; simp [Cnd.kidsB, Cnd.fText, Cnd.fLow, Cnd.fHigh, Cnd.fAt]; intros; first | omega | simp_all)
theorem Cnd.formB_low_H (op : Int) (kn an : Nat) (text : ByteArray) (low high : Int) (hop : op = 9 ∨ op = 10 ∨ op = 11 ∨ op = 12 ∨ op = 13 ∨ op = 16) (g : ¬ low = 0) : Cnd.formB op kn an text low high = false := by
 rcases hop with rfl | rfl | rfl | rfl | rfl | rfl <;> (unfold Cnd.formB; simp [Cnd.kidsB, Cnd.fText, Cnd.fLow, Cnd.fHigh, Cnd.fAt]; intros; first | omega | simp_all)
theorem Cnd.formB_high_H (op : Int) (kn an : Nat) (text : ByteArray) (low high : Int) (hop : op = 9 ∨ op = 10 ∨ op = 11 ∨ op = 12 ∨ op = 13 ∨ op = 16) (g : ¬ high = 0) : Cnd.formB op kn an text low high = false := by
 rcases hop with rfl | rfl | rfl | rfl | rfl | rfl <;> (unfold Cnd.formB; simp [Cnd.kidsB, Cnd.fText, Cnd.fLow, Cnd.fHigh, Cnd.fAt]; intros; first | omega | simp_all)
theorem Cnd.formC_I (op : Int) (hop : op = 14) : FormC op false true false 1 := by
 subst hop <;> (intro w; go_enter Tryz.func107, Tryz.ntmps107; go_wp2_with fail; refine bodyPost_ret (v := .agg #[.bool false, .bool true, .bool false, .int .i64 1]) (by simp [results, Tryz.results107, go_sem]) rfl ⟨rfl, below_allocs (Below.refl _ _) _⟩)
theorem Cnd.formB_I (op : Int) (kn an : Nat) (text : ByteArray) (low high : Int) (hop : op = 14) (g0 : kn = 0) (g1 : an = 1) (g2 : text.toList.isEmpty = true) (g3 : high = 0) : Cnd.formB op kn an text low high = true := by
 subst hop <;> simp_all [Cnd.formB, Cnd.kidsB, Cnd.fText, Cnd.fLow, Cnd.fHigh, Cnd.fAt]
theorem Cnd.formB_kids_I (op : Int) (kn an : Nat) (text : ByteArray) (low high : Int) (hop : op = 14) (g : ¬ kn = 0) : Cnd.formB op kn an text low high = false := by
 subst hop <;> (unfold Cnd.formB; simp [Cnd.kidsB, Cnd.fText, Cnd.fLow, Cnd.fHigh, Cnd.fAt]; intros; first | omega | simp_all)
theorem Cnd.formB_at_I (op : Int) (kn an : Nat) (text : ByteArray) (low high : Int) (hop : op = 14) (g : ¬ an = 1) : Cnd.formB op kn an text low high = false := by
 subst hop <;> (unfold Cnd.formB; simp [Cnd.kidsB, Cnd.fText, Cnd.fLow, Cnd.fHigh, Cnd.fAt]; intros; first | omega | simp_all)
theorem Cnd.formB_text_I (op : Int) (kn an : Nat) (text : ByteArray) (low high : Int) (hop : op = 14) (g : text.toList.isEmpty = false) : Cnd.formB op kn an text low high = false := by
 subst hop <;> (unfold Cnd.formB; simp [Cnd.kidsB, Cnd.fText, Cnd.fLow, Cnd.fHigh, Cnd.fAt]; intros; first | omega | simp_all)
theorem Cnd.formB_high_I (op : Int) (kn an : Nat) (text : ByteArray) (low high : Int) (hop : op = 14) (g : ¬ high = 0) : Cnd.formB op kn an text low high = false := by
 subst hop <;> (unfold Cnd.formB; simp [Cnd.kidsB, Cnd.fText, Cnd.fLow, Cnd.fHigh, Cnd.fAt]; intros; first | omega | simp_all)
theorem Cnd.formC_J (op : Int) (hop : op = 15) : FormC op false false false 2 := by
 subst hop <;> (intro w; go_enter Tryz.func107, Tryz.ntmps107; go_wp2_with fail; refine bodyPost_ret (v := .agg #[.bool false, .bool false, .bool false, .int .i64 2]) (by simp [results, Tryz.results107, go_sem]) rfl ⟨rfl, below_allocs (Below.refl _ _) _⟩)
theorem Cnd.formB_J (op : Int) (kn an : Nat) (text : ByteArray) (low high : Int) (hop : op = 15) (g0 : kn = 0) (g1 : an = 2) (g2 : text.toList.isEmpty = true) (g3 : low = 0) (g4 : high = 0) : Cnd.formB op kn an text low high = true := by
 subst hop <;> simp_all [Cnd.formB, Cnd.kidsB, Cnd.fText, Cnd.fLow, Cnd.fHigh, Cnd.fAt]
theorem Cnd.formB_kids_J (op : Int) (kn an : Nat) (text : ByteArray) (low high : Int) (hop : op = 15) (g : ¬ kn = 0) : Cnd.formB op kn an text low high = false := by
 subst hop <;> (unfold Cnd.formB; simp [Cnd.kidsB, Cnd.fText, Cnd.fLow, Cnd.fHigh, Cnd.fAt]; intros; first | omega | simp_all)
theorem Cnd.formB_at_J (op : Int) (kn an : Nat) (text : ByteArray) (low high : Int) (hop : op = 15) (g : ¬ an = 2) : Cnd.formB op kn an text low high = false := by
 subst hop <;> (unfold Cnd.formB; simp [Cnd.kidsB, Cnd.fText, Cnd.fLow, Cnd.fHigh, Cnd.fAt]; intros; first | omega | simp_all)
theorem Cnd.formB_text_J (op : Int) (kn an : Nat) (text : ByteArray) (low high : Int) (hop : op = 15) (g : text.toList.isEmpty = false) : Cnd.formB op kn an text low high = false := by
 subst hop <;> (unfold Cnd.formB; simp [Cnd.kidsB, Cnd.fText, Cnd.fLow, Cnd.fHigh, Cnd.fAt]; intros; first | omega | simp_all)
theorem Cnd.formB_low_J (op : Int) (kn an : Nat) (text : ByteArray) (low high : Int) (hop : op = 15) (g : ¬ low = 0) : Cnd.formB op kn an text low high = false := by
 subst hop <;> (unfold Cnd.formB; simp [Cnd.kidsB, Cnd.fText, Cnd.fLow, Cnd.fHigh, Cnd.fAt]; intros; first | omega | simp_all)
theorem Cnd.formB_high_J (op : Int) (kn an : Nat) (text : ByteArray) (low high : Int) (hop : op = 15) (g : ¬ high = 0) : Cnd.formB op kn an text low high = false := by
 subst hop <;> (unfold Cnd.formB; simp [Cnd.kidsB, Cnd.fText, Cnd.fLow, Cnd.fHigh, Cnd.fAt]; intros; first | omega | simp_all)
end Go.Proofs.YtimjmjmpaicdbaaGreatDoor
