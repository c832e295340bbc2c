/- The law PixTexts, walked. -/
import Derived.Test.YtpgjpnnjlilokaaDoorPtRef
namespace Go.Proofs.YtpgjpnnjlilokaaDoor
open Go.RowKit Go.Sort Go.Shelf
set_option linter.unusedVariables false
theorem u8_bounds {n : Int} (h : (Lit.int .u8 n).wf = true) : 0 ≤ n ∧ n ≤ 255 := by
  simp [Lit.wf, IntKind.min, IntKind.max, IntKind.bits, IntKind.signed] at h
  omega
set_option maxRecDepth 100000 in
set_option maxHeartbeats 4000000 in
theorem pixTexts_err (W H W' H' : Int) (a a2 : Option Addr) (n ca m ca2 : Nat) (px qx : Nat → Int) (w : World) (hr : Bytes w a n px) (hr2 : Bytes w a2 m qx) (hn : n ≤ 9223372036854775807) (hca : n ≤ ca) (hcm : m ≤ ca2) (q : Int) (he : Im.err W H n = q) (hq : q ≠ 0) :
    Calls Tryd.prog 3 #[.agg #[.int .i64 W, .int .i64 H, .slice a n ca], .agg #[.int .i64 W', .int .i64 H', .slice a2 m ca2]] w fun e w' => e = .returned (.bool true) ∧ Below w.heap.size w w' := by
  have HTX := fun V (_ : Below w.heap.size w V) => text_err W H a n ca q V hn he hq
  -- : the ways behind the first region
  obtain ⟨W1, hW1, hP1, hz1, hb1⟩ := box w #[.int .i64 W, .int .i64 H, .slice a n ca] 24
  obtain ⟨W2, hW2, hP2, hz2, hb2⟩ := box W1 #[.int .i64 W', .int .i64 H', .slice a2 m ca2] 24
  have hP1 := hP1.keep hb2
  rw [hz1] at hP2
  have HB := Lib.hid (below_up hb1 hb2)
  have HW1 := Lib.hid hW1; have HW2 := Lib.hid hW2
  obtain ⟨x0, x1, x2⟩ := hP1.three
  have HT := Lib.hid (HTX W2 HB.out)
  have HRA := Lib.hid hr
  have HRB := Lib.hid hr2
  clear hW1 hW2 hb1 hb2 hz1 hz2 hr hr2 HTX
  go_enter Tryd.func3, Tryd.ntmps3
  go_wp2_with fail
  rw [HW1.out, HW2.out]
  go_wp2_with (go_at_call 6; refine HT.out.mono ?_; rintro e w3 ⟨rfl, hB3⟩)
  have hB03 := below_up HB.out hB3
  have HC1 := Lib.hid (fun d os => Calls.regrown_of (check_is W H a n ca (grow (redrawn w3 d) os) hn))
  have HC2 := Lib.hid (fun d os => Calls.regrown_of (imageError_is W H a n ca (grow (redrawn w3 d) os) hn))
  have HS1 := Lib.hid (fun d os => Calls.regrown_of (same_anyB W H W' H' a a2 n m ca ca2 px qx (grow (redrawn w3 d) os) (HRA.out.keep (below_up hB03 (below_regrown w3 d os))) (HRB.out.keep (below_up hB03 (below_regrown w3 d os))) hn hca hcm))
  have HS2 := Lib.hid (fun d os => Calls.regrown_of (sameImage_anyB W H W' H' a a2 n m ca ca2 px qx (grow (redrawn w3 d) os) (HRA.out.keep (below_up hB03 (below_regrown w3 d os))) (HRB.out.keep (below_up hB03 (below_regrown w3 d os))) hn hca hcm))
  have HS3 := Lib.hid (fun d os => Calls.regrown_of (same_anyB W H W H a a n n ca ca px px (grow (redrawn w3 d) os) (HRA.out.keep (below_up hB03 (below_regrown w3 d os))) (HRA.out.keep (below_up hB03 (below_regrown w3 d os))) hn hca hca))
  have HC3 := Lib.hid (fun V => imageError_is W H a n ca V hn)
  rw [show Im.eqB W H n px W H n px = true from by simp [Im.eqB]] at HS3
  generalize Im.eqB W H n px W' H' m qx = r at *
  have hrr : (r != r) = false := by simp
  obtain ⟨x0, x1, x2⟩ := (hP1.keep hB3).three
  obtain ⟨y0, y1, y2⟩ := (hP2.keep hB3).three
  have k0 := cell_regrown x0
  have k1 := cell_regrown x1
  have k2 := cell_regrown x2
  have l0 := cell_regrown y0
  have l1 := cell_regrown y1
  have l2 := cell_regrown y2
  rw [he] at HC1 HC2 HC3
  have q1 : (q == 0) = false := by simpa using hq
  have q2 : (q != 0) = true := by simpa using hq
  have q3 : (q == q) = true := by simp
  have q4 : (q != q) = false := by simp
  clear he hq
  refine wp_region_quiet_below (by kernel_rfl) (by kernel_rfl) ?_
  repeat (go_big_quiet_step ((first | (go_at_call 7; exact HC1.out _ _) | (go_at_call 8; exact HC2.out _ _) | (go_at_call 9; first | with_reducible exact HS1.out _ _ | with_reducible exact HS3.out _ _) | (go_at_call 10; with_reducible exact HS2.out _ _))))
  refine wpQuiet_nil ?_
  intro _ hw'
  obtain ⟨⟨dq, osq⟩, hw''⟩ := hw'
  subst hw''
  have hBw4 := below_regrown w3 dq osq
  generalize grow (redrawn w3 dq) osq = w4 at *
  clear dq osq
  clear k0 k1 k2 l0 l1 l2
  have hPc := (hP1.keep (below_up hB3 hBw4)).three
  go_wp2_with (go_at_call 8; refine (HC3.out _).mono ?_; rintro e w5 ⟨rfl, hB5⟩)
  go_ret
  exact ⟨ret_bool (by simp), below_up hB03 (below_up hBw4 hB5)⟩
set_option maxRecDepth 100000 in
set_option maxHeartbeats 4000000 in
theorem pixTexts_ok (Wn Hn : Nat) (W' H' : Int) (a a2 : Option Addr) (n ca m ca2 : Nat) (px qx : Nat → Int) (w : World) (hr : Bytes w a n px) (hr2 : Bytes w a2 m qx) (hn : n ≤ 9223372036854775807) (hca : n ≤ ca) (hca2 : ca ≤ 9223372036854775807) (hcm : m ≤ ca2) (hW : 1 ≤ Wn ∧ Wn ≤ 64 ∧ 1 ≤ Hn ∧ Hn ≤ 64) (hnn : n = 3 * (Hn * Wn)) (hpx : ∀ i, 0 ≤ px i ∧ px i ≤ 255) (he : Im.err (Wn : Int) (Hn : Int) n = 0) (htab : Tx.Tab w) :
    Calls Tryd.prog 3 #[.agg #[.int .i64 (Wn : Int), .int .i64 (Hn : Int), .slice a n ca], .agg #[.int .i64 W', .int .i64 H', .slice a2 m ca2]] w fun e w' => e = .returned (.bool true) ∧ Below w.heap.size w w' := by
  have HTX : ∀ V, Below w.heap.size w V → Calls Tryd.prog 6 #[.agg #[.int .i64 (Wn : Int), .int .i64 (Hn : Int), .slice a n ca]] V fun e w' => e = .returned (.tuple #[.string (Tx.mk (Pt.text Wn Hn px)), .int .i64 0]) ∧ Below V.heap.size V w' := by
    intro V hV
    have hr' := hr.keep hV
    subst hnn
    exact text_ok Wn Hn a ca px V hW hr' hpx hca hca2 (Tx.tab_below htab hV)
  have HIT : Hid (∀ V, Below w.heap.size w V → Calls Tryd.prog 11 #[.agg #[.int .i64 (Wn : Int), .int .i64 (Hn : Int), .slice a n ca]] V fun e w' => e = .returned (.string (Tx.mk (Pt.text Wn Hn px))) ∧ Below V.heap.size V w') := by
    intro V hV
    have hr' := hr.keep hV
    subst hnn
    exact imageText_is Wn Hn a ca px V hW hr' hpx hca hca2
  generalize hWi : (Wn : Int) = W at *
  generalize hHi : (Hn : Int) = H at *
  generalize Tx.mk (Pt.text Wn Hn px) = S at *
  clear hWi hHi hnn hW htab
  -- : the ways behind the first region
  obtain ⟨W1, hW1, hP1, hz1, hb1⟩ := box w #[.int .i64 W, .int .i64 H, .slice a n ca] 24
  obtain ⟨W2, hW2, hP2, hz2, hb2⟩ := box W1 #[.int .i64 W', .int .i64 H', .slice a2 m ca2] 24
  have hP1 := hP1.keep hb2
  rw [hz1] at hP2
  have HB := Lib.hid (below_up hb1 hb2)
  have HW1 := Lib.hid hW1; have HW2 := Lib.hid hW2
  obtain ⟨x0, x1, x2⟩ := hP1.three
  have HT := Lib.hid (HTX W2 HB.out)
  have HRA := Lib.hid hr
  have HRB := Lib.hid hr2
  clear hW1 hW2 hb1 hb2 hz1 hz2 hr hr2 HTX
  go_enter Tryd.func3, Tryd.ntmps3
  go_wp2_with fail
  rw [HW1.out, HW2.out]
  go_wp2_with (go_at_call 6; refine HT.out.mono ?_; rintro e w3 ⟨rfl, hB3⟩)
  have hB03 := below_up HB.out hB3
  have HC1 := Lib.hid (fun d os => Calls.regrown_of (check_is W H a n ca (grow (redrawn w3 d) os) hn))
  have HC2 := Lib.hid (fun d os => Calls.regrown_of (imageError_is W H a n ca (grow (redrawn w3 d) os) hn))
  have HS1 := Lib.hid (fun d os => Calls.regrown_of (same_anyB W H W' H' a a2 n m ca ca2 px qx (grow (redrawn w3 d) os) (HRA.out.keep (below_up hB03 (below_regrown w3 d os))) (HRB.out.keep (below_up hB03 (below_regrown w3 d os))) hn hca hcm))
  have HS2 := Lib.hid (fun d os => Calls.regrown_of (sameImage_anyB W H W' H' a a2 n m ca ca2 px qx (grow (redrawn w3 d) os) (HRA.out.keep (below_up hB03 (below_regrown w3 d os))) (HRB.out.keep (below_up hB03 (below_regrown w3 d os))) hn hca hcm))
  have HS3 := Lib.hid (fun d os => Calls.regrown_of (same_anyB W H W H a a n n ca ca px px (grow (redrawn w3 d) os) (HRA.out.keep (below_up hB03 (below_regrown w3 d os))) (HRA.out.keep (below_up hB03 (below_regrown w3 d os))) hn hca hca))
  have HC3 := Lib.hid (fun V => imageError_is W H a n ca V hn)
  rw [show Im.eqB W H n px W H n px = true from by simp [Im.eqB]] at HS3
  generalize Im.eqB W H n px W' H' m qx = r at *
  have hrr : (r != r) = false := by simp
  obtain ⟨x0, x1, x2⟩ := (hP1.keep hB3).three
  obtain ⟨y0, y1, y2⟩ := (hP2.keep hB3).three
  have k0 := cell_regrown x0
  have k1 := cell_regrown x1
  have k2 := cell_regrown x2
  have l0 := cell_regrown y0
  have l1 := cell_regrown y1
  have l2 := cell_regrown y2
  rw [he] at HC1 HC2 HC3
  clear he
  refine wp_region_quiet_below (by kernel_rfl) (by kernel_rfl) ?_
  repeat (go_big_quiet_step ((first | (go_at_call 7; exact HC1.out _ _) | (go_at_call 8; exact HC2.out _ _) | (go_at_call 9; first | with_reducible exact HS1.out _ _ | with_reducible exact HS3.out _ _) | (go_at_call 10; with_reducible exact HS2.out _ _))))
  refine wpQuiet_nil ?_
  intro _ hw'
  obtain ⟨⟨dq, osq⟩, hw''⟩ := hw'
  subst hw''
  have hBw4 := below_regrown w3 dq osq
  generalize grow (redrawn w3 dq) osq = w4 at *
  clear dq osq
  clear k0 k1 k2 l0 l1 l2
  have hPc := (hP1.keep (below_up hB3 hBw4)).three
  go_wp2_with (first | (go_at_call 8; refine (HC3.out _).mono ?_; rintro e w5 ⟨rfl, hB5⟩; have hB45 := below_up (below_up hB3 hBw4) hB5; have hPc := (hP1.keep hB45).three) | (go_at_call 11; refine (HIT.out _ (below_up HB.out hB45)).mono ?_; rintro e w6 ⟨rfl, hB6⟩))
  go_ret
  exact ⟨ret_bool (by simp), below_up HB.out (below_up hB45 hB6)⟩
/-- The law: for every two images it returns true. -/
theorem pixTexts_walk (W H : Int) (a : Option Addr) (n ca : Nat) (px : Nat → Int) (W' H' : Int) (a2 : Option Addr) (m ca2 : Nat) (qx : Nat → Int) (w : World) (hr : Row w a n (fun i => .int .u8 (px i))) (hn : n ≤ 9223372036854775807) (hca : n ≤ ca) (hca2 : ca ≤ 9223372036854775807) (hz : ∀ i, (Lit.int .u8 (px i)).wf = true) (hr2 : Row w a2 m (fun i => .int .u8 (qx i))) (hcm : m ≤ ca2) (htab : Tx.Tab w) :
    Calls Tryd.prog 3 #[.agg #[.int .i64 W, .int .i64 H, .slice a n ca], .agg #[.int .i64 W', .int .i64 H', .slice a2 m ca2]] w fun e w' => e = .returned (.bool true) ∧ Below w.heap.size w w' := by
  by_cases he : Im.err W H n = 0
  · have hW : (1 ≤ W ∧ W ≤ 64 ∧ 1 ≤ H ∧ H ≤ 64) ∧ (n : Int) = 3 * W * H := by
      unfold Im.err at he
      split at he
      · omega
      · split at he
        · exact ⟨by omega, by assumption⟩
        · omega
    obtain ⟨Wn, rfl⟩ := Int.eq_ofNat_of_zero_le (show 0 ≤ W by omega)
    obtain ⟨Hn, rfl⟩ := Int.eq_ofNat_of_zero_le (show 0 ≤ H by omega)
    have hnn : n = 3 * (Hn * Wn) := by
      have := hW.2
      rw [Int.mul_assoc, Int.mul_comm (Wn : Int)] at this
      exact_mod_cast this
    exact pixTexts_ok Wn Hn W' H' a a2 n ca m ca2 px qx w hr hr2 hn hca hca2 hcm (by omega) hnn (fun i => u8_bounds (hz i)) he htab
  · exact pixTexts_err W H W' H' a a2 n ca m ca2 px qx w hr hr2 hn hca hcm _ rfl he
end Go.Proofs.YtpgjpnnjlilokaaDoor
