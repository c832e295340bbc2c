/- condBare, by classes of operations: J. -/
import Derived.Test.YtbbedepojogfmaaCndOp
import Derived.Test.YtbbedepojogfmaaFdStr3
import Derived.Test.YtbbedepojogfmaaFdLow
import Derived.Test.YtbbedepojogfmaaEvents0
namespace Go.Proofs.Ytbbedepojogfmaa
open Go.RowKit Go.Sort Go.Shelf
set_option linter.unusedVariables false
set_option maxRecDepth 100000 in
set_option maxHeartbeats 8000000 in
theorem condBare_J (op : Int) (ka : Option Addr) (kn kc : Nat) (text : ByteArray) (low high : Int) (aa : Option Addr) (an ac : Nat) (lat lon : Nat → Int) (w : World) (hkn : kn ≤ 9223372036854775807) (han : an ≤ 9223372036854775807) (hts : text.size ≤ 9223372036854775807) (hrow : Row2 w aa an (fun i => .int .i64 (lat i)) (fun i => .int .i64 (lon i))) (q : Int) (hq : Cnd.bareE op kn text low high an lat lon = q) (hop : op = 15) : Calls Try.prog 135 #[.agg #[.int .i64 op, .slice ka kn kc, .string text, .int .i64 low, .int .i64 high, .slice aa an ac]] w fun e w' => e = .returned (.int .i64 q) ∧ Below w.heap.size w w' := by
  have H16 : Hid (1 ≤ op ∧ op ≤ 16) := Lib.hid (by omega)
  have HFL : Cnd.fLow op = false := by subst hop <;> rfl
  have HFH : Cnd.fHigh op = false := by subst hop <;> rfl
  have HTE : Hid (Cnd.textE op text = 0) := by subst hop <;> exact Lib.hid (by simp [Cnd.textE])
  have HFL := Lib.hid HFL; have HFH := Lib.hid HFH
  have HOP := Lib.hid hop; clear hop
  -- a condition's box: W1, its 6 cells
  obtain ⟨W1, hW1, hP, hz1, hB1⟩ := box w #[.int .i64 op, .slice ka kn kc, .string text, .int .i64 low, .int .i64 high, .slice aa an ac] 103
  have HW1 := Lib.hid hW1
  clear hW1 hz1
  obtain ⟨q0, q1, q2, q3, q4, q5⟩ := hP.six
  obtain rfl : op = 15 := HOP.out
  have HROW := Lib.hid (hrow.keep hB1); have HQ := Lib.hid hq; clear hrow hq
  by_cases g0 : kn = 0
  · have G0 := Lib.hid g0
    have k1 : ¬ (0 : Int) < (kn : Int) := by omega
    subst g0
    by_cases g1 : an = 2
    · have G1 := Lib.hid g1
      have a1 : ((an : Int) != 2) = false := by simp; omega
      clear g1
      cases ht : text.toList.isEmpty
      · have HT := Lib.hid ht
        obtain rfl : q = 1 := by rw [← HQ.out]; exact Cnd.bareE_form H16.out (Cnd.formB_text_J _ _ _ _ _ _ HOP.out HT.out)
        go_enter Try.func135, Try.ntmps135
        go_wp2_with fail
        rw [HW1.out]
        go_wp2_with fail
        go_ret
        exact ⟨rfl, hB1⟩
      · have HT := Lib.hid ht
        by_cases g3 : low = 0
        · have G3 := Lib.hid g3
          have l1 : (low != 0) = false := by simp; omega
          clear g3
          by_cases g4 : high = 0
          · have G4 := Lib.hid g4
            have h1 : (high != 0) = false := by simp; omega
            clear g4
            have HFB : Hid (Cnd.formB 15 0 an text low high = true) := Lib.hid (Cnd.formB_J _ _ _ _ _ _ HOP.out G0.out G1.out HT.out G3.out G4.out)
            obtain ⟨b1, off, rfl, hb1, hcell⟩ := HROW.out (by have := G1.out; omega)
            have HC := Lib.hid hcell
            obtain ⟨c0, c1⟩ := hcell 0 (by have := G1.out; omega)
            obtain ⟨d0, d1⟩ := hcell 1 (by have := G1.out; omega)
            rw [Nat.zero_mul, Nat.add_zero] at c0 c1
            rw [Nat.one_mul] at d0 d1
            clear hcell
            have e0 := c0
            have e1 := c1
            rw [← HW1.out] at e0 e1
            have hn0 : (0 : Int) < (an : Int) := by have := G1.out; omega
            have hn1 : (1 : Int) < (an : Int) := by have := G1.out; omega
            cases hp0 : Fd.placeB (lat 0) (lon 0)
            · have HP0 := Lib.hid hp0; clear hp0
              obtain rfl : q = 2 := by rw [← HQ.out]; exact Cnd.bareE_num H16.out HFB.out HTE.out (Cnd.numE_place 0 (by have := G1.out; omega) HP0.out)
              go_enter Try.func135, Try.ntmps135
              go_wp2_with fail
              rw [HW1.out]
              go_wp2_with (first | (go_at_call 66; (with_reducible refine (placed_is (lat 0) (lon 0) _ false HP0.out).mono ?_); rintro e w5 ⟨rfl, hB5⟩; clear c0 c1 d0 d1 q0 q1 q2 q3 q4 q5; have hK := HROW.out.keep hB5; obtain ⟨b2, off2, e2, -, hcell⟩ := hK (by have := G1.out; omega); cases e2; obtain ⟨c0, c1⟩ := hcell 0 (by have := G1.out; omega); obtain ⟨d0, d1⟩ := hcell 1 (by have := G1.out; omega); rw [Nat.zero_mul, Nat.add_zero] at c0 c1; rw [Nat.one_mul] at d0 d1; clear hcell; obtain ⟨t0, t1, t2, t3, t4, t5⟩ := (hP.keep hB5).six))
              go_ret
              exact ⟨rfl, below_up hB1 hB5⟩
            · have HP0 := Lib.hid hp0; clear hp0
              cases hp1 : Fd.placeB (lat 1) (lon 1)
              · have HP1 := Lib.hid hp1; clear hp1
                obtain rfl : q = 2 := by rw [← HQ.out]; exact Cnd.bareE_num H16.out HFB.out HTE.out (Cnd.numE_place 1 (by have := G1.out; omega) HP1.out)
                go_enter Try.func135, Try.ntmps135
                go_wp2_with fail
                rw [HW1.out]
                go_wp2_with (first | (go_at_call 66; (with_reducible refine (placed_is (lat 0) (lon 0) _ true HP0.out).mono ?_); rintro e w5 ⟨rfl, hB5⟩; clear c0 c1 d0 d1 q0 q1 q2 q3 q4 q5; have hK := HROW.out.keep hB5; obtain ⟨b2, off2, e2, -, hcell⟩ := hK (by have := G1.out; omega); cases e2; obtain ⟨c0, c1⟩ := hcell 0 (by have := G1.out; omega); obtain ⟨d0, d1⟩ := hcell 1 (by have := G1.out; omega); rw [Nat.zero_mul, Nat.add_zero] at c0 c1; rw [Nat.one_mul] at d0 d1; clear hcell; obtain ⟨t0, t1, t2, t3, t4, t5⟩ := (hP.keep hB5).six) | (go_at_call 66; (with_reducible refine (placed_is (lat 1) (lon 1) _ false HP1.out).mono ?_); rintro e w6 ⟨rfl, hB6⟩; clear c0 c1 d0 d1 t0 t1 t2 t3 t4 t5; have hB56 := below_up hB5 hB6; have hK := HROW.out.keep hB56; obtain ⟨b2, off2, e2, -, hcell⟩ := hK (by have := G1.out; omega); cases e2; obtain ⟨c0, c1⟩ := hcell 0 (by have := G1.out; omega); obtain ⟨d0, d1⟩ := hcell 1 (by have := G1.out; omega); rw [Nat.zero_mul, Nat.add_zero] at c0 c1; rw [Nat.one_mul] at d0 d1; clear hcell; obtain ⟨t0, t1, t2, t3, t4, t5⟩ := (hP.keep hB56).six))
                go_ret
                exact ⟨rfl, below_up hB1 (below_up hB5 hB6)⟩
              · have HP1 := Lib.hid hp1; clear hp1
                by_cases ho : lat 1 < lat 0
                · have HO := Lib.hid ho
                  have ho1 : decide (lat 1 < lat 0) = true := decide_eq_true ho
                  obtain rfl : q = 5 := by rw [← HQ.out]; exact Cnd.bareE_num H16.out HFB.out HTE.out (Cnd.numE_ord (fun h => by rw [HFL.out] at h; cases h) (fun h => by rw [HFH.out] at h; cases h) (fun k hk => by have := G1.out; (have : k = 0 ∨ k = 1 := by omega); rcases this with rfl | rfl; exact HP0.out; exact HP1.out) (.inr ⟨rfl, HO.out⟩))
                  go_enter Try.func135, Try.ntmps135
                  go_wp2_with fail
                  rw [HW1.out]
                  go_wp2_with (first | (go_at_call 66; (with_reducible refine (placed_is (lat 0) (lon 0) _ true HP0.out).mono ?_); rintro e w5 ⟨rfl, hB5⟩; clear c0 c1 d0 d1 q0 q1 q2 q3 q4 q5; have hK := HROW.out.keep hB5; obtain ⟨b2, off2, e2, -, hcell⟩ := hK (by have := G1.out; omega); cases e2; obtain ⟨c0, c1⟩ := hcell 0 (by have := G1.out; omega); obtain ⟨d0, d1⟩ := hcell 1 (by have := G1.out; omega); rw [Nat.zero_mul, Nat.add_zero] at c0 c1; rw [Nat.one_mul] at d0 d1; clear hcell; obtain ⟨t0, t1, t2, t3, t4, t5⟩ := (hP.keep hB5).six) | (go_at_call 66; (with_reducible refine (placed_is (lat 1) (lon 1) _ true HP1.out).mono ?_); rintro e w6 ⟨rfl, hB6⟩; clear c0 c1 d0 d1 t0 t1 t2 t3 t4 t5; have hB56 := below_up hB5 hB6; have hK := HROW.out.keep hB56; obtain ⟨b2, off2, e2, -, hcell⟩ := hK (by have := G1.out; omega); cases e2; obtain ⟨c0, c1⟩ := hcell 0 (by have := G1.out; omega); obtain ⟨d0, d1⟩ := hcell 1 (by have := G1.out; omega); rw [Nat.zero_mul, Nat.add_zero] at c0 c1; rw [Nat.one_mul] at d0 d1; clear hcell; obtain ⟨t0, t1, t2, t3, t4, t5⟩ := (hP.keep hB56).six))
                  go_quiet (fail)
                  go_wp2_with fail
                  go_ret
                  exact ⟨rfl, below_drewN (below_up hB1 (below_up hB5 hB6)) _⟩
                · have HO := Lib.hid ho
                  have ho1 : decide (lat 1 < lat 0) = false := decide_eq_false ho
                  have ho2 : (lat 1 < lat 0) = False := eq_false ho
                  clear ho
                  obtain rfl : q = 0 := by rw [← HQ.out]; exact Cnd.bareE_num H16.out HFB.out HTE.out (Cnd.numE_ok (fun h => by rw [HFL.out] at h; cases h) (fun h => by rw [HFH.out] at h; cases h) (fun k hk => by have := G1.out; (have : k = 0 ∨ k = 1 := by omega); rcases this with rfl | rfl; exact HP0.out; exact HP1.out) (by rintro (⟨h, _⟩ | ⟨_, h⟩); (rw [HFH.out] at h; cases h); (have hq := HO.out; omega)))
                  go_enter Try.func135, Try.ntmps135
                  go_wp2_with fail
                  rw [HW1.out]
                  go_wp2_with (first | (go_at_call 66; (with_reducible refine (placed_is (lat 0) (lon 0) _ true HP0.out).mono ?_); rintro e w5 ⟨rfl, hB5⟩; clear c0 c1 d0 d1 q0 q1 q2 q3 q4 q5; have hK := HROW.out.keep hB5; obtain ⟨b2, off2, e2, -, hcell⟩ := hK (by have := G1.out; omega); cases e2; obtain ⟨c0, c1⟩ := hcell 0 (by have := G1.out; omega); obtain ⟨d0, d1⟩ := hcell 1 (by have := G1.out; omega); rw [Nat.zero_mul, Nat.add_zero] at c0 c1; rw [Nat.one_mul] at d0 d1; clear hcell; obtain ⟨t0, t1, t2, t3, t4, t5⟩ := (hP.keep hB5).six) | (go_at_call 66; (with_reducible refine (placed_is (lat 1) (lon 1) _ true HP1.out).mono ?_); rintro e w6 ⟨rfl, hB6⟩; clear c0 c1 d0 d1 t0 t1 t2 t3 t4 t5; have hB56 := below_up hB5 hB6; have hK := HROW.out.keep hB56; obtain ⟨b2, off2, e2, -, hcell⟩ := hK (by have := G1.out; omega); cases e2; obtain ⟨c0, c1⟩ := hcell 0 (by have := G1.out; omega); obtain ⟨d0, d1⟩ := hcell 1 (by have := G1.out; omega); rw [Nat.zero_mul, Nat.add_zero] at c0 c1; rw [Nat.one_mul] at d0 d1; clear hcell; obtain ⟨t0, t1, t2, t3, t4, t5⟩ := (hP.keep hB56).six))
                  go_quiet (fail)
                  go_wp2_with fail
                  go_ret
                  exact ⟨rfl, below_drewN (below_up hB1 (below_up hB5 hB6)) _⟩
          · have G4 := Lib.hid g4
            have h1 : (high != 0) = true := by simp; omega
            clear g4
            obtain rfl : q = 1 := by rw [← HQ.out]; exact Cnd.bareE_form H16.out (Cnd.formB_high_J _ _ _ _ _ _ HOP.out G4.out)
            go_enter Try.func135, Try.ntmps135
            go_wp2_with fail
            rw [HW1.out]
            go_wp2_with fail
            go_ret
            exact ⟨rfl, hB1⟩
        · have G3 := Lib.hid g3
          have l1 : (low != 0) = true := by simp; omega
          clear g3
          obtain rfl : q = 1 := by rw [← HQ.out]; exact Cnd.bareE_form H16.out (Cnd.formB_low_J _ _ _ _ _ _ HOP.out G3.out)
          go_enter Try.func135, Try.ntmps135
          go_wp2_with fail
          rw [HW1.out]
          go_wp2_with fail
          go_ret
          exact ⟨rfl, hB1⟩
    · have G1 := Lib.hid g1
      have a1 : ((an : Int) != 2) = true := by simp; omega
      clear g1
      obtain rfl : q = 1 := by rw [← HQ.out]; exact Cnd.bareE_form H16.out (Cnd.formB_at_J _ _ _ _ _ _ HOP.out G1.out)
      go_enter Try.func135, Try.ntmps135
      go_wp2_with fail
      rw [HW1.out]
      go_wp2_with fail
      go_ret
      exact ⟨rfl, hB1⟩
  · have G0 := Lib.hid g0
    have k1 : (0 : Int) < (kn : Int) := by omega
    clear g0
    obtain rfl : q = 1 := by rw [← HQ.out]; exact Cnd.bareE_form H16.out (Cnd.formB_kids_J _ _ _ _ _ _ HOP.out G0.out)
    go_enter Try.func135, Try.ntmps135
    go_wp2_with fail
    rw [HW1.out]
    go_wp2_with fail
    go_ret
    exact ⟨rfl, hB1⟩
end Go.Proofs.Ytbbedepojogfmaa
