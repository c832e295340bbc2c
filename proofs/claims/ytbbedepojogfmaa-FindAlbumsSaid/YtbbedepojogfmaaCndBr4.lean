/- condBare, by classes of operations: HI. -/
import Derived.Test.YtbbedepojogfmaaCndOp
import Derived.Test.YtbbedepojogfmaaFdStr3
import Derived.Test.YtbbedepojogfmaaFdLow
import Derived.Test.YtbbedepojogfmaaEvents0
namespace Go.Proofs.Ytbbedepojogfmaa
open Go.RowKit Go.Sort Go.Shelf
set_option linter.unusedVariables false
set_option maxRecDepth 100000 in
set_option maxHeartbeats 8000000 in
theorem condBare_H (op : Int) (ka : Option Addr) (kn kc : Nat) (text : ByteArray) (low high : Int) (aa : Option Addr) (an ac : Nat) (lat lon : Nat → Int) (w : World) (hkn : kn ≤ 9223372036854775807) (han : an ≤ 9223372036854775807) (hts : text.size ≤ 9223372036854775807) (hrow : Row2 w aa an (fun i => .int .i64 (lat i)) (fun i => .int .i64 (lon i))) (q : Int) (hq : Cnd.bareE op kn text low high an lat lon = q) (hop : op = 9 ∨ op = 10 ∨ op = 11 ∨ op = 12 ∨ op = 13 ∨ op = 16) : Calls Try.prog 135 #[.agg #[.int .i64 op, .slice ka kn kc, .string text, .int .i64 low, .int .i64 high, .slice aa an ac]] w fun e w' => e = .returned (.int .i64 q) ∧ Below w.heap.size w w' := by
  have H16 : Hid (1 ≤ op ∧ op ≤ 16) := Lib.hid (by omega)
  have HFL : Cnd.fLow op = false := by rcases hop with rfl | rfl | rfl | rfl | rfl | rfl <;> rfl
  have HFH : Cnd.fHigh op = false := by rcases hop with rfl | rfl | rfl | rfl | rfl | rfl <;> rfl
  have HTE : Hid (Cnd.textE op text = 0) := by rcases hop with rfl | rfl | rfl | rfl | rfl | rfl <;> exact Lib.hid (by simp [Cnd.textE])
  have HFL := Lib.hid HFL; have HFH := Lib.hid HFH
  have op3 : (op == 3) = false := by rcases hop with rfl | rfl | rfl | rfl | rfl | rfl <;> rfl
  have op14 : (op == 14) = false := by rcases hop with rfl | rfl | rfl | rfl | rfl | rfl <;> rfl
  have op15 : (op == 15) = false := by rcases hop with rfl | rfl | rfl | rfl | rfl | rfl <;> rfl
  have op4 : (op == 4) = false := by rcases hop with rfl | rfl | rfl | rfl | rfl | rfl <;> rfl
  have op5 : (op == 5) = false := by rcases hop with rfl | rfl | rfl | rfl | rfl | rfl <;> rfl
  have op6 : (op == 6) = false := by rcases hop with rfl | rfl | rfl | rfl | rfl | rfl <;> rfl
  have op7 : (op == 7) = false := by rcases hop with rfl | rfl | rfl | rfl | rfl | rfl <;> rfl
  have op8 : (op == 8) = false := by rcases hop with rfl | rfl | rfl | rfl | rfl | rfl <;> rfl
  have opg : (4 : Int) ≤ op := by omega
  have opl : ¬ op < 1 := by omega
  have opm : ¬ (16 : Int) < op := by omega
  have HOP := Lib.hid hop; clear hop
  -- a condition's box: W1, its 6 cells
  obtain ⟨W1, hW1, hP, hz1, hB1⟩ := box w #[.int .i64 op, .slice ka kn kc, .string text, .int .i64 low, .int .i64 high, .slice aa an ac] 103
  have HW1 := Lib.hid hW1
  clear hW1 hz1
  obtain ⟨q0, q1, q2, q3, q4, q5⟩ := hP.six
  have HROW := Lib.hid (hrow.keep hB1); have HQ := Lib.hid hq; clear hrow hq
  by_cases g0 : kn = 0
  · have G0 := Lib.hid g0
    have k1 : ¬ (0 : Int) < (kn : Int) := by omega
    subst g0
    by_cases g1 : an = 0
    · have G1 := Lib.hid g1
      have a1 : ((an : Int) != 0) = false := by simp; omega
      clear g1
      cases ht : text.toList.isEmpty
      · have HT := Lib.hid ht
        obtain rfl : q = 1 := by rw [← HQ.out]; exact Cnd.bareE_form H16.out (Cnd.formB_text_H _ _ _ _ _ _ HOP.out HT.out)
        go_enter Try.func135, Try.ntmps135
        go_wp2_with fail
        rw [HW1.out]
        go_wp2_with fail
        go_ret
        exact ⟨rfl, hB1⟩
      · have HT := Lib.hid ht
        by_cases g3 : low = 0
        · have G3 := Lib.hid g3
          have l1 : (low != 0) = false := by simp; omega
          clear g3
          by_cases g4 : high = 0
          · have G4 := Lib.hid g4
            have h1 : (high != 0) = false := by simp; omega
            clear g4
            have HFB : Hid (Cnd.formB op 0 an text low high = true) := Lib.hid (Cnd.formB_H _ _ _ _ _ _ HOP.out G0.out G1.out HT.out G3.out G4.out)
            obtain rfl : q = 0 := by rw [← HQ.out]; exact Cnd.bareE_num H16.out HFB.out HTE.out (Cnd.numE_ok (fun h => by rw [HFL.out] at h; cases h) (fun h => by rw [HFH.out] at h; cases h) (fun k hk => by have := G1.out; omega) (by rintro (⟨h, _⟩ | ⟨h, _⟩); (rw [HFH.out] at h; cases h); (have h2 := op15; rw [h] at h2; cases h2)))
            go_enter Try.func135, Try.ntmps135
            go_wp2_with fail
            rw [HW1.out]
            go_wp2_with fail
            go_ret
            exact ⟨rfl, hB1⟩
          · have G4 := Lib.hid g4
            have h1 : (high != 0) = true := by simp; omega
            clear g4
            obtain rfl : q = 1 := by rw [← HQ.out]; exact Cnd.bareE_form H16.out (Cnd.formB_high_H _ _ _ _ _ _ HOP.out G4.out)
            go_enter Try.func135, Try.ntmps135
            go_wp2_with fail
            rw [HW1.out]
            go_wp2_with fail
            go_ret
            exact ⟨rfl, hB1⟩
        · have G3 := Lib.hid g3
          have l1 : (low != 0) = true := by simp; omega
          clear g3
          obtain rfl : q = 1 := by rw [← HQ.out]; exact Cnd.bareE_form H16.out (Cnd.formB_low_H _ _ _ _ _ _ HOP.out G3.out)
          go_enter Try.func135, Try.ntmps135
          go_wp2_with fail
          rw [HW1.out]
          go_wp2_with fail
          go_ret
          exact ⟨rfl, hB1⟩
    · have G1 := Lib.hid g1
      have a1 : ((an : Int) != 0) = true := by simp; omega
      clear g1
      obtain rfl : q = 1 := by rw [← HQ.out]; exact Cnd.bareE_form H16.out (Cnd.formB_at_H _ _ _ _ _ _ HOP.out G1.out)
      go_enter Try.func135, Try.ntmps135
      go_wp2_with fail
      rw [HW1.out]
      go_wp2_with fail
      go_ret
      exact ⟨rfl, hB1⟩
  · have G0 := Lib.hid g0
    have k1 : (0 : Int) < (kn : Int) := by omega
    clear g0
    obtain rfl : q = 1 := by rw [← HQ.out]; exact Cnd.bareE_form H16.out (Cnd.formB_kids_H _ _ _ _ _ _ HOP.out G0.out)
    go_enter Try.func135, Try.ntmps135
    go_wp2_with fail
    rw [HW1.out]
    go_wp2_with fail
    go_ret
    exact ⟨rfl, hB1⟩
set_option maxRecDepth 100000 in
set_option maxHeartbeats 8000000 in
theorem condBare_I (op : Int) (ka : Option Addr) (kn kc : Nat) (text : ByteArray) (low high : Int) (aa : Option Addr) (an ac : Nat) (lat lon : Nat → Int) (w : World) (hkn : kn ≤ 9223372036854775807) (han : an ≤ 9223372036854775807) (hts : text.size ≤ 9223372036854775807) (hrow : Row2 w aa an (fun i => .int .i64 (lat i)) (fun i => .int .i64 (lon i))) (q : Int) (hq : Cnd.bareE op kn text low high an lat lon = q) (hop : op = 14) : Calls Try.prog 135 #[.agg #[.int .i64 op, .slice ka kn kc, .string text, .int .i64 low, .int .i64 high, .slice aa an ac]] w fun e w' => e = .returned (.int .i64 q) ∧ Below w.heap.size w w' := by
  have H16 : Hid (1 ≤ op ∧ op ≤ 16) := Lib.hid (by omega)
  have HFL : Cnd.fLow op = true := by subst hop <;> rfl
  have HFH : Cnd.fHigh op = false := by subst hop <;> rfl
  have HTE : Hid (Cnd.textE op text = 0) := by subst hop <;> exact Lib.hid (by simp [Cnd.textE])
  have HFL := Lib.hid HFL; have HFH := Lib.hid HFH
  have HOP := Lib.hid hop; clear hop
  -- a condition's box: W1, its 6 cells
  obtain ⟨W1, hW1, hP, hz1, hB1⟩ := box w #[.int .i64 op, .slice ka kn kc, .string text, .int .i64 low, .int .i64 high, .slice aa an ac] 103
  have HW1 := Lib.hid hW1
  clear hW1 hz1
  obtain ⟨q0, q1, q2, q3, q4, q5⟩ := hP.six
  obtain rfl : op = 14 := HOP.out
  have HROW := Lib.hid (hrow.keep hB1); have HQ := Lib.hid hq; clear hrow hq
  by_cases g0 : kn = 0
  · have G0 := Lib.hid g0
    have k1 : ¬ (0 : Int) < (kn : Int) := by omega
    subst g0
    by_cases g1 : an = 1
    · have G1 := Lib.hid g1
      have a1 : ((an : Int) != 1) = false := by simp; omega
      clear g1
      cases ht : text.toList.isEmpty
      · have HT := Lib.hid ht
        obtain rfl : q = 1 := by rw [← HQ.out]; exact Cnd.bareE_form H16.out (Cnd.formB_text_I _ _ _ _ _ _ HOP.out HT.out)
        go_enter Try.func135, Try.ntmps135
        go_wp2_with fail
        rw [HW1.out]
        go_wp2_with fail
        go_ret
        exact ⟨rfl, hB1⟩
      · have HT := Lib.hid ht
        by_cases g3 : high = 0
        · have G3 := Lib.hid g3
          have h1 : (high != 0) = false := by simp; omega
          clear g3
          have HFB : Hid (Cnd.formB 14 0 an text low high = true) := Lib.hid (Cnd.formB_I _ _ _ _ _ _ HOP.out G0.out G1.out HT.out G3.out)
          cases hl : decide (0 ≤ low ∧ low ≤ 20100000)
          · have HL := Lib.hid hl; clear hl
            obtain rfl : q = 2 := by rw [← HQ.out]; exact Cnd.bareE_num H16.out HFB.out HTE.out (Cnd.numE_low HFL.out (by simp only [Cnd.inB, Cnd.least, Cnd.most]; exact HL.out))
            go_enter Try.func135, Try.ntmps135
            go_wp2_with fail
            rw [HW1.out]
            go_wp2_with (first | (go_at_call 64; (with_reducible refine (in_is low 0 20100000 false HL.out _).mono ?_); rintro e w2 ⟨rfl, rfl⟩))
            go_ret
            exact ⟨rfl, hB1⟩
          · have HL := Lib.hid hl; clear hl
            obtain ⟨b1, off, rfl, hb1, hcell⟩ := HROW.out (by have := G1.out; omega)
            obtain ⟨c0, c1⟩ := hcell 0 (by have := G1.out; omega)
            rw [Nat.zero_mul, Nat.add_zero] at c0 c1
            clear hcell
            have hn0 : (0 : Int) < (an : Int) := by have := G1.out; omega
            cases hpl : Fd.placeB (lat 0) (lon 0)
            · have HPL := Lib.hid hpl; clear hpl
              obtain rfl : q = 2 := by rw [← HQ.out]; exact Cnd.bareE_num H16.out HFB.out HTE.out (Cnd.numE_place 0 (by have := G1.out; omega) HPL.out)
              go_enter Try.func135, Try.ntmps135
              go_wp2_with fail
              rw [HW1.out]
              go_wp2_with (first | (go_at_call 64; (with_reducible refine (in_is low 0 20100000 true HL.out _).mono ?_); rintro e w2 ⟨rfl, rfl⟩) | (go_at_call 66; refine (placed_is (lat 0) (lon 0) _ false HPL.out).mono ?_; rintro e w5 ⟨rfl, hB5⟩; obtain ⟨t0, t1, t2, t3, t4, t5⟩ := (hP.keep hB5).six))
              go_ret
              exact ⟨rfl, below_up hB1 hB5⟩
            · have HPL := Lib.hid hpl; clear hpl
              obtain rfl : q = 0 := by rw [← HQ.out]; exact Cnd.bareE_num H16.out HFB.out HTE.out (Cnd.numE_ok (fun _ => (by simp only [Cnd.inB, Cnd.least, Cnd.most]; exact HL.out)) (fun h => by rw [HFH.out] at h; cases h) (fun k hk => by have h1 := G1.out; have e : k = 0 := (by omega); subst e; exact HPL.out) (by rintro (⟨h, _⟩ | ⟨h, _⟩); (rw [HFH.out] at h; cases h); cases h))
              go_enter Try.func135, Try.ntmps135
              go_wp2_with fail
              rw [HW1.out]
              go_wp2_with (first | (go_at_call 64; (with_reducible refine (in_is low 0 20100000 true HL.out _).mono ?_); rintro e w2 ⟨rfl, rfl⟩) | (go_at_call 66; refine (placed_is (lat 0) (lon 0) _ true HPL.out).mono ?_; rintro e w5 ⟨rfl, hB5⟩; obtain ⟨t0, t1, t2, t3, t4, t5⟩ := (hP.keep hB5).six))
              go_ret
              exact ⟨rfl, below_up hB1 hB5⟩
        · have G3 := Lib.hid g3
          have h1 : (high != 0) = true := by simp; omega
          clear g3
          obtain rfl : q = 1 := by rw [← HQ.out]; exact Cnd.bareE_form H16.out (Cnd.formB_high_I _ _ _ _ _ _ HOP.out G3.out)
          go_enter Try.func135, Try.ntmps135
          go_wp2_with fail
          rw [HW1.out]
          go_wp2_with fail
          go_ret
          exact ⟨rfl, hB1⟩
    · have G1 := Lib.hid g1
      have a1 : ((an : Int) != 1) = true := by simp; omega
      clear g1
      obtain rfl : q = 1 := by rw [← HQ.out]; exact Cnd.bareE_form H16.out (Cnd.formB_at_I _ _ _ _ _ _ HOP.out G1.out)
      go_enter Try.func135, Try.ntmps135
      go_wp2_with fail
      rw [HW1.out]
      go_wp2_with fail
      go_ret
      exact ⟨rfl, hB1⟩
  · have G0 := Lib.hid g0
    have k1 : (0 : Int) < (kn : Int) := by omega
    clear g0
    obtain rfl : q = 1 := by rw [← HQ.out]; exact Cnd.bareE_form H16.out (Cnd.formB_kids_I _ _ _ _ _ _ HOP.out G0.out)
    go_enter Try.func135, Try.ntmps135
    go_wp2_with fail
    rw [HW1.out]
    go_wp2_with fail
    go_ret
    exact ⟨rfl, hB1⟩
end Go.Proofs.Ytbbedepojogfmaa
