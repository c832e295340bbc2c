/- condBare, by classes of operations: FG. -/
import Derived.Test.YtbbedepojogfmaaCndOp
import Derived.Test.YtbbedepojogfmaaFdStr3
import Derived.Test.YtbbedepojogfmaaFdLow
import Derived.Test.YtbbedepojogfmaaEvents0
namespace Go.Proofs.Ytbbedepojogfmaa
open Go.RowKit Go.Sort Go.Shelf
set_option linter.unusedVariables false
set_option maxRecDepth 100000 in
set_option maxHeartbeats 8000000 in
theorem condBare_F (op : Int) (ka : Option Addr) (kn kc : Nat) (text : ByteArray) (low high : Int) (aa : Option Addr) (an ac : Nat) (lat lon : Nat → Int) (w : World) (hkn : kn ≤ 9223372036854775807) (han : an ≤ 9223372036854775807) (hts : text.size ≤ 9223372036854775807) (hrow : Row2 w aa an (fun i => .int .i64 (lat i)) (fun i => .int .i64 (lon i))) (q : Int) (hq : Cnd.bareE op kn text low high an lat lon = q) (hop : op = 7) : Calls Try.prog 135 #[.agg #[.int .i64 op, .slice ka kn kc, .string text, .int .i64 low, .int .i64 high, .slice aa an ac]] w fun e w' => e = .returned (.int .i64 q) ∧ Below w.heap.size w w' := by
  have H16 : Hid (1 ≤ op ∧ op ≤ 16) := Lib.hid (by omega)
  have HFL : Cnd.fLow op = true := by subst hop <;> rfl
  have HFH : Cnd.fHigh op = true := by subst hop <;> rfl
  have HTE : Hid (Cnd.textE op text = 0) := by subst hop <;> exact Lib.hid (by simp [Cnd.textE])
  have HFL := Lib.hid HFL; have HFH := Lib.hid HFH
  have HOP := Lib.hid hop; clear hop
  -- a condition's box: W1, its 6 cells
  obtain ⟨W1, hW1, hP, hz1, hB1⟩ := box w #[.int .i64 op, .slice ka kn kc, .string text, .int .i64 low, .int .i64 high, .slice aa an ac] 103
  have HW1 := Lib.hid hW1
  clear hW1 hz1
  obtain ⟨q0, q1, q2, q3, q4, q5⟩ := hP.six
  obtain rfl : op = 7 := HOP.out
  have HROW := Lib.hid (hrow.keep hB1); have HQ := Lib.hid hq; clear hrow hq
  by_cases g0 : kn = 0
  · have G0 := Lib.hid g0
    have k1 : ¬ (0 : Int) < (kn : Int) := by omega
    subst g0
    by_cases g1 : an = 0
    · have G1 := Lib.hid g1
      have a1 : ((an : Int) != 0) = false := by simp; omega
      clear g1
      cases ht : text.toList.isEmpty
      · have HT := Lib.hid ht
        obtain rfl : q = 1 := by rw [← HQ.out]; exact Cnd.bareE_form H16.out (Cnd.formB_text_F _ _ _ _ _ _ HOP.out HT.out)
        go_enter Try.func135, Try.ntmps135
        go_wp2_with fail
        rw [HW1.out]
        go_wp2_with fail
        go_ret
        exact ⟨rfl, hB1⟩
      · have HT := Lib.hid ht
        have HFB : Hid (Cnd.formB 7 0 an text low high = true) := Lib.hid (Cnd.formB_F _ _ _ _ _ _ HOP.out G0.out G1.out HT.out)
        cases hl : decide (0 ≤ low ∧ low ≤ 5)
        · have HL := Lib.hid hl; clear hl
          obtain rfl : q = 2 := by rw [← HQ.out]; exact Cnd.bareE_num H16.out HFB.out HTE.out (Cnd.numE_low HFL.out (by simp only [Cnd.inB, Cnd.least, Cnd.most]; exact HL.out))
          go_enter Try.func135, Try.ntmps135
          go_wp2_with fail
          rw [HW1.out]
          go_wp2_with (first | (go_at_call 64; (with_reducible refine (in_is low 0 5 false HL.out _).mono ?_); rintro e w2 ⟨rfl, rfl⟩))
          go_ret
          exact ⟨rfl, hB1⟩
        · have HL := Lib.hid hl; clear hl
          cases hh : decide (0 ≤ high ∧ high ≤ 5)
          · have HH := Lib.hid hh; clear hh
            obtain rfl : q = 2 := by rw [← HQ.out]; exact Cnd.bareE_num H16.out HFB.out HTE.out (Cnd.numE_high HFH.out (by simp only [Cnd.inB, Cnd.least, Cnd.most]; exact HH.out))
            go_enter Try.func135, Try.ntmps135
            go_wp2_with fail
            rw [HW1.out]
            go_wp2_with (first | (go_at_call 64; (with_reducible refine (in_is low 0 5 true HL.out _).mono ?_); rintro e w2 ⟨rfl, rfl⟩) | (go_at_call 64; (with_reducible refine (in_is high 0 5 false HH.out _).mono ?_); rintro e w2 ⟨rfl, rfl⟩))
            go_ret
            exact ⟨rfl, hB1⟩
          · have HH := Lib.hid hh; clear hh
            by_cases ho : high < low
            · have HO := Lib.hid ho
              obtain rfl : q = 5 := by rw [← HQ.out]; exact Cnd.bareE_num H16.out HFB.out HTE.out (Cnd.numE_ord (fun _ => (by simp only [Cnd.inB, Cnd.least, Cnd.most]; exact HL.out)) (fun _ => (by simp only [Cnd.inB, Cnd.least, Cnd.most]; exact HH.out)) (fun k hk => by have := G1.out; omega) (.inl ⟨HFH.out, HO.out⟩))
              go_enter Try.func135, Try.ntmps135
              go_wp2_with fail
              rw [HW1.out]
              go_wp2_with (first | (go_at_call 64; (with_reducible refine (in_is low 0 5 true HL.out _).mono ?_); rintro e w2 ⟨rfl, rfl⟩) | (go_at_call 64; (with_reducible refine (in_is high 0 5 true HH.out _).mono ?_); rintro e w2 ⟨rfl, rfl⟩))
              go_ret
              exact ⟨rfl, hB1⟩
            · have HO := Lib.hid ho
              obtain rfl : q = 0 := by rw [← HQ.out]; exact Cnd.bareE_num H16.out HFB.out HTE.out (Cnd.numE_ok (fun _ => (by simp only [Cnd.inB, Cnd.least, Cnd.most]; exact HL.out)) (fun _ => (by simp only [Cnd.inB, Cnd.least, Cnd.most]; exact HH.out)) (fun k hk => by have := G1.out; omega) (by have hq := HO.out; rintro (⟨_, h⟩ | ⟨h, _⟩); omega; cases h))
              go_enter Try.func135, Try.ntmps135
              go_wp2_with fail
              rw [HW1.out]
              go_wp2_with (first | (go_at_call 64; (with_reducible refine (in_is low 0 5 true HL.out _).mono ?_); rintro e w2 ⟨rfl, rfl⟩) | (go_at_call 64; (with_reducible refine (in_is high 0 5 true HH.out _).mono ?_); rintro e w2 ⟨rfl, rfl⟩))
              go_ret
              exact ⟨rfl, hB1⟩
    · have G1 := Lib.hid g1
      have a1 : ((an : Int) != 0) = true := by simp; omega
      clear g1
      obtain rfl : q = 1 := by rw [← HQ.out]; exact Cnd.bareE_form H16.out (Cnd.formB_at_F _ _ _ _ _ _ HOP.out G1.out)
      go_enter Try.func135, Try.ntmps135
      go_wp2_with fail
      rw [HW1.out]
      go_wp2_with fail
      go_ret
      exact ⟨rfl, hB1⟩
  · have G0 := Lib.hid g0
    have k1 : (0 : Int) < (kn : Int) := by omega
    clear g0
    obtain rfl : q = 1 := by rw [← HQ.out]; exact Cnd.bareE_form H16.out (Cnd.formB_kids_F _ _ _ _ _ _ HOP.out G0.out)
    go_enter Try.func135, Try.ntmps135
    go_wp2_with fail
    rw [HW1.out]
    go_wp2_with fail
    go_ret
    exact ⟨rfl, hB1⟩
set_option maxRecDepth 100000 in
set_option maxHeartbeats 8000000 in
theorem condBare_G (op : Int) (ka : Option Addr) (kn kc : Nat) (text : ByteArray) (low high : Int) (aa : Option Addr) (an ac : Nat) (lat lon : Nat → Int) (w : World) (hkn : kn ≤ 9223372036854775807) (han : an ≤ 9223372036854775807) (hts : text.size ≤ 9223372036854775807) (hrow : Row2 w aa an (fun i => .int .i64 (lat i)) (fun i => .int .i64 (lon i))) (q : Int) (hq : Cnd.bareE op kn text low high an lat lon = q) (hop : op = 8) : Calls Try.prog 135 #[.agg #[.int .i64 op, .slice ka kn kc, .string text, .int .i64 low, .int .i64 high, .slice aa an ac]] w fun e w' => e = .returned (.int .i64 q) ∧ Below w.heap.size w w' := by
  have H16 : Hid (1 ≤ op ∧ op ≤ 16) := Lib.hid (by omega)
  have HFL : Cnd.fLow op = true := by subst hop <;> rfl
  have HFH : Cnd.fHigh op = true := by subst hop <;> rfl
  have HTE : Hid (Cnd.textE op text = 0) := by subst hop <;> exact Lib.hid (by simp [Cnd.textE])
  have HFL := Lib.hid HFL; have HFH := Lib.hid HFH
  have HOP := Lib.hid hop; clear hop
  -- a condition's box: W1, its 6 cells
  obtain ⟨W1, hW1, hP, hz1, hB1⟩ := box w #[.int .i64 op, .slice ka kn kc, .string text, .int .i64 low, .int .i64 high, .slice aa an ac] 103
  have HW1 := Lib.hid hW1
  clear hW1 hz1
  obtain ⟨q0, q1, q2, q3, q4, q5⟩ := hP.six
  obtain rfl : op = 8 := HOP.out
  have HROW := Lib.hid (hrow.keep hB1); have HQ := Lib.hid hq; clear hrow hq
  by_cases g0 : kn = 0
  · have G0 := Lib.hid g0
    have k1 : ¬ (0 : Int) < (kn : Int) := by omega
    subst g0
    by_cases g1 : an = 0
    · have G1 := Lib.hid g1
      have a1 : ((an : Int) != 0) = false := by simp; omega
      clear g1
      cases ht : text.toList.isEmpty
      · have HT := Lib.hid ht
        obtain rfl : q = 1 := by rw [← HQ.out]; exact Cnd.bareE_form H16.out (Cnd.formB_text_G _ _ _ _ _ _ HOP.out HT.out)
        go_enter Try.func135, Try.ntmps135
        go_wp2_with fail
        rw [HW1.out]
        go_wp2_with fail
        go_ret
        exact ⟨rfl, hB1⟩
      · have HT := Lib.hid ht
        have HFB : Hid (Cnd.formB 8 0 an text low high = true) := Lib.hid (Cnd.formB_G _ _ _ _ _ _ HOP.out G0.out G1.out HT.out)
        cases hl : Ev.mom low
        · have HL := Lib.hid hl; clear hl
          obtain rfl : q = 2 := by rw [← HQ.out]; exact Cnd.bareE_num H16.out HFB.out HTE.out (Cnd.numE_low HFL.out (by have h := HL.out; simp only [Cnd.inB, Cnd.least, Cnd.most]; first | exact decide_eq_true ((Ev.mom_iff _).1 h) | (apply decide_eq_false; have h2 := (Ev.mom_no _).1 h; omega)))
          go_enter Try.func135, Try.ntmps135
          go_wp2_with fail
          rw [HW1.out]
          go_wp2_with (first | (go_at_call 51; (with_reducible refine (moment_is low false HL.out _).mono ?_); rintro e w2 ⟨rfl, rfl⟩))
          go_ret
          exact ⟨rfl, hB1⟩
        · have HL := Lib.hid hl; clear hl
          cases hh : Ev.mom high
          · have HH := Lib.hid hh; clear hh
            obtain rfl : q = 2 := by rw [← HQ.out]; exact Cnd.bareE_num H16.out HFB.out HTE.out (Cnd.numE_high HFH.out (by have h := HH.out; simp only [Cnd.inB, Cnd.least, Cnd.most]; first | exact decide_eq_true ((Ev.mom_iff _).1 h) | (apply decide_eq_false; have h2 := (Ev.mom_no _).1 h; omega)))
            go_enter Try.func135, Try.ntmps135
            go_wp2_with fail
            rw [HW1.out]
            go_wp2_with (first | (go_at_call 51; (with_reducible refine (moment_is low true HL.out _).mono ?_); rintro e w2 ⟨rfl, rfl⟩) | (go_at_call 51; (with_reducible refine (moment_is high false HH.out _).mono ?_); rintro e w2 ⟨rfl, rfl⟩))
            go_ret
            exact ⟨rfl, hB1⟩
          · have HH := Lib.hid hh; clear hh
            by_cases ho : high < low
            · have HO := Lib.hid ho
              obtain rfl : q = 5 := by rw [← HQ.out]; exact Cnd.bareE_num H16.out HFB.out HTE.out (Cnd.numE_ord (fun _ => (by have h := HL.out; simp only [Cnd.inB, Cnd.least, Cnd.most]; first | exact decide_eq_true ((Ev.mom_iff _).1 h) | (apply decide_eq_false; have h2 := (Ev.mom_no _).1 h; omega))) (fun _ => (by have h := HH.out; simp only [Cnd.inB, Cnd.least, Cnd.most]; first | exact decide_eq_true ((Ev.mom_iff _).1 h) | (apply decide_eq_false; have h2 := (Ev.mom_no _).1 h; omega))) (fun k hk => by have := G1.out; omega) (.inl ⟨HFH.out, HO.out⟩))
              go_enter Try.func135, Try.ntmps135
              go_wp2_with fail
              rw [HW1.out]
              go_wp2_with (first | (go_at_call 51; (with_reducible refine (moment_is low true HL.out _).mono ?_); rintro e w2 ⟨rfl, rfl⟩) | (go_at_call 51; (with_reducible refine (moment_is high true HH.out _).mono ?_); rintro e w2 ⟨rfl, rfl⟩))
              go_ret
              exact ⟨rfl, hB1⟩
            · have HO := Lib.hid ho
              obtain rfl : q = 0 := by rw [← HQ.out]; exact Cnd.bareE_num H16.out HFB.out HTE.out (Cnd.numE_ok (fun _ => (by have h := HL.out; simp only [Cnd.inB, Cnd.least, Cnd.most]; first | exact decide_eq_true ((Ev.mom_iff _).1 h) | (apply decide_eq_false; have h2 := (Ev.mom_no _).1 h; omega))) (fun _ => (by have h := HH.out; simp only [Cnd.inB, Cnd.least, Cnd.most]; first | exact decide_eq_true ((Ev.mom_iff _).1 h) | (apply decide_eq_false; have h2 := (Ev.mom_no _).1 h; omega))) (fun k hk => by have := G1.out; omega) (by have hq := HO.out; rintro (⟨_, h⟩ | ⟨h, _⟩); omega; cases h))
              go_enter Try.func135, Try.ntmps135
              go_wp2_with fail
              rw [HW1.out]
              go_wp2_with (first | (go_at_call 51; (with_reducible refine (moment_is low true HL.out _).mono ?_); rintro e w2 ⟨rfl, rfl⟩) | (go_at_call 51; (with_reducible refine (moment_is high true HH.out _).mono ?_); rintro e w2 ⟨rfl, rfl⟩))
              go_ret
              exact ⟨rfl, hB1⟩
    · have G1 := Lib.hid g1
      have a1 : ((an : Int) != 0) = true := by simp; omega
      clear g1
      obtain rfl : q = 1 := by rw [← HQ.out]; exact Cnd.bareE_form H16.out (Cnd.formB_at_G _ _ _ _ _ _ HOP.out G1.out)
      go_enter Try.func135, Try.ntmps135
      go_wp2_with fail
      rw [HW1.out]
      go_wp2_with fail
      go_ret
      exact ⟨rfl, hB1⟩
  · have G0 := Lib.hid g0
    have k1 : (0 : Int) < (kn : Int) := by omega
    clear g0
    obtain rfl : q = 1 := by rw [← HQ.out]; exact Cnd.bareE_form H16.out (Cnd.formB_kids_G _ _ _ _ _ _ HOP.out G0.out)
    go_enter Try.func135, Try.ntmps135
    go_wp2_with fail
    rw [HW1.out]
    go_wp2_with fail
    go_ret
    exact ⟨rfl, hB1⟩
end Go.Proofs.Ytbbedepojogfmaa
