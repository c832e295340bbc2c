/- condBare, by classes of operations: DE. -/
import Derived.Test.YtbbedepojogfmaaCndOp
import Derived.Test.YtbbedepojogfmaaFdStr3
import Derived.Test.YtbbedepojogfmaaFdLow
import Derived.Test.YtbbedepojogfmaaEvents0
namespace Go.Proofs.Ytbbedepojogfmaa
open Go.RowKit Go.Sort Go.Shelf
set_option linter.unusedVariables false
set_option maxRecDepth 100000 in
set_option maxHeartbeats 8000000 in
theorem condBare_D (op : Int) (ka : Option Addr) (kn kc : Nat) (text : ByteArray) (low high : Int) (aa : Option Addr) (an ac : Nat) (lat lon : Nat → Int) (w : World) (hkn : kn ≤ 9223372036854775807) (han : an ≤ 9223372036854775807) (hts : text.size ≤ 9223372036854775807) (hrow : Row2 w aa an (fun i => .int .i64 (lat i)) (fun i => .int .i64 (lon i))) (q : Int) (hq : Cnd.bareE op kn text low high an lat lon = q) (hop : op = 5) : Calls Try.prog 135 #[.agg #[.int .i64 op, .slice ka kn kc, .string text, .int .i64 low, .int .i64 high, .slice aa an ac]] w fun e w' => e = .returned (.int .i64 q) ∧ Below w.heap.size w w' := by
  have H16 : Hid (1 ≤ op ∧ op ≤ 16) := Lib.hid (by omega)
  have HFL : Cnd.fLow op = false := by subst hop <;> rfl
  have HFH : Cnd.fHigh op = false := by subst hop <;> rfl
  have HFL := Lib.hid HFL; have HFH := Lib.hid HFH
  have HOP := Lib.hid hop; clear hop
  -- a condition's box: W1, its 6 cells
  obtain ⟨W1, hW1, hP, hz1, hB1⟩ := box w #[.int .i64 op, .slice ka kn kc, .string text, .int .i64 low, .int .i64 high, .slice aa an ac] 103
  have HW1 := Lib.hid hW1
  clear hW1 hz1
  obtain ⟨q0, q1, q2, q3, q4, q5⟩ := hP.six
  obtain rfl : op = 5 := HOP.out
  have HROW := Lib.hid (hrow.keep hB1); have HQ := Lib.hid hq; clear hrow hq
  by_cases g0 : kn = 0
  · have G0 := Lib.hid g0
    have k1 : ¬ (0 : Int) < (kn : Int) := by omega
    subst g0
    by_cases g1 : an = 0
    · have G1 := Lib.hid g1
      have a1 : ((an : Int) != 0) = false := by simp; omega
      clear g1
      by_cases g2 : low = 0
      · have G2 := Lib.hid g2
        have l1 : (low != 0) = false := by simp; omega
        clear g2
        by_cases g3 : high = 0
        · have G3 := Lib.hid g3
          have h1 : (high != 0) = false := by simp; omega
          clear g3
          have HFB : Hid (Cnd.formB 5 0 an text low high = true) := Lib.hid (Cnd.formB_D _ _ _ _ _ _ HOP.out G0.out G1.out G2.out G3.out)
          cases he : text.toList.isEmpty
          · have hz := Fd.size_of_full he
            by_cases hs : 200 < text.size
            · have HS := Lib.hid hs
              have hs' : (200 : Int) < (text.size : Int) := by omega
              obtain rfl : q = 4 := by rw [← HQ.out]; exact Cnd.bareE_text H16.out HFB.out (by simp only [Cnd.textE]; rw [if_neg (by decide), if_pos (by decide), if_neg (by have := HS.out; omega)]) (by decide)
              go_enter Try.func135, Try.ntmps135
              go_wp2_with fail
              rw [HW1.out]
              go_wp2_with fail
              go_ret
              exact ⟨rfl, hB1⟩
            · have HS := Lib.hid hs
              have hs' : ¬ (200 : Int) < (text.size : Int) := by omega
              have HZ := Lib.hid hz
              cases hp : Fd.plainB text
              · have HP2 := Lib.hid hp; clear hp
                obtain rfl : q = 9 := by rw [← HQ.out]; exact Cnd.bareE_text H16.out HFB.out (by simp only [Cnd.textE]; rw [if_neg (by decide), if_pos (by decide), if_pos ⟨HZ.out, by have := HS.out; omega⟩, HP2.out]; rfl) (by decide)
                go_enter Try.func135, Try.ntmps135
                go_wp2_with fail
                rw [HW1.out]
                go_wp2_with (first | (go_at_call 68; (with_reducible refine (plain_is text hts false HP2.out _).mono ?_); rintro e w2 ⟨rfl, rfl⟩))
                go_ret
                exact ⟨rfl, hB1⟩
              · have HP2 := Lib.hid hp; clear hp
                obtain rfl : q = 0 := by rw [← HQ.out]; exact Cnd.bareE_num H16.out HFB.out (by simp only [Cnd.textE]; rw [if_neg (by decide), if_pos (by decide), if_pos ⟨HZ.out, by have := HS.out; omega⟩, HP2.out]; rfl) (Cnd.numE_ok (fun h => by rw [HFL.out] at h; cases h) (fun h => by rw [HFH.out] at h; cases h) (fun k hk => by have := G1.out; omega) (by rintro (⟨h, _⟩ | ⟨h, _⟩); (rw [HFH.out] at h; cases h); cases h))
                go_enter Try.func135, Try.ntmps135
                go_wp2_with fail
                rw [HW1.out]
                go_wp2_with (first | (go_at_call 68; (with_reducible refine (plain_is text hts true HP2.out _).mono ?_); rintro e w2 ⟨rfl, rfl⟩))
                go_ret
                exact ⟨rfl, hB1⟩
          · have HZ := Lib.hid (Fd.size_of_empty he)
            obtain rfl : q = 4 := by rw [← HQ.out]; exact Cnd.bareE_text H16.out HFB.out (by simp only [Cnd.textE]; rw [if_neg (by decide), if_pos (by decide), if_neg (by have := HZ.out; omega)]) (by decide)
            go_enter Try.func135, Try.ntmps135
            go_wp2_with fail
            rw [HW1.out]
            go_wp2_with fail
            go_ret
            exact ⟨rfl, hB1⟩
        · have G3 := Lib.hid g3
          have h1 : (high != 0) = true := by simp; omega
          clear g3
          obtain rfl : q = 1 := by rw [← HQ.out]; exact Cnd.bareE_form H16.out (Cnd.formB_high_D _ _ _ _ _ _ HOP.out G3.out)
          go_enter Try.func135, Try.ntmps135
          go_wp2_with fail
          rw [HW1.out]
          go_wp2_with fail
          go_ret
          exact ⟨rfl, hB1⟩
      · have G2 := Lib.hid g2
        have l1 : (low != 0) = true := by simp; omega
        clear g2
        obtain rfl : q = 1 := by rw [← HQ.out]; exact Cnd.bareE_form H16.out (Cnd.formB_low_D _ _ _ _ _ _ HOP.out G2.out)
        go_enter Try.func135, Try.ntmps135
        go_wp2_with fail
        rw [HW1.out]
        go_wp2_with fail
        go_ret
        exact ⟨rfl, hB1⟩
    · have G1 := Lib.hid g1
      have a1 : ((an : Int) != 0) = true := by simp; omega
      clear g1
      obtain rfl : q = 1 := by rw [← HQ.out]; exact Cnd.bareE_form H16.out (Cnd.formB_at_D _ _ _ _ _ _ HOP.out G1.out)
      go_enter Try.func135, Try.ntmps135
      go_wp2_with fail
      rw [HW1.out]
      go_wp2_with fail
      go_ret
      exact ⟨rfl, hB1⟩
  · have G0 := Lib.hid g0
    have k1 : (0 : Int) < (kn : Int) := by omega
    clear g0
    obtain rfl : q = 1 := by rw [← HQ.out]; exact Cnd.bareE_form H16.out (Cnd.formB_kids_D _ _ _ _ _ _ HOP.out G0.out)
    go_enter Try.func135, Try.ntmps135
    go_wp2_with fail
    rw [HW1.out]
    go_wp2_with fail
    go_ret
    exact ⟨rfl, hB1⟩
set_option maxRecDepth 100000 in
set_option maxHeartbeats 8000000 in
theorem condBare_E (op : Int) (ka : Option Addr) (kn kc : Nat) (text : ByteArray) (low high : Int) (aa : Option Addr) (an ac : Nat) (lat lon : Nat → Int) (w : World) (hkn : kn ≤ 9223372036854775807) (han : an ≤ 9223372036854775807) (hts : text.size ≤ 9223372036854775807) (hrow : Row2 w aa an (fun i => .int .i64 (lat i)) (fun i => .int .i64 (lon i))) (q : Int) (hq : Cnd.bareE op kn text low high an lat lon = q) (hop : op = 6) : Calls Try.prog 135 #[.agg #[.int .i64 op, .slice ka kn kc, .string text, .int .i64 low, .int .i64 high, .slice aa an ac]] w fun e w' => e = .returned (.int .i64 q) ∧ Below w.heap.size w w' := by
  have H16 : Hid (1 ≤ op ∧ op ≤ 16) := Lib.hid (by omega)
  have HFL : Cnd.fLow op = true := by subst hop <;> rfl
  have HFH : Cnd.fHigh op = false := by subst hop <;> rfl
  have HTE : Hid (Cnd.textE op text = 0) := by subst hop <;> exact Lib.hid (by simp [Cnd.textE])
  have HFL := Lib.hid HFL; have HFH := Lib.hid HFH
  have HOP := Lib.hid hop; clear hop
  -- a condition's box: W1, its 6 cells
  obtain ⟨W1, hW1, hP, hz1, hB1⟩ := box w #[.int .i64 op, .slice ka kn kc, .string text, .int .i64 low, .int .i64 high, .slice aa an ac] 103
  have HW1 := Lib.hid hW1
  clear hW1 hz1
  obtain ⟨q0, q1, q2, q3, q4, q5⟩ := hP.six
  obtain rfl : op = 6 := HOP.out
  have HROW := Lib.hid (hrow.keep hB1); have HQ := Lib.hid hq; clear hrow hq
  by_cases g0 : kn = 0
  · have G0 := Lib.hid g0
    have k1 : ¬ (0 : Int) < (kn : Int) := by omega
    subst g0
    by_cases g1 : an = 0
    · have G1 := Lib.hid g1
      have a1 : ((an : Int) != 0) = false := by simp; omega
      clear g1
      cases ht : text.toList.isEmpty
      · have HT := Lib.hid ht
        obtain rfl : q = 1 := by rw [← HQ.out]; exact Cnd.bareE_form H16.out (Cnd.formB_text_E _ _ _ _ _ _ HOP.out HT.out)
        go_enter Try.func135, Try.ntmps135
        go_wp2_with fail
        rw [HW1.out]
        go_wp2_with fail
        go_ret
        exact ⟨rfl, hB1⟩
      · have HT := Lib.hid ht
        by_cases g3 : high = 0
        · have G3 := Lib.hid g3
          have h1 : (high != 0) = false := by simp; omega
          clear g3
          have HFB : Hid (Cnd.formB 6 0 an text low high = true) := Lib.hid (Cnd.formB_E _ _ _ _ _ _ HOP.out G0.out G1.out HT.out G3.out)
          cases hl : decide (1 ≤ low ∧ low ≤ 1000000)
          · have HL := Lib.hid hl; clear hl
            obtain rfl : q = 2 := by rw [← HQ.out]; exact Cnd.bareE_num H16.out HFB.out HTE.out (Cnd.numE_low HFL.out (by simp only [Cnd.inB, Cnd.least, Cnd.most]; exact HL.out))
            go_enter Try.func135, Try.ntmps135
            go_wp2_with fail
            rw [HW1.out]
            go_wp2_with (first | (go_at_call 64; (with_reducible refine (in_is low 1 1000000 false HL.out _).mono ?_); rintro e w2 ⟨rfl, rfl⟩))
            go_ret
            exact ⟨rfl, hB1⟩
          · have HL := Lib.hid hl; clear hl
            obtain rfl : q = 0 := by rw [← HQ.out]; exact Cnd.bareE_num H16.out HFB.out HTE.out (Cnd.numE_ok (fun _ => (by simp only [Cnd.inB, Cnd.least, Cnd.most]; exact HL.out)) (fun h => by rw [HFH.out] at h; cases h) (fun k hk => by have := G1.out; omega) (by rintro (⟨h, _⟩ | ⟨h, _⟩); (rw [HFH.out] at h; cases h); cases h))
            go_enter Try.func135, Try.ntmps135
            go_wp2_with fail
            rw [HW1.out]
            go_wp2_with (first | (go_at_call 64; (with_reducible refine (in_is low 1 1000000 true HL.out _).mono ?_); rintro e w2 ⟨rfl, rfl⟩))
            go_ret
            exact ⟨rfl, hB1⟩
        · have G3 := Lib.hid g3
          have h1 : (high != 0) = true := by simp; omega
          clear g3
          obtain rfl : q = 1 := by rw [← HQ.out]; exact Cnd.bareE_form H16.out (Cnd.formB_high_E _ _ _ _ _ _ HOP.out G3.out)
          go_enter Try.func135, Try.ntmps135
          go_wp2_with fail
          rw [HW1.out]
          go_wp2_with fail
          go_ret
          exact ⟨rfl, hB1⟩
    · have G1 := Lib.hid g1
      have a1 : ((an : Int) != 0) = true := by simp; omega
      clear g1
      obtain rfl : q = 1 := by rw [← HQ.out]; exact Cnd.bareE_form H16.out (Cnd.formB_at_E _ _ _ _ _ _ HOP.out G1.out)
      go_enter Try.func135, Try.ntmps135
      go_wp2_with fail
      rw [HW1.out]
      go_wp2_with fail
      go_ret
      exact ⟨rfl, hB1⟩
  · have G0 := Lib.hid g0
    have k1 : (0 : Int) < (kn : Int) := by omega
    clear g0
    obtain rfl : q = 1 := by rw [← HQ.out]; exact Cnd.bareE_form H16.out (Cnd.formB_kids_E _ _ _ _ _ _ HOP.out G0.out)
    go_enter Try.func135, Try.ntmps135
    go_wp2_with fail
    rw [HW1.out]
    go_wp2_with fail
    go_ret
    exact ⟨rfl, hB1⟩
end Go.Proofs.Ytbbedepojogfmaa
