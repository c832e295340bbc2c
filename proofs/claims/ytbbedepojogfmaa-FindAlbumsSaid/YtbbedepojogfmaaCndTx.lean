/- checkText, by classes of operations. -/
import Derived.Test.YtbbedepojogfmaaCndOp
import Derived.Test.YtbbedepojogfmaaFdStr3
import Derived.Test.YtbbedepojogfmaaFdLow
import Derived.Test.YtbbedepojogfmaaEvents0
namespace Go.Proofs.Ytbbedepojogfmaa
open Go.RowKit Go.Sort Go.Shelf
set_option linter.unusedVariables false
set_option maxHeartbeats 4000000 in
theorem checkText_A (op : Int) (ka : Option Addr) (kn kc : Nat) (text : ByteArray) (low high : Int) (aa : Option Addr) (an ac : Nat) (w : World) (hkn : kn ≤ 9223372036854775807) (han : an ≤ 9223372036854775807) (hts : text.size ≤ 9223372036854775807) (q : Int) (hq : Cnd.textE op text = q) (hop : op = 1 ∨ op = 2) : Calls Try.prog 148 #[.agg #[.int .i64 op, .slice ka kn kc, .string text, .int .i64 low, .int .i64 high, .slice aa an ac]] w fun e w' => e = .returned (.int .i64 q) ∧ Below w.heap.size w w' := by
  have op3 : (op == 3) = false := by rcases hop with rfl | rfl <;> rfl
  have op14 : (op == 14) = false := by rcases hop with rfl | rfl <;> rfl
  have op15 : (op == 15) = false := by rcases hop with rfl | rfl <;> rfl
  have op4 : (op == 4) = false := by rcases hop with rfl | rfl <;> rfl
  have op5 : (op == 5) = false := by rcases hop with rfl | rfl <;> rfl
  have op6 : (op == 6) = false := by rcases hop with rfl | rfl <;> rfl
  have op7 : (op == 7) = false := by rcases hop with rfl | rfl <;> rfl
  have op8 : (op == 8) = false := by rcases hop with rfl | rfl <;> rfl
  have opg : ¬ (4 : Int) ≤ op := by omega
  have opl : ¬ op < 1 := by omega
  have opm : ¬ (16 : Int) < op := by omega
  have HOP := Lib.hid hop; clear hop
  -- a condition's box: W1, its 6 cells
  obtain ⟨W1, hW1, hP, hz1, hB1⟩ := box w #[.int .i64 op, .slice ka kn kc, .string text, .int .i64 low, .int .i64 high, .slice aa an ac] 103
  have HW1 := Lib.hid hW1
  clear hW1 hz1
  obtain ⟨q0, q1, q2, q3, q4, q5⟩ := hP.six
  obtain rfl : q = 0 := by rw [← hq]; rcases HOP.out with h | h <;> (subst h; simp [Cnd.textE])
  go_enter Try.func148, Try.ntmps148
  go_wp2_with fail
  rw [HW1.out]
  go_wp2_with fail
  go_ret
  exact ⟨rfl, hB1⟩
set_option maxHeartbeats 4000000 in
theorem checkText_B (op : Int) (ka : Option Addr) (kn kc : Nat) (text : ByteArray) (low high : Int) (aa : Option Addr) (an ac : Nat) (w : World) (hkn : kn ≤ 9223372036854775807) (han : an ≤ 9223372036854775807) (hts : text.size ≤ 9223372036854775807) (q : Int) (hq : Cnd.textE op text = q) (hop : op = 3) : Calls Try.prog 148 #[.agg #[.int .i64 op, .slice ka kn kc, .string text, .int .i64 low, .int .i64 high, .slice aa an ac]] w fun e w' => e = .returned (.int .i64 q) ∧ Below w.heap.size w w' := by
  have HOP := Lib.hid hop; clear hop
  -- a condition's box: W1, its 6 cells
  obtain ⟨W1, hW1, hP, hz1, hB1⟩ := box w #[.int .i64 op, .slice ka kn kc, .string text, .int .i64 low, .int .i64 high, .slice aa an ac] 103
  have HW1 := Lib.hid hW1
  clear hW1 hz1
  obtain ⟨q0, q1, q2, q3, q4, q5⟩ := hP.six
  obtain rfl : op = 3 := HOP.out
  obtain rfl : q = 0 := by rw [← hq]; simp [Cnd.textE]
  go_enter Try.func148, Try.ntmps148
  go_wp2_with fail
  rw [HW1.out]
  go_wp2_with fail
  go_ret
  exact ⟨rfl, hB1⟩
set_option maxHeartbeats 4000000 in
theorem checkText_C (op : Int) (ka : Option Addr) (kn kc : Nat) (text : ByteArray) (low high : Int) (aa : Option Addr) (an ac : Nat) (w : World) (hkn : kn ≤ 9223372036854775807) (han : an ≤ 9223372036854775807) (hts : text.size ≤ 9223372036854775807) (q : Int) (hq : Cnd.textE op text = q) (hop : op = 4) : Calls Try.prog 148 #[.agg #[.int .i64 op, .slice ka kn kc, .string text, .int .i64 low, .int .i64 high, .slice aa an ac]] w fun e w' => e = .returned (.int .i64 q) ∧ Below w.heap.size w w' := by
  have HOP := Lib.hid hop; clear hop
  -- a condition's box: W1, its 6 cells
  obtain ⟨W1, hW1, hP, hz1, hB1⟩ := box w #[.int .i64 op, .slice ka kn kc, .string text, .int .i64 low, .int .i64 high, .slice aa an ac] 103
  have HW1 := Lib.hid hW1
  clear hW1 hz1
  obtain ⟨q0, q1, q2, q3, q4, q5⟩ := hP.six
  obtain rfl : op = 4 := HOP.out
  cases hn : Fd.nameB text
  · have HN := Lib.hid hn
    obtain rfl : q = 3 := by rw [← hq]; simp [Cnd.textE, hn]
    go_enter Try.func148, Try.ntmps148
    go_wp2_with fail
    rw [HW1.out]
    go_wp2_with (go_at_call 72; (with_reducible refine (isNameW_is text hts false HN.out _).mono ?_); rintro e w2 ⟨rfl, rfl⟩)
    go_ret
    exact ⟨rfl, hB1⟩
  · have HN := Lib.hid hn
    obtain rfl : q = 0 := by rw [← hq]; simp [Cnd.textE, hn]
    go_enter Try.func148, Try.ntmps148
    go_wp2_with fail
    rw [HW1.out]
    go_wp2_with (go_at_call 72; (with_reducible refine (isNameW_is text hts true HN.out _).mono ?_); rintro e w2 ⟨rfl, rfl⟩)
    go_ret
    exact ⟨rfl, hB1⟩
set_option maxHeartbeats 4000000 in
theorem checkText_D (op : Int) (ka : Option Addr) (kn kc : Nat) (text : ByteArray) (low high : Int) (aa : Option Addr) (an ac : Nat) (w : World) (hkn : kn ≤ 9223372036854775807) (han : an ≤ 9223372036854775807) (hts : text.size ≤ 9223372036854775807) (q : Int) (hq : Cnd.textE op text = q) (hop : op = 5) : Calls Try.prog 148 #[.agg #[.int .i64 op, .slice ka kn kc, .string text, .int .i64 low, .int .i64 high, .slice aa an ac]] w fun e w' => e = .returned (.int .i64 q) ∧ Below w.heap.size w w' := by
  have HOP := Lib.hid hop; clear hop
  -- a condition's box: W1, its 6 cells
  obtain ⟨W1, hW1, hP, hz1, hB1⟩ := box w #[.int .i64 op, .slice ka kn kc, .string text, .int .i64 low, .int .i64 high, .slice aa an ac] 103
  have HW1 := Lib.hid hW1
  clear hW1 hz1
  obtain ⟨q0, q1, q2, q3, q4, q5⟩ := hP.six
  obtain rfl : op = 5 := HOP.out
  cases hs : decide (1 ≤ (text.size : Int) ∧ (text.size : Int) ≤ 200)
  · have HS := Lib.hid hs
    have hs' : ¬ (1 ≤ text.size ∧ text.size ≤ 200) := by have := of_decide_eq_false hs; omega
    obtain rfl : q = 4 := by rw [← hq]; simp only [Cnd.textE]; rw [if_neg (by decide), if_pos (by decide), if_neg hs']
    go_enter Try.func148, Try.ntmps148
    go_wp2_with fail
    rw [HW1.out]
    go_wp2_with (go_at_call 59; (with_reducible refine (outsideF_is (text.size : Int) 1 200 false HS.out _).mono ?_); rintro e w2 ⟨rfl, rfl⟩)
    go_ret
    exact ⟨rfl, hB1⟩
  · have HS := Lib.hid hs
    have hs' : 1 ≤ text.size ∧ text.size ≤ 200 := by have := of_decide_eq_true hs; omega
    cases hp : Fd.plainB text
    · have HP2 := Lib.hid hp
      obtain rfl : q = 9 := by rw [← hq]; simp only [Cnd.textE]; rw [if_neg (by decide), if_pos (by decide), if_pos hs', hp]; rfl
      go_enter Try.func148, Try.ntmps148
      go_wp2_with fail
      rw [HW1.out]
      go_wp2_with (first | (go_at_call 59; (with_reducible refine (outsideF_is (text.size : Int) 1 200 true HS.out _).mono ?_); rintro e w2 ⟨rfl, rfl⟩) | (go_at_call 93; refine (low_is text hts false HP2.out _).mono ?_; rintro e w3 ⟨rfl, hB3⟩))
      go_ret
      exact ⟨rfl, below_up hB1 hB3⟩
    · have HP2 := Lib.hid hp
      obtain rfl : q = 0 := by rw [← hq]; simp only [Cnd.textE]; rw [if_neg (by decide), if_pos (by decide), if_pos hs', hp]; rfl
      go_enter Try.func148, Try.ntmps148
      go_wp2_with fail
      rw [HW1.out]
      go_wp2_with (first | (go_at_call 59; (with_reducible refine (outsideF_is (text.size : Int) 1 200 true HS.out _).mono ?_); rintro e w2 ⟨rfl, rfl⟩) | (go_at_call 93; refine (low_is text hts true HP2.out _).mono ?_; rintro e w3 ⟨rfl, hB3⟩))
      go_ret
      exact ⟨rfl, below_up hB1 hB3⟩
set_option maxHeartbeats 4000000 in
theorem checkText_E (op : Int) (ka : Option Addr) (kn kc : Nat) (text : ByteArray) (low high : Int) (aa : Option Addr) (an ac : Nat) (w : World) (hkn : kn ≤ 9223372036854775807) (han : an ≤ 9223372036854775807) (hts : text.size ≤ 9223372036854775807) (q : Int) (hq : Cnd.textE op text = q) (hop : op = 6) : Calls Try.prog 148 #[.agg #[.int .i64 op, .slice ka kn kc, .string text, .int .i64 low, .int .i64 high, .slice aa an ac]] w fun e w' => e = .returned (.int .i64 q) ∧ Below w.heap.size w w' := by
  have HOP := Lib.hid hop; clear hop
  -- a condition's box: W1, its 6 cells
  obtain ⟨W1, hW1, hP, hz1, hB1⟩ := box w #[.int .i64 op, .slice ka kn kc, .string text, .int .i64 low, .int .i64 high, .slice aa an ac] 103
  have HW1 := Lib.hid hW1
  clear hW1 hz1
  obtain ⟨q0, q1, q2, q3, q4, q5⟩ := hP.six
  obtain rfl : op = 6 := HOP.out
  obtain rfl : q = 0 := by rw [← hq]; simp [Cnd.textE]
  go_enter Try.func148, Try.ntmps148
  go_wp2_with fail
  rw [HW1.out]
  go_wp2_with fail
  go_ret
  exact ⟨rfl, hB1⟩
set_option maxHeartbeats 4000000 in
theorem checkText_F (op : Int) (ka : Option Addr) (kn kc : Nat) (text : ByteArray) (low high : Int) (aa : Option Addr) (an ac : Nat) (w : World) (hkn : kn ≤ 9223372036854775807) (han : an ≤ 9223372036854775807) (hts : text.size ≤ 9223372036854775807) (q : Int) (hq : Cnd.textE op text = q) (hop : op = 7) : Calls Try.prog 148 #[.agg #[.int .i64 op, .slice ka kn kc, .string text, .int .i64 low, .int .i64 high, .slice aa an ac]] w fun e w' => e = .returned (.int .i64 q) ∧ Below w.heap.size w w' := by
  have HOP := Lib.hid hop; clear hop
  -- a condition's box: W1, its 6 cells
  obtain ⟨W1, hW1, hP, hz1, hB1⟩ := box w #[.int .i64 op, .slice ka kn kc, .string text, .int .i64 low, .int .i64 high, .slice aa an ac] 103
  have HW1 := Lib.hid hW1
  clear hW1 hz1
  obtain ⟨q0, q1, q2, q3, q4, q5⟩ := hP.six
  obtain rfl : op = 7 := HOP.out
  obtain rfl : q = 0 := by rw [← hq]; simp [Cnd.textE]
  go_enter Try.func148, Try.ntmps148
  go_wp2_with fail
  rw [HW1.out]
  go_wp2_with fail
  go_ret
  exact ⟨rfl, hB1⟩
set_option maxHeartbeats 4000000 in
theorem checkText_G (op : Int) (ka : Option Addr) (kn kc : Nat) (text : ByteArray) (low high : Int) (aa : Option Addr) (an ac : Nat) (w : World) (hkn : kn ≤ 9223372036854775807) (han : an ≤ 9223372036854775807) (hts : text.size ≤ 9223372036854775807) (q : Int) (hq : Cnd.textE op text = q) (hop : op = 8) : Calls Try.prog 148 #[.agg #[.int .i64 op, .slice ka kn kc, .string text, .int .i64 low, .int .i64 high, .slice aa an ac]] w fun e w' => e = .returned (.int .i64 q) ∧ Below w.heap.size w w' := by
  have HOP := Lib.hid hop; clear hop
  -- a condition's box: W1, its 6 cells
  obtain ⟨W1, hW1, hP, hz1, hB1⟩ := box w #[.int .i64 op, .slice ka kn kc, .string text, .int .i64 low, .int .i64 high, .slice aa an ac] 103
  have HW1 := Lib.hid hW1
  clear hW1 hz1
  obtain ⟨q0, q1, q2, q3, q4, q5⟩ := hP.six
  obtain rfl : op = 8 := HOP.out
  obtain rfl : q = 0 := by rw [← hq]; simp [Cnd.textE]
  go_enter Try.func148, Try.ntmps148
  go_wp2_with fail
  rw [HW1.out]
  go_wp2_with fail
  go_ret
  exact ⟨rfl, hB1⟩
set_option maxHeartbeats 4000000 in
theorem checkText_H (op : Int) (ka : Option Addr) (kn kc : Nat) (text : ByteArray) (low high : Int) (aa : Option Addr) (an ac : Nat) (w : World) (hkn : kn ≤ 9223372036854775807) (han : an ≤ 9223372036854775807) (hts : text.size ≤ 9223372036854775807) (q : Int) (hq : Cnd.textE op text = q) (hop : op = 9 ∨ op = 10 ∨ op = 11 ∨ op = 12 ∨ op = 13 ∨ op = 16) : Calls Try.prog 148 #[.agg #[.int .i64 op, .slice ka kn kc, .string text, .int .i64 low, .int .i64 high, .slice aa an ac]] w fun e w' => e = .returned (.int .i64 q) ∧ Below w.heap.size w w' := by
  have op3 : (op == 3) = false := by rcases hop with rfl | rfl | rfl | rfl | rfl | rfl <;> rfl
  have op14 : (op == 14) = false := by rcases hop with rfl | rfl | rfl | rfl | rfl | rfl <;> rfl
  have op15 : (op == 15) = false := by rcases hop with rfl | rfl | rfl | rfl | rfl | rfl <;> rfl
  have op4 : (op == 4) = false := by rcases hop with rfl | rfl | rfl | rfl | rfl | rfl <;> rfl
  have op5 : (op == 5) = false := by rcases hop with rfl | rfl | rfl | rfl | rfl | rfl <;> rfl
  have op6 : (op == 6) = false := by rcases hop with rfl | rfl | rfl | rfl | rfl | rfl <;> rfl
  have op7 : (op == 7) = false := by rcases hop with rfl | rfl | rfl | rfl | rfl | rfl <;> rfl
  have op8 : (op == 8) = false := by rcases hop with rfl | rfl | rfl | rfl | rfl | rfl <;> rfl
  have opg : (4 : Int) ≤ op := by omega
  have opl : ¬ op < 1 := by omega
  have opm : ¬ (16 : Int) < op := by omega
  have HOP := Lib.hid hop; clear hop
  -- a condition's box: W1, its 6 cells
  obtain ⟨W1, hW1, hP, hz1, hB1⟩ := box w #[.int .i64 op, .slice ka kn kc, .string text, .int .i64 low, .int .i64 high, .slice aa an ac] 103
  have HW1 := Lib.hid hW1
  clear hW1 hz1
  obtain ⟨q0, q1, q2, q3, q4, q5⟩ := hP.six
  obtain rfl : q = 0 := by rw [← hq]; rcases HOP.out with h | h | h | h | h | h <;> (subst h; simp [Cnd.textE])
  go_enter Try.func148, Try.ntmps148
  go_wp2_with fail
  rw [HW1.out]
  go_wp2_with fail
  go_ret
  exact ⟨rfl, hB1⟩
set_option maxHeartbeats 4000000 in
theorem checkText_I (op : Int) (ka : Option Addr) (kn kc : Nat) (text : ByteArray) (low high : Int) (aa : Option Addr) (an ac : Nat) (w : World) (hkn : kn ≤ 9223372036854775807) (han : an ≤ 9223372036854775807) (hts : text.size ≤ 9223372036854775807) (q : Int) (hq : Cnd.textE op text = q) (hop : op = 14) : Calls Try.prog 148 #[.agg #[.int .i64 op, .slice ka kn kc, .string text, .int .i64 low, .int .i64 high, .slice aa an ac]] w fun e w' => e = .returned (.int .i64 q) ∧ Below w.heap.size w w' := by
  have HOP := Lib.hid hop; clear hop
  -- a condition's box: W1, its 6 cells
  obtain ⟨W1, hW1, hP, hz1, hB1⟩ := box w #[.int .i64 op, .slice ka kn kc, .string text, .int .i64 low, .int .i64 high, .slice aa an ac] 103
  have HW1 := Lib.hid hW1
  clear hW1 hz1
  obtain ⟨q0, q1, q2, q3, q4, q5⟩ := hP.six
  obtain rfl : op = 14 := HOP.out
  obtain rfl : q = 0 := by rw [← hq]; simp [Cnd.textE]
  go_enter Try.func148, Try.ntmps148
  go_wp2_with fail
  rw [HW1.out]
  go_wp2_with fail
  go_ret
  exact ⟨rfl, hB1⟩
set_option maxHeartbeats 4000000 in
theorem checkText_J (op : Int) (ka : Option Addr) (kn kc : Nat) (text : ByteArray) (low high : Int) (aa : Option Addr) (an ac : Nat) (w : World) (hkn : kn ≤ 9223372036854775807) (han : an ≤ 9223372036854775807) (hts : text.size ≤ 9223372036854775807) (q : Int) (hq : Cnd.textE op text = q) (hop : op = 15) : Calls Try.prog 148 #[.agg #[.int .i64 op, .slice ka kn kc, .string text, .int .i64 low, .int .i64 high, .slice aa an ac]] w fun e w' => e = .returned (.int .i64 q) ∧ Below w.heap.size w w' := by
  have HOP := Lib.hid hop; clear hop
  -- a condition's box: W1, its 6 cells
  obtain ⟨W1, hW1, hP, hz1, hB1⟩ := box w #[.int .i64 op, .slice ka kn kc, .string text, .int .i64 low, .int .i64 high, .slice aa an ac] 103
  have HW1 := Lib.hid hW1
  clear hW1 hz1
  obtain ⟨q0, q1, q2, q3, q4, q5⟩ := hP.six
  obtain rfl : op = 15 := HOP.out
  obtain rfl : q = 0 := by rw [← hq]; simp [Cnd.textE]
  go_enter Try.func148, Try.ntmps148
  go_wp2_with fail
  rw [HW1.out]
  go_wp2_with fail
  go_ret
  exact ⟨rfl, hB1⟩
end Go.Proofs.Ytbbedepojogfmaa
