/- Parts of the proof, no condition: CndNm. -/
import Derived.Test.YtimjmjmpaicdbaaGreatDoorPc2
import Derived.Test.YtimjmjmpaicdbaaGreatDoorPc1
set_option maxRecDepth 100000
set_option maxHeartbeats 8000000
set_option linter.unusedVariables false
namespace Go.Proofs.YtimjmjmpaicdbaaGreatDoor
open Go.RowKit Go.Sort Go.Shelf
theorem checkText_A (op : Int) (ka : Option Addr) (kn kc : Nat) (text : ByteArray) (low high : Int) (aa : Option Addr) (an ac : Nat) (w : World) (hkn : kn ≤ 9223372036854775807) (han : an ≤ 9223372036854775807) (hts : text.size ≤ 9223372036854775807) (q : Int) (hq : Cnd.textE op text = q) (hop : op = 1 ∨ op = 2) : Calls Tryz.prog 67 #[.agg #[.int .i64 op, .slice ka kn kc, .string text, .int .i64 low, .int .i64 high, .slice aa an ac]] w fun e w' => e = .returned (.int .i64 q) ∧ Below w.heap.size w w' := by
 have op3 : (op == 3) = false := by rcases hop with rfl | rfl <;> rfl
 have op14 : (op == 14) = false := by rcases hop with rfl | rfl <;> rfl
 have op15 : (op == 15) = false := by rcases hop with rfl | rfl <;> rfl
 have op4 : (op == 4) = false := by rcases hop with rfl | rfl <;> rfl
 have op5 : (op == 5) = false := by rcases hop with rfl | rfl <;> rfl
 have op6 : (op == 6) = false := by rcases hop with rfl | rfl <;> rfl
 have op7 : (op == 7) = false := by rcases hop with rfl | rfl <;> rfl
 have op8 : (op == 8) = false := by rcases hop with rfl | rfl <;> rfl
 have opg : ¬ (4 : Int) ≤ op := by omega
 have opl : ¬ op < 1 := by omega
 have opm : ¬ (16 : Int) < op := by omega
 have HOP := Lib.hid hop; clear hop
 obtain ⟨W1, hW1, hP, hz1, hB1⟩ := box w #[.int .i64 op, .slice ka kn kc, .string text, .int .i64 low, .int .i64 high, .slice aa an ac] 25
 have HW1 := Lib.hid hW1
 clear hW1 hz1
 obtain ⟨q0, q1, q2, q3, q4, q5⟩ := hP.six
 obtain rfl : q = 0 := by rw [← hq]; rcases HOP.out with h | h <;> (subst h; simp [Cnd.textE])
 go_enter Tryz.func67, Tryz.ntmps67
 go_wp2_with fail
 rw [HW1.out]
 go_wp2_with fail
 go_ret
 exact ⟨rfl, hB1⟩
theorem checkText_B (op : Int) (ka : Option Addr) (kn kc : Nat) (text : ByteArray) (low high : Int) (aa : Option Addr) (an ac : Nat) (w : World) (hkn : kn ≤ 9223372036854775807) (han : an ≤ 9223372036854775807) (hts : text.size ≤ 9223372036854775807) (q : Int) (hq : Cnd.textE op text = q) (hop : op = 3) : Calls Tryz.prog 67 #[.agg #[.int .i64 op, .slice ka kn kc, .string text, .int .i64 low, .int .i64 high, .slice aa an ac]] w fun e w' => e = .returned (.int .i64 q) ∧ Below w.heap.size w w' := by
 have HOP := Lib.hid hop; clear hop
 obtain ⟨W1, hW1, hP, hz1, hB1⟩ := box w #[.int .i64 op, .slice ka kn kc, .string text, .int .i64 low, .int .i64 high, .slice aa an ac] 25
 have HW1 := Lib.hid hW1
 clear hW1 hz1
 obtain ⟨q0, q1, q2, q3, q4, q5⟩ := hP.six
 obtain rfl : op = 3 := HOP.out
 obtain rfl : q = 0 := by rw [← hq]; simp [Cnd.textE]
 go_enter Tryz.func67, Tryz.ntmps67
 go_wp2_with fail
 rw [HW1.out]
 go_wp2_with fail
 go_ret
 exact ⟨rfl, hB1⟩
theorem checkText_C (op : Int) (ka : Option Addr) (kn kc : Nat) (text : ByteArray) (low high : Int) (aa : Option Addr) (an ac : Nat) (w : World) (hkn : kn ≤ 9223372036854775807) (han : an ≤ 9223372036854775807) (hts : text.size ≤ 9223372036854775807) (q : Int) (hq : Cnd.textE op text = q) (hop : op = 4) : Calls Tryz.prog 67 #[.agg #[.int .i64 op, .slice ka kn kc, .string text, .int .i64 low, .int .i64 high, .slice aa an ac]] w fun e w' => e = .returned (.int .i64 q) ∧ Below w.heap.size w w' := by
 have HOP := Lib.hid hop; clear hop
 obtain ⟨W1, hW1, hP, hz1, hB1⟩ := box w #[.int .i64 op, .slice ka kn kc, .string text, .int .i64 low, .int .i64 high, .slice aa an ac] 25
 have HW1 := Lib.hid hW1
 clear hW1 hz1
 obtain ⟨q0, q1, q2, q3, q4, q5⟩ := hP.six
 obtain rfl : op = 4 := HOP.out
 cases hn : Fd.nameB text
 ·have HN := Lib.hid hn
  obtain rfl : q = 3 := by rw [← hq]; simp [Cnd.textE, hn]
  go_enter Tryz.func67, Tryz.ntmps67
  go_wp2_with fail
  rw [HW1.out]
  go_wp2_with (go_at_call 108; (with_reducible refine (isNameW_is text hts false HN.out _).mono ?_); rintro e w2 ⟨rfl, rfl⟩)
  go_ret
  exact ⟨rfl, hB1⟩
 ·have HN := Lib.hid hn
  obtain rfl : q = 0 := by rw [← hq]; simp [Cnd.textE, hn]
  go_enter Tryz.func67, Tryz.ntmps67
  go_wp2_with fail
  rw [HW1.out]
  go_wp2_with (go_at_call 108; (with_reducible refine (isNameW_is text hts true HN.out _).mono ?_); rintro e w2 ⟨rfl, rfl⟩)
  go_ret
  exact ⟨rfl, hB1⟩
theorem checkText_D (op : Int) (ka : Option Addr) (kn kc : Nat) (text : ByteArray) (low high : Int) (aa : Option Addr) (an ac : Nat) (w : World) (hkn : kn ≤ 9223372036854775807) (han : an ≤ 9223372036854775807) (hts : text.size ≤ 9223372036854775807) (q : Int) (hq : Cnd.textE op text = q) (hop : op = 5) : Calls Tryz.prog 67 #[.agg #[.int .i64 op, .slice ka kn kc, .string text, .int .i64 low, .int .i64 high, .slice aa an ac]] w fun e w' => e = .returned (.int .i64 q) ∧ Below w.heap.size w w' := by
 have HOP := Lib.hid hop; clear hop
 obtain ⟨W1, hW1, hP, hz1, hB1⟩ := box w #[.int .i64 op, .slice ka kn kc, .string text, .int .i64 low, .int .i64 high, .slice aa an ac] 25
 have HW1 := Lib.hid hW1
 clear hW1 hz1
 obtain ⟨q0, q1, q2, q3, q4, q5⟩ := hP.six
 obtain rfl : op = 5 := HOP.out
 cases hs : decide (1 ≤ (text.size : Int) ∧ (text.size : Int) ≤ 200)
 ·have HS := Lib.hid hs
  have hs' : ¬ (1 ≤ text.size ∧ text.size ≤ 200) := by have := of_decide_eq_false hs; omega
  obtain rfl : q = 4 := by rw [← hq]; simp only [Cnd.textE]; rw [if_neg (by decide), if_pos (by decide), if_neg hs']
  go_enter Tryz.func67, Tryz.ntmps67
  go_wp2_with fail
  rw [HW1.out]
  go_wp2_with (go_at_call 32; (with_reducible refine (outsideF_is (text.size : Int) 1 200 false HS.out _).mono ?_); rintro e w2 ⟨rfl, rfl⟩)
  go_ret
  exact ⟨rfl, hB1⟩
 ·have HS := Lib.hid hs
  have hs' : 1 ≤ text.size ∧ text.size ≤ 200 := by have := of_decide_eq_true hs; omega
  cases hp : Fd.plainB text
  ·have HP2 := Lib.hid hp
   obtain rfl : q = 9 := by rw [← hq]; simp only [Cnd.textE]; rw [if_neg (by decide), if_pos (by decide), if_pos hs', hp]; rfl
   go_enter Tryz.func67, Tryz.ntmps67
   go_wp2_with fail
   rw [HW1.out]
   go_wp2_with (first | (go_at_call 32; (with_reducible refine (outsideF_is (text.size : Int) 1 200 true HS.out _).mono ?_); rintro e w2 ⟨rfl, rfl⟩) | (go_at_call 109; refine (low_is text hts false HP2.out _).mono ?_; rintro e w3 ⟨rfl, hB3⟩))
   go_ret
   exact ⟨rfl, below_up hB1 hB3⟩
  ·have HP2 := Lib.hid hp
   obtain rfl : q = 0 := by rw [← hq]; simp only [Cnd.textE]; rw [if_neg (by decide), if_pos (by decide), if_pos hs', hp]; rfl
   go_enter Tryz.func67, Tryz.ntmps67
   go_wp2_with fail
   rw [HW1.out]
   go_wp2_with (first | (go_at_call 32; (with_reducible refine (outsideF_is (text.size : Int) 1 200 true HS.out _).mono ?_); rintro e w2 ⟨rfl, rfl⟩) | (go_at_call 109; refine (low_is text hts true HP2.out _).mono ?_; rintro e w3 ⟨rfl, hB3⟩))
   go_ret
   exact ⟨rfl, below_up hB1 hB3⟩
theorem checkText_E (op : Int) (ka : Option Addr) (kn kc : Nat) (text : ByteArray) (low high : Int) (aa : Option Addr) (an ac : Nat) (w : World) (hkn : kn ≤ 9223372036854775807) (han : an ≤ 9223372036854775807) (hts : text.size ≤ 9223372036854775807) (q : Int) (hq : Cnd.textE op text = q) (hop : op = 6) : Calls Tryz.prog 67 #[.agg #[.int .i64 op, .slice ka kn kc, .string text, .int .i64 low, .int .i64 high, .slice aa an ac]] w fun e w' => e = .returned (.int .i64 q) ∧ Below w.heap.size w w' := by
 have HOP := Lib.hid hop; clear hop
 obtain ⟨W1, hW1, hP, hz1, hB1⟩ := box w #[.int .i64 op, .slice ka kn kc, .string text, .int .i64 low, .int .i64 high, .slice aa an ac] 25
 have HW1 := Lib.hid hW1
 clear hW1 hz1
 obtain ⟨q0, q1, q2, q3, q4, q5⟩ := hP.six
 obtain rfl : op = 6 := HOP.out
 obtain rfl : q = 0 := by rw [← hq]; simp [Cnd.textE]
 go_enter Tryz.func67, Tryz.ntmps67
 go_wp2_with fail
 rw [HW1.out]
 go_wp2_with fail
 go_ret
 exact ⟨rfl, hB1⟩
theorem checkText_F (op : Int) (ka : Option Addr) (kn kc : Nat) (text : ByteArray) (low high : Int) (aa : Option Addr) (an ac : Nat) (w : World) (hkn : kn ≤ 9223372036854775807) (han : an ≤ 9223372036854775807) (hts : text.size ≤ 9223372036854775807) (q : Int) (hq : Cnd.textE op text = q) (hop : op = 7) : Calls Tryz.prog 67 #[.agg #[.int .i64 op, .slice ka kn kc, .string text, .int .i64 low, .int .i64 high, .slice aa an ac]] w fun e w' => e = .returned (.int .i64 q) ∧ Below w.heap.size w w' := by
 have HOP := Lib.hid hop; clear hop
 obtain ⟨W1, hW1, hP, hz1, hB1⟩ := box w #[.int .i64 op, .slice ka kn kc, .string text, .int .i64 low, .int .i64 high, .slice aa an ac] 25
 have HW1 := Lib.hid hW1
 clear hW1 hz1
 obtain ⟨q0, q1, q2, q3, q4, q5⟩ := hP.six
 obtain rfl : op = 7 := HOP.out
 obtain rfl : q = 0 := by rw [← hq]; simp [Cnd.textE]
 go_enter Tryz.func67, Tryz.ntmps67
 go_wp2_with fail
 rw [HW1.out]
 go_wp2_with fail
 go_ret
 exact ⟨rfl, hB1⟩
theorem checkText_G (op : Int) (ka : Option Addr) (kn kc : Nat) (text : ByteArray) (low high : Int) (aa : Option Addr) (an ac : Nat) (w : World) (hkn : kn ≤ 9223372036854775807) (han : an ≤ 9223372036854775807) (hts : text.size ≤ 9223372036854775807) (q : Int) (hq : Cnd.textE op text = q) (hop : op = 8) : Calls Tryz.prog 67 #[.agg #[.int .i64 op, .slice ka kn kc, .string text, .int .i64 low, .int .i64 high, .slice aa an ac]] w fun e w' => e = .returned (.int .i64 q) ∧ Below w.heap.size w w' := by
 have HOP := Lib.hid hop; clear hop
 obtain ⟨W1, hW1, hP, hz1, hB1⟩ := box w #[.int .i64 op, .slice ka kn kc, .string text, .int .i64 low, .int .i64 high, .slice aa an ac] 25
 have HW1 := Lib.hid hW1
 clear hW1 hz1
 obtain ⟨q0, q1, q2, q3, q4, q5⟩ := hP.six
 obtain rfl : op = 8 := HOP.out
 obtain rfl : q = 0 := by rw [← hq]; simp [Cnd.textE]
 go_enter Tryz.func67, Tryz.ntmps67
 go_wp2_with fail
 rw [HW1.out]
 go_wp2_with fail
 go_ret
 exact ⟨rfl, hB1⟩
theorem checkText_H (op : Int) (ka : Option Addr) (kn kc : Nat) (text : ByteArray) (low high : Int) (aa : Option Addr) (an ac : Nat) (w : World) (hkn : kn ≤ 9223372036854775807) (han : an ≤ 9223372036854775807) (hts : text.size ≤ 9223372036854775807) (q : Int) (hq : Cnd.textE op text = q) (hop : op = 9 ∨ op = 10 ∨ op = 11 ∨ op = 12 ∨ op = 13 ∨ op = 16) : Calls Tryz.prog 67 #[.agg #[.int .i64 op, .slice ka kn kc, .string text, .int .i64 low, .int .i64 high, .slice aa an ac]] w fun e w' => e = .returned (.int .i64 q) ∧ Below w.heap.size w w' := by
 have op3 : (op == 3) = false := by rcases hop with rfl | rfl | rfl | rfl | rfl | rfl <;> rfl
 have op14 : (op == 14) = false := by rcases hop with rfl | rfl | rfl | rfl | rfl | rfl <;> rfl
 have op15 : (op == 15) = false := by rcases hop with rfl | rfl | rfl | rfl | rfl | rfl <;> rfl
 have op4 : (op == 4) = false := by rcases hop with rfl | rfl | rfl | rfl | rfl | rfl <;> rfl
 have op5 : (op == 5) = false := by rcases hop with rfl | rfl | rfl | rfl | rfl | rfl <;> rfl
 have op6 : (op == 6) = false := by rcases hop with rfl | rfl | rfl | rfl | rfl | rfl <;> rfl
 have op7 : (op == 7) = false := by rcases hop with rfl | rfl | rfl | rfl | rfl | rfl <;> rfl
 have op8 : (op == 8) = false := by rcases hop with rfl | rfl | rfl | rfl | rfl | rfl <;> rfl
 have opg : (4 : Int) ≤ op := by omega
 have opl : ¬ op < 1 := by omega
 have opm : ¬ (16 : Int) < op := by omega
 have HOP := Lib.hid hop; clear hop
 obtain ⟨W1, hW1, hP, hz1, hB1⟩ := box w #[.int .i64 op, .slice ka kn kc, .string text, .int .i64 low, .int .i64 high, .slice aa an ac] 25
 have HW1 := Lib.hid hW1
 clear hW1 hz1
 obtain ⟨q0, q1, q2, q3, q4, q5⟩ := hP.six
 obtain rfl : q = 0 := by rw [← hq]; rcases HOP.out with h | h | h | h | h | h <;> (subst h; simp [Cnd.textE])
 go_enter Tryz.func67, Tryz.ntmps67
 go_wp2_with fail
 rw [HW1.out]
 go_wp2_with fail
 go_ret
 exact ⟨rfl, hB1⟩
theorem checkText_I (op : Int) (ka : Option Addr) (kn kc : Nat) (text : ByteArray) (low high : Int) (aa : Option Addr) (an ac : Nat) (w : World) (hkn : kn ≤ 9223372036854775807) (han : an ≤ 9223372036854775807) (hts : text.size ≤ 9223372036854775807) (q : Int) (hq : Cnd.textE op text = q) (hop : op = 14) : Calls Tryz.prog 67 #[.agg #[.int .i64 op, .slice ka kn kc, .string text, .int .i64 low, .int .i64 high, .slice aa an ac]] w fun e w' => e = .returned (.int .i64 q) ∧ Below w.heap.size w w' := by
 have HOP := Lib.hid hop; clear hop
 obtain ⟨W1, hW1, hP, hz1, hB1⟩ := box w #[.int .i64 op, .slice ka kn kc, .string text, .int .i64 low, .int .i64 high, .slice aa an ac] 25
 have HW1 := Lib.hid hW1
 clear hW1 hz1
 obtain ⟨q0, q1, q2, q3, q4, q5⟩ := hP.six
 obtain rfl : op = 14 := HOP.out
 obtain rfl : q = 0 := by rw [← hq]; simp [Cnd.textE]
 go_enter Tryz.func67, Tryz.ntmps67
 go_wp2_with fail
 rw [HW1.out]
 go_wp2_with fail
 go_ret
 exact ⟨rfl, hB1⟩
theorem checkText_J (op : Int) (ka : Option Addr) (kn kc : Nat) (text : ByteArray) (low high : Int) (aa : Option Addr) (an ac : Nat) (w : World) (hkn : kn ≤ 9223372036854775807) (han : an ≤ 9223372036854775807) (hts : text.size ≤ 9223372036854775807) (q : Int) (hq : Cnd.textE op text = q) (hop : op = 15) : Calls Tryz.prog 67 #[.agg #[.int .i64 op, .slice ka kn kc, .string text, .int .i64 low, .int .i64 high, .slice aa an ac]] w fun e w' => e = .returned (.int .i64 q) ∧ Below w.heap.size w w' := by
 have HOP := Lib.hid hop; clear hop
 obtain ⟨W1, hW1, hP, hz1, hB1⟩ := box w #[.int .i64 op, .slice ka kn kc, .string text, .int .i64 low, .int .i64 high, .slice aa an ac] 25
 have HW1 := Lib.hid hW1
 clear hW1 hz1
 obtain ⟨q0, q1, q2, q3, q4, q5⟩ := hP.six
 obtain rfl : op = 15 := HOP.out
 obtain rfl : q = 0 := by rw [← hq]; simp [Cnd.textE]
 go_enter Tryz.func67, Tryz.ntmps67
 go_wp2_with fail
 rw [HW1.out]
 go_wp2_with fail
 go_ret
 exact ⟨rfl, hB1⟩
theorem checkNums_A (op : Int) (ka : Option Addr) (kn kc : Nat) (text : ByteArray) (low high : Int) (aa : Option Addr) (an ac : Nat) (lat lon : Nat → Int) (w : World) (hkn : kn ≤ 9223372036854775807) (han : an ≤ 9223372036854775807) (hts : text.size ≤ 9223372036854775807) (hrow : Row2 w aa an (fun i => .int .i64 (lat i)) (fun i => .int .i64 (lon i))) (hf : Cnd.formB op kn an text low high = true) (q : Int) (hq : Cnd.numE op low high an lat lon = q) (hop : op = 1 ∨ op = 2) : Calls Tryz.prog 68 #[.agg #[.int .i64 op, .slice ka kn kc, .string text, .int .i64 low, .int .i64 high, .slice aa an ac]] w fun e w' => e = .returned (.int .i64 q) ∧ Below w.heap.size w w' := by
 have HFM := Lib.hid (Cnd.formC_A op hop)
 have hat : Cnd.fAt op = 0 := by rcases hop with rfl | rfl <;> rfl
 have HAN : Hid (an = 0) := Lib.hid (by have := Cnd.formB_an hf; rw [hat] at this; omega)
 clear hat
 have HFL : Cnd.fLow op = false := by rcases hop with rfl | rfl <;> rfl
 have HFH : Cnd.fHigh op = false := by rcases hop with rfl | rfl <;> rfl
 have HFL := Lib.hid HFL; have HFH := Lib.hid HFH; clear hf
 have op3 : (op == 3) = false := by rcases hop with rfl | rfl <;> rfl
 have op14 : (op == 14) = false := by rcases hop with rfl | rfl <;> rfl
 have op15 : (op == 15) = false := by rcases hop with rfl | rfl <;> rfl
 have op4 : (op == 4) = false := by rcases hop with rfl | rfl <;> rfl
 have op5 : (op == 5) = false := by rcases hop with rfl | rfl <;> rfl
 have op6 : (op == 6) = false := by rcases hop with rfl | rfl <;> rfl
 have op7 : (op == 7) = false := by rcases hop with rfl | rfl <;> rfl
 have op8 : (op == 8) = false := by rcases hop with rfl | rfl <;> rfl
 have opg : ¬ (4 : Int) ≤ op := by omega
 have opl : ¬ op < 1 := by omega
 have opm : ¬ (16 : Int) < op := by omega
 have HOP := Lib.hid hop; clear hop
 obtain ⟨W1, hW1, hP, hz1, hB1⟩ := box w #[.int .i64 op, .slice ka kn kc, .string text, .int .i64 low, .int .i64 high, .slice aa an ac] 25
 have HW1 := Lib.hid hW1
 clear hW1 hz1
 obtain ⟨q0, q1, q2, q3, q4, q5⟩ := hP.six
 have HROW := Lib.hid (hrow.keep hB1); have HQ := Lib.hid hq; clear hrow hq
 go_enter Tryz.func68, Tryz.ntmps68
 go_wp2_with fail
 rw [HW1.out]
 go_wp2_with (first | (go_at_call 107; refine (HFM.out _).mono ?_; rintro e w3 ⟨rfl, hB3⟩; have hlt3 := (hP.keep hB3).lt; have hP4 := (hP.keep hB3).alloc (.cells #[.bool false, .bool false, .bool false, .int .i64 0] 153); have hF4 := Blk.new w3 #[.bool false, .bool false, .bool false, .int .i64 0] 153; have hB4 := below_allocs (below_up hB1 hB3) (.cells #[.bool false, .bool false, .bool false, .int .i64 0] 153); have hB4' := below_allocs hB3 (.cells #[.bool false, .bool false, .bool false, .int .i64 0] 153); obtain ⟨t0, t1, t2, t3, t4, t5⟩ := hP4.six))
 clear t0 t1 t2 t3 t4 t5
 go_loopg [45] an (fun gk i wr => ∃ j : Nat, j ≤ an ∧ gk = an - j ∧ i = .int .i64 j ∧ (∀ k, k < j → Fd.placeB (lat k) (lon k) = true) ∧ Below (w3.alloc (.cells #[.bool false, .bool false, .bool false, .int .i64 0] 153)).heap.size (w3.alloc (.cells #[.bool false, .bool false, .bool false, .int .i64 0] 153)) wr)
 case atStart => exact ⟨0, by omega, rfl, rfl, fun k hk => by omega, Below.refl _ _⟩
 case round =>
  obtain ⟨j, hj, rfl, rfl, hall, hB⟩ := hrel
  have HALL := Lib.hid hall; clear hall
  obtain ⟨t0, t1, t2, t3, t4, t5⟩ := (hP4.keep hB).six
  obtain ⟨f0, f1, f2, f3⟩ := (hF4.keep hB).four
  have hBw := below_up hB4 hB
  have hBx := below_up hB4' hB
  by_cases hlt : j < an
  ·obtain ⟨b1, off, rfl, hb1, hcell⟩ := HROW.out.keep hBx (by omega)
   obtain ⟨c0, c1⟩ := hcell j hlt
   clear hcell
   have HPB := Lib.hid (fun W => checkPlace_is (lat j) (lon j) W (Fd.placeB (lat j) (lon j)) rfl)
   have hBa := below_allocs hB (.cells #[.int .i64 (lat j), .int .i64 (lon j)] 112)
   cases hpl : Fd.placeB (lat j) (lon j)
   ·obtain rfl : q = 2 := by rw [← HQ.out]; exact Cnd.numE_place j hlt hpl
    rw [hpl, if_neg (by simp)] at HPB
    have HPLC := Lib.hid hpl; clear hpl
    go_wp2_with (go_at_call 110; refine (HPB.out _).mono ?_; rintro e w5 ⟨rfl, hB5⟩)
    go_ret
    exact ⟨rfl, below_up hB4 (below_up hBa hB5)⟩
   ·rw [hpl, if_pos rfl] at HPB
    have HPLC := Lib.hid hpl; clear hpl
    go_wp2_with (go_at_call 110; refine (HPB.out _).mono ?_; rintro e w5 ⟨rfl, hB5⟩)
    go_roundg (an - (j + 1))
    case rel => exact ⟨j + 1, by omega, rfl, by go_num, Fd.places_next HALL.out HPLC.out, below_up hBa hB5⟩
    case measure => omega
  ·obtain rfl : j = an := by omega
   go_wp2_with fail
   go_quiet (fail)
   go_wp2_with fail
   go_ret
   exact ⟨ret_int (by rw [← HQ.out]; exact (Cnd.numE_ok (fun h => by rw [HFL.out] at h; cases h) (fun h => by rw [HFH.out] at h; cases h) HALL.out (by rintro (⟨h, _⟩ | ⟨h, _⟩); (rw [HFH.out] at h; cases h); (have h2 := op15; rw [h] at h2; cases h2))).symm), below_drewN hBw _⟩
theorem checkNums_B (op : Int) (ka : Option Addr) (kn kc : Nat) (text : ByteArray) (low high : Int) (aa : Option Addr) (an ac : Nat) (lat lon : Nat → Int) (w : World) (hkn : kn ≤ 9223372036854775807) (han : an ≤ 9223372036854775807) (hts : text.size ≤ 9223372036854775807) (hrow : Row2 w aa an (fun i => .int .i64 (lat i)) (fun i => .int .i64 (lon i))) (hf : Cnd.formB op kn an text low high = true) (q : Int) (hq : Cnd.numE op low high an lat lon = q) (hop : op = 3) : Calls Tryz.prog 68 #[.agg #[.int .i64 op, .slice ka kn kc, .string text, .int .i64 low, .int .i64 high, .slice aa an ac]] w fun e w' => e = .returned (.int .i64 q) ∧ Below w.heap.size w w' := by
 have HFM := Lib.hid (Cnd.formC_B op hop)
 have hat : Cnd.fAt op = 0 := by subst hop <;> rfl
 have HAN : Hid (an = 0) := Lib.hid (by have := Cnd.formB_an hf; rw [hat] at this; omega)
 clear hat
 have HFL : Cnd.fLow op = false := by subst hop <;> rfl
 have HFH : Cnd.fHigh op = false := by subst hop <;> rfl
 have HFL := Lib.hid HFL; have HFH := Lib.hid HFH; clear hf
 have HOP := Lib.hid hop; clear hop
 obtain ⟨W1, hW1, hP, hz1, hB1⟩ := box w #[.int .i64 op, .slice ka kn kc, .string text, .int .i64 low, .int .i64 high, .slice aa an ac] 25
 have HW1 := Lib.hid hW1
 clear hW1 hz1
 obtain ⟨q0, q1, q2, q3, q4, q5⟩ := hP.six
 obtain rfl : op = 3 := HOP.out
 have HROW := Lib.hid (hrow.keep hB1); have HQ := Lib.hid hq; clear hrow hq
 go_enter Tryz.func68, Tryz.ntmps68
 go_wp2_with fail
 rw [HW1.out]
 go_wp2_with (first | (go_at_call 107; refine (HFM.out _).mono ?_; rintro e w3 ⟨rfl, hB3⟩; have hlt3 := (hP.keep hB3).lt; have hP4 := (hP.keep hB3).alloc (.cells #[.bool false, .bool false, .bool false, .int .i64 0] 153); have hF4 := Blk.new w3 #[.bool false, .bool false, .bool false, .int .i64 0] 153; have hB4 := below_allocs (below_up hB1 hB3) (.cells #[.bool false, .bool false, .bool false, .int .i64 0] 153); have hB4' := below_allocs hB3 (.cells #[.bool false, .bool false, .bool false, .int .i64 0] 153); obtain ⟨t0, t1, t2, t3, t4, t5⟩ := hP4.six))
 clear t0 t1 t2 t3 t4 t5
 go_loopg [45] an (fun gk i wr => ∃ j : Nat, j ≤ an ∧ gk = an - j ∧ i = .int .i64 j ∧ (∀ k, k < j → Fd.placeB (lat k) (lon k) = true) ∧ Below (w3.alloc (.cells #[.bool false, .bool false, .bool false, .int .i64 0] 153)).heap.size (w3.alloc (.cells #[.bool false, .bool false, .bool false, .int .i64 0] 153)) wr)
 case atStart => exact ⟨0, by omega, rfl, rfl, fun k hk => by omega, Below.refl _ _⟩
 case round =>
  obtain ⟨j, hj, rfl, rfl, hall, hB⟩ := hrel
  have HALL := Lib.hid hall; clear hall
  obtain ⟨t0, t1, t2, t3, t4, t5⟩ := (hP4.keep hB).six
  obtain ⟨f0, f1, f2, f3⟩ := (hF4.keep hB).four
  have hBw := below_up hB4 hB
  have hBx := below_up hB4' hB
  by_cases hlt : j < an
  ·obtain ⟨b1, off, rfl, hb1, hcell⟩ := HROW.out.keep hBx (by omega)
   obtain ⟨c0, c1⟩ := hcell j hlt
   clear hcell
   have HPB := Lib.hid (fun W => checkPlace_is (lat j) (lon j) W (Fd.placeB (lat j) (lon j)) rfl)
   have hBa := below_allocs hB (.cells #[.int .i64 (lat j), .int .i64 (lon j)] 112)
   cases hpl : Fd.placeB (lat j) (lon j)
   ·obtain rfl : q = 2 := by rw [← HQ.out]; exact Cnd.numE_place j hlt hpl
    rw [hpl, if_neg (by simp)] at HPB
    have HPLC := Lib.hid hpl; clear hpl
    go_wp2_with (go_at_call 110; refine (HPB.out _).mono ?_; rintro e w5 ⟨rfl, hB5⟩)
    go_ret
    exact ⟨rfl, below_up hB4 (below_up hBa hB5)⟩
   ·rw [hpl, if_pos rfl] at HPB
    have HPLC := Lib.hid hpl; clear hpl
    go_wp2_with (go_at_call 110; refine (HPB.out _).mono ?_; rintro e w5 ⟨rfl, hB5⟩)
    go_roundg (an - (j + 1))
    case rel => exact ⟨j + 1, by omega, rfl, by go_num, Fd.places_next HALL.out HPLC.out, below_up hBa hB5⟩
    case measure => omega
  ·obtain rfl : j = an := by omega
   go_wp2_with fail
   go_quiet (fail)
   go_wp2_with fail
   go_ret
   exact ⟨ret_int (by rw [← HQ.out]; exact (Cnd.numE_ok (fun h => by rw [HFL.out] at h; cases h) (fun h => by rw [HFH.out] at h; cases h) HALL.out (by rintro (⟨h, _⟩ | ⟨h, _⟩); (rw [HFH.out] at h; cases h); cases h)).symm), below_drewN hBw _⟩
theorem checkNums_C (op : Int) (ka : Option Addr) (kn kc : Nat) (text : ByteArray) (low high : Int) (aa : Option Addr) (an ac : Nat) (lat lon : Nat → Int) (w : World) (hkn : kn ≤ 9223372036854775807) (han : an ≤ 9223372036854775807) (hts : text.size ≤ 9223372036854775807) (hrow : Row2 w aa an (fun i => .int .i64 (lat i)) (fun i => .int .i64 (lon i))) (hf : Cnd.formB op kn an text low high = true) (q : Int) (hq : Cnd.numE op low high an lat lon = q) (hop : op = 4) : Calls Tryz.prog 68 #[.agg #[.int .i64 op, .slice ka kn kc, .string text, .int .i64 low, .int .i64 high, .slice aa an ac]] w fun e w' => e = .returned (.int .i64 q) ∧ Below w.heap.size w w' := by
 have HFM := Lib.hid (Cnd.formC_C op hop)
 have hat : Cnd.fAt op = 0 := by subst hop <;> rfl
 have HAN : Hid (an = 0) := Lib.hid (by have := Cnd.formB_an hf; rw [hat] at this; omega)
 clear hat
 have HFL : Cnd.fLow op = false := by subst hop <;> rfl
 have HFH : Cnd.fHigh op = false := by subst hop <;> rfl
 have HFL := Lib.hid HFL; have HFH := Lib.hid HFH; clear hf
 have HOP := Lib.hid hop; clear hop
 obtain ⟨W1, hW1, hP, hz1, hB1⟩ := box w #[.int .i64 op, .slice ka kn kc, .string text, .int .i64 low, .int .i64 high, .slice aa an ac] 25
 have HW1 := Lib.hid hW1
 clear hW1 hz1
 obtain ⟨q0, q1, q2, q3, q4, q5⟩ := hP.six
 obtain rfl : op = 4 := HOP.out
 have HROW := Lib.hid (hrow.keep hB1); have HQ := Lib.hid hq; clear hrow hq
 go_enter Tryz.func68, Tryz.ntmps68
 go_wp2_with fail
 rw [HW1.out]
 go_wp2_with (first | (go_at_call 107; refine (HFM.out _).mono ?_; rintro e w3 ⟨rfl, hB3⟩; have hlt3 := (hP.keep hB3).lt; have hP4 := (hP.keep hB3).alloc (.cells #[.bool true, .bool false, .bool false, .int .i64 0] 153); have hF4 := Blk.new w3 #[.bool true, .bool false, .bool false, .int .i64 0] 153; have hB4 := below_allocs (below_up hB1 hB3) (.cells #[.bool true, .bool false, .bool false, .int .i64 0] 153); have hB4' := below_allocs hB3 (.cells #[.bool true, .bool false, .bool false, .int .i64 0] 153); obtain ⟨t0, t1, t2, t3, t4, t5⟩ := hP4.six))
 clear t0 t1 t2 t3 t4 t5
 go_loopg [45] an (fun gk i wr => ∃ j : Nat, j ≤ an ∧ gk = an - j ∧ i = .int .i64 j ∧ (∀ k, k < j → Fd.placeB (lat k) (lon k) = true) ∧ Below (w3.alloc (.cells #[.bool true, .bool false, .bool false, .int .i64 0] 153)).heap.size (w3.alloc (.cells #[.bool true, .bool false, .bool false, .int .i64 0] 153)) wr)
 case atStart => exact ⟨0, by omega, rfl, rfl, fun k hk => by omega, Below.refl _ _⟩
 case round =>
  obtain ⟨j, hj, rfl, rfl, hall, hB⟩ := hrel
  have HALL := Lib.hid hall; clear hall
  obtain ⟨t0, t1, t2, t3, t4, t5⟩ := (hP4.keep hB).six
  obtain ⟨f0, f1, f2, f3⟩ := (hF4.keep hB).four
  have hBw := below_up hB4 hB
  have hBx := below_up hB4' hB
  by_cases hlt : j < an
  ·obtain ⟨b1, off, rfl, hb1, hcell⟩ := HROW.out.keep hBx (by omega)
   obtain ⟨c0, c1⟩ := hcell j hlt
   clear hcell
   have HPB := Lib.hid (fun W => checkPlace_is (lat j) (lon j) W (Fd.placeB (lat j) (lon j)) rfl)
   have hBa := below_allocs hB (.cells #[.int .i64 (lat j), .int .i64 (lon j)] 112)
   cases hpl : Fd.placeB (lat j) (lon j)
   ·obtain rfl : q = 2 := by rw [← HQ.out]; exact Cnd.numE_place j hlt hpl
    rw [hpl, if_neg (by simp)] at HPB
    have HPLC := Lib.hid hpl; clear hpl
    go_wp2_with (go_at_call 110; refine (HPB.out _).mono ?_; rintro e w5 ⟨rfl, hB5⟩)
    go_ret
    exact ⟨rfl, below_up hB4 (below_up hBa hB5)⟩
   ·rw [hpl, if_pos rfl] at HPB
    have HPLC := Lib.hid hpl; clear hpl
    go_wp2_with (go_at_call 110; refine (HPB.out _).mono ?_; rintro e w5 ⟨rfl, hB5⟩)
    go_roundg (an - (j + 1))
    case rel => exact ⟨j + 1, by omega, rfl, by go_num, Fd.places_next HALL.out HPLC.out, below_up hBa hB5⟩
    case measure => omega
  ·obtain rfl : j = an := by omega
   go_wp2_with fail
   go_quiet (fail)
   go_wp2_with fail
   go_ret
   exact ⟨ret_int (by rw [← HQ.out]; exact (Cnd.numE_ok (fun h => by rw [HFL.out] at h; cases h) (fun h => by rw [HFH.out] at h; cases h) HALL.out (by rintro (⟨h, _⟩ | ⟨h, _⟩); (rw [HFH.out] at h; cases h); cases h)).symm), below_drewN hBw _⟩
theorem checkNums_D (op : Int) (ka : Option Addr) (kn kc : Nat) (text : ByteArray) (low high : Int) (aa : Option Addr) (an ac : Nat) (lat lon : Nat → Int) (w : World) (hkn : kn ≤ 9223372036854775807) (han : an ≤ 9223372036854775807) (hts : text.size ≤ 9223372036854775807) (hrow : Row2 w aa an (fun i => .int .i64 (lat i)) (fun i => .int .i64 (lon i))) (hf : Cnd.formB op kn an text low high = true) (q : Int) (hq : Cnd.numE op low high an lat lon = q) (hop : op = 5) : Calls Tryz.prog 68 #[.agg #[.int .i64 op, .slice ka kn kc, .string text, .int .i64 low, .int .i64 high, .slice aa an ac]] w fun e w' => e = .returned (.int .i64 q) ∧ Below w.heap.size w w' := by
 have HFM := Lib.hid (Cnd.formC_D op hop)
 have hat : Cnd.fAt op = 0 := by subst hop <;> rfl
 have HAN : Hid (an = 0) := Lib.hid (by have := Cnd.formB_an hf; rw [hat] at this; omega)
 clear hat
 have HFL : Cnd.fLow op = false := by subst hop <;> rfl
 have HFH : Cnd.fHigh op = false := by subst hop <;> rfl
 have HFL := Lib.hid HFL; have HFH := Lib.hid HFH; clear hf
 have HOP := Lib.hid hop; clear hop
 obtain ⟨W1, hW1, hP, hz1, hB1⟩ := box w #[.int .i64 op, .slice ka kn kc, .string text, .int .i64 low, .int .i64 high, .slice aa an ac] 25
 have HW1 := Lib.hid hW1
 clear hW1 hz1
 obtain ⟨q0, q1, q2, q3, q4, q5⟩ := hP.six
 obtain rfl : op = 5 := HOP.out
 have HROW := Lib.hid (hrow.keep hB1); have HQ := Lib.hid hq; clear hrow hq
 go_enter Tryz.func68, Tryz.ntmps68
 go_wp2_with fail
 rw [HW1.out]
 go_wp2_with (first | (go_at_call 107; refine (HFM.out _).mono ?_; rintro e w3 ⟨rfl, hB3⟩; have hlt3 := (hP.keep hB3).lt; have hP4 := (hP.keep hB3).alloc (.cells #[.bool true, .bool false, .bool false, .int .i64 0] 153); have hF4 := Blk.new w3 #[.bool true, .bool false, .bool false, .int .i64 0] 153; have hB4 := below_allocs (below_up hB1 hB3) (.cells #[.bool true, .bool false, .bool false, .int .i64 0] 153); have hB4' := below_allocs hB3 (.cells #[.bool true, .bool false, .bool false, .int .i64 0] 153); obtain ⟨t0, t1, t2, t3, t4, t5⟩ := hP4.six))
 clear t0 t1 t2 t3 t4 t5
 go_loopg [45] an (fun gk i wr => ∃ j : Nat, j ≤ an ∧ gk = an - j ∧ i = .int .i64 j ∧ (∀ k, k < j → Fd.placeB (lat k) (lon k) = true) ∧ Below (w3.alloc (.cells #[.bool true, .bool false, .bool false, .int .i64 0] 153)).heap.size (w3.alloc (.cells #[.bool true, .bool false, .bool false, .int .i64 0] 153)) wr)
 case atStart => exact ⟨0, by omega, rfl, rfl, fun k hk => by omega, Below.refl _ _⟩
 case round =>
  obtain ⟨j, hj, rfl, rfl, hall, hB⟩ := hrel
  have HALL := Lib.hid hall; clear hall
  obtain ⟨t0, t1, t2, t3, t4, t5⟩ := (hP4.keep hB).six
  obtain ⟨f0, f1, f2, f3⟩ := (hF4.keep hB).four
  have hBw := below_up hB4 hB
  have hBx := below_up hB4' hB
  by_cases hlt : j < an
  ·obtain ⟨b1, off, rfl, hb1, hcell⟩ := HROW.out.keep hBx (by omega)
   obtain ⟨c0, c1⟩ := hcell j hlt
   clear hcell
   have HPB := Lib.hid (fun W => checkPlace_is (lat j) (lon j) W (Fd.placeB (lat j) (lon j)) rfl)
   have hBa := below_allocs hB (.cells #[.int .i64 (lat j), .int .i64 (lon j)] 112)
   cases hpl : Fd.placeB (lat j) (lon j)
   ·obtain rfl : q = 2 := by rw [← HQ.out]; exact Cnd.numE_place j hlt hpl
    rw [hpl, if_neg (by simp)] at HPB
    have HPLC := Lib.hid hpl; clear hpl
    go_wp2_with (go_at_call 110; refine (HPB.out _).mono ?_; rintro e w5 ⟨rfl, hB5⟩)
    go_ret
    exact ⟨rfl, below_up hB4 (below_up hBa hB5)⟩
   ·rw [hpl, if_pos rfl] at HPB
    have HPLC := Lib.hid hpl; clear hpl
    go_wp2_with (go_at_call 110; refine (HPB.out _).mono ?_; rintro e w5 ⟨rfl, hB5⟩)
    go_roundg (an - (j + 1))
    case rel => exact ⟨j + 1, by omega, rfl, by go_num, Fd.places_next HALL.out HPLC.out, below_up hBa hB5⟩
    case measure => omega
  ·obtain rfl : j = an := by omega
   go_wp2_with fail
   go_quiet (fail)
   go_wp2_with fail
   go_ret
   exact ⟨ret_int (by rw [← HQ.out]; exact (Cnd.numE_ok (fun h => by rw [HFL.out] at h; cases h) (fun h => by rw [HFH.out] at h; cases h) HALL.out (by rintro (⟨h, _⟩ | ⟨h, _⟩); (rw [HFH.out] at h; cases h); cases h)).symm), below_drewN hBw _⟩
theorem checkNums_E (op : Int) (ka : Option Addr) (kn kc : Nat) (text : ByteArray) (low high : Int) (aa : Option Addr) (an ac : Nat) (lat lon : Nat → Int) (w : World) (hkn : kn ≤ 9223372036854775807) (han : an ≤ 9223372036854775807) (hts : text.size ≤ 9223372036854775807) (hrow : Row2 w aa an (fun i => .int .i64 (lat i)) (fun i => .int .i64 (lon i))) (hf : Cnd.formB op kn an text low high = true) (q : Int) (hq : Cnd.numE op low high an lat lon = q) (hop : op = 6) : Calls Tryz.prog 68 #[.agg #[.int .i64 op, .slice ka kn kc, .string text, .int .i64 low, .int .i64 high, .slice aa an ac]] w fun e w' => e = .returned (.int .i64 q) ∧ Below w.heap.size w w' := by
 have HFM := Lib.hid (Cnd.formC_E op hop)
 have hat : Cnd.fAt op = 0 := by subst hop <;> rfl
 have HAN : Hid (an = 0) := Lib.hid (by have := Cnd.formB_an hf; rw [hat] at this; omega)
 clear hat
 have HFL : Cnd.fLow op = true := by subst hop <;> rfl
 have HFH : Cnd.fHigh op = false := by subst hop <;> rfl
 have HFL := Lib.hid HFL; have HFH := Lib.hid HFH; clear hf
 have HOP := Lib.hid hop; clear hop
 obtain ⟨W1, hW1, hP, hz1, hB1⟩ := box w #[.int .i64 op, .slice ka kn kc, .string text, .int .i64 low, .int .i64 high, .slice aa an ac] 25
 have HW1 := Lib.hid hW1
 clear hW1 hz1
 obtain ⟨q0, q1, q2, q3, q4, q5⟩ := hP.six
 obtain rfl : op = 6 := HOP.out
 have HROW := Lib.hid (hrow.keep hB1); have HQ := Lib.hid hq; clear hrow hq
 cases hl : decide (1 ≤ low ∧ low ≤ 1000000)
 ·have HL := Lib.hid hl; clear hl
  obtain rfl : q = 2 := by rw [← HQ.out]; exact Cnd.numE_low HFL.out (by simp only [Cnd.inB, Cnd.least, Cnd.most]; exact HL.out)
  go_enter Tryz.func68, Tryz.ntmps68
  go_wp2_with fail
  rw [HW1.out]
  go_wp2_with (first | (go_at_call 107; refine (HFM.out _).mono ?_; rintro e w3 ⟨rfl, hB3⟩; have hlt3 := (hP.keep hB3).lt; have hP4 := (hP.keep hB3).alloc (.cells #[.bool false, .bool true, .bool false, .int .i64 0] 153); have hF4 := Blk.new w3 #[.bool false, .bool true, .bool false, .int .i64 0] 153; have hB4 := below_allocs (below_up hB1 hB3) (.cells #[.bool false, .bool true, .bool false, .int .i64 0] 153); have hB4' := below_allocs hB3 (.cells #[.bool false, .bool true, .bool false, .int .i64 0] 153); obtain ⟨t0, t1, t2, t3, t4, t5⟩ := hP4.six) | (go_at_call 32; (with_reducible refine (outsideF_is low 1 1000000 false HL.out _).mono ?_); rintro e w5 ⟨rfl, rfl⟩))
  go_ret
  exact ⟨rfl, hB4⟩
 ·have HL := Lib.hid hl; clear hl
  go_enter Tryz.func68, Tryz.ntmps68
  go_wp2_with fail
  rw [HW1.out]
  go_wp2_with (first | (go_at_call 107; refine (HFM.out _).mono ?_; rintro e w3 ⟨rfl, hB3⟩; have hlt3 := (hP.keep hB3).lt; have hP4 := (hP.keep hB3).alloc (.cells #[.bool false, .bool true, .bool false, .int .i64 0] 153); have hF4 := Blk.new w3 #[.bool false, .bool true, .bool false, .int .i64 0] 153; have hB4 := below_allocs (below_up hB1 hB3) (.cells #[.bool false, .bool true, .bool false, .int .i64 0] 153); have hB4' := below_allocs hB3 (.cells #[.bool false, .bool true, .bool false, .int .i64 0] 153); obtain ⟨t0, t1, t2, t3, t4, t5⟩ := hP4.six) | (go_at_call 32; (with_reducible refine (outsideF_is low 1 1000000 true HL.out _).mono ?_); rintro e w5 ⟨rfl, rfl⟩))
  clear t0 t1 t2 t3 t4 t5
  go_loopg [45] an (fun gk i wr => ∃ j : Nat, j ≤ an ∧ gk = an - j ∧ i = .int .i64 j ∧ (∀ k, k < j → Fd.placeB (lat k) (lon k) = true) ∧ Below (w3.alloc (.cells #[.bool false, .bool true, .bool false, .int .i64 0] 153)).heap.size (w3.alloc (.cells #[.bool false, .bool true, .bool false, .int .i64 0] 153)) wr)
  case atStart => exact ⟨0, by omega, rfl, rfl, fun k hk => by omega, Below.refl _ _⟩
  case round =>
   obtain ⟨j, hj, rfl, rfl, hall, hB⟩ := hrel
   have HALL := Lib.hid hall; clear hall
   obtain ⟨t0, t1, t2, t3, t4, t5⟩ := (hP4.keep hB).six
   obtain ⟨f0, f1, f2, f3⟩ := (hF4.keep hB).four
   have hBw := below_up hB4 hB
   have hBx := below_up hB4' hB
   by_cases hlt : j < an
   ·obtain ⟨b1, off, rfl, hb1, hcell⟩ := HROW.out.keep hBx (by omega)
    obtain ⟨c0, c1⟩ := hcell j hlt
    clear hcell
    have HPB := Lib.hid (fun W => checkPlace_is (lat j) (lon j) W (Fd.placeB (lat j) (lon j)) rfl)
    have hBa := below_allocs hB (.cells #[.int .i64 (lat j), .int .i64 (lon j)] 112)
    cases hpl : Fd.placeB (lat j) (lon j)
    ·obtain rfl : q = 2 := by rw [← HQ.out]; exact Cnd.numE_place j hlt hpl
     rw [hpl, if_neg (by simp)] at HPB
     have HPLC := Lib.hid hpl; clear hpl
     go_wp2_with (go_at_call 110; refine (HPB.out _).mono ?_; rintro e w5 ⟨rfl, hB5⟩)
     go_ret
     exact ⟨rfl, below_up hB4 (below_up hBa hB5)⟩
    ·rw [hpl, if_pos rfl] at HPB
     have HPLC := Lib.hid hpl; clear hpl
     go_wp2_with (go_at_call 110; refine (HPB.out _).mono ?_; rintro e w5 ⟨rfl, hB5⟩)
     go_roundg (an - (j + 1))
     case rel => exact ⟨j + 1, by omega, rfl, by go_num, Fd.places_next HALL.out HPLC.out, below_up hBa hB5⟩
     case measure => omega
   ·obtain rfl : j = an := by omega
    go_wp2_with fail
    go_quiet (fail)
    go_wp2_with fail
    go_ret
    exact ⟨ret_int (by rw [← HQ.out]; exact (Cnd.numE_ok (fun _ => (by simp only [Cnd.inB, Cnd.least, Cnd.most]; exact HL.out)) (fun h => by rw [HFH.out] at h; cases h) HALL.out (by rintro (⟨h, _⟩ | ⟨h, _⟩); (rw [HFH.out] at h; cases h); cases h)).symm), below_drewN hBw _⟩
theorem checkNums_H (op : Int) (ka : Option Addr) (kn kc : Nat) (text : ByteArray) (low high : Int) (aa : Option Addr) (an ac : Nat) (lat lon : Nat → Int) (w : World) (hkn : kn ≤ 9223372036854775807) (han : an ≤ 9223372036854775807) (hts : text.size ≤ 9223372036854775807) (hrow : Row2 w aa an (fun i => .int .i64 (lat i)) (fun i => .int .i64 (lon i))) (hf : Cnd.formB op kn an text low high = true) (q : Int) (hq : Cnd.numE op low high an lat lon = q) (hop : op = 9 ∨ op = 10 ∨ op = 11 ∨ op = 12 ∨ op = 13 ∨ op = 16) : Calls Tryz.prog 68 #[.agg #[.int .i64 op, .slice ka kn kc, .string text, .int .i64 low, .int .i64 high, .slice aa an ac]] w fun e w' => e = .returned (.int .i64 q) ∧ Below w.heap.size w w' := by
 have HFM := Lib.hid (Cnd.formC_H op hop)
 have hat : Cnd.fAt op = 0 := by rcases hop with rfl | rfl | rfl | rfl | rfl | rfl <;> rfl
 have HAN : Hid (an = 0) := Lib.hid (by have := Cnd.formB_an hf; rw [hat] at this; omega)
 clear hat
 have HFL : Cnd.fLow op = false := by rcases hop with rfl | rfl | rfl | rfl | rfl | rfl <;> rfl
 have HFH : Cnd.fHigh op = false := by rcases hop with rfl | rfl | rfl | rfl | rfl | rfl <;> rfl
 have HFL := Lib.hid HFL; have HFH := Lib.hid HFH; clear hf
 have op3 : (op == 3) = false := by rcases hop with rfl | rfl | rfl | rfl | rfl | rfl <;> rfl
 have op14 : (op == 14) = false := by rcases hop with rfl | rfl | rfl | rfl | rfl | rfl <;> rfl
 have op15 : (op == 15) = false := by rcases hop with rfl | rfl | rfl | rfl | rfl | rfl <;> rfl
 have op4 : (op == 4) = false := by rcases hop with rfl | rfl | rfl | rfl | rfl | rfl <;> rfl
 have op5 : (op == 5) = false := by rcases hop with rfl | rfl | rfl | rfl | rfl | rfl <;> rfl
 have op6 : (op == 6) = false := by rcases hop with rfl | rfl | rfl | rfl | rfl | rfl <;> rfl
 have op7 : (op == 7) = false := by rcases hop with rfl | rfl | rfl | rfl | rfl | rfl <;> rfl
 have op8 : (op == 8) = false := by rcases hop with rfl | rfl | rfl | rfl | rfl | rfl <;> rfl
 have opg : (4 : Int) ≤ op := by omega
 have opl : ¬ op < 1 := by omega
 have opm : ¬ (16 : Int) < op := by omega
 have HOP := Lib.hid hop; clear hop
 obtain ⟨W1, hW1, hP, hz1, hB1⟩ := box w #[.int .i64 op, .slice ka kn kc, .string text, .int .i64 low, .int .i64 high, .slice aa an ac] 25
 have HW1 := Lib.hid hW1
 clear hW1 hz1
 obtain ⟨q0, q1, q2, q3, q4, q5⟩ := hP.six
 have HROW := Lib.hid (hrow.keep hB1); have HQ := Lib.hid hq; clear hrow hq
 go_enter Tryz.func68, Tryz.ntmps68
 go_wp2_with fail
 rw [HW1.out]
 go_wp2_with (first | (go_at_call 107; refine (HFM.out _).mono ?_; rintro e w3 ⟨rfl, hB3⟩; have hlt3 := (hP.keep hB3).lt; have hP4 := (hP.keep hB3).alloc (.cells #[.bool false, .bool false, .bool false, .int .i64 0] 153); have hF4 := Blk.new w3 #[.bool false, .bool false, .bool false, .int .i64 0] 153; have hB4 := below_allocs (below_up hB1 hB3) (.cells #[.bool false, .bool false, .bool false, .int .i64 0] 153); have hB4' := below_allocs hB3 (.cells #[.bool false, .bool false, .bool false, .int .i64 0] 153); obtain ⟨t0, t1, t2, t3, t4, t5⟩ := hP4.six))
 clear t0 t1 t2 t3 t4 t5
 go_loopg [45] an (fun gk i wr => ∃ j : Nat, j ≤ an ∧ gk = an - j ∧ i = .int .i64 j ∧ (∀ k, k < j → Fd.placeB (lat k) (lon k) = true) ∧ Below (w3.alloc (.cells #[.bool false, .bool false, .bool false, .int .i64 0] 153)).heap.size (w3.alloc (.cells #[.bool false, .bool false, .bool false, .int .i64 0] 153)) wr)
 case atStart => exact ⟨0, by omega, rfl, rfl, fun k hk => by omega, Below.refl _ _⟩
 case round =>
  obtain ⟨j, hj, rfl, rfl, hall, hB⟩ := hrel
  have HALL := Lib.hid hall; clear hall
  obtain ⟨t0, t1, t2, t3, t4, t5⟩ := (hP4.keep hB).six
  obtain ⟨f0, f1, f2, f3⟩ := (hF4.keep hB).four
  have hBw := below_up hB4 hB
  have hBx := below_up hB4' hB
  by_cases hlt : j < an
  ·obtain ⟨b1, off, rfl, hb1, hcell⟩ := HROW.out.keep hBx (by omega)
   obtain ⟨c0, c1⟩ := hcell j hlt
   clear hcell
   have HPB := Lib.hid (fun W => checkPlace_is (lat j) (lon j) W (Fd.placeB (lat j) (lon j)) rfl)
   have hBa := below_allocs hB (.cells #[.int .i64 (lat j), .int .i64 (lon j)] 112)
   cases hpl : Fd.placeB (lat j) (lon j)
   ·obtain rfl : q = 2 := by rw [← HQ.out]; exact Cnd.numE_place j hlt hpl
    rw [hpl, if_neg (by simp)] at HPB
    have HPLC := Lib.hid hpl; clear hpl
    go_wp2_with (go_at_call 110; refine (HPB.out _).mono ?_; rintro e w5 ⟨rfl, hB5⟩)
    go_ret
    exact ⟨rfl, below_up hB4 (below_up hBa hB5)⟩
   ·rw [hpl, if_pos rfl] at HPB
    have HPLC := Lib.hid hpl; clear hpl
    go_wp2_with (go_at_call 110; refine (HPB.out _).mono ?_; rintro e w5 ⟨rfl, hB5⟩)
    go_roundg (an - (j + 1))
    case rel => exact ⟨j + 1, by omega, rfl, by go_num, Fd.places_next HALL.out HPLC.out, below_up hBa hB5⟩
    case measure => omega
  ·obtain rfl : j = an := by omega
   go_wp2_with fail
   go_quiet (fail)
   go_wp2_with fail
   go_ret
   exact ⟨ret_int (by rw [← HQ.out]; exact (Cnd.numE_ok (fun h => by rw [HFL.out] at h; cases h) (fun h => by rw [HFH.out] at h; cases h) HALL.out (by rintro (⟨h, _⟩ | ⟨h, _⟩); (rw [HFH.out] at h; cases h); (have h2 := op15; rw [h] at h2; cases h2))).symm), below_drewN hBw _⟩
theorem checkNums_F (op : Int) (ka : Option Addr) (kn kc : Nat) (text : ByteArray) (low high : Int) (aa : Option Addr) (an ac : Nat) (lat lon : Nat → Int) (w : World) (hkn : kn ≤ 9223372036854775807) (han : an ≤ 9223372036854775807) (hts : text.size ≤ 9223372036854775807) (hrow : Row2 w aa an (fun i => .int .i64 (lat i)) (fun i => .int .i64 (lon i))) (hf : Cnd.formB op kn an text low high = true) (q : Int) (hq : Cnd.numE op low high an lat lon = q) (hop : op = 7) : Calls Tryz.prog 68 #[.agg #[.int .i64 op, .slice ka kn kc, .string text, .int .i64 low, .int .i64 high, .slice aa an ac]] w fun e w' => e = .returned (.int .i64 q) ∧ Below w.heap.size w w' := by
 have HFM := Lib.hid (Cnd.formC_F op hop)
 have hat : Cnd.fAt op = 0 := by subst hop <;> rfl
 have HAN : Hid (an = 0) := Lib.hid (by have := Cnd.formB_an hf; rw [hat] at this; omega)
 clear hat
 have HFL : Cnd.fLow op = true := by subst hop <;> rfl
 have HFH : Cnd.fHigh op = true := by subst hop <;> rfl
 have HFL := Lib.hid HFL; have HFH := Lib.hid HFH; clear hf
 have HOP := Lib.hid hop; clear hop
 obtain ⟨W1, hW1, hP, hz1, hB1⟩ := box w #[.int .i64 op, .slice ka kn kc, .string text, .int .i64 low, .int .i64 high, .slice aa an ac] 25
 have HW1 := Lib.hid hW1
 clear hW1 hz1
 obtain ⟨q0, q1, q2, q3, q4, q5⟩ := hP.six
 obtain rfl : op = 7 := HOP.out
 have HROW := Lib.hid (hrow.keep hB1); have HQ := Lib.hid hq; clear hrow hq
 cases hl : decide (0 ≤ low ∧ low ≤ 5)
 ·have HL := Lib.hid hl; clear hl
  obtain rfl : q = 2 := by rw [← HQ.out]; exact Cnd.numE_low HFL.out (by simp only [Cnd.inB, Cnd.least, Cnd.most]; exact HL.out)
  go_enter Tryz.func68, Tryz.ntmps68
  go_wp2_with fail
  rw [HW1.out]
  go_wp2_with (first | (go_at_call 107; refine (HFM.out _).mono ?_; rintro e w3 ⟨rfl, hB3⟩; have hlt3 := (hP.keep hB3).lt; have hP4 := (hP.keep hB3).alloc (.cells #[.bool false, .bool true, .bool true, .int .i64 0] 153); have hF4 := Blk.new w3 #[.bool false, .bool true, .bool true, .int .i64 0] 153; have hB4 := below_allocs (below_up hB1 hB3) (.cells #[.bool false, .bool true, .bool true, .int .i64 0] 153); have hB4' := below_allocs hB3 (.cells #[.bool false, .bool true, .bool true, .int .i64 0] 153); obtain ⟨t0, t1, t2, t3, t4, t5⟩ := hP4.six) | (go_at_call 32; (with_reducible refine (outsideF_is low 0 5 false HL.out _).mono ?_); rintro e w5 ⟨rfl, rfl⟩))
  go_ret
  exact ⟨rfl, hB4⟩
 ·have HL := Lib.hid hl; clear hl
  cases hh : decide (0 ≤ high ∧ high ≤ 5)
  ·have HH := Lib.hid hh; clear hh
   obtain rfl : q = 2 := by rw [← HQ.out]; exact Cnd.numE_high HFH.out (by simp only [Cnd.inB, Cnd.least, Cnd.most]; exact HH.out)
   go_enter Tryz.func68, Tryz.ntmps68
   go_wp2_with fail
   rw [HW1.out]
   go_wp2_with (first | (go_at_call 107; refine (HFM.out _).mono ?_; rintro e w3 ⟨rfl, hB3⟩; have hlt3 := (hP.keep hB3).lt; have hP4 := (hP.keep hB3).alloc (.cells #[.bool false, .bool true, .bool true, .int .i64 0] 153); have hF4 := Blk.new w3 #[.bool false, .bool true, .bool true, .int .i64 0] 153; have hB4 := below_allocs (below_up hB1 hB3) (.cells #[.bool false, .bool true, .bool true, .int .i64 0] 153); have hB4' := below_allocs hB3 (.cells #[.bool false, .bool true, .bool true, .int .i64 0] 153); obtain ⟨t0, t1, t2, t3, t4, t5⟩ := hP4.six) | (go_at_call 32; (with_reducible refine (outsideF_is low 0 5 true HL.out _).mono ?_); rintro e w5 ⟨rfl, rfl⟩) | (go_at_call 32; (with_reducible refine (outsideF_is high 0 5 false HH.out _).mono ?_); rintro e w5 ⟨rfl, rfl⟩))
   go_ret
   exact ⟨rfl, hB4⟩
  ·have HH := Lib.hid hh; clear hh
   go_enter Tryz.func68, Tryz.ntmps68
   go_wp2_with fail
   rw [HW1.out]
   go_wp2_with (first | (go_at_call 107; refine (HFM.out _).mono ?_; rintro e w3 ⟨rfl, hB3⟩; have hlt3 := (hP.keep hB3).lt; have hP4 := (hP.keep hB3).alloc (.cells #[.bool false, .bool true, .bool true, .int .i64 0] 153); have hF4 := Blk.new w3 #[.bool false, .bool true, .bool true, .int .i64 0] 153; have hB4 := below_allocs (below_up hB1 hB3) (.cells #[.bool false, .bool true, .bool true, .int .i64 0] 153); have hB4' := below_allocs hB3 (.cells #[.bool false, .bool true, .bool true, .int .i64 0] 153); obtain ⟨t0, t1, t2, t3, t4, t5⟩ := hP4.six) | (go_at_call 32; (with_reducible refine (outsideF_is low 0 5 true HL.out _).mono ?_); rintro e w5 ⟨rfl, rfl⟩) | (go_at_call 32; (with_reducible refine (outsideF_is high 0 5 true HH.out _).mono ?_); rintro e w5 ⟨rfl, rfl⟩))
   clear t0 t1 t2 t3 t4 t5
   go_loopg [45] an (fun gk i wr => ∃ j : Nat, j ≤ an ∧ gk = an - j ∧ i = .int .i64 j ∧ (∀ k, k < j → Fd.placeB (lat k) (lon k) = true) ∧ Below (w3.alloc (.cells #[.bool false, .bool true, .bool true, .int .i64 0] 153)).heap.size (w3.alloc (.cells #[.bool false, .bool true, .bool true, .int .i64 0] 153)) wr)
   case atStart => exact ⟨0, by omega, rfl, rfl, fun k hk => by omega, Below.refl _ _⟩
   case round =>
    obtain ⟨j, hj, rfl, rfl, hall, hB⟩ := hrel
    have HALL := Lib.hid hall; clear hall
    obtain ⟨t0, t1, t2, t3, t4, t5⟩ := (hP4.keep hB).six
    obtain ⟨f0, f1, f2, f3⟩ := (hF4.keep hB).four
    have hBw := below_up hB4 hB
    have hBx := below_up hB4' hB
    by_cases hlt : j < an
    ·obtain ⟨b1, off, rfl, hb1, hcell⟩ := HROW.out.keep hBx (by omega)
     obtain ⟨c0, c1⟩ := hcell j hlt
     clear hcell
     have HPB := Lib.hid (fun W => checkPlace_is (lat j) (lon j) W (Fd.placeB (lat j) (lon j)) rfl)
     have hBa := below_allocs hB (.cells #[.int .i64 (lat j), .int .i64 (lon j)] 112)
     cases hpl : Fd.placeB (lat j) (lon j)
     ·obtain rfl : q = 2 := by rw [← HQ.out]; exact Cnd.numE_place j hlt hpl
      rw [hpl, if_neg (by simp)] at HPB
      have HPLC := Lib.hid hpl; clear hpl
      go_wp2_with (go_at_call 110; refine (HPB.out _).mono ?_; rintro e w5 ⟨rfl, hB5⟩)
      go_ret
      exact ⟨rfl, below_up hB4 (below_up hBa hB5)⟩
     ·rw [hpl, if_pos rfl] at HPB
      have HPLC := Lib.hid hpl; clear hpl
      go_wp2_with (go_at_call 110; refine (HPB.out _).mono ?_; rintro e w5 ⟨rfl, hB5⟩)
      go_roundg (an - (j + 1))
      case rel => exact ⟨j + 1, by omega, rfl, by go_num, Fd.places_next HALL.out HPLC.out, below_up hBa hB5⟩
      case measure => omega
    ·obtain rfl : j = an := by omega
     by_cases ho : high < low
     ·have HO := Lib.hid ho
      have ho1 : decide (high < low) = true := decide_eq_true ho
      go_wp2_with fail
      go_quiet (fail)
      go_wp2_with fail
      go_ret
      exact ⟨ret_int (by rw [← HQ.out]; exact (Cnd.numE_ord (fun _ => (by simp only [Cnd.inB, Cnd.least, Cnd.most]; exact HL.out)) (fun _ => (by simp only [Cnd.inB, Cnd.least, Cnd.most]; exact HH.out)) HALL.out (.inl ⟨HFH.out, HO.out⟩)).symm), below_drewN hBw _⟩
     ·have HO := Lib.hid ho
      have ho1 : decide (high < low) = false := decide_eq_false ho
      have ho2 : (high < low) = False := eq_false ho
      clear ho
      go_wp2_with fail
      go_quiet (fail)
      go_wp2_with fail
      go_ret
      exact ⟨ret_int (by rw [← HQ.out]; exact (Cnd.numE_ok (fun _ => (by simp only [Cnd.inB, Cnd.least, Cnd.most]; exact HL.out)) (fun _ => (by simp only [Cnd.inB, Cnd.least, Cnd.most]; exact HH.out)) HALL.out (by have hq := HO.out; rintro (⟨_, h⟩ | ⟨h, _⟩); omega; cases h)).symm), below_drewN hBw _⟩
theorem checkNums_G (op : Int) (ka : Option Addr) (kn kc : Nat) (text : ByteArray) (low high : Int) (aa : Option Addr) (an ac : Nat) (lat lon : Nat → Int) (w : World) (hkn : kn ≤ 9223372036854775807) (han : an ≤ 9223372036854775807) (hts : text.size ≤ 9223372036854775807) (hrow : Row2 w aa an (fun i => .int .i64 (lat i)) (fun i => .int .i64 (lon i))) (hf : Cnd.formB op kn an text low high = true) (q : Int) (hq : Cnd.numE op low high an lat lon = q) (hop : op = 8) : Calls Tryz.prog 68 #[.agg #[.int .i64 op, .slice ka kn kc, .string text, .int .i64 low, .int .i64 high, .slice aa an ac]] w fun e w' => e = .returned (.int .i64 q) ∧ Below w.heap.size w w' := by
 have HFM := Lib.hid (Cnd.formC_G op hop)
 have hat : Cnd.fAt op = 0 := by subst hop <;> rfl
 have HAN : Hid (an = 0) := Lib.hid (by have := Cnd.formB_an hf; rw [hat] at this; omega)
 clear hat
 have HFL : Cnd.fLow op = true := by subst hop <;> rfl
 have HFH : Cnd.fHigh op = true := by subst hop <;> rfl
 have HFL := Lib.hid HFL; have HFH := Lib.hid HFH; clear hf
 have HOP := Lib.hid hop; clear hop
 obtain ⟨W1, hW1, hP, hz1, hB1⟩ := box w #[.int .i64 op, .slice ka kn kc, .string text, .int .i64 low, .int .i64 high, .slice aa an ac] 25
 have HW1 := Lib.hid hW1
 clear hW1 hz1
 obtain ⟨q0, q1, q2, q3, q4, q5⟩ := hP.six
 obtain rfl : op = 8 := HOP.out
 have HROW := Lib.hid (hrow.keep hB1); have HQ := Lib.hid hq; clear hrow hq
 cases hl : decide (0 ≤ low ∧ low ≤ 6311433599)
 ·have HL := Lib.hid hl; clear hl
  obtain rfl : q = 2 := by rw [← HQ.out]; exact Cnd.numE_low HFL.out (by simp only [Cnd.inB, Cnd.least, Cnd.most]; exact HL.out)
  go_enter Tryz.func68, Tryz.ntmps68
  go_wp2_with fail
  rw [HW1.out]
  go_wp2_with (first | (go_at_call 107; refine (HFM.out _).mono ?_; rintro e w3 ⟨rfl, hB3⟩; have hlt3 := (hP.keep hB3).lt; have hP4 := (hP.keep hB3).alloc (.cells #[.bool false, .bool true, .bool true, .int .i64 0] 153); have hF4 := Blk.new w3 #[.bool false, .bool true, .bool true, .int .i64 0] 153; have hB4 := below_allocs (below_up hB1 hB3) (.cells #[.bool false, .bool true, .bool true, .int .i64 0] 153); have hB4' := below_allocs hB3 (.cells #[.bool false, .bool true, .bool true, .int .i64 0] 153); obtain ⟨t0, t1, t2, t3, t4, t5⟩ := hP4.six) | (go_at_call 32; (with_reducible refine (outsideF_is low 0 6311433599 false HL.out _).mono ?_); rintro e w5 ⟨rfl, rfl⟩))
  go_ret
  exact ⟨rfl, hB4⟩
 ·have HL := Lib.hid hl; clear hl
  cases hh : decide (0 ≤ high ∧ high ≤ 6311433599)
  ·have HH := Lib.hid hh; clear hh
   obtain rfl : q = 2 := by rw [← HQ.out]; exact Cnd.numE_high HFH.out (by simp only [Cnd.inB, Cnd.least, Cnd.most]; exact HH.out)
   go_enter Tryz.func68, Tryz.ntmps68
   go_wp2_with fail
   rw [HW1.out]
   go_wp2_with (first | (go_at_call 107; refine (HFM.out _).mono ?_; rintro e w3 ⟨rfl, hB3⟩; have hlt3 := (hP.keep hB3).lt; have hP4 := (hP.keep hB3).alloc (.cells #[.bool false, .bool true, .bool true, .int .i64 0] 153); have hF4 := Blk.new w3 #[.bool false, .bool true, .bool true, .int .i64 0] 153; have hB4 := below_allocs (below_up hB1 hB3) (.cells #[.bool false, .bool true, .bool true, .int .i64 0] 153); have hB4' := below_allocs hB3 (.cells #[.bool false, .bool true, .bool true, .int .i64 0] 153); obtain ⟨t0, t1, t2, t3, t4, t5⟩ := hP4.six) | (go_at_call 32; (with_reducible refine (outsideF_is low 0 6311433599 true HL.out _).mono ?_); rintro e w5 ⟨rfl, rfl⟩) | (go_at_call 32; (with_reducible refine (outsideF_is high 0 6311433599 false HH.out _).mono ?_); rintro e w5 ⟨rfl, rfl⟩))
   go_ret
   exact ⟨rfl, hB4⟩
  ·have HH := Lib.hid hh; clear hh
   go_enter Tryz.func68, Tryz.ntmps68
   go_wp2_with fail
   rw [HW1.out]
   go_wp2_with (first | (go_at_call 107; refine (HFM.out _).mono ?_; rintro e w3 ⟨rfl, hB3⟩; have hlt3 := (hP.keep hB3).lt; have hP4 := (hP.keep hB3).alloc (.cells #[.bool false, .bool true, .bool true, .int .i64 0] 153); have hF4 := Blk.new w3 #[.bool false, .bool true, .bool true, .int .i64 0] 153; have hB4 := below_allocs (below_up hB1 hB3) (.cells #[.bool false, .bool true, .bool true, .int .i64 0] 153); have hB4' := below_allocs hB3 (.cells #[.bool false, .bool true, .bool true, .int .i64 0] 153); obtain ⟨t0, t1, t2, t3, t4, t5⟩ := hP4.six) | (go_at_call 32; (with_reducible refine (outsideF_is low 0 6311433599 true HL.out _).mono ?_); rintro e w5 ⟨rfl, rfl⟩) | (go_at_call 32; (with_reducible refine (outsideF_is high 0 6311433599 true HH.out _).mono ?_); rintro e w5 ⟨rfl, rfl⟩))
   clear t0 t1 t2 t3 t4 t5
   go_loopg [45] an (fun gk i wr => ∃ j : Nat, j ≤ an ∧ gk = an - j ∧ i = .int .i64 j ∧ (∀ k, k < j → Fd.placeB (lat k) (lon k) = true) ∧ Below (w3.alloc (.cells #[.bool false, .bool true, .bool true, .int .i64 0] 153)).heap.size (w3.alloc (.cells #[.bool false, .bool true, .bool true, .int .i64 0] 153)) wr)
   case atStart => exact ⟨0, by omega, rfl, rfl, fun k hk => by omega, Below.refl _ _⟩
   case round =>
    obtain ⟨j, hj, rfl, rfl, hall, hB⟩ := hrel
    have HALL := Lib.hid hall; clear hall
    obtain ⟨t0, t1, t2, t3, t4, t5⟩ := (hP4.keep hB).six
    obtain ⟨f0, f1, f2, f3⟩ := (hF4.keep hB).four
    have hBw := below_up hB4 hB
    have hBx := below_up hB4' hB
    by_cases hlt : j < an
    ·obtain ⟨b1, off, rfl, hb1, hcell⟩ := HROW.out.keep hBx (by omega)
     obtain ⟨c0, c1⟩ := hcell j hlt
     clear hcell
     have HPB := Lib.hid (fun W => checkPlace_is (lat j) (lon j) W (Fd.placeB (lat j) (lon j)) rfl)
     have hBa := below_allocs hB (.cells #[.int .i64 (lat j), .int .i64 (lon j)] 112)
     cases hpl : Fd.placeB (lat j) (lon j)
     ·obtain rfl : q = 2 := by rw [← HQ.out]; exact Cnd.numE_place j hlt hpl
      rw [hpl, if_neg (by simp)] at HPB
      have HPLC := Lib.hid hpl; clear hpl
      go_wp2_with (go_at_call 110; refine (HPB.out _).mono ?_; rintro e w5 ⟨rfl, hB5⟩)
      go_ret
      exact ⟨rfl, below_up hB4 (below_up hBa hB5)⟩
     ·rw [hpl, if_pos rfl] at HPB
      have HPLC := Lib.hid hpl; clear hpl
      go_wp2_with (go_at_call 110; refine (HPB.out _).mono ?_; rintro e w5 ⟨rfl, hB5⟩)
      go_roundg (an - (j + 1))
      case rel => exact ⟨j + 1, by omega, rfl, by go_num, Fd.places_next HALL.out HPLC.out, below_up hBa hB5⟩
      case measure => omega
    ·obtain rfl : j = an := by omega
     by_cases ho : high < low
     ·have HO := Lib.hid ho
      have ho1 : decide (high < low) = true := decide_eq_true ho
      go_wp2_with fail
      go_quiet (fail)
      go_wp2_with fail
      go_ret
      exact ⟨ret_int (by rw [← HQ.out]; exact (Cnd.numE_ord (fun _ => (by simp only [Cnd.inB, Cnd.least, Cnd.most]; exact HL.out)) (fun _ => (by simp only [Cnd.inB, Cnd.least, Cnd.most]; exact HH.out)) HALL.out (.inl ⟨HFH.out, HO.out⟩)).symm), below_drewN hBw _⟩
     ·have HO := Lib.hid ho
      have ho1 : decide (high < low) = false := decide_eq_false ho
      have ho2 : (high < low) = False := eq_false ho
      clear ho
      go_wp2_with fail
      go_quiet (fail)
      go_wp2_with fail
      go_ret
      exact ⟨ret_int (by rw [← HQ.out]; exact (Cnd.numE_ok (fun _ => (by simp only [Cnd.inB, Cnd.least, Cnd.most]; exact HL.out)) (fun _ => (by simp only [Cnd.inB, Cnd.least, Cnd.most]; exact HH.out)) HALL.out (by have hq := HO.out; rintro (⟨_, h⟩ | ⟨h, _⟩); omega; cases h)).symm), below_drewN hBw _⟩
theorem checkNums_I (op : Int) (ka : Option Addr) (kn kc : Nat) (text : ByteArray) (low high : Int) (aa : Option Addr) (an ac : Nat) (lat lon : Nat → Int) (w : World) (hkn : kn ≤ 9223372036854775807) (han : an ≤ 9223372036854775807) (hts : text.size ≤ 9223372036854775807) (hrow : Row2 w aa an (fun i => .int .i64 (lat i)) (fun i => .int .i64 (lon i))) (hf : Cnd.formB op kn an text low high = true) (q : Int) (hq : Cnd.numE op low high an lat lon = q) (hop : op = 14) : Calls Tryz.prog 68 #[.agg #[.int .i64 op, .slice ka kn kc, .string text, .int .i64 low, .int .i64 high, .slice aa an ac]] w fun e w' => e = .returned (.int .i64 q) ∧ Below w.heap.size w w' := by
 have HFM := Lib.hid (Cnd.formC_I op hop)
 have hat : Cnd.fAt op = 1 := by subst hop <;> rfl
 have HAN : Hid (an = 1) := Lib.hid (by have := Cnd.formB_an hf; rw [hat] at this; omega)
 clear hat
 have HFL : Cnd.fLow op = true := by subst hop <;> rfl
 have HFH : Cnd.fHigh op = false := by subst hop <;> rfl
 have HFL := Lib.hid HFL; have HFH := Lib.hid HFH; clear hf
 have HOP := Lib.hid hop; clear hop
 obtain ⟨W1, hW1, hP, hz1, hB1⟩ := box w #[.int .i64 op, .slice ka kn kc, .string text, .int .i64 low, .int .i64 high, .slice aa an ac] 25
 have HW1 := Lib.hid hW1
 clear hW1 hz1
 obtain ⟨q0, q1, q2, q3, q4, q5⟩ := hP.six
 obtain rfl : op = 14 := HOP.out
 have HROW := Lib.hid (hrow.keep hB1); have HQ := Lib.hid hq; clear hrow hq
 cases hl : decide (0 ≤ low ∧ low ≤ 20100000)
 ·have HL := Lib.hid hl; clear hl
  obtain rfl : q = 2 := by rw [← HQ.out]; exact Cnd.numE_low HFL.out (by simp only [Cnd.inB, Cnd.least, Cnd.most]; exact HL.out)
  go_enter Tryz.func68, Tryz.ntmps68
  go_wp2_with fail
  rw [HW1.out]
  go_wp2_with (first | (go_at_call 107; refine (HFM.out _).mono ?_; rintro e w3 ⟨rfl, hB3⟩; have hlt3 := (hP.keep hB3).lt; have hP4 := (hP.keep hB3).alloc (.cells #[.bool false, .bool true, .bool false, .int .i64 1] 153); have hF4 := Blk.new w3 #[.bool false, .bool true, .bool false, .int .i64 1] 153; have hB4 := below_allocs (below_up hB1 hB3) (.cells #[.bool false, .bool true, .bool false, .int .i64 1] 153); have hB4' := below_allocs hB3 (.cells #[.bool false, .bool true, .bool false, .int .i64 1] 153); obtain ⟨t0, t1, t2, t3, t4, t5⟩ := hP4.six) | (go_at_call 32; (with_reducible refine (outsideF_is low 0 20100000 false HL.out _).mono ?_); rintro e w5 ⟨rfl, rfl⟩))
  go_ret
  exact ⟨rfl, hB4⟩
 ·have HL := Lib.hid hl; clear hl
  go_enter Tryz.func68, Tryz.ntmps68
  go_wp2_with fail
  rw [HW1.out]
  go_wp2_with (first | (go_at_call 107; refine (HFM.out _).mono ?_; rintro e w3 ⟨rfl, hB3⟩; have hlt3 := (hP.keep hB3).lt; have hP4 := (hP.keep hB3).alloc (.cells #[.bool false, .bool true, .bool false, .int .i64 1] 153); have hF4 := Blk.new w3 #[.bool false, .bool true, .bool false, .int .i64 1] 153; have hB4 := below_allocs (below_up hB1 hB3) (.cells #[.bool false, .bool true, .bool false, .int .i64 1] 153); have hB4' := below_allocs hB3 (.cells #[.bool false, .bool true, .bool false, .int .i64 1] 153); obtain ⟨t0, t1, t2, t3, t4, t5⟩ := hP4.six) | (go_at_call 32; (with_reducible refine (outsideF_is low 0 20100000 true HL.out _).mono ?_); rintro e w5 ⟨rfl, rfl⟩))
  clear t0 t1 t2 t3 t4 t5
  go_loopg [45] an (fun gk i wr => ∃ j : Nat, j ≤ an ∧ gk = an - j ∧ i = .int .i64 j ∧ (∀ k, k < j → Fd.placeB (lat k) (lon k) = true) ∧ Below (w3.alloc (.cells #[.bool false, .bool true, .bool false, .int .i64 1] 153)).heap.size (w3.alloc (.cells #[.bool false, .bool true, .bool false, .int .i64 1] 153)) wr)
  case atStart => exact ⟨0, by omega, rfl, rfl, fun k hk => by omega, Below.refl _ _⟩
  case round =>
   obtain ⟨j, hj, rfl, rfl, hall, hB⟩ := hrel
   have HALL := Lib.hid hall; clear hall
   obtain ⟨t0, t1, t2, t3, t4, t5⟩ := (hP4.keep hB).six
   obtain ⟨f0, f1, f2, f3⟩ := (hF4.keep hB).four
   have hBw := below_up hB4 hB
   have hBx := below_up hB4' hB
   by_cases hlt : j < an
   ·obtain ⟨b1, off, rfl, hb1, hcell⟩ := HROW.out.keep hBx (by omega)
    obtain ⟨c0, c1⟩ := hcell j hlt
    clear hcell
    have HPB := Lib.hid (fun W => checkPlace_is (lat j) (lon j) W (Fd.placeB (lat j) (lon j)) rfl)
    have hBa := below_allocs hB (.cells #[.int .i64 (lat j), .int .i64 (lon j)] 112)
    cases hpl : Fd.placeB (lat j) (lon j)
    ·obtain rfl : q = 2 := by rw [← HQ.out]; exact Cnd.numE_place j hlt hpl
     rw [hpl, if_neg (by simp)] at HPB
     have HPLC := Lib.hid hpl; clear hpl
     go_wp2_with (go_at_call 110; refine (HPB.out _).mono ?_; rintro e w5 ⟨rfl, hB5⟩)
     go_ret
     exact ⟨rfl, below_up hB4 (below_up hBa hB5)⟩
    ·rw [hpl, if_pos rfl] at HPB
     have HPLC := Lib.hid hpl; clear hpl
     go_wp2_with (go_at_call 110; refine (HPB.out _).mono ?_; rintro e w5 ⟨rfl, hB5⟩)
     go_roundg (an - (j + 1))
     case rel => exact ⟨j + 1, by omega, rfl, by go_num, Fd.places_next HALL.out HPLC.out, below_up hBa hB5⟩
     case measure => omega
   ·obtain rfl : j = an := by omega
    go_wp2_with fail
    go_quiet (fail)
    go_wp2_with fail
    go_ret
    exact ⟨ret_int (by rw [← HQ.out]; exact (Cnd.numE_ok (fun _ => (by simp only [Cnd.inB, Cnd.least, Cnd.most]; exact HL.out)) (fun h => by rw [HFH.out] at h; cases h) HALL.out (by rintro (⟨h, _⟩ | ⟨h, _⟩); (rw [HFH.out] at h; cases h); cases h)).symm), below_drewN hBw _⟩
theorem checkNums_J (op : Int) (ka : Option Addr) (kn kc : Nat) (text : ByteArray) (low high : Int) (aa : Option Addr) (an ac : Nat) (lat lon : Nat → Int) (w : World) (hkn : kn ≤ 9223372036854775807) (han : an ≤ 9223372036854775807) (hts : text.size ≤ 9223372036854775807) (hrow : Row2 w aa an (fun i => .int .i64 (lat i)) (fun i => .int .i64 (lon i))) (hf : Cnd.formB op kn an text low high = true) (q : Int) (hq : Cnd.numE op low high an lat lon = q) (hop : op = 15) : Calls Tryz.prog 68 #[.agg #[.int .i64 op, .slice ka kn kc, .string text, .int .i64 low, .int .i64 high, .slice aa an ac]] w fun e w' => e = .returned (.int .i64 q) ∧ Below w.heap.size w w' := by
 have HFM := Lib.hid (Cnd.formC_J op hop)
 have hat : Cnd.fAt op = 2 := by subst hop <;> rfl
 have HAN : Hid (an = 2) := Lib.hid (by have := Cnd.formB_an hf; rw [hat] at this; omega)
 clear hat
 have HFL : Cnd.fLow op = false := by subst hop <;> rfl
 have HFH : Cnd.fHigh op = false := by subst hop <;> rfl
 have HFL := Lib.hid HFL; have HFH := Lib.hid HFH; clear hf
 have HOP := Lib.hid hop; clear hop
 obtain ⟨W1, hW1, hP, hz1, hB1⟩ := box w #[.int .i64 op, .slice ka kn kc, .string text, .int .i64 low, .int .i64 high, .slice aa an ac] 25
 have HW1 := Lib.hid hW1
 clear hW1 hz1
 obtain ⟨q0, q1, q2, q3, q4, q5⟩ := hP.six
 obtain rfl : op = 15 := HOP.out
 have HROW := Lib.hid (hrow.keep hB1); have HQ := Lib.hid hq; clear hrow hq
 go_enter Tryz.func68, Tryz.ntmps68
 go_wp2_with fail
 rw [HW1.out]
 go_wp2_with (first | (go_at_call 107; refine (HFM.out _).mono ?_; rintro e w3 ⟨rfl, hB3⟩; have hlt3 := (hP.keep hB3).lt; have hP4 := (hP.keep hB3).alloc (.cells #[.bool false, .bool false, .bool false, .int .i64 2] 153); have hF4 := Blk.new w3 #[.bool false, .bool false, .bool false, .int .i64 2] 153; have hB4 := below_allocs (below_up hB1 hB3) (.cells #[.bool false, .bool false, .bool false, .int .i64 2] 153); have hB4' := below_allocs hB3 (.cells #[.bool false, .bool false, .bool false, .int .i64 2] 153); obtain ⟨t0, t1, t2, t3, t4, t5⟩ := hP4.six))
 clear t0 t1 t2 t3 t4 t5
 go_loopg [45] an (fun gk i wr => ∃ j : Nat, j ≤ an ∧ gk = an - j ∧ i = .int .i64 j ∧ (∀ k, k < j → Fd.placeB (lat k) (lon k) = true) ∧ Below (w3.alloc (.cells #[.bool false, .bool false, .bool false, .int .i64 2] 153)).heap.size (w3.alloc (.cells #[.bool false, .bool false, .bool false, .int .i64 2] 153)) wr)
 case atStart => exact ⟨0, by omega, rfl, rfl, fun k hk => by omega, Below.refl _ _⟩
 case round =>
  obtain ⟨j, hj, rfl, rfl, hall, hB⟩ := hrel
  have HALL := Lib.hid hall; clear hall
  obtain ⟨t0, t1, t2, t3, t4, t5⟩ := (hP4.keep hB).six
  obtain ⟨f0, f1, f2, f3⟩ := (hF4.keep hB).four
  have hBw := below_up hB4 hB
  have hBx := below_up hB4' hB
  by_cases hlt : j < an
  ·obtain ⟨b1, off, rfl, hb1, hcell⟩ := HROW.out.keep hBx (by omega)
   obtain ⟨c0, c1⟩ := hcell j hlt
   clear hcell
   have HPB := Lib.hid (fun W => checkPlace_is (lat j) (lon j) W (Fd.placeB (lat j) (lon j)) rfl)
   have hBa := below_allocs hB (.cells #[.int .i64 (lat j), .int .i64 (lon j)] 112)
   cases hpl : Fd.placeB (lat j) (lon j)
   ·obtain rfl : q = 2 := by rw [← HQ.out]; exact Cnd.numE_place j hlt hpl
    rw [hpl, if_neg (by simp)] at HPB
    have HPLC := Lib.hid hpl; clear hpl
    go_wp2_with (go_at_call 110; refine (HPB.out _).mono ?_; rintro e w5 ⟨rfl, hB5⟩)
    go_ret
    exact ⟨rfl, below_up hB4 (below_up hBa hB5)⟩
   ·rw [hpl, if_pos rfl] at HPB
    have HPLC := Lib.hid hpl; clear hpl
    go_wp2_with (go_at_call 110; refine (HPB.out _).mono ?_; rintro e w5 ⟨rfl, hB5⟩)
    go_roundg (an - (j + 1))
    case rel => exact ⟨j + 1, by omega, rfl, by go_num, Fd.places_next HALL.out HPLC.out, below_up hBa hB5⟩
    case measure => omega
  ·obtain rfl : an = j := by omega
   obtain ⟨b1, off, rfl, hb1, hcell⟩ := HROW.out.keep hBx (by have := HAN.out; omega)
   obtain ⟨c0, -⟩ := hcell 0 (by have := HAN.out; omega)
   obtain ⟨c1, -⟩ := hcell 1 (by have := HAN.out; omega)
   rw [Nat.zero_mul, Nat.add_zero] at c0
   rw [Nat.one_mul] at c1
   clear hcell
   have hn0 : (0 : Int) < (an : Int) := by have := HAN.out; omega
   have hn1 : (1 : Int) < (an : Int) := by have := HAN.out; omega
   by_cases ho : lat 1 < lat 0
   ·have HO := Lib.hid ho
    have ho1 : decide (lat 1 < lat 0) = true := decide_eq_true ho
    go_wp2_with fail
    go_quiet (fail)
    go_wp2_with fail
    go_ret
    exact ⟨ret_int (by rw [← HQ.out]; exact (Cnd.numE_ord (fun h => by rw [HFL.out] at h; cases h) (fun h => by rw [HFH.out] at h; cases h) HALL.out (.inr ⟨rfl, HO.out⟩)).symm), below_drewN hBw _⟩
   ·have HO := Lib.hid ho
    have ho1 : decide (lat 1 < lat 0) = false := decide_eq_false ho
    have ho2 : (lat 1 < lat 0) = False := eq_false ho
    clear ho
    go_wp2_with fail
    go_quiet (fail)
    go_wp2_with fail
    go_ret
    exact ⟨ret_int (by rw [← HQ.out]; exact (Cnd.numE_ok (fun h => by rw [HFL.out] at h; cases h) (fun h => by rw [HFH.out] at h; cases h) HALL.out (by rintro (⟨h, _⟩ | ⟨_, h⟩); (rw [HFH.out] at h; cases h); (have hq := HO.out; omega))).symm), below_drewN hBw _⟩
end Go.Proofs.YtimjmjmpaicdbaaGreatDoor
