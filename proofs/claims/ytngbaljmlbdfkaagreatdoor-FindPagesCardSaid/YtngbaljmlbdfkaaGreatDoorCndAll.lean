/- checkForm, checkText, checkNumbers, condBare: all operations. -/
import Derived.Test.YtngbaljmlbdfkaaGreatDoorCndFm
import Derived.Test.YtngbaljmlbdfkaaGreatDoorCndNm
import Derived.Test.YtngbaljmlbdfkaaGreatDoorCndBr
import Derived.Test.YtngbaljmlbdfkaaGreatDoorCndK
namespace Go.Proofs.YtngbaljmlbdfkaaGreatDoor
open Go.RowKit Go.Sort
set_option linter.unusedVariables false
theorem Cnd.ops {op : Int} (h : 1 ≤ op ∧ op ≤ 16) : (op = 1 ∨ op = 2) ∨ op = 3 ∨ op = 4 ∨ op = 5 ∨ op = 6 ∨ op = 7 ∨ op = 8 ∨ (op = 9 ∨ op = 10 ∨ op = 11 ∨ op = 12 ∨ op = 13 ∨ op = 16) ∨ op = 14 ∨ op = 15 := by omega
theorem checkForm_is (op : Int) (ka : Option Addr) (kn kc : Nat) (text : ByteArray) (low high : Int) (aa : Option Addr) (an ac : Nat) (w : World) (hkn : kn ≤ 9223372036854775807) (han : an ≤ 9223372036854775807) (b : Bool) (hb : Cnd.formB op kn an text low high = b) (hop : 1 ≤ op ∧ op ≤ 16) : Calls Tryz.prog 83 #[.agg #[.int .i64 op, .slice ka kn kc, .string text, .int .i64 low, .int .i64 high, .slice aa an ac]] w fun e w' => e = .returned (.int .i64 (if b = true then 0 else 1)) ∧ Below w.heap.size w w' := by
  rcases Cnd.ops hop with h | h | h | h | h | h | h | h | h | h
  · exact checkForm_A _ _ _ _ _ _ _ _ _ _ w hkn han b hb h
  · exact checkForm_B _ _ _ _ _ _ _ _ _ _ w hkn han b hb h
  · exact checkForm_C _ _ _ _ _ _ _ _ _ _ w hkn han b hb h
  · exact checkForm_D _ _ _ _ _ _ _ _ _ _ w hkn han b hb h
  · exact checkForm_E _ _ _ _ _ _ _ _ _ _ w hkn han b hb h
  · exact checkForm_F _ _ _ _ _ _ _ _ _ _ w hkn han b hb h
  · exact checkForm_G _ _ _ _ _ _ _ _ _ _ w hkn han b hb h
  · exact checkForm_H _ _ _ _ _ _ _ _ _ _ w hkn han b hb h
  · exact checkForm_I _ _ _ _ _ _ _ _ _ _ w hkn han b hb h
  · exact checkForm_J _ _ _ _ _ _ _ _ _ _ w hkn han b hb h
theorem checkText_is (op : Int) (ka : Option Addr) (kn kc : Nat) (text : ByteArray) (low high : Int) (aa : Option Addr) (an ac : Nat) (w : World) (hkn : kn ≤ 9223372036854775807) (han : an ≤ 9223372036854775807) (hts : text.size ≤ 9223372036854775807) (q : Int) (hq : Cnd.textE op text = q) (hop : 1 ≤ op ∧ op ≤ 16) : Calls Tryz.prog 84 #[.agg #[.int .i64 op, .slice ka kn kc, .string text, .int .i64 low, .int .i64 high, .slice aa an ac]] w fun e w' => e = .returned (.int .i64 q) ∧ Below w.heap.size w w' := by
  rcases Cnd.ops hop with h | h | h | h | h | h | h | h | h | h
  · exact checkText_A _ _ _ _ _ _ _ _ _ _ w hkn han hts q hq h
  · exact checkText_B _ _ _ _ _ _ _ _ _ _ w hkn han hts q hq h
  · exact checkText_C _ _ _ _ _ _ _ _ _ _ w hkn han hts q hq h
  · exact checkText_D _ _ _ _ _ _ _ _ _ _ w hkn han hts q hq h
  · exact checkText_E _ _ _ _ _ _ _ _ _ _ w hkn han hts q hq h
  · exact checkText_F _ _ _ _ _ _ _ _ _ _ w hkn han hts q hq h
  · exact checkText_G _ _ _ _ _ _ _ _ _ _ w hkn han hts q hq h
  · exact checkText_H _ _ _ _ _ _ _ _ _ _ w hkn han hts q hq h
  · exact checkText_I _ _ _ _ _ _ _ _ _ _ w hkn han hts q hq h
  · exact checkText_J _ _ _ _ _ _ _ _ _ _ w hkn han hts q hq h
theorem checkNums_is (op : Int) (ka : Option Addr) (kn kc : Nat) (text : ByteArray) (low high : Int) (aa : Option Addr) (an ac : Nat) (lat lon : Nat → Int) (w : World) (hkn : kn ≤ 9223372036854775807) (han : an ≤ 9223372036854775807) (hts : text.size ≤ 9223372036854775807) (hrow : Row2 w aa an (fun i => .int .i64 (lat i)) (fun i => .int .i64 (lon i))) (hf : Cnd.formB op kn an text low high = true) (q : Int) (hq : Cnd.numE op low high an lat lon = q) (hop : 1 ≤ op ∧ op ≤ 16) : Calls Tryz.prog 85 #[.agg #[.int .i64 op, .slice ka kn kc, .string text, .int .i64 low, .int .i64 high, .slice aa an ac]] w fun e w' => e = .returned (.int .i64 q) ∧ Below w.heap.size w w' := by
  rcases Cnd.ops hop with h | h | h | h | h | h | h | h | h | h
  · exact checkNums_A _ _ _ _ _ _ _ _ _ _ lat lon w hkn han hts hrow hf q hq h
  · exact checkNums_B _ _ _ _ _ _ _ _ _ _ lat lon w hkn han hts hrow hf q hq h
  · exact checkNums_C _ _ _ _ _ _ _ _ _ _ lat lon w hkn han hts hrow hf q hq h
  · exact checkNums_D _ _ _ _ _ _ _ _ _ _ lat lon w hkn han hts hrow hf q hq h
  · exact checkNums_E _ _ _ _ _ _ _ _ _ _ lat lon w hkn han hts hrow hf q hq h
  · exact checkNums_F _ _ _ _ _ _ _ _ _ _ lat lon w hkn han hts hrow hf q hq h
  · exact checkNums_G _ _ _ _ _ _ _ _ _ _ lat lon w hkn han hts hrow hf q hq h
  · exact checkNums_H _ _ _ _ _ _ _ _ _ _ lat lon w hkn han hts hrow hf q hq h
  · exact checkNums_I _ _ _ _ _ _ _ _ _ _ lat lon w hkn han hts hrow hf q hq h
  · exact checkNums_J _ _ _ _ _ _ _ _ _ _ lat lon w hkn han hts hrow hf q hq h
set_option maxHeartbeats 1000000 in
set_option maxRecDepth 100000 in
theorem condBare_no (op : Int) (ka : Option Addr) (kn kc : Nat) (text : ByteArray) (low high : Int) (aa : Option Addr) (an ac : Nat) (w : World) (hop : ¬ (1 ≤ op ∧ op ≤ 16)) : Calls Tryz.prog 35 #[.agg #[.int .i64 op, .slice ka kn kc, .string text, .int .i64 low, .int .i64 high, .slice aa an ac]] w fun e w' => e = .returned (.int .i64 10) ∧ Below w.heap.size w w' := by
  -- a condition's box: W1, its 6 cells
  obtain ⟨W1, hW1, hP, hz1, hB1⟩ := box w #[.int .i64 op, .slice ka kn kc, .string text, .int .i64 low, .int .i64 high, .slice aa an ac] 26
  have HW1 := Lib.hid hW1
  clear hW1 hz1
  obtain ⟨q0, q1, q2, q3, q4, q5⟩ := hP.six
  by_cases h : op < 1
  · go_enter Tryz.func35, Tryz.ntmps35
    go_wp2_with fail
    rw [HW1.out]
    go_wp2_with fail
    go_ret
    exact ⟨rfl, hB1⟩
  · have h2 : (16 : Int) < op := by omega
    clear hop
    go_enter Tryz.func35, Tryz.ntmps35
    go_wp2_with fail
    rw [HW1.out]
    go_wp2_with fail
    go_ret
    exact ⟨rfl, hB1⟩
theorem condBare_is (op : Int) (ka : Option Addr) (kn kc : Nat) (text : ByteArray) (low high : Int) (aa : Option Addr) (an ac : Nat) (lat lon : Nat → Int) (w : World) (hkn : kn ≤ 9223372036854775807) (han : an ≤ 9223372036854775807) (hts : text.size ≤ 9223372036854775807) (hrow : Row2 w aa an (fun i => .int .i64 (lat i)) (fun i => .int .i64 (lon i))) (q : Int) (hq : Cnd.bareE op kn text low high an lat lon = q) : Calls Tryz.prog 35 #[.agg #[.int .i64 op, .slice ka kn kc, .string text, .int .i64 low, .int .i64 high, .slice aa an ac]] w fun e w' => e = .returned (.int .i64 q) ∧ Below w.heap.size w w' := by
  by_cases hop : 1 ≤ op ∧ op ≤ 16
  · rcases Cnd.ops hop with h | h | h | h | h | h | h | h | h | h
    · exact condBare_A _ _ _ _ _ _ _ _ _ _ lat lon w hkn han hts hrow q hq h
    · exact condBare_B _ _ _ _ _ _ _ _ _ _ lat lon w hkn han hts hrow q hq h
    · exact condBare_C _ _ _ _ _ _ _ _ _ _ lat lon w hkn han hts hrow q hq h
    · exact condBare_D _ _ _ _ _ _ _ _ _ _ lat lon w hkn han hts hrow q hq h
    · exact condBare_E _ _ _ _ _ _ _ _ _ _ lat lon w hkn han hts hrow q hq h
    · exact condBare_F _ _ _ _ _ _ _ _ _ _ lat lon w hkn han hts hrow q hq h
    · exact condBare_G _ _ _ _ _ _ _ _ _ _ lat lon w hkn han hts hrow q hq h
    · exact condBare_H _ _ _ _ _ _ _ _ _ _ lat lon w hkn han hts hrow q hq h
    · exact condBare_I _ _ _ _ _ _ _ _ _ _ lat lon w hkn han hts hrow q hq h
    · exact condBare_J _ _ _ _ _ _ _ _ _ _ lat lon w hkn han hts hrow q hq h
  · rw [Cnd.bareE_kind hop] at hq
    subst hq
    exact condBare_no _ _ _ _ _ _ _ _ _ _ w hop
end Go.Proofs.YtngbaljmlbdfkaaGreatDoor
