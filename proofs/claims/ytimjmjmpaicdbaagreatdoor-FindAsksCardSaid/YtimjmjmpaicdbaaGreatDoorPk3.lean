/- Parts of the proof, no condition: CndFm. -/
import Derived.Test.YtimjmjmpaicdbaaGreatDoorPk2
set_option maxHeartbeats 4000000
set_option linter.unusedVariables false
namespace Go.Proofs.YtimjmjmpaicdbaaGreatDoor
open Go.RowKit Go.Sort Go.Shelf
theorem checkForm_A (op : Int) (ka : Option Addr) (kn kc : Nat) (text : ByteArray) (low high : Int) (aa : Option Addr) (an ac : Nat) (w : World) (hkn : kn ≤ 9223372036854775807) (han : an ≤ 9223372036854775807) (b : Bool) (hb : Cnd.formB op kn an text low high = b) (hop : op = 1 ∨ op = 2) : Calls Tryz.prog 66 #[.agg #[.int .i64 op, .slice ka kn kc, .string text, .int .i64 low, .int .i64 high, .slice aa an ac]] w fun e w' => e = .returned (.int .i64 (if b = true then 0 else 1)) ∧ Below w.heap.size w w' := by
 have HFM := Lib.hid (Cnd.formC_A op hop)
 have op3 : (op == 3) = false := by rcases hop with rfl | rfl <;> rfl
 have op14 : (op == 14) = false := by rcases hop with rfl | rfl <;> rfl
 have op15 : (op == 15) = false := by rcases hop with rfl | rfl <;> rfl
 have op4 : (op == 4) = false := by rcases hop with rfl | rfl <;> rfl
 have op5 : (op == 5) = false := by rcases hop with rfl | rfl <;> rfl
 have op6 : (op == 6) = false := by rcases hop with rfl | rfl <;> rfl
 have op7 : (op == 7) = false := by rcases hop with rfl | rfl <;> rfl
 have op8 : (op == 8) = false := by rcases hop with rfl | rfl <;> rfl
 have opg : ¬ (4 : Int) ≤ op := by omega
 have opl : ¬ op < 1 := by omega
 have opm : ¬ (16 : Int) < op := by omega
 have HOP := Lib.hid hop; clear hop
 obtain ⟨W1, hW1, hP, hz1, hB1⟩ := box w #[.int .i64 op, .slice ka kn kc, .string text, .int .i64 low, .int .i64 high, .slice aa an ac] 25
 have HW1 := Lib.hid hW1
 clear hW1 hz1
 obtain ⟨q0, q1, q2, q3, q4, q5⟩ := hP.six
 by_cases g0 : an = 0
 ·have G0 := Lib.hid g0
  have a1 : ((an : Int) != 0) = false := by simp; omega
  clear g0
  cases ht : text.toList.isEmpty
  ·have HT := Lib.hid ht
   obtain rfl : b = false := by rw [← hb]; exact Cnd.formB_text_A _ kn an text low high HOP.out HT.out
   rw [if_neg (by simp)]
   clear hb
   go_enter Tryz.func66, Tryz.ntmps66
   go_wp2_with fail
   rw [HW1.out]
   go_wp2_with (go_at_call 107; refine (HFM.out _).mono ?_; rintro e w3 ⟨rfl, hB3⟩; have hlt3 := (hP.keep hB3).lt; obtain ⟨t0, t1, t2, t3, t4, t5⟩ := ((hP.keep hB3).alloc (.cells #[.bool false, .bool false, .bool false, .int .i64 0] 153)).six)
   go_ret
   exact ⟨rfl, below_allocs (below_up hB1 hB3) _⟩
  ·have HT := Lib.hid ht
   by_cases g2 : low = 0
   ·have G2 := Lib.hid g2
    have l1 : (low != 0) = false := by simp; omega
    clear g2
    by_cases g3 : high = 0
    ·have G3 := Lib.hid g3
     have h1 : (high != 0) = false := by simp; omega
     clear g3
     obtain rfl : b = true := by rw [← hb]; exact Cnd.formB_A _ kn an text low high HOP.out G0.out HT.out G2.out G3.out
     rw [if_pos rfl]
     clear hb
     go_enter Tryz.func66, Tryz.ntmps66
     go_wp2_with fail
     rw [HW1.out]
     go_wp2_with (go_at_call 107; refine (HFM.out _).mono ?_; rintro e w3 ⟨rfl, hB3⟩; have hlt3 := (hP.keep hB3).lt; obtain ⟨t0, t1, t2, t3, t4, t5⟩ := ((hP.keep hB3).alloc (.cells #[.bool false, .bool false, .bool false, .int .i64 0] 153)).six)
     go_ret
     exact ⟨rfl, below_allocs (below_up hB1 hB3) _⟩
    ·have G3 := Lib.hid g3
     have h1 : (high != 0) = true := by simp; omega
     clear g3
     obtain rfl : b = false := by rw [← hb]; exact Cnd.formB_high_A _ kn an text low high HOP.out G3.out
     rw [if_neg (by simp)]
     clear hb
     go_enter Tryz.func66, Tryz.ntmps66
     go_wp2_with fail
     rw [HW1.out]
     go_wp2_with (go_at_call 107; refine (HFM.out _).mono ?_; rintro e w3 ⟨rfl, hB3⟩; have hlt3 := (hP.keep hB3).lt; obtain ⟨t0, t1, t2, t3, t4, t5⟩ := ((hP.keep hB3).alloc (.cells #[.bool false, .bool false, .bool false, .int .i64 0] 153)).six)
     go_ret
     exact ⟨rfl, below_allocs (below_up hB1 hB3) _⟩
   ·have G2 := Lib.hid g2
    have l1 : (low != 0) = true := by simp; omega
    clear g2
    obtain rfl : b = false := by rw [← hb]; exact Cnd.formB_low_A _ kn an text low high HOP.out G2.out
    rw [if_neg (by simp)]
    clear hb
    go_enter Tryz.func66, Tryz.ntmps66
    go_wp2_with fail
    rw [HW1.out]
    go_wp2_with (go_at_call 107; refine (HFM.out _).mono ?_; rintro e w3 ⟨rfl, hB3⟩; have hlt3 := (hP.keep hB3).lt; obtain ⟨t0, t1, t2, t3, t4, t5⟩ := ((hP.keep hB3).alloc (.cells #[.bool false, .bool false, .bool false, .int .i64 0] 153)).six)
    go_ret
    exact ⟨rfl, below_allocs (below_up hB1 hB3) _⟩
 ·have G0 := Lib.hid g0
  have a1 : ((an : Int) != 0) = true := by simp; omega
  clear g0
  obtain rfl : b = false := by rw [← hb]; exact Cnd.formB_at_A _ kn an text low high HOP.out G0.out
  rw [if_neg (by simp)]
  clear hb
  go_enter Tryz.func66, Tryz.ntmps66
  go_wp2_with fail
  rw [HW1.out]
  go_wp2_with (go_at_call 107; refine (HFM.out _).mono ?_; rintro e w3 ⟨rfl, hB3⟩; have hlt3 := (hP.keep hB3).lt; obtain ⟨t0, t1, t2, t3, t4, t5⟩ := ((hP.keep hB3).alloc (.cells #[.bool false, .bool false, .bool false, .int .i64 0] 153)).six)
  go_ret
  exact ⟨rfl, below_allocs (below_up hB1 hB3) _⟩
theorem checkForm_B (op : Int) (ka : Option Addr) (kn kc : Nat) (text : ByteArray) (low high : Int) (aa : Option Addr) (an ac : Nat) (w : World) (hkn : kn ≤ 9223372036854775807) (han : an ≤ 9223372036854775807) (b : Bool) (hb : Cnd.formB op kn an text low high = b) (hop : op = 3) : Calls Tryz.prog 66 #[.agg #[.int .i64 op, .slice ka kn kc, .string text, .int .i64 low, .int .i64 high, .slice aa an ac]] w fun e w' => e = .returned (.int .i64 (if b = true then 0 else 1)) ∧ Below w.heap.size w w' := by
 have HFM := Lib.hid (Cnd.formC_B op hop)
 have HOP := Lib.hid hop; clear hop
 obtain ⟨W1, hW1, hP, hz1, hB1⟩ := box w #[.int .i64 op, .slice ka kn kc, .string text, .int .i64 low, .int .i64 high, .slice aa an ac] 25
 have HW1 := Lib.hid hW1
 clear hW1 hz1
 obtain ⟨q0, q1, q2, q3, q4, q5⟩ := hP.six
 obtain rfl : op = 3 := HOP.out
 by_cases g0 : kn = 1
 ·have G0 := Lib.hid g0
  have k1 : ((kn : Int) != 1) = false := by simp; omega
  clear g0
  by_cases g1 : an = 0
  ·have G1 := Lib.hid g1
   have a1 : ((an : Int) != 0) = false := by simp; omega
   clear g1
   cases ht : text.toList.isEmpty
   ·have HT := Lib.hid ht
    obtain rfl : b = false := by rw [← hb]; exact Cnd.formB_text_B _ kn an text low high HOP.out HT.out
    rw [if_neg (by simp)]
    clear hb
    go_enter Tryz.func66, Tryz.ntmps66
    go_wp2_with fail
    rw [HW1.out]
    go_wp2_with (go_at_call 107; refine (HFM.out _).mono ?_; rintro e w3 ⟨rfl, hB3⟩; have hlt3 := (hP.keep hB3).lt; obtain ⟨t0, t1, t2, t3, t4, t5⟩ := ((hP.keep hB3).alloc (.cells #[.bool false, .bool false, .bool false, .int .i64 0] 153)).six)
    go_ret
    exact ⟨rfl, below_allocs (below_up hB1 hB3) _⟩
   ·have HT := Lib.hid ht
    by_cases g3 : low = 0
    ·have G3 := Lib.hid g3
     have l1 : (low != 0) = false := by simp; omega
     clear g3
     by_cases g4 : high = 0
     ·have G4 := Lib.hid g4
      have h1 : (high != 0) = false := by simp; omega
      clear g4
      obtain rfl : b = true := by rw [← hb]; exact Cnd.formB_B _ kn an text low high HOP.out G0.out G1.out HT.out G3.out G4.out
      rw [if_pos rfl]
      clear hb
      go_enter Tryz.func66, Tryz.ntmps66
      go_wp2_with fail
      rw [HW1.out]
      go_wp2_with (go_at_call 107; refine (HFM.out _).mono ?_; rintro e w3 ⟨rfl, hB3⟩; have hlt3 := (hP.keep hB3).lt; obtain ⟨t0, t1, t2, t3, t4, t5⟩ := ((hP.keep hB3).alloc (.cells #[.bool false, .bool false, .bool false, .int .i64 0] 153)).six)
      go_ret
      exact ⟨rfl, below_allocs (below_up hB1 hB3) _⟩
     ·have G4 := Lib.hid g4
      have h1 : (high != 0) = true := by simp; omega
      clear g4
      obtain rfl : b = false := by rw [← hb]; exact Cnd.formB_high_B _ kn an text low high HOP.out G4.out
      rw [if_neg (by simp)]
      clear hb
      go_enter Tryz.func66, Tryz.ntmps66
      go_wp2_with fail
      rw [HW1.out]
      go_wp2_with (go_at_call 107; refine (HFM.out _).mono ?_; rintro e w3 ⟨rfl, hB3⟩; have hlt3 := (hP.keep hB3).lt; obtain ⟨t0, t1, t2, t3, t4, t5⟩ := ((hP.keep hB3).alloc (.cells #[.bool false, .bool false, .bool false, .int .i64 0] 153)).six)
      go_ret
      exact ⟨rfl, below_allocs (below_up hB1 hB3) _⟩
    ·have G3 := Lib.hid g3
     have l1 : (low != 0) = true := by simp; omega
     clear g3
     obtain rfl : b = false := by rw [← hb]; exact Cnd.formB_low_B _ kn an text low high HOP.out G3.out
     rw [if_neg (by simp)]
     clear hb
     go_enter Tryz.func66, Tryz.ntmps66
     go_wp2_with fail
     rw [HW1.out]
     go_wp2_with (go_at_call 107; refine (HFM.out _).mono ?_; rintro e w3 ⟨rfl, hB3⟩; have hlt3 := (hP.keep hB3).lt; obtain ⟨t0, t1, t2, t3, t4, t5⟩ := ((hP.keep hB3).alloc (.cells #[.bool false, .bool false, .bool false, .int .i64 0] 153)).six)
     go_ret
     exact ⟨rfl, below_allocs (below_up hB1 hB3) _⟩
  ·have G1 := Lib.hid g1
   have a1 : ((an : Int) != 0) = true := by simp; omega
   clear g1
   obtain rfl : b = false := by rw [← hb]; exact Cnd.formB_at_B _ kn an text low high HOP.out G1.out
   rw [if_neg (by simp)]
   clear hb
   go_enter Tryz.func66, Tryz.ntmps66
   go_wp2_with fail
   rw [HW1.out]
   go_wp2_with (go_at_call 107; refine (HFM.out _).mono ?_; rintro e w3 ⟨rfl, hB3⟩; have hlt3 := (hP.keep hB3).lt; obtain ⟨t0, t1, t2, t3, t4, t5⟩ := ((hP.keep hB3).alloc (.cells #[.bool false, .bool false, .bool false, .int .i64 0] 153)).six)
   go_ret
   exact ⟨rfl, below_allocs (below_up hB1 hB3) _⟩
 ·have G0 := Lib.hid g0
  have k1 : ((kn : Int) != 1) = true := by simp; omega
  clear g0
  obtain rfl : b = false := by rw [← hb]; exact Cnd.formB_kids_B _ kn an text low high HOP.out G0.out
  rw [if_neg (by simp)]
  clear hb
  go_enter Tryz.func66, Tryz.ntmps66
  go_wp2_with fail
  rw [HW1.out]
  go_wp2_with (go_at_call 107; refine (HFM.out _).mono ?_; rintro e w3 ⟨rfl, hB3⟩; have hlt3 := (hP.keep hB3).lt; obtain ⟨t0, t1, t2, t3, t4, t5⟩ := ((hP.keep hB3).alloc (.cells #[.bool false, .bool false, .bool false, .int .i64 0] 153)).six)
  go_ret
  exact ⟨rfl, below_allocs (below_up hB1 hB3) _⟩
theorem checkForm_C (op : Int) (ka : Option Addr) (kn kc : Nat) (text : ByteArray) (low high : Int) (aa : Option Addr) (an ac : Nat) (w : World) (hkn : kn ≤ 9223372036854775807) (han : an ≤ 9223372036854775807) (b : Bool) (hb : Cnd.formB op kn an text low high = b) (hop : op = 4) : Calls Tryz.prog 66 #[.agg #[.int .i64 op, .slice ka kn kc, .string text, .int .i64 low, .int .i64 high, .slice aa an ac]] w fun e w' => e = .returned (.int .i64 (if b = true then 0 else 1)) ∧ Below w.heap.size w w' := by
 have HFM := Lib.hid (Cnd.formC_C op hop)
 have HOP := Lib.hid hop; clear hop
 obtain ⟨W1, hW1, hP, hz1, hB1⟩ := box w #[.int .i64 op, .slice ka kn kc, .string text, .int .i64 low, .int .i64 high, .slice aa an ac] 25
 have HW1 := Lib.hid hW1
 clear hW1 hz1
 obtain ⟨q0, q1, q2, q3, q4, q5⟩ := hP.six
 obtain rfl : op = 4 := HOP.out
 by_cases g0 : kn = 0
 ·have G0 := Lib.hid g0
  have k1 : ¬ (0 : Int) < (kn : Int) := by omega
  clear g0
  by_cases g1 : an = 0
  ·have G1 := Lib.hid g1
   have a1 : ((an : Int) != 0) = false := by simp; omega
   clear g1
   by_cases g2 : low = 0
   ·have G2 := Lib.hid g2
    have l1 : (low != 0) = false := by simp; omega
    clear g2
    by_cases g3 : high = 0
    ·have G3 := Lib.hid g3
     have h1 : (high != 0) = false := by simp; omega
     clear g3
     obtain rfl : b = true := by rw [← hb]; exact Cnd.formB_C _ kn an text low high HOP.out G0.out G1.out G2.out G3.out
     rw [if_pos rfl]
     clear hb
     go_enter Tryz.func66, Tryz.ntmps66
     go_wp2_with fail
     rw [HW1.out]
     go_wp2_with (go_at_call 107; refine (HFM.out _).mono ?_; rintro e w3 ⟨rfl, hB3⟩; have hlt3 := (hP.keep hB3).lt; obtain ⟨t0, t1, t2, t3, t4, t5⟩ := ((hP.keep hB3).alloc (.cells #[.bool true, .bool false, .bool false, .int .i64 0] 153)).six)
     go_ret
     exact ⟨rfl, below_allocs (below_up hB1 hB3) _⟩
    ·have G3 := Lib.hid g3
     have h1 : (high != 0) = true := by simp; omega
     clear g3
     obtain rfl : b = false := by rw [← hb]; exact Cnd.formB_high_C _ kn an text low high HOP.out G3.out
     rw [if_neg (by simp)]
     clear hb
     go_enter Tryz.func66, Tryz.ntmps66
     go_wp2_with fail
     rw [HW1.out]
     go_wp2_with (go_at_call 107; refine (HFM.out _).mono ?_; rintro e w3 ⟨rfl, hB3⟩; have hlt3 := (hP.keep hB3).lt; obtain ⟨t0, t1, t2, t3, t4, t5⟩ := ((hP.keep hB3).alloc (.cells #[.bool true, .bool false, .bool false, .int .i64 0] 153)).six)
     go_ret
     exact ⟨rfl, below_allocs (below_up hB1 hB3) _⟩
   ·have G2 := Lib.hid g2
    have l1 : (low != 0) = true := by simp; omega
    clear g2
    obtain rfl : b = false := by rw [← hb]; exact Cnd.formB_low_C _ kn an text low high HOP.out G2.out
    rw [if_neg (by simp)]
    clear hb
    go_enter Tryz.func66, Tryz.ntmps66
    go_wp2_with fail
    rw [HW1.out]
    go_wp2_with (go_at_call 107; refine (HFM.out _).mono ?_; rintro e w3 ⟨rfl, hB3⟩; have hlt3 := (hP.keep hB3).lt; obtain ⟨t0, t1, t2, t3, t4, t5⟩ := ((hP.keep hB3).alloc (.cells #[.bool true, .bool false, .bool false, .int .i64 0] 153)).six)
    go_ret
    exact ⟨rfl, below_allocs (below_up hB1 hB3) _⟩
  ·have G1 := Lib.hid g1
   have a1 : ((an : Int) != 0) = true := by simp; omega
   clear g1
   obtain rfl : b = false := by rw [← hb]; exact Cnd.formB_at_C _ kn an text low high HOP.out G1.out
   rw [if_neg (by simp)]
   clear hb
   go_enter Tryz.func66, Tryz.ntmps66
   go_wp2_with fail
   rw [HW1.out]
   go_wp2_with (go_at_call 107; refine (HFM.out _).mono ?_; rintro e w3 ⟨rfl, hB3⟩; have hlt3 := (hP.keep hB3).lt; obtain ⟨t0, t1, t2, t3, t4, t5⟩ := ((hP.keep hB3).alloc (.cells #[.bool true, .bool false, .bool false, .int .i64 0] 153)).six)
   go_ret
   exact ⟨rfl, below_allocs (below_up hB1 hB3) _⟩
 ·have G0 := Lib.hid g0
  have k1 : (0 : Int) < (kn : Int) := by omega
  clear g0
  obtain rfl : b = false := by rw [← hb]; exact Cnd.formB_kids_C _ kn an text low high HOP.out G0.out
  rw [if_neg (by simp)]
  clear hb
  go_enter Tryz.func66, Tryz.ntmps66
  go_wp2_with fail
  rw [HW1.out]
  go_wp2_with (go_at_call 107; refine (HFM.out _).mono ?_; rintro e w3 ⟨rfl, hB3⟩; have hlt3 := (hP.keep hB3).lt; obtain ⟨t0, t1, t2, t3, t4, t5⟩ := ((hP.keep hB3).alloc (.cells #[.bool true, .bool false, .bool false, .int .i64 0] 153)).six)
  go_ret
  exact ⟨rfl, below_allocs (below_up hB1 hB3) _⟩
theorem checkForm_D (op : Int) (ka : Option Addr) (kn kc : Nat) (text : ByteArray) (low high : Int) (aa : Option Addr) (an ac : Nat) (w : World) (hkn : kn ≤ 9223372036854775807) (han : an ≤ 9223372036854775807) (b : Bool) (hb : Cnd.formB op kn an text low high = b) (hop : op = 5) : Calls Tryz.prog 66 #[.agg #[.int .i64 op, .slice ka kn kc, .string text, .int .i64 low, .int .i64 high, .slice aa an ac]] w fun e w' => e = .returned (.int .i64 (if b = true then 0 else 1)) ∧ Below w.heap.size w w' := by
 have HFM := Lib.hid (Cnd.formC_D op hop)
 have HOP := Lib.hid hop; clear hop
 obtain ⟨W1, hW1, hP, hz1, hB1⟩ := box w #[.int .i64 op, .slice ka kn kc, .string text, .int .i64 low, .int .i64 high, .slice aa an ac] 25
 have HW1 := Lib.hid hW1
 clear hW1 hz1
 obtain ⟨q0, q1, q2, q3, q4, q5⟩ := hP.six
 obtain rfl : op = 5 := HOP.out
 by_cases g0 : kn = 0
 ·have G0 := Lib.hid g0
  have k1 : ¬ (0 : Int) < (kn : Int) := by omega
  clear g0
  by_cases g1 : an = 0
  ·have G1 := Lib.hid g1
   have a1 : ((an : Int) != 0) = false := by simp; omega
   clear g1
   by_cases g2 : low = 0
   ·have G2 := Lib.hid g2
    have l1 : (low != 0) = false := by simp; omega
    clear g2
    by_cases g3 : high = 0
    ·have G3 := Lib.hid g3
     have h1 : (high != 0) = false := by simp; omega
     clear g3
     obtain rfl : b = true := by rw [← hb]; exact Cnd.formB_D _ kn an text low high HOP.out G0.out G1.out G2.out G3.out
     rw [if_pos rfl]
     clear hb
     go_enter Tryz.func66, Tryz.ntmps66
     go_wp2_with fail
     rw [HW1.out]
     go_wp2_with (go_at_call 107; refine (HFM.out _).mono ?_; rintro e w3 ⟨rfl, hB3⟩; have hlt3 := (hP.keep hB3).lt; obtain ⟨t0, t1, t2, t3, t4, t5⟩ := ((hP.keep hB3).alloc (.cells #[.bool true, .bool false, .bool false, .int .i64 0] 153)).six)
     go_ret
     exact ⟨rfl, below_allocs (below_up hB1 hB3) _⟩
    ·have G3 := Lib.hid g3
     have h1 : (high != 0) = true := by simp; omega
     clear g3
     obtain rfl : b = false := by rw [← hb]; exact Cnd.formB_high_D _ kn an text low high HOP.out G3.out
     rw [if_neg (by simp)]
     clear hb
     go_enter Tryz.func66, Tryz.ntmps66
     go_wp2_with fail
     rw [HW1.out]
     go_wp2_with (go_at_call 107; refine (HFM.out _).mono ?_; rintro e w3 ⟨rfl, hB3⟩; have hlt3 := (hP.keep hB3).lt; obtain ⟨t0, t1, t2, t3, t4, t5⟩ := ((hP.keep hB3).alloc (.cells #[.bool true, .bool false, .bool false, .int .i64 0] 153)).six)
     go_ret
     exact ⟨rfl, below_allocs (below_up hB1 hB3) _⟩
   ·have G2 := Lib.hid g2
    have l1 : (low != 0) = true := by simp; omega
    clear g2
    obtain rfl : b = false := by rw [← hb]; exact Cnd.formB_low_D _ kn an text low high HOP.out G2.out
    rw [if_neg (by simp)]
    clear hb
    go_enter Tryz.func66, Tryz.ntmps66
    go_wp2_with fail
    rw [HW1.out]
    go_wp2_with (go_at_call 107; refine (HFM.out _).mono ?_; rintro e w3 ⟨rfl, hB3⟩; have hlt3 := (hP.keep hB3).lt; obtain ⟨t0, t1, t2, t3, t4, t5⟩ := ((hP.keep hB3).alloc (.cells #[.bool true, .bool false, .bool false, .int .i64 0] 153)).six)
    go_ret
    exact ⟨rfl, below_allocs (below_up hB1 hB3) _⟩
  ·have G1 := Lib.hid g1
   have a1 : ((an : Int) != 0) = true := by simp; omega
   clear g1
   obtain rfl : b = false := by rw [← hb]; exact Cnd.formB_at_D _ kn an text low high HOP.out G1.out
   rw [if_neg (by simp)]
   clear hb
   go_enter Tryz.func66, Tryz.ntmps66
   go_wp2_with fail
   rw [HW1.out]
   go_wp2_with (go_at_call 107; refine (HFM.out _).mono ?_; rintro e w3 ⟨rfl, hB3⟩; have hlt3 := (hP.keep hB3).lt; obtain ⟨t0, t1, t2, t3, t4, t5⟩ := ((hP.keep hB3).alloc (.cells #[.bool true, .bool false, .bool false, .int .i64 0] 153)).six)
   go_ret
   exact ⟨rfl, below_allocs (below_up hB1 hB3) _⟩
 ·have G0 := Lib.hid g0
  have k1 : (0 : Int) < (kn : Int) := by omega
  clear g0
  obtain rfl : b = false := by rw [← hb]; exact Cnd.formB_kids_D _ kn an text low high HOP.out G0.out
  rw [if_neg (by simp)]
  clear hb
  go_enter Tryz.func66, Tryz.ntmps66
  go_wp2_with fail
  rw [HW1.out]
  go_wp2_with (go_at_call 107; refine (HFM.out _).mono ?_; rintro e w3 ⟨rfl, hB3⟩; have hlt3 := (hP.keep hB3).lt; obtain ⟨t0, t1, t2, t3, t4, t5⟩ := ((hP.keep hB3).alloc (.cells #[.bool true, .bool false, .bool false, .int .i64 0] 153)).six)
  go_ret
  exact ⟨rfl, below_allocs (below_up hB1 hB3) _⟩
theorem checkForm_E (op : Int) (ka : Option Addr) (kn kc : Nat) (text : ByteArray) (low high : Int) (aa : Option Addr) (an ac : Nat) (w : World) (hkn : kn ≤ 9223372036854775807) (han : an ≤ 9223372036854775807) (b : Bool) (hb : Cnd.formB op kn an text low high = b) (hop : op = 6) : Calls Tryz.prog 66 #[.agg #[.int .i64 op, .slice ka kn kc, .string text, .int .i64 low, .int .i64 high, .slice aa an ac]] w fun e w' => e = .returned (.int .i64 (if b = true then 0 else 1)) ∧ Below w.heap.size w w' := by
 have HFM := Lib.hid (Cnd.formC_E op hop)
 have HOP := Lib.hid hop; clear hop
 obtain ⟨W1, hW1, hP, hz1, hB1⟩ := box w #[.int .i64 op, .slice ka kn kc, .string text, .int .i64 low, .int .i64 high, .slice aa an ac] 25
 have HW1 := Lib.hid hW1
 clear hW1 hz1
 obtain ⟨q0, q1, q2, q3, q4, q5⟩ := hP.six
 obtain rfl : op = 6 := HOP.out
 by_cases g0 : kn = 0
 ·have G0 := Lib.hid g0
  have k1 : ¬ (0 : Int) < (kn : Int) := by omega
  clear g0
  by_cases g1 : an = 0
  ·have G1 := Lib.hid g1
   have a1 : ((an : Int) != 0) = false := by simp; omega
   clear g1
   cases ht : text.toList.isEmpty
   ·have HT := Lib.hid ht
    obtain rfl : b = false := by rw [← hb]; exact Cnd.formB_text_E _ kn an text low high HOP.out HT.out
    rw [if_neg (by simp)]
    clear hb
    go_enter Tryz.func66, Tryz.ntmps66
    go_wp2_with fail
    rw [HW1.out]
    go_wp2_with (go_at_call 107; refine (HFM.out _).mono ?_; rintro e w3 ⟨rfl, hB3⟩; have hlt3 := (hP.keep hB3).lt; obtain ⟨t0, t1, t2, t3, t4, t5⟩ := ((hP.keep hB3).alloc (.cells #[.bool false, .bool true, .bool false, .int .i64 0] 153)).six)
    go_ret
    exact ⟨rfl, below_allocs (below_up hB1 hB3) _⟩
   ·have HT := Lib.hid ht
    by_cases g3 : high = 0
    ·have G3 := Lib.hid g3
     have h1 : (high != 0) = false := by simp; omega
     clear g3
     obtain rfl : b = true := by rw [← hb]; exact Cnd.formB_E _ kn an text low high HOP.out G0.out G1.out HT.out G3.out
     rw [if_pos rfl]
     clear hb
     go_enter Tryz.func66, Tryz.ntmps66
     go_wp2_with fail
     rw [HW1.out]
     go_wp2_with (go_at_call 107; refine (HFM.out _).mono ?_; rintro e w3 ⟨rfl, hB3⟩; have hlt3 := (hP.keep hB3).lt; obtain ⟨t0, t1, t2, t3, t4, t5⟩ := ((hP.keep hB3).alloc (.cells #[.bool false, .bool true, .bool false, .int .i64 0] 153)).six)
     go_ret
     exact ⟨rfl, below_allocs (below_up hB1 hB3) _⟩
    ·have G3 := Lib.hid g3
     have h1 : (high != 0) = true := by simp; omega
     clear g3
     obtain rfl : b = false := by rw [← hb]; exact Cnd.formB_high_E _ kn an text low high HOP.out G3.out
     rw [if_neg (by simp)]
     clear hb
     go_enter Tryz.func66, Tryz.ntmps66
     go_wp2_with fail
     rw [HW1.out]
     go_wp2_with (go_at_call 107; refine (HFM.out _).mono ?_; rintro e w3 ⟨rfl, hB3⟩; have hlt3 := (hP.keep hB3).lt; obtain ⟨t0, t1, t2, t3, t4, t5⟩ := ((hP.keep hB3).alloc (.cells #[.bool false, .bool true, .bool false, .int .i64 0] 153)).six)
     go_ret
     exact ⟨rfl, below_allocs (below_up hB1 hB3) _⟩
  ·have G1 := Lib.hid g1
   have a1 : ((an : Int) != 0) = true := by simp; omega
   clear g1
   obtain rfl : b = false := by rw [← hb]; exact Cnd.formB_at_E _ kn an text low high HOP.out G1.out
   rw [if_neg (by simp)]
   clear hb
   go_enter Tryz.func66, Tryz.ntmps66
   go_wp2_with fail
   rw [HW1.out]
   go_wp2_with (go_at_call 107; refine (HFM.out _).mono ?_; rintro e w3 ⟨rfl, hB3⟩; have hlt3 := (hP.keep hB3).lt; obtain ⟨t0, t1, t2, t3, t4, t5⟩ := ((hP.keep hB3).alloc (.cells #[.bool false, .bool true, .bool false, .int .i64 0] 153)).six)
   go_ret
   exact ⟨rfl, below_allocs (below_up hB1 hB3) _⟩
 ·have G0 := Lib.hid g0
  have k1 : (0 : Int) < (kn : Int) := by omega
  clear g0
  obtain rfl : b = false := by rw [← hb]; exact Cnd.formB_kids_E _ kn an text low high HOP.out G0.out
  rw [if_neg (by simp)]
  clear hb
  go_enter Tryz.func66, Tryz.ntmps66
  go_wp2_with fail
  rw [HW1.out]
  go_wp2_with (go_at_call 107; refine (HFM.out _).mono ?_; rintro e w3 ⟨rfl, hB3⟩; have hlt3 := (hP.keep hB3).lt; obtain ⟨t0, t1, t2, t3, t4, t5⟩ := ((hP.keep hB3).alloc (.cells #[.bool false, .bool true, .bool false, .int .i64 0] 153)).six)
  go_ret
  exact ⟨rfl, below_allocs (below_up hB1 hB3) _⟩
theorem checkForm_F (op : Int) (ka : Option Addr) (kn kc : Nat) (text : ByteArray) (low high : Int) (aa : Option Addr) (an ac : Nat) (w : World) (hkn : kn ≤ 9223372036854775807) (han : an ≤ 9223372036854775807) (b : Bool) (hb : Cnd.formB op kn an text low high = b) (hop : op = 7) : Calls Tryz.prog 66 #[.agg #[.int .i64 op, .slice ka kn kc, .string text, .int .i64 low, .int .i64 high, .slice aa an ac]] w fun e w' => e = .returned (.int .i64 (if b = true then 0 else 1)) ∧ Below w.heap.size w w' := by
 have HFM := Lib.hid (Cnd.formC_F op hop)
 have HOP := Lib.hid hop; clear hop
 obtain ⟨W1, hW1, hP, hz1, hB1⟩ := box w #[.int .i64 op, .slice ka kn kc, .string text, .int .i64 low, .int .i64 high, .slice aa an ac] 25
 have HW1 := Lib.hid hW1
 clear hW1 hz1
 obtain ⟨q0, q1, q2, q3, q4, q5⟩ := hP.six
 obtain rfl : op = 7 := HOP.out
 by_cases g0 : kn = 0
 ·have G0 := Lib.hid g0
  have k1 : ¬ (0 : Int) < (kn : Int) := by omega
  clear g0
  by_cases g1 : an = 0
  ·have G1 := Lib.hid g1
   have a1 : ((an : Int) != 0) = false := by simp; omega
   clear g1
   cases ht : text.toList.isEmpty
   ·have HT := Lib.hid ht
    obtain rfl : b = false := by rw [← hb]; exact Cnd.formB_text_F _ kn an text low high HOP.out HT.out
    rw [if_neg (by simp)]
    clear hb
    go_enter Tryz.func66, Tryz.ntmps66
    go_wp2_with fail
    rw [HW1.out]
    go_wp2_with (go_at_call 107; refine (HFM.out _).mono ?_; rintro e w3 ⟨rfl, hB3⟩; have hlt3 := (hP.keep hB3).lt; obtain ⟨t0, t1, t2, t3, t4, t5⟩ := ((hP.keep hB3).alloc (.cells #[.bool false, .bool true, .bool true, .int .i64 0] 153)).six)
    go_ret
    exact ⟨rfl, below_allocs (below_up hB1 hB3) _⟩
   ·have HT := Lib.hid ht
    obtain rfl : b = true := by rw [← hb]; exact Cnd.formB_F _ kn an text low high HOP.out G0.out G1.out HT.out
    rw [if_pos rfl]
    clear hb
    go_enter Tryz.func66, Tryz.ntmps66
    go_wp2_with fail
    rw [HW1.out]
    go_wp2_with (go_at_call 107; refine (HFM.out _).mono ?_; rintro e w3 ⟨rfl, hB3⟩; have hlt3 := (hP.keep hB3).lt; obtain ⟨t0, t1, t2, t3, t4, t5⟩ := ((hP.keep hB3).alloc (.cells #[.bool false, .bool true, .bool true, .int .i64 0] 153)).six)
    go_ret
    exact ⟨rfl, below_allocs (below_up hB1 hB3) _⟩
  ·have G1 := Lib.hid g1
   have a1 : ((an : Int) != 0) = true := by simp; omega
   clear g1
   obtain rfl : b = false := by rw [← hb]; exact Cnd.formB_at_F _ kn an text low high HOP.out G1.out
   rw [if_neg (by simp)]
   clear hb
   go_enter Tryz.func66, Tryz.ntmps66
   go_wp2_with fail
   rw [HW1.out]
   go_wp2_with (go_at_call 107; refine (HFM.out _).mono ?_; rintro e w3 ⟨rfl, hB3⟩; have hlt3 := (hP.keep hB3).lt; obtain ⟨t0, t1, t2, t3, t4, t5⟩ := ((hP.keep hB3).alloc (.cells #[.bool false, .bool true, .bool true, .int .i64 0] 153)).six)
   go_ret
   exact ⟨rfl, below_allocs (below_up hB1 hB3) _⟩
 ·have G0 := Lib.hid g0
  have k1 : (0 : Int) < (kn : Int) := by omega
  clear g0
  obtain rfl : b = false := by rw [← hb]; exact Cnd.formB_kids_F _ kn an text low high HOP.out G0.out
  rw [if_neg (by simp)]
  clear hb
  go_enter Tryz.func66, Tryz.ntmps66
  go_wp2_with fail
  rw [HW1.out]
  go_wp2_with (go_at_call 107; refine (HFM.out _).mono ?_; rintro e w3 ⟨rfl, hB3⟩; have hlt3 := (hP.keep hB3).lt; obtain ⟨t0, t1, t2, t3, t4, t5⟩ := ((hP.keep hB3).alloc (.cells #[.bool false, .bool true, .bool true, .int .i64 0] 153)).six)
  go_ret
  exact ⟨rfl, below_allocs (below_up hB1 hB3) _⟩
theorem checkForm_G (op : Int) (ka : Option Addr) (kn kc : Nat) (text : ByteArray) (low high : Int) (aa : Option Addr) (an ac : Nat) (w : World) (hkn : kn ≤ 9223372036854775807) (han : an ≤ 9223372036854775807) (b : Bool) (hb : Cnd.formB op kn an text low high = b) (hop : op = 8) : Calls Tryz.prog 66 #[.agg #[.int .i64 op, .slice ka kn kc, .string text, .int .i64 low, .int .i64 high, .slice aa an ac]] w fun e w' => e = .returned (.int .i64 (if b = true then 0 else 1)) ∧ Below w.heap.size w w' := by
 have HFM := Lib.hid (Cnd.formC_G op hop)
 have HOP := Lib.hid hop; clear hop
 obtain ⟨W1, hW1, hP, hz1, hB1⟩ := box w #[.int .i64 op, .slice ka kn kc, .string text, .int .i64 low, .int .i64 high, .slice aa an ac] 25
 have HW1 := Lib.hid hW1
 clear hW1 hz1
 obtain ⟨q0, q1, q2, q3, q4, q5⟩ := hP.six
 obtain rfl : op = 8 := HOP.out
 by_cases g0 : kn = 0
 ·have G0 := Lib.hid g0
  have k1 : ¬ (0 : Int) < (kn : Int) := by omega
  clear g0
  by_cases g1 : an = 0
  ·have G1 := Lib.hid g1
   have a1 : ((an : Int) != 0) = false := by simp; omega
   clear g1
   cases ht : text.toList.isEmpty
   ·have HT := Lib.hid ht
    obtain rfl : b = false := by rw [← hb]; exact Cnd.formB_text_G _ kn an text low high HOP.out HT.out
    rw [if_neg (by simp)]
    clear hb
    go_enter Tryz.func66, Tryz.ntmps66
    go_wp2_with fail
    rw [HW1.out]
    go_wp2_with (go_at_call 107; refine (HFM.out _).mono ?_; rintro e w3 ⟨rfl, hB3⟩; have hlt3 := (hP.keep hB3).lt; obtain ⟨t0, t1, t2, t3, t4, t5⟩ := ((hP.keep hB3).alloc (.cells #[.bool false, .bool true, .bool true, .int .i64 0] 153)).six)
    go_ret
    exact ⟨rfl, below_allocs (below_up hB1 hB3) _⟩
   ·have HT := Lib.hid ht
    obtain rfl : b = true := by rw [← hb]; exact Cnd.formB_G _ kn an text low high HOP.out G0.out G1.out HT.out
    rw [if_pos rfl]
    clear hb
    go_enter Tryz.func66, Tryz.ntmps66
    go_wp2_with fail
    rw [HW1.out]
    go_wp2_with (go_at_call 107; refine (HFM.out _).mono ?_; rintro e w3 ⟨rfl, hB3⟩; have hlt3 := (hP.keep hB3).lt; obtain ⟨t0, t1, t2, t3, t4, t5⟩ := ((hP.keep hB3).alloc (.cells #[.bool false, .bool true, .bool true, .int .i64 0] 153)).six)
    go_ret
    exact ⟨rfl, below_allocs (below_up hB1 hB3) _⟩
  ·have G1 := Lib.hid g1
   have a1 : ((an : Int) != 0) = true := by simp; omega
   clear g1
   obtain rfl : b = false := by rw [← hb]; exact Cnd.formB_at_G _ kn an text low high HOP.out G1.out
   rw [if_neg (by simp)]
   clear hb
   go_enter Tryz.func66, Tryz.ntmps66
   go_wp2_with fail
   rw [HW1.out]
   go_wp2_with (go_at_call 107; refine (HFM.out _).mono ?_; rintro e w3 ⟨rfl, hB3⟩; have hlt3 := (hP.keep hB3).lt; obtain ⟨t0, t1, t2, t3, t4, t5⟩ := ((hP.keep hB3).alloc (.cells #[.bool false, .bool true, .bool true, .int .i64 0] 153)).six)
   go_ret
   exact ⟨rfl, below_allocs (below_up hB1 hB3) _⟩
 ·have G0 := Lib.hid g0
  have k1 : (0 : Int) < (kn : Int) := by omega
  clear g0
  obtain rfl : b = false := by rw [← hb]; exact Cnd.formB_kids_G _ kn an text low high HOP.out G0.out
  rw [if_neg (by simp)]
  clear hb
  go_enter Tryz.func66, Tryz.ntmps66
  go_wp2_with fail
  rw [HW1.out]
  go_wp2_with (go_at_call 107; refine (HFM.out _).mono ?_; rintro e w3 ⟨rfl, hB3⟩; have hlt3 := (hP.keep hB3).lt; obtain ⟨t0, t1, t2, t3, t4, t5⟩ := ((hP.keep hB3).alloc (.cells #[.bool false, .bool true, .bool true, .int .i64 0] 153)).six)
  go_ret
  exact ⟨rfl, below_allocs (below_up hB1 hB3) _⟩
theorem checkForm_H (op : Int) (ka : Option Addr) (kn kc : Nat) (text : ByteArray) (low high : Int) (aa : Option Addr) (an ac : Nat) (w : World) (hkn : kn ≤ 9223372036854775807) (han : an ≤ 9223372036854775807) (b : Bool) (hb : Cnd.formB op kn an text low high = b) (hop : op = 9 ∨ op = 10 ∨ op = 11 ∨ op = 12 ∨ op = 13 ∨ op = 16) : Calls Tryz.prog 66 #[.agg #[.int .i64 op, .slice ka kn kc, .string text, .int .i64 low, .int .i64 high, .slice aa an ac]] w fun e w' => e = .returned (.int .i64 (if b = true then 0 else 1)) ∧ Below w.heap.size w w' := by
 have HFM := Lib.hid (Cnd.formC_H op hop)
 have op3 : (op == 3) = false := by rcases hop with rfl | rfl | rfl | rfl | rfl | rfl <;> rfl
 have op14 : (op == 14) = false := by rcases hop with rfl | rfl | rfl | rfl | rfl | rfl <;> rfl
 have op15 : (op == 15) = false := by rcases hop with rfl | rfl | rfl | rfl | rfl | rfl <;> rfl
 have op4 : (op == 4) = false := by rcases hop with rfl | rfl | rfl | rfl | rfl | rfl <;> rfl
 have op5 : (op == 5) = false := by rcases hop with rfl | rfl | rfl | rfl | rfl | rfl <;> rfl
 have op6 : (op == 6) = false := by rcases hop with rfl | rfl | rfl | rfl | rfl | rfl <;> rfl
 have op7 : (op == 7) = false := by rcases hop with rfl | rfl | rfl | rfl | rfl | rfl <;> rfl
 have op8 : (op == 8) = false := by rcases hop with rfl | rfl | rfl | rfl | rfl | rfl <;> rfl
 have opg : (4 : Int) ≤ op := by omega
 have opl : ¬ op < 1 := by omega
 have opm : ¬ (16 : Int) < op := by omega
 have HOP := Lib.hid hop; clear hop
 obtain ⟨W1, hW1, hP, hz1, hB1⟩ := box w #[.int .i64 op, .slice ka kn kc, .string text, .int .i64 low, .int .i64 high, .slice aa an ac] 25
 have HW1 := Lib.hid hW1
 clear hW1 hz1
 obtain ⟨q0, q1, q2, q3, q4, q5⟩ := hP.six
 by_cases g0 : kn = 0
 ·have G0 := Lib.hid g0
  have k1 : ¬ (0 : Int) < (kn : Int) := by omega
  clear g0
  by_cases g1 : an = 0
  ·have G1 := Lib.hid g1
   have a1 : ((an : Int) != 0) = false := by simp; omega
   clear g1
   cases ht : text.toList.isEmpty
   ·have HT := Lib.hid ht
    obtain rfl : b = false := by rw [← hb]; exact Cnd.formB_text_H _ kn an text low high HOP.out HT.out
    rw [if_neg (by simp)]
    clear hb
    go_enter Tryz.func66, Tryz.ntmps66
    go_wp2_with fail
    rw [HW1.out]
    go_wp2_with (go_at_call 107; refine (HFM.out _).mono ?_; rintro e w3 ⟨rfl, hB3⟩; have hlt3 := (hP.keep hB3).lt; obtain ⟨t0, t1, t2, t3, t4, t5⟩ := ((hP.keep hB3).alloc (.cells #[.bool false, .bool false, .bool false, .int .i64 0] 153)).six)
    go_ret
    exact ⟨rfl, below_allocs (below_up hB1 hB3) _⟩
   ·have HT := Lib.hid ht
    by_cases g3 : low = 0
    ·have G3 := Lib.hid g3
     have l1 : (low != 0) = false := by simp; omega
     clear g3
     by_cases g4 : high = 0
     ·have G4 := Lib.hid g4
      have h1 : (high != 0) = false := by simp; omega
      clear g4
      obtain rfl : b = true := by rw [← hb]; exact Cnd.formB_H _ kn an text low high HOP.out G0.out G1.out HT.out G3.out G4.out
      rw [if_pos rfl]
      clear hb
      go_enter Tryz.func66, Tryz.ntmps66
      go_wp2_with fail
      rw [HW1.out]
      go_wp2_with (go_at_call 107; refine (HFM.out _).mono ?_; rintro e w3 ⟨rfl, hB3⟩; have hlt3 := (hP.keep hB3).lt; obtain ⟨t0, t1, t2, t3, t4, t5⟩ := ((hP.keep hB3).alloc (.cells #[.bool false, .bool false, .bool false, .int .i64 0] 153)).six)
      go_ret
      exact ⟨rfl, below_allocs (below_up hB1 hB3) _⟩
     ·have G4 := Lib.hid g4
      have h1 : (high != 0) = true := by simp; omega
      clear g4
      obtain rfl : b = false := by rw [← hb]; exact Cnd.formB_high_H _ kn an text low high HOP.out G4.out
      rw [if_neg (by simp)]
      clear hb
      go_enter Tryz.func66, Tryz.ntmps66
      go_wp2_with fail
      rw [HW1.out]
      go_wp2_with (go_at_call 107; refine (HFM.out _).mono ?_; rintro e w3 ⟨rfl, hB3⟩; have hlt3 := (hP.keep hB3).lt; obtain ⟨t0, t1, t2, t3, t4, t5⟩ := ((hP.keep hB3).alloc (.cells #[.bool false, .bool false, .bool false, .int .i64 0] 153)).six)
      go_ret
      exact ⟨rfl, below_allocs (below_up hB1 hB3) _⟩
    ·have G3 := Lib.hid g3
     have l1 : (low != 0) = true := by simp; omega
     clear g3
     obtain rfl : b = false := by rw [← hb]; exact Cnd.formB_low_H _ kn an text low high HOP.out G3.out
     rw [if_neg (by simp)]
     clear hb
     go_enter Tryz.func66, Tryz.ntmps66
     go_wp2_with fail
     rw [HW1.out]
     go_wp2_with (go_at_call 107; refine (HFM.out _).mono ?_; rintro e w3 ⟨rfl, hB3⟩; have hlt3 := (hP.keep hB3).lt; obtain ⟨t0, t1, t2, t3, t4, t5⟩ := ((hP.keep hB3).alloc (.cells #[.bool false, .bool false, .bool false, .int .i64 0] 153)).six)
     go_ret
     exact ⟨rfl, below_allocs (below_up hB1 hB3) _⟩
  ·have G1 := Lib.hid g1
   have a1 : ((an : Int) != 0) = true := by simp; omega
   clear g1
   obtain rfl : b = false := by rw [← hb]; exact Cnd.formB_at_H _ kn an text low high HOP.out G1.out
   rw [if_neg (by simp)]
   clear hb
   go_enter Tryz.func66, Tryz.ntmps66
   go_wp2_with fail
   rw [HW1.out]
   go_wp2_with (go_at_call 107; refine (HFM.out _).mono ?_; rintro e w3 ⟨rfl, hB3⟩; have hlt3 := (hP.keep hB3).lt; obtain ⟨t0, t1, t2, t3, t4, t5⟩ := ((hP.keep hB3).alloc (.cells #[.bool false, .bool false, .bool false, .int .i64 0] 153)).six)
   go_ret
   exact ⟨rfl, below_allocs (below_up hB1 hB3) _⟩
 ·have G0 := Lib.hid g0
  have k1 : (0 : Int) < (kn : Int) := by omega
  clear g0
  obtain rfl : b = false := by rw [← hb]; exact Cnd.formB_kids_H _ kn an text low high HOP.out G0.out
  rw [if_neg (by simp)]
  clear hb
  go_enter Tryz.func66, Tryz.ntmps66
  go_wp2_with fail
  rw [HW1.out]
  go_wp2_with (go_at_call 107; refine (HFM.out _).mono ?_; rintro e w3 ⟨rfl, hB3⟩; have hlt3 := (hP.keep hB3).lt; obtain ⟨t0, t1, t2, t3, t4, t5⟩ := ((hP.keep hB3).alloc (.cells #[.bool false, .bool false, .bool false, .int .i64 0] 153)).six)
  go_ret
  exact ⟨rfl, below_allocs (below_up hB1 hB3) _⟩
theorem checkForm_I (op : Int) (ka : Option Addr) (kn kc : Nat) (text : ByteArray) (low high : Int) (aa : Option Addr) (an ac : Nat) (w : World) (hkn : kn ≤ 9223372036854775807) (han : an ≤ 9223372036854775807) (b : Bool) (hb : Cnd.formB op kn an text low high = b) (hop : op = 14) : Calls Tryz.prog 66 #[.agg #[.int .i64 op, .slice ka kn kc, .string text, .int .i64 low, .int .i64 high, .slice aa an ac]] w fun e w' => e = .returned (.int .i64 (if b = true then 0 else 1)) ∧ Below w.heap.size w w' := by
 have HFM := Lib.hid (Cnd.formC_I op hop)
 have HOP := Lib.hid hop; clear hop
 obtain ⟨W1, hW1, hP, hz1, hB1⟩ := box w #[.int .i64 op, .slice ka kn kc, .string text, .int .i64 low, .int .i64 high, .slice aa an ac] 25
 have HW1 := Lib.hid hW1
 clear hW1 hz1
 obtain ⟨q0, q1, q2, q3, q4, q5⟩ := hP.six
 obtain rfl : op = 14 := HOP.out
 by_cases g0 : kn = 0
 ·have G0 := Lib.hid g0
  have k1 : ¬ (0 : Int) < (kn : Int) := by omega
  clear g0
  by_cases g1 : an = 1
  ·have G1 := Lib.hid g1
   have a1 : ((an : Int) != 1) = false := by simp; omega
   clear g1
   cases ht : text.toList.isEmpty
   ·have HT := Lib.hid ht
    obtain rfl : b = false := by rw [← hb]; exact Cnd.formB_text_I _ kn an text low high HOP.out HT.out
    rw [if_neg (by simp)]
    clear hb
    go_enter Tryz.func66, Tryz.ntmps66
    go_wp2_with fail
    rw [HW1.out]
    go_wp2_with (go_at_call 107; refine (HFM.out _).mono ?_; rintro e w3 ⟨rfl, hB3⟩; have hlt3 := (hP.keep hB3).lt; obtain ⟨t0, t1, t2, t3, t4, t5⟩ := ((hP.keep hB3).alloc (.cells #[.bool false, .bool true, .bool false, .int .i64 1] 153)).six)
    go_ret
    exact ⟨rfl, below_allocs (below_up hB1 hB3) _⟩
   ·have HT := Lib.hid ht
    by_cases g3 : high = 0
    ·have G3 := Lib.hid g3
     have h1 : (high != 0) = false := by simp; omega
     clear g3
     obtain rfl : b = true := by rw [← hb]; exact Cnd.formB_I _ kn an text low high HOP.out G0.out G1.out HT.out G3.out
     rw [if_pos rfl]
     clear hb
     go_enter Tryz.func66, Tryz.ntmps66
     go_wp2_with fail
     rw [HW1.out]
     go_wp2_with (go_at_call 107; refine (HFM.out _).mono ?_; rintro e w3 ⟨rfl, hB3⟩; have hlt3 := (hP.keep hB3).lt; obtain ⟨t0, t1, t2, t3, t4, t5⟩ := ((hP.keep hB3).alloc (.cells #[.bool false, .bool true, .bool false, .int .i64 1] 153)).six)
     go_ret
     exact ⟨rfl, below_allocs (below_up hB1 hB3) _⟩
    ·have G3 := Lib.hid g3
     have h1 : (high != 0) = true := by simp; omega
     clear g3
     obtain rfl : b = false := by rw [← hb]; exact Cnd.formB_high_I _ kn an text low high HOP.out G3.out
     rw [if_neg (by simp)]
     clear hb
     go_enter Tryz.func66, Tryz.ntmps66
     go_wp2_with fail
     rw [HW1.out]
     go_wp2_with (go_at_call 107; refine (HFM.out _).mono ?_; rintro e w3 ⟨rfl, hB3⟩; have hlt3 := (hP.keep hB3).lt; obtain ⟨t0, t1, t2, t3, t4, t5⟩ := ((hP.keep hB3).alloc (.cells #[.bool false, .bool true, .bool false, .int .i64 1] 153)).six)
     go_ret
     exact ⟨rfl, below_allocs (below_up hB1 hB3) _⟩
  ·have G1 := Lib.hid g1
   have a1 : ((an : Int) != 1) = true := by simp; omega
   clear g1
   obtain rfl : b = false := by rw [← hb]; exact Cnd.formB_at_I _ kn an text low high HOP.out G1.out
   rw [if_neg (by simp)]
   clear hb
   go_enter Tryz.func66, Tryz.ntmps66
   go_wp2_with fail
   rw [HW1.out]
   go_wp2_with (go_at_call 107; refine (HFM.out _).mono ?_; rintro e w3 ⟨rfl, hB3⟩; have hlt3 := (hP.keep hB3).lt; obtain ⟨t0, t1, t2, t3, t4, t5⟩ := ((hP.keep hB3).alloc (.cells #[.bool false, .bool true, .bool false, .int .i64 1] 153)).six)
   go_ret
   exact ⟨rfl, below_allocs (below_up hB1 hB3) _⟩
 ·have G0 := Lib.hid g0
  have k1 : (0 : Int) < (kn : Int) := by omega
  clear g0
  obtain rfl : b = false := by rw [← hb]; exact Cnd.formB_kids_I _ kn an text low high HOP.out G0.out
  rw [if_neg (by simp)]
  clear hb
  go_enter Tryz.func66, Tryz.ntmps66
  go_wp2_with fail
  rw [HW1.out]
  go_wp2_with (go_at_call 107; refine (HFM.out _).mono ?_; rintro e w3 ⟨rfl, hB3⟩; have hlt3 := (hP.keep hB3).lt; obtain ⟨t0, t1, t2, t3, t4, t5⟩ := ((hP.keep hB3).alloc (.cells #[.bool false, .bool true, .bool false, .int .i64 1] 153)).six)
  go_ret
  exact ⟨rfl, below_allocs (below_up hB1 hB3) _⟩
theorem checkForm_J (op : Int) (ka : Option Addr) (kn kc : Nat) (text : ByteArray) (low high : Int) (aa : Option Addr) (an ac : Nat) (w : World) (hkn : kn ≤ 9223372036854775807) (han : an ≤ 9223372036854775807) (b : Bool) (hb : Cnd.formB op kn an text low high = b) (hop : op = 15) : Calls Tryz.prog 66 #[.agg #[.int .i64 op, .slice ka kn kc, .string text, .int .i64 low, .int .i64 high, .slice aa an ac]] w fun e w' => e = .returned (.int .i64 (if b = true then 0 else 1)) ∧ Below w.heap.size w w' := by
 have HFM := Lib.hid (Cnd.formC_J op hop)
 have HOP := Lib.hid hop; clear hop
 obtain ⟨W1, hW1, hP, hz1, hB1⟩ := box w #[.int .i64 op, .slice ka kn kc, .string text, .int .i64 low, .int .i64 high, .slice aa an ac] 25
 have HW1 := Lib.hid hW1
 clear hW1 hz1
 obtain ⟨q0, q1, q2, q3, q4, q5⟩ := hP.six
 obtain rfl : op = 15 := HOP.out
 by_cases g0 : kn = 0
 ·have G0 := Lib.hid g0
  have k1 : ¬ (0 : Int) < (kn : Int) := by omega
  clear g0
  by_cases g1 : an = 2
  ·have G1 := Lib.hid g1
   have a1 : ((an : Int) != 2) = false := by simp; omega
   clear g1
   cases ht : text.toList.isEmpty
   ·have HT := Lib.hid ht
    obtain rfl : b = false := by rw [← hb]; exact Cnd.formB_text_J _ kn an text low high HOP.out HT.out
    rw [if_neg (by simp)]
    clear hb
    go_enter Tryz.func66, Tryz.ntmps66
    go_wp2_with fail
    rw [HW1.out]
    go_wp2_with (go_at_call 107; refine (HFM.out _).mono ?_; rintro e w3 ⟨rfl, hB3⟩; have hlt3 := (hP.keep hB3).lt; obtain ⟨t0, t1, t2, t3, t4, t5⟩ := ((hP.keep hB3).alloc (.cells #[.bool false, .bool false, .bool false, .int .i64 2] 153)).six)
    go_ret
    exact ⟨rfl, below_allocs (below_up hB1 hB3) _⟩
   ·have HT := Lib.hid ht
    by_cases g3 : low = 0
    ·have G3 := Lib.hid g3
     have l1 : (low != 0) = false := by simp; omega
     clear g3
     by_cases g4 : high = 0
     ·have G4 := Lib.hid g4
      have h1 : (high != 0) = false := by simp; omega
      clear g4
      obtain rfl : b = true := by rw [← hb]; exact Cnd.formB_J _ kn an text low high HOP.out G0.out G1.out HT.out G3.out G4.out
      rw [if_pos rfl]
      clear hb
      go_enter Tryz.func66, Tryz.ntmps66
      go_wp2_with fail
      rw [HW1.out]
      go_wp2_with (go_at_call 107; refine (HFM.out _).mono ?_; rintro e w3 ⟨rfl, hB3⟩; have hlt3 := (hP.keep hB3).lt; obtain ⟨t0, t1, t2, t3, t4, t5⟩ := ((hP.keep hB3).alloc (.cells #[.bool false, .bool false, .bool false, .int .i64 2] 153)).six)
      go_ret
      exact ⟨rfl, below_allocs (below_up hB1 hB3) _⟩
     ·have G4 := Lib.hid g4
      have h1 : (high != 0) = true := by simp; omega
      clear g4
      obtain rfl : b = false := by rw [← hb]; exact Cnd.formB_high_J _ kn an text low high HOP.out G4.out
      rw [if_neg (by simp)]
      clear hb
      go_enter Tryz.func66, Tryz.ntmps66
      go_wp2_with fail
      rw [HW1.out]
      go_wp2_with (go_at_call 107; refine (HFM.out _).mono ?_; rintro e w3 ⟨rfl, hB3⟩; have hlt3 := (hP.keep hB3).lt; obtain ⟨t0, t1, t2, t3, t4, t5⟩ := ((hP.keep hB3).alloc (.cells #[.bool false, .bool false, .bool false, .int .i64 2] 153)).six)
      go_ret
      exact ⟨rfl, below_allocs (below_up hB1 hB3) _⟩
    ·have G3 := Lib.hid g3
     have l1 : (low != 0) = true := by simp; omega
     clear g3
     obtain rfl : b = false := by rw [← hb]; exact Cnd.formB_low_J _ kn an text low high HOP.out G3.out
     rw [if_neg (by simp)]
     clear hb
     go_enter Tryz.func66, Tryz.ntmps66
     go_wp2_with fail
     rw [HW1.out]
     go_wp2_with (go_at_call 107; refine (HFM.out _).mono ?_; rintro e w3 ⟨rfl, hB3⟩; have hlt3 := (hP.keep hB3).lt; obtain ⟨t0, t1, t2, t3, t4, t5⟩ := ((hP.keep hB3).alloc (.cells #[.bool false, .bool false, .bool false, .int .i64 2] 153)).six)
     go_ret
     exact ⟨rfl, below_allocs (below_up hB1 hB3) _⟩
  ·have G1 := Lib.hid g1
   have a1 : ((an : Int) != 2) = true := by simp; omega
   clear g1
   obtain rfl : b = false := by rw [← hb]; exact Cnd.formB_at_J _ kn an text low high HOP.out G1.out
   rw [if_neg (by simp)]
   clear hb
   go_enter Tryz.func66, Tryz.ntmps66
   go_wp2_with fail
   rw [HW1.out]
   go_wp2_with (go_at_call 107; refine (HFM.out _).mono ?_; rintro e w3 ⟨rfl, hB3⟩; have hlt3 := (hP.keep hB3).lt; obtain ⟨t0, t1, t2, t3, t4, t5⟩ := ((hP.keep hB3).alloc (.cells #[.bool false, .bool false, .bool false, .int .i64 2] 153)).six)
   go_ret
   exact ⟨rfl, below_allocs (below_up hB1 hB3) _⟩
 ·have G0 := Lib.hid g0
  have k1 : (0 : Int) < (kn : Int) := by omega
  clear g0
  obtain rfl : b = false := by rw [← hb]; exact Cnd.formB_kids_J _ kn an text low high HOP.out G0.out
  rw [if_neg (by simp)]
  clear hb
  go_enter Tryz.func66, Tryz.ntmps66
  go_wp2_with fail
  rw [HW1.out]
  go_wp2_with (go_at_call 107; refine (HFM.out _).mono ?_; rintro e w3 ⟨rfl, hB3⟩; have hlt3 := (hP.keep hB3).lt; obtain ⟨t0, t1, t2, t3, t4, t5⟩ := ((hP.keep hB3).alloc (.cells #[.bool false, .bool false, .bool false, .int .i64 2] 153)).six)
  go_ret
  exact ⟨rfl, below_allocs (below_up hB1 hB3) _⟩
end Go.Proofs.YtimjmjmpaicdbaaGreatDoor
