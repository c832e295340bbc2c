/- checkForm, by classes of operations: DEFG. -/
import Derived.Test.YtbbedepojogfmaaCndOp
namespace Go.Proofs.Ytbbedepojogfmaa
open Go.RowKit Go.Sort Go.Shelf
set_option linter.unusedVariables false
set_option maxHeartbeats 4000000 in
theorem checkForm_D (op : Int) (ka : Option Addr) (kn kc : Nat) (text : ByteArray) (low high : Int) (aa : Option Addr) (an ac : Nat) (w : World) (hkn : kn ≤ 9223372036854775807) (han : an ≤ 9223372036854775807) (b : Bool) (hb : Cnd.formB op kn an text low high = b) (hop : op = 5) : Calls Try.prog 147 #[.agg #[.int .i64 op, .slice ka kn kc, .string text, .int .i64 low, .int .i64 high, .slice aa an ac]] w fun e w' => e = .returned (.int .i64 (if b = true then 0 else 1)) ∧ Below w.heap.size w w' := by
  have HFM := Lib.hid (Cnd.formC_D op hop)
  have HOP := Lib.hid hop; clear hop
  -- a condition's box: W1, its 6 cells
  obtain ⟨W1, hW1, hP, hz1, hB1⟩ := box w #[.int .i64 op, .slice ka kn kc, .string text, .int .i64 low, .int .i64 high, .slice aa an ac] 103
  have HW1 := Lib.hid hW1
  clear hW1 hz1
  obtain ⟨q0, q1, q2, q3, q4, q5⟩ := hP.six
  obtain rfl : op = 5 := HOP.out
  by_cases g0 : kn = 0
  · have G0 := Lib.hid g0
    have k1 : ¬ (0 : Int) < (kn : Int) := by omega
    clear g0
    by_cases g1 : an = 0
    · have G1 := Lib.hid g1
      have a1 : ((an : Int) != 0) = false := by simp; omega
      clear g1
      by_cases g2 : low = 0
      · have G2 := Lib.hid g2
        have l1 : (low != 0) = false := by simp; omega
        clear g2
        by_cases g3 : high = 0
        · have G3 := Lib.hid g3
          have h1 : (high != 0) = false := by simp; omega
          clear g3
          obtain rfl : b = true := by rw [← hb]; exact Cnd.formB_D _ kn an text low high HOP.out G0.out G1.out G2.out G3.out
          rw [if_pos rfl]
          clear hb
          go_enter Try.func147, Try.ntmps147
          go_wp2_with fail
          rw [HW1.out]
          go_wp2_with (go_at_call 152; refine (HFM.out _).mono ?_; rintro e w3 ⟨rfl, hB3⟩; have hlt3 := (hP.keep hB3).lt; obtain ⟨t0, t1, t2, t3, t4, t5⟩ := ((hP.keep hB3).alloc (.cells #[.bool true, .bool false, .bool false, .int .i64 0] 180)).six)
          go_ret
          exact ⟨rfl, below_allocs (below_up hB1 hB3) _⟩
        · have G3 := Lib.hid g3
          have h1 : (high != 0) = true := by simp; omega
          clear g3
          obtain rfl : b = false := by rw [← hb]; exact Cnd.formB_high_D _ kn an text low high HOP.out G3.out
          rw [if_neg (by simp)]
          clear hb
          go_enter Try.func147, Try.ntmps147
          go_wp2_with fail
          rw [HW1.out]
          go_wp2_with (go_at_call 152; refine (HFM.out _).mono ?_; rintro e w3 ⟨rfl, hB3⟩; have hlt3 := (hP.keep hB3).lt; obtain ⟨t0, t1, t2, t3, t4, t5⟩ := ((hP.keep hB3).alloc (.cells #[.bool true, .bool false, .bool false, .int .i64 0] 180)).six)
          go_ret
          exact ⟨rfl, below_allocs (below_up hB1 hB3) _⟩
      · have G2 := Lib.hid g2
        have l1 : (low != 0) = true := by simp; omega
        clear g2
        obtain rfl : b = false := by rw [← hb]; exact Cnd.formB_low_D _ kn an text low high HOP.out G2.out
        rw [if_neg (by simp)]
        clear hb
        go_enter Try.func147, Try.ntmps147
        go_wp2_with fail
        rw [HW1.out]
        go_wp2_with (go_at_call 152; refine (HFM.out _).mono ?_; rintro e w3 ⟨rfl, hB3⟩; have hlt3 := (hP.keep hB3).lt; obtain ⟨t0, t1, t2, t3, t4, t5⟩ := ((hP.keep hB3).alloc (.cells #[.bool true, .bool false, .bool false, .int .i64 0] 180)).six)
        go_ret
        exact ⟨rfl, below_allocs (below_up hB1 hB3) _⟩
    · have G1 := Lib.hid g1
      have a1 : ((an : Int) != 0) = true := by simp; omega
      clear g1
      obtain rfl : b = false := by rw [← hb]; exact Cnd.formB_at_D _ kn an text low high HOP.out G1.out
      rw [if_neg (by simp)]
      clear hb
      go_enter Try.func147, Try.ntmps147
      go_wp2_with fail
      rw [HW1.out]
      go_wp2_with (go_at_call 152; refine (HFM.out _).mono ?_; rintro e w3 ⟨rfl, hB3⟩; have hlt3 := (hP.keep hB3).lt; obtain ⟨t0, t1, t2, t3, t4, t5⟩ := ((hP.keep hB3).alloc (.cells #[.bool true, .bool false, .bool false, .int .i64 0] 180)).six)
      go_ret
      exact ⟨rfl, below_allocs (below_up hB1 hB3) _⟩
  · have G0 := Lib.hid g0
    have k1 : (0 : Int) < (kn : Int) := by omega
    clear g0
    obtain rfl : b = false := by rw [← hb]; exact Cnd.formB_kids_D _ kn an text low high HOP.out G0.out
    rw [if_neg (by simp)]
    clear hb
    go_enter Try.func147, Try.ntmps147
    go_wp2_with fail
    rw [HW1.out]
    go_wp2_with (go_at_call 152; refine (HFM.out _).mono ?_; rintro e w3 ⟨rfl, hB3⟩; have hlt3 := (hP.keep hB3).lt; obtain ⟨t0, t1, t2, t3, t4, t5⟩ := ((hP.keep hB3).alloc (.cells #[.bool true, .bool false, .bool false, .int .i64 0] 180)).six)
    go_ret
    exact ⟨rfl, below_allocs (below_up hB1 hB3) _⟩
set_option maxHeartbeats 4000000 in
theorem checkForm_E (op : Int) (ka : Option Addr) (kn kc : Nat) (text : ByteArray) (low high : Int) (aa : Option Addr) (an ac : Nat) (w : World) (hkn : kn ≤ 9223372036854775807) (han : an ≤ 9223372036854775807) (b : Bool) (hb : Cnd.formB op kn an text low high = b) (hop : op = 6) : Calls Try.prog 147 #[.agg #[.int .i64 op, .slice ka kn kc, .string text, .int .i64 low, .int .i64 high, .slice aa an ac]] w fun e w' => e = .returned (.int .i64 (if b = true then 0 else 1)) ∧ Below w.heap.size w w' := by
  have HFM := Lib.hid (Cnd.formC_E op hop)
  have HOP := Lib.hid hop; clear hop
  -- a condition's box: W1, its 6 cells
  obtain ⟨W1, hW1, hP, hz1, hB1⟩ := box w #[.int .i64 op, .slice ka kn kc, .string text, .int .i64 low, .int .i64 high, .slice aa an ac] 103
  have HW1 := Lib.hid hW1
  clear hW1 hz1
  obtain ⟨q0, q1, q2, q3, q4, q5⟩ := hP.six
  obtain rfl : op = 6 := HOP.out
  by_cases g0 : kn = 0
  · have G0 := Lib.hid g0
    have k1 : ¬ (0 : Int) < (kn : Int) := by omega
    clear g0
    by_cases g1 : an = 0
    · have G1 := Lib.hid g1
      have a1 : ((an : Int) != 0) = false := by simp; omega
      clear g1
      cases ht : text.toList.isEmpty
      · have HT := Lib.hid ht
        obtain rfl : b = false := by rw [← hb]; exact Cnd.formB_text_E _ kn an text low high HOP.out HT.out
        rw [if_neg (by simp)]
        clear hb
        go_enter Try.func147, Try.ntmps147
        go_wp2_with fail
        rw [HW1.out]
        go_wp2_with (go_at_call 152; refine (HFM.out _).mono ?_; rintro e w3 ⟨rfl, hB3⟩; have hlt3 := (hP.keep hB3).lt; obtain ⟨t0, t1, t2, t3, t4, t5⟩ := ((hP.keep hB3).alloc (.cells #[.bool false, .bool true, .bool false, .int .i64 0] 180)).six)
        go_ret
        exact ⟨rfl, below_allocs (below_up hB1 hB3) _⟩
      · have HT := Lib.hid ht
        by_cases g3 : high = 0
        · have G3 := Lib.hid g3
          have h1 : (high != 0) = false := by simp; omega
          clear g3
          obtain rfl : b = true := by rw [← hb]; exact Cnd.formB_E _ kn an text low high HOP.out G0.out G1.out HT.out G3.out
          rw [if_pos rfl]
          clear hb
          go_enter Try.func147, Try.ntmps147
          go_wp2_with fail
          rw [HW1.out]
          go_wp2_with (go_at_call 152; refine (HFM.out _).mono ?_; rintro e w3 ⟨rfl, hB3⟩; have hlt3 := (hP.keep hB3).lt; obtain ⟨t0, t1, t2, t3, t4, t5⟩ := ((hP.keep hB3).alloc (.cells #[.bool false, .bool true, .bool false, .int .i64 0] 180)).six)
          go_ret
          exact ⟨rfl, below_allocs (below_up hB1 hB3) _⟩
        · have G3 := Lib.hid g3
          have h1 : (high != 0) = true := by simp; omega
          clear g3
          obtain rfl : b = false := by rw [← hb]; exact Cnd.formB_high_E _ kn an text low high HOP.out G3.out
          rw [if_neg (by simp)]
          clear hb
          go_enter Try.func147, Try.ntmps147
          go_wp2_with fail
          rw [HW1.out]
          go_wp2_with (go_at_call 152; refine (HFM.out _).mono ?_; rintro e w3 ⟨rfl, hB3⟩; have hlt3 := (hP.keep hB3).lt; obtain ⟨t0, t1, t2, t3, t4, t5⟩ := ((hP.keep hB3).alloc (.cells #[.bool false, .bool true, .bool false, .int .i64 0] 180)).six)
          go_ret
          exact ⟨rfl, below_allocs (below_up hB1 hB3) _⟩
    · have G1 := Lib.hid g1
      have a1 : ((an : Int) != 0) = true := by simp; omega
      clear g1
      obtain rfl : b = false := by rw [← hb]; exact Cnd.formB_at_E _ kn an text low high HOP.out G1.out
      rw [if_neg (by simp)]
      clear hb
      go_enter Try.func147, Try.ntmps147
      go_wp2_with fail
      rw [HW1.out]
      go_wp2_with (go_at_call 152; refine (HFM.out _).mono ?_; rintro e w3 ⟨rfl, hB3⟩; have hlt3 := (hP.keep hB3).lt; obtain ⟨t0, t1, t2, t3, t4, t5⟩ := ((hP.keep hB3).alloc (.cells #[.bool false, .bool true, .bool false, .int .i64 0] 180)).six)
      go_ret
      exact ⟨rfl, below_allocs (below_up hB1 hB3) _⟩
  · have G0 := Lib.hid g0
    have k1 : (0 : Int) < (kn : Int) := by omega
    clear g0
    obtain rfl : b = false := by rw [← hb]; exact Cnd.formB_kids_E _ kn an text low high HOP.out G0.out
    rw [if_neg (by simp)]
    clear hb
    go_enter Try.func147, Try.ntmps147
    go_wp2_with fail
    rw [HW1.out]
    go_wp2_with (go_at_call 152; refine (HFM.out _).mono ?_; rintro e w3 ⟨rfl, hB3⟩; have hlt3 := (hP.keep hB3).lt; obtain ⟨t0, t1, t2, t3, t4, t5⟩ := ((hP.keep hB3).alloc (.cells #[.bool false, .bool true, .bool false, .int .i64 0] 180)).six)
    go_ret
    exact ⟨rfl, below_allocs (below_up hB1 hB3) _⟩
set_option maxHeartbeats 4000000 in
theorem checkForm_F (op : Int) (ka : Option Addr) (kn kc : Nat) (text : ByteArray) (low high : Int) (aa : Option Addr) (an ac : Nat) (w : World) (hkn : kn ≤ 9223372036854775807) (han : an ≤ 9223372036854775807) (b : Bool) (hb : Cnd.formB op kn an text low high = b) (hop : op = 7) : Calls Try.prog 147 #[.agg #[.int .i64 op, .slice ka kn kc, .string text, .int .i64 low, .int .i64 high, .slice aa an ac]] w fun e w' => e = .returned (.int .i64 (if b = true then 0 else 1)) ∧ Below w.heap.size w w' := by
  have HFM := Lib.hid (Cnd.formC_F op hop)
  have HOP := Lib.hid hop; clear hop
  -- a condition's box: W1, its 6 cells
  obtain ⟨W1, hW1, hP, hz1, hB1⟩ := box w #[.int .i64 op, .slice ka kn kc, .string text, .int .i64 low, .int .i64 high, .slice aa an ac] 103
  have HW1 := Lib.hid hW1
  clear hW1 hz1
  obtain ⟨q0, q1, q2, q3, q4, q5⟩ := hP.six
  obtain rfl : op = 7 := HOP.out
  by_cases g0 : kn = 0
  · have G0 := Lib.hid g0
    have k1 : ¬ (0 : Int) < (kn : Int) := by omega
    clear g0
    by_cases g1 : an = 0
    · have G1 := Lib.hid g1
      have a1 : ((an : Int) != 0) = false := by simp; omega
      clear g1
      cases ht : text.toList.isEmpty
      · have HT := Lib.hid ht
        obtain rfl : b = false := by rw [← hb]; exact Cnd.formB_text_F _ kn an text low high HOP.out HT.out
        rw [if_neg (by simp)]
        clear hb
        go_enter Try.func147, Try.ntmps147
        go_wp2_with fail
        rw [HW1.out]
        go_wp2_with (go_at_call 152; refine (HFM.out _).mono ?_; rintro e w3 ⟨rfl, hB3⟩; have hlt3 := (hP.keep hB3).lt; obtain ⟨t0, t1, t2, t3, t4, t5⟩ := ((hP.keep hB3).alloc (.cells #[.bool false, .bool true, .bool true, .int .i64 0] 180)).six)
        go_ret
        exact ⟨rfl, below_allocs (below_up hB1 hB3) _⟩
      · have HT := Lib.hid ht
        obtain rfl : b = true := by rw [← hb]; exact Cnd.formB_F _ kn an text low high HOP.out G0.out G1.out HT.out
        rw [if_pos rfl]
        clear hb
        go_enter Try.func147, Try.ntmps147
        go_wp2_with fail
        rw [HW1.out]
        go_wp2_with (go_at_call 152; refine (HFM.out _).mono ?_; rintro e w3 ⟨rfl, hB3⟩; have hlt3 := (hP.keep hB3).lt; obtain ⟨t0, t1, t2, t3, t4, t5⟩ := ((hP.keep hB3).alloc (.cells #[.bool false, .bool true, .bool true, .int .i64 0] 180)).six)
        go_ret
        exact ⟨rfl, below_allocs (below_up hB1 hB3) _⟩
    · have G1 := Lib.hid g1
      have a1 : ((an : Int) != 0) = true := by simp; omega
      clear g1
      obtain rfl : b = false := by rw [← hb]; exact Cnd.formB_at_F _ kn an text low high HOP.out G1.out
      rw [if_neg (by simp)]
      clear hb
      go_enter Try.func147, Try.ntmps147
      go_wp2_with fail
      rw [HW1.out]
      go_wp2_with (go_at_call 152; refine (HFM.out _).mono ?_; rintro e w3 ⟨rfl, hB3⟩; have hlt3 := (hP.keep hB3).lt; obtain ⟨t0, t1, t2, t3, t4, t5⟩ := ((hP.keep hB3).alloc (.cells #[.bool false, .bool true, .bool true, .int .i64 0] 180)).six)
      go_ret
      exact ⟨rfl, below_allocs (below_up hB1 hB3) _⟩
  · have G0 := Lib.hid g0
    have k1 : (0 : Int) < (kn : Int) := by omega
    clear g0
    obtain rfl : b = false := by rw [← hb]; exact Cnd.formB_kids_F _ kn an text low high HOP.out G0.out
    rw [if_neg (by simp)]
    clear hb
    go_enter Try.func147, Try.ntmps147
    go_wp2_with fail
    rw [HW1.out]
    go_wp2_with (go_at_call 152; refine (HFM.out _).mono ?_; rintro e w3 ⟨rfl, hB3⟩; have hlt3 := (hP.keep hB3).lt; obtain ⟨t0, t1, t2, t3, t4, t5⟩ := ((hP.keep hB3).alloc (.cells #[.bool false, .bool true, .bool true, .int .i64 0] 180)).six)
    go_ret
    exact ⟨rfl, below_allocs (below_up hB1 hB3) _⟩
set_option maxHeartbeats 4000000 in
theorem checkForm_G (op : Int) (ka : Option Addr) (kn kc : Nat) (text : ByteArray) (low high : Int) (aa : Option Addr) (an ac : Nat) (w : World) (hkn : kn ≤ 9223372036854775807) (han : an ≤ 9223372036854775807) (b : Bool) (hb : Cnd.formB op kn an text low high = b) (hop : op = 8) : Calls Try.prog 147 #[.agg #[.int .i64 op, .slice ka kn kc, .string text, .int .i64 low, .int .i64 high, .slice aa an ac]] w fun e w' => e = .returned (.int .i64 (if b = true then 0 else 1)) ∧ Below w.heap.size w w' := by
  have HFM := Lib.hid (Cnd.formC_G op hop)
  have HOP := Lib.hid hop; clear hop
  -- a condition's box: W1, its 6 cells
  obtain ⟨W1, hW1, hP, hz1, hB1⟩ := box w #[.int .i64 op, .slice ka kn kc, .string text, .int .i64 low, .int .i64 high, .slice aa an ac] 103
  have HW1 := Lib.hid hW1
  clear hW1 hz1
  obtain ⟨q0, q1, q2, q3, q4, q5⟩ := hP.six
  obtain rfl : op = 8 := HOP.out
  by_cases g0 : kn = 0
  · have G0 := Lib.hid g0
    have k1 : ¬ (0 : Int) < (kn : Int) := by omega
    clear g0
    by_cases g1 : an = 0
    · have G1 := Lib.hid g1
      have a1 : ((an : Int) != 0) = false := by simp; omega
      clear g1
      cases ht : text.toList.isEmpty
      · have HT := Lib.hid ht
        obtain rfl : b = false := by rw [← hb]; exact Cnd.formB_text_G _ kn an text low high HOP.out HT.out
        rw [if_neg (by simp)]
        clear hb
        go_enter Try.func147, Try.ntmps147
        go_wp2_with fail
        rw [HW1.out]
        go_wp2_with (go_at_call 152; refine (HFM.out _).mono ?_; rintro e w3 ⟨rfl, hB3⟩; have hlt3 := (hP.keep hB3).lt; obtain ⟨t0, t1, t2, t3, t4, t5⟩ := ((hP.keep hB3).alloc (.cells #[.bool false, .bool true, .bool true, .int .i64 0] 180)).six)
        go_ret
        exact ⟨rfl, below_allocs (below_up hB1 hB3) _⟩
      · have HT := Lib.hid ht
        obtain rfl : b = true := by rw [← hb]; exact Cnd.formB_G _ kn an text low high HOP.out G0.out G1.out HT.out
        rw [if_pos rfl]
        clear hb
        go_enter Try.func147, Try.ntmps147
        go_wp2_with fail
        rw [HW1.out]
        go_wp2_with (go_at_call 152; refine (HFM.out _).mono ?_; rintro e w3 ⟨rfl, hB3⟩; have hlt3 := (hP.keep hB3).lt; obtain ⟨t0, t1, t2, t3, t4, t5⟩ := ((hP.keep hB3).alloc (.cells #[.bool false, .bool true, .bool true, .int .i64 0] 180)).six)
        go_ret
        exact ⟨rfl, below_allocs (below_up hB1 hB3) _⟩
    · have G1 := Lib.hid g1
      have a1 : ((an : Int) != 0) = true := by simp; omega
      clear g1
      obtain rfl : b = false := by rw [← hb]; exact Cnd.formB_at_G _ kn an text low high HOP.out G1.out
      rw [if_neg (by simp)]
      clear hb
      go_enter Try.func147, Try.ntmps147
      go_wp2_with fail
      rw [HW1.out]
      go_wp2_with (go_at_call 152; refine (HFM.out _).mono ?_; rintro e w3 ⟨rfl, hB3⟩; have hlt3 := (hP.keep hB3).lt; obtain ⟨t0, t1, t2, t3, t4, t5⟩ := ((hP.keep hB3).alloc (.cells #[.bool false, .bool true, .bool true, .int .i64 0] 180)).six)
      go_ret
      exact ⟨rfl, below_allocs (below_up hB1 hB3) _⟩
  · have G0 := Lib.hid g0
    have k1 : (0 : Int) < (kn : Int) := by omega
    clear g0
    obtain rfl : b = false := by rw [← hb]; exact Cnd.formB_kids_G _ kn an text low high HOP.out G0.out
    rw [if_neg (by simp)]
    clear hb
    go_enter Try.func147, Try.ntmps147
    go_wp2_with fail
    rw [HW1.out]
    go_wp2_with (go_at_call 152; refine (HFM.out _).mono ?_; rintro e w3 ⟨rfl, hB3⟩; have hlt3 := (hP.keep hB3).lt; obtain ⟨t0, t1, t2, t3, t4, t5⟩ := ((hP.keep hB3).alloc (.cells #[.bool false, .bool true, .bool true, .int .i64 0] 180)).six)
    go_ret
    exact ⟨rfl, below_allocs (below_up hB1 hB3) _⟩
end Go.Proofs.Ytbbedepojogfmaa
