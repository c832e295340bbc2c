/- Parts of the proof, no condition: CndBr, CndK, CndAll. -/
import Derived.Test.YtimjmjmpaicdbaaGreatDoorPc2
import Derived.Test.YtimjmjmpaicdbaaGreatDoorPc1
import Derived.Test.YtimjmjmpaicdbaaGreatDoorPc3
set_option maxRecDepth 100000
set_option maxHeartbeats 8000000
set_option linter.unusedVariables false
namespace Go.Proofs.YtimjmjmpaicdbaaGreatDoor
open Go.RowKit Go.Sort Go.Shelf
theorem condBare_A (op : Int) (ka : Option Addr) (kn kc : Nat) (text : ByteArray) (low high : Int) (aa : Option Addr) (an ac : Nat) (lat lon : Nat → Int) (w : World) (hkn : kn ≤ 9223372036854775807) (han : an ≤ 9223372036854775807) (hts : text.size ≤ 9223372036854775807) (hrow : Row2 w aa an (fun i => .int .i64 (lat i)) (fun i => .int .i64 (lon i))) (q : Int) (hq : Cnd.bareE op kn text low high an lat lon = q) (hop : op = 1 ∨ op = 2) : Calls Tryz.prog 25 #[.agg #[.int .i64 op, .slice ka kn kc, .string text, .int .i64 low, .int .i64 high, .slice aa an ac]] w fun e w' => e = .returned (.int .i64 q) ∧ Below w.heap.size w w' := by
 have H16 : Hid (1 ≤ op ∧ op ≤ 16) := Lib.hid (by omega)
 have HFL : Cnd.fLow op = false := by rcases hop with rfl | rfl <;> rfl
 have HFH : Cnd.fHigh op = false := by rcases hop with rfl | rfl <;> rfl
 have HTE : Hid (Cnd.textE op text = 0) := by rcases hop with rfl | rfl <;> exact Lib.hid (by simp [Cnd.textE])
 have HFL := Lib.hid HFL; have HFH := Lib.hid HFH
 have op3 : (op == 3) = false := by rcases hop with rfl | rfl <;> rfl
 have op14 : (op == 14) = false := by rcases hop with rfl | rfl <;> rfl
 have op15 : (op == 15) = false := by rcases hop with rfl | rfl <;> rfl
 have op4 : (op == 4) = false := by rcases hop with rfl | rfl <;> rfl
 have op5 : (op == 5) = false := by rcases hop with rfl | rfl <;> rfl
 have op6 : (op == 6) = false := by rcases hop with rfl | rfl <;> rfl
 have op7 : (op == 7) = false := by rcases hop with rfl | rfl <;> rfl
 have op8 : (op == 8) = false := by rcases hop with rfl | rfl <;> rfl
 have opg : ¬ (4 : Int) ≤ op := by omega
 have opl : ¬ op < 1 := by omega
 have opm : ¬ (16 : Int) < op := by omega
 have HOP := Lib.hid hop; clear hop
 obtain ⟨W1, hW1, hP, hz1, hB1⟩ := box w #[.int .i64 op, .slice ka kn kc, .string text, .int .i64 low, .int .i64 high, .slice aa an ac] 25
 have HW1 := Lib.hid hW1
 clear hW1 hz1
 obtain ⟨q0, q1, q2, q3, q4, q5⟩ := hP.six
 have HROW := Lib.hid (hrow.keep hB1); have HQ := Lib.hid hq; clear hrow hq
 by_cases g0 : an = 0
 ·have G0 := Lib.hid g0
  have a1 : ((an : Int) != 0) = false := by simp; omega
  clear g0
  cases ht : text.toList.isEmpty
  ·have HT := Lib.hid ht
   obtain rfl : q = 1 := by rw [← HQ.out]; exact Cnd.bareE_form H16.out (Cnd.formB_text_A _ _ _ _ _ _ HOP.out HT.out)
   go_enter Tryz.func25, Tryz.ntmps25
   go_wp2_with fail
   rw [HW1.out]
   go_wp2_with fail
   go_ret
   exact ⟨rfl, hB1⟩
  ·have HT := Lib.hid ht
   by_cases g2 : low = 0
   ·have G2 := Lib.hid g2
    have l1 : (low != 0) = false := by simp; omega
    clear g2
    by_cases g3 : high = 0
    ·have G3 := Lib.hid g3
     have h1 : (high != 0) = false := by simp; omega
     clear g3
     have HFB : Hid (Cnd.formB op kn an text low high = true) := Lib.hid (Cnd.formB_A _ _ _ _ _ _ HOP.out G0.out HT.out G2.out G3.out)
     obtain rfl : q = 0 := by rw [← HQ.out]; exact Cnd.bareE_num H16.out HFB.out HTE.out (Cnd.numE_ok (fun h => by rw [HFL.out] at h; cases h) (fun h => by rw [HFH.out] at h; cases h) (fun k hk => by have := G0.out; omega) (by rintro (⟨h, _⟩ | ⟨h, _⟩); (rw [HFH.out] at h; cases h); (have h2 := op15; rw [h] at h2; cases h2)))
     go_enter Tryz.func25, Tryz.ntmps25
     go_wp2_with fail
     rw [HW1.out]
     go_wp2_with fail
     go_ret
     exact ⟨rfl, hB1⟩
    ·have G3 := Lib.hid g3
     have h1 : (high != 0) = true := by simp; omega
     clear g3
     obtain rfl : q = 1 := by rw [← HQ.out]; exact Cnd.bareE_form H16.out (Cnd.formB_high_A _ _ _ _ _ _ HOP.out G3.out)
     go_enter Tryz.func25, Tryz.ntmps25
     go_wp2_with fail
     rw [HW1.out]
     go_wp2_with fail
     go_ret
     exact ⟨rfl, hB1⟩
   ·have G2 := Lib.hid g2
    have l1 : (low != 0) = true := by simp; omega
    clear g2
    obtain rfl : q = 1 := by rw [← HQ.out]; exact Cnd.bareE_form H16.out (Cnd.formB_low_A _ _ _ _ _ _ HOP.out G2.out)
    go_enter Tryz.func25, Tryz.ntmps25
    go_wp2_with fail
    rw [HW1.out]
    go_wp2_with fail
    go_ret
    exact ⟨rfl, hB1⟩
 ·have G0 := Lib.hid g0
  have a1 : ((an : Int) != 0) = true := by simp; omega
  clear g0
  obtain rfl : q = 1 := by rw [← HQ.out]; exact Cnd.bareE_form H16.out (Cnd.formB_at_A _ _ _ _ _ _ HOP.out G0.out)
  go_enter Tryz.func25, Tryz.ntmps25
  go_wp2_with fail
  rw [HW1.out]
  go_wp2_with fail
  go_ret
  exact ⟨rfl, hB1⟩
theorem condBare_B (op : Int) (ka : Option Addr) (kn kc : Nat) (text : ByteArray) (low high : Int) (aa : Option Addr) (an ac : Nat) (lat lon : Nat → Int) (w : World) (hkn : kn ≤ 9223372036854775807) (han : an ≤ 9223372036854775807) (hts : text.size ≤ 9223372036854775807) (hrow : Row2 w aa an (fun i => .int .i64 (lat i)) (fun i => .int .i64 (lon i))) (q : Int) (hq : Cnd.bareE op kn text low high an lat lon = q) (hop : op = 3) : Calls Tryz.prog 25 #[.agg #[.int .i64 op, .slice ka kn kc, .string text, .int .i64 low, .int .i64 high, .slice aa an ac]] w fun e w' => e = .returned (.int .i64 q) ∧ Below w.heap.size w w' := by
 have H16 : Hid (1 ≤ op ∧ op ≤ 16) := Lib.hid (by omega)
 have HFL : Cnd.fLow op = false := by subst hop <;> rfl
 have HFH : Cnd.fHigh op = false := by subst hop <;> rfl
 have HTE : Hid (Cnd.textE op text = 0) := by subst hop <;> exact Lib.hid (by simp [Cnd.textE])
 have HFL := Lib.hid HFL; have HFH := Lib.hid HFH
 have HOP := Lib.hid hop; clear hop
 obtain ⟨W1, hW1, hP, hz1, hB1⟩ := box w #[.int .i64 op, .slice ka kn kc, .string text, .int .i64 low, .int .i64 high, .slice aa an ac] 25
 have HW1 := Lib.hid hW1
 clear hW1 hz1
 obtain ⟨q0, q1, q2, q3, q4, q5⟩ := hP.six
 obtain rfl : op = 3 := HOP.out
 have HROW := Lib.hid (hrow.keep hB1); have HQ := Lib.hid hq; clear hrow hq
 by_cases g0 : kn = 1
 ·have G0 := Lib.hid g0
  have k1 : ((kn : Int) != 1) = false := by simp; omega
  clear g0
  by_cases g1 : an = 0
  ·have G1 := Lib.hid g1
   have a1 : ((an : Int) != 0) = false := by simp; omega
   clear g1
   cases ht : text.toList.isEmpty
   ·have HT := Lib.hid ht
    obtain rfl : q = 1 := by rw [← HQ.out]; exact Cnd.bareE_form H16.out (Cnd.formB_text_B _ _ _ _ _ _ HOP.out HT.out)
    go_enter Tryz.func25, Tryz.ntmps25
    go_wp2_with fail
    rw [HW1.out]
    go_wp2_with fail
    go_ret
    exact ⟨rfl, hB1⟩
   ·have HT := Lib.hid ht
    by_cases g3 : low = 0
    ·have G3 := Lib.hid g3
     have l1 : (low != 0) = false := by simp; omega
     clear g3
     by_cases g4 : high = 0
     ·have G4 := Lib.hid g4
      have h1 : (high != 0) = false := by simp; omega
      clear g4
      have HFB : Hid (Cnd.formB 3 kn an text low high = true) := Lib.hid (Cnd.formB_B _ _ _ _ _ _ HOP.out G0.out G1.out HT.out G3.out G4.out)
      obtain rfl : q = 0 := by rw [← HQ.out]; exact Cnd.bareE_num H16.out HFB.out HTE.out (Cnd.numE_ok (fun h => by rw [HFL.out] at h; cases h) (fun h => by rw [HFH.out] at h; cases h) (fun k hk => by have := G1.out; omega) (by rintro (⟨h, _⟩ | ⟨h, _⟩); (rw [HFH.out] at h; cases h); cases h))
      go_enter Tryz.func25, Tryz.ntmps25
      go_wp2_with fail
      rw [HW1.out]
      go_wp2_with fail
      go_ret
      exact ⟨rfl, hB1⟩
     ·have G4 := Lib.hid g4
      have h1 : (high != 0) = true := by simp; omega
      clear g4
      obtain rfl : q = 1 := by rw [← HQ.out]; exact Cnd.bareE_form H16.out (Cnd.formB_high_B _ _ _ _ _ _ HOP.out G4.out)
      go_enter Tryz.func25, Tryz.ntmps25
      go_wp2_with fail
      rw [HW1.out]
      go_wp2_with fail
      go_ret
      exact ⟨rfl, hB1⟩
    ·have G3 := Lib.hid g3
     have l1 : (low != 0) = true := by simp; omega
     clear g3
     obtain rfl : q = 1 := by rw [← HQ.out]; exact Cnd.bareE_form H16.out (Cnd.formB_low_B _ _ _ _ _ _ HOP.out G3.out)
     go_enter Tryz.func25, Tryz.ntmps25
     go_wp2_with fail
     rw [HW1.out]
     go_wp2_with fail
     go_ret
     exact ⟨rfl, hB1⟩
  ·have G1 := Lib.hid g1
   have a1 : ((an : Int) != 0) = true := by simp; omega
   clear g1
   obtain rfl : q = 1 := by rw [← HQ.out]; exact Cnd.bareE_form H16.out (Cnd.formB_at_B _ _ _ _ _ _ HOP.out G1.out)
   go_enter Tryz.func25, Tryz.ntmps25
   go_wp2_with fail
   rw [HW1.out]
   go_wp2_with fail
   go_ret
   exact ⟨rfl, hB1⟩
 ·have G0 := Lib.hid g0
  have k1 : ((kn : Int) != 1) = true := by simp; omega
  clear g0
  obtain rfl : q = 1 := by rw [← HQ.out]; exact Cnd.bareE_form H16.out (Cnd.formB_kids_B _ _ _ _ _ _ HOP.out G0.out)
  go_enter Tryz.func25, Tryz.ntmps25
  go_wp2_with fail
  rw [HW1.out]
  go_wp2_with fail
  go_ret
  exact ⟨rfl, hB1⟩
theorem condBare_C (op : Int) (ka : Option Addr) (kn kc : Nat) (text : ByteArray) (low high : Int) (aa : Option Addr) (an ac : Nat) (lat lon : Nat → Int) (w : World) (hkn : kn ≤ 9223372036854775807) (han : an ≤ 9223372036854775807) (hts : text.size ≤ 9223372036854775807) (hrow : Row2 w aa an (fun i => .int .i64 (lat i)) (fun i => .int .i64 (lon i))) (q : Int) (hq : Cnd.bareE op kn text low high an lat lon = q) (hop : op = 4) : Calls Tryz.prog 25 #[.agg #[.int .i64 op, .slice ka kn kc, .string text, .int .i64 low, .int .i64 high, .slice aa an ac]] w fun e w' => e = .returned (.int .i64 q) ∧ Below w.heap.size w w' := by
 have H16 : Hid (1 ≤ op ∧ op ≤ 16) := Lib.hid (by omega)
 have HFL : Cnd.fLow op = false := by subst hop <;> rfl
 have HFH : Cnd.fHigh op = false := by subst hop <;> rfl
 have HFL := Lib.hid HFL; have HFH := Lib.hid HFH
 have HOP := Lib.hid hop; clear hop
 obtain ⟨W1, hW1, hP, hz1, hB1⟩ := box w #[.int .i64 op, .slice ka kn kc, .string text, .int .i64 low, .int .i64 high, .slice aa an ac] 25
 have HW1 := Lib.hid hW1
 clear hW1 hz1
 obtain ⟨q0, q1, q2, q3, q4, q5⟩ := hP.six
 obtain rfl : op = 4 := HOP.out
 have HROW := Lib.hid (hrow.keep hB1); have HQ := Lib.hid hq; clear hrow hq
 by_cases g0 : kn = 0
 ·have G0 := Lib.hid g0
  have k1 : ¬ (0 : Int) < (kn : Int) := by omega
  subst g0
  by_cases g1 : an = 0
  ·have G1 := Lib.hid g1
   have a1 : ((an : Int) != 0) = false := by simp; omega
   clear g1
   by_cases g2 : low = 0
   ·have G2 := Lib.hid g2
    have l1 : (low != 0) = false := by simp; omega
    clear g2
    by_cases g3 : high = 0
    ·have G3 := Lib.hid g3
     have h1 : (high != 0) = false := by simp; omega
     clear g3
     have HFB : Hid (Cnd.formB 4 0 an text low high = true) := Lib.hid (Cnd.formB_C _ _ _ _ _ _ HOP.out G0.out G1.out G2.out G3.out)
     cases hn : Fd.nameB text
     ·have HN := Lib.hid hn; clear hn
      obtain rfl : q = 3 := by rw [← HQ.out]; exact Cnd.bareE_text H16.out HFB.out (by simp [Cnd.textE, HN.out]) (by decide)
      go_enter Tryz.func25, Tryz.ntmps25
      go_wp2_with fail
      rw [HW1.out]
      go_wp2_with (first | (go_at_call 69; (with_reducible refine (isNameR_is text hts false HN.out _).mono ?_); rintro e w2 ⟨rfl, rfl⟩))
      go_ret
      exact ⟨rfl, hB1⟩
     ·have HN := Lib.hid hn; clear hn
      obtain rfl : q = 0 := by rw [← HQ.out]; exact Cnd.bareE_num H16.out HFB.out (by simp [Cnd.textE, HN.out]) (Cnd.numE_ok (fun h => by rw [HFL.out] at h; cases h) (fun h => by rw [HFH.out] at h; cases h) (fun k hk => by have := G1.out; omega) (by rintro (⟨h, _⟩ | ⟨h, _⟩); (rw [HFH.out] at h; cases h); cases h))
      go_enter Tryz.func25, Tryz.ntmps25
      go_wp2_with fail
      rw [HW1.out]
      go_wp2_with (first | (go_at_call 69; (with_reducible refine (isNameR_is text hts true HN.out _).mono ?_); rintro e w2 ⟨rfl, rfl⟩))
      go_ret
      exact ⟨rfl, hB1⟩
    ·have G3 := Lib.hid g3
     have h1 : (high != 0) = true := by simp; omega
     clear g3
     obtain rfl : q = 1 := by rw [← HQ.out]; exact Cnd.bareE_form H16.out (Cnd.formB_high_C _ _ _ _ _ _ HOP.out G3.out)
     go_enter Tryz.func25, Tryz.ntmps25
     go_wp2_with fail
     rw [HW1.out]
     go_wp2_with fail
     go_ret
     exact ⟨rfl, hB1⟩
   ·have G2 := Lib.hid g2
    have l1 : (low != 0) = true := by simp; omega
    clear g2
    obtain rfl : q = 1 := by rw [← HQ.out]; exact Cnd.bareE_form H16.out (Cnd.formB_low_C _ _ _ _ _ _ HOP.out G2.out)
    go_enter Tryz.func25, Tryz.ntmps25
    go_wp2_with fail
    rw [HW1.out]
    go_wp2_with fail
    go_ret
    exact ⟨rfl, hB1⟩
  ·have G1 := Lib.hid g1
   have a1 : ((an : Int) != 0) = true := by simp; omega
   clear g1
   obtain rfl : q = 1 := by rw [← HQ.out]; exact Cnd.bareE_form H16.out (Cnd.formB_at_C _ _ _ _ _ _ HOP.out G1.out)
   go_enter Tryz.func25, Tryz.ntmps25
   go_wp2_with fail
   rw [HW1.out]
   go_wp2_with fail
   go_ret
   exact ⟨rfl, hB1⟩
 ·have G0 := Lib.hid g0
  have k1 : (0 : Int) < (kn : Int) := by omega
  clear g0
  obtain rfl : q = 1 := by rw [← HQ.out]; exact Cnd.bareE_form H16.out (Cnd.formB_kids_C _ _ _ _ _ _ HOP.out G0.out)
  go_enter Tryz.func25, Tryz.ntmps25
  go_wp2_with fail
  rw [HW1.out]
  go_wp2_with fail
  go_ret
  exact ⟨rfl, hB1⟩
theorem condBare_D (op : Int) (ka : Option Addr) (kn kc : Nat) (text : ByteArray) (low high : Int) (aa : Option Addr) (an ac : Nat) (lat lon : Nat → Int) (w : World) (hkn : kn ≤ 9223372036854775807) (han : an ≤ 9223372036854775807) (hts : text.size ≤ 9223372036854775807) (hrow : Row2 w aa an (fun i => .int .i64 (lat i)) (fun i => .int .i64 (lon i))) (q : Int) (hq : Cnd.bareE op kn text low high an lat lon = q) (hop : op = 5) : Calls Tryz.prog 25 #[.agg #[.int .i64 op, .slice ka kn kc, .string text, .int .i64 low, .int .i64 high, .slice aa an ac]] w fun e w' => e = .returned (.int .i64 q) ∧ Below w.heap.size w w' := by
 have H16 : Hid (1 ≤ op ∧ op ≤ 16) := Lib.hid (by omega)
 have HFL : Cnd.fLow op = false := by subst hop <;> rfl
 have HFH : Cnd.fHigh op = false := by subst hop <;> rfl
 have HFL := Lib.hid HFL; have HFH := Lib.hid HFH
 have HOP := Lib.hid hop; clear hop
 obtain ⟨W1, hW1, hP, hz1, hB1⟩ := box w #[.int .i64 op, .slice ka kn kc, .string text, .int .i64 low, .int .i64 high, .slice aa an ac] 25
 have HW1 := Lib.hid hW1
 clear hW1 hz1
 obtain ⟨q0, q1, q2, q3, q4, q5⟩ := hP.six
 obtain rfl : op = 5 := HOP.out
 have HROW := Lib.hid (hrow.keep hB1); have HQ := Lib.hid hq; clear hrow hq
 by_cases g0 : kn = 0
 ·have G0 := Lib.hid g0
  have k1 : ¬ (0 : Int) < (kn : Int) := by omega
  subst g0
  by_cases g1 : an = 0
  ·have G1 := Lib.hid g1
   have a1 : ((an : Int) != 0) = false := by simp; omega
   clear g1
   by_cases g2 : low = 0
   ·have G2 := Lib.hid g2
    have l1 : (low != 0) = false := by simp; omega
    clear g2
    by_cases g3 : high = 0
    ·have G3 := Lib.hid g3
     have h1 : (high != 0) = false := by simp; omega
     clear g3
     have HFB : Hid (Cnd.formB 5 0 an text low high = true) := Lib.hid (Cnd.formB_D _ _ _ _ _ _ HOP.out G0.out G1.out G2.out G3.out)
     cases he : text.toList.isEmpty
     ·have hz := Fd.size_of_full he
      by_cases hs : 200 < text.size
      ·have HS := Lib.hid hs
       have hs' : (200 : Int) < (text.size : Int) := by omega
       obtain rfl : q = 4 := by rw [← HQ.out]; exact Cnd.bareE_text H16.out HFB.out (by simp only [Cnd.textE]; rw [if_neg (by decide), if_pos (by decide), if_neg (by have := HS.out; omega)]) (by decide)
       go_enter Tryz.func25, Tryz.ntmps25
       go_wp2_with fail
       rw [HW1.out]
       go_wp2_with fail
       go_ret
       exact ⟨rfl, hB1⟩
      ·have HS := Lib.hid hs
       have hs' : ¬ (200 : Int) < (text.size : Int) := by omega
       have HZ := Lib.hid hz
       cases hp : Fd.plainB text
       ·have HP2 := Lib.hid hp; clear hp
        obtain rfl : q = 9 := by rw [← HQ.out]; exact Cnd.bareE_text H16.out HFB.out (by simp only [Cnd.textE]; rw [if_neg (by decide), if_pos (by decide), if_pos ⟨HZ.out, by have := HS.out; omega⟩, HP2.out]; rfl) (by decide)
        go_enter Tryz.func25, Tryz.ntmps25
        go_wp2_with fail
        rw [HW1.out]
        go_wp2_with (first | (go_at_call 70; (with_reducible refine (plain_is text hts false HP2.out _).mono ?_); rintro e w2 ⟨rfl, rfl⟩))
        go_ret
        exact ⟨rfl, hB1⟩
       ·have HP2 := Lib.hid hp; clear hp
        obtain rfl : q = 0 := by rw [← HQ.out]; exact Cnd.bareE_num H16.out HFB.out (by simp only [Cnd.textE]; rw [if_neg (by decide), if_pos (by decide), if_pos ⟨HZ.out, by have := HS.out; omega⟩, HP2.out]; rfl) (Cnd.numE_ok (fun h => by rw [HFL.out] at h; cases h) (fun h => by rw [HFH.out] at h; cases h) (fun k hk => by have := G1.out; omega) (by rintro (⟨h, _⟩ | ⟨h, _⟩); (rw [HFH.out] at h; cases h); cases h))
        go_enter Tryz.func25, Tryz.ntmps25
        go_wp2_with fail
        rw [HW1.out]
        go_wp2_with (first | (go_at_call 70; (with_reducible refine (plain_is text hts true HP2.out _).mono ?_); rintro e w2 ⟨rfl, rfl⟩))
        go_ret
        exact ⟨rfl, hB1⟩
     ·have HZ := Lib.hid (Fd.size_of_empty he)
      obtain rfl : q = 4 := by rw [← HQ.out]; exact Cnd.bareE_text H16.out HFB.out (by simp only [Cnd.textE]; rw [if_neg (by decide), if_pos (by decide), if_neg (by have := HZ.out; omega)]) (by decide)
      go_enter Tryz.func25, Tryz.ntmps25
      go_wp2_with fail
      rw [HW1.out]
      go_wp2_with fail
      go_ret
      exact ⟨rfl, hB1⟩
    ·have G3 := Lib.hid g3
     have h1 : (high != 0) = true := by simp; omega
     clear g3
     obtain rfl : q = 1 := by rw [← HQ.out]; exact Cnd.bareE_form H16.out (Cnd.formB_high_D _ _ _ _ _ _ HOP.out G3.out)
     go_enter Tryz.func25, Tryz.ntmps25
     go_wp2_with fail
     rw [HW1.out]
     go_wp2_with fail
     go_ret
     exact ⟨rfl, hB1⟩
   ·have G2 := Lib.hid g2
    have l1 : (low != 0) = true := by simp; omega
    clear g2
    obtain rfl : q = 1 := by rw [← HQ.out]; exact Cnd.bareE_form H16.out (Cnd.formB_low_D _ _ _ _ _ _ HOP.out G2.out)
    go_enter Tryz.func25, Tryz.ntmps25
    go_wp2_with fail
    rw [HW1.out]
    go_wp2_with fail
    go_ret
    exact ⟨rfl, hB1⟩
  ·have G1 := Lib.hid g1
   have a1 : ((an : Int) != 0) = true := by simp; omega
   clear g1
   obtain rfl : q = 1 := by rw [← HQ.out]; exact Cnd.bareE_form H16.out (Cnd.formB_at_D _ _ _ _ _ _ HOP.out G1.out)
   go_enter Tryz.func25, Tryz.ntmps25
   go_wp2_with fail
   rw [HW1.out]
   go_wp2_with fail
   go_ret
   exact ⟨rfl, hB1⟩
 ·have G0 := Lib.hid g0
  have k1 : (0 : Int) < (kn : Int) := by omega
  clear g0
  obtain rfl : q = 1 := by rw [← HQ.out]; exact Cnd.bareE_form H16.out (Cnd.formB_kids_D _ _ _ _ _ _ HOP.out G0.out)
  go_enter Tryz.func25, Tryz.ntmps25
  go_wp2_with fail
  rw [HW1.out]
  go_wp2_with fail
  go_ret
  exact ⟨rfl, hB1⟩
theorem condBare_E (op : Int) (ka : Option Addr) (kn kc : Nat) (text : ByteArray) (low high : Int) (aa : Option Addr) (an ac : Nat) (lat lon : Nat → Int) (w : World) (hkn : kn ≤ 9223372036854775807) (han : an ≤ 9223372036854775807) (hts : text.size ≤ 9223372036854775807) (hrow : Row2 w aa an (fun i => .int .i64 (lat i)) (fun i => .int .i64 (lon i))) (q : Int) (hq : Cnd.bareE op kn text low high an lat lon = q) (hop : op = 6) : Calls Tryz.prog 25 #[.agg #[.int .i64 op, .slice ka kn kc, .string text, .int .i64 low, .int .i64 high, .slice aa an ac]] w fun e w' => e = .returned (.int .i64 q) ∧ Below w.heap.size w w' := by
 have H16 : Hid (1 ≤ op ∧ op ≤ 16) := Lib.hid (by omega)
 have HFL : Cnd.fLow op = true := by subst hop <;> rfl
 have HFH : Cnd.fHigh op = false := by subst hop <;> rfl
 have HTE : Hid (Cnd.textE op text = 0) := by subst hop <;> exact Lib.hid (by simp [Cnd.textE])
 have HFL := Lib.hid HFL; have HFH := Lib.hid HFH
 have HOP := Lib.hid hop; clear hop
 obtain ⟨W1, hW1, hP, hz1, hB1⟩ := box w #[.int .i64 op, .slice ka kn kc, .string text, .int .i64 low, .int .i64 high, .slice aa an ac] 25
 have HW1 := Lib.hid hW1
 clear hW1 hz1
 obtain ⟨q0, q1, q2, q3, q4, q5⟩ := hP.six
 obtain rfl : op = 6 := HOP.out
 have HROW := Lib.hid (hrow.keep hB1); have HQ := Lib.hid hq; clear hrow hq
 by_cases g0 : kn = 0
 ·have G0 := Lib.hid g0
  have k1 : ¬ (0 : Int) < (kn : Int) := by omega
  subst g0
  by_cases g1 : an = 0
  ·have G1 := Lib.hid g1
   have a1 : ((an : Int) != 0) = false := by simp; omega
   clear g1
   cases ht : text.toList.isEmpty
   ·have HT := Lib.hid ht
    obtain rfl : q = 1 := by rw [← HQ.out]; exact Cnd.bareE_form H16.out (Cnd.formB_text_E _ _ _ _ _ _ HOP.out HT.out)
    go_enter Tryz.func25, Tryz.ntmps25
    go_wp2_with fail
    rw [HW1.out]
    go_wp2_with fail
    go_ret
    exact ⟨rfl, hB1⟩
   ·have HT := Lib.hid ht
    by_cases g3 : high = 0
    ·have G3 := Lib.hid g3
     have h1 : (high != 0) = false := by simp; omega
     clear g3
     have HFB : Hid (Cnd.formB 6 0 an text low high = true) := Lib.hid (Cnd.formB_E _ _ _ _ _ _ HOP.out G0.out G1.out HT.out G3.out)
     cases hl : decide (1 ≤ low ∧ low ≤ 1000000)
     ·have HL := Lib.hid hl; clear hl
      obtain rfl : q = 2 := by rw [← HQ.out]; exact Cnd.bareE_num H16.out HFB.out HTE.out (Cnd.numE_low HFL.out (by simp only [Cnd.inB, Cnd.least, Cnd.most]; exact HL.out))
      go_enter Tryz.func25, Tryz.ntmps25
      go_wp2_with fail
      rw [HW1.out]
      go_wp2_with (first | (go_at_call 31; (with_reducible refine (in_is low 1 1000000 false HL.out _).mono ?_); rintro e w2 ⟨rfl, rfl⟩))
      go_ret
      exact ⟨rfl, hB1⟩
     ·have HL := Lib.hid hl; clear hl
      obtain rfl : q = 0 := by rw [← HQ.out]; exact Cnd.bareE_num H16.out HFB.out HTE.out (Cnd.numE_ok (fun _ => (by simp only [Cnd.inB, Cnd.least, Cnd.most]; exact HL.out)) (fun h => by rw [HFH.out] at h; cases h) (fun k hk => by have := G1.out; omega) (by rintro (⟨h, _⟩ | ⟨h, _⟩); (rw [HFH.out] at h; cases h); cases h))
      go_enter Tryz.func25, Tryz.ntmps25
      go_wp2_with fail
      rw [HW1.out]
      go_wp2_with (first | (go_at_call 31; (with_reducible refine (in_is low 1 1000000 true HL.out _).mono ?_); rintro e w2 ⟨rfl, rfl⟩))
      go_ret
      exact ⟨rfl, hB1⟩
    ·have G3 := Lib.hid g3
     have h1 : (high != 0) = true := by simp; omega
     clear g3
     obtain rfl : q = 1 := by rw [← HQ.out]; exact Cnd.bareE_form H16.out (Cnd.formB_high_E _ _ _ _ _ _ HOP.out G3.out)
     go_enter Tryz.func25, Tryz.ntmps25
     go_wp2_with fail
     rw [HW1.out]
     go_wp2_with fail
     go_ret
     exact ⟨rfl, hB1⟩
  ·have G1 := Lib.hid g1
   have a1 : ((an : Int) != 0) = true := by simp; omega
   clear g1
   obtain rfl : q = 1 := by rw [← HQ.out]; exact Cnd.bareE_form H16.out (Cnd.formB_at_E _ _ _ _ _ _ HOP.out G1.out)
   go_enter Tryz.func25, Tryz.ntmps25
   go_wp2_with fail
   rw [HW1.out]
   go_wp2_with fail
   go_ret
   exact ⟨rfl, hB1⟩
 ·have G0 := Lib.hid g0
  have k1 : (0 : Int) < (kn : Int) := by omega
  clear g0
  obtain rfl : q = 1 := by rw [← HQ.out]; exact Cnd.bareE_form H16.out (Cnd.formB_kids_E _ _ _ _ _ _ HOP.out G0.out)
  go_enter Tryz.func25, Tryz.ntmps25
  go_wp2_with fail
  rw [HW1.out]
  go_wp2_with fail
  go_ret
  exact ⟨rfl, hB1⟩
theorem condBare_F (op : Int) (ka : Option Addr) (kn kc : Nat) (text : ByteArray) (low high : Int) (aa : Option Addr) (an ac : Nat) (lat lon : Nat → Int) (w : World) (hkn : kn ≤ 9223372036854775807) (han : an ≤ 9223372036854775807) (hts : text.size ≤ 9223372036854775807) (hrow : Row2 w aa an (fun i => .int .i64 (lat i)) (fun i => .int .i64 (lon i))) (q : Int) (hq : Cnd.bareE op kn text low high an lat lon = q) (hop : op = 7) : Calls Tryz.prog 25 #[.agg #[.int .i64 op, .slice ka kn kc, .string text, .int .i64 low, .int .i64 high, .slice aa an ac]] w fun e w' => e = .returned (.int .i64 q) ∧ Below w.heap.size w w' := by
 have H16 : Hid (1 ≤ op ∧ op ≤ 16) := Lib.hid (by omega)
 have HFL : Cnd.fLow op = true := by subst hop <;> rfl
 have HFH : Cnd.fHigh op = true := by subst hop <;> rfl
 have HTE : Hid (Cnd.textE op text = 0) := by subst hop <;> exact Lib.hid (by simp [Cnd.textE])
 have HFL := Lib.hid HFL; have HFH := Lib.hid HFH
 have HOP := Lib.hid hop; clear hop
 obtain ⟨W1, hW1, hP, hz1, hB1⟩ := box w #[.int .i64 op, .slice ka kn kc, .string text, .int .i64 low, .int .i64 high, .slice aa an ac] 25
 have HW1 := Lib.hid hW1
 clear hW1 hz1
 obtain ⟨q0, q1, q2, q3, q4, q5⟩ := hP.six
 obtain rfl : op = 7 := HOP.out
 have HROW := Lib.hid (hrow.keep hB1); have HQ := Lib.hid hq; clear hrow hq
 by_cases g0 : kn = 0
 ·have G0 := Lib.hid g0
  have k1 : ¬ (0 : Int) < (kn : Int) := by omega
  subst g0
  by_cases g1 : an = 0
  ·have G1 := Lib.hid g1
   have a1 : ((an : Int) != 0) = false := by simp; omega
   clear g1
   cases ht : text.toList.isEmpty
   ·have HT := Lib.hid ht
    obtain rfl : q = 1 := by rw [← HQ.out]; exact Cnd.bareE_form H16.out (Cnd.formB_text_F _ _ _ _ _ _ HOP.out HT.out)
    go_enter Tryz.func25, Tryz.ntmps25
    go_wp2_with fail
    rw [HW1.out]
    go_wp2_with fail
    go_ret
    exact ⟨rfl, hB1⟩
   ·have HT := Lib.hid ht
    have HFB : Hid (Cnd.formB 7 0 an text low high = true) := Lib.hid (Cnd.formB_F _ _ _ _ _ _ HOP.out G0.out G1.out HT.out)
    cases hl : decide (0 ≤ low ∧ low ≤ 5)
    ·have HL := Lib.hid hl; clear hl
     obtain rfl : q = 2 := by rw [← HQ.out]; exact Cnd.bareE_num H16.out HFB.out HTE.out (Cnd.numE_low HFL.out (by simp only [Cnd.inB, Cnd.least, Cnd.most]; exact HL.out))
     go_enter Tryz.func25, Tryz.ntmps25
     go_wp2_with fail
     rw [HW1.out]
     go_wp2_with (first | (go_at_call 31; (with_reducible refine (in_is low 0 5 false HL.out _).mono ?_); rintro e w2 ⟨rfl, rfl⟩))
     go_ret
     exact ⟨rfl, hB1⟩
    ·have HL := Lib.hid hl; clear hl
     cases hh : decide (0 ≤ high ∧ high ≤ 5)
     ·have HH := Lib.hid hh; clear hh
      obtain rfl : q = 2 := by rw [← HQ.out]; exact Cnd.bareE_num H16.out HFB.out HTE.out (Cnd.numE_high HFH.out (by simp only [Cnd.inB, Cnd.least, Cnd.most]; exact HH.out))
      go_enter Tryz.func25, Tryz.ntmps25
      go_wp2_with fail
      rw [HW1.out]
      go_wp2_with (first | (go_at_call 31; (with_reducible refine (in_is low 0 5 true HL.out _).mono ?_); rintro e w2 ⟨rfl, rfl⟩) | (go_at_call 31; (with_reducible refine (in_is high 0 5 false HH.out _).mono ?_); rintro e w2 ⟨rfl, rfl⟩))
      go_ret
      exact ⟨rfl, hB1⟩
     ·have HH := Lib.hid hh; clear hh
      by_cases ho : high < low
      ·have HO := Lib.hid ho
       obtain rfl : q = 5 := by rw [← HQ.out]; exact Cnd.bareE_num H16.out HFB.out HTE.out (Cnd.numE_ord (fun _ => (by simp only [Cnd.inB, Cnd.least, Cnd.most]; exact HL.out)) (fun _ => (by simp only [Cnd.inB, Cnd.least, Cnd.most]; exact HH.out)) (fun k hk => by have := G1.out; omega) (.inl ⟨HFH.out, HO.out⟩))
       go_enter Tryz.func25, Tryz.ntmps25
       go_wp2_with fail
       rw [HW1.out]
       go_wp2_with (first | (go_at_call 31; (with_reducible refine (in_is low 0 5 true HL.out _).mono ?_); rintro e w2 ⟨rfl, rfl⟩) | (go_at_call 31; (with_reducible refine (in_is high 0 5 true HH.out _).mono ?_); rintro e w2 ⟨rfl, rfl⟩))
       go_ret
       exact ⟨rfl, hB1⟩
      ·have HO := Lib.hid ho
       obtain rfl : q = 0 := by rw [← HQ.out]; exact Cnd.bareE_num H16.out HFB.out HTE.out (Cnd.numE_ok (fun _ => (by simp only [Cnd.inB, Cnd.least, Cnd.most]; exact HL.out)) (fun _ => (by simp only [Cnd.inB, Cnd.least, Cnd.most]; exact HH.out)) (fun k hk => by have := G1.out; omega) (by have hq := HO.out; rintro (⟨_, h⟩ | ⟨h, _⟩); omega; cases h))
       go_enter Tryz.func25, Tryz.ntmps25
       go_wp2_with fail
       rw [HW1.out]
       go_wp2_with (first | (go_at_call 31; (with_reducible refine (in_is low 0 5 true HL.out _).mono ?_); rintro e w2 ⟨rfl, rfl⟩) | (go_at_call 31; (with_reducible refine (in_is high 0 5 true HH.out _).mono ?_); rintro e w2 ⟨rfl, rfl⟩))
       go_ret
       exact ⟨rfl, hB1⟩
  ·have G1 := Lib.hid g1
   have a1 : ((an : Int) != 0) = true := by simp; omega
   clear g1
   obtain rfl : q = 1 := by rw [← HQ.out]; exact Cnd.bareE_form H16.out (Cnd.formB_at_F _ _ _ _ _ _ HOP.out G1.out)
   go_enter Tryz.func25, Tryz.ntmps25
   go_wp2_with fail
   rw [HW1.out]
   go_wp2_with fail
   go_ret
   exact ⟨rfl, hB1⟩
 ·have G0 := Lib.hid g0
  have k1 : (0 : Int) < (kn : Int) := by omega
  clear g0
  obtain rfl : q = 1 := by rw [← HQ.out]; exact Cnd.bareE_form H16.out (Cnd.formB_kids_F _ _ _ _ _ _ HOP.out G0.out)
  go_enter Tryz.func25, Tryz.ntmps25
  go_wp2_with fail
  rw [HW1.out]
  go_wp2_with fail
  go_ret
  exact ⟨rfl, hB1⟩
theorem condBare_G (op : Int) (ka : Option Addr) (kn kc : Nat) (text : ByteArray) (low high : Int) (aa : Option Addr) (an ac : Nat) (lat lon : Nat → Int) (w : World) (hkn : kn ≤ 9223372036854775807) (han : an ≤ 9223372036854775807) (hts : text.size ≤ 9223372036854775807) (hrow : Row2 w aa an (fun i => .int .i64 (lat i)) (fun i => .int .i64 (lon i))) (q : Int) (hq : Cnd.bareE op kn text low high an lat lon = q) (hop : op = 8) : Calls Tryz.prog 25 #[.agg #[.int .i64 op, .slice ka kn kc, .string text, .int .i64 low, .int .i64 high, .slice aa an ac]] w fun e w' => e = .returned (.int .i64 q) ∧ Below w.heap.size w w' := by
 have H16 : Hid (1 ≤ op ∧ op ≤ 16) := Lib.hid (by omega)
 have HFL : Cnd.fLow op = true := by subst hop <;> rfl
 have HFH : Cnd.fHigh op = true := by subst hop <;> rfl
 have HTE : Hid (Cnd.textE op text = 0) := by subst hop <;> exact Lib.hid (by simp [Cnd.textE])
 have HFL := Lib.hid HFL; have HFH := Lib.hid HFH
 have HOP := Lib.hid hop; clear hop
 obtain ⟨W1, hW1, hP, hz1, hB1⟩ := box w #[.int .i64 op, .slice ka kn kc, .string text, .int .i64 low, .int .i64 high, .slice aa an ac] 25
 have HW1 := Lib.hid hW1
 clear hW1 hz1
 obtain ⟨q0, q1, q2, q3, q4, q5⟩ := hP.six
 obtain rfl : op = 8 := HOP.out
 have HROW := Lib.hid (hrow.keep hB1); have HQ := Lib.hid hq; clear hrow hq
 by_cases g0 : kn = 0
 ·have G0 := Lib.hid g0
  have k1 : ¬ (0 : Int) < (kn : Int) := by omega
  subst g0
  by_cases g1 : an = 0
  ·have G1 := Lib.hid g1
   have a1 : ((an : Int) != 0) = false := by simp; omega
   clear g1
   cases ht : text.toList.isEmpty
   ·have HT := Lib.hid ht
    obtain rfl : q = 1 := by rw [← HQ.out]; exact Cnd.bareE_form H16.out (Cnd.formB_text_G _ _ _ _ _ _ HOP.out HT.out)
    go_enter Tryz.func25, Tryz.ntmps25
    go_wp2_with fail
    rw [HW1.out]
    go_wp2_with fail
    go_ret
    exact ⟨rfl, hB1⟩
   ·have HT := Lib.hid ht
    have HFB : Hid (Cnd.formB 8 0 an text low high = true) := Lib.hid (Cnd.formB_G _ _ _ _ _ _ HOP.out G0.out G1.out HT.out)
    cases hl : Ev.mom low
    ·have HL := Lib.hid hl; clear hl
     obtain rfl : q = 2 := by rw [← HQ.out]; exact Cnd.bareE_num H16.out HFB.out HTE.out (Cnd.numE_low HFL.out (by have h := HL.out; simp only [Cnd.inB, Cnd.least, Cnd.most]; first | exact decide_eq_true ((Ev.mom_iff _).1 h) | (apply decide_eq_false; have h2 := (Ev.mom_no _).1 h; omega)))
     go_enter Tryz.func25, Tryz.ntmps25
     go_wp2_with fail
     rw [HW1.out]
     go_wp2_with (first | (go_at_call 71; (with_reducible refine (moment_is low false HL.out _).mono ?_); rintro e w2 ⟨rfl, rfl⟩))
     go_ret
     exact ⟨rfl, hB1⟩
    ·have HL := Lib.hid hl; clear hl
     cases hh : Ev.mom high
     ·have HH := Lib.hid hh; clear hh
      obtain rfl : q = 2 := by rw [← HQ.out]; exact Cnd.bareE_num H16.out HFB.out HTE.out (Cnd.numE_high HFH.out (by have h := HH.out; simp only [Cnd.inB, Cnd.least, Cnd.most]; first | exact decide_eq_true ((Ev.mom_iff _).1 h) | (apply decide_eq_false; have h2 := (Ev.mom_no _).1 h; omega)))
      go_enter Tryz.func25, Tryz.ntmps25
      go_wp2_with fail
      rw [HW1.out]
      go_wp2_with (first | (go_at_call 71; (with_reducible refine (moment_is low true HL.out _).mono ?_); rintro e w2 ⟨rfl, rfl⟩) | (go_at_call 71; (with_reducible refine (moment_is high false HH.out _).mono ?_); rintro e w2 ⟨rfl, rfl⟩))
      go_ret
      exact ⟨rfl, hB1⟩
     ·have HH := Lib.hid hh; clear hh
      by_cases ho : high < low
      ·have HO := Lib.hid ho
       obtain rfl : q = 5 := by rw [← HQ.out]; exact Cnd.bareE_num H16.out HFB.out HTE.out (Cnd.numE_ord (fun _ => (by have h := HL.out; simp only [Cnd.inB, Cnd.least, Cnd.most]; first | exact decide_eq_true ((Ev.mom_iff _).1 h) | (apply decide_eq_false; have h2 := (Ev.mom_no _).1 h; omega))) (fun _ => (by have h := HH.out; simp only [Cnd.inB, Cnd.least, Cnd.most]; first | exact decide_eq_true ((Ev.mom_iff _).1 h) | (apply decide_eq_false; have h2 := (Ev.mom_no _).1 h; omega))) (fun k hk => by have := G1.out; omega) (.inl ⟨HFH.out, HO.out⟩))
       go_enter Tryz.func25, Tryz.ntmps25
       go_wp2_with fail
       rw [HW1.out]
       go_wp2_with (first | (go_at_call 71; (with_reducible refine (moment_is low true HL.out _).mono ?_); rintro e w2 ⟨rfl, rfl⟩) | (go_at_call 71; (with_reducible refine (moment_is high true HH.out _).mono ?_); rintro e w2 ⟨rfl, rfl⟩))
       go_ret
       exact ⟨rfl, hB1⟩
      ·have HO := Lib.hid ho
       obtain rfl : q = 0 := by rw [← HQ.out]; exact Cnd.bareE_num H16.out HFB.out HTE.out (Cnd.numE_ok (fun _ => (by have h := HL.out; simp only [Cnd.inB, Cnd.least, Cnd.most]; first | exact decide_eq_true ((Ev.mom_iff _).1 h) | (apply decide_eq_false; have h2 := (Ev.mom_no _).1 h; omega))) (fun _ => (by have h := HH.out; simp only [Cnd.inB, Cnd.least, Cnd.most]; first | exact decide_eq_true ((Ev.mom_iff _).1 h) | (apply decide_eq_false; have h2 := (Ev.mom_no _).1 h; omega))) (fun k hk => by have := G1.out; omega) (by have hq := HO.out; rintro (⟨_, h⟩ | ⟨h, _⟩); omega; cases h))
       go_enter Tryz.func25, Tryz.ntmps25
       go_wp2_with fail
       rw [HW1.out]
       go_wp2_with (first | (go_at_call 71; (with_reducible refine (moment_is low true HL.out _).mono ?_); rintro e w2 ⟨rfl, rfl⟩) | (go_at_call 71; (with_reducible refine (moment_is high true HH.out _).mono ?_); rintro e w2 ⟨rfl, rfl⟩))
       go_ret
       exact ⟨rfl, hB1⟩
  ·have G1 := Lib.hid g1
   have a1 : ((an : Int) != 0) = true := by simp; omega
   clear g1
   obtain rfl : q = 1 := by rw [← HQ.out]; exact Cnd.bareE_form H16.out (Cnd.formB_at_G _ _ _ _ _ _ HOP.out G1.out)
   go_enter Tryz.func25, Tryz.ntmps25
   go_wp2_with fail
   rw [HW1.out]
   go_wp2_with fail
   go_ret
   exact ⟨rfl, hB1⟩
 ·have G0 := Lib.hid g0
  have k1 : (0 : Int) < (kn : Int) := by omega
  clear g0
  obtain rfl : q = 1 := by rw [← HQ.out]; exact Cnd.bareE_form H16.out (Cnd.formB_kids_G _ _ _ _ _ _ HOP.out G0.out)
  go_enter Tryz.func25, Tryz.ntmps25
  go_wp2_with fail
  rw [HW1.out]
  go_wp2_with fail
  go_ret
  exact ⟨rfl, hB1⟩
theorem condBare_H (op : Int) (ka : Option Addr) (kn kc : Nat) (text : ByteArray) (low high : Int) (aa : Option Addr) (an ac : Nat) (lat lon : Nat → Int) (w : World) (hkn : kn ≤ 9223372036854775807) (han : an ≤ 9223372036854775807) (hts : text.size ≤ 9223372036854775807) (hrow : Row2 w aa an (fun i => .int .i64 (lat i)) (fun i => .int .i64 (lon i))) (q : Int) (hq : Cnd.bareE op kn text low high an lat lon = q) (hop : op = 9 ∨ op = 10 ∨ op = 11 ∨ op = 12 ∨ op = 13 ∨ op = 16) : Calls Tryz.prog 25 #[.agg #[.int .i64 op, .slice ka kn kc, .string text, .int .i64 low, .int .i64 high, .slice aa an ac]] w fun e w' => e = .returned (.int .i64 q) ∧ Below w.heap.size w w' := by
 have H16 : Hid (1 ≤ op ∧ op ≤ 16) := Lib.hid (by omega)
 have HFL : Cnd.fLow op = false := by rcases hop with rfl | rfl | rfl | rfl | rfl | rfl <;> rfl
 have HFH : Cnd.fHigh op = false := by rcases hop with rfl | rfl | rfl | rfl | rfl | rfl <;> rfl
 have HTE : Hid (Cnd.textE op text = 0) := by rcases hop with rfl | rfl | rfl | rfl | rfl | rfl <;> exact Lib.hid (by simp [Cnd.textE])
 have HFL := Lib.hid HFL; have HFH := Lib.hid HFH
 have op3 : (op == 3) = false := by rcases hop with rfl | rfl | rfl | rfl | rfl | rfl <;> rfl
 have op14 : (op == 14) = false := by rcases hop with rfl | rfl | rfl | rfl | rfl | rfl <;> rfl
 have op15 : (op == 15) = false := by rcases hop with rfl | rfl | rfl | rfl | rfl | rfl <;> rfl
 have op4 : (op == 4) = false := by rcases hop with rfl | rfl | rfl | rfl | rfl | rfl <;> rfl
 have op5 : (op == 5) = false := by rcases hop with rfl | rfl | rfl | rfl | rfl | rfl <;> rfl
 have op6 : (op == 6) = false := by rcases hop with rfl | rfl | rfl | rfl | rfl | rfl <;> rfl
 have op7 : (op == 7) = false := by rcases hop with rfl | rfl | rfl | rfl | rfl | rfl <;> rfl
 have op8 : (op == 8) = false := by rcases hop with rfl | rfl | rfl | rfl | rfl | rfl <;> rfl
 have opg : (4 : Int) ≤ op := by omega
 have opl : ¬ op < 1 := by omega
 have opm : ¬ (16 : Int) < op := by omega
 have HOP := Lib.hid hop; clear hop
 obtain ⟨W1, hW1, hP, hz1, hB1⟩ := box w #[.int .i64 op, .slice ka kn kc, .string text, .int .i64 low, .int .i64 high, .slice aa an ac] 25
 have HW1 := Lib.hid hW1
 clear hW1 hz1
 obtain ⟨q0, q1, q2, q3, q4, q5⟩ := hP.six
 have HROW := Lib.hid (hrow.keep hB1); have HQ := Lib.hid hq; clear hrow hq
 by_cases g0 : kn = 0
 ·have G0 := Lib.hid g0
  have k1 : ¬ (0 : Int) < (kn : Int) := by omega
  subst g0
  by_cases g1 : an = 0
  ·have G1 := Lib.hid g1
   have a1 : ((an : Int) != 0) = false := by simp; omega
   clear g1
   cases ht : text.toList.isEmpty
   ·have HT := Lib.hid ht
    obtain rfl : q = 1 := by rw [← HQ.out]; exact Cnd.bareE_form H16.out (Cnd.formB_text_H _ _ _ _ _ _ HOP.out HT.out)
    go_enter Tryz.func25, Tryz.ntmps25
    go_wp2_with fail
    rw [HW1.out]
    go_wp2_with fail
    go_ret
    exact ⟨rfl, hB1⟩
   ·have HT := Lib.hid ht
    by_cases g3 : low = 0
    ·have G3 := Lib.hid g3
     have l1 : (low != 0) = false := by simp; omega
     clear g3
     by_cases g4 : high = 0
     ·have G4 := Lib.hid g4
      have h1 : (high != 0) = false := by simp; omega
      clear g4
      have HFB : Hid (Cnd.formB op 0 an text low high = true) := Lib.hid (Cnd.formB_H _ _ _ _ _ _ HOP.out G0.out G1.out HT.out G3.out G4.out)
      obtain rfl : q = 0 := by rw [← HQ.out]; exact Cnd.bareE_num H16.out HFB.out HTE.out (Cnd.numE_ok (fun h => by rw [HFL.out] at h; cases h) (fun h => by rw [HFH.out] at h; cases h) (fun k hk => by have := G1.out; omega) (by rintro (⟨h, _⟩ | ⟨h, _⟩); (rw [HFH.out] at h; cases h); (have h2 := op15; rw [h] at h2; cases h2)))
      go_enter Tryz.func25, Tryz.ntmps25
      go_wp2_with fail
      rw [HW1.out]
      go_wp2_with fail
      go_ret
      exact ⟨rfl, hB1⟩
     ·have G4 := Lib.hid g4
      have h1 : (high != 0) = true := by simp; omega
      clear g4
      obtain rfl : q = 1 := by rw [← HQ.out]; exact Cnd.bareE_form H16.out (Cnd.formB_high_H _ _ _ _ _ _ HOP.out G4.out)
      go_enter Tryz.func25, Tryz.ntmps25
      go_wp2_with fail
      rw [HW1.out]
      go_wp2_with fail
      go_ret
      exact ⟨rfl, hB1⟩
    ·have G3 := Lib.hid g3
     have l1 : (low != 0) = true := by simp; omega
     clear g3
     obtain rfl : q = 1 := by rw [← HQ.out]; exact Cnd.bareE_form H16.out (Cnd.formB_low_H _ _ _ _ _ _ HOP.out G3.out)
     go_enter Tryz.func25, Tryz.ntmps25
     go_wp2_with fail
     rw [HW1.out]
     go_wp2_with fail
     go_ret
     exact ⟨rfl, hB1⟩
  ·have G1 := Lib.hid g1
   have a1 : ((an : Int) != 0) = true := by simp; omega
   clear g1
   obtain rfl : q = 1 := by rw [← HQ.out]; exact Cnd.bareE_form H16.out (Cnd.formB_at_H _ _ _ _ _ _ HOP.out G1.out)
   go_enter Tryz.func25, Tryz.ntmps25
   go_wp2_with fail
   rw [HW1.out]
   go_wp2_with fail
   go_ret
   exact ⟨rfl, hB1⟩
 ·have G0 := Lib.hid g0
  have k1 : (0 : Int) < (kn : Int) := by omega
  clear g0
  obtain rfl : q = 1 := by rw [← HQ.out]; exact Cnd.bareE_form H16.out (Cnd.formB_kids_H _ _ _ _ _ _ HOP.out G0.out)
  go_enter Tryz.func25, Tryz.ntmps25
  go_wp2_with fail
  rw [HW1.out]
  go_wp2_with fail
  go_ret
  exact ⟨rfl, hB1⟩
theorem condBare_I (op : Int) (ka : Option Addr) (kn kc : Nat) (text : ByteArray) (low high : Int) (aa : Option Addr) (an ac : Nat) (lat lon : Nat → Int) (w : World) (hkn : kn ≤ 9223372036854775807) (han : an ≤ 9223372036854775807) (hts : text.size ≤ 9223372036854775807) (hrow : Row2 w aa an (fun i => .int .i64 (lat i)) (fun i => .int .i64 (lon i))) (q : Int) (hq : Cnd.bareE op kn text low high an lat lon = q) (hop : op = 14) : Calls Tryz.prog 25 #[.agg #[.int .i64 op, .slice ka kn kc, .string text, .int .i64 low, .int .i64 high, .slice aa an ac]] w fun e w' => e = .returned (.int .i64 q) ∧ Below w.heap.size w w' := by
 have H16 : Hid (1 ≤ op ∧ op ≤ 16) := Lib.hid (by omega)
 have HFL : Cnd.fLow op = true := by subst hop <;> rfl
 have HFH : Cnd.fHigh op = false := by subst hop <;> rfl
 have HTE : Hid (Cnd.textE op text = 0) := by subst hop <;> exact Lib.hid (by simp [Cnd.textE])
 have HFL := Lib.hid HFL; have HFH := Lib.hid HFH
 have HOP := Lib.hid hop; clear hop
 obtain ⟨W1, hW1, hP, hz1, hB1⟩ := box w #[.int .i64 op, .slice ka kn kc, .string text, .int .i64 low, .int .i64 high, .slice aa an ac] 25
 have HW1 := Lib.hid hW1
 clear hW1 hz1
 obtain ⟨q0, q1, q2, q3, q4, q5⟩ := hP.six
 obtain rfl : op = 14 := HOP.out
 have HROW := Lib.hid (hrow.keep hB1); have HQ := Lib.hid hq; clear hrow hq
 by_cases g0 : kn = 0
 ·have G0 := Lib.hid g0
  have k1 : ¬ (0 : Int) < (kn : Int) := by omega
  subst g0
  by_cases g1 : an = 1
  ·have G1 := Lib.hid g1
   have a1 : ((an : Int) != 1) = false := by simp; omega
   clear g1
   cases ht : text.toList.isEmpty
   ·have HT := Lib.hid ht
    obtain rfl : q = 1 := by rw [← HQ.out]; exact Cnd.bareE_form H16.out (Cnd.formB_text_I _ _ _ _ _ _ HOP.out HT.out)
    go_enter Tryz.func25, Tryz.ntmps25
    go_wp2_with fail
    rw [HW1.out]
    go_wp2_with fail
    go_ret
    exact ⟨rfl, hB1⟩
   ·have HT := Lib.hid ht
    by_cases g3 : high = 0
    ·have G3 := Lib.hid g3
     have h1 : (high != 0) = false := by simp; omega
     clear g3
     have HFB : Hid (Cnd.formB 14 0 an text low high = true) := Lib.hid (Cnd.formB_I _ _ _ _ _ _ HOP.out G0.out G1.out HT.out G3.out)
     cases hl : decide (0 ≤ low ∧ low ≤ 20100000)
     ·have HL := Lib.hid hl; clear hl
      obtain rfl : q = 2 := by rw [← HQ.out]; exact Cnd.bareE_num H16.out HFB.out HTE.out (Cnd.numE_low HFL.out (by simp only [Cnd.inB, Cnd.least, Cnd.most]; exact HL.out))
      go_enter Tryz.func25, Tryz.ntmps25
      go_wp2_with fail
      rw [HW1.out]
      go_wp2_with (first | (go_at_call 31; (with_reducible refine (in_is low 0 20100000 false HL.out _).mono ?_); rintro e w2 ⟨rfl, rfl⟩))
      go_ret
      exact ⟨rfl, hB1⟩
     ·have HL := Lib.hid hl; clear hl
      obtain ⟨b1, off, rfl, hb1, hcell⟩ := HROW.out (by have := G1.out; omega)
      obtain ⟨c0, c1⟩ := hcell 0 (by have := G1.out; omega)
      rw [Nat.zero_mul, Nat.add_zero] at c0 c1
      clear hcell
      have hn0 : (0 : Int) < (an : Int) := by have := G1.out; omega
      cases hpl : Fd.placeB (lat 0) (lon 0)
      ·have HPL := Lib.hid hpl; clear hpl
       obtain rfl : q = 2 := by rw [← HQ.out]; exact Cnd.bareE_num H16.out HFB.out HTE.out (Cnd.numE_place 0 (by have := G1.out; omega) HPL.out)
       go_enter Tryz.func25, Tryz.ntmps25
       go_wp2_with fail
       rw [HW1.out]
       go_wp2_with (first | (go_at_call 31; (with_reducible refine (in_is low 0 20100000 true HL.out _).mono ?_); rintro e w2 ⟨rfl, rfl⟩) | (go_at_call 72; refine (placed_is (lat 0) (lon 0) _ false HPL.out).mono ?_; rintro e w5 ⟨rfl, hB5⟩; obtain ⟨t0, t1, t2, t3, t4, t5⟩ := (hP.keep hB5).six))
       go_ret
       exact ⟨rfl, below_up hB1 hB5⟩
      ·have HPL := Lib.hid hpl; clear hpl
       obtain rfl : q = 0 := by rw [← HQ.out]; exact Cnd.bareE_num H16.out HFB.out HTE.out (Cnd.numE_ok (fun _ => (by simp only [Cnd.inB, Cnd.least, Cnd.most]; exact HL.out)) (fun h => by rw [HFH.out] at h; cases h) (fun k hk => by have h1 := G1.out; have e : k = 0 := (by omega); subst e; exact HPL.out) (by rintro (⟨h, _⟩ | ⟨h, _⟩); (rw [HFH.out] at h; cases h); cases h))
       go_enter Tryz.func25, Tryz.ntmps25
       go_wp2_with fail
       rw [HW1.out]
       go_wp2_with (first | (go_at_call 31; (with_reducible refine (in_is low 0 20100000 true HL.out _).mono ?_); rintro e w2 ⟨rfl, rfl⟩) | (go_at_call 72; refine (placed_is (lat 0) (lon 0) _ true HPL.out).mono ?_; rintro e w5 ⟨rfl, hB5⟩; obtain ⟨t0, t1, t2, t3, t4, t5⟩ := (hP.keep hB5).six))
       go_ret
       exact ⟨rfl, below_up hB1 hB5⟩
    ·have G3 := Lib.hid g3
     have h1 : (high != 0) = true := by simp; omega
     clear g3
     obtain rfl : q = 1 := by rw [← HQ.out]; exact Cnd.bareE_form H16.out (Cnd.formB_high_I _ _ _ _ _ _ HOP.out G3.out)
     go_enter Tryz.func25, Tryz.ntmps25
     go_wp2_with fail
     rw [HW1.out]
     go_wp2_with fail
     go_ret
     exact ⟨rfl, hB1⟩
  ·have G1 := Lib.hid g1
   have a1 : ((an : Int) != 1) = true := by simp; omega
   clear g1
   obtain rfl : q = 1 := by rw [← HQ.out]; exact Cnd.bareE_form H16.out (Cnd.formB_at_I _ _ _ _ _ _ HOP.out G1.out)
   go_enter Tryz.func25, Tryz.ntmps25
   go_wp2_with fail
   rw [HW1.out]
   go_wp2_with fail
   go_ret
   exact ⟨rfl, hB1⟩
 ·have G0 := Lib.hid g0
  have k1 : (0 : Int) < (kn : Int) := by omega
  clear g0
  obtain rfl : q = 1 := by rw [← HQ.out]; exact Cnd.bareE_form H16.out (Cnd.formB_kids_I _ _ _ _ _ _ HOP.out G0.out)
  go_enter Tryz.func25, Tryz.ntmps25
  go_wp2_with fail
  rw [HW1.out]
  go_wp2_with fail
  go_ret
  exact ⟨rfl, hB1⟩
theorem condBare_J (op : Int) (ka : Option Addr) (kn kc : Nat) (text : ByteArray) (low high : Int) (aa : Option Addr) (an ac : Nat) (lat lon : Nat → Int) (w : World) (hkn : kn ≤ 9223372036854775807) (han : an ≤ 9223372036854775807) (hts : text.size ≤ 9223372036854775807) (hrow : Row2 w aa an (fun i => .int .i64 (lat i)) (fun i => .int .i64 (lon i))) (q : Int) (hq : Cnd.bareE op kn text low high an lat lon = q) (hop : op = 15) : Calls Tryz.prog 25 #[.agg #[.int .i64 op, .slice ka kn kc, .string text, .int .i64 low, .int .i64 high, .slice aa an ac]] w fun e w' => e = .returned (.int .i64 q) ∧ Below w.heap.size w w' := by
 have H16 : Hid (1 ≤ op ∧ op ≤ 16) := Lib.hid (by omega)
 have HFL : Cnd.fLow op = false := by subst hop <;> rfl
 have HFH : Cnd.fHigh op = false := by subst hop <;> rfl
 have HTE : Hid (Cnd.textE op text = 0) := by subst hop <;> exact Lib.hid (by simp [Cnd.textE])
 have HFL := Lib.hid HFL; have HFH := Lib.hid HFH
 have HOP := Lib.hid hop; clear hop
 obtain ⟨W1, hW1, hP, hz1, hB1⟩ := box w #[.int .i64 op, .slice ka kn kc, .string text, .int .i64 low, .int .i64 high, .slice aa an ac] 25
 have HW1 := Lib.hid hW1
 clear hW1 hz1
 obtain ⟨q0, q1, q2, q3, q4, q5⟩ := hP.six
 obtain rfl : op = 15 := HOP.out
 have HROW := Lib.hid (hrow.keep hB1); have HQ := Lib.hid hq; clear hrow hq
 by_cases g0 : kn = 0
 ·have G0 := Lib.hid g0
  have k1 : ¬ (0 : Int) < (kn : Int) := by omega
  subst g0
  by_cases g1 : an = 2
  ·have G1 := Lib.hid g1
   have a1 : ((an : Int) != 2) = false := by simp; omega
   clear g1
   cases ht : text.toList.isEmpty
   ·have HT := Lib.hid ht
    obtain rfl : q = 1 := by rw [← HQ.out]; exact Cnd.bareE_form H16.out (Cnd.formB_text_J _ _ _ _ _ _ HOP.out HT.out)
    go_enter Tryz.func25, Tryz.ntmps25
    go_wp2_with fail
    rw [HW1.out]
    go_wp2_with fail
    go_ret
    exact ⟨rfl, hB1⟩
   ·have HT := Lib.hid ht
    by_cases g3 : low = 0
    ·have G3 := Lib.hid g3
     have l1 : (low != 0) = false := by simp; omega
     clear g3
     by_cases g4 : high = 0
     ·have G4 := Lib.hid g4
      have h1 : (high != 0) = false := by simp; omega
      clear g4
      have HFB : Hid (Cnd.formB 15 0 an text low high = true) := Lib.hid (Cnd.formB_J _ _ _ _ _ _ HOP.out G0.out G1.out HT.out G3.out G4.out)
      obtain ⟨b1, off, rfl, hb1, hcell⟩ := HROW.out (by have := G1.out; omega)
      have HC := Lib.hid hcell
      obtain ⟨c0, c1⟩ := hcell 0 (by have := G1.out; omega)
      obtain ⟨d0, d1⟩ := hcell 1 (by have := G1.out; omega)
      rw [Nat.zero_mul, Nat.add_zero] at c0 c1
      rw [Nat.one_mul] at d0 d1
      clear hcell
      have e0 := c0
      have e1 := c1
      rw [← HW1.out] at e0 e1
      have hn0 : (0 : Int) < (an : Int) := by have := G1.out; omega
      have hn1 : (1 : Int) < (an : Int) := by have := G1.out; omega
      cases hp0 : Fd.placeB (lat 0) (lon 0)
      ·have HP0 := Lib.hid hp0; clear hp0
       obtain rfl : q = 2 := by rw [← HQ.out]; exact Cnd.bareE_num H16.out HFB.out HTE.out (Cnd.numE_place 0 (by have := G1.out; omega) HP0.out)
       go_enter Tryz.func25, Tryz.ntmps25
       go_wp2_with fail
       rw [HW1.out]
       go_wp2_with (first | (go_at_call 72; (with_reducible refine (placed_is (lat 0) (lon 0) _ false HP0.out).mono ?_); rintro e w5 ⟨rfl, hB5⟩; clear c0 c1 d0 d1 q0 q1 q2 q3 q4 q5; have hK := HROW.out.keep hB5; obtain ⟨b2, off2, e2, -, hcell⟩ := hK (by have := G1.out; omega); cases e2; obtain ⟨c0, c1⟩ := hcell 0 (by have := G1.out; omega); obtain ⟨d0, d1⟩ := hcell 1 (by have := G1.out; omega); rw [Nat.zero_mul, Nat.add_zero] at c0 c1; rw [Nat.one_mul] at d0 d1; clear hcell; obtain ⟨t0, t1, t2, t3, t4, t5⟩ := (hP.keep hB5).six))
       go_ret
       exact ⟨rfl, below_up hB1 hB5⟩
      ·have HP0 := Lib.hid hp0; clear hp0
       cases hp1 : Fd.placeB (lat 1) (lon 1)
       ·have HP1 := Lib.hid hp1; clear hp1
        obtain rfl : q = 2 := by rw [← HQ.out]; exact Cnd.bareE_num H16.out HFB.out HTE.out (Cnd.numE_place 1 (by have := G1.out; omega) HP1.out)
        go_enter Tryz.func25, Tryz.ntmps25
        go_wp2_with fail
        rw [HW1.out]
        go_wp2_with (first | (go_at_call 72; (with_reducible refine (placed_is (lat 0) (lon 0) _ true HP0.out).mono ?_); rintro e w5 ⟨rfl, hB5⟩; clear c0 c1 d0 d1 q0 q1 q2 q3 q4 q5; have hK := HROW.out.keep hB5; obtain ⟨b2, off2, e2, -, hcell⟩ := hK (by have := G1.out; omega); cases e2; obtain ⟨c0, c1⟩ := hcell 0 (by have := G1.out; omega); obtain ⟨d0, d1⟩ := hcell 1 (by have := G1.out; omega); rw [Nat.zero_mul, Nat.add_zero] at c0 c1; rw [Nat.one_mul] at d0 d1; clear hcell; obtain ⟨t0, t1, t2, t3, t4, t5⟩ := (hP.keep hB5).six) | (go_at_call 72; (with_reducible refine (placed_is (lat 1) (lon 1) _ false HP1.out).mono ?_); rintro e w6 ⟨rfl, hB6⟩; clear c0 c1 d0 d1 t0 t1 t2 t3 t4 t5; have hB56 := below_up hB5 hB6; have hK := HROW.out.keep hB56; obtain ⟨b2, off2, e2, -, hcell⟩ := hK (by have := G1.out; omega); cases e2; obtain ⟨c0, c1⟩ := hcell 0 (by have := G1.out; omega); obtain ⟨d0, d1⟩ := hcell 1 (by have := G1.out; omega); rw [Nat.zero_mul, Nat.add_zero] at c0 c1; rw [Nat.one_mul] at d0 d1; clear hcell; obtain ⟨t0, t1, t2, t3, t4, t5⟩ := (hP.keep hB56).six))
        go_ret
        exact ⟨rfl, below_up hB1 (below_up hB5 hB6)⟩
       ·have HP1 := Lib.hid hp1; clear hp1
        by_cases ho : lat 1 < lat 0
        ·have HO := Lib.hid ho
         have ho1 : decide (lat 1 < lat 0) = true := decide_eq_true ho
         obtain rfl : q = 5 := by rw [← HQ.out]; exact Cnd.bareE_num H16.out HFB.out HTE.out (Cnd.numE_ord (fun h => by rw [HFL.out] at h; cases h) (fun h => by rw [HFH.out] at h; cases h) (fun k hk => by have := G1.out; (have : k = 0 ∨ k = 1 := by omega); rcases this with rfl | rfl; exact HP0.out; exact HP1.out) (.inr ⟨rfl, HO.out⟩))
         go_enter Tryz.func25, Tryz.ntmps25
         go_wp2_with fail
         rw [HW1.out]
         go_wp2_with (first | (go_at_call 72; (with_reducible refine (placed_is (lat 0) (lon 0) _ true HP0.out).mono ?_); rintro e w5 ⟨rfl, hB5⟩; clear c0 c1 d0 d1 q0 q1 q2 q3 q4 q5; have hK := HROW.out.keep hB5; obtain ⟨b2, off2, e2, -, hcell⟩ := hK (by have := G1.out; omega); cases e2; obtain ⟨c0, c1⟩ := hcell 0 (by have := G1.out; omega); obtain ⟨d0, d1⟩ := hcell 1 (by have := G1.out; omega); rw [Nat.zero_mul, Nat.add_zero] at c0 c1; rw [Nat.one_mul] at d0 d1; clear hcell; obtain ⟨t0, t1, t2, t3, t4, t5⟩ := (hP.keep hB5).six) | (go_at_call 72; (with_reducible refine (placed_is (lat 1) (lon 1) _ true HP1.out).mono ?_); rintro e w6 ⟨rfl, hB6⟩; clear c0 c1 d0 d1 t0 t1 t2 t3 t4 t5; have hB56 := below_up hB5 hB6; have hK := HROW.out.keep hB56; obtain ⟨b2, off2, e2, -, hcell⟩ := hK (by have := G1.out; omega); cases e2; obtain ⟨c0, c1⟩ := hcell 0 (by have := G1.out; omega); obtain ⟨d0, d1⟩ := hcell 1 (by have := G1.out; omega); rw [Nat.zero_mul, Nat.add_zero] at c0 c1; rw [Nat.one_mul] at d0 d1; clear hcell; obtain ⟨t0, t1, t2, t3, t4, t5⟩ := (hP.keep hB56).six))
         go_quiet (fail)
         go_wp2_with fail
         go_ret
         exact ⟨rfl, below_drewN (below_up hB1 (below_up hB5 hB6)) _⟩
        ·have HO := Lib.hid ho
         have ho1 : decide (lat 1 < lat 0) = false := decide_eq_false ho
         have ho2 : (lat 1 < lat 0) = False := eq_false ho
         clear ho
         obtain rfl : q = 0 := by rw [← HQ.out]; exact Cnd.bareE_num H16.out HFB.out HTE.out (Cnd.numE_ok (fun h => by rw [HFL.out] at h; cases h) (fun h => by rw [HFH.out] at h; cases h) (fun k hk => by have := G1.out; (have : k = 0 ∨ k = 1 := by omega); rcases this with rfl | rfl; exact HP0.out; exact HP1.out) (by rintro (⟨h, _⟩ | ⟨_, h⟩); (rw [HFH.out] at h; cases h); (have hq := HO.out; omega)))
         go_enter Tryz.func25, Tryz.ntmps25
         go_wp2_with fail
         rw [HW1.out]
         go_wp2_with (first | (go_at_call 72; (with_reducible refine (placed_is (lat 0) (lon 0) _ true HP0.out).mono ?_); rintro e w5 ⟨rfl, hB5⟩; clear c0 c1 d0 d1 q0 q1 q2 q3 q4 q5; have hK := HROW.out.keep hB5; obtain ⟨b2, off2, e2, -, hcell⟩ := hK (by have := G1.out; omega); cases e2; obtain ⟨c0, c1⟩ := hcell 0 (by have := G1.out; omega); obtain ⟨d0, d1⟩ := hcell 1 (by have := G1.out; omega); rw [Nat.zero_mul, Nat.add_zero] at c0 c1; rw [Nat.one_mul] at d0 d1; clear hcell; obtain ⟨t0, t1, t2, t3, t4, t5⟩ := (hP.keep hB5).six) | (go_at_call 72; (with_reducible refine (placed_is (lat 1) (lon 1) _ true HP1.out).mono ?_); rintro e w6 ⟨rfl, hB6⟩; clear c0 c1 d0 d1 t0 t1 t2 t3 t4 t5; have hB56 := below_up hB5 hB6; have hK := HROW.out.keep hB56; obtain ⟨b2, off2, e2, -, hcell⟩ := hK (by have := G1.out; omega); cases e2; obtain ⟨c0, c1⟩ := hcell 0 (by have := G1.out; omega); obtain ⟨d0, d1⟩ := hcell 1 (by have := G1.out; omega); rw [Nat.zero_mul, Nat.add_zero] at c0 c1; rw [Nat.one_mul] at d0 d1; clear hcell; obtain ⟨t0, t1, t2, t3, t4, t5⟩ := (hP.keep hB56).six))
         go_quiet (fail)
         go_wp2_with fail
         go_ret
         exact ⟨rfl, below_drewN (below_up hB1 (below_up hB5 hB6)) _⟩
     ·have G4 := Lib.hid g4
      have h1 : (high != 0) = true := by simp; omega
      clear g4
      obtain rfl : q = 1 := by rw [← HQ.out]; exact Cnd.bareE_form H16.out (Cnd.formB_high_J _ _ _ _ _ _ HOP.out G4.out)
      go_enter Tryz.func25, Tryz.ntmps25
      go_wp2_with fail
      rw [HW1.out]
      go_wp2_with fail
      go_ret
      exact ⟨rfl, hB1⟩
    ·have G3 := Lib.hid g3
     have l1 : (low != 0) = true := by simp; omega
     clear g3
     obtain rfl : q = 1 := by rw [← HQ.out]; exact Cnd.bareE_form H16.out (Cnd.formB_low_J _ _ _ _ _ _ HOP.out G3.out)
     go_enter Tryz.func25, Tryz.ntmps25
     go_wp2_with fail
     rw [HW1.out]
     go_wp2_with fail
     go_ret
     exact ⟨rfl, hB1⟩
  ·have G1 := Lib.hid g1
   have a1 : ((an : Int) != 2) = true := by simp; omega
   clear g1
   obtain rfl : q = 1 := by rw [← HQ.out]; exact Cnd.bareE_form H16.out (Cnd.formB_at_J _ _ _ _ _ _ HOP.out G1.out)
   go_enter Tryz.func25, Tryz.ntmps25
   go_wp2_with fail
   rw [HW1.out]
   go_wp2_with fail
   go_ret
   exact ⟨rfl, hB1⟩
 ·have G0 := Lib.hid g0
  have k1 : (0 : Int) < (kn : Int) := by omega
  clear g0
  obtain rfl : q = 1 := by rw [← HQ.out]; exact Cnd.bareE_form H16.out (Cnd.formB_kids_J _ _ _ _ _ _ HOP.out G0.out)
  go_enter Tryz.func25, Tryz.ntmps25
  go_wp2_with fail
  rw [HW1.out]
  go_wp2_with fail
  go_ret
  exact ⟨rfl, hB1⟩
end Go.Proofs.YtimjmjmpaicdbaaGreatDoor
namespace Go.Proofs.YtimjmjmpaicdbaaGreatDoor
open Go.RowKit Go.Sort
namespace Cnd
def op : Cnd → Int | zero => 0 | mk x _ _ _ _ _ _ _ _ _ _ _ _ => x
def ka : Cnd → Option Addr | zero => none | mk _ x _ _ _ _ _ _ _ _ _ _ _ => x
def kn : Cnd → Nat | zero => 0 | mk _ _ x _ _ _ _ _ _ _ _ _ _ => x
def kc : Cnd → Nat | zero => 0 | mk _ _ _ x _ _ _ _ _ _ _ _ _ => x
def kids : Cnd → Nat → Cnd | zero => fun _ => zero | mk _ _ _ _ x _ _ _ _ _ _ _ _ => x
def text : Cnd → ByteArray | zero => ByteArray.empty | mk _ _ _ _ _ x _ _ _ _ _ _ _ => x
def low : Cnd → Int | zero => 0 | mk _ _ _ _ _ _ x _ _ _ _ _ _ => x
def high : Cnd → Int | zero => 0 | mk _ _ _ _ _ _ _ x _ _ _ _ _ => x
def aa : Cnd → Option Addr | zero => none | mk _ _ _ _ _ _ _ _ x _ _ _ _ => x
def an : Cnd → Nat | zero => 0 | mk _ _ _ _ _ _ _ _ _ x _ _ _ => x
def ac : Cnd → Nat | zero => 0 | mk _ _ _ _ _ _ _ _ _ _ x _ _ => x
def lat : Cnd → Nat → Int | zero => fun _ => 0 | mk _ _ _ _ _ _ _ _ _ _ _ x _ => x
def lon : Cnd → Nat → Int | zero => fun _ => 0 | mk _ _ _ _ _ _ _ _ _ _ _ _ x => x
theorem In.ne {w : World} {c : Cnd} (h : c.In w) : c ≠ zero := by intro e; subst e; exact h
def At (w : World) (b o : Nat) (x : Cnd) : Prop :=
 w.cell? ⟨b, o, none⟩ = some (.int .i64 x.op) ∧ w.cell? ⟨b, o + 1, none⟩ = some (.slice x.ka x.kn x.kc) ∧ w.cell? ⟨b, o + 2, none⟩ = some (.string x.text) ∧ w.cell? ⟨b, o + 3, none⟩ = some (.int .i64 x.low) ∧ w.cell? ⟨b, o + 4, none⟩ = some (.int .i64 x.high) ∧ w.cell? ⟨b, o + 5, none⟩ = some (.slice x.aa x.an x.ac)
theorem At.of {w : World} {b o : Nat} {x : Cnd} (hx : x ≠ zero) (h : ∀ j v, x.cells[j]? = some v → w.cell? ⟨b, o + j, none⟩ = some v) : At w b o x := by
 cases x with
 | zero => exact absurd rfl hx
 | mk => exact ⟨h 0 _ rfl, h 1 _ rfl, h 2 _ rfl, h 3 _ rfl, h 4 _ rfl, h 5 _ rfl⟩
theorem In.kid {w : World} {c : Cnd} (h : c.In w) (hk : 0 < c.kn) : ∃ b off, c.ka = some ⟨b, off, none⟩ ∧ b < w.heap.size ∧ ∀ i, i < c.kn → At w b (off + i * 6) (c.kids i) := by
 cases c with
 | zero => exact absurd rfl h.ne
 | mk =>
   obtain ⟨b, off, e, hl, hc⟩ := h.1 hk
   exact ⟨b, off, e, hl, fun i hi => At.of (In.ne (h.2.1 i hi)) (hc i hi)⟩
theorem In.each {w : World} {c : Cnd} (h : c.In w) (i : Nat) (hi : i < c.kn) : (c.kids i).In w := by
 cases c with
 | zero => exact absurd rfl h.ne
 | mk => exact h.2.1 i hi
theorem In.row {w : World} {c : Cnd} (h : c.In w) : Row2 w c.aa c.an (fun i => .int .i64 (c.lat i)) (fun i => .int .i64 (c.lon i)) := by
 cases c with
 | zero => exact absurd rfl h.ne
 | mk => exact h.2.2
theorem In.cells {w : World} {c : Cnd} (h : c.In w) : c.cells = [.int .i64 c.op, .slice c.ka c.kn c.kc, .string c.text, .int .i64 c.low, .int .i64 c.high, .slice c.aa c.an c.ac] := by
 cases c with
 | zero => exact absurd rfl h.ne
 | mk => rfl
theorem Fits.size {c : Cnd} (h : c.Fits) : c.kn ≤ 9223372036854775807 ∧ c.an ≤ 9223372036854775807 ∧ c.text.size ≤ 9223372036854775807 := by
 cases c with
 | zero => exact ⟨by decide, by decide, by decide⟩
 | mk => exact ⟨h.1, h.2.1, h.2.2.1⟩
theorem Fits.each {c : Cnd} (h : c.Fits) (i : Nat) (hi : i < c.kn) : (c.kids i).Fits := by
 cases c with
 | zero => exact absurd hi (Nat.not_lt_zero _)
 | mk => exact h.2.2.2 i hi
theorem ind {P : Cnd → Prop} (h0 : P zero) (h : ∀ c, c ≠ zero → (∀ i, P (c.kids i)) → P c) : ∀ c, P c := by
 intro c
 induction c with
 | zero => exact h0
 | mk op ka kn kc kids text low high aa an ac lat lon ih => exact h _ (by intro e; cases e) ih
theorem bare_eq {c : Cnd} (h : c ≠ zero) : c.bare = bareE c.op c.kn c.text c.low c.high c.an c.lat c.lon := by
 cases c with
 | zero => exact absurd rfl h
 | mk => rfl
theorem ahead_eq {c : Cnd} (h : c ≠ zero) {d : Nat} {l : List (Cnd × Nat)} (h1 : l.length ≤ 100) (h2 : d ≤ 12) : ahead c d l = aheadK (fun i => ahead (c.kids i) (d + 1)) c.kn (l ++ [(c, d)]) := by
 cases c with
 | zero => exact absurd rfl h
 | mk => exact ahead_kids h1 h2
theorem ahead_deep {c : Cnd} (h : c ≠ zero) {d : Nat} {l : List (Cnd × Nat)} (h1 : l.length ≤ 100) (h2 : 12 < d) : ahead c d l = l ++ [(c, d)] := by
 cases c with
 | zero => exact absurd rfl h
 | mk => rw [ahead, if_neg (by omega), if_pos h2]
theorem ahead_full {c : Cnd} (h : c ≠ zero) {d : Nat} {l : List (Cnd × Nat)} (h1 : 100 < l.length) : ahead c d l = l := by
 cases c with
 | zero => exact absurd rfl h
 | mk => rw [ahead, if_pos h1]
end Cnd
theorem Cnd.ops {op : Int} (h : 1 ≤ op ∧ op ≤ 16) : (op = 1 ∨ op = 2) ∨ op = 3 ∨ op = 4 ∨ op = 5 ∨ op = 6 ∨ op = 7 ∨ op = 8 ∨ (op = 9 ∨ op = 10 ∨ op = 11 ∨ op = 12 ∨ op = 13 ∨ op = 16) ∨ op = 14 ∨ op = 15 := by omega
theorem checkForm_is (op : Int) (ka : Option Addr) (kn kc : Nat) (text : ByteArray) (low high : Int) (aa : Option Addr) (an ac : Nat) (w : World) (hkn : kn ≤ 9223372036854775807) (han : an ≤ 9223372036854775807) (b : Bool) (hb : Cnd.formB op kn an text low high = b) (hop : 1 ≤ op ∧ op ≤ 16) : Calls Tryz.prog 66 #[.agg #[.int .i64 op, .slice ka kn kc, .string text, .int .i64 low, .int .i64 high, .slice aa an ac]] w fun e w' => e = .returned (.int .i64 (if b = true then 0 else 1)) ∧ Below w.heap.size w w' := by
 rcases Cnd.ops hop with h | h | h | h | h | h | h | h | h | h
 ·exact checkForm_A _ _ _ _ _ _ _ _ _ _ w hkn han b hb h
 ·exact checkForm_B _ _ _ _ _ _ _ _ _ _ w hkn han b hb h
 ·exact checkForm_C _ _ _ _ _ _ _ _ _ _ w hkn han b hb h
 ·exact checkForm_D _ _ _ _ _ _ _ _ _ _ w hkn han b hb h
 ·exact checkForm_E _ _ _ _ _ _ _ _ _ _ w hkn han b hb h
 ·exact checkForm_F _ _ _ _ _ _ _ _ _ _ w hkn han b hb h
 ·exact checkForm_G _ _ _ _ _ _ _ _ _ _ w hkn han b hb h
 ·exact checkForm_H _ _ _ _ _ _ _ _ _ _ w hkn han b hb h
 ·exact checkForm_I _ _ _ _ _ _ _ _ _ _ w hkn han b hb h
 ·exact checkForm_J _ _ _ _ _ _ _ _ _ _ w hkn han b hb h
theorem checkText_is (op : Int) (ka : Option Addr) (kn kc : Nat) (text : ByteArray) (low high : Int) (aa : Option Addr) (an ac : Nat) (w : World) (hkn : kn ≤ 9223372036854775807) (han : an ≤ 9223372036854775807) (hts : text.size ≤ 9223372036854775807) (q : Int) (hq : Cnd.textE op text = q) (hop : 1 ≤ op ∧ op ≤ 16) : Calls Tryz.prog 67 #[.agg #[.int .i64 op, .slice ka kn kc, .string text, .int .i64 low, .int .i64 high, .slice aa an ac]] w fun e w' => e = .returned (.int .i64 q) ∧ Below w.heap.size w w' := by
 rcases Cnd.ops hop with h | h | h | h | h | h | h | h | h | h
 ·exact checkText_A _ _ _ _ _ _ _ _ _ _ w hkn han hts q hq h
 ·exact checkText_B _ _ _ _ _ _ _ _ _ _ w hkn han hts q hq h
 ·exact checkText_C _ _ _ _ _ _ _ _ _ _ w hkn han hts q hq h
 ·exact checkText_D _ _ _ _ _ _ _ _ _ _ w hkn han hts q hq h
 ·exact checkText_E _ _ _ _ _ _ _ _ _ _ w hkn han hts q hq h
 ·exact checkText_F _ _ _ _ _ _ _ _ _ _ w hkn han hts q hq h
 ·exact checkText_G _ _ _ _ _ _ _ _ _ _ w hkn han hts q hq h
 ·exact checkText_H _ _ _ _ _ _ _ _ _ _ w hkn han hts q hq h
 ·exact checkText_I _ _ _ _ _ _ _ _ _ _ w hkn han hts q hq h
 ·exact checkText_J _ _ _ _ _ _ _ _ _ _ w hkn han hts q hq h
theorem checkNums_is (op : Int) (ka : Option Addr) (kn kc : Nat) (text : ByteArray) (low high : Int) (aa : Option Addr) (an ac : Nat) (lat lon : Nat → Int) (w : World) (hkn : kn ≤ 9223372036854775807) (han : an ≤ 9223372036854775807) (hts : text.size ≤ 9223372036854775807) (hrow : Row2 w aa an (fun i => .int .i64 (lat i)) (fun i => .int .i64 (lon i))) (hf : Cnd.formB op kn an text low high = true) (q : Int) (hq : Cnd.numE op low high an lat lon = q) (hop : 1 ≤ op ∧ op ≤ 16) : Calls Tryz.prog 68 #[.agg #[.int .i64 op, .slice ka kn kc, .string text, .int .i64 low, .int .i64 high, .slice aa an ac]] w fun e w' => e = .returned (.int .i64 q) ∧ Below w.heap.size w w' := by
 rcases Cnd.ops hop with h | h | h | h | h | h | h | h | h | h
 ·exact checkNums_A _ _ _ _ _ _ _ _ _ _ lat lon w hkn han hts hrow hf q hq h
 ·exact checkNums_B _ _ _ _ _ _ _ _ _ _ lat lon w hkn han hts hrow hf q hq h
 ·exact checkNums_C _ _ _ _ _ _ _ _ _ _ lat lon w hkn han hts hrow hf q hq h
 ·exact checkNums_D _ _ _ _ _ _ _ _ _ _ lat lon w hkn han hts hrow hf q hq h
 ·exact checkNums_E _ _ _ _ _ _ _ _ _ _ lat lon w hkn han hts hrow hf q hq h
 ·exact checkNums_F _ _ _ _ _ _ _ _ _ _ lat lon w hkn han hts hrow hf q hq h
 ·exact checkNums_G _ _ _ _ _ _ _ _ _ _ lat lon w hkn han hts hrow hf q hq h
 ·exact checkNums_H _ _ _ _ _ _ _ _ _ _ lat lon w hkn han hts hrow hf q hq h
 ·exact checkNums_I _ _ _ _ _ _ _ _ _ _ lat lon w hkn han hts hrow hf q hq h
 ·exact checkNums_J _ _ _ _ _ _ _ _ _ _ lat lon w hkn han hts hrow hf q hq h
theorem condBare_no (op : Int) (ka : Option Addr) (kn kc : Nat) (text : ByteArray) (low high : Int) (aa : Option Addr) (an ac : Nat) (w : World) (hop : ¬ (1 ≤ op ∧ op ≤ 16)) : Calls Tryz.prog 25 #[.agg #[.int .i64 op, .slice ka kn kc, .string text, .int .i64 low, .int .i64 high, .slice aa an ac]] w fun e w' => e = .returned (.int .i64 10) ∧ Below w.heap.size w w' := by
 obtain ⟨W1, hW1, hP, hz1, hB1⟩ := box w #[.int .i64 op, .slice ka kn kc, .string text, .int .i64 low, .int .i64 high, .slice aa an ac] 25
 have HW1 := Lib.hid hW1
 clear hW1 hz1
 obtain ⟨q0, q1, q2, q3, q4, q5⟩ := hP.six
 by_cases h : op < 1
 ·go_enter Tryz.func25, Tryz.ntmps25
  go_wp2_with fail
  rw [HW1.out]
  go_wp2_with fail
  go_ret
  exact ⟨rfl, hB1⟩
 ·have h2 : (16 : Int) < op := by omega
  clear hop
  go_enter Tryz.func25, Tryz.ntmps25
  go_wp2_with fail
  rw [HW1.out]
  go_wp2_with fail
  go_ret
  exact ⟨rfl, hB1⟩
theorem condBare_is (op : Int) (ka : Option Addr) (kn kc : Nat) (text : ByteArray) (low high : Int) (aa : Option Addr) (an ac : Nat) (lat lon : Nat → Int) (w : World) (hkn : kn ≤ 9223372036854775807) (han : an ≤ 9223372036854775807) (hts : text.size ≤ 9223372036854775807) (hrow : Row2 w aa an (fun i => .int .i64 (lat i)) (fun i => .int .i64 (lon i))) (q : Int) (hq : Cnd.bareE op kn text low high an lat lon = q) : Calls Tryz.prog 25 #[.agg #[.int .i64 op, .slice ka kn kc, .string text, .int .i64 low, .int .i64 high, .slice aa an ac]] w fun e w' => e = .returned (.int .i64 q) ∧ Below w.heap.size w w' := by
 by_cases hop : 1 ≤ op ∧ op ≤ 16
 ·rcases Cnd.ops hop with h | h | h | h | h | h | h | h | h | h
  ·exact condBare_A _ _ _ _ _ _ _ _ _ _ lat lon w hkn han hts hrow q hq h
  ·exact condBare_B _ _ _ _ _ _ _ _ _ _ lat lon w hkn han hts hrow q hq h
  ·exact condBare_C _ _ _ _ _ _ _ _ _ _ lat lon w hkn han hts hrow q hq h
  ·exact condBare_D _ _ _ _ _ _ _ _ _ _ lat lon w hkn han hts hrow q hq h
  ·exact condBare_E _ _ _ _ _ _ _ _ _ _ lat lon w hkn han hts hrow q hq h
  ·exact condBare_F _ _ _ _ _ _ _ _ _ _ lat lon w hkn han hts hrow q hq h
  ·exact condBare_G _ _ _ _ _ _ _ _ _ _ lat lon w hkn han hts hrow q hq h
  ·exact condBare_H _ _ _ _ _ _ _ _ _ _ lat lon w hkn han hts hrow q hq h
  ·exact condBare_I _ _ _ _ _ _ _ _ _ _ lat lon w hkn han hts hrow q hq h
  ·exact condBare_J _ _ _ _ _ _ _ _ _ _ lat lon w hkn han hts hrow q hq h
 ·rw [Cnd.bareE_kind hop] at hq
  subst hq
  exact condBare_no _ _ _ _ _ _ _ _ _ _ w hop
end Go.Proofs.YtimjmjmpaicdbaaGreatDoor
