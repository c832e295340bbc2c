/- checkNumbers, by classes of operations: HFG. -/
import Derived.Test.YtbbedepojogfmaaCndOp
import Derived.Test.YtbbedepojogfmaaFdStr3
import Derived.Test.YtbbedepojogfmaaFdLow
import Derived.Test.YtbbedepojogfmaaEvents0
namespace Go.Proofs.Ytbbedepojogfmaa
open Go.RowKit Go.Sort Go.Shelf
set_option linter.unusedVariables false
set_option maxRecDepth 100000 in
set_option maxHeartbeats 8000000 in
theorem checkNums_H (op : Int) (ka : Option Addr) (kn kc : Nat) (text : ByteArray) (low high : Int) (aa : Option Addr) (an ac : Nat) (lat lon : Nat → Int) (w : World) (hkn : kn ≤ 9223372036854775807) (han : an ≤ 9223372036854775807) (hts : text.size ≤ 9223372036854775807) (hrow : Row2 w aa an (fun i => .int .i64 (lat i)) (fun i => .int .i64 (lon i))) (hf : Cnd.formB op kn an text low high = true) (q : Int) (hq : Cnd.numE op low high an lat lon = q) (hop : op = 9 ∨ op = 10 ∨ op = 11 ∨ op = 12 ∨ op = 13 ∨ op = 16) : Calls Try.prog 149 #[.agg #[.int .i64 op, .slice ka kn kc, .string text, .int .i64 low, .int .i64 high, .slice aa an ac]] w fun e w' => e = .returned (.int .i64 q) ∧ Below w.heap.size w w' := by
  have HFM := Lib.hid (Cnd.formC_H op hop)
  have hat : Cnd.fAt op = 0 := by rcases hop with rfl | rfl | rfl | rfl | rfl | rfl <;> rfl
  have HAN : Hid (an = 0) := Lib.hid (by have := Cnd.formB_an hf; rw [hat] at this; omega)
  clear hat
  have HFL : Cnd.fLow op = false := by rcases hop with rfl | rfl | rfl | rfl | rfl | rfl <;> rfl
  have HFH : Cnd.fHigh op = false := by rcases hop with rfl | rfl | rfl | rfl | rfl | rfl <;> rfl
  have HFL := Lib.hid HFL; have HFH := Lib.hid HFH; clear hf
  have op3 : (op == 3) = false := by rcases hop with rfl | rfl | rfl | rfl | rfl | rfl <;> rfl
  have op14 : (op == 14) = false := by rcases hop with rfl | rfl | rfl | rfl | rfl | rfl <;> rfl
  have op15 : (op == 15) = false := by rcases hop with rfl | rfl | rfl | rfl | rfl | rfl <;> rfl
  have op4 : (op == 4) = false := by rcases hop with rfl | rfl | rfl | rfl | rfl | rfl <;> rfl
  have op5 : (op == 5) = false := by rcases hop with rfl | rfl | rfl | rfl | rfl | rfl <;> rfl
  have op6 : (op == 6) = false := by rcases hop with rfl | rfl | rfl | rfl | rfl | rfl <;> rfl
  have op7 : (op == 7) = false := by rcases hop with rfl | rfl | rfl | rfl | rfl | rfl <;> rfl
  have op8 : (op == 8) = false := by rcases hop with rfl | rfl | rfl | rfl | rfl | rfl <;> rfl
  have opg : (4 : Int) ≤ op := by omega
  have opl : ¬ op < 1 := by omega
  have opm : ¬ (16 : Int) < op := by omega
  have HOP := Lib.hid hop; clear hop
  -- a condition's box: W1, its 6 cells
  obtain ⟨W1, hW1, hP, hz1, hB1⟩ := box w #[.int .i64 op, .slice ka kn kc, .string text, .int .i64 low, .int .i64 high, .slice aa an ac] 103
  have HW1 := Lib.hid hW1
  clear hW1 hz1
  obtain ⟨q0, q1, q2, q3, q4, q5⟩ := hP.six
  have HROW := Lib.hid (hrow.keep hB1); have HQ := Lib.hid hq; clear hrow hq
  go_enter Try.func149, Try.ntmps149
  go_wp2_with fail
  rw [HW1.out]
  go_wp2_with (first | (go_at_call 152; refine (HFM.out _).mono ?_; rintro e w3 ⟨rfl, hB3⟩; have hlt3 := (hP.keep hB3).lt; have hP4 := (hP.keep hB3).alloc (.cells #[.bool false, .bool false, .bool false, .int .i64 0] 180); have hF4 := Blk.new w3 #[.bool false, .bool false, .bool false, .int .i64 0] 180; have hB4 := below_allocs (below_up hB1 hB3) (.cells #[.bool false, .bool false, .bool false, .int .i64 0] 180); have hB4' := below_allocs hB3 (.cells #[.bool false, .bool false, .bool false, .int .i64 0] 180); obtain ⟨t0, t1, t2, t3, t4, t5⟩ := hP4.six))
  clear t0 t1 t2 t3 t4 t5
  go_loopg [45] an (fun gk i wr => ∃ j : Nat, j ≤ an ∧ gk = an - j ∧ i = .int .i64 j ∧ (∀ k, k < j → Fd.placeB (lat k) (lon k) = true) ∧ Below (w3.alloc (.cells #[.bool false, .bool false, .bool false, .int .i64 0] 180)).heap.size (w3.alloc (.cells #[.bool false, .bool false, .bool false, .int .i64 0] 180)) wr)
  case atStart => exact ⟨0, by omega, rfl, rfl, fun k hk => by omega, Below.refl _ _⟩
  case round =>
    obtain ⟨j, hj, rfl, rfl, hall, hB⟩ := hrel
    have HALL := Lib.hid hall; clear hall
    obtain ⟨t0, t1, t2, t3, t4, t5⟩ := (hP4.keep hB).six
    obtain ⟨f0, f1, f2, f3⟩ := (hF4.keep hB).four
    have hBw := below_up hB4 hB
    have hBx := below_up hB4' hB
    by_cases hlt : j < an
    · obtain ⟨b1, off, rfl, hb1, hcell⟩ := HROW.out.keep hBx (by omega)
      obtain ⟨c0, c1⟩ := hcell j hlt
      clear hcell
      have HPB := Lib.hid (fun W => checkPlace_is (lat j) (lon j) W (Fd.placeB (lat j) (lon j)) rfl)
      have hBa := below_allocs hB (.cells #[.int .i64 (lat j), .int .i64 (lon j)] 96)
      cases hpl : Fd.placeB (lat j) (lon j)
      · obtain rfl : q = 2 := by rw [← HQ.out]; exact Cnd.numE_place j hlt hpl
        rw [hpl, if_neg (by simp)] at HPB
        have HPLC := Lib.hid hpl; clear hpl
        go_wp2_with (go_at_call 62; refine (HPB.out _).mono ?_; rintro e w5 ⟨rfl, hB5⟩)
        go_ret
        exact ⟨rfl, below_up hB4 (below_up hBa hB5)⟩
      · rw [hpl, if_pos rfl] at HPB
        have HPLC := Lib.hid hpl; clear hpl
        go_wp2_with (go_at_call 62; refine (HPB.out _).mono ?_; rintro e w5 ⟨rfl, hB5⟩)
        go_roundg (an - (j + 1))
        case rel => exact ⟨j + 1, by omega, rfl, by go_num, Fd.places_next HALL.out HPLC.out, below_up hBa hB5⟩
        case measure => omega
    · obtain rfl : j = an := by omega
      go_wp2_with fail
      go_quiet (fail)
      go_wp2_with fail
      go_ret
      exact ⟨ret_int (by rw [← HQ.out]; exact (Cnd.numE_ok (fun h => by rw [HFL.out] at h; cases h) (fun h => by rw [HFH.out] at h; cases h) HALL.out (by rintro (⟨h, _⟩ | ⟨h, _⟩); (rw [HFH.out] at h; cases h); (have h2 := op15; rw [h] at h2; cases h2))).symm), below_drewN hBw _⟩
set_option maxRecDepth 100000 in
set_option maxHeartbeats 8000000 in
theorem checkNums_F (op : Int) (ka : Option Addr) (kn kc : Nat) (text : ByteArray) (low high : Int) (aa : Option Addr) (an ac : Nat) (lat lon : Nat → Int) (w : World) (hkn : kn ≤ 9223372036854775807) (han : an ≤ 9223372036854775807) (hts : text.size ≤ 9223372036854775807) (hrow : Row2 w aa an (fun i => .int .i64 (lat i)) (fun i => .int .i64 (lon i))) (hf : Cnd.formB op kn an text low high = true) (q : Int) (hq : Cnd.numE op low high an lat lon = q) (hop : op = 7) : Calls Try.prog 149 #[.agg #[.int .i64 op, .slice ka kn kc, .string text, .int .i64 low, .int .i64 high, .slice aa an ac]] w fun e w' => e = .returned (.int .i64 q) ∧ Below w.heap.size w w' := by
  have HFM := Lib.hid (Cnd.formC_F op hop)
  have hat : Cnd.fAt op = 0 := by subst hop <;> rfl
  have HAN : Hid (an = 0) := Lib.hid (by have := Cnd.formB_an hf; rw [hat] at this; omega)
  clear hat
  have HFL : Cnd.fLow op = true := by subst hop <;> rfl
  have HFH : Cnd.fHigh op = true := by subst hop <;> rfl
  have HFL := Lib.hid HFL; have HFH := Lib.hid HFH; clear hf
  have HOP := Lib.hid hop; clear hop
  -- a condition's box: W1, its 6 cells
  obtain ⟨W1, hW1, hP, hz1, hB1⟩ := box w #[.int .i64 op, .slice ka kn kc, .string text, .int .i64 low, .int .i64 high, .slice aa an ac] 103
  have HW1 := Lib.hid hW1
  clear hW1 hz1
  obtain ⟨q0, q1, q2, q3, q4, q5⟩ := hP.six
  obtain rfl : op = 7 := HOP.out
  have HROW := Lib.hid (hrow.keep hB1); have HQ := Lib.hid hq; clear hrow hq
  cases hl : decide (0 ≤ low ∧ low ≤ 5)
  · have HL := Lib.hid hl; clear hl
    obtain rfl : q = 2 := by rw [← HQ.out]; exact Cnd.numE_low HFL.out (by simp only [Cnd.inB, Cnd.least, Cnd.most]; exact HL.out)
    go_enter Try.func149, Try.ntmps149
    go_wp2_with fail
    rw [HW1.out]
    go_wp2_with (first | (go_at_call 152; refine (HFM.out _).mono ?_; rintro e w3 ⟨rfl, hB3⟩; have hlt3 := (hP.keep hB3).lt; have hP4 := (hP.keep hB3).alloc (.cells #[.bool false, .bool true, .bool true, .int .i64 0] 180); have hF4 := Blk.new w3 #[.bool false, .bool true, .bool true, .int .i64 0] 180; have hB4 := below_allocs (below_up hB1 hB3) (.cells #[.bool false, .bool true, .bool true, .int .i64 0] 180); have hB4' := below_allocs hB3 (.cells #[.bool false, .bool true, .bool true, .int .i64 0] 180); obtain ⟨t0, t1, t2, t3, t4, t5⟩ := hP4.six) | (go_at_call 59; (with_reducible refine (outsideF_is low 0 5 false HL.out _).mono ?_); rintro e w5 ⟨rfl, rfl⟩))
    go_ret
    exact ⟨rfl, hB4⟩
  · have HL := Lib.hid hl; clear hl
    cases hh : decide (0 ≤ high ∧ high ≤ 5)
    · have HH := Lib.hid hh; clear hh
      obtain rfl : q = 2 := by rw [← HQ.out]; exact Cnd.numE_high HFH.out (by simp only [Cnd.inB, Cnd.least, Cnd.most]; exact HH.out)
      go_enter Try.func149, Try.ntmps149
      go_wp2_with fail
      rw [HW1.out]
      go_wp2_with (first | (go_at_call 152; refine (HFM.out _).mono ?_; rintro e w3 ⟨rfl, hB3⟩; have hlt3 := (hP.keep hB3).lt; have hP4 := (hP.keep hB3).alloc (.cells #[.bool false, .bool true, .bool true, .int .i64 0] 180); have hF4 := Blk.new w3 #[.bool false, .bool true, .bool true, .int .i64 0] 180; have hB4 := below_allocs (below_up hB1 hB3) (.cells #[.bool false, .bool true, .bool true, .int .i64 0] 180); have hB4' := below_allocs hB3 (.cells #[.bool false, .bool true, .bool true, .int .i64 0] 180); obtain ⟨t0, t1, t2, t3, t4, t5⟩ := hP4.six) | (go_at_call 59; (with_reducible refine (outsideF_is low 0 5 true HL.out _).mono ?_); rintro e w5 ⟨rfl, rfl⟩) | (go_at_call 59; (with_reducible refine (outsideF_is high 0 5 false HH.out _).mono ?_); rintro e w5 ⟨rfl, rfl⟩))
      go_ret
      exact ⟨rfl, hB4⟩
    · have HH := Lib.hid hh; clear hh
      go_enter Try.func149, Try.ntmps149
      go_wp2_with fail
      rw [HW1.out]
      go_wp2_with (first | (go_at_call 152; refine (HFM.out _).mono ?_; rintro e w3 ⟨rfl, hB3⟩; have hlt3 := (hP.keep hB3).lt; have hP4 := (hP.keep hB3).alloc (.cells #[.bool false, .bool true, .bool true, .int .i64 0] 180); have hF4 := Blk.new w3 #[.bool false, .bool true, .bool true, .int .i64 0] 180; have hB4 := below_allocs (below_up hB1 hB3) (.cells #[.bool false, .bool true, .bool true, .int .i64 0] 180); have hB4' := below_allocs hB3 (.cells #[.bool false, .bool true, .bool true, .int .i64 0] 180); obtain ⟨t0, t1, t2, t3, t4, t5⟩ := hP4.six) | (go_at_call 59; (with_reducible refine (outsideF_is low 0 5 true HL.out _).mono ?_); rintro e w5 ⟨rfl, rfl⟩) | (go_at_call 59; (with_reducible refine (outsideF_is high 0 5 true HH.out _).mono ?_); rintro e w5 ⟨rfl, rfl⟩))
      clear t0 t1 t2 t3 t4 t5
      go_loopg [45] an (fun gk i wr => ∃ j : Nat, j ≤ an ∧ gk = an - j ∧ i = .int .i64 j ∧ (∀ k, k < j → Fd.placeB (lat k) (lon k) = true) ∧ Below (w3.alloc (.cells #[.bool false, .bool true, .bool true, .int .i64 0] 180)).heap.size (w3.alloc (.cells #[.bool false, .bool true, .bool true, .int .i64 0] 180)) wr)
      case atStart => exact ⟨0, by omega, rfl, rfl, fun k hk => by omega, Below.refl _ _⟩
      case round =>
        obtain ⟨j, hj, rfl, rfl, hall, hB⟩ := hrel
        have HALL := Lib.hid hall; clear hall
        obtain ⟨t0, t1, t2, t3, t4, t5⟩ := (hP4.keep hB).six
        obtain ⟨f0, f1, f2, f3⟩ := (hF4.keep hB).four
        have hBw := below_up hB4 hB
        have hBx := below_up hB4' hB
        by_cases hlt : j < an
        · obtain ⟨b1, off, rfl, hb1, hcell⟩ := HROW.out.keep hBx (by omega)
          obtain ⟨c0, c1⟩ := hcell j hlt
          clear hcell
          have HPB := Lib.hid (fun W => checkPlace_is (lat j) (lon j) W (Fd.placeB (lat j) (lon j)) rfl)
          have hBa := below_allocs hB (.cells #[.int .i64 (lat j), .int .i64 (lon j)] 96)
          cases hpl : Fd.placeB (lat j) (lon j)
          · obtain rfl : q = 2 := by rw [← HQ.out]; exact Cnd.numE_place j hlt hpl
            rw [hpl, if_neg (by simp)] at HPB
            have HPLC := Lib.hid hpl; clear hpl
            go_wp2_with (go_at_call 62; refine (HPB.out _).mono ?_; rintro e w5 ⟨rfl, hB5⟩)
            go_ret
            exact ⟨rfl, below_up hB4 (below_up hBa hB5)⟩
          · rw [hpl, if_pos rfl] at HPB
            have HPLC := Lib.hid hpl; clear hpl
            go_wp2_with (go_at_call 62; refine (HPB.out _).mono ?_; rintro e w5 ⟨rfl, hB5⟩)
            go_roundg (an - (j + 1))
            case rel => exact ⟨j + 1, by omega, rfl, by go_num, Fd.places_next HALL.out HPLC.out, below_up hBa hB5⟩
            case measure => omega
        · obtain rfl : j = an := by omega
          by_cases ho : high < low
          · have HO := Lib.hid ho
            have ho1 : decide (high < low) = true := decide_eq_true ho
            go_wp2_with fail
            go_quiet (fail)
            go_wp2_with fail
            go_ret
            exact ⟨ret_int (by rw [← HQ.out]; exact (Cnd.numE_ord (fun _ => (by simp only [Cnd.inB, Cnd.least, Cnd.most]; exact HL.out)) (fun _ => (by simp only [Cnd.inB, Cnd.least, Cnd.most]; exact HH.out)) HALL.out (.inl ⟨HFH.out, HO.out⟩)).symm), below_drewN hBw _⟩
          · have HO := Lib.hid ho
            have ho1 : decide (high < low) = false := decide_eq_false ho
            have ho2 : (high < low) = False := eq_false ho
            clear ho
            go_wp2_with fail
            go_quiet (fail)
            go_wp2_with fail
            go_ret
            exact ⟨ret_int (by rw [← HQ.out]; exact (Cnd.numE_ok (fun _ => (by simp only [Cnd.inB, Cnd.least, Cnd.most]; exact HL.out)) (fun _ => (by simp only [Cnd.inB, Cnd.least, Cnd.most]; exact HH.out)) HALL.out (by have hq := HO.out; rintro (⟨_, h⟩ | ⟨h, _⟩); omega; cases h)).symm), below_drewN hBw _⟩
set_option maxRecDepth 100000 in
set_option maxHeartbeats 8000000 in
theorem checkNums_G (op : Int) (ka : Option Addr) (kn kc : Nat) (text : ByteArray) (low high : Int) (aa : Option Addr) (an ac : Nat) (lat lon : Nat → Int) (w : World) (hkn : kn ≤ 9223372036854775807) (han : an ≤ 9223372036854775807) (hts : text.size ≤ 9223372036854775807) (hrow : Row2 w aa an (fun i => .int .i64 (lat i)) (fun i => .int .i64 (lon i))) (hf : Cnd.formB op kn an text low high = true) (q : Int) (hq : Cnd.numE op low high an lat lon = q) (hop : op = 8) : Calls Try.prog 149 #[.agg #[.int .i64 op, .slice ka kn kc, .string text, .int .i64 low, .int .i64 high, .slice aa an ac]] w fun e w' => e = .returned (.int .i64 q) ∧ Below w.heap.size w w' := by
  have HFM := Lib.hid (Cnd.formC_G op hop)
  have hat : Cnd.fAt op = 0 := by subst hop <;> rfl
  have HAN : Hid (an = 0) := Lib.hid (by have := Cnd.formB_an hf; rw [hat] at this; omega)
  clear hat
  have HFL : Cnd.fLow op = true := by subst hop <;> rfl
  have HFH : Cnd.fHigh op = true := by subst hop <;> rfl
  have HFL := Lib.hid HFL; have HFH := Lib.hid HFH; clear hf
  have HOP := Lib.hid hop; clear hop
  -- a condition's box: W1, its 6 cells
  obtain ⟨W1, hW1, hP, hz1, hB1⟩ := box w #[.int .i64 op, .slice ka kn kc, .string text, .int .i64 low, .int .i64 high, .slice aa an ac] 103
  have HW1 := Lib.hid hW1
  clear hW1 hz1
  obtain ⟨q0, q1, q2, q3, q4, q5⟩ := hP.six
  obtain rfl : op = 8 := HOP.out
  have HROW := Lib.hid (hrow.keep hB1); have HQ := Lib.hid hq; clear hrow hq
  cases hl : decide (0 ≤ low ∧ low ≤ 6311433599)
  · have HL := Lib.hid hl; clear hl
    obtain rfl : q = 2 := by rw [← HQ.out]; exact Cnd.numE_low HFL.out (by simp only [Cnd.inB, Cnd.least, Cnd.most]; exact HL.out)
    go_enter Try.func149, Try.ntmps149
    go_wp2_with fail
    rw [HW1.out]
    go_wp2_with (first | (go_at_call 152; refine (HFM.out _).mono ?_; rintro e w3 ⟨rfl, hB3⟩; have hlt3 := (hP.keep hB3).lt; have hP4 := (hP.keep hB3).alloc (.cells #[.bool false, .bool true, .bool true, .int .i64 0] 180); have hF4 := Blk.new w3 #[.bool false, .bool true, .bool true, .int .i64 0] 180; have hB4 := below_allocs (below_up hB1 hB3) (.cells #[.bool false, .bool true, .bool true, .int .i64 0] 180); have hB4' := below_allocs hB3 (.cells #[.bool false, .bool true, .bool true, .int .i64 0] 180); obtain ⟨t0, t1, t2, t3, t4, t5⟩ := hP4.six) | (go_at_call 59; (with_reducible refine (outsideF_is low 0 6311433599 false HL.out _).mono ?_); rintro e w5 ⟨rfl, rfl⟩))
    go_ret
    exact ⟨rfl, hB4⟩
  · have HL := Lib.hid hl; clear hl
    cases hh : decide (0 ≤ high ∧ high ≤ 6311433599)
    · have HH := Lib.hid hh; clear hh
      obtain rfl : q = 2 := by rw [← HQ.out]; exact Cnd.numE_high HFH.out (by simp only [Cnd.inB, Cnd.least, Cnd.most]; exact HH.out)
      go_enter Try.func149, Try.ntmps149
      go_wp2_with fail
      rw [HW1.out]
      go_wp2_with (first | (go_at_call 152; refine (HFM.out _).mono ?_; rintro e w3 ⟨rfl, hB3⟩; have hlt3 := (hP.keep hB3).lt; have hP4 := (hP.keep hB3).alloc (.cells #[.bool false, .bool true, .bool true, .int .i64 0] 180); have hF4 := Blk.new w3 #[.bool false, .bool true, .bool true, .int .i64 0] 180; have hB4 := below_allocs (below_up hB1 hB3) (.cells #[.bool false, .bool true, .bool true, .int .i64 0] 180); have hB4' := below_allocs hB3 (.cells #[.bool false, .bool true, .bool true, .int .i64 0] 180); obtain ⟨t0, t1, t2, t3, t4, t5⟩ := hP4.six) | (go_at_call 59; (with_reducible refine (outsideF_is low 0 6311433599 true HL.out _).mono ?_); rintro e w5 ⟨rfl, rfl⟩) | (go_at_call 59; (with_reducible refine (outsideF_is high 0 6311433599 false HH.out _).mono ?_); rintro e w5 ⟨rfl, rfl⟩))
      go_ret
      exact ⟨rfl, hB4⟩
    · have HH := Lib.hid hh; clear hh
      go_enter Try.func149, Try.ntmps149
      go_wp2_with fail
      rw [HW1.out]
      go_wp2_with (first | (go_at_call 152; refine (HFM.out _).mono ?_; rintro e w3 ⟨rfl, hB3⟩; have hlt3 := (hP.keep hB3).lt; have hP4 := (hP.keep hB3).alloc (.cells #[.bool false, .bool true, .bool true, .int .i64 0] 180); have hF4 := Blk.new w3 #[.bool false, .bool true, .bool true, .int .i64 0] 180; have hB4 := below_allocs (below_up hB1 hB3) (.cells #[.bool false, .bool true, .bool true, .int .i64 0] 180); have hB4' := below_allocs hB3 (.cells #[.bool false, .bool true, .bool true, .int .i64 0] 180); obtain ⟨t0, t1, t2, t3, t4, t5⟩ := hP4.six) | (go_at_call 59; (with_reducible refine (outsideF_is low 0 6311433599 true HL.out _).mono ?_); rintro e w5 ⟨rfl, rfl⟩) | (go_at_call 59; (with_reducible refine (outsideF_is high 0 6311433599 true HH.out _).mono ?_); rintro e w5 ⟨rfl, rfl⟩))
      clear t0 t1 t2 t3 t4 t5
      go_loopg [45] an (fun gk i wr => ∃ j : Nat, j ≤ an ∧ gk = an - j ∧ i = .int .i64 j ∧ (∀ k, k < j → Fd.placeB (lat k) (lon k) = true) ∧ Below (w3.alloc (.cells #[.bool false, .bool true, .bool true, .int .i64 0] 180)).heap.size (w3.alloc (.cells #[.bool false, .bool true, .bool true, .int .i64 0] 180)) wr)
      case atStart => exact ⟨0, by omega, rfl, rfl, fun k hk => by omega, Below.refl _ _⟩
      case round =>
        obtain ⟨j, hj, rfl, rfl, hall, hB⟩ := hrel
        have HALL := Lib.hid hall; clear hall
        obtain ⟨t0, t1, t2, t3, t4, t5⟩ := (hP4.keep hB).six
        obtain ⟨f0, f1, f2, f3⟩ := (hF4.keep hB).four
        have hBw := below_up hB4 hB
        have hBx := below_up hB4' hB
        by_cases hlt : j < an
        · obtain ⟨b1, off, rfl, hb1, hcell⟩ := HROW.out.keep hBx (by omega)
          obtain ⟨c0, c1⟩ := hcell j hlt
          clear hcell
          have HPB := Lib.hid (fun W => checkPlace_is (lat j) (lon j) W (Fd.placeB (lat j) (lon j)) rfl)
          have hBa := below_allocs hB (.cells #[.int .i64 (lat j), .int .i64 (lon j)] 96)
          cases hpl : Fd.placeB (lat j) (lon j)
          · obtain rfl : q = 2 := by rw [← HQ.out]; exact Cnd.numE_place j hlt hpl
            rw [hpl, if_neg (by simp)] at HPB
            have HPLC := Lib.hid hpl; clear hpl
            go_wp2_with (go_at_call 62; refine (HPB.out _).mono ?_; rintro e w5 ⟨rfl, hB5⟩)
            go_ret
            exact ⟨rfl, below_up hB4 (below_up hBa hB5)⟩
          · rw [hpl, if_pos rfl] at HPB
            have HPLC := Lib.hid hpl; clear hpl
            go_wp2_with (go_at_call 62; refine (HPB.out _).mono ?_; rintro e w5 ⟨rfl, hB5⟩)
            go_roundg (an - (j + 1))
            case rel => exact ⟨j + 1, by omega, rfl, by go_num, Fd.places_next HALL.out HPLC.out, below_up hBa hB5⟩
            case measure => omega
        · obtain rfl : j = an := by omega
          by_cases ho : high < low
          · have HO := Lib.hid ho
            have ho1 : decide (high < low) = true := decide_eq_true ho
            go_wp2_with fail
            go_quiet (fail)
            go_wp2_with fail
            go_ret
            exact ⟨ret_int (by rw [← HQ.out]; exact (Cnd.numE_ord (fun _ => (by simp only [Cnd.inB, Cnd.least, Cnd.most]; exact HL.out)) (fun _ => (by simp only [Cnd.inB, Cnd.least, Cnd.most]; exact HH.out)) HALL.out (.inl ⟨HFH.out, HO.out⟩)).symm), below_drewN hBw _⟩
          · have HO := Lib.hid ho
            have ho1 : decide (high < low) = false := decide_eq_false ho
            have ho2 : (high < low) = False := eq_false ho
            clear ho
            go_wp2_with fail
            go_quiet (fail)
            go_wp2_with fail
            go_ret
            exact ⟨ret_int (by rw [← HQ.out]; exact (Cnd.numE_ok (fun _ => (by simp only [Cnd.inB, Cnd.least, Cnd.most]; exact HL.out)) (fun _ => (by simp only [Cnd.inB, Cnd.least, Cnd.most]; exact HH.out)) HALL.out (by have hq := HO.out; rintro (⟨_, h⟩ | ⟨h, _⟩); omega; cases h)).symm), below_drewN hBw _⟩
end Go.Proofs.Ytbbedepojogfmaa
