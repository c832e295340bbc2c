/- checkNumbers, by classes of operations: IJ. -/
import Derived.Test.YtbbedepojogfmaaCndOp
import Derived.Test.YtbbedepojogfmaaFdStr3
import Derived.Test.YtbbedepojogfmaaFdLow
import Derived.Test.YtbbedepojogfmaaEvents0
namespace Go.Proofs.Ytbbedepojogfmaa
open Go.RowKit Go.Sort Go.Shelf
set_option linter.unusedVariables false
set_option maxRecDepth 100000 in
set_option maxHeartbeats 8000000 in
theorem checkNums_I (op : Int) (ka : Option Addr) (kn kc : Nat) (text : ByteArray) (low high : Int) (aa : Option Addr) (an ac : Nat) (lat lon : Nat → Int) (w : World) (hkn : kn ≤ 9223372036854775807) (han : an ≤ 9223372036854775807) (hts : text.size ≤ 9223372036854775807) (hrow : Row2 w aa an (fun i => .int .i64 (lat i)) (fun i => .int .i64 (lon i))) (hf : Cnd.formB op kn an text low high = true) (q : Int) (hq : Cnd.numE op low high an lat lon = q) (hop : op = 14) : Calls Try.prog 149 #[.agg #[.int .i64 op, .slice ka kn kc, .string text, .int .i64 low, .int .i64 high, .slice aa an ac]] w fun e w' => e = .returned (.int .i64 q) ∧ Below w.heap.size w w' := by
  have HFM := Lib.hid (Cnd.formC_I op hop)
  have hat : Cnd.fAt op = 1 := by subst hop <;> rfl
  have HAN : Hid (an = 1) := Lib.hid (by have := Cnd.formB_an hf; rw [hat] at this; omega)
  clear hat
  have HFL : Cnd.fLow op = true := by subst hop <;> rfl
  have HFH : Cnd.fHigh op = false := by subst hop <;> rfl
  have HFL := Lib.hid HFL; have HFH := Lib.hid HFH; clear hf
  have HOP := Lib.hid hop; clear hop
  -- a condition's box: W1, its 6 cells
  obtain ⟨W1, hW1, hP, hz1, hB1⟩ := box w #[.int .i64 op, .slice ka kn kc, .string text, .int .i64 low, .int .i64 high, .slice aa an ac] 103
  have HW1 := Lib.hid hW1
  clear hW1 hz1
  obtain ⟨q0, q1, q2, q3, q4, q5⟩ := hP.six
  obtain rfl : op = 14 := HOP.out
  have HROW := Lib.hid (hrow.keep hB1); have HQ := Lib.hid hq; clear hrow hq
  cases hl : decide (0 ≤ low ∧ low ≤ 20100000)
  · have HL := Lib.hid hl; clear hl
    obtain rfl : q = 2 := by rw [← HQ.out]; exact Cnd.numE_low HFL.out (by simp only [Cnd.inB, Cnd.least, Cnd.most]; exact HL.out)
    go_enter Try.func149, Try.ntmps149
    go_wp2_with fail
    rw [HW1.out]
    go_wp2_with (first | (go_at_call 152; refine (HFM.out _).mono ?_; rintro e w3 ⟨rfl, hB3⟩; have hlt3 := (hP.keep hB3).lt; have hP4 := (hP.keep hB3).alloc (.cells #[.bool false, .bool true, .bool false, .int .i64 1] 180); have hF4 := Blk.new w3 #[.bool false, .bool true, .bool false, .int .i64 1] 180; have hB4 := below_allocs (below_up hB1 hB3) (.cells #[.bool false, .bool true, .bool false, .int .i64 1] 180); have hB4' := below_allocs hB3 (.cells #[.bool false, .bool true, .bool false, .int .i64 1] 180); obtain ⟨t0, t1, t2, t3, t4, t5⟩ := hP4.six) | (go_at_call 59; (with_reducible refine (outsideF_is low 0 20100000 false HL.out _).mono ?_); rintro e w5 ⟨rfl, rfl⟩))
    go_ret
    exact ⟨rfl, hB4⟩
  · have HL := Lib.hid hl; clear hl
    go_enter Try.func149, Try.ntmps149
    go_wp2_with fail
    rw [HW1.out]
    go_wp2_with (first | (go_at_call 152; refine (HFM.out _).mono ?_; rintro e w3 ⟨rfl, hB3⟩; have hlt3 := (hP.keep hB3).lt; have hP4 := (hP.keep hB3).alloc (.cells #[.bool false, .bool true, .bool false, .int .i64 1] 180); have hF4 := Blk.new w3 #[.bool false, .bool true, .bool false, .int .i64 1] 180; have hB4 := below_allocs (below_up hB1 hB3) (.cells #[.bool false, .bool true, .bool false, .int .i64 1] 180); have hB4' := below_allocs hB3 (.cells #[.bool false, .bool true, .bool false, .int .i64 1] 180); obtain ⟨t0, t1, t2, t3, t4, t5⟩ := hP4.six) | (go_at_call 59; (with_reducible refine (outsideF_is low 0 20100000 true HL.out _).mono ?_); rintro e w5 ⟨rfl, rfl⟩))
    clear t0 t1 t2 t3 t4 t5
    go_loopg [45] an (fun gk i wr => ∃ j : Nat, j ≤ an ∧ gk = an - j ∧ i = .int .i64 j ∧ (∀ k, k < j → Fd.placeB (lat k) (lon k) = true) ∧ Below (w3.alloc (.cells #[.bool false, .bool true, .bool false, .int .i64 1] 180)).heap.size (w3.alloc (.cells #[.bool false, .bool true, .bool false, .int .i64 1] 180)) wr)
    case atStart => exact ⟨0, by omega, rfl, rfl, fun k hk => by omega, Below.refl _ _⟩
    case round =>
      obtain ⟨j, hj, rfl, rfl, hall, hB⟩ := hrel
      have HALL := Lib.hid hall; clear hall
      obtain ⟨t0, t1, t2, t3, t4, t5⟩ := (hP4.keep hB).six
      obtain ⟨f0, f1, f2, f3⟩ := (hF4.keep hB).four
      have hBw := below_up hB4 hB
      have hBx := below_up hB4' hB
      by_cases hlt : j < an
      · obtain ⟨b1, off, rfl, hb1, hcell⟩ := HROW.out.keep hBx (by omega)
        obtain ⟨c0, c1⟩ := hcell j hlt
        clear hcell
        have HPB := Lib.hid (fun W => checkPlace_is (lat j) (lon j) W (Fd.placeB (lat j) (lon j)) rfl)
        have hBa := below_allocs hB (.cells #[.int .i64 (lat j), .int .i64 (lon j)] 96)
        cases hpl : Fd.placeB (lat j) (lon j)
        · obtain rfl : q = 2 := by rw [← HQ.out]; exact Cnd.numE_place j hlt hpl
          rw [hpl, if_neg (by simp)] at HPB
          have HPLC := Lib.hid hpl; clear hpl
          go_wp2_with (go_at_call 62; refine (HPB.out _).mono ?_; rintro e w5 ⟨rfl, hB5⟩)
          go_ret
          exact ⟨rfl, below_up hB4 (below_up hBa hB5)⟩
        · rw [hpl, if_pos rfl] at HPB
          have HPLC := Lib.hid hpl; clear hpl
          go_wp2_with (go_at_call 62; refine (HPB.out _).mono ?_; rintro e w5 ⟨rfl, hB5⟩)
          go_roundg (an - (j + 1))
          case rel => exact ⟨j + 1, by omega, rfl, by go_num, Fd.places_next HALL.out HPLC.out, below_up hBa hB5⟩
          case measure => omega
      · obtain rfl : j = an := by omega
        go_wp2_with fail
        go_quiet (fail)
        go_wp2_with fail
        go_ret
        exact ⟨ret_int (by rw [← HQ.out]; exact (Cnd.numE_ok (fun _ => (by simp only [Cnd.inB, Cnd.least, Cnd.most]; exact HL.out)) (fun h => by rw [HFH.out] at h; cases h) HALL.out (by rintro (⟨h, _⟩ | ⟨h, _⟩); (rw [HFH.out] at h; cases h); cases h)).symm), below_drewN hBw _⟩
set_option maxRecDepth 100000 in
set_option maxHeartbeats 8000000 in
theorem checkNums_J (op : Int) (ka : Option Addr) (kn kc : Nat) (text : ByteArray) (low high : Int) (aa : Option Addr) (an ac : Nat) (lat lon : Nat → Int) (w : World) (hkn : kn ≤ 9223372036854775807) (han : an ≤ 9223372036854775807) (hts : text.size ≤ 9223372036854775807) (hrow : Row2 w aa an (fun i => .int .i64 (lat i)) (fun i => .int .i64 (lon i))) (hf : Cnd.formB op kn an text low high = true) (q : Int) (hq : Cnd.numE op low high an lat lon = q) (hop : op = 15) : Calls Try.prog 149 #[.agg #[.int .i64 op, .slice ka kn kc, .string text, .int .i64 low, .int .i64 high, .slice aa an ac]] w fun e w' => e = .returned (.int .i64 q) ∧ Below w.heap.size w w' := by
  have HFM := Lib.hid (Cnd.formC_J op hop)
  have hat : Cnd.fAt op = 2 := by subst hop <;> rfl
  have HAN : Hid (an = 2) := Lib.hid (by have := Cnd.formB_an hf; rw [hat] at this; omega)
  clear hat
  have HFL : Cnd.fLow op = false := by subst hop <;> rfl
  have HFH : Cnd.fHigh op = false := by subst hop <;> rfl
  have HFL := Lib.hid HFL; have HFH := Lib.hid HFH; clear hf
  have HOP := Lib.hid hop; clear hop
  -- a condition's box: W1, its 6 cells
  obtain ⟨W1, hW1, hP, hz1, hB1⟩ := box w #[.int .i64 op, .slice ka kn kc, .string text, .int .i64 low, .int .i64 high, .slice aa an ac] 103
  have HW1 := Lib.hid hW1
  clear hW1 hz1
  obtain ⟨q0, q1, q2, q3, q4, q5⟩ := hP.six
  obtain rfl : op = 15 := HOP.out
  have HROW := Lib.hid (hrow.keep hB1); have HQ := Lib.hid hq; clear hrow hq
  go_enter Try.func149, Try.ntmps149
  go_wp2_with fail
  rw [HW1.out]
  go_wp2_with (first | (go_at_call 152; refine (HFM.out _).mono ?_; rintro e w3 ⟨rfl, hB3⟩; have hlt3 := (hP.keep hB3).lt; have hP4 := (hP.keep hB3).alloc (.cells #[.bool false, .bool false, .bool false, .int .i64 2] 180); have hF4 := Blk.new w3 #[.bool false, .bool false, .bool false, .int .i64 2] 180; have hB4 := below_allocs (below_up hB1 hB3) (.cells #[.bool false, .bool false, .bool false, .int .i64 2] 180); have hB4' := below_allocs hB3 (.cells #[.bool false, .bool false, .bool false, .int .i64 2] 180); obtain ⟨t0, t1, t2, t3, t4, t5⟩ := hP4.six))
  clear t0 t1 t2 t3 t4 t5
  go_loopg [45] an (fun gk i wr => ∃ j : Nat, j ≤ an ∧ gk = an - j ∧ i = .int .i64 j ∧ (∀ k, k < j → Fd.placeB (lat k) (lon k) = true) ∧ Below (w3.alloc (.cells #[.bool false, .bool false, .bool false, .int .i64 2] 180)).heap.size (w3.alloc (.cells #[.bool false, .bool false, .bool false, .int .i64 2] 180)) wr)
  case atStart => exact ⟨0, by omega, rfl, rfl, fun k hk => by omega, Below.refl _ _⟩
  case round =>
    obtain ⟨j, hj, rfl, rfl, hall, hB⟩ := hrel
    have HALL := Lib.hid hall; clear hall
    obtain ⟨t0, t1, t2, t3, t4, t5⟩ := (hP4.keep hB).six
    obtain ⟨f0, f1, f2, f3⟩ := (hF4.keep hB).four
    have hBw := below_up hB4 hB
    have hBx := below_up hB4' hB
    by_cases hlt : j < an
    · obtain ⟨b1, off, rfl, hb1, hcell⟩ := HROW.out.keep hBx (by omega)
      obtain ⟨c0, c1⟩ := hcell j hlt
      clear hcell
      have HPB := Lib.hid (fun W => checkPlace_is (lat j) (lon j) W (Fd.placeB (lat j) (lon j)) rfl)
      have hBa := below_allocs hB (.cells #[.int .i64 (lat j), .int .i64 (lon j)] 96)
      cases hpl : Fd.placeB (lat j) (lon j)
      · obtain rfl : q = 2 := by rw [← HQ.out]; exact Cnd.numE_place j hlt hpl
        rw [hpl, if_neg (by simp)] at HPB
        have HPLC := Lib.hid hpl; clear hpl
        go_wp2_with (go_at_call 62; refine (HPB.out _).mono ?_; rintro e w5 ⟨rfl, hB5⟩)
        go_ret
        exact ⟨rfl, below_up hB4 (below_up hBa hB5)⟩
      · rw [hpl, if_pos rfl] at HPB
        have HPLC := Lib.hid hpl; clear hpl
        go_wp2_with (go_at_call 62; refine (HPB.out _).mono ?_; rintro e w5 ⟨rfl, hB5⟩)
        go_roundg (an - (j + 1))
        case rel => exact ⟨j + 1, by omega, rfl, by go_num, Fd.places_next HALL.out HPLC.out, below_up hBa hB5⟩
        case measure => omega
    · obtain rfl : an = j := by omega
      obtain ⟨b1, off, rfl, hb1, hcell⟩ := HROW.out.keep hBx (by have := HAN.out; omega)
      obtain ⟨c0, -⟩ := hcell 0 (by have := HAN.out; omega)
      obtain ⟨c1, -⟩ := hcell 1 (by have := HAN.out; omega)
      rw [Nat.zero_mul, Nat.add_zero] at c0
      rw [Nat.one_mul] at c1
      clear hcell
      have hn0 : (0 : Int) < (an : Int) := by have := HAN.out; omega
      have hn1 : (1 : Int) < (an : Int) := by have := HAN.out; omega
      by_cases ho : lat 1 < lat 0
      · have HO := Lib.hid ho
        have ho1 : decide (lat 1 < lat 0) = true := decide_eq_true ho
        go_wp2_with fail
        go_quiet (fail)
        go_wp2_with fail
        go_ret
        exact ⟨ret_int (by rw [← HQ.out]; exact (Cnd.numE_ord (fun h => by rw [HFL.out] at h; cases h) (fun h => by rw [HFH.out] at h; cases h) HALL.out (.inr ⟨rfl, HO.out⟩)).symm), below_drewN hBw _⟩
      · have HO := Lib.hid ho
        have ho1 : decide (lat 1 < lat 0) = false := decide_eq_false ho
        have ho2 : (lat 1 < lat 0) = False := eq_false ho
        clear ho
        go_wp2_with fail
        go_quiet (fail)
        go_wp2_with fail
        go_ret
        exact ⟨ret_int (by rw [← HQ.out]; exact (Cnd.numE_ok (fun h => by rw [HFL.out] at h; cases h) (fun h => by rw [HFH.out] at h; cases h) HALL.out (by rintro (⟨h, _⟩ | ⟨_, h⟩); (rw [HFH.out] at h; cases h); (have hq := HO.out; omega))).symm), below_drewN hBw _⟩
end Go.Proofs.Ytbbedepojogfmaa
