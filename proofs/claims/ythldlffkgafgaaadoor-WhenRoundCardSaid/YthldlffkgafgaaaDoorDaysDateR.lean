/- The contract of the reference's DateFor: the date of a day from 0 to MaxDay. -/
import Derived.Test.YthldlffkgafgaaaDoorDaysDate
namespace Go.Proofs.YthldlffkgafgaaaDoor
open Go.RowKit Go.Sort
theorem vld_first (y m : Int) (h1 : 1900 ≤ y) (h2 : y ≤ 2099) (h3 : 1 ≤ m) (h4 : m ≤ 12) : Cal.vld y m 1 = true := by
  have := Cal.len_bd y m
  exact (Cal.vld_iff _ _ _).2 ⟨h1, h2, h3, h4, by omega, by omega⟩
theorem num_first (y m : Int) : Cal.num y m 1 = Cal.bef y + Cal.cum y m := by unfold Cal.num; omega
theorem vld_2100 (y : Int) (h : 2099 < y) : Cal.vld y 1 1 = false := by
  simp only [Cal.vld, decide_eq_false_iff_not]; omega
/-- The first of a month, as DayFor tells it. -/
theorem dayFor_first (y m : Int) (w : World) (h1 : 1900 ≤ y) (h2 : y ≤ 2099) (h3 : 1 ≤ m) (h4 : m ≤ 12) :
    Calls Tryd.prog 72 #[.agg #[.int .i64 y, .int .i64 m, .int .i64 1]] w fun e w' => e = .returned (.int .i64 (Cal.bef y + Cal.cum y m)) ∧ Below w.heap.size w w' := by
  rw [← num_first]; exact dayFor_yes y m 1 w (vld_first y m h1 h2 h3 h4)
theorem dayFor_new (y : Int) (w : World) (h1 : 1900 ≤ y) (h2 : y ≤ 2099) :
    Calls Tryd.prog 72 #[.agg #[.int .i64 y, .int .i64 1, .int .i64 1]] w fun e w' => e = .returned (.int .i64 (Cal.bef y)) ∧ Below w.heap.size w w' := by
  have := dayFor_first y 1 w h1 h2 (by omega) (by omega)
  rwa [Cal.cum_1, Int.add_zero] at this
set_option maxHeartbeats 2000000 in
theorem dateFor_any (n : Int) (w : World) (h1 : 0 ≤ n) (h2 : n ≤ 73048) :
    Calls Tryd.prog 39 #[.int .i64 n] w fun e w' => ∃ y m d : Int, Cal.vld y m d = true ∧ Cal.num y m d = n ∧ e = .returned (.agg #[.int .i64 y, .int .i64 m, .int .i64 d]) ∧ Below w.heap.size w w' := by
  go_enter Tryd.func39, Tryd.ntmps39
  go_wp2_with fail
  go_loopg [] 199 (fun gk wr => ∃ y : Int, 1900 ≤ y ∧ y ≤ 2099 ∧ Cal.bef y ≤ n ∧ gk = (2099 - y).toNat ∧ Blk wr (w.heap.size + 1) #[.int .i64 y, .int .i64 1, .int .i64 1] 56 ∧
          Blk wr w.heap.size #[.int .i64 0, .int .i64 0, .int .i64 0] 56 ∧ Below w.heap.size w wr)
  case atStart => exact ⟨1900, by omega, by omega, by rw [Cal.bef_1900]; omega, rfl, by have := Blk.new (w.alloc (.cells #[.int .i64 0, .int .i64 0, .int .i64 0] 56)) #[.int .i64 1900, .int .i64 1, .int .i64 1] 56; simpa using this, (Blk.new _ _ _).alloc _, ((Below.refl _ _).alloc (Nat.le_refl _) _).alloc (by simp) _⟩
  case round =>
    obtain ⟨y, hy1, hy2, hy3, rfl, hD, hR, hB⟩ := hrel
    have hb := bef_bd y hy1 (by omega)
    have hb1 := bef_bd (y + 1) (by omega) (by omega)
    obtain ⟨c0, c1, c2⟩ := hD.three
    have cf := hD.free
    by_cases hc : Cal.bef (y + 1) ≤ n
    · have hy4 := bef_lt n (y + 1) hc h2
      go_wp2_with (go_at_call 72; refine (dayFor_new _ _ (by omega) (by omega)).mono ?_; rintro e w' ⟨rfl, hB3⟩; have hD := hD.keep hB3; have hR := hR.keep hB3; have hB := below_up hB hB3; obtain ⟨c0, c1, c2⟩ := hD.three; have cf := hD.free; obtain ⟨r0, r1, r2⟩ := hR.three; have rf := hR.free)
      go_roundg (2099 - (y + 1)).toNat
      case rel => exact ⟨y + 1, by omega, by omega, hc, rfl, by have := hD.set 0 (.int .i64 (y + 1)); simpa using this, hR.setOther (by simp) _, hB.setCell (by simp) _⟩
      case measure => omega
    · by_cases hy5 : y ≤ 2098
      all_goals
        first
          | (have hy6 : y ≤ 2098 := hy5; go_wp2_with (go_at_call 72; refine (dayFor_new _ _ (by omega) (by omega)).mono ?_; rintro e w' ⟨rfl, hB3⟩; have hD := hD.keep hB3; have hR := hR.keep hB3; have hB := below_up hB hB3; obtain ⟨c0, c1, c2⟩ := hD.three; have cf := hD.free; obtain ⟨r0, r1, r2⟩ := hR.three; have rf := hR.free))
          | (go_wp2_with (go_at_call 72; refine (dayFor_no _ _ _ _ (vld_2100 _ (by omega))).mono ?_; rintro e w' ⟨rfl, hB3⟩; have hD := hD.keep hB3; have hR := hR.keep hB3; have hB := below_up hB hB3; obtain ⟨c0, c1, c2⟩ := hD.three; have cf := hD.free; obtain ⟨r0, r1, r2⟩ := hR.three; have rf := hR.free))
        have hs := Lib.hid (Cal.bef_succ y)
        have hc' : n < Cal.bef (y + 1) := by omega
        clear hc hy5 hb1
        go_loopg [] 11 (fun gk wr => ∃ m : Int, 1 ≤ m ∧ m ≤ 12 ∧ Cal.bef y + Cal.cum y m ≤ n ∧ gk = (12 - m).toNat ∧ Blk wr (w.heap.size + 1) #[.int .i64 y, .int .i64 m, .int .i64 1] 56 ∧
          Blk wr w.heap.size #[.int .i64 0, .int .i64 0, .int .i64 0] 56 ∧ Below w.heap.size w wr)
        case atStart => exact ⟨1, by omega, by omega, by rw [Cal.cum_1]; omega, rfl, hD, hR, hB⟩
        case round =>
          obtain ⟨m, hm1, hm2, hm3, rfl, hD, hR, hB⟩ := hrel
          have hbd := Cal.cum_bd y m hm1 (by omega)
          have hn := Cal.len_bd y m
          have hl := Cal.lp_01 y
          obtain ⟨c0, c1, c2⟩ := hD.three
          have cf := hD.free
          by_cases hm : m < 12
          · have hbd' := Cal.cum_bd y (m + 1) (by omega) (by omega)
            by_cases hc : Cal.bef y + Cal.cum y (m + 1) ≤ n
            · go_wp2_with (go_at_call 72; refine (dayFor_first _ _ _ (by omega) (by omega) (by omega) (by omega)).mono ?_; rintro e w' ⟨rfl, hB3⟩; have hD := hD.keep hB3; have hR := hR.keep hB3; have hB := below_up hB hB3; obtain ⟨c0, c1, c2⟩ := hD.three; have cf := hD.free; obtain ⟨r0, r1, r2⟩ := hR.three; have rf := hR.free)
              go_roundg (12 - (m + 1)).toNat
              case rel => exact ⟨m + 1, by omega, by omega, hc, rfl, by have := hD.set 1 (.int .i64 (m + 1)); simpa using this, hR.setOther (by simp) _, hB.setCell (by simp) _⟩
              case measure => omega
            · have hcs := Lib.hid (Cal.cum_succ y m hm1 hm2)
              go_wp2_with (go_at_call 72; refine (dayFor_first _ _ _ (by omega) (by omega) (by omega) (by omega)).mono ?_; rintro e w' ⟨rfl, hB3⟩; have hD := hD.keep hB3; have hR := hR.keep hB3; have hB := below_up hB hB3; obtain ⟨c0, c1, c2⟩ := hD.three; have cf := hD.free; obtain ⟨r0, r1, r2⟩ := hR.three; have rf := hR.free)
              have hnn : n < Cal.bef y + Cal.cum y (m + 1) := by omega
              have hF := (((hR.setOther (a := ⟨w.heap.size + 1, 2, none⟩) (by simp) (.int .i64 (n - (Cal.bef y + Cal.cum y m) + 1))).set 0 (.int .i64 y)).set 1 (.int .i64 m)).set 2 (.int .i64 (n - (Cal.bef y + Cal.cum y m) + 1))
              obtain ⟨f0, f1, f2⟩ := Blk.three (by simpa using hF)
              have hcs' := hcs.out
              refine bodyPost_ret (v := .agg #[.int .i64 y, .int .i64 m, .int .i64 (n - (Cal.bef y + Cal.cum y m) + 1)]) (by simp [results, Tryd.results39, go_sem, f0, f1, f2]) rfl ⟨y, m, _, ?_, ?_, rfl, ?_⟩
              · exact (Cal.vld_iff _ _ _).2 ⟨by omega, by omega, hm1, hm2, by omega, by omega⟩
              · unfold Cal.num; omega
              · exact (((hB.setCell (by simp) _).setCell (Nat.le_refl _) _).setCell (Nat.le_refl _) _).setCell (Nat.le_refl _) _
          · have hcs := Lib.hid (Cal.cum_succ y m hm1 hm2)
            have hnn : n < Cal.bef y + Cal.cum y (m + 1) := by
              obtain rfl : m = 12 := by omega
              rw [show (12 : Int) + 1 = 13 from rfl, Cal.cum_13]; have := hs.out; omega
            go_wp2_with (go_at_call 72; refine (dayFor_first _ _ _ (by omega) (by omega) (by omega) (by omega)).mono ?_; rintro e w' ⟨rfl, hB3⟩; have hD := hD.keep hB3; have hR := hR.keep hB3; have hB := below_up hB hB3; obtain ⟨c0, c1, c2⟩ := hD.three; have cf := hD.free; obtain ⟨r0, r1, r2⟩ := hR.three; have rf := hR.free)
            have hF := (((hR.setOther (a := ⟨w.heap.size + 1, 2, none⟩) (by simp) (.int .i64 (n - (Cal.bef y + Cal.cum y m) + 1))).set 0 (.int .i64 y)).set 1 (.int .i64 m)).set 2 (.int .i64 (n - (Cal.bef y + Cal.cum y m) + 1))
            obtain ⟨f0, f1, f2⟩ := Blk.three (by simpa using hF)
            have hcs' := hcs.out
            refine bodyPost_ret (v := .agg #[.int .i64 y, .int .i64 m, .int .i64 (n - (Cal.bef y + Cal.cum y m) + 1)]) (by simp [results, Tryd.results39, go_sem, f0, f1, f2]) rfl ⟨y, m, _, ?_, ?_, rfl, ?_⟩
            · exact (Cal.vld_iff _ _ _).2 ⟨by omega, by omega, hm1, hm2, by omega, by omega⟩
            · unfold Cal.num; omega
            · exact (((hB.setCell (by simp) _).setCell (Nat.le_refl _) _).setCell (Nat.le_refl _) _).setCell (Nat.le_refl _) _
end Go.Proofs.YthldlffkgafgaaaDoor
