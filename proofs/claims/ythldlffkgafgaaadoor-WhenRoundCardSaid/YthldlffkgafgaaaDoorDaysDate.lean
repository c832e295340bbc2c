/- The contract of package when's DateOf: the date of a day. -/
import Derived.Test.YthldlffkgafgaaaDoorDaysProg
namespace Go.Proofs.YthldlffkgafgaaaDoor
open Go.RowKit Go.Sort
theorem guess (n : Int) (h1 : 0 ≤ n) (h2 : n ≤ 73048) : Cal.bef (1900 + n / 366) ≤ n ∧ 1900 + n / 366 ≤ 2099 := by
  unfold Cal.bef; omega
theorem bef_lt (n y : Int) (h : Cal.bef y ≤ n) (h2 : n ≤ 73048) : y ≤ 2099 := by
  by_cases c : y ≤ 2099
  · exact c
  · have := Cal.bef_mono 2100 y (by omega); rw [Cal.bef_2100] at this; omega
set_option maxHeartbeats 1000000 in
theorem dateOf_no (n : Int) (w : World) (h : n < 0 ∨ 73048 < n) :
    Calls Tryd.prog 31 #[.int .i64 n] w fun e w' => e = .returned (.tuple #[.agg #[.int .i64 0, .int .i64 0, .int .i64 0], .int .i64 2]) ∧ Below w.heap.size w w' := by
  go_enter Tryd.func31, Tryd.ntmps31
  go_wp2_with (go_at_call 34; refine (outside_yes _ _ _ _ (by omega)).mono ?_; rintro e w' ⟨rfl, rfl⟩)
  exact bodyPost_ret (v := .tuple #[.agg #[.int .i64 0, .int .i64 0, .int .i64 0], .int .i64 2]) (by simp [results, Tryd.results31, go_sem]) rfl ⟨rfl, (Below.refl _ _).alloc (Nat.le_refl _) _⟩
set_option maxHeartbeats 1000000 in
theorem dateOf_yes (n : Int) (w : World) (h1 : 0 ≤ n) (h2 : n ≤ 73048) :
    Calls Tryd.prog 31 #[.int .i64 n] w fun e w' => ∃ y m d : Int, Cal.vld y m d = true ∧ Cal.num y m d = n ∧ e = .returned (.tuple #[.agg #[.int .i64 y, .int .i64 m, .int .i64 d], .int .i64 0]) ∧ Below w.heap.size w w' := by
  obtain ⟨g1, g2⟩ := guess n h1 h2
  go_enter Tryd.func31, Tryd.ntmps31
  go_wp2_with (go_at_call 34; refine (outside_no _ _ _ _ (by omega) (by omega)).mono ?_; rintro e w' ⟨rfl, rfl⟩)
  go_loopg [] (2099 - (1900 + n / 366)).toNat (fun gk wr => ∃ y : Int, 1900 ≤ y ∧ y ≤ 2099 ∧ Cal.bef y ≤ n ∧ gk = (2099 - y).toNat ∧ wr = (w.alloc (.cells #[.int .i64 0, .int .i64 0, .int .i64 0] 56)).alloc (.cells #[.int .i64 y, .int .i64 1, .int .i64 0] 56))
  case atStart => exact ⟨1900 + n / 366, by omega, g2, g1, rfl, rfl⟩
  case round =>
    obtain ⟨y, hy1, hy2, hy3, rfl, rfl⟩ := hrel
    clear g1 g2
    by_cases hc : Cal.bef (y + 1) ≤ n
    · have hy4 := bef_lt n (y + 1) hc h2
      go_wp2_with (go_at_call 67; refine (before_any _ _ (by omega) (by omega)).mono ?_; rintro e w' ⟨rfl, rfl⟩)
      go_roundg (2099 - (y + 1)).toNat
      case rel => exact ⟨y + 1, by omega, by omega, hc, rfl, rfl⟩
      case measure => omega
    · have hs := Cal.bef_succ y
      have hb := bef_bd y hy1 (by omega)
      have hl := Cal.lp_01 y
      go_wp2_with (go_at_call 67; refine (before_any _ _ (by omega) (by omega)).mono ?_; rintro e w' ⟨rfl, rfl⟩)
      clear hs
      go_loopg [5] 12 (fun gk r wr => ∃ m : Int, 1 ≤ m ∧ m ≤ 12 ∧ gk = (13 - m).toNat ∧ r = .int .i64 (n - Cal.bef y - Cal.cum y m) ∧ 0 ≤ n - Cal.bef y - Cal.cum y m ∧ Blk wr (w.heap.size + 1) #[.int .i64 y, .int .i64 m, .int .i64 0] 56 ∧
          Blk wr w.heap.size #[.int .i64 0, .int .i64 0, .int .i64 0] 56 ∧ Below w.heap.size w wr)
      case atStart => exact ⟨1, by omega, by omega, rfl, by rw [Cal.cum_1]; simp, by rw [Cal.cum_1]; omega, by have := Blk.new (w.alloc (.cells #[.int .i64 0, .int .i64 0, .int .i64 0] 56)) #[.int .i64 y, .int .i64 1, .int .i64 0] 56; simpa using this, (Blk.new _ _ _).alloc _, ((Below.refl _ _).alloc (Nat.le_refl _) _).alloc (by simp) _⟩
      case round =>
        obtain ⟨m, hm1, hm2, rfl, rfl, hr, hD, hR, hB⟩ := hrel
        have hbd := Cal.cum_bd y m hm1 (by omega)
        have hn := Cal.len_bd y m
        obtain ⟨c0, c1, c2⟩ := hD.three
        have cf := hD.free
        have hl := Cal.lp_01 y
        have h13 := Cal.cum_mono y m 13 hm1 (by omega) (by omega)
        rw [Cal.cum_13] at h13
        by_cases hlt : Cal.len y m ≤ n - Cal.bef y - Cal.cum y m
        · have hm3 : m < 12 := by
            by_cases e : m = 12
            · subst e; have := Cal.cum_succ y 12 (by omega) (by omega); rw [show (12 : Int) + 1 = 13 from rfl, Cal.cum_13] at this; have := Cal.bef_succ y; omega
            · omega
          clear hc
          go_wp2_with (go_at_call 68; refine (lengthOf_any _ _ _ (by omega) (by omega) (by omega)).mono ?_; rintro e w' ⟨rfl, hB3⟩; have hD := hD.keep hB3; have hR := hR.keep hB3; have hB := below_up hB hB3; obtain ⟨c0, c1, c2⟩ := hD.three; have cf := hD.free)
          have hs := Cal.cum_succ y m hm1 (by omega)
          go_roundg (13 - (m + 1)).toNat
          case rel => exact ⟨m + 1, by omega, by omega, rfl, by rw [hs]; go_num, by rw [hs]; omega, by have := hD.set 1 (.int .i64 (m + 1)); simpa using this, hR.setOther (by simp) _, hB.setCell (by simp) _⟩
          case measure => omega
        · clear hc
          obtain ⟨r0, r1, r2⟩ := hR.three
          have rf := hR.free
          go_wp2_with (go_at_call 68; refine (lengthOf_any _ _ _ (by omega) (by omega) (by omega)).mono ?_; rintro e w' ⟨rfl, hB3⟩; have hD := hD.keep hB3; have hR := hR.keep hB3; have hB := below_up hB hB3; obtain ⟨c0, c1, c2⟩ := hD.three; have cf := hD.free; obtain ⟨r0, r1, r2⟩ := hR.three; have rf := hR.free)
          have hF := (((hR.setOther (a := ⟨w.heap.size + 1, 2, none⟩) (by simp) (.int .i64 (n - Cal.bef y - Cal.cum y m + 1))).set 0 (.int .i64 y)).set 1 (.int .i64 m)).set 2 (.int .i64 (n - Cal.bef y - Cal.cum y m + 1))
          obtain ⟨f0, f1, f2⟩ := Blk.three (by simpa using hF)
          refine bodyPost_ret (v := .tuple #[.agg #[.int .i64 y, .int .i64 m, .int .i64 (n - Cal.bef y - Cal.cum y m + 1)], .int .i64 0]) (by simp [results, Tryd.results31, go_sem, f0, f1, f2]) rfl ⟨y, m, _, ?_, ?_, rfl, ?_⟩
          · exact (Cal.vld_iff _ _ _).2 ⟨by omega, by omega, hm1, hm2, by omega, by omega⟩
          · unfold Cal.num; omega
          · exact (((hB.setCell (by simp) _).setCell (Nat.le_refl _) _).setCell (Nat.le_refl _) _).setCell (Nat.le_refl _) _
end Go.Proofs.YthldlffkgafgaaaDoor
