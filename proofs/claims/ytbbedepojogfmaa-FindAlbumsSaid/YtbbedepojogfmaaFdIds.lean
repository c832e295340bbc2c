/- Lists of ids: listError, slices.Contains, slices.BinarySearch, contains, ContainsFunc with a closure that makes memory. -/
import Derived.Test.YtbbedepojogfmaaFdWords
import Derived.Test.YtbbedepojogfmaaIdxFunc
import Derived.Lib.Walk
import Derived.Lib.SlicesSearch
namespace Go.Proofs.Ytbbedepojogfmaa
open Go.RowKit Go.Sort Go.Shelf
set_option linter.unusedVariables false
namespace Fd
/-- Whether x is among the first n. -/
def hasB (f : Nat → Int) (n : Nat) (x : Int) : Bool := decide (∃ i, i < n ∧ f i = x)
theorem hasB_yes {f : Nat → Int} {n : Nat} {x : Int} (i : Nat) (h : i < n) (g : f i = x) : hasB f n x = true := decide_eq_true ⟨i, h, g⟩
theorem hasB_no {f : Nat → Int} {n : Nat} {x : Int} (h : ∀ i, i < n → f i ≠ x) : hasB f n x = false := decide_eq_false fun ⟨i, hi, g⟩ => h i hi g
theorem scan_zero {bad : Nat → Int} {n : Nat} (h : scan bad 0 n = 0) : ∀ i, i < n → bad i = 0 := by
  have : ∀ k j, scan bad j k = 0 → ∀ i, j ≤ i → i < j + k → bad i = 0 := by
    intro k
    induction k with
    | zero => intro j _ i h1 h2; omega
    | succ k ih =>
      intro j h i h1 h2
      by_cases hb : bad j = 0
      · rw [scan_ok hb] at h
        by_cases e : i = j
        · subst e; exact hb
        · exact ih (j + 1) h i (by omega) (by omega)
      · rw [scan_bad hb] at h; exact absurd h hb
  exact fun i hi => this n 0 h i (by omega) (by omega)
theorem pbad_zero {who : Nat → Int} {i : Nat} (h : pbad who i = 0) : (1 ≤ who i ∧ who i ≤ 1000000) ∧ (0 < i → who (i - 1) < who i) := by
  unfold pbad at h
  by_cases h1 : 1 ≤ who i ∧ who i ≤ 1000000
  · rw [if_pos h1] at h
    refine ⟨h1, fun h0 => ?_⟩
    rw [if_neg (by omega)] at h
    by_cases h2 : who i ≤ who (i - 1)
    · rw [if_pos h2] at h; cases h
    · omega
  · rw [if_neg h1] at h; cases h
theorem ids_grow {who : Nat → Int} {n : Nat} (h : scan (pbad who) 0 n = 0) : ∀ i, i < n → (i : Int) + 1 ≤ who i := by
  intro i
  induction i with
  | zero => intro hi; have := (pbad_zero (scan_zero h 0 hi)).1.1; omega
  | succ i ih =>
    intro hi
    have h1 := ih (by omega)
    have h2 := (pbad_zero (scan_zero h (i + 1) hi)).2 (by omega)
    rw [Nat.add_sub_cancel] at h2
    omega
theorem ids_size {who : Nat → Int} {n : Nat} (h : scan (pbad who) 0 n = 0) : n ≤ 1000000 := by
  rcases Nat.eq_zero_or_pos n with h0 | h0
  · omega
  · have h1 := ids_grow h (n - 1) (by omega)
    have h2 := (pbad_zero (scan_zero h (n - 1) (by omega))).1.2
    omega
theorem ids_rise {who : Nat → Int} {n : Nat} (h : scan (pbad who) 0 n = 0) : ∀ i j, i ≤ j → j < n → who i ≤ who j := by
  intro i j
  induction j with
  | zero => intro hi _; obtain rfl : i = 0 := by omega
            exact Int.le_refl _
  | succ j ih =>
    intro hi hj
    by_cases e : i = j + 1
    · subst e; exact Int.le_refl _
    · have h1 := ih (by omega) (by omega)
      have h2 := (pbad_zero (scan_zero h (j + 1) hj)).2 (by omega)
      rw [Nat.add_sub_cancel] at h2
      omega
end Fd
set_option maxRecDepth 100000 in
set_option maxHeartbeats 2000000 in
theorem listError_is (a : Option Addr) (n ca : Nat) (who : Nat → Int) (w : World) (hr : Row w a n (fun i => .int .i64 (who i))) (hn : n ≤ 9223372036854775807) :
    Calls Try.prog 104 #[.slice a n ca] w fun e w' => e = .returned (.int .i64 (Fd.scan (Fd.pbad who) 0 n)) ∧ w = w' := by
  obtain ⟨q, hq⟩ : ∃ q, Fd.scan (Fd.pbad who) 0 n = q := ⟨_, rfl⟩
  rw [hq]
  have HR := Lib.hid hr; have HQ := Lib.hid hq; clear hr hq
  go_enter Try.func104, Try.ntmps104
  go_wp2_with fail
  go_loopg [7] n (fun gk i wr => ∃ j : Nat, j ≤ n ∧ gk = n - j ∧ i = .int .i64 j ∧ Fd.scan (Fd.pbad who) j (n - j) = q ∧ w = wr)
  case atStart => exact ⟨0, by omega, rfl, rfl, HQ.out, rfl⟩
  case round =>
    obtain ⟨j, hj, rfl, rfl, hsc, rfl⟩ := hrel
    have HSC := Lib.hid hsc; clear hsc
    by_cases hlt : j < n
    · obtain ⟨b, off, rfl, hb, hcell⟩ := HR.out (by omega)
      have c0 : w.cell? ⟨b, off + j, none⟩ = some (.int .i64 (who j)) := hcell j hlt
      have hcell : ∀ i, i < n → w.cell? ⟨b, off + i, none⟩ = some (.int .i64 (who i)) := hcell
      have HC := Lib.hid hcell
      clear hcell
      have hcell := HC.out
      -- a round over the people; R.in: the function that asks; in_is: its contract; rfl: the world's fact at the end
      cases hin : decide (1 ≤ who j ∧ who j ≤ 1000000)
      · have HIN := Lib.hid hin
        have HBAD := Lib.hid (id (Fd.scan_here HSC.out hlt (Fd.pbad_out hin) (by omega)))
        clear hin
        go_wp2_with (go_at_call 64; (with_reducible refine (in_is (who j) 1 1000000 false HIN.out _).mono ?_); rintro e w2 ⟨rfl, rfl⟩)
        go_ret
        exact ⟨ret_int HBAD.out, rfl⟩
      · have HIN := Lib.hid hin
        by_cases hj0 : j = 0
        · have hj0' : decide ((0 : Int) < (j : Int)) = false := by simpa using hj0
          have hj0'' : ((0 : Int) < (j : Int)) = False := by simpa using hj0
          have hj0n : (0 < j) = False := by simpa using hj0
          have HBAD := Lib.hid (Fd.scan_next HSC.out hlt (Fd.pbad_first hin hj0))
          clear hin hj0
          go_wp2_with (go_at_call 64; (with_reducible refine (in_is (who j) 1 1000000 true HIN.out _).mono ?_); rintro e w2 ⟨rfl, rfl⟩)
          go_roundg (n - (j + 1))
          case rel => exact ⟨j + 1, by omega, rfl, by go_num, HBAD.out, rfl⟩
          case measure => omega
        · have hj1 : 1 ≤ j := by omega
          have hj0' : decide ((0 : Int) < (j : Int)) = true := by simp; omega
          have hj0n : 0 < j := by omega
          have d0 := hcell (j - 1) (by omega)
          have hi0 : (0 : Int) ≤ (j : Int) - 1 := by omega
          have hi1 : (j : Int) - 1 < (n : Int) := by omega
          by_cases ho : who j ≤ who (j - 1)
          · have HBAD := Lib.hid (id (Fd.scan_here HSC.out hlt (Fd.pbad_ord hin hj0 ho) (by omega)))
            clear hin hj0
            go_wp2_with (go_at_call 64; (with_reducible refine (in_is (who j) 1 1000000 true HIN.out _).mono ?_); rintro e w2 ⟨rfl, rfl⟩)
            go_ret
            exact ⟨ret_int HBAD.out, rfl⟩
          · have HBAD := Lib.hid (Fd.scan_next HSC.out hlt (Fd.pbad_ok hin hj0 ho))
            have ho' : who (j - 1) < who j := by omega
            clear hin hj0 ho
            go_wp2_with (go_at_call 64; (with_reducible refine (in_is (who j) 1 1000000 true HIN.out _).mono ?_); rintro e w2 ⟨rfl, rfl⟩)
            go_roundg (n - (j + 1))
            case rel => exact ⟨j + 1, by omega, rfl, by go_num, HBAD.out, rfl⟩
            case measure => omega
    · obtain rfl : j = n := by omega
      go_wp2_with fail
      go_ret
      exact ⟨ret_int (Fd.scan_end HSC.out).symm, rfl⟩
set_option maxHeartbeats 1000000 in
theorem index_is (a : Option Addr) (n ca : Nat) (f : Nat → Int) (x : Int) (w : World) (hr : Row w a n (fun i => .int .i64 (f i))) (hn : n ≤ 9223372036854775807) :
    Calls Try.prog 35 #[.slice a n ca, .int .i64 x] w fun e w' => (∃ r : Int, e = .returned (.int .i64 r) ∧ ((Fd.hasB f n x = true ∧ 0 ≤ r) ∨ (Fd.hasB f n x = false ∧ r = -1))) ∧ w = w' := by
  have HR := Lib.hid hr; clear hr
  go_enter Try.func35, Try.ntmps35
  go_wp2_with fail
  go_loopg [8] n (fun gk i wr => ∃ j : Nat, j ≤ n ∧ gk = n - j ∧ i = .int .i64 j ∧ (∀ k, k < j → f k ≠ x) ∧ w = wr)
  case atStart => exact ⟨0, by omega, rfl, rfl, fun k hk => by omega, rfl⟩
  case round =>
    obtain ⟨j, hj, rfl, rfl, hall, rfl⟩ := hrel
    have HALL := Lib.hid hall; clear hall
    by_cases hlt : j < n
    · obtain ⟨b, off, rfl, hb, hcell⟩ := HR.out (by omega)
      have c0 : w.cell? ⟨b, off + j, none⟩ = some (.int .i64 (f j)) := hcell j hlt
      clear hcell
      obtain ⟨y, hy⟩ : ∃ y, f j = y := ⟨_, rfl⟩
      rw [hy] at c0
      have HY := Lib.hid hy; clear hy
      by_cases he : x = y
      · have HE := Lib.hid he
        have he1 : (x == y) = true := by simpa using he
        clear he
        go_wp2_with fail
        go_ret
        exact ⟨⟨j, rfl, .inl ⟨Fd.hasB_yes j hlt (HY.out.trans HE.out.symm), by omega⟩⟩, rfl⟩
      · have HE := Lib.hid he
        have he1 : (x == y) = false := by simpa using he
        clear he
        go_wp2_with fail
        go_roundg (n - (j + 1))
        case rel => exact ⟨j + 1, by omega, rfl, by go_num, fun k hk => by (by_cases e : k = j); (subst e; rw [HY.out]; exact fun g => HE.out g.symm); exact HALL.out k (by omega), rfl⟩
        case measure => omega
    · obtain rfl : j = n := by omega
      go_wp2_with fail
      go_ret
      exact ⟨⟨-1, rfl, .inr ⟨Fd.hasB_no HALL.out, rfl⟩⟩, rfl⟩
set_option maxHeartbeats 1000000 in
theorem contains_is (a : Option Addr) (n ca : Nat) (f : Nat → Int) (x : Int) (w : World) (hr : Row w a n (fun i => .int .i64 (f i))) (hn : n ≤ 9223372036854775807) :
    Calls Try.prog 105 #[.slice a n ca, .int .i64 x] w fun e w' => e = .returned (.bool (Fd.hasB f n x)) ∧ w = w' := by
  have HI := Lib.hid (index_is a n ca f x w hr hn)
  clear hr
  go_enter Try.func105, Try.ntmps105
  go_wp2_with (go_at_call 35; refine HI.out.mono ?_; rintro e w' ⟨⟨r, rfl, hr⟩, rfl⟩; have HR := Lib.hid hr; clear hr)
  go_ret
  refine ⟨ret_bool ?_, rfl⟩
  rcases HR.out with ⟨h, h0⟩ | ⟨h, rfl⟩
  · rw [h]; simpa using h0
  · rw [h]; rfl
set_option maxHeartbeats 1000000 in
theorem nanC_is (x : Int) (w : World) : Calls Try.prog 142 #[.int .i64 x] w fun e w' => e = .returned (.bool false) ∧ w = w' := by
  go_enter Try.func142, Try.ntmps142
  go_wp2
  go_ret
  exact ⟨by simp, rfl⟩
set_option maxHeartbeats 1000000 in
theorem nanS_is (x : Int) (w : World) : Calls Try.prog 150 #[.int .i64 x] w fun e w' => e = .returned (.bool false) ∧ w = w' := by
  go_enter Try.func150, Try.ntmps150
  go_wp2
  go_ret
  exact ⟨by simp, rfl⟩
set_option maxHeartbeats 1000000 in
theorem less_is (x y : Int) (w : World) : Calls Try.prog 114 #[.int .i64 x, .int .i64 y] w fun e w' => e = .returned (.bool (decide (x < y))) ∧ w = w' := by
  go_enter Try.func114, Try.ntmps114
  go_wp2_with (go_at_call 142; refine (nanC_is _ _).mono ?_; rintro e w' ⟨rfl, rfl⟩)
  go_ret
  exact ⟨rfl, rfl⟩
set_option maxRecDepth 100000 in
set_option maxHeartbeats 4000000 in
theorem bsearch_is (a : Option Addr) (n ca : Nat) (f : Nat → Int) (x : Int) (w : World) (hr : Row w a n (fun i => .int .i64 (f i))) (hn : n ≤ 1000000) (hs : ∀ i j, i ≤ j → j < n → f i ≤ f j) :
    Calls Try.prog 132 #[.slice a n ca, .int .i64 x] w fun e w' => (∃ r : Int, e = .returned (.tuple #[.int .i64 r, .bool (Fd.hasB f n x)])) ∧ w = w' := by
  have HR := Lib.hid hr; have HS := Lib.hid hs; clear hr hs
  go_enter Try.func132, Try.ntmps132
  go_wp2_with fail
  go_loopg [7, 8] n (fun g s7 s8 wr => ∃ lo hi : Nat, s7 = .int .i64 lo ∧ s8 = .int .i64 hi ∧ lo ≤ hi ∧ hi ≤ n ∧ g = hi - lo ∧ w = wr ∧ (∀ t, t < lo → f t < x) ∧ (∀ t, hi ≤ t → t < n → x ≤ f t))
  case atStart => exact ⟨0, n, rfl, rfl, Nat.zero_le _, Nat.le_refl _, rfl, rfl, fun t ht => absurd ht (Nat.not_lt_zero _), fun t h1 h2 => by omega⟩
  case round =>
    obtain ⟨lo, hi, rfl, rfl, hlh, hin, rfl, rfl, h1, h2⟩ := hrel
    have I1 := Lib.hid h1; have I2 := Lib.hid h2
    clear h1 h2
    by_cases hlt : lo < hi
    · obtain ⟨b, off, rfl, hb, hcell⟩ := HR.out (by omega)
      have cm : w.cell? ⟨b, off + (lo + hi) / 2, none⟩ = some (.int .i64 (f ((lo + hi) / 2))) := hcell _ (by omega)
      clear hcell
      obtain ⟨y, hy⟩ : ∃ y, f ((lo + hi) / 2) = y := ⟨_, rfl⟩
      rw [hy] at cm
      have HY := Lib.hid hy; clear hy
      by_cases hyx : y < x
      · go_wp2_with (first | (go_at_call 114; refine (less_is _ _ _).mono ?_; rintro e w' ⟨rfl, rfl⟩) | (go_at_call 150; refine (nanS_is _ _).mono ?_; rintro e w' ⟨rfl, rfl⟩))
        go_roundg (hi - ((lo + hi) / 2 + 1))
        case measure => omega
        case rel =>
          refine ⟨(lo + hi) / 2 + 1, hi, by rw [show ((lo : Int) + (hi : Int)) / 2 + 1 = (((lo + hi) / 2 + 1 : Nat) : Int) by omega], rfl, by omega, hin, rfl, rfl, fun t ht => ?_, I2.out⟩
          have := HS.out t ((lo + hi) / 2) (by omega) (by omega)
          rw [HY.out] at this
          omega
      · go_wp2_with (first | (go_at_call 114; refine (less_is _ _ _).mono ?_; rintro e w' ⟨rfl, rfl⟩) | (go_at_call 150; refine (nanS_is _ _).mono ?_; rintro e w' ⟨rfl, rfl⟩))
        go_roundg ((lo + hi) / 2 - lo)
        case measure => omega
        case rel =>
          refine ⟨lo, (lo + hi) / 2, rfl, by rw [show ((lo : Int) + (hi : Int)) / 2 = (((lo + hi) / 2 : Nat) : Int) by omega], by omega, by omega, rfl, rfl, I1.out, fun t ht htn => ?_⟩
          have := HS.out ((lo + hi) / 2) t ht htn
          rw [HY.out] at this
          omega
    · have : hi = lo := by omega
      subst this
      by_cases hnn : hi < n
      · obtain ⟨b, off, rfl, hb, hcell⟩ := HR.out (by omega)
        have cl : w.cell? ⟨b, off + hi, none⟩ = some (.int .i64 (f hi)) := hcell _ hnn
        clear hcell
        obtain ⟨y, hy⟩ : ∃ y, f hi = y := ⟨_, rfl⟩
        rw [hy] at cl
        have HY := Lib.hid hy; clear hy
        by_cases hyx : y = x
        · have HV : Hid (Fd.hasB f n x = true) := Lib.hid (Fd.hasB_yes hi hnn (HY.out.trans hyx))
          go_wp2_with (first | (go_at_call 114; refine (less_is _ _ _).mono ?_; rintro e w' ⟨rfl, rfl⟩) | (go_at_call 150; refine (nanS_is _ _).mono ?_; rintro e w' ⟨rfl, rfl⟩))
          go_ret2
          refine ⟨⟨(hi : Int), ?_⟩, rfl⟩
          rw [HV.out]
          first | rfl | simp [*]
        · have HV : Hid (Fd.hasB f n x = false) := Lib.hid (Fd.hasB_no fun i hi2 e => by
            by_cases c : i < hi
            · have := I1.out i c; omega
            · by_cases c2 : i = hi
              · subst c2; exact hyx (HY.out.symm.trans e)
              · have h3 := I2.out hi (Nat.le_refl _) hnn
                have h4 := HS.out hi i (by omega) hi2
                rw [HY.out] at h3 h4
                omega)
          go_wp2_with (first | (go_at_call 114; refine (less_is _ _ _).mono ?_; rintro e w' ⟨rfl, rfl⟩) | (go_at_call 150; refine (nanS_is _ _).mono ?_; rintro e w' ⟨rfl, rfl⟩))
          go_ret2
          refine ⟨⟨(hi : Int), ?_⟩, rfl⟩
          rw [HV.out]
          first | rfl | simp [*]
      · obtain rfl : n = hi := by omega
        have HV : Hid (Fd.hasB f n x = false) := Lib.hid (Fd.hasB_no fun i hi e => by have := I1.out i hi; omega)
        go_wp2_with (first | (go_at_call 114; refine (less_is _ _ _).mono ?_; rintro e w' ⟨rfl, rfl⟩) | (go_at_call 150; refine (nanS_is _ _).mono ?_; rintro e w' ⟨rfl, rfl⟩))
        go_ret2
        first | refine ⟨⟨(n : Int), ?_⟩, rfl⟩ | refine ⟨⟨(hi : Int), ?_⟩, rfl⟩
        rw [HV.out]
        first | rfl | simp [*]
set_option maxHeartbeats 1000000 in
theorem containsF_is (a : Option Addr) (n ca : Nat) (f : Nat → Int) (x : Int) (w : World) (hr : Row w a n (fun i => .int .i64 (f i))) (hs : Fd.scan (Fd.pbad f) 0 n = 0) :
    Calls Try.prog 101 #[.slice a n ca, .int .i64 x] w fun e w' => e = .returned (.bool (Fd.hasB f n x)) ∧ w = w' := by
  have HI := Lib.hid (bsearch_is a n ca f x w hr (Fd.ids_size hs) (Fd.ids_rise hs))
  clear hr hs
  go_enter Try.func101, Try.ntmps101
  go_wp2_with (go_at_call 132; refine HI.out.mono ?_; rintro e w' ⟨⟨r, rfl⟩, rfl⟩)
  go_ret
  exact ⟨rfl, rfl⟩
end Go.Proofs.Ytbbedepojogfmaa
