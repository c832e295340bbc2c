/- Lists of ids: listError, slices.Contains, slices.BinarySearch, contains, ContainsFunc with a closure that makes memory. -/
import Derived.Test.YtngbaljmlbdfkaaGreatDoorFdSmall
import Derived.Test.YtngbaljmlbdfkaaGreatDoorIdxFunc
import Derived.Lib.Walk
import Derived.Lib.SlicesSearch
namespace Go.Proofs.YtngbaljmlbdfkaaGreatDoor
open Go.RowKit Go.Sort Go.Shelf
set_option linter.unusedVariables false
namespace Fd
/-- Whether x is among the first n. -/
def hasB (f : Nat → Int) (n : Nat) (x : Int) : Bool := decide (∃ i, i < n ∧ f i = x)
theorem hasB_yes {f : Nat → Int} {n : Nat} {x : Int} (i : Nat) (h : i < n) (g : f i = x) : hasB f n x = true := decide_eq_true ⟨i, h, g⟩
theorem hasB_no {f : Nat → Int} {n : Nat} {x : Int} (h : ∀ i, i < n → f i ≠ x) : hasB f n x = false := decide_eq_false fun ⟨i, hi, g⟩ => h i hi g
theorem scan_zero {bad : Nat → Int} {n : Nat} (h : scan bad 0 n = 0) : ∀ i, i < n → bad i = 0 := by
  have : ∀ k j, scan bad j k = 0 → ∀ i, j ≤ i → i < j + k → bad i = 0 := by
    intro k
    induction k with
    | zero => intro j _ i h1 h2; omega
    | succ k ih =>
      intro j h i h1 h2
      by_cases hb : bad j = 0
      · rw [scan_ok hb] at h
        by_cases e : i = j
        · subst e; exact hb
        · exact ih (j + 1) h i (by omega) (by omega)
      · rw [scan_bad hb] at h; exact absurd h hb
  exact fun i hi => this n 0 h i (by omega) (by omega)
theorem pbad_zero {who : Nat → Int} {i : Nat} (h : pbad who i = 0) : (1 ≤ who i ∧ who i ≤ 1000000) ∧ (0 < i → who (i - 1) < who i) := by
  unfold pbad at h
  by_cases h1 : 1 ≤ who i ∧ who i ≤ 1000000
  · rw [if_pos h1] at h
    refine ⟨h1, fun h0 => ?_⟩
    rw [if_neg (by omega)] at h
    by_cases h2 : who i ≤ who (i - 1)
    · rw [if_pos h2] at h; cases h
    · omega
  · rw [if_neg h1] at h; cases h
theorem ids_grow {who : Nat → Int} {n : Nat} (h : scan (pbad who) 0 n = 0) : ∀ i, i < n → (i : Int) + 1 ≤ who i := by
  intro i
  induction i with
  | zero => intro hi; have := (pbad_zero (scan_zero h 0 hi)).1.1; omega
  | succ i ih =>
    intro hi
    have h1 := ih (by omega)
    have h2 := (pbad_zero (scan_zero h (i + 1) hi)).2 (by omega)
    rw [Nat.add_sub_cancel] at h2
    omega
theorem ids_size {who : Nat → Int} {n : Nat} (h : scan (pbad who) 0 n = 0) : n ≤ 1000000 := by
  rcases Nat.eq_zero_or_pos n with h0 | h0
  · omega
  · have h1 := ids_grow h (n - 1) (by omega)
    have h2 := (pbad_zero (scan_zero h (n - 1) (by omega))).1.2
    omega
theorem ids_rise {who : Nat → Int} {n : Nat} (h : scan (pbad who) 0 n = 0) : ∀ i j, i ≤ j → j < n → who i ≤ who j := by
  intro i j
  induction j with
  | zero => intro hi _; obtain rfl : i = 0 := by omega
            exact Int.le_refl _
  | succ j ih =>
    intro hi hj
    by_cases e : i = j + 1
    · subst e; exact Int.le_refl _
    · have h1 := ih (by omega) (by omega)
      have h2 := (pbad_zero (scan_zero h (j + 1) hj)).2 (by omega)
      rw [Nat.add_sub_cancel] at h2
      omega
end Fd
set_option maxHeartbeats 1000000 in
theorem index_is (a : Option Addr) (n ca : Nat) (f : Nat → Int) (x : Int) (w : World) (hr : Row w a n (fun i => .int .i64 (f i))) (hn : n ≤ 9223372036854775807) :
    Calls Tryz.prog 146 #[.slice a n ca, .int .i64 x] w fun e w' => (∃ r : Int, e = .returned (.int .i64 r) ∧ ((Fd.hasB f n x = true ∧ 0 ≤ r ∧ ∃ j : Nat, r = j ∧ j < n ∧ f j = x) ∨ (Fd.hasB f n x = false ∧ r = -1))) ∧ w = w' := by
  have HR := Lib.hid hr; clear hr
  go_enter Tryz.func146, Tryz.ntmps146
  go_wp2_with fail
  go_loopg [8] n (fun gk i wr => ∃ j : Nat, j ≤ n ∧ gk = n - j ∧ i = .int .i64 j ∧ (∀ k, k < j → f k ≠ x) ∧ w = wr)
  case atStart => exact ⟨0, by omega, rfl, rfl, fun k hk => by omega, rfl⟩
  case round =>
    obtain ⟨j, hj, rfl, rfl, hall, rfl⟩ := hrel
    have HALL := Lib.hid hall; clear hall
    by_cases hlt : j < n
    · obtain ⟨b, off, rfl, hb, hcell⟩ := HR.out (by omega)
      have c0 : w.cell? ⟨b, off + j, none⟩ = some (.int .i64 (f j)) := hcell j hlt
      clear hcell
      obtain ⟨y, hy⟩ : ∃ y, f j = y := ⟨_, rfl⟩
      rw [hy] at c0
      have HY := Lib.hid hy; clear hy
      by_cases he : x = y
      · have HE := Lib.hid he
        have he1 : (x == y) = true := by simpa using he
        clear he
        go_wp2_with fail
        go_ret
        exact ⟨⟨j, rfl, .inl ⟨Fd.hasB_yes j hlt (HY.out.trans HE.out.symm), by omega, j, rfl, hlt, HY.out.trans HE.out.symm⟩⟩, rfl⟩
      · have HE := Lib.hid he
        have he1 : (x == y) = false := by simpa using he
        clear he
        go_wp2_with fail
        go_roundg (n - (j + 1))
        case rel => exact ⟨j + 1, by omega, rfl, by go_num, fun k hk => by (by_cases e : k = j); (subst e; rw [HY.out]; exact fun g => HE.out g.symm); exact HALL.out k (by omega), rfl⟩
        case measure => omega
    · obtain rfl : j = n := by omega
      go_wp2_with fail
      go_ret
      exact ⟨⟨-1, rfl, .inr ⟨Fd.hasB_no HALL.out, rfl⟩⟩, rfl⟩
set_option maxHeartbeats 1000000 in
theorem contains_is (a : Option Addr) (n ca : Nat) (f : Nat → Int) (x : Int) (w : World) (hr : Row w a n (fun i => .int .i64 (f i))) (hn : n ≤ 9223372036854775807) :
    Calls Tryz.prog 114 #[.slice a n ca, .int .i64 x] w fun e w' => e = .returned (.bool (Fd.hasB f n x)) ∧ w = w' := by
  have HI := Lib.hid (index_is a n ca f x w hr hn)
  clear hr
  go_enter Tryz.func114, Tryz.ntmps114
  go_wp2_with (go_at_call 146; refine HI.out.mono ?_; rintro e w' ⟨⟨r, rfl, hr⟩, rfl⟩; have HR := Lib.hid hr; clear hr)
  go_ret
  refine ⟨ret_bool ?_, rfl⟩
  rcases HR.out with ⟨h, h0, _⟩ | ⟨h, rfl⟩
  · rw [h]; simpa using h0
  · rw [h]; rfl
set_option maxHeartbeats 1000000 in
theorem nanC_is (x : Int) (w : World) : Calls Tryz.prog 58 #[.int .i64 x] w fun e w' => e = .returned (.bool false) ∧ w = w' := by
  go_enter Tryz.func58, Tryz.ntmps58
  go_wp2
  go_ret
  exact ⟨by simp, rfl⟩
end Go.Proofs.YtngbaljmlbdfkaaGreatDoor
