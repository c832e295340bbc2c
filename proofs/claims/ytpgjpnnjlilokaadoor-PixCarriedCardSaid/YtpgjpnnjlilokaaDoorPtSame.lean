/- slices.Equal of bytes, SameImage and Same, of whatever length. -/
import Derived.Test.YtpgjpnnjlilokaaDoorPixImg
namespace Go.Proofs.YtpgjpnnjlilokaaDoor
open Go.RowKit Go.Sort
set_option linter.unusedVariables false
set_option maxHeartbeats 1000000 in
theorem equal_sameB (a a2 : Option Addr) (n ca ca2 : Nat) (f : Nat → Int) (w : World) (h1 : Bytes w a n f) (h2 : Bytes w a2 n f) (hn : n ≤ 9223372036854775807) (hca : n ≤ ca) (hca2 : n ≤ ca2) :
    Calls Tryd.prog 21 #[.slice a n ca, .slice a2 n ca2] w fun e w' => e = .returned (.bool true) ∧ Below w.heap.size w w' := by
  obtain ⟨wo, hwo⟩ : ∃ wo : World, wo = w := ⟨_, rfl⟩
  have HA := Lib.hid h1; have HB := Lib.hid h2; clear h1 h2
  go_enter Tryd.func21, Tryd.ntmps21
  go_wp2_with fail
  go_loopg [13] n (fun gk i wr => ∃ j : Nat, j ≤ n ∧ gk = n - j ∧ i = .int .i64 j ∧ Below wo.heap.size wo wr)
  case atStart => exact ⟨0, by omega, rfl, rfl, by rw [hwo]; exact Below.refl _ _⟩
  case round =>
    obtain ⟨j, hj, rfl, rfl, hB⟩ := hrel
    by_cases hlt : j < n
    · obtain ⟨b1, o1, rfl, hb1, hc1⟩ := (HA.out.keep (by rw [← hwo]; exact hB)) (by omega)
      obtain ⟨b2, o2, rfl, hb2, hc2⟩ := (HB.out.keep (by rw [← hwo]; exact hB)) (by omega)
      have e1 := hc1 j hlt
      have e2 := hc2 j hlt
      clear hc1 hc2
      go_wp2_with fail
      go_quiet (fail)
      go_wp2_with fail
      go_roundg (n - (j + 1))
      case rel => exact ⟨j + 1, by omega, rfl, by go_num, below_drewN hB _⟩
      case measure => omega
    · obtain rfl : j = n := by omega
      go_wp2_with fail
      go_ret
      exact ⟨rfl, by rw [← hwo]; exact hB⟩
theorem equal_lenB (a a2 : Option Addr) (n m ca ca2 : Nat) (w : World) (hne : n ≠ m) :
    Calls Tryd.prog 21 #[.slice a n ca, .slice a2 m ca2] w fun e w' => e = .returned (.bool false) ∧ Below w.heap.size w w' := by
  have h1 : ((n : Int) == (m : Int)) = false := by simp; omega
  have h2 : ((n : Int) != (m : Int)) = true := by simp; omega
  have h3 : ¬ (n : Int) = (m : Int) := by omega
  clear hne
  go_enter Tryd.func21, Tryd.ntmps21
  go_wp2_with fail
  go_ret
  exact ⟨rfl, Below.refl _ _⟩
set_option maxHeartbeats 1000000 in
theorem equal_diffB (a a2 : Option Addr) (n ca ca2 : Nat) (f g : Nat → Int) (w : World) (h1 : Bytes w a n f) (h2 : Bytes w a2 n g) (hn : n ≤ 9223372036854775807) (k : Nat) (hk : k < n) (hne : f k ≠ g k) (heq : ∀ i, i < k → f i = g i) :
    Calls Tryd.prog 21 #[.slice a n ca, .slice a2 n ca2] w fun e w' => e = .returned (.bool false) ∧ Below w.heap.size w w' := by
  obtain ⟨wo, hwo⟩ : ∃ wo : World, wo = w := ⟨_, rfl⟩
  have HA := Lib.hid h1; have HB := Lib.hid h2; have HNE := Lib.hid hne; have HEQ := Lib.hid heq; clear h1 h2 hne heq
  go_enter Tryd.func21, Tryd.ntmps21
  go_wp2_with fail
  go_loopg [13] n (fun gk i wr => ∃ j : Nat, j ≤ k ∧ gk = n - j ∧ i = .int .i64 j ∧ Below wo.heap.size wo wr)
  case atStart => exact ⟨0, by omega, rfl, rfl, by rw [hwo]; exact Below.refl _ _⟩
  case round =>
    obtain ⟨j, hj, rfl, rfl, hB⟩ := hrel
    obtain ⟨b1, o1, rfl, hb1, hc1⟩ := (HA.out.keep (by rw [← hwo]; exact hB)) (by omega)
    obtain ⟨b2, o2, rfl, hb2, hc2⟩ := (HB.out.keep (by rw [← hwo]; exact hB)) (by omega)
    have e1 : wr.cell? ⟨b1, o1 + j, none⟩ = some (.int .u8 (f j)) := hc1 j (by omega)
    have e2 : wr.cell? ⟨b2, o2 + j, none⟩ = some (.int .u8 (g j)) := hc2 j (by omega)
    have hjn : j < n := by omega
    clear hc1 hc2
    by_cases hlt : j < k
    · rw [HEQ.out j hlt] at e1
      generalize g j = v at *
      go_wp2_with fail
      go_quiet (fail)
      go_wp2_with fail
      go_roundg (n - (j + 1))
      case rel => exact ⟨j + 1, by omega, rfl, by go_num, below_drewN hB _⟩
      case measure => omega
    · obtain rfl : j = k := by omega
      have n1 : (f j == g j) = false := by simpa using HNE.out
      have n2 : (f j != g j) = true := by simpa using HNE.out
      have n3 : ¬ f j = g j := HNE.out
      generalize f j = v1 at *
      generalize g j = v2 at *
      go_wp2_with fail
      go_quiet (fail)
      go_wp2_with fail
      go_ret
      exact ⟨rfl, by rw [← hwo]; exact below_drewN hB _⟩
theorem equal_anyB (a a2 : Option Addr) (n m ca ca2 : Nat) (f g : Nat → Int) (w : World) (h1 : Bytes w a n f) (h2 : Bytes w a2 m g) (hn : n ≤ 9223372036854775807) (hca : n ≤ ca) (hca2 : m ≤ ca2) :
    Calls Tryd.prog 21 #[.slice a n ca, .slice a2 m ca2] w fun e w' => e = .returned (.bool (decide (n = m ∧ ∀ i, i < n → f i = g i))) ∧ Below w.heap.size w w' := by
  by_cases e : n = m
  · subst e
    by_cases h : ∀ i, i < n → f i = g i
    · rw [decide_eq_true ⟨rfl, h⟩]
      exact equal_sameB a a2 n ca ca2 g w (h1.congr h) h2 hn hca hca2
    · rw [decide_eq_false (fun hh => h hh.2)]
      obtain ⟨j, hj, hne, hlt⟩ := not_same_first h
      exact equal_diffB a a2 n ca ca2 f g w h1 h2 hn j hj hne hlt
  · rw [decide_eq_false (fun hh => e hh.1)]
    exact equal_lenB a a2 n m ca ca2 w e
set_option maxHeartbeats 1000000 in
theorem sameImage_anyB (W H W' H' : Int) (a a2 : Option Addr) (n m ca ca2 : Nat) (f g : Nat → Int) (w : World) (h1 : Bytes w a n f) (h2 : Bytes w a2 m g) (hn : n ≤ 9223372036854775807) (hca : n ≤ ca) (hca2 : m ≤ ca2) :
    Calls Tryd.prog 10 #[.agg #[.int .i64 W, .int .i64 H, .slice a n ca], .agg #[.int .i64 W', .int .i64 H', .slice a2 m ca2]] w fun e w' => e = .returned (.bool (Im.eqB W H n f W' H' m g)) ∧ Below w.heap.size w w' := by
-- R.SameImage: the function
  have HE := Lib.hid (fun V (hV : Below w.heap.size w V) => equal_anyB a a2 n m ca ca2 f g V (h1.keep hV) (h2.keep hV) hn hca hca2)
  clear h1 h2
  obtain ⟨q, hq⟩ : ∃ q, Im.eqB W H n f W' H' m g = q := ⟨_, rfl⟩
  rw [hq]
  by_cases c1 : W = W'
  · by_cases c2 : H = H'
    · have e1 : (W == W') = true := by simpa using c1
      have e2 : (H == H') = true := by simpa using c2
      have HQ : Hid (decide (n = m ∧ ∀ i, i < n → f i = g i) = q) := by
        rw [← hq]; unfold Im.eqB; simp [Hid, c1, c2]
      clear hq
      subst c1 c2
      go_enter Tryd.func10, Tryd.ntmps10
      go_wp2_with (go_at_call 21; refine (HE.out _ (below_allocs (below_allocs (Below.refl _ _) _) _)).mono ?_; rw [HQ.out]; rintro e w' ⟨rfl, hB⟩)
      go_ret
      exact ⟨rfl, below_up (below_allocs (below_allocs (Below.refl _ _) _) _) hB⟩
    · have e1 : (W == W') = true := by simpa using c1
      have e2 : (H == H') = false := by simpa using c2
      have HQ : Hid (false = q) := by
        rw [← hq]; unfold Im.eqB; simp [Hid, c2]
      clear hq
      subst c1
      go_enter Tryd.func10, Tryd.ntmps10
      go_wp2_with fail
      go_ret
      exact ⟨ret_bool HQ.out, below_allocs (below_allocs (Below.refl _ _) _) _⟩
  · have e1 : (W == W') = false := by simpa using c1
    have HQ : Hid (false = q) := by
      rw [← hq]; unfold Im.eqB; simp [Hid, c1]
    clear hq
    go_enter Tryd.func10, Tryd.ntmps10
    go_wp2_with fail
    go_ret
    exact ⟨ret_bool HQ.out, below_allocs (below_allocs (Below.refl _ _) _) _⟩
set_option maxHeartbeats 1000000 in
theorem same_anyB (W H W' H' : Int) (a a2 : Option Addr) (n m ca ca2 : Nat) (f g : Nat → Int) (w : World) (h1 : Bytes w a n f) (h2 : Bytes w a2 m g) (hn : n ≤ 9223372036854775807) (hca : n ≤ ca) (hca2 : m ≤ ca2) :
    Calls Tryd.prog 9 #[.agg #[.int .i64 W, .int .i64 H, .slice a n ca], .agg #[.int .i64 W', .int .i64 H', .slice a2 m ca2]] w fun e w' => e = .returned (.bool (Im.eqB W H n f W' H' m g)) ∧ Below w.heap.size w w' := by
-- p.Same: the function
  have HE := Lib.hid (fun V (hV : Below w.heap.size w V) => equal_anyB a a2 n m ca ca2 f g V (h1.keep hV) (h2.keep hV) hn hca hca2)
  clear h1 h2
  obtain ⟨q, hq⟩ : ∃ q, Im.eqB W H n f W' H' m g = q := ⟨_, rfl⟩
  rw [hq]
  by_cases c1 : W = W'
  · by_cases c2 : H = H'
    · have e1 : (W == W') = true := by simpa using c1
      have e2 : (H == H') = true := by simpa using c2
      have HQ : Hid (decide (n = m ∧ ∀ i, i < n → f i = g i) = q) := by
        rw [← hq]; unfold Im.eqB; simp [Hid, c1, c2]
      clear hq
      subst c1 c2
      go_enter Tryd.func9, Tryd.ntmps9
      go_wp2_with (go_at_call 21; refine (HE.out _ (below_allocs (below_allocs (Below.refl _ _) _) _)).mono ?_; rw [HQ.out]; rintro e w' ⟨rfl, hB⟩)
      go_ret
      exact ⟨rfl, below_up (below_allocs (below_allocs (Below.refl _ _) _) _) hB⟩
    · have e1 : (W == W') = true := by simpa using c1
      have e2 : (H == H') = false := by simpa using c2
      have HQ : Hid (false = q) := by
        rw [← hq]; unfold Im.eqB; simp [Hid, c2]
      clear hq
      subst c1
      go_enter Tryd.func9, Tryd.ntmps9
      go_wp2_with fail
      go_ret
      exact ⟨ret_bool HQ.out, below_allocs (below_allocs (Below.refl _ _) _) _⟩
  · have e1 : (W == W') = false := by simpa using c1
    have HQ : Hid (false = q) := by
      rw [← hq]; unfold Im.eqB; simp [Hid, c1]
    clear hq
    go_enter Tryd.func9, Tryd.ntmps9
    go_wp2_with fail
    go_ret
    exact ⟨ret_bool HQ.out, below_allocs (below_allocs (Below.refl _ _) _) _⟩
end Go.Proofs.YtpgjpnnjlilokaaDoor
