/- Plain mathematics of clocks: pairs of a shown and a true moment; what was meant; that it rises. -/
import Derived.Test.YthldlffkgafgaaaDoorEventsMath
namespace Go.Proofs.YthldlffkgafgaaaDoor.Ck
/-- Pair i's error behind the first i, which are right. -/
def bad (S T : Nat → Int) (i : Nat) : Int :=
  if Ev.mom (S i) = true ∧ Ev.mom (T i) = true then
    (if i = 0 then 0 else if S i ≤ S (i - 1) ∨ T i ≤ T (i - 1) then 5 else if 1000000000 < S i - S (i - 1) ∨ 1000000000 < T i - T (i - 1) then 2 else 0)
  else 2
theorem bad_mom {S T : Nat → Int} {i : Nat} (h : Ev.mom (S i) = false ∨ Ev.mom (T i) = false) : bad S T i = 2 := by
  unfold bad; rw [if_neg]; rintro ⟨h1, h2⟩; rw [h1, h2] at h; simp at h
theorem bad_first {S T : Nat → Int} {i : Nat} (h1 : Ev.mom (S i) = true) (h2 : Ev.mom (T i) = true) (h : i = 0) : bad S T i = 0 := by
  unfold bad; rw [if_pos ⟨h1, h2⟩, if_pos h]
theorem bad_ord {S T : Nat → Int} {i : Nat} (h1 : Ev.mom (S i) = true) (h2 : Ev.mom (T i) = true) (h0 : i ≠ 0) (h : S i ≤ S (i - 1) ∨ T i ≤ T (i - 1)) : bad S T i = 5 := by
  unfold bad; rw [if_pos ⟨h1, h2⟩, if_neg h0, if_pos h]
theorem bad_far {S T : Nat → Int} {i : Nat} (h1 : Ev.mom (S i) = true) (h2 : Ev.mom (T i) = true) (h0 : i ≠ 0) (hs : S (i - 1) < S i) (ht : T (i - 1) < T i) (h : 1000000000 < S i - S (i - 1) ∨ 1000000000 < T i - T (i - 1)) : bad S T i = 2 := by
  unfold bad; rw [if_pos ⟨h1, h2⟩, if_neg h0, if_neg (by omega), if_pos h]
theorem bad_ok {S T : Nat → Int} {i : Nat} (h1 : Ev.mom (S i) = true) (h2 : Ev.mom (T i) = true) (h0 : i ≠ 0) (hs : S (i - 1) < S i) (ht : T (i - 1) < T i) (h3 : S i - S (i - 1) ≤ 1000000000) (h4 : T i - T (i - 1) ≤ 1000000000) : bad S T i = 0 := by
  unfold bad; rw [if_pos ⟨h1, h2⟩, if_neg h0, if_neg (by omega), if_neg (by omega)]
/-- The first error among the pairs i, i + 1 .. i + k - 1. -/
def scan (S T : Nat → Int) : Nat → Nat → Int
  | _, 0 => 0
  | i, k + 1 => if bad S T i = 0 then scan S T (i + 1) k else bad S T i
def err (S T : Nat → Int) (n : Nat) : Int := if n = 0 then 7 else if 100 < n then 4 else scan S T 0 n
theorem scan_ok {S T : Nat → Int} {i k : Nat} (h : bad S T i = 0) : scan S T i (k + 1) = scan S T (i + 1) k := by rw [scan, if_pos h]
theorem scan_bad {S T : Nat → Int} {i k : Nat} (h : bad S T i ≠ 0) : scan S T i (k + 1) = bad S T i := by rw [scan, if_neg h]
theorem scan_zero {S T : Nat → Int} (k : Nat) : ∀ i, scan S T i k = 0 → ∀ j, i ≤ j → j < i + k → bad S T j = 0 := by
  induction k with
  | zero => intro i _ j h1 h2; omega
  | succ k ih =>
    intro i h j h1 h2
    by_cases hb : bad S T i = 0
    · by_cases e : j = i
      · subst e; exact hb
      · rw [scan_ok hb] at h; exact ih (i + 1) h j (by omega) (by omega)
    · rw [scan_bad hb] at h; exact absurd h hb
/-- A clock that is right. -/
structure Right (S T : Nat → Int) (n : Nat) : Prop where
  pos : 0 < n
  few : n ≤ 100
  mom : ∀ i, i < n → (0 ≤ S i ∧ S i ≤ 6311433599) ∧ (0 ≤ T i ∧ T i ≤ 6311433599)
  up : ∀ i, i + 1 < n → (S i < S (i + 1) ∧ S (i + 1) - S i ≤ 1000000000) ∧ (T i < T (i + 1) ∧ T (i + 1) - T i ≤ 1000000000)
theorem bad_zero {S T : Nat → Int} {i : Nat} (h : bad S T i = 0) : ((0 ≤ S i ∧ S i ≤ 6311433599) ∧ (0 ≤ T i ∧ T i ≤ 6311433599)) ∧ (i = 0 ∨ ((S (i - 1) < S i ∧ S i - S (i - 1) ≤ 1000000000) ∧ (T (i - 1) < T i ∧ T i - T (i - 1) ≤ 1000000000))) := by
  unfold bad at h
  split at h
  · rename_i hm
    refine ⟨⟨(Ev.mom_iff _).1 hm.1, (Ev.mom_iff _).1 hm.2⟩, ?_⟩
    split at h
    · exact .inl (by assumption)
    · split at h
      · omega
      · split at h
        · omega
        · right; omega
  · omega
theorem right_of {S T : Nat → Int} {n : Nat} (h : err S T n = 0) : Right S T n := by
  unfold err at h
  split at h
  · omega
  · split at h
    · omega
    · have hs := scan_zero n 0 h
      refine ⟨by omega, by omega, fun i hi => (bad_zero (hs i (by omega) (by omega))).1, fun i hi => ?_⟩
      have := (bad_zero (hs (i + 1) (by omega) (by omega))).2
      rcases this with e | e
      · omega
      · simpa using e
theorem Right.rise {S T : Nat → Int} {n : Nat} (h : Right S T n) (i : Nat) : ∀ j, i ≤ j → j < n → S i ≤ S j ∧ T i ≤ T j := by
  intro j hij hj
  obtain ⟨k, rfl⟩ : ∃ k, j = i + k := ⟨j - i, by omega⟩
  induction k with
  | zero => simp
  | succ k ih => have := ih (by omega) (by omega); have := h.up (i + k) (by omega); rw [Nat.add_succ]; simp only [Nat.succ_eq_add_one]; omega
/-- How many pairs are shown not later than s: the first place that is later. -/
def idx (S : Nat → Int) (s : Int) : Nat → Nat
  | 0 => 0
  | n + 1 => if S n ≤ s then n + 1 else idx S s n
theorem idx_le (S : Nat → Int) (s : Int) (n : Nat) : idx S s n ≤ n := by
  induction n with
  | zero => simp [idx]
  | succ n ih => unfold idx; split <;> omega
theorem idx_hi (S : Nat → Int) (s : Int) (n : Nat) : ∀ i, idx S s n ≤ i → i < n → s < S i := by
  induction n with
  | zero => intro i _ h; omega
  | succ n ih =>
    intro i h1 h2
    unfold idx at h1; split at h1
    · omega
    · by_cases e : i = n
      · subst e; omega
      · exact ih i h1 (by omega)
theorem idx_lo {S T : Nat → Int} {n : Nat} (h : Right S T n) (s : Int) : ∀ m, m ≤ n → ∀ i, i < idx S s m → S i ≤ s := by
  intro m
  induction m with
  | zero => intro _ i hi; simp [idx] at hi
  | succ m ih =>
    intro hm i hi
    unfold idx at hi; split at hi
    · have := (h.rise i m (by omega) (by omega)).1; omega
    · exact ih (by omega) i hi
theorem idx_eq {S T : Nat → Int} {n : Nat} (h : Right S T n) (s : Int) (k : Nat) (hk : k ≤ n) (h1 : 0 < k → S (k - 1) ≤ s) (h2 : k < n → s < S k) : idx S s n = k := by
  have hl := idx_le S s n
  rcases Nat.lt_trichotomy (idx S s n) k with c | c | c
  · have := idx_hi S s n (k - 1) (by omega) (by omega); have := h1 (by omega); omega
  · exact c
  · have := idx_lo h s n (Nat.le_refl _) k c; have := h2 (by omega); omega
/-- What a clock meant at place k. -/
def at_ (S T : Nat → Int) (n : Nat) (s : Int) (k : Nat) : Int :=
  if k = 0 then T 0 + s - S 0 else if k = n then T (n - 1) + s - S (n - 1) else T (k - 1) + (s - S (k - 1)) * (T k - T (k - 1)) / (S k - S (k - 1))
def rep (S T : Nat → Int) (n : Nat) (s : Int) : Int := at_ S T n s (idx S s n)
theorem rep_at {S T : Nat → Int} {n : Nat} (h : Right S T n) (s : Int) (k : Nat) (hk : k ≤ n) (h1 : 0 < k → S (k - 1) ≤ s) (h2 : k < n → s < S k) : rep S T n s = at_ S T n s k := by
  unfold rep; rw [idx_eq h s k hk h1 h2]
theorem part_bd (x d e : Int) (h0 : 0 ≤ x) (hx : x < e) (hd : 0 < d) : 0 ≤ x * d / e ∧ x * d / e < d := by
  have he : 0 < e := by omega
  refine ⟨Int.ediv_nonneg (Int.mul_nonneg h0 (by omega)) (by omega), ?_⟩
  rw [Int.ediv_lt_iff_lt_mul he, Int.mul_comm d e]
  exact Int.mul_lt_mul_of_pos_right hx hd
theorem part_up (x d e : Int) (h0 : 0 ≤ x) (hx : x < e) (hd : 0 < d) : x * d / e ≤ (x + 1) * d / e := by
  have he : 0 < e := by omega
  apply Int.ediv_le_ediv he
  rw [Int.add_mul]; omega
/-- One second later was not earlier. -/
theorem rep_succ {S T : Nat → Int} {n : Nat} (h : Right S T n) (s : Int) : rep S T n s ≤ rep S T n (s + 1) := by
  have hl := idx_le S s n
  have lo := idx_lo h s n (Nat.le_refl _)
  have hi := idx_hi S s n
  generalize hk : idx S s n = k at hl lo hi
  have hp := h.pos
  unfold rep; rw [hk]
  by_cases c : k < n ∧ S k ≤ s + 1
  · -- the place moves on
    have hsk : S k = s + 1 := by have := hi k (Nat.le_refl _) c.1; omega
    have e2 : idx S (s + 1) n = k + 1 := idx_eq h _ _ (by omega) (fun _ => by simpa using c.2) (fun hh => by have := h.up k hh; omega)
    rw [e2]
    unfold at_
    rw [if_neg (by omega : ¬ k + 1 = 0)]
    have hnew : (if k + 1 = n then T (n - 1) + (s + 1) - S (n - 1) else T (k + 1 - 1) + (s + 1 - S (k + 1 - 1)) * (T (k + 1) - T (k + 1 - 1)) / (S (k + 1) - S (k + 1 - 1))) = T k := by
      split
      · rename_i e; subst e; simp; omega
      · simp only [Nat.add_sub_cancel]; rw [show s + 1 - S k = 0 by omega, Int.zero_mul, Int.zero_ediv]; omega
    rw [hnew]
    by_cases k0 : k = 0
    · rw [if_pos k0]; subst k0; omega
    · rw [if_neg k0, if_neg (by omega)]
      have u := h.up (k - 1) (by omega)
      rw [show k - 1 + 1 = k by omega] at u
      have := lo (k - 1) (by omega)
      have pb := part_bd (s - S (k - 1)) (T k - T (k - 1)) (S k - S (k - 1)) (by omega) (by omega) (by omega)
      omega
  · have e2 : idx S (s + 1) n = k := idx_eq h _ _ hl (fun h0 => by have := lo (k - 1) (by omega); omega) (fun hh => by omega)
    rw [e2]
    unfold at_
    by_cases k0 : k = 0
    · rw [if_pos k0, if_pos k0]; omega
    · rw [if_neg k0, if_neg k0]
      by_cases kn : k = n
      · rw [if_pos kn, if_pos kn]; omega
      · rw [if_neg kn, if_neg kn]
        have u := h.up (k - 1) (by omega)
        rw [show k - 1 + 1 = k by omega] at u
        have := lo (k - 1) (by omega)
        have := hi k (Nat.le_refl _) (by omega)
        have pu := part_up (s - S (k - 1)) (T k - T (k - 1)) (S k - S (k - 1)) (by omega) (by omega) (by omega)
        rw [show s + 1 - S (k - 1) = s - S (k - 1) + 1 by omega]; omega
theorem rep_mono {S T : Nat → Int} {n : Nat} (h : Right S T n) (a b : Int) (hab : a ≤ b) : rep S T n a ≤ rep S T n b := by
  obtain ⟨k, rfl⟩ : ∃ k : Nat, b = a + k := ⟨(b - a).toNat, by omega⟩
  clear hab
  induction k with
  | zero => simp
  | succ k ih =>
    have := rep_succ h (a + k)
    have e : a + ((k + 1 : Nat) : Int) = a + k + 1 := by omega
    rw [e]; omega
/-- How many of the first m seconds a clock repairs to not later than t. -/
def upto (S T : Nat → Int) (n : Nat) (t : Int) : Nat → Nat
  | 0 => 0
  | m + 1 => if rep S T n m ≤ t then m + 1 else upto S T n t m
theorem upto_le (S T : Nat → Int) (n : Nat) (t : Int) (m : Nat) : upto S T n t m ≤ m := by
  induction m with
  | zero => simp [upto]
  | succ m ih => unfold upto; split <;> omega
theorem upto_hi (S T : Nat → Int) (n : Nat) (t : Int) (m : Nat) : ∀ i : Nat, upto S T n t m ≤ i → i < m → t < rep S T n i := by
  induction m with
  | zero => intro i _ h; omega
  | succ m ih =>
    intro i h1 h2
    unfold upto at h1; split at h1
    · omega
    · by_cases e : i = m
      · subst e; omega
      · exact ih i h1 (by omega)
theorem upto_lo {S T : Nat → Int} {n : Nat} (h : Right S T n) (t : Int) (m : Nat) : ∀ i : Nat, i < upto S T n t m → rep S T n i ≤ t := by
  induction m with
  | zero => intro i hi; simp [upto] at hi
  | succ m ih =>
    intro i hi
    unfold upto at hi; split at hi
    · have := rep_mono h i m (by omega); omega
    · exact ih i hi
end Go.Proofs.YthldlffkgafgaaaDoor.Ck
