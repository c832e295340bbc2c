/- The best of a list: plain mathematics. -/
namespace Go.Proofs.Ytkebkbjkapfgkaa.Im
/-- The place of the best of the first k. -/
def best (A S : Nat → Int) : Nat → Nat
  | 0 => 0
  | k + 1 => if A (best A S k) < A k ∨ (A k = A (best A S k) ∧ S (best A S k) < S k) then k else best A S k
theorem best_lt (A S : Nat → Int) (k n : Nat) (h : k ≤ n) (hn : 0 < n) : best A S k < n := by
  induction k with
  | zero => exact hn
  | succ k ih => simp only [best]; split; omega; exact ih (by omega)
def St (A S : Nat → Int) (j : Nat) (B P Q : Int) : Prop := (j = 0 ∧ B = 0 ∧ P = 0 ∧ Q = -1) ∨ (0 < j ∧ B = best A S j ∧ P = A (best A S j) ∧ Q = S (best A S j))
theorem st_keep {A S : Nat → Int} {j : Nat} {B P Q : Int} (h : St A S j B P Q) (h1 : 1 ≤ A j) (h2 : 0 ≤ S j) (hn : A j < P ∨ (A j = P ∧ S j ≤ Q)) : St A S (j + 1) B P Q := by
  rcases h with ⟨rfl, rfl, rfl, rfl⟩ | ⟨h0, rfl, rfl, rfl⟩
  · omega
  · right
    have : best A S (j + 1) = best A S j := by simp only [best]; rw [if_neg (by omega)]
    rw [this]; exact ⟨by omega, rfl, rfl, rfl⟩
theorem st_take {A S : Nat → Int} {j : Nat} {B P Q : Int} (h : St A S j B P Q) (hn : P < A j ∨ (A j = P ∧ Q < S j)) : St A S (j + 1) j (A j) (S j) := by
  rcases h with ⟨rfl, rfl, rfl, rfl⟩ | ⟨h0, rfl, rfl, rfl⟩
  · right
    have : best A S (0 + 1) = 0 := by simp only [best]; split <;> rfl
    rw [this]; exact ⟨by omega, rfl, rfl, rfl⟩
  · right
    have : best A S (j + 1) = j := by simp only [best]; rw [if_pos (by omega)]
    rw [this]; exact ⟨by omega, rfl, rfl, rfl⟩
theorem st_end {A S : Nat → Int} {j : Nat} {B P Q : Int} (h : St A S j B P Q) (hj : 0 < j) : B = best A S j := by
  rcases h with ⟨rfl, _⟩ | ⟨_, h, _⟩
  · omega
  · exact h
theorem least (E : Nat → Int) (n : Nat) : (∀ i, i < n → E i = 0) ∨ ∃ j, j < n ∧ (∀ i, i < j → E i = 0) ∧ E j ≠ 0 := by
  induction n with
  | zero => exact .inl fun i hi => by omega
  | succ n ih =>
    rcases ih with h | ⟨j, hj, h⟩
    · by_cases e : E n = 0
      · exact .inl fun i hi => by
          by_cases q : i = n
          · subst q; exact e
          · exact h i (by omega)
      · exact .inr ⟨n, by omega, h, e⟩
    · exact .inr ⟨j, by omega, h⟩
end Go.Proofs.Ytkebkbjkapfgkaa.Im
