/- Plain mathematics of putting numbers in order by moving each one down. -/
import Derived.Test.YthldlffkgafgaaaDoorEventsMath
namespace Go.Proofs.YthldlffkgafgaaaDoor.Rise
/-- x lies at place A.length; the others ahead and behind it are in order, those behind are not less than x. -/
structure At (xs L : List Int) (k i : Nat) (A : List Int) (x : Int) (B R : List Int) : Prop where
  eq : L = A ++ x :: (B ++ R)
  here : A.length = k
  till : A.length + B.length = i
  up : (A ++ B).Pairwise (· ≤ ·)
  less : ∀ b ∈ B, x ≤ b
  perm : L.Perm xs
/-- The first i are in order. -/
structure Upto (xs L : List Int) (i : Nat) (P R : List Int) : Prop where
  eq : L = P ++ R
  here : P.length = i
  up : P.Pairwise (· ≤ ·)
  perm : L.Perm xs
theorem Upto.start (xs : List Int) : Upto xs xs 0 [] xs := ⟨by simp, rfl, by simp, List.Perm.refl _⟩
theorem Upto.done {xs L : List Int} {i : Nat} {P R : List Int} (h : Upto xs L i P R) (hi : i = xs.length) : L.Pairwise (· ≤ ·) := by
  have hl := h.perm.length_eq
  have : R = [] := by
    apply List.eq_nil_of_length_eq_zero
    have := congrArg List.length h.eq; rw [List.length_append, h.here] at this; omega
  rw [h.eq, this, List.append_nil]; exact h.up
theorem Upto.next {xs L : List Int} {i : Nat} {P R : List Int} (h : Upto xs L i P R) (hi : i < xs.length) : ∃ x R', R = x :: R' ∧ At xs L i i P x [] R' := by
  have hl := h.perm.length_eq
  cases R with
  | nil => have := congrArg List.length h.eq; rw [List.length_append, h.here] at this; simp at this; omega
  | cons x R' => exact ⟨x, R', rfl, by rw [h.eq]; simp, h.here, by simp [h.here], by simpa using h.up, by simp, h.perm⟩
theorem At.len {xs L : List Int} {k i : Nat} {A : List Int} {x : Int} {B R : List Int} (h : At xs L k i A x B R) : L.length = xs.length ∧ k ≤ i ∧ i < L.length := by
  have := congrArg List.length h.eq; have := h.here; have := h.till; have := h.perm.length_eq
  simp at *; omega
theorem At.x {xs L : List Int} {k i : Nat} {A : List Int} {x : Int} {B R : List Int} (h : At xs L k i A x B R) : L[k]? = some x := by
  rw [h.eq, ← h.here]; simp
/-- It stays. -/
theorem At.stop {xs L : List Int} {k i : Nat} {A : List Int} {x : Int} {B R : List Int} (h : At xs L k i A x B R) (hx : ∀ a, L[k - 1]? = some a → 0 < k → a ≤ x) : Upto xs L (i + 1) (A ++ x :: B) R := by
  refine ⟨by rw [h.eq]; simp, by have := h.till; simp; omega, ?_, h.perm⟩
  obtain ⟨hA, hB, hAB⟩ := List.pairwise_append.1 h.up
  rw [List.pairwise_append, List.pairwise_cons]
  refine ⟨hA, ⟨h.less, hB⟩, fun a ha y hy => ?_⟩
  rcases List.mem_cons.1 hy with rfl | hy
  · rcases List.eq_nil_or_concat A with rfl | ⟨A', z, rfl⟩
    · simp at ha
    · have hk := h.here
      simp at hk
      have hz : z ≤ y := hx z (by rw [h.eq, show k - 1 = A'.length by omega]; simp) (by omega)
      rw [List.concat_eq_append] at ha hA
      rcases List.mem_append.1 ha with ha | ha
      · have := (List.pairwise_append.1 hA).2.2 a ha z (by simp); omega
      · simp at ha; omega
  · exact hAB a ha y hy
/-- It moves down. -/
theorem At.move {xs L : List Int} {k i : Nat} {A : List Int} {x : Int} {B R : List Int} (h : At xs L k i A x B R) (hk : 0 < k) (a : Int) (ha : L[k - 1]? = some a) (hx : x < a) :
    ∃ A', At xs ((L.set k a).set (k - 1) x) (k - 1) i A' x (a :: B) R := by
  rcases List.eq_nil_or_concat A with rfl | ⟨A', z, rfl⟩
  · have := h.here; simp at this; omega
  · have hh := h.here
    rw [List.concat_eq_append] at *
    simp at hh
    have e1 : k - 1 = A'.length := by omega
    have hz : z = a := by rw [h.eq, e1] at ha; simpa using ha
    subst hz
    refine ⟨A', ?_, by omega, by have := h.till; simp at this ⊢; omega, ?_, ?_, ?_⟩
    · rw [h.eq, e1, ← hh]; simp
    · simpa using h.up
    · intro b hb
      rcases List.mem_cons.1 hb with rfl | hb
      · omega
      · exact h.less b hb
    · refine List.Perm.trans ?_ h.perm
      rw [h.eq, e1, ← hh]; simp
      exact (List.Perm.swap _ _ _).append_left _
end Go.Proofs.YthldlffkgafgaaaDoor.Rise
