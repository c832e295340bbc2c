/- Plain mathematics of groups: none has a place of another; what is near is in one group; the numbers of groups. -/
import Derived.Test.YtbbedepojogfmaaGrpMath
namespace Go.Proofs.Ytbbedepojogfmaa.Grp
set_option linter.unusedVariables false
variable {n : Nat} {nr : Nat → Nat → Bool}
theorem groups_mem {g : List Nat} {k : Nat} (h : g ∈ groups n nr k) : ∃ f, f < k ∧ Lead n nr f ∧ 1 < (cls n nr f).length ∧ g = cls n nr f := by
  unfold groups at h
  obtain ⟨f, hf, rfl⟩ := List.mem_map.1 h
  obtain ⟨h1, h2⟩ := List.mem_filter.1 hf
  simp only [decide_eq_true_eq] at h2
  exact ⟨f, List.mem_range.1 h1, h2.1, h2.2, rfl⟩
theorem mem_groups {f k : Nat} (hf : f < k) (hl : Lead n nr f) (h1 : 1 < (cls n nr f).length) : cls n nr f ∈ groups n nr k := by
  unfold groups
  refine List.mem_map.2 ⟨f, List.mem_filter.2 ⟨List.mem_range.2 hf, ?_⟩, rfl⟩
  simp only [decide_eq_true_eq]
  exact ⟨hl, h1⟩
theorem groups_apart (hs : ∀ a b, nr a b = nr b a) (k : Nat) : (groups n nr k).Pairwise fun g g' => ∀ x, x ∈ g → x ∉ g' := by
  unfold groups
  rw [List.pairwise_map]
  refine List.Pairwise.imp_of_mem ?_ ((List.pairwise_lt_range (n := k)).filter _)
  intro a b ha hb hab x hxa hxb
  have hl := (List.mem_filter.1 hb).2
  simp only [decide_eq_true_eq] at hl
  exact hl.1 a hab ((mem_cls.1 hxa).trans ((mem_cls.1 hxb).symm hs))
/-- The least place that hangs together with i. -/
theorem least (hs : ∀ a b, nr a b = nr b a) {i : Nat} (hi : i < n) : ∃ f, Lead n nr f ∧ Conn n nr f i := by
  have key : ∀ m, ∀ i, i ≤ m → i < n → ∃ f, Lead n nr f ∧ Conn n nr f i := by
    intro m
    induction m with
    | zero =>
      intro i h1 h2
      refine ⟨i, fun j hj => by omega, .refl i h2⟩
    | succ m ih =>
      intro i h1 h2
      by_cases h : Lead n nr i
      · exact ⟨i, h, .refl i h2⟩
      · unfold Lead at h
        have : ∃ j, j < i ∧ Conn n nr j i := by
          apply Classical.byContradiction
          intro g
          exact h fun j hj hc => g ⟨j, hj, hc⟩
        obtain ⟨j, hj, hc⟩ := this
        obtain ⟨f, hf, hfc⟩ := ih j (by omega) hc.lt.1
        exact ⟨f, hf, hfc.trans hc⟩
  exact key i i (Nat.le_refl _) hi
theorem near_group (hs : ∀ a b, nr a b = nr b a) {i k : Nat} (hi : i < n) (hk : k < n) (hne : i ≠ k) (h : nr i k = true) : ∃ g, g ∈ groups n nr n ∧ i ∈ g ∧ k ∈ g := by
  obtain ⟨f, hf, hc⟩ := least hs hi
  have h1 : i ∈ cls n nr f := mem_cls.2 hc
  have h2 : k ∈ cls n nr f := mem_cls.2 (.step hc h hk)
  refine ⟨_, mem_groups hc.lt.1 hf ?_, h1, h2⟩
  match hcl : cls n nr f, h1, h2 with
  | [], h1, _ => cases h1
  | [x], h1, h2 => have e1 := List.mem_singleton.1 h1; have e2 := List.mem_singleton.1 h2; omega
  | x :: y :: l, _, _ => simp
/-- The numbers of the groups: of t groups and of u places of the next one. -/
structure Numb (n : Nat) (G : List (List Nat)) (F : Nat → Nat) (t : Nat) (q : List Nat) (u : Nat) : Prop where
  old : ∀ t' g x, t' < t → G[t']? = some g → x ∈ g → F x = t' + 1
  now : ∀ idx x, idx < u → q[idx]? = some x → F x = t + 1
  none : ∀ x, F x ≠ 0 → (∃ t' g, t' < t ∧ G[t']? = some g ∧ x ∈ g) ∨ ∃ idx, idx < u ∧ q[idx]? = some x
theorem Numb.start (n : Nat) (G : List (List Nat)) : Numb n G (fun _ => 0) 0 [] 0 := ⟨fun t' g x h => by omega, fun idx x h => by omega, fun x h => absurd rfl h⟩
theorem Numb.begin {G : List (List Nat)} {F : Nat → Nat} {t : Nat} {q : List Nat} (h : Numb n G F t q 0) (g : List Nat) : Numb n G F t g 0 :=
  ⟨h.old, fun idx x hh => by omega, fun x hx => (h.none x hx).elim .inl (fun ⟨idx, hi, _⟩ => by omega)⟩
theorem Numb.done {G : List (List Nat)} {F : Nat → Nat} {t : Nat} {g : List Nat} (h : Numb n G F t g g.length) (hg : G[t]? = some g) : Numb n G F (t + 1) [] 0 := by
  refine ⟨fun t' g' x ht hg' hx => ?_, fun idx x hh => by omega, fun x hx => .inl ?_⟩
  · by_cases e : t' = t
    · subst e
      rw [hg] at hg'; cases hg'
      obtain ⟨idx, hi⟩ := List.getElem?_of_mem hx
      exact h.now idx x (List.getElem?_eq_some_iff.1 hi).1 hi
    · exact h.old t' g' x (by omega) hg' hx
  · rcases h.none x hx with ⟨t', g', ht, hg', hx'⟩ | ⟨idx, _, hi⟩
    · exact ⟨t', g', by omega, hg', hx'⟩
    · exact ⟨t, g, by omega, hg, List.mem_of_getElem? hi⟩
/-- The next place has no number yet. -/
theorem Numb.free {G : List (List Nat)} (hG : G.Pairwise fun g g' => ∀ x, x ∈ g → x ∉ g') {F : Nat → Nat} {t u : Nat} {g : List Nat} (h : Numb n G F t g u) (hg : G[t]? = some g) (hn : g.Nodup) {x : Nat} (hx : g[u]? = some x) : F x = 0 := by
  apply Classical.byContradiction
  intro hne
  rcases h.none x hne with ⟨t', g', ht, hg', hx'⟩ | ⟨idx, hidx, hi⟩
  · have h1 := (List.getElem?_eq_some_iff.1 hg).1
    have h2 := (List.getElem?_eq_some_iff.1 hg').1
    have := (List.pairwise_iff_getElem.1 hG) t' t h2 h1 ht x
    rw [(List.getElem?_eq_some_iff.1 hg').2, (List.getElem?_eq_some_iff.1 hg).2] at this
    exact this hx' (List.mem_of_getElem? hx)
  · have h1 := List.getElem?_eq_some_iff.1 hi
    have h2 := List.getElem?_eq_some_iff.1 hx
    have := (List.pairwise_iff_getElem.1 hn) idx u h1.1 h2.1 hidx
    exact this (h1.2.trans h2.2.symm)
theorem Numb.next {G : List (List Nat)} (hG : G.Pairwise fun g g' => ∀ x, x ∈ g → x ∉ g') {F : Nat → Nat} {t u : Nat} {g : List Nat} (h : Numb n G F t g u) (hg : G[t]? = some g) (hn : g.Nodup) {x : Nat} (hx : g[u]? = some x) : Numb n G (upd F x (t + 1)) t g (u + 1) := by
  have h0 := h.free hG hg hn hx
  refine ⟨fun t' g' y ht hg' hy => ?_, fun idx y hidx hy => ?_, fun y hy => ?_⟩
  · have := h.old t' g' y ht hg' hy
    rw [upd_other _ _ _ (fun e => by subst e; omega)]
    exact this
  · by_cases e : y = x
    · subst e; exact upd_same _ _ _
    · rw [upd_other _ _ _ e]
      refine h.now idx y ?_ hy
      by_cases e2 : idx = u
      · subst e2; rw [hx] at hy; cases hy; exact absurd rfl e
      · omega
  · by_cases e : y = x
    · subst e; exact .inr ⟨u, by omega, hx⟩
    · rw [upd_other _ _ _ e] at hy
      rcases h.none y hy with h1 | ⟨idx, hidx, hi⟩
      · exact .inl h1
      · exact .inr ⟨idx, by omega, hi⟩
/-- Near places have one number, not 0. -/
theorem Numb.same (hs : ∀ a b, nr a b = nr b a) {F : Nat → Nat} (h : Numb n (groups n nr n) F (groups n nr n).length [] 0) {i k : Nat} (hi : i < n) (hk : k < n) (hne : i ≠ k) (hn : nr i k = true) : F i ≠ 0 ∧ F i = F k := by
  obtain ⟨g, hg, h1, h2⟩ := near_group hs hi hk hne hn
  obtain ⟨t, ht⟩ := List.getElem?_of_mem hg
  have htl := (List.getElem?_eq_some_iff.1 ht).1
  rw [h.old t g i htl ht h1, h.old t g k htl ht h2]
  exact ⟨by omega, rfl⟩
end Go.Proofs.Ytbbedepojogfmaa.Grp
