/- Bursts: plain facts for WhenParts. -/
import Derived.Test.YthldlffkgafgaaaDoorBstBur
namespace Go.Proofs.YthldlffkgafgaaaDoor
namespace Bst
/-- What bursts of some moments are. -/
structure Good (gap : Int) (zs : List Int) (ps : Ps) : Prop where
  ends : ∀ p ∈ ps, p.1 ≤ p.2 ∧ p.1 ∈ zs ∧ p.2 ∈ zs
  far : ∀ i, i + 1 < ps.length → gap < (ps[i + 1]?.getD (0, 0)).1 - (ps[i]?.getD (0, 0)).2
  cov : ∀ m ∈ zs, ∃ p ∈ ps, p.1 ≤ m ∧ m ≤ p.2
theorem good_nil (gap : Int) : Good gap [] [] := ⟨fun p h => by simp at h, fun i h => by simp at h, fun m h => by simp at h⟩
theorem at_init (is : Ps) (r : Int × Int) {i : Nat} (h : i < is.length) : (is ++ [r])[i]? = is[i]? := List.getElem?_append_left h
theorem at_last (is : Ps) (r : Int × Int) : (is ++ [r])[is.length]? = some r := by simp
theorem good_step {gap x : Int} {zs : List Int} {ps : Ps} (h : Good gap zs ps) (hx : ∀ z ∈ zs, z ≤ x) : Good gap (zs ++ [x]) (step gap ps x) := by
  rcases List.eq_nil_or_concat ps with rfl | ⟨is, ⟨p, q⟩, hps⟩
  · rw [step_nil]
    refine ⟨fun r hr => ?_, fun i hi => by simp at hi, fun m hm => ?_⟩
    · obtain rfl := List.mem_singleton.1 hr; exact ⟨Int.le_refl _, by simp, by simp⟩
    · rcases List.mem_append.1 hm with hm | hm
      · obtain ⟨r, hr, _⟩ := h.cov m hm; simp at hr
      · obtain rfl := List.mem_singleton.1 hm; exact ⟨_, List.mem_singleton.2 rfl, Int.le_refl _, Int.le_refl _⟩
  · rw [List.concat_eq_append] at hps
    subst hps
    obtain ⟨e1, e2, e3⟩ := h.ends (p, q) (by simp)
    have hq := hx q e3
    by_cases c : x - q ≤ gap
    · rw [step_near c]
      refine ⟨fun r hr => ?_, fun i hi => ?_, fun m hm => ?_⟩
      · rcases List.mem_append.1 hr with hr | hr
        · obtain ⟨a, b, d⟩ := h.ends r (List.mem_append_left _ hr)
          exact ⟨a, List.mem_append_left _ b, List.mem_append_left _ d⟩
        · obtain rfl := List.mem_singleton.1 hr
          exact ⟨by simp only at e1 ⊢; omega, List.mem_append_left _ e2, by simp⟩
      · have hl : i + 1 < is.length + 1 := by simpa using hi
        have hf := h.far i (by simpa using hi)
        rw [at_init is (p, q) (i := i) (by omega)] at hf
        rw [at_init is (p, x) (i := i) (by omega)]
        by_cases c2 : i + 1 < is.length
        · rw [at_init is (p, q) c2] at hf; rw [at_init is (p, x) c2]; exact hf
        · have e : i + 1 = is.length := by omega
          rw [e, at_last] at hf; rw [e, at_last]; exact hf
      · rcases List.mem_append.1 hm with hm | hm
        · obtain ⟨r, hr, h1, h2⟩ := h.cov m hm
          rcases List.mem_append.1 hr with hr | hr
          · exact ⟨r, List.mem_append_left _ hr, h1, h2⟩
          · obtain rfl := List.mem_singleton.1 hr
            exact ⟨(p, x), by simp, h1, by simp only at h2 ⊢; omega⟩
        · obtain rfl := List.mem_singleton.1 hm
          exact ⟨(p, m), by simp, by simp only at e1 ⊢; omega, Int.le_refl _⟩
    · rw [step_far c]
      refine ⟨fun r hr => ?_, fun i hi => ?_, fun m hm => ?_⟩
      · rcases List.mem_append.1 hr with hr | hr
        · obtain ⟨a, b, d⟩ := h.ends r hr
          exact ⟨a, List.mem_append_left _ b, List.mem_append_left _ d⟩
        · obtain rfl := List.mem_singleton.1 hr
          exact ⟨Int.le_refl _, by simp, by simp⟩
      · have hl : i + 1 < is.length + 1 + 1 := by simp only [List.length_append, List.length_cons, List.length_nil] at hi; omega
        have hn : (is ++ [(p, q)]).length = is.length + 1 := by simp
        rw [at_init (is ++ [(p, q)]) (x, x) (i := i) (by omega)]
        by_cases c2 : i + 1 < is.length + 1
        · rw [at_init (is ++ [(p, q)]) (x, x) (i := i + 1) (by omega)]; exact h.far i (by omega)
        · have e : i + 1 = (is ++ [(p, q)]).length := by omega
          have e2 : i = is.length := by omega
          rw [e, at_last (is ++ [(p, q)]) (x, x), e2, at_last is (p, q)]
          simp only [Option.getD_some]; omega
      · rcases List.mem_append.1 hm with hm | hm
        · obtain ⟨r, hr, h1, h2⟩ := h.cov m hm
          exact ⟨r, List.mem_append_left _ hr, h1, h2⟩
        · obtain rfl := List.mem_singleton.1 hm
          exact ⟨(m, m), by simp, Int.le_refl _, Int.le_refl _⟩
theorem good_upto {gap : Int} {ys : List Int} (hs : ys.Pairwise (· ≤ ·)) : ∀ j, j ≤ ys.length → Good gap (ys.take j) (upto gap ys j) := by
  intro j
  induction j with
  | zero => intro _; rw [upto_0, List.take_zero]; exact good_nil gap
  | succ j ih =>
    intro hj
    have hx : ys[j]? = some ys[j] := List.getElem?_eq_getElem (by omega)
    rw [upto_succ hx, List.take_add_one, hx]
    refine good_step (ih (by omega)) fun z hz => ?_
    obtain ⟨i, hi, rfl⟩ := List.getElem_of_mem hz
    rw [List.length_take] at hi
    rw [List.getElem_take]
    exact List.pairwise_iff_getElem.1 hs i j (by omega) (by omega) (by omega)
theorem good_all (xs : List Int) (gap : Int) : Good gap xs (all xs gap) := by
  have hl : xs.length = (srt xs).length := (srt_perm xs).length_eq.symm
  have h := good_upto (gap := gap) (srt_up xs) xs.length (by omega)
  rw [hl, List.take_length, ← hl] at h
  exact ⟨fun p hp => by obtain ⟨a, b, c⟩ := h.ends p hp; exact ⟨a, (srt_perm xs).mem_iff.1 b, (srt_perm xs).mem_iff.1 c⟩, h.far, fun m hm => h.cov m ((srt_perm xs).mem_iff.2 hm)⟩
/-- What Bursts tells: an error and nothing, or good bursts. -/
structure ResOk (xs : List Int) (gap : Int) (ps : Ps) (E : Int) : Prop where
  bad : E ≠ 0 → ps = []
  good : E = 0 → Good gap xs ps ∧ ps.length ≤ 1000 ∧ xs.length ≤ 1000 ∧ 0 ≤ gap ∧ ∀ x ∈ xs, 0 ≤ x ∧ x ≤ 6311433599
theorem res_ok (xs : List Int) (gap : Int) : ResOk xs gap (res xs gap) (err xs gap) := by
  by_cases h : err xs gap = 0
  · have hr : res xs gap = all xs gap := by unfold res; rw [if_pos h]
    rw [hr]
    refine ⟨fun h0 => absurd h h0, fun _ => ?_⟩
    by_cases h1 : 1000 < xs.length
    · rw [err_large h1] at h; omega
    · by_cases h2 : Ev.mom gap = false ∨ Ev.anyB (fun x => !Ev.mom x) (fun i => xs[i]?.getD 0) xs.length = true
      · rw [err_range (by omega) h2] at h; omega
      · refine ⟨good_all xs gap, ?_, by omega, ?_, all_mom (by cases hh : Ev.anyB (fun x => !Ev.mom x) (fun i => xs[i]?.getD 0) xs.length <;> simp_all)⟩
        · have := upto_len gap (srt xs) xs.length; unfold all; omega
        · have hg : Ev.mom gap = true := by cases hh : Ev.mom gap <;> simp_all
          exact ((Ev.mom_iff _).1 hg).1
  · exact ⟨fun _ => by unfold res; rw [if_neg h], fun h0 => absurd h0 h⟩
end Bst
end Go.Proofs.YthldlffkgafgaaaDoor
