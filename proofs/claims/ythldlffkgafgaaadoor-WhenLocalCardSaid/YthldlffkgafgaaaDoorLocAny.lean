/- Moments as a list and an error; how it answers Local. -/
import Derived.Test.YthldlffkgafgaaaDoorZoneLaw
import Derived.Test.YthldlffkgafgaaaDoorLocMath
namespace Go.Proofs.YthldlffkgafgaaaDoor
open Go.RowKit Go.Sort Go.Shelf
set_option linter.unusedVariables false
theorem Zn.loc_zero {f : Int} {F O : Nat → Int} {n : Nat} {t v : Int} (h : Zn.loc f F O n t = (v, 0)) : Zn.err f F O n = 0 ∧ (0 ≤ t ∧ t ≤ 6311433599) ∧ (0 ≤ v ∧ v ≤ 6311433599) ∧ t + 60 * Zn.at_ f F O t n = v := by
  by_cases hE : Zn.err f F O n = 0
  · by_cases h1 : Ev.mom t = true
    · by_cases h2 : Ev.mom (t + 60 * Zn.at_ f F O t n) = true
      · rw [Zn.loc_ok hE h1 h2] at h
        simp only [Prod.mk.injEq, and_true] at h
        subst h
        exact ⟨hE, (Ev.mom_iff _).1 h1, (Ev.mom_iff _).1 h2, rfl⟩
      · rw [Zn.loc_out2 hE (by simpa using h2)] at h; simp at h
    · rw [Zn.loc_out hE (by simpa using h1)] at h; simp at h
  · rw [Zn.loc_err rfl hE] at h; simp only [Prod.mk.injEq] at h; exact absurd h.2 hE
/-- What a list of moments must be. -/
structure MomOk (f : Int) (F O : Nat → Int) (n : Nat) (l : Int) (xs : List Int) (E : Int) : Prop where
  few : xs.length ≤ 201
  bad : E ≠ 0 → xs = []
  each : E = 0 → ∀ i, i < xs.length → Zn.loc f F O n (xs[i]?.getD 0) = (l, 0)
  up : ∀ i, i + 1 < xs.length → xs[i]?.getD 0 < xs[i + 1]?.getD 0
  all : ∀ m, Zn.loc f F O n m = (l, 0) → E = 0 ∧ m ∈ xs
theorem moments_any (f : Int) (F O : Nat → Int) (n : Nat) (l : Int) (hn : n ≤ 9223372036854775807) : ∃ (xs : List Int) (E : Int), MomOk f F O n l xs E ∧
    ∀ (a : Option Addr) (ca : Nat) (w : World), Row2 w a n (fun i => .int .i64 (F i)) (fun i => .int .i64 (O i)) →
      Calls Tryd.prog 18 #[.agg #[.int .i64 f, .slice a n ca], .int .i64 l] w fun e w' => ∃ a' ca', e = .returned (.tuple #[.slice a' xs.length ca', .int .i64 E]) ∧ RowL w' a' xs ∧ Below w.heap.size w w' := by
  by_cases h : Zn.errAt f F O n l = 0
  · have hE : Zn.err f F O n = 0 := by unfold Zn.errAt at h; split at h <;> first | assumption | contradiction
    have hM : Ev.mom l = true := by unfold Zn.errAt at h; rw [if_pos hE] at h; split at h <;> first | assumption | omega
    have hR := Zn.right_of hE
    have hl := (Ev.mom_iff _).1 hM
    refine ⟨Zn.got l (Zn.all f F O n), 0, ⟨?_, fun h0 => absurd rfl h0, fun _ i hi => ?_, fun i hi => ?_, fun m hm => ?_⟩, fun a ca w hr => callsIn_wide.1 (moments_in f a n ca F O w hr hR l hl h)⟩
    · have h1 := Zn.got_len l (Zn.all f F O n); have h2 := Zn.all_len f F O n; have h3 := hR.few; omega
    · rw [List.getElem?_eq_getElem hi, Option.getD_some]
      obtain ⟨h1, h2⟩ := Zn.local_of_got hR (List.getElem_mem hi)
      have := Zn.loc_ok hE ((Ev.mom_iff _).2 h1) (by rw [h2]; exact hM)
      rw [this, h2]
    · rw [List.getElem?_eq_getElem hi, List.getElem?_eq_getElem (by omega : i < _), Option.getD_some, Option.getD_some]
      exact List.pairwise_iff_getElem.1 (Zn.got_up hR l) i (i + 1) (by omega) hi (by omega)
    · obtain ⟨_, h1, _, h2⟩ := Zn.loc_zero hm
      have := Zn.got_of_local hR m h1
      rw [h2] at this
      exact ⟨rfl, this⟩
  · refine ⟨[], _, ⟨by simp, fun _ => rfl, fun h0 => absurd h0 h, fun i hi => by simp at hi, fun m hm => ?_⟩, fun a ca w hr => (moments_err f a n ca F O w hr l hn _ rfl h).mono ?_⟩
    · obtain ⟨hE, h1, h2, h3⟩ := Zn.loc_zero hm
      exfalso; apply h
      unfold Zn.errAt; rw [if_pos hE, if_pos ((Ev.mom_iff _).2 h2)]
    · rintro e w' ⟨rfl, hB⟩
      exact ⟨none, 0, rfl, RowL.nil _ _, hB⟩
end Go.Proofs.YthldlffkgafgaaaDoor
