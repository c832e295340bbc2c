/- Bursts, whole; a row of integers as a list. -/
import Derived.Test.YthldlffkgafgaaaDoorBstBurOk
namespace Go.Proofs.YthldlffkgafgaaaDoor
open Go.RowKit Go.Sort Go.Shelf
set_option linter.unusedVariables false
theorem Bst.err_zero {xs : List Int} {gap : Int} (h : Bst.err xs gap = 0) : xs.length ≤ 1000 ∧ Ev.mom gap = true ∧ Ev.anyB (fun x => !Ev.mom x) (fun i => xs[i]?.getD 0) xs.length = false := by
  unfold Bst.err at h
  split at h
  · omega
  · split at h
    · omega
    · rename_i h1 h2
      refine ⟨by omega, ?_, ?_⟩
      · cases hg : Ev.mom gap
        · exact absurd (.inl hg) h2
        · rfl
      · cases hg : Ev.anyB (fun x => !Ev.mom x) (fun i => xs[i]?.getD 0) xs.length
        · rfl
        · exact absurd (.inr hg) h2
theorem bur_is (a : Option Addr) (xs : List Int) (ca : Nat) (gap : Int) (w : World) (hr : RowL w a xs) (hl : xs.length ≤ 9223372036854775807) : Calls Tryd.prog 20 #[.slice a xs.length ca, .int .i64 gap] w (BurPost w xs gap) := by
  by_cases h : Bst.err xs gap = 0
  · obtain ⟨h1, h2, h3⟩ := Bst.err_zero h
    exact bur_ok a xs ca gap w hr h1 h2 h3
  · exact bur_bad a xs ca gap w hr hl h
theorem rowL_of {w : World} {a : Option Addr} {n : Nat} {z : Nat → Int} (h : Row w a n (fun i => .int .i64 (z i))) : ∃ xs : List Int, xs.length = n ∧ RowL w a xs := by
  refine ⟨(List.range n).map z, by simp, fun hl => ?_⟩
  have hl' : 0 < n := by simpa using hl
  obtain ⟨b, off, rfl, hb, hc⟩ := h hl'
  refine ⟨b, off, rfl, hb, fun i hi => ?_⟩
  have hi' : i < n := by simpa using hi
  rw [hc i hi']; simp [hi']
end Go.Proofs.YthldlffkgafgaaaDoor
