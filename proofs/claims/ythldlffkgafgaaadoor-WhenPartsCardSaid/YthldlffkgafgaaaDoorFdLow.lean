/- find.low: whether a string has a byte below 32. -/
import Derived.Test.YthldlffkgafgaaaDoorFdStr3
import Derived.Shelf.Abstract
namespace Go.Proofs.YthldlffkgafgaaaDoor
open Go.RowKit Go.Sort Go.Shelf
set_option linter.unusedVariables false
theorem byte_at (s : ByteArray) (i : Nat) (h : i < s.size) : s.data.toList.getD i 0 = s[i] := by
  have hl : i < s.data.toList.length := by simpa using h
  rw [List.getD_eq_getElem?_getD, List.getElem?_eq_getElem hl]; rfl
theorem low_any (s : ByteArray) : Ev.anyB (fun c => decide (c < 32)) (fun i => ((s.data.toList.getD i 0).toNat : Int)) s.size = !Fd.plainB s := by
  cases h : Fd.plainB s
  · unfold Fd.plainB at h
    rw [decide_eq_false_iff_not] at h
    have : ∃ i, ∃ h : i < s.size, s[i].toNat < 32 := by
      apply Classical.byContradiction
      intro g
      exact h fun i hi => by
        apply Classical.byContradiction
        intro k; exact g ⟨i, hi, by omega⟩
    obtain ⟨i, hi, hc⟩ := this
    exact Ev.anyB_yes i hi (by rw [decide_eq_true_iff]; rw [byte_at s i hi]; omega)
  · unfold Fd.plainB at h
    have h := of_decide_eq_true h
    exact Ev.anyB_no fun i hi => by rw [decide_eq_false_iff_not]; rw [byte_at s i hi]; have := h i hi; omega
end Go.Proofs.YthldlffkgafgaaaDoor
