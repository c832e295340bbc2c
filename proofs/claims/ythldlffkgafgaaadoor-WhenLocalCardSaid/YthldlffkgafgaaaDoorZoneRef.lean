/- The reference's OffsetAt, LocalOf and MomentsOf. -/
import Derived.Test.YthldlffkgafgaaaDoorZone
import Derived.Test.YthldlffkgafgaaaDoorRise
namespace Go.Proofs.YthldlffkgafgaaaDoor
open Go.RowKit Go.Sort Go.Shelf
set_option linter.unusedVariables false
/-- The answer of LocalOf: the local seconds, and the error. -/
def Zn.loc (f : Int) (F O : Nat → Int) (n : Nat) (t : Int) : Int × Int :=
  if Zn.err f F O n = 0 then (if Ev.mom t = true ∧ Ev.mom (t + 60 * Zn.at_ f F O t n) = true then (t + 60 * Zn.at_ f F O t n, 0) else (0, 2)) else (0, Zn.err f F O n)
theorem Zn.loc_err {f : Int} {F O : Nat → Int} {n : Nat} {t q : Int} (h : Zn.err f F O n = q) (h0 : q ≠ 0) : Zn.loc f F O n t = (0, q) := by unfold Zn.loc; rw [h, if_neg h0]
theorem Zn.loc_out {f : Int} {F O : Nat → Int} {n : Nat} {t : Int} (h : Zn.err f F O n = 0) (h1 : Ev.mom t = false) : Zn.loc f F O n t = (0, 2) := by unfold Zn.loc; rw [if_pos h, if_neg (by rw [h1]; simp)]
theorem Zn.loc_out2 {f : Int} {F O : Nat → Int} {n : Nat} {t : Int} (h : Zn.err f F O n = 0) (h1 : Ev.mom (t + 60 * Zn.at_ f F O t n) = false) : Zn.loc f F O n t = (0, 2) := by unfold Zn.loc; rw [if_pos h, if_neg (by rw [h1]; simp)]
theorem Zn.loc_ok {f : Int} {F O : Nat → Int} {n : Nat} {t : Int} (h : Zn.err f F O n = 0) (h1 : Ev.mom t = true) (h2 : Ev.mom (t + 60 * Zn.at_ f F O t n) = true) : Zn.loc f F O n t = (t + 60 * Zn.at_ f F O t n, 0) := by unfold Zn.loc; rw [if_pos h, if_pos ⟨h1, h2⟩]
end Go.Proofs.YthldlffkgafgaaaDoor
