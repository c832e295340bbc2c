/- The reference's rising: the numbers in order. -/
import Derived.BigRegion
import Derived.Test.YthldlffkgafgaaaDoorInts
import Derived.Test.YthldlffkgafgaaaDoorRiseMath
namespace Go.Proofs.YthldlffkgafgaaaDoor
open Go.RowKit Go.Sort Go.Shelf
set_option linter.unusedVariables false
/-- A slice of numbers in order, of the members xs, in memory. -/
def RisePost (w : World) (xs : List Int) (e : Ending) (w' : World) : Prop := ∃ a ys ca, e = .returned (.slice a ys.length ca) ∧ ys.Perm xs ∧ ys.Pairwise (· ≤ ·) ∧ RowL w' a ys ∧ Below w.heap.size w w'
end Go.Proofs.YthldlffkgafgaaaDoor
