/- slices.Clone of whatever slice of numbers; rising of whatever slice. -/
import Derived.Test.YthldlffkgafgaaaDoorRise
namespace Go.Proofs.YthldlffkgafgaaaDoor
open Go.RowKit Go.Sort Go.Shelf
set_option linter.unusedVariables false
end Go.Proofs.YthldlffkgafgaaaDoor
