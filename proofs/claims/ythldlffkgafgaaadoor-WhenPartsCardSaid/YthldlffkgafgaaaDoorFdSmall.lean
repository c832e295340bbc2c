/- checkWhen, checkPlace, placed, checkIds: contracts. -/
import Derived.Test.YthldlffkgafgaaaDoorFdPh
import Derived.Test.YthldlffkgafgaaaDoorZone
namespace Go.Proofs.YthldlffkgafgaaaDoor
open Go.RowKit Go.Sort Go.Shelf
set_option linter.unusedVariables false
end Go.Proofs.YthldlffkgafgaaaDoor
