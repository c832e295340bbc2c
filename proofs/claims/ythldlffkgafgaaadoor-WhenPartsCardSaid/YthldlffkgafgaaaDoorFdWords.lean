/- checkIds, checkWords: contracts. -/
import Derived.Test.YthldlffkgafgaaaDoorFdSmall
namespace Go.Proofs.YthldlffkgafgaaaDoor
open Go.RowKit Go.Sort Go.Shelf
set_option linter.unusedVariables false
end Go.Proofs.YthldlffkgafgaaaDoor
