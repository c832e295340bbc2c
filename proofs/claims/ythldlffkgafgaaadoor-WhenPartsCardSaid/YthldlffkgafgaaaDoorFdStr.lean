/- isFile, IsName and their like: contracts. -/
import Derived.Lib.Bytealg
import Derived.WalkLawsBesides
import Derived.Test.YthldlffkgafgaaaDoorEvents0
import Derived.Test.YthldlffkgafgaaaDoorFdMath
namespace Go.Proofs.YthldlffkgafgaaaDoor
open Go.RowKit Go.Sort Go.Shelf
set_option linter.unusedVariables false
end Go.Proofs.YthldlffkgafgaaaDoor
