/- The contracts of the functions on events: isMoment, hits, nearer, and slices.ContainsFunc with closures that only read. -/
import Derived.Test.YthldlffkgafgaaaDoorKit
import Derived.Test.YthldlffkgafgaaaDoorEventsMath
import Derived.Test.YthldlffkgafgaaaDoorEvents0
import Derived.Test.YthldlffkgafgaaaDoorIdxFunc
import Derived.Test.YthldlffkgafgaaaDoorDaysWalks
import Derived.Shelf.Abstract
namespace Go.Proofs.YthldlffkgafgaaaDoor
open Go.RowKit Go.Sort Go.Shelf
set_option linter.unusedVariables false
end Go.Proofs.YthldlffkgafgaaaDoor
