/- size; slices.ContainsFunc with closures that only read. -/
import Derived.Test.YtipmegkmkbbklaaKit
import Derived.Test.YtipmegkmkbbklaaEventsMath
import Derived.Test.YtipmegkmkbbklaaEvents0
import Derived.Shelf.Abstract
namespace Go.Proofs.Ytipmegkmkbbklaa
open Go.RowKit Go.Sort Go.Shelf
set_option linter.unusedVariables false
end Go.Proofs.Ytipmegkmkbbklaa
