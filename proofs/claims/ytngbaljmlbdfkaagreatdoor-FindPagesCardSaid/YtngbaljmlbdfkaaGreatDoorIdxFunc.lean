/- size; slices.ContainsFunc with closures that only read. -/
import Derived.Test.YtngbaljmlbdfkaaGreatDoorKit
import Derived.Test.YtngbaljmlbdfkaaGreatDoorEventsMath
import Derived.Test.YtngbaljmlbdfkaaGreatDoorEvents0
import Derived.Shelf.Abstract
namespace Go.Proofs.YtngbaljmlbdfkaaGreatDoor
open Go.RowKit Go.Sort Go.Shelf
set_option linter.unusedVariables false
end Go.Proofs.YtngbaljmlbdfkaaGreatDoor
