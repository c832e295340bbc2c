/- What the reference's PhotoError needs. -/
import Derived.Test.YtngbaljmlbdfkaaGreatDoorFdPhoto
namespace Go.Proofs.YtngbaljmlbdfkaaGreatDoor
open Go.RowKit Go.Sort Go.Shelf
end Go.Proofs.YtngbaljmlbdfkaaGreatDoor
