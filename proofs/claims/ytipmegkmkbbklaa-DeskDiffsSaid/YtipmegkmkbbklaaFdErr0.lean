/- What the reference's PhotoError needs. -/
import Derived.Test.YtipmegkmkbbklaaFdPhoto
namespace Go.Proofs.Ytipmegkmkbbklaa
open Go.RowKit Go.Sort Go.Shelf
end Go.Proofs.Ytipmegkmkbbklaa
