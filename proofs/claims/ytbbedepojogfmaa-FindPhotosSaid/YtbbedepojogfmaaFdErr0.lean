/- What the reference's PhotoError needs. -/
import Derived.Test.YtbbedepojogfmaaFdPhoto
namespace Go.Proofs.Ytbbedepojogfmaa
open Go.RowKit Go.Sort Go.Shelf
end Go.Proofs.Ytbbedepojogfmaa
