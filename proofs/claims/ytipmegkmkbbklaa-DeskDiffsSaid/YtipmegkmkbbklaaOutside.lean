/- The contract of outside. -/
import Derived.Test.YtipmegkmkbbklaaKit
namespace Go.Proofs.Ytipmegkmkbbklaa
open Go.RowKit
end Go.Proofs.Ytipmegkmkbbklaa
