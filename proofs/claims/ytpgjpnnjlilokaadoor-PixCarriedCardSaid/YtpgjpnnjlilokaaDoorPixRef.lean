/- The reference's pixel: three bytes of the image. -/
import Derived.Test.YtpgjpnnjlilokaaDoorPixBase
namespace Go.Proofs.YtpgjpnnjlilokaaDoor
open Go.RowKit Go.Sort
set_option linter.unusedVariables false
end Go.Proofs.YtpgjpnnjlilokaaDoor
