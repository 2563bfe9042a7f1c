/- Proved here: the plain law of the statement RoundsSpec; no condition beyond the statement's own. -/
import Derived.Test.YtaagpnbnjdpjgaaQMost
namespace Go.Proofs.Ytaagpnbnjdpjgaa.Pure
open Go.RowKit Go.Proofs.Ytaagpnbnjdpjgaa.X Go.Proofs.YtaagpnbnjdpjgaaW.PrintWords Go.Proofs.YtaagpnbnjdpjgaaW.PrintLast
theorem RoundsSpec : fastilaw32_RoundsSpec.Pure := Q.roundsSpec
end Go.Proofs.Ytaagpnbnjdpjgaa.Pure
