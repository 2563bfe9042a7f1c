/- Proved here: the plain law of the statement RoundsMost; no condition beyond the statement's own. -/
import Derived.Test.YtaagpnbnjdpjgaaQLawMost
namespace Go.Proofs.Ytaagpnbnjdpjgaa.Pure
open Go.RowKit Go.Proofs.Ytaagpnbnjdpjgaa.X Go.Proofs.YtaagpnbnjdpjgaaW.PrintWords Go.Proofs.YtaagpnbnjdpjgaaW.PrintLast
theorem RoundsMost : fastilaw32_RoundsMost.Pure := Q.roundsMost
end Go.Proofs.Ytaagpnbnjdpjgaa.Pure
