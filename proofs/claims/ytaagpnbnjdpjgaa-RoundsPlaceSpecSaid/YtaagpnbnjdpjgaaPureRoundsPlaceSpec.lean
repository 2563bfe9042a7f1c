/- Proved here: the plain law of the statement RoundsPlaceSpec; no condition beyond the statement's own. -/
import Derived.Test.YtaagpnbnjdpjgaaQSpec2
namespace Go.Proofs.Ytaagpnbnjdpjgaa.Pure
open Go.RowKit Go.Proofs.Ytaagpnbnjdpjgaa.X
theorem RoundsPlaceSpec (l0 : List Int) (a1 : Int) (l2 : List (List Int)) (_ : l0.length ≤ maxLen) (_ : l0.length * 8 ≤ 140737488351232) (_ : ∀ x ∈ l0, (Lit.int .i64 x).wf = true) (_ : (Lit.int .i64 a1).wf = true) : ∃ k, fastilaw32_RoundsPlaceSpec.f k l0 a1 l2 = some true := Q.roundsPlaceSpec l0 a1 l2
end Go.Proofs.Ytaagpnbnjdpjgaa.Pure
