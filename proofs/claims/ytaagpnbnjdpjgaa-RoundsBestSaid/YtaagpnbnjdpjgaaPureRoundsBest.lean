/- Proved here: the plain law of the statement RoundsBest; no condition beyond the statement's own. -/
import Derived.Test.YtaagpnbnjdpjgaaQLawBest
namespace Go.Proofs.Ytaagpnbnjdpjgaa.Pure
open Go.RowKit Go.Proofs.Ytaagpnbnjdpjgaa.X
theorem RoundsBest (l0 : List Int) (a1 : Int) (l2 : List (List Int)) (l3 : List Int) (_ : l0.length ≤ maxLen) (_ : l0.length * 8 ≤ 140737488351232) (_ : ∀ x ∈ l0, (Lit.int .i64 x).wf = true) (_ : (Lit.int .i64 a1).wf = true)
    (h : l3.length ≤ maxLen) (h' : l3.length * 8 ≤ 140737488351232) (_ : ∀ x ∈ l3, (Lit.int .i64 x).wf = true) : ∃ k, fastilaw32_RoundsBest.f k l0 a1 l2 l3 = some true := Q.roundsBest l0 a1 l2 l3 h h'
end Go.Proofs.Ytaagpnbnjdpjgaa.Pure
