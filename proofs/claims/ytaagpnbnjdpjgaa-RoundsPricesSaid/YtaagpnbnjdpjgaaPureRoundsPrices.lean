/- Proved here: the plain law of the statement RoundsPrices; no condition beyond the statement's own. -/
import Derived.Test.YtaagpnbnjdpjgaaXPrices
namespace Go.Proofs.Ytaagpnbnjdpjgaa.Pure
open Go.RowKit Go.Proofs.Ytaagpnbnjdpjgaa.X
theorem u16_of {a : Int} (h : (Lit.int .u16 a).wf = true) : 0 ≤ a ∧ a ≤ 65535 := by
  simp [Lit.wf, IntKind.min, IntKind.max, IntKind.signed, IntKind.bits] at h
  omega
theorem RoundsPrices (l0 : List Int) (a1 : Int) (l2 : List (List Int)) (a3 a4 a5 : Int) (_ : l0.length ≤ maxLen) (_ : l0.length * 8 ≤ 140737488351232) (_ : ∀ x ∈ l0, (Lit.int .i64 x).wf = true) (_ : (Lit.int .i64 a1).wf = true)
    (w3 : (Lit.int .u16 a3).wf = true) (w4 : (Lit.int .u16 a4).wf = true) (w5 : (Lit.int .u16 a5).wf = true) : fastilaw32_RoundsPrices.f l0 a1 l2 a3 a4 a5 = some true :=
  if_pos ⟨u16_of w3, u16_of w4, u16_of w5⟩
end Go.Proofs.Ytaagpnbnjdpjgaa.Pure
