/- Proved here: DaysCounted's plain law: its contract's answer is true for every whole number. -/
import Derived.Test.YtpodgkmgameocaaDoorXCounted
namespace Go.Proofs.YtpodgkmgameocaaDoor.Pure
open Go Go.RowKit Go.Proofs.YtpodgkmgameocaaDoorW.PrintWords Go.Proofs.YtpodgkmgameocaaDoorW.PrintMore Go.Proofs.YtpodgkmgameocaaDoor.X
set_option linter.unusedVariables false
set_option linter.unusedSimpArgs false
theorem DaysCounted (l0 l1 : List S45) (a : Int) (w : (Lit.int .i64 a).wf = true) : ∃ k, fastilaw12_DaysCounted.f k l0 l1 a = some true := by
  have ha : a ≤ 9223372036854775807 := by
    have h2 : decide (IntKind.min .i64 ≤ a) = true ∧ decide (a ≤ IntKind.max .i64) = true := by
      have h3 : (decide (IntKind.min .i64 ≤ a) && decide (a ≤ IntKind.max .i64)) = true := w
      simpa only [Bool.and_eq_true] using h3
    have h4 := of_decide_eq_true h2.2
    have h5 : IntKind.max .i64 = 9223372036854775807 := by decide +kernel
    rw [h5] at h4
    exact h4
  exact ⟨0, by unfold fastilaw12_DaysCounted.f; rw [if_pos ha]⟩
end Go.Proofs.YtpodgkmgameocaaDoor.Pure
