/- Proved here: the plain law behind CupsStrength: for 2 to 64 by evaluation in the kernel, for other numbers by the guard. -/
import Derived.Test.YtaadhandkljcdaaX14
namespace Go.Proofs.Ytaadhandkljcdaa.Pure
open Go.RowKit Go.Proofs.Ytaadhandkljcdaa.X Go.Proofs.YtaadhandkljcdaaW.PrintWords Go.Proofs.YtaadhandkljcdaaW.PrintLast
set_option linter.unusedVariables false
set_option linter.unusedSimpArgs false
theorem strength_in : ∀ n : Nat, n < 65 → 2 ≤ n → fastilaw23_CupsStrength.f 1000 (n : Int) = some true := by decide +kernel
theorem CupsStrength : fastilaw23_CupsStrength.Pure := by
  intro a0 _
  refine ⟨1000, ?_⟩
  by_cases h : 2 ≤ a0 ∧ a0 ≤ 64
  · obtain ⟨n, rfl⟩ : ∃ n : Nat, a0 = (n : Int) := ⟨a0.toNat, (Int.toNat_of_nonneg (by omega)).symm⟩
    exact strength_in n (by omega) (by omega)
  · have hr : cups_Rounds.f a0 = some (0, 0, 1) := by
      unfold cups_Rounds.f
      by_cases h2 : a0 < 2
      · rw [if_pos h2]
      · rw [if_neg h2, if_pos (by omega)]
    have hm : cups_Make.f a0 = some ([], 1) := by unfold cups_Make.f; rw [if_neg h]
    unfold fastilaw23_CupsStrength.f
    rw [fastilaw23_sane.f, Option.bind_some, if_pos rfl, hm, Option.bind_some, hr, Option.bind_some, if_neg (by decide)]
    rw [fastilaw23_CupsStrength.j0, if_pos rfl, if_neg (by decide)]
    rfl
end Go.Proofs.Ytaadhandkljcdaa.Pure
