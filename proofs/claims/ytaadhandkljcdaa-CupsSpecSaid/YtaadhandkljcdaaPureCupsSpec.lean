/- Proved here: the plain law behind CupsSpec: what Rounds and Make compute agrees with the reference, for every number (2 to 64 by evaluation in the kernel, the others by the guard). -/
import Derived.Test.YtaadhandkljcdaaX11
namespace Go.Proofs.Ytaadhandkljcdaa.Pure
open Go.RowKit Go.Proofs.Ytaadhandkljcdaa.X Go.Proofs.YtaadhandkljcdaaW.PrintWords Go.Proofs.YtaadhandkljcdaaW.PrintLast
theorem spec_in : ∀ n : Nat, n < 65 → 2 ≤ n → fastilaw23_CupsSpec.f 300 (n : Int) = some true := by decide +kernel
theorem sane_ok : fastilaw23_sane.f 300 = some true := by decide +kernel
theorem rounds_bad (a0 : Int) (h : ¬ (2 ≤ a0 ∧ a0 ≤ 64)) : cups_Rounds.f a0 = some (0, 0, 1) := by
  unfold cups_Rounds.f
  by_cases h2 : a0 < 2
  · rw [if_pos h2]
  · rw [if_neg h2, if_pos (by omega)]
theorem in_bad (a0 : Int) (h : ¬ (2 ≤ a0 ∧ a0 ≤ 64)) : fastiref23_in.f a0 = some false := by
  unfold fastiref23_in.f
  by_cases h2 : a0 ≥ 2
  · rw [if_pos h2]
    have : ¬ a0 ≤ 64 := by omega
    simp [this]
  · rw [if_neg h2]
theorem make_bad (a0 : Int) (h : ¬ (2 ≤ a0 ∧ a0 ≤ 64)) : cups_Make.f a0 = some ([], 1) := by unfold cups_Make.f; rw [if_neg h]
theorem CupsSpec : fastilaw23_CupsSpec.Pure := by
  intro a0 _
  refine ⟨300, ?_⟩
  by_cases h : 2 ≤ a0 ∧ a0 ≤ 64
  · obtain ⟨n, rfl⟩ : ∃ n : Nat, a0 = (n : Int) := ⟨a0.toNat, (Int.toNat_of_nonneg (by omega)).symm⟩
    exact spec_in n (by omega) (by omega)
  · unfold fastilaw23_CupsSpec.f
    rw [sane_ok]
    simp only [Option.bind_some, if_true]
    rw [rounds_bad a0 h, make_bad a0 h]
    unfold fastiref23_Rounds.f fastiref23_Make.f
    rw [in_bad a0 h]
    simp only [Option.bind_some, Bool.false_eq_true, if_false, if_true]
    have : fastiref23_Same.f 300 [] [] = some true := by decide +kernel
    rw [this]
    rfl
end Go.Proofs.Ytaadhandkljcdaa.Pure
