/- Proved here: for functions of the program and of the reference, what each call returns (theorems '.calls'), under the conditions that each theorem names. Printed by this project's own driver over the kit's printer; parts marked EXT are written by hand. Lean checks it. -/
import Derived.Test.YtaadhandkljcdaaX0
import Derived.Test.YtaadhandkljcdaaK
namespace Go.Proofs.Ytaadhandkljcdaa.X
open Go.RowKit Go.Proofs.YtaadhandkljcdaaW.PrintWords Go.Proofs.YtaadhandkljcdaaW.PrintLast Go.Proofs.YtaadhandkljcdaaW.PrintMore
attribute [local go_sem] max2_int min2_int max_two min_two max_three min_three max_four min_four   -- for this text's walks alone
set_option linter.unusedVariables false
set_option linter.unusedSimpArgs false

-- EXT bits_Len: function 22
-- def bits_Len.f (a0 : Int) : Option (Int) := 
-- theorem bits_Len.calls (a0 : Int) (r : Int) (w : World) (h : bits_Len.f a0 = some r) :
--     Calls Try.prog 22 #[.int .u64 a0] w fun e w' => e = .returned (.int .i64 r) ∧ Below w.heap.size w w'
-- NEEDS: 
-- QUIET
-- IMPORTS: Derived.Test.YtaadhandkljcdaaK
namespace BL
open Go.Proofs.Ytaadhandkljcdaa.K
attribute [local go_sem] Oper.semAt_some
def lenS (x : Nat) : Int := if x = 0 then 0 else (Nat.log2 x : Int) + 1
set_option maxRecDepth 100000 in
set_option maxHeartbeats 16000000 in
theorem len64 (x : Nat) (hx : x < 128) (w : World) : Calls Try.prog 34 #[.int .u64 (x : Int)] w fun e w' => e = .returned (.int .i64 (lenS x)) ∧ w' = w := by
  have h1 : decide ((x : Int) ≥ 4294967296) = false := decide_eq_false (by omega)
  have h2 : decide ((x : Int) ≥ 65536) = false := decide_eq_false (by omega)
  have h3 : decide ((x : Int) ≥ 256) = false := decide_eq_false (by omega)
  go_enter Try.func34, Try.ntmps34
  go_wp2_with fail
  refine bodyPost_ret (v := .int .i64 (lenS x)) ?_ rfl ⟨rfl, rfl⟩
  simp only [results, Try.results34, go_sem]
  simp
  clear h1 h2 h3
  revert x
  decide +kernel
theorem len (x : Nat) (hx : x < 128) (w : World) : Calls Try.prog 22 #[.int .u64 (x : Int)] w fun e w' => e = .returned (.int .i64 (lenS x)) ∧ w' = w := by
  go_enter Try.func22, Try.ntmps22
  go_wp2_with fail
  refine (len64 x hx w).mono ?_
  rintro e w' ⟨rfl, rfl⟩
  go_wp2_with fail
  exact bodyPost_ret (v := .int .i64 (lenS x)) (by simp [results, Try.results22, go_sem]) rfl ⟨rfl, rfl⟩
end BL
def bits_Len.f (a0 : Int) : Option Int := if 0 ≤ a0 ∧ a0 < 128 then some (BL.lenS a0.toNat) else none
theorem bits_Len.calls (a0 : Int) (r : Int) (w : World) (h : bits_Len.f a0 = some r) :
    Calls Try.prog 22 #[.int .u64 a0] w fun e w' => e = .returned (.int .i64 r) ∧ Drawn0 w w' := by
  unfold bits_Len.f at h
  split at h
  · rename_i hb
    cases h
    obtain ⟨x, rfl⟩ : ∃ x : Nat, a0 = (x : Int) := ⟨a0.toNat, (Int.toNat_of_nonneg hb.1).symm⟩
    refine (BL.len x (by omega) w).mono ?_
    rintro e w' ⟨rfl, rfl⟩
    exact ⟨rfl, 0, rfl⟩
  · cases h

end Go.Proofs.Ytaadhandkljcdaa.X
