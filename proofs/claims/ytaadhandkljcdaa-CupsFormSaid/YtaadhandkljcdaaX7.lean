/- Proved here: for functions of the program and of the reference, what each call returns (theorems '.calls'), under the conditions that each theorem names. Printed by this project's own driver over the kit's printer; parts marked EXT are written by hand. Lean checks it. -/
import Derived.Test.YtaadhandkljcdaaX0
import Derived.Test.YtaadhandkljcdaaXPlay
import Derived.Test.YtaadhandkljcdaaXPlayb
namespace Go.Proofs.Ytaadhandkljcdaa.X
open Go.RowKit Go.Proofs.YtaadhandkljcdaaW.PrintWords Go.Proofs.YtaadhandkljcdaaW.PrintLast Go.Proofs.YtaadhandkljcdaaW.PrintMore
attribute [local go_sem] max2_int min2_int max_two min_two max_three min_three max_four min_four   -- for this text's walks alone
set_option linter.unusedVariables false
set_option linter.unusedSimpArgs false

-- EXT cups_Check: function 18
-- def cups_Check.f (a0 : Int) (l1 : List (S45)) : Option (Int) := 
-- theorem cups_Check.calls (a0 : Int) (A1 : Option Addr) (c1 : Nat) (l1 : List (S45)) (r : Int) (w : World) (hr1 : Kd.C k45 w A1 l1.length l1) (hc1 : l1.length ≤ c1) (h : cups_Check.f a0 l1 = some r) :
--     Calls Try.prog 18 #[.int .i64 a0, .slice A1 l1.length c1] w fun e w' => e = .returned (.int .i64 r) ∧ Below w.heap.size w w'
-- NEEDS: fasti/cups.Rounds
-- INFO: 3, 40, 42, 45
-- IMPORTS: Derived.Test.YtaadhandkljcdaaXPlay, Derived.Test.YtaadhandkljcdaaXPlayb
def cups_Check.f (a0 : Int) (l1 : List S45) : Option Int := some (if 2 ≤ a0 ∧ a0 ≤ 64 then (if (CQ.playS (CK.ties a0.toNat) l1 ⟨[], [], []⟩).isSome = true then 0 else 230) else 1)
set_option maxRecDepth 100000 in
theorem cups_Check.calls (a0 : Int) (A1 : Option Addr) (c1 : Nat) (l1 : List (S45)) (r : Int) (w : World) (hr1 : Kd.C k45 w A1 l1.length l1) (hc1 : l1.length ≤ c1) (h : cups_Check.f a0 l1 = some r) :
    Calls Try.prog 18 #[.int .i64 a0, .slice A1 l1.length c1] w fun e w' => e = .returned (.int .i64 r) ∧ Below w.heap.size w w' := by
  cases h
  by_cases hb : 2 ≤ a0 ∧ a0 ≤ 64
  · rw [if_pos hb]
    obtain ⟨n, rfl⟩ : ∃ n : Nat, a0 = (n : Int) := ⟨a0.toNat, (Int.toNat_of_nonneg (by omega)).symm⟩
    rw [Int.toNat_natCast]
    obtain ⟨rv, hrv⟩ : ∃ rv : Int, (if (CQ.playS (CK.ties n) l1 ⟨[], [], []⟩).isSome = true then (0 : Int) else 230) = rv := ⟨_, rfl⟩
    rw [hrv]
    have HRV := Aside0.mk hrv
    clear hrv
    go_enter Try.func18, Try.ntmps18
    go_wp2_with fail
    refine (CQ.play_good n (by omega) (by omega) A1 c1 l1 w hr1 hc1).mono ?_
    rintro e w' (⟨p, At, ct, bw, hp, rfl, hq⟩ | ⟨hp, rfl, hq⟩)
    · obtain rfl : (0 : Int) = rv := by rw [← HRV.out, hp]; rfl
      go_wp2_with fail
      exact bodyPost_ret (v := .int .i64 0) (by simp [results, Try.results18, go_sem]) rfl ⟨rfl, hq.hb⟩
    · obtain rfl : (230 : Int) = rv := by rw [← HRV.out, hp]; rfl
      go_wp2_with fail
      exact bodyPost_ret (v := .int .i64 230) (by simp [results, Try.results18, go_sem]) rfl ⟨rfl, hq⟩
  · rw [if_neg hb]
    go_enter Try.func18, Try.ntmps18
    go_wp2_with fail
    refine (CR.play_bad a0 hb A1 l1.length c1 w).mono ?_
    rintro e w' ⟨rfl, hq⟩
    go_wp2_with fail
    exact bodyPost_ret (v := .int .i64 1) (by simp [results, Try.results18, go_sem]) rfl ⟨rfl, hq⟩

end Go.Proofs.Ytaadhandkljcdaa.X
