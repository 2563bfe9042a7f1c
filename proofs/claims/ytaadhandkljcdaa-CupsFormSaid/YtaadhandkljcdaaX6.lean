/- Proved here: for functions of the program and of the reference, what each call returns (theorems '.calls'), under the conditions that each theorem names. Printed by this project's own driver over the kit's printer; parts marked EXT are written by hand. Lean checks it. -/
import Derived.Test.YtaadhandkljcdaaX0
import Derived.Test.YtaadhandkljcdaaXPlayc
namespace Go.Proofs.Ytaadhandkljcdaa.X
open Go.RowKit Go.Proofs.YtaadhandkljcdaaW.PrintWords Go.Proofs.YtaadhandkljcdaaW.PrintLast Go.Proofs.YtaadhandkljcdaaW.PrintMore
attribute [local go_sem] max2_int min2_int max_two min_two max_three min_three max_four min_four   -- for this text's walks alone
set_option linter.unusedVariables false
set_option linter.unusedSimpArgs false

-- EXT cups_Play: function 16
-- def cups_Play.f (a0 : Int) (l1 : List (S45)) : Option (List Int × List Int × Int) := 
-- theorem cups_Play.calls (a0 : Int) (A1 : Option Addr) (c1 : Nat) (l1 : List (S45)) (r1 : List Int) (r2 : List Int) (r3 : Int) (w : World) (hr1 : Kd.C k45 w A1 l1.length l1) (hc1 : l1.length ≤ c1) (h : cups_Play.f a0 l1 = some (r1, r2, r3)) :
--     Calls Try.prog 16 #[.int .i64 a0, .slice A1 l1.length c1] w fun e w' => ∃ v0_ v1_ : Value, e = .returned (.tuple #[v0_, v1_, .int .i64 r3]) ∧ Kd.R (Kd.int .i64) 3 w' w.heap.size (fun k_ => some k_ ≠ (v1_ : Value).ownBlock) v0_ r1 ∧ Kd.R (Kd.int .i64) 3 w' w.heap.size (fun k_ => some k_ ≠ (v0_ : Value).ownBlock) v1_ r2 ∧ Below w.heap.size w w'
-- NEEDS: fasti/cups.Rounds
-- INFO: 3, 40, 42, 45
-- IMPORTS: Derived.Test.YtaadhandkljcdaaXPlayc
def cups_Play.f (a0 : Int) (l1 : List S45) : Option (List Int × List Int × Int) := some (if 2 ≤ a0 ∧ a0 ≤ 64 then (match CQ.playS (CK.ties a0.toNat) l1 ⟨[], [], []⟩ with | some p => (CS.aliveTo p a0.toNat, CS.nextTo (CK.ties a0.toNat) p (a0.toNat - 1), 0) | none => ([], [], 230)) else ([], [], 1))
set_option maxRecDepth 100000 in
theorem cups_Play.calls (a0 : Int) (A1 : Option Addr) (c1 : Nat) (l1 : List (S45)) (r1 : List Int) (r2 : List Int) (r3 : Int) (w : World) (hr1 : Kd.C k45 w A1 l1.length l1) (hc1 : l1.length ≤ c1) (h : cups_Play.f a0 l1 = some (r1, r2, r3)) :
    Calls Try.prog 16 #[.int .i64 a0, .slice A1 l1.length c1] w fun e w' => ∃ v0_ v1_ : Value, e = .returned (.tuple #[v0_, v1_, .int .i64 r3]) ∧ Kd.R (Kd.int .i64) 3 w' w.heap.size (fun k_ => some k_ ≠ (v1_ : Value).ownBlock) v0_ r1 ∧ Kd.R (Kd.int .i64) 3 w' w.heap.size (fun k_ => some k_ ≠ (v0_ : Value).ownBlock) v1_ r2 ∧ Below w.heap.size w w' := by
  unfold cups_Play.f at h
  have h := Option.some.inj h
  by_cases hb : 2 ≤ a0 ∧ a0 ≤ 64
  · rw [if_pos hb] at h
    obtain ⟨n, rfl⟩ : ∃ n : Nat, a0 = (n : Int) := ⟨a0.toNat, (Int.toNat_of_nonneg (by omega)).symm⟩
    rw [Int.toNat_natCast] at h
    refine (CS.play_lists n (by omega) (by omega) A1 c1 l1 w hr1 hc1).mono ?_
    rintro e w' (⟨p, V4, V5, hp, rfl, h4, h5, hne, hbl⟩ | ⟨hp, rfl, hbl⟩)
    · rw [hp] at h
      cases h
      exact ⟨V4, V5, rfl, Kd.R_of_own h4 (fun k hk e => hne k hk e.symm), Kd.R_of_own h5 (fun k hk e => hne k e.symm hk), hbl⟩
    · rw [hp] at h
      cases h
      exact ⟨_, _, rfl, Kd.R_nil _ _ _ _ _, Kd.R_nil _ _ _ _ _, hbl⟩
  · rw [if_neg hb] at h
    cases h
    go_enter Try.func16, Try.ntmps16
    go_wp2_with fail
    refine (CR.play_bad a0 hb A1 l1.length c1 w).mono ?_
    rintro e w' ⟨rfl, hq⟩
    go_wp2_with fail
    exact bodyPost_ret (v := .tuple #[.slice none 0 0, .slice none 0 0, .int .i64 1]) (by simp [results, Try.results16, go_sem]) rfl ⟨_, _, rfl, Kd.R_nil _ _ _ _ _, Kd.R_nil _ _ _ _ _, hq⟩

end Go.Proofs.Ytaadhandkljcdaa.X
