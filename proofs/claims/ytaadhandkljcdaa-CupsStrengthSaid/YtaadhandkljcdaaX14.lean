/- Proved here: for functions of the program and of the reference, what each call returns (theorems '.calls'), under the conditions that each theorem names. Printed by this project's own driver over the kit's printer; parts marked EXT are written by hand. Lean checks it. -/
import Derived.Test.YtaadhandkljcdaaX0
import Derived.Test.YtaadhandkljcdaaX3
import Derived.Test.YtaadhandkljcdaaX6
import Derived.Test.YtaadhandkljcdaaX9
namespace Go.Proofs.Ytaadhandkljcdaa.X
open Go.RowKit Go.Proofs.YtaadhandkljcdaaW.PrintWords Go.Proofs.YtaadhandkljcdaaW.PrintLast Go.Proofs.YtaadhandkljcdaaW.PrintMore
attribute [local go_sem] max2_int min2_int max_two min_two max_three min_three max_four min_four   -- for this text's walks alone
set_option linter.unusedVariables false
set_option linter.unusedSimpArgs false

/-! ### fastilaw23_CupsStrength: function 7 -/
mutual
def fastilaw23_CupsStrength.j0 : Nat → Int → List (S42) → Int → Int → Int → Int → Bool → Option (Bool)
 | 0, _, _, _, _, _, _, _ => none
 | k + 1, x0, x3, x4, x5, x6, x7, x44 => if x44 = true then (if x4 = 0 then (some false) else (some (x7 == x4))) else (fastilaw23_CupsStrength.l0 k x0 x3 x5 ([] : List Int) ([] : List (S45)) (wrap64 (Int.tdiv (wrap64 (x0 + x6)) 2)) 0)
def fastilaw23_CupsStrength.l0 : Nat → Int → List (S42) → Int → List Int → List (S45) → Int → Int → Option (Bool)
 | 0, _, _, _, _, _, _, _ => none
 | k + 1, x0, x3, x5, x8, x9, x10, x11 => if x11 < (x3.length : Int) then (if 0 ≤ x11 then (if ((rd_T42 x3 x11).f1.f0) = 3 then (if ((rd_T42 x3 x11).f1.f1) ≥ 0 then (fastilaw23_CupsStrength.j2 k x0 x3 x5 x8 x9 x10 x11 ((rd_T42 x3 x11).f1.f1) ((rd_T42 x3 x11).f2.f1) (decide (((rd_T42 x3 x11).f1.f1) < x11))) else (fastilaw23_CupsStrength.j2 k x0 x3 x5 x8 x9 x10 x11 ((rd_T42 x3 x11).f1.f1) ((rd_T42 x3 x11).f2.f1) false)) else (fastilaw23_CupsStrength.j2 k x0 x3 x5 x8 x9 x10 x11 ((rd_T42 x3 x11).f1.f1) ((rd_T42 x3 x11).f2.f1) false)) else (none)) else (if x5 ≥ 1 then (some (x10 == 0)) else (some false))
def fastilaw23_CupsStrength.j2 : Nat → Int → List (S42) → Int → List Int → List (S45) → Int → Int → Int → Int → Bool → Option (Bool)
 | 0, _, _, _, _, _, _, _, _, _, _ => none
 | k + 1, x0, x3, x5, x8, x9, x10, x11, x12, x13, x89 => if x89 = true then (if 0 ≤ x12 then (if x12 < (x8.length : Int) then (fastilaw23_CupsStrength.j3 k x0 x3 x5 x8 x9 x10 x11 (rd x8 x12) x13) else (none)) else (none)) else (fastilaw23_CupsStrength.j3 k x0 x3 x5 x8 x9 x10 x11 x12 x13)
def fastilaw23_CupsStrength.j3 : Nat → Int → List (S42) → Int → List Int → List (S45) → Int → Int → Int → Int → Option (Bool)
 | 0, _, _, _, _, _, _, _, _, _ => none
 | k + 1, x0, x3, x5, x8, x9, x10, x11, x12, x13 => if 0 ≤ x11 then (if x11 < (x3.length : Int) then (if ((rd_T42 x3 x11).f2.f0) = 3 then (if x13 ≥ 0 then (fastilaw23_CupsStrength.j4 k x0 x3 x5 x8 x9 x10 x11 x12 x13 (decide (x13 < x11))) else (fastilaw23_CupsStrength.j4 k x0 x3 x5 x8 x9 x10 x11 x12 x13 false)) else (fastilaw23_CupsStrength.j4 k x0 x3 x5 x8 x9 x10 x11 x12 x13 false)) else (none)) else (none)
def fastilaw23_CupsStrength.j4 : Nat → Int → List (S42) → Int → List Int → List (S45) → Int → Int → Int → Int → Bool → Option (Bool)
 | 0, _, _, _, _, _, _, _, _, _, _ => none
 | k + 1, x0, x3, x5, x8, x9, x10, x11, x12, x13, x109 => if x109 = true then (if 0 ≤ x13 then (if x13 < (x8.length : Int) then (fastilaw23_CupsStrength.j5 k x0 x3 x5 x8 x9 x10 x11 x12 (rd x8 x13)) else (none)) else (none)) else (fastilaw23_CupsStrength.j5 k x0 x3 x5 x8 x9 x10 x11 x12 x13)
def fastilaw23_CupsStrength.j5 : Nat → Int → List (S42) → Int → List Int → List (S45) → Int → Int → Int → Int → Option (Bool)
 | 0, _, _, _, _, _, _, _, _, _ => none
 | k + 1, x0, x3, x5, x8, x9, x10, x11, x12, x13 => if x12 = x13 then (fastilaw23_CupsStrength.j6 k x0 x3 x5 x8 x9 x10 x11 x12 x13 true) else (if x11 = (wrap64 ((x3.length : Int) - 1)) then (if (mn x12 x13) = 0 then (fastilaw23_CupsStrength.j6 k x0 x3 x5 x8 x9 x10 x11 x12 x13 ((mx x12 x13) != 1)) else (fastilaw23_CupsStrength.j6 k x0 x3 x5 x8 x9 x10 x11 x12 x13 true)) else (fastilaw23_CupsStrength.j6 k x0 x3 x5 x8 x9 x10 x11 x12 x13 false))
def fastilaw23_CupsStrength.j6 : Nat → Int → List (S42) → Int → List Int → List (S45) → Int → Int → Int → Int → Bool → Option (Bool)
 | 0, _, _, _, _, _, _, _, _, _, _ => none
 | k + 1, x0, x3, x5, x8, x9, x10, x11, x12, x13, x135 => if x135 = true then (some false) else (if x13 < x12 then (fastilaw23_CupsStrength.j7 k x0 x3 x5 x8 x9 x10 x11 x12 x13 x11 0 1) else (fastilaw23_CupsStrength.j7 k x0 x3 x5 x8 x9 x10 x11 x12 x13 x11 1 0))
def fastilaw23_CupsStrength.j7 : Nat → Int → List (S42) → Int → List Int → List (S45) → Int → Int → Int → Int → Int → Int → Int → Option (Bool)
 | 0, _, _, _, _, _, _, _, _, _, _, _, _ => none
 | k + 1, x0, x3, x5, x8, x9, x10, x11, x12, x13, x236000, x236001, x236002 => if x8.length < 17592186044416 then ((some (x8 ++ [mn x12 x13] : List Int)).bind fun y236 => (if x9.length < 5864062014805 then ((some (x9 ++ [(⟨x236000, x236001, x236002⟩ : S45)] : List (S45))).bind fun y239 => (if (wrap64 (x11 + 1)) < (x3.length : Int) then (if 0 ≤ (wrap64 (x11 + 1)) then (if 0 ≤ x11 then (if x11 < (x3.length : Int) then (fastilaw23_CupsStrength.j8 k x0 x3 x5 y236 y239 x10 x11 (((rd_T42 x3 (wrap64 (x11 + 1))).f0) == ((rd_T42 x3 x11).f0))) else (none)) else (none)) else (none)) else (fastilaw23_CupsStrength.j8 k x0 x3 x5 y236 y239 x10 x11 false))) else (none))) else (none)
def fastilaw23_CupsStrength.j8 : Nat → Int → List (S42) → Int → List Int → List (S45) → Int → Int → Bool → Option (Bool)
 | 0, _, _, _, _, _, _, _, _ => none
 | k + 1, x0, x3, x5, x8, x9, x10, x11, x171 => if x171 = true then (fastilaw23_CupsStrength.l0 k x0 x3 x5 x8 x9 x10 (wrap64 (x11 + 1))) else ((cups_Play.f x0 x9).bind fun bt244 => (if bt244.2.2 = 0 then (fastilaw23_CupsStrength.j9 k x0 x3 x5 x8 x9 x10 x11 bt244.1 ((bt244.1.length : Int) != x10)) else (fastilaw23_CupsStrength.j9 k x0 x3 x5 x8 x9 x10 x11 bt244.1 true)))
def fastilaw23_CupsStrength.j9 : Nat → Int → List (S42) → Int → List Int → List (S45) → Int → Int → List Int → Bool → Option (Bool)
 | 0, _, _, _, _, _, _, _, _, _ => none
 | k + 1, x0, x3, x5, x8, x9, x10, x11, x15, x186 => if x186 = true then (some false) else (fastilaw23_CupsStrength.l1 k x0 x3 x5 x8 x9 x10 x11 x15 0)
def fastilaw23_CupsStrength.l1 : Nat → Int → List (S42) → Int → List Int → List (S45) → Int → Int → List Int → Int → Option (Bool)
 | 0, _, _, _, _, _, _, _, _, _ => none
 | k + 1, x0, x3, x5, x8, x9, x10, x11, x15, x18 => if x18 < x10 then (if 0 ≤ x18 then (if x18 < (x15.length : Int) then (if (rd x15 x18) = x18 then (fastilaw23_CupsStrength.l1 k x0 x3 x5 x8 x9 x10 x11 x15 (wrap64 (x18 + 1))) else (some false)) else (none)) else (none)) else (fastilaw23_CupsStrength.l0 k x0 x3 x5 x8 x9 (wrap64 (Int.tdiv x10 2)) (wrap64 (x11 + 1)))
end
def fastilaw23_CupsStrength.f (k : Nat) (a0 : Int) : Option (Bool) := (fastilaw23_sane.f).bind fun t221 => (if t221 = true then ((cups_Make.f a0).bind fun bt222 => ((cups_Rounds.f a0).bind fun bt226 => (if bt222.2 = 0 then (if bt226.2.2 = 0 then (fastilaw23_CupsStrength.j0 k a0 bt222.1 bt222.2 bt226.1 bt226.2.1 bt226.2.2 ((bt222.1.length : Int) != (wrap64 (a0 - 1)))) else (fastilaw23_CupsStrength.j0 k a0 bt222.1 bt222.2 bt226.1 bt226.2.1 bt226.2.2 true)) else (fastilaw23_CupsStrength.j0 k a0 bt222.1 bt222.2 bt226.1 bt226.2.1 bt226.2.2 true)))) else (some false))
theorem fastilaw23_CupsStrength.mono_l : ∀ k, (∀ y0 y1 y2 y3 y4 y5 y6, LeO (fastilaw23_CupsStrength.j0 k y0 y1 y2 y3 y4 y5 y6) (fastilaw23_CupsStrength.j0 (k + 1) y0 y1 y2 y3 y4 y5 y6)) ∧ (∀ y0 y1 y2 y3 y4 y5 y6, LeO (fastilaw23_CupsStrength.l0 k y0 y1 y2 y3 y4 y5 y6) (fastilaw23_CupsStrength.l0 (k + 1) y0 y1 y2 y3 y4 y5 y6)) ∧ (∀ y0 y1 y2 y3 y4 y5 y6 y7 y8 y9, LeO (fastilaw23_CupsStrength.j2 k y0 y1 y2 y3 y4 y5 y6 y7 y8 y9) (fastilaw23_CupsStrength.j2 (k + 1) y0 y1 y2 y3 y4 y5 y6 y7 y8 y9)) ∧ (∀ y0 y1 y2 y3 y4 y5 y6 y7 y8, LeO (fastilaw23_CupsStrength.j3 k y0 y1 y2 y3 y4 y5 y6 y7 y8) (fastilaw23_CupsStrength.j3 (k + 1) y0 y1 y2 y3 y4 y5 y6 y7 y8)) ∧ (∀ y0 y1 y2 y3 y4 y5 y6 y7 y8 y9, LeO (fastilaw23_CupsStrength.j4 k y0 y1 y2 y3 y4 y5 y6 y7 y8 y9) (fastilaw23_CupsStrength.j4 (k + 1) y0 y1 y2 y3 y4 y5 y6 y7 y8 y9)) ∧ (∀ y0 y1 y2 y3 y4 y5 y6 y7 y8, LeO (fastilaw23_CupsStrength.j5 k y0 y1 y2 y3 y4 y5 y6 y7 y8) (fastilaw23_CupsStrength.j5 (k + 1) y0 y1 y2 y3 y4 y5 y6 y7 y8)) ∧ (∀ y0 y1 y2 y3 y4 y5 y6 y7 y8 y9, LeO (fastilaw23_CupsStrength.j6 k y0 y1 y2 y3 y4 y5 y6 y7 y8 y9) (fastilaw23_CupsStrength.j6 (k + 1) y0 y1 y2 y3 y4 y5 y6 y7 y8 y9)) ∧ (∀ y0 y1 y2 y3 y4 y5 y6 y7 y8 y9 y10 y11, LeO (fastilaw23_CupsStrength.j7 k y0 y1 y2 y3 y4 y5 y6 y7 y8 y9 y10 y11) (fastilaw23_CupsStrength.j7 (k + 1) y0 y1 y2 y3 y4 y5 y6 y7 y8 y9 y10 y11)) ∧ (∀ y0 y1 y2 y3 y4 y5 y6 y7, LeO (fastilaw23_CupsStrength.j8 k y0 y1 y2 y3 y4 y5 y6 y7) (fastilaw23_CupsStrength.j8 (k + 1) y0 y1 y2 y3 y4 y5 y6 y7)) ∧ (∀ y0 y1 y2 y3 y4 y5 y6 y7 y8, LeO (fastilaw23_CupsStrength.j9 k y0 y1 y2 y3 y4 y5 y6 y7 y8) (fastilaw23_CupsStrength.j9 (k + 1) y0 y1 y2 y3 y4 y5 y6 y7 y8)) ∧ (∀ y0 y1 y2 y3 y4 y5 y6 y7 y8, LeO (fastilaw23_CupsStrength.l1 k y0 y1 y2 y3 y4 y5 y6 y7 y8) (fastilaw23_CupsStrength.l1 (k + 1) y0 y1 y2 y3 y4 y5 y6 y7 y8))
 | 0 => ⟨fun _ _ _ _ _ _ _ r h => by simp [fastilaw23_CupsStrength.j0] at h, fun _ _ _ _ _ _ _ r h => by simp [fastilaw23_CupsStrength.l0] at h, fun _ _ _ _ _ _ _ _ _ _ r h => by simp [fastilaw23_CupsStrength.j2] at h, fun _ _ _ _ _ _ _ _ _ r h => by simp [fastilaw23_CupsStrength.j3] at h, fun _ _ _ _ _ _ _ _ _ _ r h => by simp [fastilaw23_CupsStrength.j4] at h, fun _ _ _ _ _ _ _ _ _ r h => by simp [fastilaw23_CupsStrength.j5] at h, fun _ _ _ _ _ _ _ _ _ _ r h => by simp [fastilaw23_CupsStrength.j6] at h, fun _ _ _ _ _ _ _ _ _ _ _ _ r h => by simp [fastilaw23_CupsStrength.j7] at h, fun _ _ _ _ _ _ _ _ r h => by simp [fastilaw23_CupsStrength.j8] at h, fun _ _ _ _ _ _ _ _ _ r h => by simp [fastilaw23_CupsStrength.j9] at h, fun _ _ _ _ _ _ _ _ _ r h => by simp [fastilaw23_CupsStrength.l1] at h⟩
 | k + 1 => by
  obtain ⟨ih0, ih1, ih2, ih3, ih4, ih5, ih6, ih7, ih8, ih9, ih10⟩ := fastilaw23_CupsStrength.mono_l k
  refine ⟨?_, ?_, ?_, ?_, ?_, ?_, ?_, ?_, ?_, ?_, ?_⟩
  ·intro y0 y1 y2 y3 y4 y5 y6
   unfold fastilaw23_CupsStrength.j0
   repeat' first
   | (with_reducible exact ih0 _ _ _ _ _ _ _)
   | (with_reducible exact ih1 _ _ _ _ _ _ _)
   | (with_reducible exact ih2 _ _ _ _ _ _ _ _ _ _)
   | (with_reducible exact ih3 _ _ _ _ _ _ _ _ _)
   | (with_reducible exact ih4 _ _ _ _ _ _ _ _ _ _)
   | (with_reducible exact ih5 _ _ _ _ _ _ _ _ _)
   | (with_reducible exact ih6 _ _ _ _ _ _ _ _ _ _)
   | (with_reducible exact ih7 _ _ _ _ _ _ _ _ _ _ _ _)
   | (with_reducible exact ih8 _ _ _ _ _ _ _ _)
   | (with_reducible exact ih9 _ _ _ _ _ _ _ _ _)
   | (with_reducible exact ih10 _ _ _ _ _ _ _ _ _)
   | (with_reducible exact LeO.refl _)
   | (with_reducible exact LeO.none _)
   | (with_reducible refine LeO.ite ?_ ?_)
   | (with_reducible refine LeO.bind ?_ (fun _ => ?_))
   | exact ih0 _ _ _ _ _ _ _
   | exact ih1 _ _ _ _ _ _ _
   | exact ih2 _ _ _ _ _ _ _ _ _ _
   | exact ih3 _ _ _ _ _ _ _ _ _
   | exact ih4 _ _ _ _ _ _ _ _ _ _
   | exact ih5 _ _ _ _ _ _ _ _ _
   | exact ih6 _ _ _ _ _ _ _ _ _ _
   | exact ih7 _ _ _ _ _ _ _ _ _ _ _ _
   | exact ih8 _ _ _ _ _ _ _ _
   | exact ih9 _ _ _ _ _ _ _ _ _
   | exact ih10 _ _ _ _ _ _ _ _ _
   | exact LeO.none _
   | refine LeO.ite ?_ ?_
   | refine LeO.bind ?_ (fun _ => ?_)
  ·intro y0 y1 y2 y3 y4 y5 y6
   unfold fastilaw23_CupsStrength.l0
   repeat' first
   | (with_reducible exact ih0 _ _ _ _ _ _ _)
   | (with_reducible exact ih1 _ _ _ _ _ _ _)
   | (with_reducible exact ih2 _ _ _ _ _ _ _ _ _ _)
   | (with_reducible exact ih3 _ _ _ _ _ _ _ _ _)
   | (with_reducible exact ih4 _ _ _ _ _ _ _ _ _ _)
   | (with_reducible exact ih5 _ _ _ _ _ _ _ _ _)
   | (with_reducible exact ih6 _ _ _ _ _ _ _ _ _ _)
   | (with_reducible exact ih7 _ _ _ _ _ _ _ _ _ _ _ _)
   | (with_reducible exact ih8 _ _ _ _ _ _ _ _)
   | (with_reducible exact ih9 _ _ _ _ _ _ _ _ _)
   | (with_reducible exact ih10 _ _ _ _ _ _ _ _ _)
   | (with_reducible exact LeO.refl _)
   | (with_reducible exact LeO.none _)
   | (with_reducible refine LeO.ite ?_ ?_)
   | (with_reducible refine LeO.bind ?_ (fun _ => ?_))
   | exact ih0 _ _ _ _ _ _ _
   | exact ih1 _ _ _ _ _ _ _
   | exact ih2 _ _ _ _ _ _ _ _ _ _
   | exact ih3 _ _ _ _ _ _ _ _ _
   | exact ih4 _ _ _ _ _ _ _ _ _ _
   | exact ih5 _ _ _ _ _ _ _ _ _
   | exact ih6 _ _ _ _ _ _ _ _ _ _
   | exact ih7 _ _ _ _ _ _ _ _ _ _ _ _
   | exact ih8 _ _ _ _ _ _ _ _
   | exact ih9 _ _ _ _ _ _ _ _ _
   | exact ih10 _ _ _ _ _ _ _ _ _
   | exact LeO.none _
   | refine LeO.ite ?_ ?_
   | refine LeO.bind ?_ (fun _ => ?_)
  ·intro y0 y1 y2 y3 y4 y5 y6 y7 y8 y9
   unfold fastilaw23_CupsStrength.j2
   repeat' first
   | (with_reducible exact ih0 _ _ _ _ _ _ _)
   | (with_reducible exact ih1 _ _ _ _ _ _ _)
   | (with_reducible exact ih2 _ _ _ _ _ _ _ _ _ _)
   | (with_reducible exact ih3 _ _ _ _ _ _ _ _ _)
   | (with_reducible exact ih4 _ _ _ _ _ _ _ _ _ _)
   | (with_reducible exact ih5 _ _ _ _ _ _ _ _ _)
   | (with_reducible exact ih6 _ _ _ _ _ _ _ _ _ _)
   | (with_reducible exact ih7 _ _ _ _ _ _ _ _ _ _ _ _)
   | (with_reducible exact ih8 _ _ _ _ _ _ _ _)
   | (with_reducible exact ih9 _ _ _ _ _ _ _ _ _)
   | (with_reducible exact ih10 _ _ _ _ _ _ _ _ _)
   | (with_reducible exact LeO.refl _)
   | (with_reducible exact LeO.none _)
   | (with_reducible refine LeO.ite ?_ ?_)
   | (with_reducible refine LeO.bind ?_ (fun _ => ?_))
   | exact ih0 _ _ _ _ _ _ _
   | exact ih1 _ _ _ _ _ _ _
   | exact ih2 _ _ _ _ _ _ _ _ _ _
   | exact ih3 _ _ _ _ _ _ _ _ _
   | exact ih4 _ _ _ _ _ _ _ _ _ _
   | exact ih5 _ _ _ _ _ _ _ _ _
   | exact ih6 _ _ _ _ _ _ _ _ _ _
   | exact ih7 _ _ _ _ _ _ _ _ _ _ _ _
   | exact ih8 _ _ _ _ _ _ _ _
   | exact ih9 _ _ _ _ _ _ _ _ _
   | exact ih10 _ _ _ _ _ _ _ _ _
   | exact LeO.none _
   | refine LeO.ite ?_ ?_
   | refine LeO.bind ?_ (fun _ => ?_)
  ·intro y0 y1 y2 y3 y4 y5 y6 y7 y8
   unfold fastilaw23_CupsStrength.j3
   repeat' first
   | (with_reducible exact ih0 _ _ _ _ _ _ _)
   | (with_reducible exact ih1 _ _ _ _ _ _ _)
   | (with_reducible exact ih2 _ _ _ _ _ _ _ _ _ _)
   | (with_reducible exact ih3 _ _ _ _ _ _ _ _ _)
   | (with_reducible exact ih4 _ _ _ _ _ _ _ _ _ _)
   | (with_reducible exact ih5 _ _ _ _ _ _ _ _ _)
   | (with_reducible exact ih6 _ _ _ _ _ _ _ _ _ _)
   | (with_reducible exact ih7 _ _ _ _ _ _ _ _ _ _ _ _)
   | (with_reducible exact ih8 _ _ _ _ _ _ _ _)
   | (with_reducible exact ih9 _ _ _ _ _ _ _ _ _)
   | (with_reducible exact ih10 _ _ _ _ _ _ _ _ _)
   | (with_reducible exact LeO.refl _)
   | (with_reducible exact LeO.none _)
   | (with_reducible refine LeO.ite ?_ ?_)
   | (with_reducible refine LeO.bind ?_ (fun _ => ?_))
   | exact ih0 _ _ _ _ _ _ _
   | exact ih1 _ _ _ _ _ _ _
   | exact ih2 _ _ _ _ _ _ _ _ _ _
   | exact ih3 _ _ _ _ _ _ _ _ _
   | exact ih4 _ _ _ _ _ _ _ _ _ _
   | exact ih5 _ _ _ _ _ _ _ _ _
   | exact ih6 _ _ _ _ _ _ _ _ _ _
   | exact ih7 _ _ _ _ _ _ _ _ _ _ _ _
   | exact ih8 _ _ _ _ _ _ _ _
   | exact ih9 _ _ _ _ _ _ _ _ _
   | exact ih10 _ _ _ _ _ _ _ _ _
   | exact LeO.none _
   | refine LeO.ite ?_ ?_
   | refine LeO.bind ?_ (fun _ => ?_)
  ·intro y0 y1 y2 y3 y4 y5 y6 y7 y8 y9
   unfold fastilaw23_CupsStrength.j4
   repeat' first
   | (with_reducible exact ih0 _ _ _ _ _ _ _)
   | (with_reducible exact ih1 _ _ _ _ _ _ _)
   | (with_reducible exact ih2 _ _ _ _ _ _ _ _ _ _)
   | (with_reducible exact ih3 _ _ _ _ _ _ _ _ _)
   | (with_reducible exact ih4 _ _ _ _ _ _ _ _ _ _)
   | (with_reducible exact ih5 _ _ _ _ _ _ _ _ _)
   | (with_reducible exact ih6 _ _ _ _ _ _ _ _ _ _)
   | (with_reducible exact ih7 _ _ _ _ _ _ _ _ _ _ _ _)
   | (with_reducible exact ih8 _ _ _ _ _ _ _ _)
   | (with_reducible exact ih9 _ _ _ _ _ _ _ _ _)
   | (with_reducible exact ih10 _ _ _ _ _ _ _ _ _)
   | (with_reducible exact LeO.refl _)
   | (with_reducible exact LeO.none _)
   | (with_reducible refine LeO.ite ?_ ?_)
   | (with_reducible refine LeO.bind ?_ (fun _ => ?_))
   | exact ih0 _ _ _ _ _ _ _
   | exact ih1 _ _ _ _ _ _ _
   | exact ih2 _ _ _ _ _ _ _ _ _ _
   | exact ih3 _ _ _ _ _ _ _ _ _
   | exact ih4 _ _ _ _ _ _ _ _ _ _
   | exact ih5 _ _ _ _ _ _ _ _ _
   | exact ih6 _ _ _ _ _ _ _ _ _ _
   | exact ih7 _ _ _ _ _ _ _ _ _ _ _ _
   | exact ih8 _ _ _ _ _ _ _ _
   | exact ih9 _ _ _ _ _ _ _ _ _
   | exact ih10 _ _ _ _ _ _ _ _ _
   | exact LeO.none _
   | refine LeO.ite ?_ ?_
   | refine LeO.bind ?_ (fun _ => ?_)
  ·intro y0 y1 y2 y3 y4 y5 y6 y7 y8
   unfold fastilaw23_CupsStrength.j5
   repeat' first
   | (with_reducible exact ih0 _ _ _ _ _ _ _)
   | (with_reducible exact ih1 _ _ _ _ _ _ _)
   | (with_reducible exact ih2 _ _ _ _ _ _ _ _ _ _)
   | (with_reducible exact ih3 _ _ _ _ _ _ _ _ _)
   | (with_reducible exact ih4 _ _ _ _ _ _ _ _ _ _)
   | (with_reducible exact ih5 _ _ _ _ _ _ _ _ _)
   | (with_reducible exact ih6 _ _ _ _ _ _ _ _ _ _)
   | (with_reducible exact ih7 _ _ _ _ _ _ _ _ _ _ _ _)
   | (with_reducible exact ih8 _ _ _ _ _ _ _ _)
   | (with_reducible exact ih9 _ _ _ _ _ _ _ _ _)
   | (with_reducible exact ih10 _ _ _ _ _ _ _ _ _)
   | (with_reducible exact LeO.refl _)
   | (with_reducible exact LeO.none _)
   | (with_reducible refine LeO.ite ?_ ?_)
   | (with_reducible refine LeO.bind ?_ (fun _ => ?_))
   | exact ih0 _ _ _ _ _ _ _
   | exact ih1 _ _ _ _ _ _ _
   | exact ih2 _ _ _ _ _ _ _ _ _ _
   | exact ih3 _ _ _ _ _ _ _ _ _
   | exact ih4 _ _ _ _ _ _ _ _ _ _
   | exact ih5 _ _ _ _ _ _ _ _ _
   | exact ih6 _ _ _ _ _ _ _ _ _ _
   | exact ih7 _ _ _ _ _ _ _ _ _ _ _ _
   | exact ih8 _ _ _ _ _ _ _ _
   | exact ih9 _ _ _ _ _ _ _ _ _
   | exact ih10 _ _ _ _ _ _ _ _ _
   | exact LeO.none _
   | refine LeO.ite ?_ ?_
   | refine LeO.bind ?_ (fun _ => ?_)
  ·intro y0 y1 y2 y3 y4 y5 y6 y7 y8 y9
   unfold fastilaw23_CupsStrength.j6
   repeat' first
   | (with_reducible exact ih0 _ _ _ _ _ _ _)
   | (with_reducible exact ih1 _ _ _ _ _ _ _)
   | (with_reducible exact ih2 _ _ _ _ _ _ _ _ _ _)
   | (with_reducible exact ih3 _ _ _ _ _ _ _ _ _)
   | (with_reducible exact ih4 _ _ _ _ _ _ _ _ _ _)
   | (with_reducible exact ih5 _ _ _ _ _ _ _ _ _)
   | (with_reducible exact ih6 _ _ _ _ _ _ _ _ _ _)
   | (with_reducible exact ih7 _ _ _ _ _ _ _ _ _ _ _ _)
   | (with_reducible exact ih8 _ _ _ _ _ _ _ _)
   | (with_reducible exact ih9 _ _ _ _ _ _ _ _ _)
   | (with_reducible exact ih10 _ _ _ _ _ _ _ _ _)
   | (with_reducible exact LeO.refl _)
   | (with_reducible exact LeO.none _)
   | (with_reducible refine LeO.ite ?_ ?_)
   | (with_reducible refine LeO.bind ?_ (fun _ => ?_))
   | exact ih0 _ _ _ _ _ _ _
   | exact ih1 _ _ _ _ _ _ _
   | exact ih2 _ _ _ _ _ _ _ _ _ _
   | exact ih3 _ _ _ _ _ _ _ _ _
   | exact ih4 _ _ _ _ _ _ _ _ _ _
   | exact ih5 _ _ _ _ _ _ _ _ _
   | exact ih6 _ _ _ _ _ _ _ _ _ _
   | exact ih7 _ _ _ _ _ _ _ _ _ _ _ _
   | exact ih8 _ _ _ _ _ _ _ _
   | exact ih9 _ _ _ _ _ _ _ _ _
   | exact ih10 _ _ _ _ _ _ _ _ _
   | exact LeO.none _
   | refine LeO.ite ?_ ?_
   | refine LeO.bind ?_ (fun _ => ?_)
  ·intro y0 y1 y2 y3 y4 y5 y6 y7 y8 y9 y10 y11
   unfold fastilaw23_CupsStrength.j7
   repeat' first
   | (with_reducible exact ih0 _ _ _ _ _ _ _)
   | (with_reducible exact ih1 _ _ _ _ _ _ _)
   | (with_reducible exact ih2 _ _ _ _ _ _ _ _ _ _)
   | (with_reducible exact ih3 _ _ _ _ _ _ _ _ _)
   | (with_reducible exact ih4 _ _ _ _ _ _ _ _ _ _)
   | (with_reducible exact ih5 _ _ _ _ _ _ _ _ _)
   | (with_reducible exact ih6 _ _ _ _ _ _ _ _ _ _)
   | (with_reducible exact ih7 _ _ _ _ _ _ _ _ _ _ _ _)
   | (with_reducible exact ih8 _ _ _ _ _ _ _ _)
   | (with_reducible exact ih9 _ _ _ _ _ _ _ _ _)
   | (with_reducible exact ih10 _ _ _ _ _ _ _ _ _)
   | (with_reducible exact LeO.refl _)
   | (with_reducible exact LeO.none _)
   | (with_reducible refine LeO.ite ?_ ?_)
   | (with_reducible refine LeO.bind ?_ (fun _ => ?_))
   | exact ih0 _ _ _ _ _ _ _
   | exact ih1 _ _ _ _ _ _ _
   | exact ih2 _ _ _ _ _ _ _ _ _ _
   | exact ih3 _ _ _ _ _ _ _ _ _
   | exact ih4 _ _ _ _ _ _ _ _ _ _
   | exact ih5 _ _ _ _ _ _ _ _ _
   | exact ih6 _ _ _ _ _ _ _ _ _ _
   | exact ih7 _ _ _ _ _ _ _ _ _ _ _ _
   | exact ih8 _ _ _ _ _ _ _ _
   | exact ih9 _ _ _ _ _ _ _ _ _
   | exact ih10 _ _ _ _ _ _ _ _ _
   | exact LeO.none _
   | refine LeO.ite ?_ ?_
   | refine LeO.bind ?_ (fun _ => ?_)
  ·intro y0 y1 y2 y3 y4 y5 y6 y7
   unfold fastilaw23_CupsStrength.j8
   repeat' first
   | (with_reducible exact ih0 _ _ _ _ _ _ _)
   | (with_reducible exact ih1 _ _ _ _ _ _ _)
   | (with_reducible exact ih2 _ _ _ _ _ _ _ _ _ _)
   | (with_reducible exact ih3 _ _ _ _ _ _ _ _ _)
   | (with_reducible exact ih4 _ _ _ _ _ _ _ _ _ _)
   | (with_reducible exact ih5 _ _ _ _ _ _ _ _ _)
   | (with_reducible exact ih6 _ _ _ _ _ _ _ _ _ _)
   | (with_reducible exact ih7 _ _ _ _ _ _ _ _ _ _ _ _)
   | (with_reducible exact ih8 _ _ _ _ _ _ _ _)
   | (with_reducible exact ih9 _ _ _ _ _ _ _ _ _)
   | (with_reducible exact ih10 _ _ _ _ _ _ _ _ _)
   | (with_reducible exact LeO.refl _)
   | (with_reducible exact LeO.none _)
   | (with_reducible refine LeO.ite ?_ ?_)
   | (with_reducible refine LeO.bind ?_ (fun _ => ?_))
   | exact ih0 _ _ _ _ _ _ _
   | exact ih1 _ _ _ _ _ _ _
   | exact ih2 _ _ _ _ _ _ _ _ _ _
   | exact ih3 _ _ _ _ _ _ _ _ _
   | exact ih4 _ _ _ _ _ _ _ _ _ _
   | exact ih5 _ _ _ _ _ _ _ _ _
   | exact ih6 _ _ _ _ _ _ _ _ _ _
   | exact ih7 _ _ _ _ _ _ _ _ _ _ _ _
   | exact ih8 _ _ _ _ _ _ _ _
   | exact ih9 _ _ _ _ _ _ _ _ _
   | exact ih10 _ _ _ _ _ _ _ _ _
   | exact LeO.none _
   | refine LeO.ite ?_ ?_
   | refine LeO.bind ?_ (fun _ => ?_)
  ·intro y0 y1 y2 y3 y4 y5 y6 y7 y8
   unfold fastilaw23_CupsStrength.j9
   repeat' first
   | (with_reducible exact ih0 _ _ _ _ _ _ _)
   | (with_reducible exact ih1 _ _ _ _ _ _ _)
   | (with_reducible exact ih2 _ _ _ _ _ _ _ _ _ _)
   | (with_reducible exact ih3 _ _ _ _ _ _ _ _ _)
   | (with_reducible exact ih4 _ _ _ _ _ _ _ _ _ _)
   | (with_reducible exact ih5 _ _ _ _ _ _ _ _ _)
   | (with_reducible exact ih6 _ _ _ _ _ _ _ _ _ _)
   | (with_reducible exact ih7 _ _ _ _ _ _ _ _ _ _ _ _)
   | (with_reducible exact ih8 _ _ _ _ _ _ _ _)
   | (with_reducible exact ih9 _ _ _ _ _ _ _ _ _)
   | (with_reducible exact ih10 _ _ _ _ _ _ _ _ _)
   | (with_reducible exact LeO.refl _)
   | (with_reducible exact LeO.none _)
   | (with_reducible refine LeO.ite ?_ ?_)
   | (with_reducible refine LeO.bind ?_ (fun _ => ?_))
   | exact ih0 _ _ _ _ _ _ _
   | exact ih1 _ _ _ _ _ _ _
   | exact ih2 _ _ _ _ _ _ _ _ _ _
   | exact ih3 _ _ _ _ _ _ _ _ _
   | exact ih4 _ _ _ _ _ _ _ _ _ _
   | exact ih5 _ _ _ _ _ _ _ _ _
   | exact ih6 _ _ _ _ _ _ _ _ _ _
   | exact ih7 _ _ _ _ _ _ _ _ _ _ _ _
   | exact ih8 _ _ _ _ _ _ _ _
   | exact ih9 _ _ _ _ _ _ _ _ _
   | exact ih10 _ _ _ _ _ _ _ _ _
   | exact LeO.none _
   | refine LeO.ite ?_ ?_
   | refine LeO.bind ?_ (fun _ => ?_)
  ·intro y0 y1 y2 y3 y4 y5 y6 y7 y8
   unfold fastilaw23_CupsStrength.l1
   repeat' first
   | (with_reducible exact ih0 _ _ _ _ _ _ _)
   | (with_reducible exact ih1 _ _ _ _ _ _ _)
   | (with_reducible exact ih2 _ _ _ _ _ _ _ _ _ _)
   | (with_reducible exact ih3 _ _ _ _ _ _ _ _ _)
   | (with_reducible exact ih4 _ _ _ _ _ _ _ _ _ _)
   | (with_reducible exact ih5 _ _ _ _ _ _ _ _ _)
   | (with_reducible exact ih6 _ _ _ _ _ _ _ _ _ _)
   | (with_reducible exact ih7 _ _ _ _ _ _ _ _ _ _ _ _)
   | (with_reducible exact ih8 _ _ _ _ _ _ _ _)
   | (with_reducible exact ih9 _ _ _ _ _ _ _ _ _)
   | (with_reducible exact ih10 _ _ _ _ _ _ _ _ _)
   | (with_reducible exact LeO.refl _)
   | (with_reducible exact LeO.none _)
   | (with_reducible refine LeO.ite ?_ ?_)
   | (with_reducible refine LeO.bind ?_ (fun _ => ?_))
   | exact ih0 _ _ _ _ _ _ _
   | exact ih1 _ _ _ _ _ _ _
   | exact ih2 _ _ _ _ _ _ _ _ _ _
   | exact ih3 _ _ _ _ _ _ _ _ _
   | exact ih4 _ _ _ _ _ _ _ _ _ _
   | exact ih5 _ _ _ _ _ _ _ _ _
   | exact ih6 _ _ _ _ _ _ _ _ _ _
   | exact ih7 _ _ _ _ _ _ _ _ _ _ _ _
   | exact ih8 _ _ _ _ _ _ _ _
   | exact ih9 _ _ _ _ _ _ _ _ _
   | exact ih10 _ _ _ _ _ _ _ _ _
   | exact LeO.none _
   | refine LeO.ite ?_ ?_
   | refine LeO.bind ?_ (fun _ => ?_)
theorem fastilaw23_CupsStrength.mono : ∀ a0 k, LeO (fastilaw23_CupsStrength.f k a0) (fastilaw23_CupsStrength.f (k + 1) a0) := by
 intro a0 k
 obtain ⟨ih0, ih1, ih2, ih3, ih4, ih5, ih6, ih7, ih8, ih9, ih10⟩ := fastilaw23_CupsStrength.mono_l k
 unfold fastilaw23_CupsStrength.f
 repeat' first
   | (with_reducible exact ih0 _ _ _ _ _ _ _)
   | (with_reducible exact ih1 _ _ _ _ _ _ _)
   | (with_reducible exact ih2 _ _ _ _ _ _ _ _ _ _)
   | (with_reducible exact ih3 _ _ _ _ _ _ _ _ _)
   | (with_reducible exact ih4 _ _ _ _ _ _ _ _ _ _)
   | (with_reducible exact ih5 _ _ _ _ _ _ _ _ _)
   | (with_reducible exact ih6 _ _ _ _ _ _ _ _ _ _)
   | (with_reducible exact ih7 _ _ _ _ _ _ _ _ _ _ _ _)
   | (with_reducible exact ih8 _ _ _ _ _ _ _ _)
   | (with_reducible exact ih9 _ _ _ _ _ _ _ _ _)
   | (with_reducible exact ih10 _ _ _ _ _ _ _ _ _)
   | (with_reducible exact LeO.refl _)
   | (with_reducible exact LeO.none _)
   | (with_reducible refine LeO.ite ?_ ?_)
   | (with_reducible refine LeO.bind ?_ (fun _ => ?_))
   | exact ih0 _ _ _ _ _ _ _
   | exact ih1 _ _ _ _ _ _ _
   | exact ih2 _ _ _ _ _ _ _ _ _ _
   | exact ih3 _ _ _ _ _ _ _ _ _
   | exact ih4 _ _ _ _ _ _ _ _ _ _
   | exact ih5 _ _ _ _ _ _ _ _ _
   | exact ih6 _ _ _ _ _ _ _ _ _ _
   | exact ih7 _ _ _ _ _ _ _ _ _ _ _ _
   | exact ih8 _ _ _ _ _ _ _ _
   | exact ih9 _ _ _ _ _ _ _ _ _
   | exact ih10 _ _ _ _ _ _ _ _ _
   | exact LeO.none _
   | refine LeO.ite ?_ ?_
   | refine LeO.bind ?_ (fun _ => ?_)
set_option maxHeartbeats 8000000 in
set_option maxRecDepth 100000 in
theorem fastilaw23_CupsStrength.calls (k : Nat) (a0 : Int) (r : Bool) (w : World) (h : fastilaw23_CupsStrength.f k a0 = some r) :
  Calls Try.prog 7 #[.int .i64 a0] w fun e w' => e = .returned (.bool r) ∧ Below w.heap.size w w' := by
 have hu45 := Try.underlying45
 have HB := Aside0.mk (Below.refl w.heap.size w)
 have H : ((fastilaw23_sane.f).bind fun t221 => (if t221 = true then ((cups_Make.f a0).bind fun bt222 => ((cups_Rounds.f a0).bind fun bt226 => (if bt222.2 = 0 then (if bt226.2.2 = 0 then (fastilaw23_CupsStrength.j0 k a0 bt222.1 bt222.2 bt226.1 bt226.2.1 bt226.2.2 ((bt222.1.length : Int) != (wrap64 (a0 - 1)))) else (fastilaw23_CupsStrength.j0 k a0 bt222.1 bt222.2 bt226.1 bt226.2.1 bt226.2.2 true)) else (fastilaw23_CupsStrength.j0 k a0 bt222.1 bt222.2 bt226.1 bt226.2.1 bt226.2.2 true)))) else (some false))) = some r := h
 clear h
 replace H := Option.bind_eq_some_iff.mp H
 obtain ⟨t221, A20, H⟩ := H
 replace H : (if t221 = true then ((cups_Make.f a0).bind fun bt222 => ((cups_Rounds.f a0).bind fun bt226 => (if bt222.2 = 0 then (if bt226.2.2 = 0 then (fastilaw23_CupsStrength.j0 k a0 bt222.1 bt222.2 bt226.1 bt226.2.1 bt226.2.2 ((bt222.1.length : Int) != (wrap64 (a0 - 1)))) else (fastilaw23_CupsStrength.j0 k a0 bt222.1 bt222.2 bt226.1 bt226.2.1 bt226.2.2 true)) else (fastilaw23_CupsStrength.j0 k a0 bt222.1 bt222.2 bt226.1 bt226.2.1 bt226.2.2 true)))) else (some false)) = some r := H
 have A2 := Aside0.mk A20
 clear A20
 by_cases c3 : t221 = true
 ·subst c3
  have H1 : ((cups_Make.f a0).bind fun bt222 => ((cups_Rounds.f a0).bind fun bt226 => (if bt222.2 = 0 then (if bt226.2.2 = 0 then (fastilaw23_CupsStrength.j0 k a0 bt222.1 bt222.2 bt226.1 bt226.2.1 bt226.2.2 ((bt222.1.length : Int) != (wrap64 (a0 - 1)))) else (fastilaw23_CupsStrength.j0 k a0 bt222.1 bt222.2 bt226.1 bt226.2.1 bt226.2.2 true)) else (fastilaw23_CupsStrength.j0 k a0 bt222.1 bt222.2 bt226.1 bt226.2.1 bt226.2.2 true)))) = some r := by rw [if_pos rfl] at H; exact H
  clear H
  have H := H1
  clear H1
  replace H := Option.bind_eq_some_iff.mp H
  obtain ⟨⟨t222, t223⟩, A40, H⟩ := H
  replace H : ((cups_Rounds.f a0).bind fun bt226 => (if t223 = 0 then (if bt226.2.2 = 0 then (fastilaw23_CupsStrength.j0 k a0 t222 t223 bt226.1 bt226.2.1 bt226.2.2 ((t222.length : Int) != (wrap64 (a0 - 1)))) else (fastilaw23_CupsStrength.j0 k a0 t222 t223 bt226.1 bt226.2.1 bt226.2.2 true)) else (fastilaw23_CupsStrength.j0 k a0 t222 t223 bt226.1 bt226.2.1 bt226.2.2 true))) = some r := H
  have A4 := Aside0.mk A40
  clear A40
  replace H := Option.bind_eq_some_iff.mp H
  obtain ⟨⟨t226, t227, t228⟩, A50, H⟩ := H
  replace H : (if t223 = 0 then (if t228 = 0 then (fastilaw23_CupsStrength.j0 k a0 t222 t223 t226 t227 t228 ((t222.length : Int) != (wrap64 (a0 - 1)))) else (fastilaw23_CupsStrength.j0 k a0 t222 t223 t226 t227 t228 true)) else (fastilaw23_CupsStrength.j0 k a0 t222 t223 t226 t227 t228 true)) = some r := H
  have A5 := Aside0.mk A50
  clear A50
  have HC6 := Aside0.mk H
  clear H
  go_enter Try.func7, Try.ntmps7
  go_upto_region 5 with (first | (go_at_call 10; (with_reducible refine (fastilaw23_sane.calls  true _ A2.out).mono ?_); rintro e w7 ⟨rfl, hb⟩; have n0_ := Aside0.mk (below_step (by repeat (first | (with_reducible first | exact HB.out | apply below_alloc | apply pw_below_drewN | apply below_drew1) | exact HB.out)) hb); clear HB; have HB := n0_; clear n0_; (try clear hb); (try clear hb2); (try clear hk); (try clear hi)) | (go_at_call 13; (with_reducible refine (cups_Make.calls a0 t222 t223 _ A4.out).mono ?_); rintro e w8 ⟨v224, rfl, ho0, hb⟩; have n0_ := Aside0.mk (Kd.R_lower ho0 (below_size (by repeat (first | (with_reducible first | exact HB.out | apply below_alloc | apply pw_below_drewN | apply below_drew1) | exact HB.out)))); have n1_ := Aside0.mk (below_step (by repeat (first | (with_reducible first | exact HB.out | apply below_alloc | apply pw_below_drewN | apply below_drew1) | exact HB.out)) hb); clear HB; have HO225 := n0_; have HB := n1_; clear n0_ n1_; (try clear hb); (try clear hb2); (try clear hk); (try clear hi); (try clear ho0)) | (go_at_call 11; (with_reducible refine (cups_Rounds.calls a0 t226 t227 t228 _ A5.out).mono ?_); rintro e w' ⟨rfl, ⟨nd, rfl⟩⟩; (try first | exact ⟨rfl, _, World.drewN_drewN _ _ _⟩ | exact ⟨rfl, _, Eq.trans (World.drewN_drewN _ _ _) (congrArg (World.drewN _) (Nat.add_assoc _ _ _))⟩)))
  repeat (go_quiet (first | (go_at_call 10; (with_reducible refine (fastilaw23_sane.calls  true _ A2.out).mono ?_); rintro e w7 ⟨rfl, hb⟩; have n0_ := Aside0.mk (below_step (by repeat (first | (with_reducible first | exact HB.out | apply below_alloc | apply pw_below_drewN | apply below_drew1) | exact HB.out)) hb); clear HB; have HB := n0_; clear n0_; (try clear hb); (try clear hb2); (try clear hk); (try clear hi)) | (go_at_call 13; (with_reducible refine (cups_Make.calls a0 t222 t223 _ A4.out).mono ?_); rintro e w8 ⟨v224, rfl, ho0, hb⟩; have n0_ := Aside0.mk (Kd.R_lower ho0 (below_size (by repeat (first | (with_reducible first | exact HB.out | apply below_alloc | apply pw_below_drewN | apply below_drew1) | exact HB.out)))); have n1_ := Aside0.mk (below_step (by repeat (first | (with_reducible first | exact HB.out | apply below_alloc | apply pw_below_drewN | apply below_drew1) | exact HB.out)) hb); clear HB; have HO225 := n0_; have HB := n1_; clear n0_ n1_; (try clear hb); (try clear hb2); (try clear hk); (try clear hi); (try clear ho0)) | (go_at_call 11; (with_reducible refine (cups_Rounds.calls a0 t226 t227 t228 _ A5.out).mono ?_); rintro e w' ⟨rfl, ⟨nd, rfl⟩⟩; (try first | exact ⟨rfl, _, World.drewN_drewN _ _ _⟩ | exact ⟨rfl, _, Eq.trans (World.drewN_drewN _ _ _) (congrArg (World.drewN _) (Nat.add_assoc _ _ _))⟩))); go_upto_region 5 with (first | (go_at_call 10; (with_reducible refine (fastilaw23_sane.calls  true _ A2.out).mono ?_); rintro e w7 ⟨rfl, hb⟩; have n0_ := Aside0.mk (below_step (by repeat (first | (with_reducible first | exact HB.out | apply below_alloc | apply pw_below_drewN | apply below_drew1) | exact HB.out)) hb); clear HB; have HB := n0_; clear n0_; (try clear hb); (try clear hb2); (try clear hk); (try clear hi)) | (go_at_call 13; (with_reducible refine (cups_Make.calls a0 t222 t223 _ A4.out).mono ?_); rintro e w8 ⟨v224, rfl, ho0, hb⟩; have n0_ := Aside0.mk (Kd.R_lower ho0 (below_size (by repeat (first | (with_reducible first | exact HB.out | apply below_alloc | apply pw_below_drewN | apply below_drew1) | exact HB.out)))); have n1_ := Aside0.mk (below_step (by repeat (first | (with_reducible first | exact HB.out | apply below_alloc | apply pw_below_drewN | apply below_drew1) | exact HB.out)) hb); clear HB; have HO225 := n0_; have HB := n1_; clear n0_ n1_; (try clear hb); (try clear hb2); (try clear hk); (try clear hi); (try clear ho0)) | (go_at_call 11; (with_reducible refine (cups_Rounds.calls a0 t226 t227 t228 _ A5.out).mono ?_); rintro e w' ⟨rfl, ⟨nd, rfl⟩⟩; (try first | exact ⟨rfl, _, World.drewN_drewN _ _ _⟩ | exact ⟨rfl, _, Eq.trans (World.drewN_drewN _ _ _) (congrArg (World.drewN _) (Nat.add_assoc _ _ _))⟩))))
  (try simp only [Act.put, List.setIfInBounds_toArray, List.set_cons_zero, List.set_cons_succ])
  go_cut [44] (fun v44 wc => ∃ (kq : Nat) (x44_5 : Bool), v44 = .bool x44_5 ∧ Aside0 (fastilaw23_CupsStrength.j0 kq a0 t222 t223 t226 t227 t228 x44_5 = some r) ∧ Aside0 (kq ≤ k) ∧ Aside0 (Kd.R k42 42 wc w.heap.size (fun _ => True) v224 t222) ∧ Aside0 (Below w.heap.size w wc))
  case first =>
   have H := HC6.out
   clear HC6
   by_cases c9 : t223 = 0
   ·rw [if_pos c9] at H
    have c9b0 : (t223 == 0) = true := beq_iff_eq.mpr c9
    have c9b1 : (t223 != 0) = false := bne_eq_false_iff_eq.mpr c9
    clear c9
    (first | rw [c9b0] | (simp only [i64_w, i32_w]; rw [c9b0]) | skip)
    by_cases c10 : t228 = 0
    ·rw [if_pos c10] at H
     have c10b0 : (t228 == 0) = true := beq_iff_eq.mpr c10
     have c10b1 : (t228 != 0) = false := bne_eq_false_iff_eq.mpr c10
     clear c10
     have H' := Aside0.mk H
     clear H
     obtain ⟨Ao11, co11, eo11⟩ := Kd.R_slice HO225.out
     subst eo11
     go_wp2
     repeat (go_quiet (fail); try go_wp2)
     go_meet
     case rel => exact ⟨_, (((t222.length : Int) != (wrap64 (a0 - 1)))), (by first | rfl | (simp; done) | (simp [*]; done)), H', ⟨by first | omega | exact Nat.le_refl _⟩, ⟨by (with_reducible repeat (first | apply Kd.R_alloc | apply Kd.R_drewN | apply Kd.R_drew)); exact HO225.out⟩, ⟨by repeat (first | (with_reducible first | exact HB.out | apply below_alloc | apply pw_below_drewN | apply below_drew1) | exact HB.out)⟩⟩
    ·rw [if_neg c10] at H
     have c10b0 : (t228 == 0) = false := beq_eq_false_iff_ne.mpr c10
     have c10b1 : (t228 != 0) = true := bne_iff_ne.mpr c10
     have H' := Aside0.mk H
     clear H
     go_wp2
     repeat (go_quiet (fail); try go_wp2)
     go_meet
     case rel => exact ⟨_, (true), (by first | rfl | (simp; done) | (simp [*]; done)), H', ⟨by first | omega | exact Nat.le_refl _⟩, ⟨by (with_reducible repeat (first | apply Kd.R_alloc | apply Kd.R_drewN | apply Kd.R_drew)); exact HO225.out⟩, ⟨by repeat (first | (with_reducible first | exact HB.out | apply below_alloc | apply pw_below_drewN | apply below_drew1) | exact HB.out)⟩⟩
   ·rw [if_neg c9] at H
    have c9b0 : (t223 == 0) = false := beq_eq_false_iff_ne.mpr c9
    have c9b1 : (t223 != 0) = true := bne_iff_ne.mpr c9
    (first | rw [c9b0] | (simp only [i64_w, i32_w]; rw [c9b0]) | skip)
    have H' := Aside0.mk H
    clear H
    go_wp2
    repeat (go_quiet (fail); try go_wp2)
    go_meet
    case rel => exact ⟨_, (true), (by first | rfl | (simp; done) | (simp [*]; done)), H', ⟨by first | omega | exact Nat.le_refl _⟩, ⟨by (with_reducible repeat (first | apply Kd.R_alloc | apply Kd.R_drewN | apply Kd.R_drew)); exact HO225.out⟩, ⟨by repeat (first | (with_reducible first | exact HB.out | apply below_alloc | apply pw_below_drewN | apply below_drew1) | exact HB.out)⟩⟩
  case rest => as_aux_lemma =>
   clear HC6
   try clear c1; try clear p2; try clear c3; try clear p6; try clear c7; try clear c9; try clear c9b0; try clear c9b1; try clear c10; try clear c10b0; try clear c10b1
   obtain ⟨kq, x44_5, rfl, HA, HJ5, HO_3, HB⟩ := hcut
   cases kq with
   | zero => exact absurd HA.out (by simp [fastilaw23_CupsStrength.j0])
   | succ kj5 =>
    have H := HA.out
    clear HA
    simp only [fastilaw23_CupsStrength.j0] at H
    by_cases c12 : x44_5 = true
    ·subst c12
     have H1 : (if t223 = 0 then (some false) else (some (t228 == t223))) = some r := by rw [if_pos rfl] at H; exact H
     clear H
     have H := H1
     clear H1
     by_cases c13 : t223 = 0
     ·rw [if_pos c13] at H
      have c13b0 : (t223 == 0) = true := beq_iff_eq.mpr c13
      have c13b1 : (t223 != 0) = false := bne_eq_false_iff_eq.mpr c13
      clear c13
      obtain rfl := Option.some.inj H
      go_wp2
      repeat (go_quiet (fail); try go_wp2)
      go_ret
      exact ⟨by first | rfl | (simp [errW_none, errW_some] <;> rfl) | (simp [*, errW_none, errW_some] <;> rfl), by repeat (first | (with_reducible first | exact HB.out | apply below_alloc | apply pw_below_drewN | apply below_drew1) | exact HB.out)⟩
     ·rw [if_neg c13] at H
      have c13b0 : (t223 == 0) = false := beq_eq_false_iff_ne.mpr c13
      have c13b1 : (t223 != 0) = true := bne_iff_ne.mpr c13
      obtain rfl := Option.some.inj H
      go_wp2
      repeat (go_quiet (fail); try go_wp2)
      go_ret
      exact ⟨by first | rfl | (simp [errW_none, errW_some] <;> rfl) | (simp [*, errW_none, errW_some] <;> rfl), by repeat (first | (with_reducible first | exact HB.out | apply below_alloc | apply pw_below_drewN | apply below_drew1) | exact HB.out)⟩
    ·replace c12 := Bool.eq_false_iff.mpr c12
     subst c12
     have H1 : (fastilaw23_CupsStrength.l0 kj5 a0 t222 t226 ([] : List Int) ([] : List (S45)) (wrap64 (Int.tdiv (wrap64 (a0 + t227)) 2)) 0) = some r := by rw [if_neg (show ¬ (false = true) by decide)] at H; exact H
     clear H
     have H := H1
     clear H1
     have H' := Aside0.mk H
     clear H
     go_wp2
     repeat (go_quiet (fail); try go_wp2)
     go_loopg [8, 9, 10, 11] kj5 (fun kq v8 v9 v10 v11 w' => ∃ (x8_2 : List Int) (x9_2 : List (S45)) (x10_2 : Int) (x11_2 : Int), v10 = .int .i64 x10_2 ∧ v11 = .int .i64 x11_2 ∧ Aside0 (fastilaw23_CupsStrength.l0 kq a0 t222 t226 x8_2 x9_2 x10_2 x11_2 = some r) ∧ Aside0 (kq ≤ kj5) ∧ Aside0 (Kd.R k42 42 w' w.heap.size (fun _ => True) v224 t222) ∧ Aside0 (Kd.R (Kd.int .i64) 3 w' w.heap.size (fun _ => True) v8 x8_2) ∧ Aside0 (Kd.R k45 45 w' w.heap.size (fun _ => True) v9 x9_2) ∧ Aside0 (Below w.heap.size w w'))
     case atStart => exact ⟨(([] : List Int)), (([] : List (S45))), (wrap64 (Int.tdiv (wrap64 (a0 + t227)) 2)), (0), (by first | rfl | (simp; done) | (simp [*]; done)), (by first | rfl | (simp; done) | (simp [*]; done)), H', ⟨Nat.le_refl _⟩, ⟨by (with_reducible repeat (first | apply Kd.R_alloc | apply Kd.R_drewN | apply Kd.R_drew)); exact HO_3.out⟩, ⟨by first | exact Kd.R_nil _ _ _ _ _ | exact Kd.N_nil _ _ _ _ _ | exact Kd.V_nil _ _ _ _ _ | exact Kd.Q_nil _ _ _ _ _ | exact Kd.S_nil _ _ _ _ _⟩, ⟨by first | exact Kd.R_nil _ _ _ _ _ | exact Kd.N_nil _ _ _ _ _ | exact Kd.V_nil _ _ _ _ _ | exact Kd.Q_nil _ _ _ _ _ | exact Kd.S_nil _ _ _ _ _⟩, ⟨by repeat (first | (with_reducible first | exact HB.out | apply below_alloc | apply pw_below_drewN | apply below_drew1) | exact HB.out)⟩⟩
     case round => as_aux_lemma =>
      clear H'
      try clear c1; try clear p2; try clear c3; try clear p6; try clear c7; try clear c9; try clear c9b0; try clear c9b1; try clear c10; try clear c10b0; try clear c10b1; try clear c12; try clear c13; try clear c13b0; try clear c13b1
      obtain ⟨x8_2, x9_2, x10_2, x11_2, rfl, rfl, HA, HK2, HO_3, HO_8, HO_9, HB⟩ := hrel
      cases gk with
      | zero => exact absurd HA.out (by simp [fastilaw23_CupsStrength.l0])
      | succ k2 =>
       have H := HA.out
       clear HA
       simp only [fastilaw23_CupsStrength.l0] at H
       by_cases c14 : x11_2 < (t222.length : Int)
       ·rw [if_pos c14] at H
        have c14b0 : decide (x11_2 < (t222.length : Int)) = true := decide_eq_true c14
        clear c14
        by_cases c15 : 0 ≤ x11_2
        ·rw [if_pos c15] at H
         have c15b0 : decide (0 ≤ x11_2) = true := decide_eq_true c15
         clear c15
         have HC16 := Aside0.mk H
         clear H
         obtain ⟨Ao17, co17, eo17⟩ := Kd.R_slice HO_3.out
         subst eo17
         have p229 : 0 ≤ (x11_2 : Int) := of_decide_eq_true (by first | (with_reducible assumption) | assumption)
         have q229 : x11_2 < (t222.length : Int) := of_decide_eq_true (by first | (with_reducible assumption) | assumption)
         obtain ⟨ad229, e229, hx229_0, hx229_1, hx229_2, hx229_3, hx229_4, hx229_5, hx229_6⟩ := at_T42 (Kd.R_reads' HO_3.out).2.2 x11_2 p229 q229
         cases e229
         replace p229 := eq_true p229
         replace q229 := eq_true q229
         have p230 : 0 ≤ (x11_2 : Int) := of_decide_eq_true (by first | (with_reducible assumption) | assumption)
         have q230 : x11_2 < (t222.length : Int) := of_decide_eq_true (by first | (with_reducible assumption) | assumption)
         obtain ⟨ad230, e230, hx230_0, hx230_1, hx230_2, hx230_3, hx230_4, hx230_5, hx230_6⟩ := at_T42 (Kd.R_reads' HO_3.out).2.2 x11_2 p230 q230
         obtain rfl : ad229 = ad230 := (by injection e230)
         replace p230 := eq_true p230
         replace q230 := eq_true q230
         go_upto_region 14 with (fail)
         repeat (go_quiet (fail); go_upto_region 14 with (fail))
         go_cut [89] (fun v89 wc => ∃ (kq : Nat) (x89_15 : Bool), v89 = .bool x89_15 ∧ Aside0 (fastilaw23_CupsStrength.j2 kq a0 t222 t226 x8_2 x9_2 x10_2 x11_2 ((rd_T42 t222 x11_2).f1.f1) ((rd_T42 t222 x11_2).f2.f1) x89_15 = some r) ∧ Aside0 (kq ≤ k2) ∧ Aside0 (Kd.R k42 42 wc w.heap.size (fun _ => True) (.slice (some ad229) t222.length co17) t222) ∧ Aside0 (Kd.R (Kd.int .i64) 3 wc w.heap.size (fun _ => True) u8 x8_2) ∧ Aside0 (Kd.R k45 45 wc w.heap.size (fun _ => True) u9 x9_2) ∧ Aside0 (Below w.heap.size w wc))
         case first =>
          have H := HC16.out
          clear HC16
          by_cases c18 : ((rd_T42 t222 x11_2).f1.f0) = 3
          ·rw [if_pos c18] at H
           have c18b0 : (((rd_T42 t222 x11_2).f1.f0) == 3) = true := beq_iff_eq.mpr c18
           have c18b1 : (((rd_T42 t222 x11_2).f1.f0) != 3) = false := bne_eq_false_iff_eq.mpr c18
           clear c18
           (first | rw [c18b0] | (simp only [i64_w, i32_w]; rw [c18b0]) | skip)
           by_cases c19 : ((rd_T42 t222 x11_2).f1.f1) ≥ 0
           ·rw [if_pos c19] at H
            have c19b0 : decide (0 ≤ ((rd_T42 t222 x11_2).f1.f1)) = true := decide_eq_true c19
            clear c19
            have H' := Aside0.mk H
            clear H
            have p231 : 0 ≤ (x11_2 : Int) := of_decide_eq_true (by first | (with_reducible assumption) | assumption)
            have q231 : x11_2 < (t222.length : Int) := of_decide_eq_true (by first | (with_reducible assumption) | assumption)
            obtain ⟨ad231, e231, hx231_0, hx231_1, hx231_2, hx231_3, hx231_4, hx231_5, hx231_6⟩ := at_T42 (Kd.R_reads' HO_3.out).2.2 x11_2 p231 q231
            obtain rfl : ad229 = ad231 := (by injection e231)
            replace p231 := eq_true p231
            replace q231 := eq_true q231
            go_wp2
            repeat (go_quiet (fail); try go_wp2)
            go_meet
            case rel => exact ⟨_, (decide (((rd_T42 t222 x11_2).f1.f1) < x11_2)), (by first | rfl | (simp; done) | (simp [*]; done)), H', ⟨by have := HJ5.out; have := HK2.out; first | omega | exact Nat.le_refl _⟩, ⟨by (with_reducible repeat (first | apply Kd.R_alloc | apply Kd.R_drewN | apply Kd.R_drew)); exact HO_3.out⟩, ⟨by (with_reducible repeat (first | apply Kd.R_alloc | apply Kd.R_drewN | apply Kd.R_drew)); exact HO_8.out⟩, ⟨by (with_reducible repeat (first | apply Kd.R_alloc | apply Kd.R_drewN | apply Kd.R_drew)); exact HO_9.out⟩, ⟨by repeat (first | (with_reducible first | exact HB.out | apply below_alloc | apply pw_below_drewN | apply below_drew1) | exact HB.out)⟩⟩
           ·rw [if_neg c19] at H
            have c19b0 : decide (0 ≤ ((rd_T42 t222 x11_2).f1.f1)) = false := decide_eq_false c19
            clear c19
            have H' := Aside0.mk H
            clear H
            have p231 : 0 ≤ (x11_2 : Int) := of_decide_eq_true (by first | (with_reducible assumption) | assumption)
            have q231 : x11_2 < (t222.length : Int) := of_decide_eq_true (by first | (with_reducible assumption) | assumption)
            obtain ⟨ad231, e231, hx231_0, hx231_1, hx231_2, hx231_3, hx231_4, hx231_5, hx231_6⟩ := at_T42 (Kd.R_reads' HO_3.out).2.2 x11_2 p231 q231
            obtain rfl : ad229 = ad231 := (by injection e231)
            replace p231 := eq_true p231
            replace q231 := eq_true q231
            go_wp2
            repeat (go_quiet (fail); try go_wp2)
            go_meet
            case rel => exact ⟨_, (false), (by first | rfl | (simp; done) | (simp [*]; done)), H', ⟨by have := HJ5.out; have := HK2.out; first | omega | exact Nat.le_refl _⟩, ⟨by (with_reducible repeat (first | apply Kd.R_alloc | apply Kd.R_drewN | apply Kd.R_drew)); exact HO_3.out⟩, ⟨by (with_reducible repeat (first | apply Kd.R_alloc | apply Kd.R_drewN | apply Kd.R_drew)); exact HO_8.out⟩, ⟨by (with_reducible repeat (first | apply Kd.R_alloc | apply Kd.R_drewN | apply Kd.R_drew)); exact HO_9.out⟩, ⟨by repeat (first | (with_reducible first | exact HB.out | apply below_alloc | apply pw_below_drewN | apply below_drew1) | exact HB.out)⟩⟩
          ·rw [if_neg c18] at H
           have c18b0 : (((rd_T42 t222 x11_2).f1.f0) == 3) = false := beq_eq_false_iff_ne.mpr c18
           have c18b1 : (((rd_T42 t222 x11_2).f1.f0) != 3) = true := bne_iff_ne.mpr c18
           (first | rw [c18b0] | (simp only [i64_w, i32_w]; rw [c18b0]) | skip)
           have H' := Aside0.mk H
           clear H
           have p231 : 0 ≤ (x11_2 : Int) := of_decide_eq_true (by first | (with_reducible assumption) | assumption)
           have q231 : x11_2 < (t222.length : Int) := of_decide_eq_true (by first | (with_reducible assumption) | assumption)
           obtain ⟨ad231, e231, hx231_0, hx231_1, hx231_2, hx231_3, hx231_4, hx231_5, hx231_6⟩ := at_T42 (Kd.R_reads' HO_3.out).2.2 x11_2 p231 q231
           obtain rfl : ad229 = ad231 := (by injection e231)
           replace p231 := eq_true p231
           replace q231 := eq_true q231
           go_wp2
           repeat (go_quiet (fail); try go_wp2)
           go_meet
           case rel => exact ⟨_, (false), (by first | rfl | (simp; done) | (simp [*]; done)), H', ⟨by have := HJ5.out; have := HK2.out; first | omega | exact Nat.le_refl _⟩, ⟨by (with_reducible repeat (first | apply Kd.R_alloc | apply Kd.R_drewN | apply Kd.R_drew)); exact HO_3.out⟩, ⟨by (with_reducible repeat (first | apply Kd.R_alloc | apply Kd.R_drewN | apply Kd.R_drew)); exact HO_8.out⟩, ⟨by (with_reducible repeat (first | apply Kd.R_alloc | apply Kd.R_drewN | apply Kd.R_drew)); exact HO_9.out⟩, ⟨by repeat (first | (with_reducible first | exact HB.out | apply below_alloc | apply pw_below_drewN | apply below_drew1) | exact HB.out)⟩⟩
         case rest => as_aux_lemma =>
          clear HC16
          try clear c1; try clear p2; try clear q2; try clear hx2; try clear c3; try clear p6; try clear c7; try clear c9; try clear c9b0; try clear c9b1; try clear c10; try clear c10b0; try clear c10b1; try clear c12; try clear c13; try clear c13b0; try clear c13b1; try clear c14; try clear c14b0; try clear c15; try clear c15b0; try clear c18; try clear c18b0; try clear c18b1; try clear c19; try clear c19b0; try clear hx229_0; try clear hx229_1; try clear hx229_2; try clear hx229_3; try clear hx229_4; try clear hx229_5; try clear hx229_6; try clear hx230_0; try clear hx230_1; try clear hx230_2; try clear hx230_3; try clear hx230_4; try clear hx230_5; try clear hx230_6; try clear hx231_0; try clear hx231_1; try clear hx231_2; try clear hx231_3; try clear hx231_4; try clear hx231_5; try clear hx231_6; try clear p229; try clear p230; try clear p231; try clear q229; try clear q230; try clear q231
          obtain ⟨kq, x89_15, rfl, HA, HJ15, HO_3, HO_8, HO_9, HB⟩ := hcut
          cases kq with
          | zero => exact absurd HA.out (by simp [fastilaw23_CupsStrength.j2])
          | succ kj15 =>
           have H := HA.out
           clear HA
           simp only [fastilaw23_CupsStrength.j2] at H
           have HC20 := Aside0.mk H
           clear H
           go_upto_if 89 with (fail)
           repeat (go_quiet (fail); go_upto_if 89 with (fail))
           go_cut [12] (fun v12 wc => ∃ (kq : Nat) (x12_19 : Int), v12 = .int .i64 x12_19 ∧ Aside0 (fastilaw23_CupsStrength.j3 kq a0 t222 t226 x8_2 x9_2 x10_2 x11_2 x12_19 ((rd_T42 t222 x11_2).f2.f1) = some r) ∧ Aside0 (kq ≤ kj15) ∧ Aside0 (Kd.R k42 42 wc w.heap.size (fun _ => True) (.slice (some ad229) t222.length co17) t222) ∧ Aside0 (Kd.R (Kd.int .i64) 3 wc w.heap.size (fun _ => True) u8 x8_2) ∧ Aside0 (Kd.R k45 45 wc w.heap.size (fun _ => True) u9 x9_2) ∧ Aside0 (Below w.heap.size w wc))
           case first =>
            have H := HC20.out
            clear HC20
            by_cases c21 : x89_15 = true
            ·subst c21
             have H1 : (if 0 ≤ ((rd_T42 t222 x11_2).f1.f1) then (if ((rd_T42 t222 x11_2).f1.f1) < (x8_2.length : Int) then (fastilaw23_CupsStrength.j3 kj15 a0 t222 t226 x8_2 x9_2 x10_2 x11_2 (rd x8_2 ((rd_T42 t222 x11_2).f1.f1)) ((rd_T42 t222 x11_2).f2.f1)) else (none)) else (none)) = some r := by rw [if_pos rfl] at H; exact H
             clear H
             have H := H1
             clear H1
             by_cases c22 : 0 ≤ ((rd_T42 t222 x11_2).f1.f1)
             ·rw [if_pos c22] at H
              have c22b0 : decide (0 ≤ ((rd_T42 t222 x11_2).f1.f1)) = true := decide_eq_true c22
              clear c22
              (first | rw [c22b0] | (simp only [i64_w, i32_w]; rw [c22b0]) | skip)
              by_cases c23 : ((rd_T42 t222 x11_2).f1.f1) < (x8_2.length : Int)
              ·rw [if_pos c23] at H
               have c23b0 : decide (((rd_T42 t222 x11_2).f1.f1) < (x8_2.length : Int)) = true := decide_eq_true c23
               clear c23
               have H' := Aside0.mk H
               clear H
               obtain ⟨Ao24, co24, eo24⟩ := Kd.R_slice HO_8.out
               subst eo24
               have p232 : 0 ≤ (((rd_T42 t222 x11_2).f1.f1) : Int) := of_decide_eq_true (by first | (with_reducible assumption) | assumption)
               have q232 : ((rd_T42 t222 x11_2).f1.f1) < (x8_2.length : Int) := of_decide_eq_true (by first | (with_reducible assumption) | assumption)
               obtain ⟨ad232, e232, hx232_0⟩ := Kd.at_int (Kd.R_reads' HO_8.out).2.2 ((rd_T42 t222 x11_2).f1.f1) p232 q232
               cases e232
               replace p232 := eq_true p232
               replace q232 := eq_true q232
               go_wp2
               repeat (go_quiet (fail); try go_wp2)
               go_meet
               case rel => exact ⟨_, (rd x8_2 ((rd_T42 t222 x11_2).f1.f1)), (by first | rfl | (simp; done) | (simp [*]; done)), H', ⟨by have := HJ5.out; have := HK2.out; have := HJ15.out; first | omega | exact Nat.le_refl _⟩, ⟨by (with_reducible repeat (first | apply Kd.R_alloc | apply Kd.R_drewN | apply Kd.R_drew)); exact HO_3.out⟩, ⟨by (with_reducible repeat (first | apply Kd.R_alloc | apply Kd.R_drewN | apply Kd.R_drew)); exact HO_8.out⟩, ⟨by (with_reducible repeat (first | apply Kd.R_alloc | apply Kd.R_drewN | apply Kd.R_drew)); exact HO_9.out⟩, ⟨by repeat (first | (with_reducible first | exact HB.out | apply below_alloc | apply pw_below_drewN | apply below_drew1) | exact HB.out)⟩⟩
              ·rw [if_neg c23] at H
               exact absurd H (by simp)
             ·rw [if_neg c22] at H
              exact absurd H (by simp)
            ·replace c21 := Bool.eq_false_iff.mpr c21
             subst c21
             have H1 : (fastilaw23_CupsStrength.j3 kj15 a0 t222 t226 x8_2 x9_2 x10_2 x11_2 ((rd_T42 t222 x11_2).f1.f1) ((rd_T42 t222 x11_2).f2.f1)) = some r := by rw [if_neg (show ¬ (false = true) by decide)] at H; exact H
             clear H
             have H := H1
             clear H1
             have H' := Aside0.mk H
             clear H
             go_wp2
             repeat (go_quiet (fail); try go_wp2)
             go_meet
             case rel => exact ⟨_, (((rd_T42 t222 x11_2).f1.f1)), (by first | rfl | (simp; done) | (simp [*]; done)), H', ⟨by have := HJ5.out; have := HK2.out; have := HJ15.out; first | omega | exact Nat.le_refl _⟩, ⟨by (with_reducible repeat (first | apply Kd.R_alloc | apply Kd.R_drewN | apply Kd.R_drew)); exact HO_3.out⟩, ⟨by (with_reducible repeat (first | apply Kd.R_alloc | apply Kd.R_drewN | apply Kd.R_drew)); exact HO_8.out⟩, ⟨by (with_reducible repeat (first | apply Kd.R_alloc | apply Kd.R_drewN | apply Kd.R_drew)); exact HO_9.out⟩, ⟨by repeat (first | (with_reducible first | exact HB.out | apply below_alloc | apply pw_below_drewN | apply below_drew1) | exact HB.out)⟩⟩
           case rest => as_aux_lemma =>
            clear HC20
            try clear c1; try clear c2; try clear p2; try clear q2; try clear hx2; try clear c3; try clear p6; try clear c7; try clear c9; try clear c9b0; try clear c9b1; try clear c10; try clear c10b0; try clear c10b1; try clear c12; try clear c13; try clear c13b0; try clear c13b1; try clear c14; try clear c14b0; try clear c15; try clear c15b0; try clear c18; try clear c18b0; try clear c18b1; try clear c19; try clear c19b0; try clear c21; try clear c22; try clear c22b0; try clear p22; try clear q22; try clear hx22; try clear c23; try clear c23b0; try clear p23; try clear q23; try clear hx23; try clear hx229_0; try clear hx229_1; try clear hx229_2; try clear hx229_3; try clear hx229_4; try clear hx229_5; try clear hx229_6; try clear hx230_0; try clear hx230_1; try clear hx230_2; try clear hx230_3; try clear hx230_4; try clear hx230_5; try clear hx230_6; try clear hx231_0; try clear hx231_1; try clear hx231_2; try clear hx231_3; try clear hx231_4; try clear hx231_5; try clear hx231_6; try clear hx232_0; try clear p229; try clear p230; try clear p231; try clear p232; try clear q229; try clear q230; try clear q231; try clear q232
            obtain ⟨kq, x12_19, rfl, HA, HJ19, HO_3, HO_8, HO_9, HB⟩ := hcut
            cases kq with
            | zero => exact absurd HA.out (by simp [fastilaw23_CupsStrength.j3])
            | succ kj19 =>
             have H := HA.out
             clear HA
             simp only [fastilaw23_CupsStrength.j3] at H
             have HC25 := Aside0.mk H
             clear H
             go_upto_region 16 with (fail)
             repeat (go_quiet (fail); go_upto_region 16 with (fail))
             go_cut [109] (fun v109 wc => ∃ (kq : Nat) (x109_24 : Bool), v109 = .bool x109_24 ∧ Aside0 (fastilaw23_CupsStrength.j4 kq a0 t222 t226 x8_2 x9_2 x10_2 x11_2 x12_19 ((rd_T42 t222 x11_2).f2.f1) x109_24 = some r) ∧ Aside0 (kq ≤ kj19) ∧ Aside0 (Kd.R k42 42 wc w.heap.size (fun _ => True) (.slice (some ad229) t222.length co17) t222) ∧ Aside0 (Kd.R (Kd.int .i64) 3 wc w.heap.size (fun _ => True) u8 x8_2) ∧ Aside0 (Kd.R k45 45 wc w.heap.size (fun _ => True) u9 x9_2) ∧ Aside0 (Below w.heap.size w wc))
             case first =>
              have H := HC25.out
              clear HC25
              by_cases c26 : 0 ≤ x11_2
              ·rw [if_pos c26] at H
               have c26b0 : decide (0 ≤ x11_2) = true := decide_eq_true c26
               clear c26
               (first | rw [c26b0] | (simp only [i64_w, i32_w]; rw [c26b0]) | skip)
               by_cases c27 : x11_2 < (t222.length : Int)
               ·rw [if_pos c27] at H
                have c27b0 : decide (x11_2 < (t222.length : Int)) = true := decide_eq_true c27
                clear c27
                by_cases c28 : ((rd_T42 t222 x11_2).f2.f0) = 3
                ·rw [if_pos c28] at H
                 have c28b0 : (((rd_T42 t222 x11_2).f2.f0) == 3) = true := beq_iff_eq.mpr c28
                 have c28b1 : (((rd_T42 t222 x11_2).f2.f0) != 3) = false := bne_eq_false_iff_eq.mpr c28
                 clear c28
                 by_cases c29 : ((rd_T42 t222 x11_2).f2.f1) ≥ 0
                 ·rw [if_pos c29] at H
                  have c29b0 : decide (0 ≤ ((rd_T42 t222 x11_2).f2.f1)) = true := decide_eq_true c29
                  clear c29
                  have H' := Aside0.mk H
                  clear H
                  have p233 : 0 ≤ (x11_2 : Int) := of_decide_eq_true (by first | (with_reducible assumption) | assumption)
                  have q233 : x11_2 < (t222.length : Int) := of_decide_eq_true (by first | (with_reducible assumption) | assumption)
                  obtain ⟨ad233, e233, hx233_0, hx233_1, hx233_2, hx233_3, hx233_4, hx233_5, hx233_6⟩ := at_T42 (Kd.R_reads' HO_3.out).2.2 x11_2 p233 q233
                  obtain rfl : ad229 = ad233 := (by injection e233)
                  replace p233 := eq_true p233
                  replace q233 := eq_true q233
                  go_wp2
                  repeat (go_quiet (fail); try go_wp2)
                  go_meet
                  case rel => exact ⟨_, (decide (((rd_T42 t222 x11_2).f2.f1) < x11_2)), (by first | rfl | (simp; done) | (simp [*]; done)), H', ⟨by have := HJ5.out; have := HK2.out; have := HJ15.out; have := HJ19.out; first | omega | exact Nat.le_refl _⟩, ⟨by (with_reducible repeat (first | apply Kd.R_alloc | apply Kd.R_drewN | apply Kd.R_drew)); exact HO_3.out⟩, ⟨by (with_reducible repeat (first | apply Kd.R_alloc | apply Kd.R_drewN | apply Kd.R_drew)); exact HO_8.out⟩, ⟨by (with_reducible repeat (first | apply Kd.R_alloc | apply Kd.R_drewN | apply Kd.R_drew)); exact HO_9.out⟩, ⟨by repeat (first | (with_reducible first | exact HB.out | apply below_alloc | apply pw_below_drewN | apply below_drew1) | exact HB.out)⟩⟩
                 ·rw [if_neg c29] at H
                  have c29b0 : decide (0 ≤ ((rd_T42 t222 x11_2).f2.f1)) = false := decide_eq_false c29
                  clear c29
                  have H' := Aside0.mk H
                  clear H
                  have p233 : 0 ≤ (x11_2 : Int) := of_decide_eq_true (by first | (with_reducible assumption) | assumption)
                  have q233 : x11_2 < (t222.length : Int) := of_decide_eq_true (by first | (with_reducible assumption) | assumption)
                  obtain ⟨ad233, e233, hx233_0, hx233_1, hx233_2, hx233_3, hx233_4, hx233_5, hx233_6⟩ := at_T42 (Kd.R_reads' HO_3.out).2.2 x11_2 p233 q233
                  obtain rfl : ad229 = ad233 := (by injection e233)
                  replace p233 := eq_true p233
                  replace q233 := eq_true q233
                  go_wp2
                  repeat (go_quiet (fail); try go_wp2)
                  go_meet
                  case rel => exact ⟨_, (false), (by first | rfl | (simp; done) | (simp [*]; done)), H', ⟨by have := HJ5.out; have := HK2.out; have := HJ15.out; have := HJ19.out; first | omega | exact Nat.le_refl _⟩, ⟨by (with_reducible repeat (first | apply Kd.R_alloc | apply Kd.R_drewN | apply Kd.R_drew)); exact HO_3.out⟩, ⟨by (with_reducible repeat (first | apply Kd.R_alloc | apply Kd.R_drewN | apply Kd.R_drew)); exact HO_8.out⟩, ⟨by (with_reducible repeat (first | apply Kd.R_alloc | apply Kd.R_drewN | apply Kd.R_drew)); exact HO_9.out⟩, ⟨by repeat (first | (with_reducible first | exact HB.out | apply below_alloc | apply pw_below_drewN | apply below_drew1) | exact HB.out)⟩⟩
                ·rw [if_neg c28] at H
                 have c28b0 : (((rd_T42 t222 x11_2).f2.f0) == 3) = false := beq_eq_false_iff_ne.mpr c28
                 have c28b1 : (((rd_T42 t222 x11_2).f2.f0) != 3) = true := bne_iff_ne.mpr c28
                 have H' := Aside0.mk H
                 clear H
                 have p233 : 0 ≤ (x11_2 : Int) := of_decide_eq_true (by first | (with_reducible assumption) | assumption)
                 have q233 : x11_2 < (t222.length : Int) := of_decide_eq_true (by first | (with_reducible assumption) | assumption)
                 obtain ⟨ad233, e233, hx233_0, hx233_1, hx233_2, hx233_3, hx233_4, hx233_5, hx233_6⟩ := at_T42 (Kd.R_reads' HO_3.out).2.2 x11_2 p233 q233
                 obtain rfl : ad229 = ad233 := (by injection e233)
                 replace p233 := eq_true p233
                 replace q233 := eq_true q233
                 go_wp2
                 repeat (go_quiet (fail); try go_wp2)
                 go_meet
                 case rel => exact ⟨_, (false), (by first | rfl | (simp; done) | (simp [*]; done)), H', ⟨by have := HJ5.out; have := HK2.out; have := HJ15.out; have := HJ19.out; first | omega | exact Nat.le_refl _⟩, ⟨by (with_reducible repeat (first | apply Kd.R_alloc | apply Kd.R_drewN | apply Kd.R_drew)); exact HO_3.out⟩, ⟨by (with_reducible repeat (first | apply Kd.R_alloc | apply Kd.R_drewN | apply Kd.R_drew)); exact HO_8.out⟩, ⟨by (with_reducible repeat (first | apply Kd.R_alloc | apply Kd.R_drewN | apply Kd.R_drew)); exact HO_9.out⟩, ⟨by repeat (first | (with_reducible first | exact HB.out | apply below_alloc | apply pw_below_drewN | apply below_drew1) | exact HB.out)⟩⟩
               ·rw [if_neg c27] at H
                exact absurd H (by simp)
              ·rw [if_neg c26] at H
               exact absurd H (by simp)
             case rest => as_aux_lemma =>
              clear HC25
              try clear c1; try clear c2; try clear p2; try clear q2; try clear hx2; try clear c3; try clear p6; try clear c7; try clear c9; try clear c9b0; try clear c9b1; try clear c10; try clear c10b0; try clear c10b1; try clear c12; try clear c13; try clear c13b0; try clear c13b1; try clear c14; try clear c14b0; try clear c15; try clear c15b0; try clear c18; try clear c18b0; try clear c18b1; try clear c19; try clear c19b0; try clear c21; try clear c22; try clear c22b0; try clear p22; try clear q22; try clear hx22; try clear c23; try clear c23b0; try clear p23; try clear q23; try clear hx23; try clear c26; try clear c26b0; try clear c27; try clear c27b0; try clear c28; try clear c28b0; try clear c28b1; try clear c29; try clear c29b0; try clear hx229_0; try clear hx229_1; try clear hx229_2; try clear hx229_3; try clear hx229_4; try clear hx229_5; try clear hx229_6; try clear hx230_0; try clear hx230_1; try clear hx230_2; try clear hx230_3; try clear hx230_4; try clear hx230_5; try clear hx230_6; try clear hx231_0; try clear hx231_1; try clear hx231_2; try clear hx231_3; try clear hx231_4; try clear hx231_5; try clear hx231_6; try clear hx232_0; try clear hx233_0; try clear hx233_1; try clear hx233_2; try clear hx233_3; try clear hx233_4; try clear hx233_5; try clear hx233_6; try clear p229; try clear p230; try clear p231; try clear p232; try clear p233; try clear q229; try clear q230; try clear q231; try clear q232; try clear q233
              obtain ⟨kq, x109_24, rfl, HA, HJ24, HO_3, HO_8, HO_9, HB⟩ := hcut
              cases kq with
              | zero => exact absurd HA.out (by simp [fastilaw23_CupsStrength.j4])
              | succ kj24 =>
               have H := HA.out
               clear HA
               simp only [fastilaw23_CupsStrength.j4] at H
               have HC30 := Aside0.mk H
               clear H
               go_upto_if 109 with (fail)
               repeat (go_quiet (fail); go_upto_if 109 with (fail))
               go_cut [13] (fun v13 wc => ∃ (kq : Nat) (x13_29 : Int), v13 = .int .i64 x13_29 ∧ Aside0 (fastilaw23_CupsStrength.j5 kq a0 t222 t226 x8_2 x9_2 x10_2 x11_2 x12_19 x13_29 = some r) ∧ Aside0 (kq ≤ kj24) ∧ Aside0 (Kd.R k42 42 wc w.heap.size (fun _ => True) (.slice (some ad229) t222.length co17) t222) ∧ Aside0 (Kd.R (Kd.int .i64) 3 wc w.heap.size (fun _ => True) u8 x8_2) ∧ Aside0 (Kd.R k45 45 wc w.heap.size (fun _ => True) u9 x9_2) ∧ Aside0 (Below w.heap.size w wc))
               case first =>
                have H := HC30.out
                clear HC30
                by_cases c31 : x109_24 = true
                ·subst c31
                 have H1 : (if 0 ≤ ((rd_T42 t222 x11_2).f2.f1) then (if ((rd_T42 t222 x11_2).f2.f1) < (x8_2.length : Int) then (fastilaw23_CupsStrength.j5 kj24 a0 t222 t226 x8_2 x9_2 x10_2 x11_2 x12_19 (rd x8_2 ((rd_T42 t222 x11_2).f2.f1))) else (none)) else (none)) = some r := by rw [if_pos rfl] at H; exact H
                 clear H
                 have H := H1
                 clear H1
                 by_cases c32 : 0 ≤ ((rd_T42 t222 x11_2).f2.f1)
                 ·rw [if_pos c32] at H
                  have c32b0 : decide (0 ≤ ((rd_T42 t222 x11_2).f2.f1)) = true := decide_eq_true c32
                  clear c32
                  (first | rw [c32b0] | (simp only [i64_w, i32_w]; rw [c32b0]) | skip)
                  by_cases c33 : ((rd_T42 t222 x11_2).f2.f1) < (x8_2.length : Int)
                  ·rw [if_pos c33] at H
                   have c33b0 : decide (((rd_T42 t222 x11_2).f2.f1) < (x8_2.length : Int)) = true := decide_eq_true c33
                   clear c33
                   have H' := Aside0.mk H
                   clear H
                   obtain ⟨Ao34, co34, eo34⟩ := Kd.R_slice HO_8.out
                   subst eo34
                   have p234 : 0 ≤ (((rd_T42 t222 x11_2).f2.f1) : Int) := of_decide_eq_true (by first | (with_reducible assumption) | assumption)
                   have q234 : ((rd_T42 t222 x11_2).f2.f1) < (x8_2.length : Int) := of_decide_eq_true (by first | (with_reducible assumption) | assumption)
                   obtain ⟨ad234, e234, hx234_0⟩ := Kd.at_int (Kd.R_reads' HO_8.out).2.2 ((rd_T42 t222 x11_2).f2.f1) p234 q234
                   cases e234
                   replace p234 := eq_true p234
                   replace q234 := eq_true q234
                   go_wp2
                   repeat (go_quiet (fail); try go_wp2)
                   go_meet
                   case rel => exact ⟨_, (rd x8_2 ((rd_T42 t222 x11_2).f2.f1)), (by first | rfl | (simp; done) | (simp [*]; done)), H', ⟨by have := HJ5.out; have := HK2.out; have := HJ15.out; have := HJ19.out; have := HJ24.out; first | omega | exact Nat.le_refl _⟩, ⟨by (with_reducible repeat (first | apply Kd.R_alloc | apply Kd.R_drewN | apply Kd.R_drew)); exact HO_3.out⟩, ⟨by (with_reducible repeat (first | apply Kd.R_alloc | apply Kd.R_drewN | apply Kd.R_drew)); exact HO_8.out⟩, ⟨by (with_reducible repeat (first | apply Kd.R_alloc | apply Kd.R_drewN | apply Kd.R_drew)); exact HO_9.out⟩, ⟨by repeat (first | (with_reducible first | exact HB.out | apply below_alloc | apply pw_below_drewN | apply below_drew1) | exact HB.out)⟩⟩
                  ·rw [if_neg c33] at H
                   exact absurd H (by simp)
                 ·rw [if_neg c32] at H
                  exact absurd H (by simp)
                ·replace c31 := Bool.eq_false_iff.mpr c31
                 subst c31
                 have H1 : (fastilaw23_CupsStrength.j5 kj24 a0 t222 t226 x8_2 x9_2 x10_2 x11_2 x12_19 ((rd_T42 t222 x11_2).f2.f1)) = some r := by rw [if_neg (show ¬ (false = true) by decide)] at H; exact H
                 clear H
                 have H := H1
                 clear H1
                 have H' := Aside0.mk H
                 clear H
                 go_wp2
                 repeat (go_quiet (fail); try go_wp2)
                 go_meet
                 case rel => exact ⟨_, (((rd_T42 t222 x11_2).f2.f1)), (by first | rfl | (simp; done) | (simp [*]; done)), H', ⟨by have := HJ5.out; have := HK2.out; have := HJ15.out; have := HJ19.out; have := HJ24.out; first | omega | exact Nat.le_refl _⟩, ⟨by (with_reducible repeat (first | apply Kd.R_alloc | apply Kd.R_drewN | apply Kd.R_drew)); exact HO_3.out⟩, ⟨by (with_reducible repeat (first | apply Kd.R_alloc | apply Kd.R_drewN | apply Kd.R_drew)); exact HO_8.out⟩, ⟨by (with_reducible repeat (first | apply Kd.R_alloc | apply Kd.R_drewN | apply Kd.R_drew)); exact HO_9.out⟩, ⟨by repeat (first | (with_reducible first | exact HB.out | apply below_alloc | apply pw_below_drewN | apply below_drew1) | exact HB.out)⟩⟩
               case rest => as_aux_lemma =>
                clear HC30
                try clear c1; try clear c2; try clear p2; try clear q2; try clear hx2; try clear c3; try clear p6; try clear c7; try clear c9; try clear c9b0; try clear c9b1; try clear c10; try clear c10b0; try clear c10b1; try clear c12; try clear c13; try clear c13b0; try clear c13b1; try clear c14; try clear c14b0; try clear c15; try clear c15b0; try clear c18; try clear c18b0; try clear c18b1; try clear c19; try clear c19b0; try clear c21; try clear c22; try clear c22b0; try clear p22; try clear q22; try clear hx22; try clear c23; try clear c23b0; try clear p23; try clear q23; try clear hx23; try clear c26; try clear c26b0; try clear c27; try clear c27b0; try clear c28; try clear c28b0; try clear c28b1; try clear c29; try clear c29b0; try clear c31; try clear c32; try clear c32b0; try clear c33; try clear c33b0; try clear hx229_0; try clear hx229_1; try clear hx229_2; try clear hx229_3; try clear hx229_4; try clear hx229_5; try clear hx229_6; try clear hx230_0; try clear hx230_1; try clear hx230_2; try clear hx230_3; try clear hx230_4; try clear hx230_5; try clear hx230_6; try clear hx231_0; try clear hx231_1; try clear hx231_2; try clear hx231_3; try clear hx231_4; try clear hx231_5; try clear hx231_6; try clear hx232_0; try clear hx233_0; try clear hx233_1; try clear hx233_2; try clear hx233_3; try clear hx233_4; try clear hx233_5; try clear hx233_6; try clear hx234_0; try clear p229; try clear p230; try clear p231; try clear p232; try clear p233; try clear p234; try clear q229; try clear q230; try clear q231; try clear q232; try clear q233; try clear q234
                obtain ⟨kq, x13_29, rfl, HA, HJ29, HO_3, HO_8, HO_9, HB⟩ := hcut
                cases kq with
                | zero => exact absurd HA.out (by simp [fastilaw23_CupsStrength.j5])
                | succ kj29 =>
                 have H := HA.out
                 clear HA
                 simp only [fastilaw23_CupsStrength.j5] at H
                 have HC35 := Aside0.mk H
                 clear H
                 go_upto_region 18 with (fail)
                 repeat (go_quiet (fail); go_upto_region 18 with (fail))
                 go_cut [135] (fun v135 wc => ∃ (kq : Nat) (x135_34 : Bool), v135 = .bool x135_34 ∧ Aside0 (fastilaw23_CupsStrength.j6 kq a0 t222 t226 x8_2 x9_2 x10_2 x11_2 x12_19 x13_29 x135_34 = some r) ∧ Aside0 (kq ≤ kj29) ∧ Aside0 (Kd.R k42 42 wc w.heap.size (fun _ => True) (.slice (some ad229) t222.length co17) t222) ∧ Aside0 (Kd.R (Kd.int .i64) 3 wc w.heap.size (fun _ => True) u8 x8_2) ∧ Aside0 (Kd.R k45 45 wc w.heap.size (fun _ => True) u9 x9_2) ∧ Aside0 (Below w.heap.size w wc))
                 case first =>
                  have H := HC35.out
                  clear HC35
                  by_cases c36 : x12_19 = x13_29
                  ·rw [if_pos c36] at H
                   have c36b0 : (x12_19 == x13_29) = true := beq_iff_eq.mpr c36
                   have c36b1 : (x12_19 != x13_29) = false := bne_eq_false_iff_eq.mpr c36
                   clear c36
                   (first | rw [c36b0] | (simp only [i64_w, i32_w]; rw [c36b0]) | skip)
                   have H' := Aside0.mk H
                   clear H
                   go_wp2
                   repeat (go_quiet (fail); try go_wp2)
                   go_meet
                   case rel => exact ⟨_, (true), (by first | rfl | (simp; done) | (simp [*]; done)), H', ⟨by have := HJ5.out; have := HK2.out; have := HJ15.out; have := HJ19.out; have := HJ24.out; have := HJ29.out; first | omega | exact Nat.le_refl _⟩, ⟨by (with_reducible repeat (first | apply Kd.R_alloc | apply Kd.R_drewN | apply Kd.R_drew)); exact HO_3.out⟩, ⟨by (with_reducible repeat (first | apply Kd.R_alloc | apply Kd.R_drewN | apply Kd.R_drew)); exact HO_8.out⟩, ⟨by (with_reducible repeat (first | apply Kd.R_alloc | apply Kd.R_drewN | apply Kd.R_drew)); exact HO_9.out⟩, ⟨by repeat (first | (with_reducible first | exact HB.out | apply below_alloc | apply pw_below_drewN | apply below_drew1) | exact HB.out)⟩⟩
                  ·rw [if_neg c36] at H
                   have c36b0 : (x12_19 == x13_29) = false := beq_eq_false_iff_ne.mpr c36
                   have c36b1 : (x12_19 != x13_29) = true := bne_iff_ne.mpr c36
                   (first | rw [c36b0] | (simp only [i64_w, i32_w]; rw [c36b0]) | skip)
                   by_cases c37 : x11_2 = (wrap64 ((t222.length : Int) - 1))
                   ·rw [if_pos c37] at H
                    have c37b0 : (x11_2 == (wrap64 ((t222.length : Int) - 1))) = true := beq_iff_eq.mpr c37
                    have c37b1 : (x11_2 != (wrap64 ((t222.length : Int) - 1))) = false := bne_eq_false_iff_eq.mpr c37
                    clear c37
                    obtain ⟨ji38, hji38⟩ : ∃ j_ : Int, (mn x12_19 x13_29) = j_ := ⟨_, rfl⟩
                    replace H : (if (ji38) = 0 then (fastilaw23_CupsStrength.j6 kj29 a0 t222 t226 x8_2 x9_2 x10_2 x11_2 x12_19 x13_29 ((mx x12_19 x13_29) != 1)) else (fastilaw23_CupsStrength.j6 kj29 a0 t222 t226 x8_2 x9_2 x10_2 x11_2 x12_19 x13_29 true)) = some r := by first | (rw [hji38] at H; exact H) | (simp only [hji38] at H ⊢; exact H)
                    have hji38_ : (if x13_29 < x12_19 then x13_29 else x12_19) = ji38 := hji38
                    by_cases c39 : (ji38) = 0
                    ·rw [if_pos c39] at H
                     have c39b0 : ((ji38) == 0) = true := beq_iff_eq.mpr c39
                     have c39b1 : ((ji38) != 0) = false := bne_eq_false_iff_eq.mpr c39
                     clear c39
                     obtain ⟨ji40, hji40⟩ : ∃ j_ : Int, (mx x12_19 x13_29) = j_ := ⟨_, rfl⟩
                     replace H : (fastilaw23_CupsStrength.j6 kj29 a0 t222 t226 x8_2 x9_2 x10_2 x11_2 x12_19 x13_29 ((ji40) != 1)) = some r := by first | (rw [hji40] at H; exact H) | (simp only [hji40] at H ⊢; exact H)
                     have hji40_ : (if x12_19 < x13_29 then x13_29 else x12_19) = ji40 := hji40
                     have H' := Aside0.mk H
                     clear H
                     go_wp2
                     repeat (go_quiet (fail); try go_wp2)
                     go_meet
                     case rel => exact ⟨_, (((ji40) != 1)), (by first | rfl | (simp; done) | (simp only [← hji40] <;> (first | rfl | simp)) | (simp [*]; done)), H', ⟨by have := HJ5.out; have := HK2.out; have := HJ15.out; have := HJ19.out; have := HJ24.out; have := HJ29.out; first | omega | exact Nat.le_refl _⟩, ⟨by (with_reducible repeat (first | apply Kd.R_alloc | apply Kd.R_drewN | apply Kd.R_drew)); exact HO_3.out⟩, ⟨by (with_reducible repeat (first | apply Kd.R_alloc | apply Kd.R_drewN | apply Kd.R_drew)); exact HO_8.out⟩, ⟨by (with_reducible repeat (first | apply Kd.R_alloc | apply Kd.R_drewN | apply Kd.R_drew)); exact HO_9.out⟩, ⟨by repeat (first | (with_reducible first | exact HB.out | apply below_alloc | apply pw_below_drewN | apply below_drew1) | exact HB.out)⟩⟩
                    ·rw [if_neg c39] at H
                     have c39b0 : ((ji38) == 0) = false := beq_eq_false_iff_ne.mpr c39
                     have c39b1 : ((ji38) != 0) = true := bne_iff_ne.mpr c39
                     have H' := Aside0.mk H
                     clear H
                     go_wp2
                     repeat (go_quiet (fail); try go_wp2)
                     go_meet
                     case rel => exact ⟨_, (true), (by first | rfl | (simp; done) | (simp [*]; done)), H', ⟨by have := HJ5.out; have := HK2.out; have := HJ15.out; have := HJ19.out; have := HJ24.out; have := HJ29.out; first | omega | exact Nat.le_refl _⟩, ⟨by (with_reducible repeat (first | apply Kd.R_alloc | apply Kd.R_drewN | apply Kd.R_drew)); exact HO_3.out⟩, ⟨by (with_reducible repeat (first | apply Kd.R_alloc | apply Kd.R_drewN | apply Kd.R_drew)); exact HO_8.out⟩, ⟨by (with_reducible repeat (first | apply Kd.R_alloc | apply Kd.R_drewN | apply Kd.R_drew)); exact HO_9.out⟩, ⟨by repeat (first | (with_reducible first | exact HB.out | apply below_alloc | apply pw_below_drewN | apply below_drew1) | exact HB.out)⟩⟩
                   ·rw [if_neg c37] at H
                    have c37b0 : (x11_2 == (wrap64 ((t222.length : Int) - 1))) = false := beq_eq_false_iff_ne.mpr c37
                    have c37b1 : (x11_2 != (wrap64 ((t222.length : Int) - 1))) = true := bne_iff_ne.mpr c37
                    have H' := Aside0.mk H
                    clear H
                    go_wp2
                    repeat (go_quiet (fail); try go_wp2)
                    go_meet
                    case rel => exact ⟨_, (false), (by first | rfl | (simp; done) | (simp [*]; done)), H', ⟨by have := HJ5.out; have := HK2.out; have := HJ15.out; have := HJ19.out; have := HJ24.out; have := HJ29.out; first | omega | exact Nat.le_refl _⟩, ⟨by (with_reducible repeat (first | apply Kd.R_alloc | apply Kd.R_drewN | apply Kd.R_drew)); exact HO_3.out⟩, ⟨by (with_reducible repeat (first | apply Kd.R_alloc | apply Kd.R_drewN | apply Kd.R_drew)); exact HO_8.out⟩, ⟨by (with_reducible repeat (first | apply Kd.R_alloc | apply Kd.R_drewN | apply Kd.R_drew)); exact HO_9.out⟩, ⟨by repeat (first | (with_reducible first | exact HB.out | apply below_alloc | apply pw_below_drewN | apply below_drew1) | exact HB.out)⟩⟩
                 case rest => as_aux_lemma =>
                  clear HC35
                  try clear c1; try clear c2; try clear p2; try clear q2; try clear hx2; try clear c3; try clear p6; try clear c7; try clear c9; try clear c9b0; try clear c9b1; try clear c10; try clear c10b0; try clear c10b1; try clear c12; try clear c13; try clear c13b0; try clear c13b1; try clear c14; try clear c14b0; try clear c15; try clear c15b0; try clear c18; try clear c18b0; try clear c18b1; try clear c19; try clear c19b0; try clear c21; try clear c22; try clear c22b0; try clear p22; try clear q22; try clear hx22; try clear c23; try clear c23b0; try clear p23; try clear q23; try clear hx23; try clear c26; try clear c26b0; try clear c27; try clear c27b0; try clear c28; try clear c28b0; try clear c28b1; try clear c29; try clear c29b0; try clear c31; try clear c32; try clear c32b0; try clear c33; try clear c33b0; try clear c36; try clear c36b0; try clear c36b1; try clear c37; try clear c37b0; try clear c37b1; try clear c39; try clear c39b0; try clear c39b1; try clear hx229_0; try clear hx229_1; try clear hx229_2; try clear hx229_3; try clear hx229_4; try clear hx229_5; try clear hx229_6; try clear hx230_0; try clear hx230_1; try clear hx230_2; try clear hx230_3; try clear hx230_4; try clear hx230_5; try clear hx230_6; try clear hx231_0; try clear hx231_1; try clear hx231_2; try clear hx231_3; try clear hx231_4; try clear hx231_5; try clear hx231_6; try clear hx232_0; try clear hx233_0; try clear hx233_1; try clear hx233_2; try clear hx233_3; try clear hx233_4; try clear hx233_5; try clear hx233_6; try clear hx234_0; try clear p229; try clear p230; try clear p231; try clear p232; try clear p233; try clear p234; try clear q229; try clear q230; try clear q231; try clear q232; try clear q233; try clear q234
                  obtain ⟨kq, x135_34, rfl, HA, HJ34, HO_3, HO_8, HO_9, HB⟩ := hcut
                  cases kq with
                  | zero => exact absurd HA.out (by simp [fastilaw23_CupsStrength.j6])
                  | succ kj34 =>
                   have H := HA.out
                   clear HA
                   simp only [fastilaw23_CupsStrength.j6] at H
                   by_cases c41 : x135_34 = true
                   ·subst c41
                    have H1 : (some false) = some r := by rw [if_pos rfl] at H; exact H
                    clear H
                    have H := H1
                    clear H1
                    obtain rfl := Option.some.inj H
                    go_wp2
                    repeat (go_quiet (fail); try go_wp2)
                    go_ret
                    exact ⟨by first | rfl | (simp [errW_none, errW_some] <;> rfl) | (simp [*, errW_none, errW_some] <;> rfl), by repeat (first | (with_reducible first | exact HB.out | apply below_alloc | apply pw_below_drewN | apply below_drew1) | exact HB.out)⟩
                   ·replace c41 := Bool.eq_false_iff.mpr c41
                    subst c41
                    have H1 : (if x13_29 < x12_19 then (fastilaw23_CupsStrength.j7 kj34 a0 t222 t226 x8_2 x9_2 x10_2 x11_2 x12_19 x13_29 x11_2 0 1) else (fastilaw23_CupsStrength.j7 kj34 a0 t222 t226 x8_2 x9_2 x10_2 x11_2 x12_19 x13_29 x11_2 1 0)) = some r := by rw [if_neg (show ¬ (false = true) by decide)] at H; exact H
                    clear H
                    have H := H1
                    clear H1
                    have HC42 := Aside0.mk H
                    clear H
                    go_upto_if 140 with (first | ((with_reducible refine gate_dst (N := 14) rfl ?_); (try (refine gate_guard (by rfl) ?_; dsimp only)); refine box_event ?hg (N := 14) ?hd (cs := #[.int .i64 0, .int .i64 0, .int .i64 0]) (t := 45) ?hr ?_; (case hd => rfl); (case hg => rfl); (case hr => first | (go_simp; done) | (go_simp; rfl)); intro gb235 hg w43 hbox hb; have n0_ := Aside0.mk (Kd.R_below (by (with_reducible repeat (first | apply Kd.R_alloc | apply Kd.R_drewN | apply Kd.R_drew)); exact HO_3.out) hb); have n1_ := Aside0.mk (Kd.R_below (by (with_reducible repeat (first | apply Kd.R_alloc | apply Kd.R_drewN | apply Kd.R_drew)); exact HO_8.out) hb); have n2_ := Aside0.mk (Kd.R_below (Kd.R_elderB (by (with_reducible repeat (first | apply Kd.R_alloc | apply Kd.R_drewN | apply Kd.R_drew)); exact HO_9.out) gb235 (Nat.le_of_eq hg.symm)) hb); have n3_ := Aside0.mk (below_step (by repeat (first | (with_reducible first | exact HB.out | apply below_alloc | apply pw_below_drewN | apply below_drew1) | exact HB.out)) hb); have n4_ := Aside0.mk (hbox); have n5_ := Aside0.mk ((by rw [hg]; exact (below_size (by repeat (first | (with_reducible first | exact HB.out | apply below_alloc | apply pw_below_drewN | apply below_drew1) | exact HB.out))) : w.heap.size ≤ gb235)); have n6_ := Aside0.mk ((by rw [hg]; exact (below_size (by repeat (first | (with_reducible first | exact HB.out | apply below_alloc | apply pw_below_drewN | apply below_drew1) | exact HB.out))) : w.heap.size ≤ gb235)); clear HO_3; clear HO_8; clear HO_9; clear HB; have HO_3 := n0_; have HO_8 := n1_; have HO_9 := n2_; have HB := n3_; have BK235 := n4_; have GW235 := n5_; have GE235 := n6_; clear n0_ n1_ n2_ n3_ n4_ n5_ n6_; clear hb hbox hg; have hcz44_0 : w43.cell? ⟨gb235, 0, none⟩ = some (.int .i64 0) := (blk_cell BK235.out 0).trans rfl; have hcz44_1 : w43.cell? ⟨gb235, 1, none⟩ = some (.int .i64 0) := (blk_cell BK235.out 1).trans rfl; have hcz44_2 : w43.cell? ⟨gb235, 2, none⟩ = some (.int .i64 0) := (blk_cell BK235.out 2).trans rfl; have hfz44_0 := blk_frozen BK235.out 0; have hfz44_1 := blk_frozen BK235.out 1; have hfz44_2 := blk_frozen BK235.out 2))
                    repeat (go_quiet (first | ((with_reducible refine gate_dst (N := 14) rfl ?_); (try (refine gate_guard (by rfl) ?_; dsimp only)); refine box_event ?hg (N := 14) ?hd (cs := #[.int .i64 0, .int .i64 0, .int .i64 0]) (t := 45) ?hr ?_; (case hd => rfl); (case hg => rfl); (case hr => first | (go_simp; done) | (go_simp; rfl)); intro gb235 hg w43 hbox hb; have n0_ := Aside0.mk (Kd.R_below (by (with_reducible repeat (first | apply Kd.R_alloc | apply Kd.R_drewN | apply Kd.R_drew)); exact HO_3.out) hb); have n1_ := Aside0.mk (Kd.R_below (by (with_reducible repeat (first | apply Kd.R_alloc | apply Kd.R_drewN | apply Kd.R_drew)); exact HO_8.out) hb); have n2_ := Aside0.mk (Kd.R_below (Kd.R_elderB (by (with_reducible repeat (first | apply Kd.R_alloc | apply Kd.R_drewN | apply Kd.R_drew)); exact HO_9.out) gb235 (Nat.le_of_eq hg.symm)) hb); have n3_ := Aside0.mk (below_step (by repeat (first | (with_reducible first | exact HB.out | apply below_alloc | apply pw_below_drewN | apply below_drew1) | exact HB.out)) hb); have n4_ := Aside0.mk (hbox); have n5_ := Aside0.mk ((by rw [hg]; exact (below_size (by repeat (first | (with_reducible first | exact HB.out | apply below_alloc | apply pw_below_drewN | apply below_drew1) | exact HB.out))) : w.heap.size ≤ gb235)); have n6_ := Aside0.mk ((by rw [hg]; exact (below_size (by repeat (first | (with_reducible first | exact HB.out | apply below_alloc | apply pw_below_drewN | apply below_drew1) | exact HB.out))) : w.heap.size ≤ gb235)); clear HO_3; clear HO_8; clear HO_9; clear HB; have HO_3 := n0_; have HO_8 := n1_; have HO_9 := n2_; have HB := n3_; have BK235 := n4_; have GW235 := n5_; have GE235 := n6_; clear n0_ n1_ n2_ n3_ n4_ n5_ n6_; clear hb hbox hg; have hcz44_0 : w43.cell? ⟨gb235, 0, none⟩ = some (.int .i64 0) := (blk_cell BK235.out 0).trans rfl; have hcz44_1 : w43.cell? ⟨gb235, 1, none⟩ = some (.int .i64 0) := (blk_cell BK235.out 1).trans rfl; have hcz44_2 : w43.cell? ⟨gb235, 2, none⟩ = some (.int .i64 0) := (blk_cell BK235.out 2).trans rfl; have hfz44_0 := blk_frozen BK235.out 0; have hfz44_1 := blk_frozen BK235.out 1; have hfz44_2 := blk_frozen BK235.out 2)); go_upto_if 140 with (first | ((with_reducible refine gate_dst (N := 14) rfl ?_); (try (refine gate_guard (by rfl) ?_; dsimp only)); refine box_event ?hg (N := 14) ?hd (cs := #[.int .i64 0, .int .i64 0, .int .i64 0]) (t := 45) ?hr ?_; (case hd => rfl); (case hg => rfl); (case hr => first | (go_simp; done) | (go_simp; rfl)); intro gb235 hg w43 hbox hb; have n0_ := Aside0.mk (Kd.R_below (by (with_reducible repeat (first | apply Kd.R_alloc | apply Kd.R_drewN | apply Kd.R_drew)); exact HO_3.out) hb); have n1_ := Aside0.mk (Kd.R_below (by (with_reducible repeat (first | apply Kd.R_alloc | apply Kd.R_drewN | apply Kd.R_drew)); exact HO_8.out) hb); have n2_ := Aside0.mk (Kd.R_below (Kd.R_elderB (by (with_reducible repeat (first | apply Kd.R_alloc | apply Kd.R_drewN | apply Kd.R_drew)); exact HO_9.out) gb235 (Nat.le_of_eq hg.symm)) hb); have n3_ := Aside0.mk (below_step (by repeat (first | (with_reducible first | exact HB.out | apply below_alloc | apply pw_below_drewN | apply below_drew1) | exact HB.out)) hb); have n4_ := Aside0.mk (hbox); have n5_ := Aside0.mk ((by rw [hg]; exact (below_size (by repeat (first | (with_reducible first | exact HB.out | apply below_alloc | apply pw_below_drewN | apply below_drew1) | exact HB.out))) : w.heap.size ≤ gb235)); have n6_ := Aside0.mk ((by rw [hg]; exact (below_size (by repeat (first | (with_reducible first | exact HB.out | apply below_alloc | apply pw_below_drewN | apply below_drew1) | exact HB.out))) : w.heap.size ≤ gb235)); clear HO_3; clear HO_8; clear HO_9; clear HB; have HO_3 := n0_; have HO_8 := n1_; have HO_9 := n2_; have HB := n3_; have BK235 := n4_; have GW235 := n5_; have GE235 := n6_; clear n0_ n1_ n2_ n3_ n4_ n5_ n6_; clear hb hbox hg; have hcz44_0 : w43.cell? ⟨gb235, 0, none⟩ = some (.int .i64 0) := (blk_cell BK235.out 0).trans rfl; have hcz44_1 : w43.cell? ⟨gb235, 1, none⟩ = some (.int .i64 0) := (blk_cell BK235.out 1).trans rfl; have hcz44_2 : w43.cell? ⟨gb235, 2, none⟩ = some (.int .i64 0) := (blk_cell BK235.out 2).trans rfl; have hfz44_0 := blk_frozen BK235.out 0; have hfz44_1 := blk_frozen BK235.out 1; have hfz44_2 := blk_frozen BK235.out 2)))
                    (try simp only [Act.put, List.setIfInBounds_toArray, List.set_cons_zero, List.set_cons_succ])
                    go_cut [] (fun wc => ∃ (kq : Nat) (x236001_41 : Int) (x236002_41 : Int), Aside0 (fastilaw23_CupsStrength.j7 kq a0 t222 t226 x8_2 x9_2 x10_2 x11_2 x12_19 x13_29 x11_2 x236001_41 x236002_41 = some r) ∧ Aside0 (kq ≤ kj34) ∧ Aside0 (Kd.R k42 42 wc w.heap.size (fun _ => True) (.slice (some ad229) t222.length co17) t222) ∧ Aside0 (Kd.R (Kd.int .i64) 3 wc w.heap.size (fun _ => True) u8 x8_2) ∧ Aside0 (Kd.R k45 45 wc w.heap.size (fun k_ => k_ ≠ gb235) u9 x9_2) ∧ Aside0 (wc.heap[gb235]? = some (.cells #[.int .i64 x11_2, .int .i64 x236001_41, .int .i64 x236002_41] 45 (0, 0))) ∧ Aside0 (Below w.heap.size w wc))
                    case first =>
                     have H := HC42.out
                     clear HC42
                     by_cases c45 : x13_29 < x12_19
                     ·rw [if_pos c45] at H
                      have c45b0 : decide (x13_29 < x12_19) = true := decide_eq_true c45
                      clear c45
                      (first | rw [c45b0] | (simp only [i64_w, i32_w]; rw [c45b0]) | skip)
                      have H' := Aside0.mk H
                      clear H
                      have hcz46_0 : w43.cell? ⟨gb235, 0, none⟩ = some (.int .i64 0) := (blk_cell BK235.out 0).trans rfl
                      have hcz46_1 : w43.cell? ⟨gb235, 1, none⟩ = some (.int .i64 0) := (blk_cell BK235.out 1).trans rfl
                      have hcz46_2 : w43.cell? ⟨gb235, 2, none⟩ = some (.int .i64 0) := (blk_cell BK235.out 2).trans rfl
                      have hfz46_0 := blk_frozen BK235.out 0
                      have hfz46_1 := blk_frozen BK235.out 1
                      have hfz46_2 := blk_frozen BK235.out 2
                      go_wp2
                      repeat (go_quiet (fail); try go_wp2)
                      go_meet
                      case rel => exact ⟨_, (0), (1), H', ⟨by have := HJ5.out; have := HK2.out; have := HJ15.out; have := HJ19.out; have := HJ24.out; have := HJ29.out; have := HJ34.out; first | omega | exact Nat.le_refl _⟩, ⟨by (with_reducible repeat (first | apply Kd.R_alloc | apply Kd.R_drewN | apply Kd.R_drew)); exact Kd.R_mono (Kd.R_far (p := ⟨gb235, 2, none⟩) (Kd.R_far (p := ⟨gb235, 1, none⟩) (Kd.R_far (p := ⟨gb235, 2, none⟩) (Kd.R_far (p := ⟨gb235, 1, none⟩) (Kd.R_far (p := ⟨gb235, 0, none⟩) (Kd.R_types HO_3.out BK235.out (by decide)) (fun _ hk => hk.2) (.int .i64 x11_2)) (fun _ hk => hk.2) (.int .i64 1)) (fun _ hk => hk.2) (.int .i64 0)) (fun _ hk => hk.2) (.int .i64 0)) (fun _ hk => hk.2) (.int .i64 1)) (fun _ hk => trivial)⟩, ⟨by (with_reducible repeat (first | apply Kd.R_alloc | apply Kd.R_drewN | apply Kd.R_drew)); exact Kd.R_mono (Kd.R_far (p := ⟨gb235, 2, none⟩) (Kd.R_far (p := ⟨gb235, 1, none⟩) (Kd.R_far (p := ⟨gb235, 2, none⟩) (Kd.R_far (p := ⟨gb235, 1, none⟩) (Kd.R_far (p := ⟨gb235, 0, none⟩) (Kd.R_types HO_8.out BK235.out (by decide)) (fun _ hk => hk.2) (.int .i64 x11_2)) (fun _ hk => hk.2) (.int .i64 1)) (fun _ hk => hk.2) (.int .i64 0)) (fun _ hk => hk.2) (.int .i64 0)) (fun _ hk => hk.2) (.int .i64 1)) (fun _ hk => trivial)⟩, ⟨by (with_reducible repeat (first | apply Kd.R_alloc | apply Kd.R_drewN | apply Kd.R_drew)); exact Kd.R_mono (Kd.R_far (p := ⟨gb235, 2, none⟩) (Kd.R_far (p := ⟨gb235, 1, none⟩) (Kd.R_far (p := ⟨gb235, 2, none⟩) (Kd.R_far (p := ⟨gb235, 1, none⟩) (Kd.R_far (p := ⟨gb235, 0, none⟩) (Kd.R_mono HO_9.out (fun k_ hk => (⟨hk, hk.2⟩ : _ ∧ k_ ≠ gb235))) (fun _ hk => hk.2) (.int .i64 x11_2)) (fun _ hk => hk.2) (.int .i64 1)) (fun _ hk => hk.2) (.int .i64 0)) (fun _ hk => hk.2) (.int .i64 0)) (fun _ hk => hk.2) (.int .i64 1)) (fun _ hk => hk.1.2)⟩, ⟨by (with_reducible repeat (first | refine blk_drewN ?_ _ | refine blk_drew ?_ | refine blk_alloc ?_ _)); refine blk_put (cs := #[.int .i64 x11_2, .int .i64 0, .int .i64 0]) ?_ 2 _ rfl; (with_reducible repeat (first | refine blk_drewN ?_ _ | refine blk_drew ?_ | refine blk_alloc ?_ _)); refine blk_put (cs := #[.int .i64 x11_2, .int .i64 1, .int .i64 0]) ?_ 1 _ rfl; (with_reducible repeat (first | refine blk_drewN ?_ _ | refine blk_drew ?_ | refine blk_alloc ?_ _)); refine blk_put (cs := #[.int .i64 x11_2, .int .i64 1, .int .i64 0]) ?_ 2 _ rfl; (with_reducible repeat (first | refine blk_drewN ?_ _ | refine blk_drew ?_ | refine blk_alloc ?_ _)); refine blk_put (cs := #[.int .i64 x11_2, .int .i64 0, .int .i64 0]) ?_ 1 _ rfl; (with_reducible repeat (first | refine blk_drewN ?_ _ | refine blk_drew ?_ | refine blk_alloc ?_ _)); refine blk_put (cs := #[.int .i64 0, .int .i64 0, .int .i64 0]) ?_ 0 _ rfl; (with_reducible repeat (first | refine blk_drewN ?_ _ | refine blk_drew ?_ | refine blk_alloc ?_ _)); exact BK235.out⟩, ⟨by repeat (first | (with_reducible first | exact HB.out | apply below_alloc | apply pw_below_drewN | apply below_drew1 | refine below_set ?_ GE235.out) | exact HB.out)⟩⟩
                     ·rw [if_neg c45] at H
                      have c45b0 : decide (x13_29 < x12_19) = false := decide_eq_false c45
                      clear c45
                      (first | rw [c45b0] | (simp only [i64_w, i32_w]; rw [c45b0]) | skip)
                      have H' := Aside0.mk H
                      clear H
                      go_wp2
                      repeat (go_quiet (fail); try go_wp2)
                      go_meet
                      case rel => exact ⟨_, (1), (0), H', ⟨by have := HJ5.out; have := HK2.out; have := HJ15.out; have := HJ19.out; have := HJ24.out; have := HJ29.out; have := HJ34.out; first | omega | exact Nat.le_refl _⟩, ⟨by (with_reducible repeat (first | apply Kd.R_alloc | apply Kd.R_drewN | apply Kd.R_drew)); exact Kd.R_mono (Kd.R_far (p := ⟨gb235, 2, none⟩) (Kd.R_far (p := ⟨gb235, 1, none⟩) (Kd.R_far (p := ⟨gb235, 0, none⟩) (Kd.R_types HO_3.out BK235.out (by decide)) (fun _ hk => hk.2) (.int .i64 x11_2)) (fun _ hk => hk.2) (.int .i64 1)) (fun _ hk => hk.2) (.int .i64 0)) (fun _ hk => trivial)⟩, ⟨by (with_reducible repeat (first | apply Kd.R_alloc | apply Kd.R_drewN | apply Kd.R_drew)); exact Kd.R_mono (Kd.R_far (p := ⟨gb235, 2, none⟩) (Kd.R_far (p := ⟨gb235, 1, none⟩) (Kd.R_far (p := ⟨gb235, 0, none⟩) (Kd.R_types HO_8.out BK235.out (by decide)) (fun _ hk => hk.2) (.int .i64 x11_2)) (fun _ hk => hk.2) (.int .i64 1)) (fun _ hk => hk.2) (.int .i64 0)) (fun _ hk => trivial)⟩, ⟨by (with_reducible repeat (first | apply Kd.R_alloc | apply Kd.R_drewN | apply Kd.R_drew)); exact Kd.R_mono (Kd.R_far (p := ⟨gb235, 2, none⟩) (Kd.R_far (p := ⟨gb235, 1, none⟩) (Kd.R_far (p := ⟨gb235, 0, none⟩) (Kd.R_mono HO_9.out (fun k_ hk => (⟨hk, hk.2⟩ : _ ∧ k_ ≠ gb235))) (fun _ hk => hk.2) (.int .i64 x11_2)) (fun _ hk => hk.2) (.int .i64 1)) (fun _ hk => hk.2) (.int .i64 0)) (fun _ hk => hk.1.2)⟩, ⟨by (with_reducible repeat (first | refine blk_drewN ?_ _ | refine blk_drew ?_ | refine blk_alloc ?_ _)); refine blk_put (cs := #[.int .i64 x11_2, .int .i64 1, .int .i64 0]) ?_ 2 _ rfl; (with_reducible repeat (first | refine blk_drewN ?_ _ | refine blk_drew ?_ | refine blk_alloc ?_ _)); refine blk_put (cs := #[.int .i64 x11_2, .int .i64 0, .int .i64 0]) ?_ 1 _ rfl; (with_reducible repeat (first | refine blk_drewN ?_ _ | refine blk_drew ?_ | refine blk_alloc ?_ _)); refine blk_put (cs := #[.int .i64 0, .int .i64 0, .int .i64 0]) ?_ 0 _ rfl; (with_reducible repeat (first | refine blk_drewN ?_ _ | refine blk_drew ?_ | refine blk_alloc ?_ _)); exact BK235.out⟩, ⟨by repeat (first | (with_reducible first | exact HB.out | apply below_alloc | apply pw_below_drewN | apply below_drew1 | refine below_set ?_ GE235.out) | exact HB.out)⟩⟩
                    case rest => as_aux_lemma =>
                     clear HC42
                     try clear c1; try clear c2; try clear p2; try clear q2; try clear hx2; try clear c3; try clear c4; try clear p6; try clear c7; try clear c9; try clear c9b0; try clear c9b1; try clear c10; try clear c10b0; try clear c10b1; try clear c12; try clear c13; try clear c13b0; try clear c13b1; try clear c14; try clear c14b0; try clear c15; try clear c15b0; try clear c18; try clear c18b0; try clear c18b1; try clear c19; try clear c19b0; try clear c21; try clear c22; try clear c22b0; try clear p22; try clear q22; try clear hx22; try clear c23; try clear c23b0; try clear p23; try clear q23; try clear hx23; try clear c26; try clear c26b0; try clear c27; try clear c27b0; try clear c28; try clear c28b0; try clear c28b1; try clear c29; try clear c29b0; try clear c31; try clear c32; try clear c32b0; try clear c33; try clear c33b0; try clear c36; try clear c36b0; try clear c36b1; try clear c37; try clear c37b0; try clear c37b1; try clear c39; try clear c39b0; try clear c39b1; try clear c41; try clear c45; try clear c45b0; try clear hcz44_0; try clear hcz44_1; try clear hcz44_2; try clear hcz46_0; try clear hcz46_1; try clear hcz46_2; try clear hfz44_0; try clear hfz44_1; try clear hfz44_2; try clear hfz46_0; try clear hfz46_1; try clear hfz46_2; try clear hx229_0; try clear hx229_1; try clear hx229_2; try clear hx229_3; try clear hx229_4; try clear hx229_5; try clear hx229_6; try clear hx230_0; try clear hx230_1; try clear hx230_2; try clear hx230_3; try clear hx230_4; try clear hx230_5; try clear hx230_6; try clear hx231_0; try clear hx231_1; try clear hx231_2; try clear hx231_3; try clear hx231_4; try clear hx231_5; try clear hx231_6; try clear hx232_0; try clear hx233_0; try clear hx233_1; try clear hx233_2; try clear hx233_3; try clear hx233_4; try clear hx233_5; try clear hx233_6; try clear hx234_0; try clear p229; try clear p230; try clear p231; try clear p232; try clear p233; try clear p234; try clear q229; try clear q230; try clear q231; try clear q232; try clear q233; try clear q234
                     obtain ⟨kq, x236001_41, x236002_41, HA, HJ41, HO_3, HO_8, HO_9, BK235, HB⟩ := hcut
                     cases kq with
                     | zero => exact absurd HA.out (by simp [fastilaw23_CupsStrength.j7])
                     | succ kj41 =>
                      have H := HA.out
                      clear HA
                      simp only [fastilaw23_CupsStrength.j7] at H
                      obtain ⟨ji47, hji47⟩ : ∃ j_ : Int, (mn x12_19 x13_29) = j_ := ⟨_, rfl⟩
                      replace H : (if x8_2.length < 17592186044416 then ((some (x8_2 ++ [ji47] : List Int)).bind fun y236 => (if x9_2.length < 5864062014805 then ((some (x9_2 ++ [(⟨x11_2, x236001_41, x236002_41⟩ : S45)] : List (S45))).bind fun y239 => (if (wrap64 (x11_2 + 1)) < (t222.length : Int) then (if 0 ≤ (wrap64 (x11_2 + 1)) then (if 0 ≤ x11_2 then (if x11_2 < (t222.length : Int) then (fastilaw23_CupsStrength.j8 kj41 a0 t222 t226 y236 y239 x10_2 x11_2 (((rd_T42 t222 (wrap64 (x11_2 + 1))).f0) == ((rd_T42 t222 x11_2).f0))) else (none)) else (none)) else (none)) else (fastilaw23_CupsStrength.j8 kj41 a0 t222 t226 y236 y239 x10_2 x11_2 false))) else (none))) else (none)) = some r := by first | (rw [hji47] at H; exact H) | (simp only [hji47] at H ⊢; exact H)
                      have hji47_ : (if x13_29 < x12_19 then x13_29 else x12_19) = ji47 := hji47
                      by_cases c48 : x8_2.length < 17592186044416
                      ·rw [if_pos c48] at H
                       have LMc48 := Aside0.mk c48
                       clear c48
                       obtain ⟨y236, hy236⟩ : ∃ y_ : List Int, y_ = (x8_2 ++ [ji47]) := ⟨_, rfl⟩
                       replace H : (if x9_2.length < 5864062014805 then ((some (x9_2 ++ [(⟨x11_2, x236001_41, x236002_41⟩ : S45)] : List (S45))).bind fun y239 => (if (wrap64 (x11_2 + 1)) < (t222.length : Int) then (if 0 ≤ (wrap64 (x11_2 + 1)) then (if 0 ≤ x11_2 then (if x11_2 < (t222.length : Int) then (fastilaw23_CupsStrength.j8 kj41 a0 t222 t226 y236 y239 x10_2 x11_2 (((rd_T42 t222 (wrap64 (x11_2 + 1))).f0) == ((rd_T42 t222 x11_2).f0))) else (none)) else (none)) else (none)) else (fastilaw23_CupsStrength.j8 kj41 a0 t222 t226 y236 y239 x10_2 x11_2 false))) else (none)) = some r := by first | (rw [hy236]; with_reducible exact H) | (have H2_ := (Option.bind_some _ _).symm.trans H; rw [hy236]; with_reducible exact H2_) | (have H2_ := (Option.bind_some _ _).symm.trans H; with_reducible exact H2_) | with_reducible exact H | (rw [hy236]; exact H) | exact H
                       have Ny236 := Aside0.mk hy236
                       clear hy236
                       by_cases c49 : x9_2.length < 5864062014805
                       ·rw [if_pos c49] at H
                        have LMc49 := Aside0.mk c49
                        clear c49
                        obtain ⟨y239, hy239⟩ : ∃ y_ : List (S45), y_ = (x9_2 ++ [(⟨x11_2, x236001_41, x236002_41⟩ : S45)]) := ⟨_, rfl⟩
                        replace H : (if (wrap64 (x11_2 + 1)) < (t222.length : Int) then (if 0 ≤ (wrap64 (x11_2 + 1)) then (if 0 ≤ x11_2 then (if x11_2 < (t222.length : Int) then (fastilaw23_CupsStrength.j8 kj41 a0 t222 t226 y236 y239 x10_2 x11_2 (((rd_T42 t222 (wrap64 (x11_2 + 1))).f0) == ((rd_T42 t222 x11_2).f0))) else (none)) else (none)) else (none)) else (fastilaw23_CupsStrength.j8 kj41 a0 t222 t226 y236 y239 x10_2 x11_2 false)) = some r := by first | (rw [hy239]; with_reducible exact H) | (have H2_ := (Option.bind_some _ _).symm.trans H; rw [hy239]; with_reducible exact H2_) | (have H2_ := (Option.bind_some _ _).symm.trans H; with_reducible exact H2_) | with_reducible exact H | (rw [hy239]; exact H) | exact H
                        have Ny239 := Aside0.mk hy239
                        clear hy239
                        have HC50 := Aside0.mk H
                        clear H
                        go_upto_region 25 with (first | ((with_reducible refine gate_builtin (b := .append) (xs := #[.tmp 143, .tmp 147]) rfl ?_); (try (refine gate_guard (by rfl) ?_; dsimp only)); at_builtin; refine Kd.R_append (Kd.int .i64) (w0 := w) w.heap.size rfl (.tmp 143) (.tmp 147) 32 3 (.int .i64 0) 8 rfl Try.underlying32 info3 rfl (by decide) (by omega) u8 x8_2 ji47 [.int .i64 ji47] (fun _ => True) (fun _ => False) rfl rfl ?aP (fun _ hk => hk.elim) ?aF ?aO ?aB ?aS ?aL ?_; (case aP => exact rfl); (case aB => exact (by repeat (first | (with_reducible first | exact HB.out | apply below_alloc | apply pw_below_drewN | apply below_drew1 | refine below_set ?_ GE235.out) | exact HB.out))); (case aF => exact (fun _ _ => trivial)); (case aO => exact (by (with_reducible repeat (first | apply Kd.R_alloc | apply Kd.R_drewN | apply Kd.R_drew)); exact HO_8.out)); (case aS => exact (below_size (by repeat (first | (with_reducible first | exact HB.out | apply below_alloc | apply pw_below_drewN | apply below_drew1 | refine below_set ?_ GE235.out) | exact HB.out)))); (case aL => have := LMc48.out; omega); intro v237 w51 ho hb hg hat; rw [← Ny236.out] at ho; have n0_ := Aside0.mk (Kd.R_over' (by (with_reducible repeat (first | apply Kd.R_alloc | apply Kd.R_drewN | apply Kd.R_drew)); exact HO_3.out) (Kd.R_typed (by (with_reducible repeat (first | apply Kd.R_alloc | apply Kd.R_drewN | apply Kd.R_drew)); exact HO_8.out)) (by decide) hg); have n1_ := Aside0.mk (Kd.R_over' (by (with_reducible repeat (first | apply Kd.R_alloc | apply Kd.R_drewN | apply Kd.R_drew)); exact HO_9.out) (Kd.R_typed (by (with_reducible repeat (first | apply Kd.R_alloc | apply Kd.R_drewN | apply Kd.R_drew)); exact HO_8.out)) (by decide) hg); have n2_ := Aside0.mk (blk_grown (g := gb235) (o := .cells #[.int .i64 x11_2, .int .i64 x236001_41, .int .i64 x236002_41] 45 (0, 0)) (by (with_reducible repeat (first | refine blk_drewN ?_ _ | refine blk_drew ?_ | refine blk_alloc ?_ _)); exact BK235.out) hg (Kd.R_ne HO_8.out BK235.out (by decide))); have n3_ := Aside0.mk (hb); have n4_ := Aside0.mk (ho); clear HO_3; clear HO_9; clear BK235; clear HB; clear HO_8; have HO_3 := n0_; have HO_9 := n1_; have BK235 := n2_; have HB := n3_; have HO238 := n4_; clear n0_ n1_ n2_ n3_ n4_; clear ho hb hg hat; have hcz52_0 : w51.cell? ⟨gb235, 0, none⟩ = some (.int .i64 x11_2) := (blk_cell BK235.out 0).trans rfl; have hcz52_1 : w51.cell? ⟨gb235, 1, none⟩ = some (.int .i64 x236001_41) := (blk_cell BK235.out 1).trans rfl; have hcz52_2 : w51.cell? ⟨gb235, 2, none⟩ = some (.int .i64 x236002_41) := (blk_cell BK235.out 2).trans rfl; have hfz52_0 := blk_frozen BK235.out 0; have hfz52_1 := blk_frozen BK235.out 1; have hfz52_2 := blk_frozen BK235.out 2) | ((with_reducible refine gate_builtin (b := .append) (xs := #[.tmp 149, .tmp 151]) rfl ?_); (try (refine gate_guard (by rfl) ?_; dsimp only)); at_builtin; refine Kd.R_append k45 (w0 := w) w.heap.size rfl (.tmp 149) (.tmp 151) 31 45 (.agg #[(.int .i64 0), (.int .i64 0), (.int .i64 0)]) 24 rfl Try.underlying31 info45 rfl (by decide) (by omega) u9 x9_2 (⟨x11_2, x236001_41, x236002_41⟩ : S45) [.int .i64 x11_2, .int .i64 x236001_41, .int .i64 x236002_41] (fun k_ => k_ ≠ gb235) (fun _ => False) rfl rfl ?aP (fun _ hk => hk.elim) ?aF ?aO ?aB ?aS ?aL ?_; (case aP => exact k45_mkM _ _ _ (⟨x11_2, x236001_41, x236002_41⟩ : S45)); (case aB => exact (by repeat (first | (with_reducible first | exact HB.out | apply below_alloc | apply pw_below_drewN | apply below_drew1 | refine below_set ?_ GE235.out) | exact HB.out))); (case aF => exact (fun k_ hk => Kd.freshB (g := gb235) (o := .cells #[.int .i64 x11_2, .int .i64 x236001_41, .int .i64 x236002_41] 45 (0, 0)) (by (with_reducible repeat (first | refine blk_drewN ?_ _ | refine blk_drew ?_ | refine blk_alloc ?_ _)); exact BK235.out) k_ hk)); (case aO => exact (by (with_reducible repeat (first | apply Kd.R_alloc | apply Kd.R_drewN | apply Kd.R_drew)); exact HO_9.out)); (case aS => exact (below_size (by repeat (first | (with_reducible first | exact HB.out | apply below_alloc | apply pw_below_drewN | apply below_drew1 | refine below_set ?_ GE235.out) | exact HB.out)))); (case aL => have := LMc49.out; omega); intro v240 w53 ho hb hg hat; rw [← Ny239.out] at ho; have n0_ := Aside0.mk (Kd.R_over' (by (with_reducible repeat (first | apply Kd.R_alloc | apply Kd.R_drewN | apply Kd.R_drew)); exact HO_3.out) (Kd.R_typed (by (with_reducible repeat (first | apply Kd.R_alloc | apply Kd.R_drewN | apply Kd.R_drew)); exact HO_9.out)) (by decide) hg); have n1_ := Aside0.mk (blk_grown (g := gb235) (o := .cells #[.int .i64 x11_2, .int .i64 x236001_41, .int .i64 x236002_41] 45 (0, 0)) (by (with_reducible repeat (first | refine blk_drewN ?_ _ | refine blk_drew ?_ | refine blk_alloc ?_ _)); exact BK235.out) hg (Kd.R_away HO_9.out (fun _ hk => hk))); have n2_ := Aside0.mk (Kd.R_over' (by (with_reducible repeat (first | apply Kd.R_alloc | apply Kd.R_drewN | apply Kd.R_drew)); exact HO238.out) (Kd.R_typed (by (with_reducible repeat (first | apply Kd.R_alloc | apply Kd.R_drewN | apply Kd.R_drew)); exact HO_9.out)) (by decide) hg); have n3_ := Aside0.mk (hb); have n4_ := Aside0.mk (ho); clear HO_3; clear BK235; clear HO238; clear HB; clear HO_9; have HO_3 := n0_; have BK235 := n1_; have HO238 := n2_; have HB := n3_; have HO241 := n4_; clear n0_ n1_ n2_ n3_ n4_; clear ho hb hg hat))
                        repeat (go_quiet (first | ((with_reducible refine gate_builtin (b := .append) (xs := #[.tmp 143, .tmp 147]) rfl ?_); (try (refine gate_guard (by rfl) ?_; dsimp only)); at_builtin; refine Kd.R_append (Kd.int .i64) (w0 := w) w.heap.size rfl (.tmp 143) (.tmp 147) 32 3 (.int .i64 0) 8 rfl Try.underlying32 info3 rfl (by decide) (by omega) u8 x8_2 ji47 [.int .i64 ji47] (fun _ => True) (fun _ => False) rfl rfl ?aP (fun _ hk => hk.elim) ?aF ?aO ?aB ?aS ?aL ?_; (case aP => exact rfl); (case aB => exact (by repeat (first | (with_reducible first | exact HB.out | apply below_alloc | apply pw_below_drewN | apply below_drew1 | refine below_set ?_ GE235.out) | exact HB.out))); (case aF => exact (fun _ _ => trivial)); (case aO => exact (by (with_reducible repeat (first | apply Kd.R_alloc | apply Kd.R_drewN | apply Kd.R_drew)); exact HO_8.out)); (case aS => exact (below_size (by repeat (first | (with_reducible first | exact HB.out | apply below_alloc | apply pw_below_drewN | apply below_drew1 | refine below_set ?_ GE235.out) | exact HB.out)))); (case aL => have := LMc48.out; omega); intro v237 w51 ho hb hg hat; rw [← Ny236.out] at ho; have n0_ := Aside0.mk (Kd.R_over' (by (with_reducible repeat (first | apply Kd.R_alloc | apply Kd.R_drewN | apply Kd.R_drew)); exact HO_3.out) (Kd.R_typed (by (with_reducible repeat (first | apply Kd.R_alloc | apply Kd.R_drewN | apply Kd.R_drew)); exact HO_8.out)) (by decide) hg); have n1_ := Aside0.mk (Kd.R_over' (by (with_reducible repeat (first | apply Kd.R_alloc | apply Kd.R_drewN | apply Kd.R_drew)); exact HO_9.out) (Kd.R_typed (by (with_reducible repeat (first | apply Kd.R_alloc | apply Kd.R_drewN | apply Kd.R_drew)); exact HO_8.out)) (by decide) hg); have n2_ := Aside0.mk (blk_grown (g := gb235) (o := .cells #[.int .i64 x11_2, .int .i64 x236001_41, .int .i64 x236002_41] 45 (0, 0)) (by (with_reducible repeat (first | refine blk_drewN ?_ _ | refine blk_drew ?_ | refine blk_alloc ?_ _)); exact BK235.out) hg (Kd.R_ne HO_8.out BK235.out (by decide))); have n3_ := Aside0.mk (hb); have n4_ := Aside0.mk (ho); clear HO_3; clear HO_9; clear BK235; clear HB; clear HO_8; have HO_3 := n0_; have HO_9 := n1_; have BK235 := n2_; have HB := n3_; have HO238 := n4_; clear n0_ n1_ n2_ n3_ n4_; clear ho hb hg hat; have hcz52_0 : w51.cell? ⟨gb235, 0, none⟩ = some (.int .i64 x11_2) := (blk_cell BK235.out 0).trans rfl; have hcz52_1 : w51.cell? ⟨gb235, 1, none⟩ = some (.int .i64 x236001_41) := (blk_cell BK235.out 1).trans rfl; have hcz52_2 : w51.cell? ⟨gb235, 2, none⟩ = some (.int .i64 x236002_41) := (blk_cell BK235.out 2).trans rfl; have hfz52_0 := blk_frozen BK235.out 0; have hfz52_1 := blk_frozen BK235.out 1; have hfz52_2 := blk_frozen BK235.out 2) | ((with_reducible refine gate_builtin (b := .append) (xs := #[.tmp 149, .tmp 151]) rfl ?_); (try (refine gate_guard (by rfl) ?_; dsimp only)); at_builtin; refine Kd.R_append k45 (w0 := w) w.heap.size rfl (.tmp 149) (.tmp 151) 31 45 (.agg #[(.int .i64 0), (.int .i64 0), (.int .i64 0)]) 24 rfl Try.underlying31 info45 rfl (by decide) (by omega) u9 x9_2 (⟨x11_2, x236001_41, x236002_41⟩ : S45) [.int .i64 x11_2, .int .i64 x236001_41, .int .i64 x236002_41] (fun k_ => k_ ≠ gb235) (fun _ => False) rfl rfl ?aP (fun _ hk => hk.elim) ?aF ?aO ?aB ?aS ?aL ?_; (case aP => exact k45_mkM _ _ _ (⟨x11_2, x236001_41, x236002_41⟩ : S45)); (case aB => exact (by repeat (first | (with_reducible first | exact HB.out | apply below_alloc | apply pw_below_drewN | apply below_drew1 | refine below_set ?_ GE235.out) | exact HB.out))); (case aF => exact (fun k_ hk => Kd.freshB (g := gb235) (o := .cells #[.int .i64 x11_2, .int .i64 x236001_41, .int .i64 x236002_41] 45 (0, 0)) (by (with_reducible repeat (first | refine blk_drewN ?_ _ | refine blk_drew ?_ | refine blk_alloc ?_ _)); exact BK235.out) k_ hk)); (case aO => exact (by (with_reducible repeat (first | apply Kd.R_alloc | apply Kd.R_drewN | apply Kd.R_drew)); exact HO_9.out)); (case aS => exact (below_size (by repeat (first | (with_reducible first | exact HB.out | apply below_alloc | apply pw_below_drewN | apply below_drew1 | refine below_set ?_ GE235.out) | exact HB.out)))); (case aL => have := LMc49.out; omega); intro v240 w53 ho hb hg hat; rw [← Ny239.out] at ho; have n0_ := Aside0.mk (Kd.R_over' (by (with_reducible repeat (first | apply Kd.R_alloc | apply Kd.R_drewN | apply Kd.R_drew)); exact HO_3.out) (Kd.R_typed (by (with_reducible repeat (first | apply Kd.R_alloc | apply Kd.R_drewN | apply Kd.R_drew)); exact HO_9.out)) (by decide) hg); have n1_ := Aside0.mk (blk_grown (g := gb235) (o := .cells #[.int .i64 x11_2, .int .i64 x236001_41, .int .i64 x236002_41] 45 (0, 0)) (by (with_reducible repeat (first | refine blk_drewN ?_ _ | refine blk_drew ?_ | refine blk_alloc ?_ _)); exact BK235.out) hg (Kd.R_away HO_9.out (fun _ hk => hk))); have n2_ := Aside0.mk (Kd.R_over' (by (with_reducible repeat (first | apply Kd.R_alloc | apply Kd.R_drewN | apply Kd.R_drew)); exact HO238.out) (Kd.R_typed (by (with_reducible repeat (first | apply Kd.R_alloc | apply Kd.R_drewN | apply Kd.R_drew)); exact HO_9.out)) (by decide) hg); have n3_ := Aside0.mk (hb); have n4_ := Aside0.mk (ho); clear HO_3; clear BK235; clear HO238; clear HB; clear HO_9; have HO_3 := n0_; have BK235 := n1_; have HO238 := n2_; have HB := n3_; have HO241 := n4_; clear n0_ n1_ n2_ n3_ n4_; clear ho hb hg hat)); go_upto_region 25 with (first | ((with_reducible refine gate_builtin (b := .append) (xs := #[.tmp 143, .tmp 147]) rfl ?_); (try (refine gate_guard (by rfl) ?_; dsimp only)); at_builtin; refine Kd.R_append (Kd.int .i64) (w0 := w) w.heap.size rfl (.tmp 143) (.tmp 147) 32 3 (.int .i64 0) 8 rfl Try.underlying32 info3 rfl (by decide) (by omega) u8 x8_2 ji47 [.int .i64 ji47] (fun _ => True) (fun _ => False) rfl rfl ?aP (fun _ hk => hk.elim) ?aF ?aO ?aB ?aS ?aL ?_; (case aP => exact rfl); (case aB => exact (by repeat (first | (with_reducible first | exact HB.out | apply below_alloc | apply pw_below_drewN | apply below_drew1 | refine below_set ?_ GE235.out) | exact HB.out))); (case aF => exact (fun _ _ => trivial)); (case aO => exact (by (with_reducible repeat (first | apply Kd.R_alloc | apply Kd.R_drewN | apply Kd.R_drew)); exact HO_8.out)); (case aS => exact (below_size (by repeat (first | (with_reducible first | exact HB.out | apply below_alloc | apply pw_below_drewN | apply below_drew1 | refine below_set ?_ GE235.out) | exact HB.out)))); (case aL => have := LMc48.out; omega); intro v237 w51 ho hb hg hat; rw [← Ny236.out] at ho; have n0_ := Aside0.mk (Kd.R_over' (by (with_reducible repeat (first | apply Kd.R_alloc | apply Kd.R_drewN | apply Kd.R_drew)); exact HO_3.out) (Kd.R_typed (by (with_reducible repeat (first | apply Kd.R_alloc | apply Kd.R_drewN | apply Kd.R_drew)); exact HO_8.out)) (by decide) hg); have n1_ := Aside0.mk (Kd.R_over' (by (with_reducible repeat (first | apply Kd.R_alloc | apply Kd.R_drewN | apply Kd.R_drew)); exact HO_9.out) (Kd.R_typed (by (with_reducible repeat (first | apply Kd.R_alloc | apply Kd.R_drewN | apply Kd.R_drew)); exact HO_8.out)) (by decide) hg); have n2_ := Aside0.mk (blk_grown (g := gb235) (o := .cells #[.int .i64 x11_2, .int .i64 x236001_41, .int .i64 x236002_41] 45 (0, 0)) (by (with_reducible repeat (first | refine blk_drewN ?_ _ | refine blk_drew ?_ | refine blk_alloc ?_ _)); exact BK235.out) hg (Kd.R_ne HO_8.out BK235.out (by decide))); have n3_ := Aside0.mk (hb); have n4_ := Aside0.mk (ho); clear HO_3; clear HO_9; clear BK235; clear HB; clear HO_8; have HO_3 := n0_; have HO_9 := n1_; have BK235 := n2_; have HB := n3_; have HO238 := n4_; clear n0_ n1_ n2_ n3_ n4_; clear ho hb hg hat; have hcz52_0 : w51.cell? ⟨gb235, 0, none⟩ = some (.int .i64 x11_2) := (blk_cell BK235.out 0).trans rfl; have hcz52_1 : w51.cell? ⟨gb235, 1, none⟩ = some (.int .i64 x236001_41) := (blk_cell BK235.out 1).trans rfl; have hcz52_2 : w51.cell? ⟨gb235, 2, none⟩ = some (.int .i64 x236002_41) := (blk_cell BK235.out 2).trans rfl; have hfz52_0 := blk_frozen BK235.out 0; have hfz52_1 := blk_frozen BK235.out 1; have hfz52_2 := blk_frozen BK235.out 2) | ((with_reducible refine gate_builtin (b := .append) (xs := #[.tmp 149, .tmp 151]) rfl ?_); (try (refine gate_guard (by rfl) ?_; dsimp only)); at_builtin; refine Kd.R_append k45 (w0 := w) w.heap.size rfl (.tmp 149) (.tmp 151) 31 45 (.agg #[(.int .i64 0), (.int .i64 0), (.int .i64 0)]) 24 rfl Try.underlying31 info45 rfl (by decide) (by omega) u9 x9_2 (⟨x11_2, x236001_41, x236002_41⟩ : S45) [.int .i64 x11_2, .int .i64 x236001_41, .int .i64 x236002_41] (fun k_ => k_ ≠ gb235) (fun _ => False) rfl rfl ?aP (fun _ hk => hk.elim) ?aF ?aO ?aB ?aS ?aL ?_; (case aP => exact k45_mkM _ _ _ (⟨x11_2, x236001_41, x236002_41⟩ : S45)); (case aB => exact (by repeat (first | (with_reducible first | exact HB.out | apply below_alloc | apply pw_below_drewN | apply below_drew1 | refine below_set ?_ GE235.out) | exact HB.out))); (case aF => exact (fun k_ hk => Kd.freshB (g := gb235) (o := .cells #[.int .i64 x11_2, .int .i64 x236001_41, .int .i64 x236002_41] 45 (0, 0)) (by (with_reducible repeat (first | refine blk_drewN ?_ _ | refine blk_drew ?_ | refine blk_alloc ?_ _)); exact BK235.out) k_ hk)); (case aO => exact (by (with_reducible repeat (first | apply Kd.R_alloc | apply Kd.R_drewN | apply Kd.R_drew)); exact HO_9.out)); (case aS => exact (below_size (by repeat (first | (with_reducible first | exact HB.out | apply below_alloc | apply pw_below_drewN | apply below_drew1 | refine below_set ?_ GE235.out) | exact HB.out)))); (case aL => have := LMc49.out; omega); intro v240 w53 ho hb hg hat; rw [← Ny239.out] at ho; have n0_ := Aside0.mk (Kd.R_over' (by (with_reducible repeat (first | apply Kd.R_alloc | apply Kd.R_drewN | apply Kd.R_drew)); exact HO_3.out) (Kd.R_typed (by (with_reducible repeat (first | apply Kd.R_alloc | apply Kd.R_drewN | apply Kd.R_drew)); exact HO_9.out)) (by decide) hg); have n1_ := Aside0.mk (blk_grown (g := gb235) (o := .cells #[.int .i64 x11_2, .int .i64 x236001_41, .int .i64 x236002_41] 45 (0, 0)) (by (with_reducible repeat (first | refine blk_drewN ?_ _ | refine blk_drew ?_ | refine blk_alloc ?_ _)); exact BK235.out) hg (Kd.R_away HO_9.out (fun _ hk => hk))); have n2_ := Aside0.mk (Kd.R_over' (by (with_reducible repeat (first | apply Kd.R_alloc | apply Kd.R_drewN | apply Kd.R_drew)); exact HO238.out) (Kd.R_typed (by (with_reducible repeat (first | apply Kd.R_alloc | apply Kd.R_drewN | apply Kd.R_drew)); exact HO_9.out)) (by decide) hg); have n3_ := Aside0.mk (hb); have n4_ := Aside0.mk (ho); clear HO_3; clear BK235; clear HO238; clear HB; clear HO_9; have HO_3 := n0_; have BK235 := n1_; have HO238 := n2_; have HB := n3_; have HO241 := n4_; clear n0_ n1_ n2_ n3_ n4_; clear ho hb hg hat)))
                        (try simp only [Act.put, List.setIfInBounds_toArray, List.set_cons_zero, List.set_cons_succ])
                        go_cut [171] (fun v171 wc => ∃ (kq : Nat) (x171_49 : Bool), v171 = .bool x171_49 ∧ Aside0 (fastilaw23_CupsStrength.j8 kq a0 t222 t226 y236 y239 x10_2 x11_2 x171_49 = some r) ∧ Aside0 (kq ≤ kj41) ∧ Aside0 (Kd.R k42 42 wc w.heap.size (fun _ => True) (.slice (some ad229) t222.length co17) t222) ∧ Aside0 (Kd.R (Kd.int .i64) 3 wc w.heap.size (fun _ => True) v237 y236) ∧ Aside0 (Kd.R k45 45 wc w.heap.size (fun k_ => k_ ≠ gb235) v240 y239) ∧ Aside0 (wc.heap[gb235]? = some (.cells #[.int .i64 x11_2, .int .i64 x236001_41, .int .i64 x236002_41] 45 (0, 0))) ∧ Aside0 (Below w.heap.size w wc))
                        case first =>
                         have H := HC50.out
                         clear HC50
                         by_cases c54 : (wrap64 (x11_2 + 1)) < (t222.length : Int)
                         ·rw [if_pos c54] at H
                          have c54b0 : decide ((wrap64 (x11_2 + 1)) < (t222.length : Int)) = true := decide_eq_true c54
                          clear c54
                          (first | rw [c54b0] | (simp only [i64_w, i32_w]; rw [c54b0]) | skip)
                          obtain ⟨ji55, hji55⟩ : ∃ j_ : Int, (wrap64 (x11_2 + 1)) = j_ := ⟨_, rfl⟩
                          replace H : (if 0 ≤ (ji55) then (if 0 ≤ x11_2 then (if x11_2 < (t222.length : Int) then (fastilaw23_CupsStrength.j8 kj41 a0 t222 t226 y236 y239 x10_2 x11_2 (((rd_T42 t222 (ji55)).f0) == ((rd_T42 t222 x11_2).f0))) else (none)) else (none)) else (none)) = some r := by first | (rw [hji55] at H; exact H) | (simp only [hji55] at H ⊢; exact H)
                          (try rw [hji55] at c54b0)
                          have hji55w : (IntKind.i64.wrap (x11_2 + 1)) = ji55 := (i64_w _).trans hji55
                          by_cases c56 : 0 ≤ (ji55)
                          ·rw [if_pos c56] at H
                           have c56b0 : decide (0 ≤ (ji55)) = true := decide_eq_true c56
                           clear c56
                           by_cases c57 : 0 ≤ x11_2
                           ·rw [if_pos c57] at H
                            have c57b0 : decide (0 ≤ x11_2) = true := decide_eq_true c57
                            clear c57
                            by_cases c58 : x11_2 < (t222.length : Int)
                            ·rw [if_pos c58] at H
                             have c58b0 : decide (x11_2 < (t222.length : Int)) = true := decide_eq_true c58
                             clear c58
                             have H' := Aside0.mk H
                             clear H
                             have p242 : 0 ≤ ((ji55) : Int) := of_decide_eq_true (by first | (with_reducible assumption) | assumption)
                             have q242 : (ji55) < (t222.length : Int) := of_decide_eq_true (by first | (with_reducible assumption) | assumption)
                             obtain ⟨ad242, e242, hx242_0, hx242_1, hx242_2, hx242_3, hx242_4, hx242_5, hx242_6⟩ := at_T42 (Kd.R_reads' HO_3.out).2.2 (ji55) p242 q242
                             obtain rfl : ad229 = ad242 := (by injection e242)
                             replace p242 := eq_true p242
                             replace q242 := eq_true q242
                             have p243 : 0 ≤ (x11_2 : Int) := of_decide_eq_true (by first | (with_reducible assumption) | assumption)
                             have q243 : x11_2 < (t222.length : Int) := of_decide_eq_true (by first | (with_reducible assumption) | assumption)
                             obtain ⟨ad243, e243, hx243_0, hx243_1, hx243_2, hx243_3, hx243_4, hx243_5, hx243_6⟩ := at_T42 (Kd.R_reads' HO_3.out).2.2 x11_2 p243 q243
                             obtain rfl : ad229 = ad243 := (by injection e243)
                             replace p243 := eq_true p243
                             replace q243 := eq_true q243
                             go_wp2
                             repeat (go_quiet (fail); try go_wp2)
                             go_meet
                             case rel => exact ⟨_, ((((rd_T42 t222 (ji55)).f0) == ((rd_T42 t222 x11_2).f0))), (by first | rfl | (simp; done) | (simp only [← hji55] <;> (first | rfl | simp)) | (simp [*]; done)), H', ⟨by have := HJ5.out; have := HK2.out; have := HJ15.out; have := HJ19.out; have := HJ24.out; have := HJ29.out; have := HJ34.out; have := HJ41.out; first | omega | exact Nat.le_refl _⟩, ⟨by (with_reducible repeat (first | apply Kd.R_alloc | apply Kd.R_drewN | apply Kd.R_drew)); exact HO_3.out⟩, ⟨by (with_reducible repeat (first | apply Kd.R_alloc | apply Kd.R_drewN | apply Kd.R_drew)); exact HO238.out⟩, ⟨by (with_reducible repeat (first | apply Kd.R_alloc | apply Kd.R_drewN | apply Kd.R_drew)); exact HO241.out⟩, ⟨by (with_reducible repeat (first | refine blk_drewN ?_ _ | refine blk_drew ?_ | refine blk_alloc ?_ _)); exact BK235.out⟩, ⟨by repeat (first | (with_reducible first | exact HB.out | apply below_alloc | apply pw_below_drewN | apply below_drew1 | refine below_set ?_ GE235.out) | exact HB.out)⟩⟩
                            ·rw [if_neg c58] at H
                             exact absurd H (by simp)
                           ·rw [if_neg c57] at H
                            exact absurd H (by simp)
                          ·rw [if_neg c56] at H
                           exact absurd H (by simp)
                         ·rw [if_neg c54] at H
                          have c54b0 : decide ((wrap64 (x11_2 + 1)) < (t222.length : Int)) = false := decide_eq_false c54
                          clear c54
                          (first | rw [c54b0] | (simp only [i64_w, i32_w]; rw [c54b0]) | skip)
                          have H' := Aside0.mk H
                          clear H
                          go_wp2
                          repeat (go_quiet (fail); try go_wp2)
                          go_meet
                          case rel => exact ⟨_, (false), (by first | rfl | (simp; done) | (simp [*]; done)), H', ⟨by have := HJ5.out; have := HK2.out; have := HJ15.out; have := HJ19.out; have := HJ24.out; have := HJ29.out; have := HJ34.out; have := HJ41.out; first | omega | exact Nat.le_refl _⟩, ⟨by (with_reducible repeat (first | apply Kd.R_alloc | apply Kd.R_drewN | apply Kd.R_drew)); exact HO_3.out⟩, ⟨by (with_reducible repeat (first | apply Kd.R_alloc | apply Kd.R_drewN | apply Kd.R_drew)); exact HO238.out⟩, ⟨by (with_reducible repeat (first | apply Kd.R_alloc | apply Kd.R_drewN | apply Kd.R_drew)); exact HO241.out⟩, ⟨by (with_reducible repeat (first | refine blk_drewN ?_ _ | refine blk_drew ?_ | refine blk_alloc ?_ _)); exact BK235.out⟩, ⟨by repeat (first | (with_reducible first | exact HB.out | apply below_alloc | apply pw_below_drewN | apply below_drew1 | refine below_set ?_ GE235.out) | exact HB.out)⟩⟩
                        case rest => as_aux_lemma =>
                         clear HC50
                         try clear c1; try clear c2; try clear p2; try clear q2; try clear hx2; try clear c3; try clear c4; try clear c5; try clear p6; try clear c7; try clear c9; try clear c9b0; try clear c9b1; try clear c10; try clear c10b0; try clear c10b1; try clear c12; try clear c13; try clear c13b0; try clear c13b1; try clear c14; try clear c14b0; try clear c15; try clear c15b0; try clear c18; try clear c18b0; try clear c18b1; try clear c19; try clear c19b0; try clear c21; try clear c22; try clear c22b0; try clear p22; try clear q22; try clear hx22; try clear c23; try clear c23b0; try clear p23; try clear q23; try clear hx23; try clear p24; try clear q24; try clear hx24; try clear c26; try clear c26b0; try clear c27; try clear c27b0; try clear c28; try clear c28b0; try clear c28b1; try clear c29; try clear c29b0; try clear c31; try clear c32; try clear c32b0; try clear c33; try clear c33b0; try clear c36; try clear c36b0; try clear c36b1; try clear c37; try clear c37b0; try clear c37b1; try clear c39; try clear c39b0; try clear c39b1; try clear c41; try clear c45; try clear c45b0; try clear c48; try clear c49; try clear c54; try clear c54b0; try clear c56; try clear c56b0; try clear c57; try clear c57b0; try clear c58; try clear c58b0; try clear hcz44_0; try clear hcz44_1; try clear hcz44_2; try clear hcz46_0; try clear hcz46_1; try clear hcz46_2; try clear hcz52_0; try clear hcz52_1; try clear hcz52_2; try clear hfz44_0; try clear hfz44_1; try clear hfz44_2; try clear hfz46_0; try clear hfz46_1; try clear hfz46_2; try clear hfz52_0; try clear hfz52_1; try clear hfz52_2; try clear hx229_0; try clear hx229_1; try clear hx229_2; try clear hx229_3; try clear hx229_4; try clear hx229_5; try clear hx229_6; try clear hx230_0; try clear hx230_1; try clear hx230_2; try clear hx230_3; try clear hx230_4; try clear hx230_5; try clear hx230_6; try clear hx231_0; try clear hx231_1; try clear hx231_2; try clear hx231_3; try clear hx231_4; try clear hx231_5; try clear hx231_6; try clear hx232_0; try clear hx233_0; try clear hx233_1; try clear hx233_2; try clear hx233_3; try clear hx233_4; try clear hx233_5; try clear hx233_6; try clear hx234_0; try clear hx242_0; try clear hx242_1; try clear hx242_2; try clear hx242_3; try clear hx242_4; try clear hx242_5; try clear hx242_6; try clear hx243_0; try clear hx243_1; try clear hx243_2; try clear hx243_3; try clear hx243_4; try clear hx243_5; try clear hx243_6; try clear p229; try clear p230; try clear p231; try clear p232; try clear p233; try clear p234; try clear p242; try clear p243; try clear q229; try clear q230; try clear q231; try clear q232; try clear q233; try clear q234; try clear q242; try clear q243
                         obtain ⟨kq, x171_49, rfl, HA, HJ49, HO_3, HO_8, HO_9, BK235, HB⟩ := hcut
                         cases kq with
                         | zero => exact absurd HA.out (by simp [fastilaw23_CupsStrength.j8])
                         | succ kj49 =>
                          have H := HA.out
                          clear HA
                          simp only [fastilaw23_CupsStrength.j8] at H
                          by_cases c59 : x171_49 = true
                          ·subst c59
                           have H1 : (fastilaw23_CupsStrength.l0 kj49 a0 t222 t226 y236 y239 x10_2 (wrap64 (x11_2 + 1))) = some r := by rw [if_pos rfl] at H; exact H
                           clear H
                           have H := H1
                           clear H1
                           have H' := Aside0.mk H
                           clear H
                           go_wp2
                           repeat (go_quiet (fail); try go_wp2)
                           go_roundg kj49
                           case measure => have := HJ5.out; have := HK2.out; have := HJ15.out; have := HJ19.out; have := HJ24.out; have := HJ29.out; have := HJ34.out; have := HJ41.out; have := HJ49.out; omega
                           case rel => exact ⟨(y236), (y239), (x10_2), (wrap64 (x11_2 + 1)), (by first | rfl | (simp; done) | (simp [*]; done)), (by first | rfl | (simp; done) | (simp [*]; done)), H', ⟨by have := HJ5.out; have := HK2.out; have := HJ15.out; have := HJ19.out; have := HJ24.out; have := HJ29.out; have := HJ34.out; have := HJ41.out; have := HJ49.out; omega⟩, ⟨by (with_reducible repeat (first | apply Kd.R_alloc | apply Kd.R_drewN | apply Kd.R_drew)); exact HO_3.out⟩, ⟨by (with_reducible repeat (first | apply Kd.R_alloc | apply Kd.R_drewN | apply Kd.R_drew)); exact HO_8.out⟩, ⟨by (with_reducible repeat (first | apply Kd.R_alloc | apply Kd.R_drewN | apply Kd.R_drew)); exact Kd.R_mono HO_9.out (fun _ hk => trivial)⟩, ⟨by repeat (first | (with_reducible first | exact HB.out | apply below_alloc | apply pw_below_drewN | apply below_drew1 | refine below_set ?_ GE235.out) | exact HB.out)⟩⟩
                          ·replace c59 := Bool.eq_false_iff.mpr c59
                           subst c59
                           have H1 : ((cups_Play.f a0 y239).bind fun bt244 => (if bt244.2.2 = 0 then (fastilaw23_CupsStrength.j9 kj49 a0 t222 t226 y236 y239 x10_2 x11_2 bt244.1 ((bt244.1.length : Int) != x10_2)) else (fastilaw23_CupsStrength.j9 kj49 a0 t222 t226 y236 y239 x10_2 x11_2 bt244.1 true))) = some r := by rw [if_neg (show ¬ (false = true) by decide)] at H; exact H
                           clear H
                           have H := H1
                           clear H1
                           replace H := Option.bind_eq_some_iff.mp H
                           obtain ⟨⟨t244, t245, t246⟩, A600, H⟩ := H
                           replace H : (if t246 = 0 then (fastilaw23_CupsStrength.j9 kj49 a0 t222 t226 y236 y239 x10_2 x11_2 t244 ((t244.length : Int) != x10_2)) else (fastilaw23_CupsStrength.j9 kj49 a0 t222 t226 y236 y239 x10_2 x11_2 t244 true)) = some r := H
                           have A60 := Aside0.mk A600
                           clear A600
                           have HC61 := Aside0.mk H
                           clear H
                           obtain ⟨Ao62, co62, eo62⟩ := Kd.R_slice HO_9.out
                           subst eo62
                           go_upto_region 27 with (first | (go_at_call 16; (with_reducible refine (cups_Play.calls a0 _ _ y239 t244 t245 t246 _ ?side1 ?side2 A60.out).mono ?_); (case side1 => repeat (first | exact (Kd.R_reads' HO_9.out).2.2 | (with_reducible refine Kd.C_alloc ?_ _) | (with_reducible refine Kd.C_drewN ?_ _) | (with_reducible refine Kd.C_drew ?_))); (case side2 => exact (Kd.R_reads' HO_9.out).2.1); rintro e w63 ⟨v247, v249, rfl, ho0, ho1, hb⟩; have n0_ := Aside0.mk (Kd.R_below (by (with_reducible repeat (first | apply Kd.R_alloc | apply Kd.R_drewN | apply Kd.R_drew)); exact HO_3.out) hb); have n1_ := Aside0.mk (Kd.R_mono (Kd.R_told (Kd.R_told (Kd.R_old (by (with_reducible repeat (first | apply Kd.R_alloc | apply Kd.R_drewN | apply Kd.R_drew)); exact HO_8.out) hb) (Kd.R_base ho0)) (Kd.R_base ho1)) (fun _ h_ => h_.1)); have n2_ := Aside0.mk (Kd.R_below (by (with_reducible repeat (first | apply Kd.R_alloc | apply Kd.R_drewN | apply Kd.R_drew)); exact HO_9.out) hb); have n3_ := Aside0.mk (Kd.R_lower (Kd.R_new' ho0 (Kd.R_lt (by (with_reducible repeat (first | apply Kd.R_alloc | apply Kd.R_drewN | apply Kd.R_drew)); exact HO_8.out))) (below_size (by repeat (first | (with_reducible first | exact HB.out | apply below_alloc | apply pw_below_drewN | apply below_drew1 | refine below_set ?_ GE235.out) | exact HB.out)))); have n4_ := Aside0.mk (Kd.R_lower (Kd.R_new' ho1 (Kd.R_lt (by (with_reducible repeat (first | apply Kd.R_alloc | apply Kd.R_drewN | apply Kd.R_drew)); exact HO_8.out))) (below_size (by repeat (first | (with_reducible first | exact HB.out | apply below_alloc | apply pw_below_drewN | apply below_drew1 | refine below_set ?_ GE235.out) | exact HB.out)))); have n5_ := Aside0.mk (blk_below (g := gb235) (o := .cells #[.int .i64 x11_2, .int .i64 x236001_41, .int .i64 x236002_41] 45 (0, 0)) (by (with_reducible repeat (first | refine blk_drewN ?_ _ | refine blk_drew ?_ | refine blk_alloc ?_ _)); exact BK235.out) hb); have n6_ := Aside0.mk (below_step (by repeat (first | (with_reducible first | exact HB.out | apply below_alloc | apply pw_below_drewN | apply below_drew1 | refine below_set ?_ GE235.out) | exact HB.out)) hb); clear HO_3; clear HO_8; clear HO_9; clear BK235; clear HB; have HO_3 := n0_; have HO_8 := n1_; have HO_9 := n2_; have HO248 := n3_; have HO250 := n4_; have BK235 := n5_; have HB := n6_; clear n0_ n1_ n2_ n3_ n4_ n5_ n6_; (try clear hb); (try clear hb2); (try clear hk); (try clear hi); (try clear ho0); (try clear ho1)))
                           repeat (go_quiet (first | (go_at_call 16; (with_reducible refine (cups_Play.calls a0 _ _ y239 t244 t245 t246 _ ?side1 ?side2 A60.out).mono ?_); (case side1 => repeat (first | exact (Kd.R_reads' HO_9.out).2.2 | (with_reducible refine Kd.C_alloc ?_ _) | (with_reducible refine Kd.C_drewN ?_ _) | (with_reducible refine Kd.C_drew ?_))); (case side2 => exact (Kd.R_reads' HO_9.out).2.1); rintro e w63 ⟨v247, v249, rfl, ho0, ho1, hb⟩; have n0_ := Aside0.mk (Kd.R_below (by (with_reducible repeat (first | apply Kd.R_alloc | apply Kd.R_drewN | apply Kd.R_drew)); exact HO_3.out) hb); have n1_ := Aside0.mk (Kd.R_mono (Kd.R_told (Kd.R_told (Kd.R_old (by (with_reducible repeat (first | apply Kd.R_alloc | apply Kd.R_drewN | apply Kd.R_drew)); exact HO_8.out) hb) (Kd.R_base ho0)) (Kd.R_base ho1)) (fun _ h_ => h_.1)); have n2_ := Aside0.mk (Kd.R_below (by (with_reducible repeat (first | apply Kd.R_alloc | apply Kd.R_drewN | apply Kd.R_drew)); exact HO_9.out) hb); have n3_ := Aside0.mk (Kd.R_lower (Kd.R_new' ho0 (Kd.R_lt (by (with_reducible repeat (first | apply Kd.R_alloc | apply Kd.R_drewN | apply Kd.R_drew)); exact HO_8.out))) (below_size (by repeat (first | (with_reducible first | exact HB.out | apply below_alloc | apply pw_below_drewN | apply below_drew1 | refine below_set ?_ GE235.out) | exact HB.out)))); have n4_ := Aside0.mk (Kd.R_lower (Kd.R_new' ho1 (Kd.R_lt (by (with_reducible repeat (first | apply Kd.R_alloc | apply Kd.R_drewN | apply Kd.R_drew)); exact HO_8.out))) (below_size (by repeat (first | (with_reducible first | exact HB.out | apply below_alloc | apply pw_below_drewN | apply below_drew1 | refine below_set ?_ GE235.out) | exact HB.out)))); have n5_ := Aside0.mk (blk_below (g := gb235) (o := .cells #[.int .i64 x11_2, .int .i64 x236001_41, .int .i64 x236002_41] 45 (0, 0)) (by (with_reducible repeat (first | refine blk_drewN ?_ _ | refine blk_drew ?_ | refine blk_alloc ?_ _)); exact BK235.out) hb); have n6_ := Aside0.mk (below_step (by repeat (first | (with_reducible first | exact HB.out | apply below_alloc | apply pw_below_drewN | apply below_drew1 | refine below_set ?_ GE235.out) | exact HB.out)) hb); clear HO_3; clear HO_8; clear HO_9; clear BK235; clear HB; have HO_3 := n0_; have HO_8 := n1_; have HO_9 := n2_; have HO248 := n3_; have HO250 := n4_; have BK235 := n5_; have HB := n6_; clear n0_ n1_ n2_ n3_ n4_ n5_ n6_; (try clear hb); (try clear hb2); (try clear hk); (try clear hi); (try clear ho0); (try clear ho1))); go_upto_region 27 with (first | (go_at_call 16; (with_reducible refine (cups_Play.calls a0 _ _ y239 t244 t245 t246 _ ?side1 ?side2 A60.out).mono ?_); (case side1 => repeat (first | exact (Kd.R_reads' HO_9.out).2.2 | (with_reducible refine Kd.C_alloc ?_ _) | (with_reducible refine Kd.C_drewN ?_ _) | (with_reducible refine Kd.C_drew ?_))); (case side2 => exact (Kd.R_reads' HO_9.out).2.1); rintro e w63 ⟨v247, v249, rfl, ho0, ho1, hb⟩; have n0_ := Aside0.mk (Kd.R_below (by (with_reducible repeat (first | apply Kd.R_alloc | apply Kd.R_drewN | apply Kd.R_drew)); exact HO_3.out) hb); have n1_ := Aside0.mk (Kd.R_mono (Kd.R_told (Kd.R_told (Kd.R_old (by (with_reducible repeat (first | apply Kd.R_alloc | apply Kd.R_drewN | apply Kd.R_drew)); exact HO_8.out) hb) (Kd.R_base ho0)) (Kd.R_base ho1)) (fun _ h_ => h_.1)); have n2_ := Aside0.mk (Kd.R_below (by (with_reducible repeat (first | apply Kd.R_alloc | apply Kd.R_drewN | apply Kd.R_drew)); exact HO_9.out) hb); have n3_ := Aside0.mk (Kd.R_lower (Kd.R_new' ho0 (Kd.R_lt (by (with_reducible repeat (first | apply Kd.R_alloc | apply Kd.R_drewN | apply Kd.R_drew)); exact HO_8.out))) (below_size (by repeat (first | (with_reducible first | exact HB.out | apply below_alloc | apply pw_below_drewN | apply below_drew1 | refine below_set ?_ GE235.out) | exact HB.out)))); have n4_ := Aside0.mk (Kd.R_lower (Kd.R_new' ho1 (Kd.R_lt (by (with_reducible repeat (first | apply Kd.R_alloc | apply Kd.R_drewN | apply Kd.R_drew)); exact HO_8.out))) (below_size (by repeat (first | (with_reducible first | exact HB.out | apply below_alloc | apply pw_below_drewN | apply below_drew1 | refine below_set ?_ GE235.out) | exact HB.out)))); have n5_ := Aside0.mk (blk_below (g := gb235) (o := .cells #[.int .i64 x11_2, .int .i64 x236001_41, .int .i64 x236002_41] 45 (0, 0)) (by (with_reducible repeat (first | refine blk_drewN ?_ _ | refine blk_drew ?_ | refine blk_alloc ?_ _)); exact BK235.out) hb); have n6_ := Aside0.mk (below_step (by repeat (first | (with_reducible first | exact HB.out | apply below_alloc | apply pw_below_drewN | apply below_drew1 | refine below_set ?_ GE235.out) | exact HB.out)) hb); clear HO_3; clear HO_8; clear HO_9; clear BK235; clear HB; have HO_3 := n0_; have HO_8 := n1_; have HO_9 := n2_; have HO248 := n3_; have HO250 := n4_; have BK235 := n5_; have HB := n6_; clear n0_ n1_ n2_ n3_ n4_ n5_ n6_; (try clear hb); (try clear hb2); (try clear hk); (try clear hi); (try clear ho0); (try clear ho1))))
                           (try simp only [Act.put, List.setIfInBounds_toArray, List.set_cons_zero, List.set_cons_succ])
                           go_cut [186] (fun v186 wc => ∃ (kq : Nat) (x186_60 : Bool), v186 = .bool x186_60 ∧ Aside0 (fastilaw23_CupsStrength.j9 kq a0 t222 t226 y236 y239 x10_2 x11_2 t244 x186_60 = some r) ∧ Aside0 (kq ≤ kj49) ∧ Aside0 (Kd.R k42 42 wc w.heap.size (fun _ => True) (.slice (some ad229) t222.length co17) t222) ∧ Aside0 (Kd.R (Kd.int .i64) 3 wc w.heap.size (fun k_ => some k_ ≠ (v247 : Value).ownBlock) v237 y236) ∧ Aside0 (Kd.R k45 45 wc w.heap.size (fun k_ => k_ ≠ gb235) (.slice Ao62 y239.length co62) y239) ∧ Aside0 (Kd.R (Kd.int .i64) 3 wc w.heap.size (fun k_ => some k_ ≠ (v237 : Value).ownBlock) v247 t244) ∧ Aside0 (wc.heap[gb235]? = some (.cells #[.int .i64 x11_2, .int .i64 x236001_41, .int .i64 x236002_41] 45 (0, 0))) ∧ Aside0 (Below w.heap.size w wc))
                           case first =>
                            have H := HC61.out
                            clear HC61
                            by_cases c64 : t246 = 0
                            ·rw [if_pos c64] at H
                             have c64b0 : (t246 == 0) = true := beq_iff_eq.mpr c64
                             have c64b1 : (t246 != 0) = false := bne_eq_false_iff_eq.mpr c64
                             clear c64
                             (first | rw [c64b0] | (simp only [i64_w, i32_w]; rw [c64b0]) | skip)
                             have H' := Aside0.mk H
                             clear H
                             obtain ⟨Ao65, co65, eo65⟩ := Kd.R_slice HO248.out
                             subst eo65
                             go_wp2
                             repeat (go_quiet (fail); try go_wp2)
                             go_meet
                             case rel => exact ⟨_, (((t244.length : Int) != x10_2)), (by first | rfl | (simp; done) | (simp [*]; done)), H', ⟨by have := HJ5.out; have := HK2.out; have := HJ15.out; have := HJ19.out; have := HJ24.out; have := HJ29.out; have := HJ34.out; have := HJ41.out; have := HJ49.out; first | omega | exact Nat.le_refl _⟩, ⟨by (with_reducible repeat (first | apply Kd.R_alloc | apply Kd.R_drewN | apply Kd.R_drew)); exact HO_3.out⟩, ⟨by (with_reducible repeat (first | apply Kd.R_alloc | apply Kd.R_drewN | apply Kd.R_drew)); exact Kd.R_mono HO_8.out (fun _ hk => hk.1.2)⟩, ⟨by (with_reducible repeat (first | apply Kd.R_alloc | apply Kd.R_drewN | apply Kd.R_drew)); exact HO_9.out⟩, ⟨by (with_reducible repeat (first | apply Kd.R_alloc | apply Kd.R_drewN | apply Kd.R_drew)); exact Kd.R_mono HO248.out (fun _ hk => hk.2)⟩, ⟨by (with_reducible repeat (first | refine blk_drewN ?_ _ | refine blk_drew ?_ | refine blk_alloc ?_ _)); exact BK235.out⟩, ⟨by repeat (first | (with_reducible first | exact HB.out | apply below_alloc | apply pw_below_drewN | apply below_drew1 | refine below_set ?_ GE235.out) | exact HB.out)⟩⟩
                            ·rw [if_neg c64] at H
                             have c64b0 : (t246 == 0) = false := beq_eq_false_iff_ne.mpr c64
                             have c64b1 : (t246 != 0) = true := bne_iff_ne.mpr c64
                             (first | rw [c64b0] | (simp only [i64_w, i32_w]; rw [c64b0]) | skip)
                             have H' := Aside0.mk H
                             clear H
                             go_wp2
                             repeat (go_quiet (fail); try go_wp2)
                             go_meet
                             case rel => exact ⟨_, (true), (by first | rfl | (simp; done) | (simp [*]; done)), H', ⟨by have := HJ5.out; have := HK2.out; have := HJ15.out; have := HJ19.out; have := HJ24.out; have := HJ29.out; have := HJ34.out; have := HJ41.out; have := HJ49.out; first | omega | exact Nat.le_refl _⟩, ⟨by (with_reducible repeat (first | apply Kd.R_alloc | apply Kd.R_drewN | apply Kd.R_drew)); exact HO_3.out⟩, ⟨by (with_reducible repeat (first | apply Kd.R_alloc | apply Kd.R_drewN | apply Kd.R_drew)); exact Kd.R_mono HO_8.out (fun _ hk => hk.1.2)⟩, ⟨by (with_reducible repeat (first | apply Kd.R_alloc | apply Kd.R_drewN | apply Kd.R_drew)); exact HO_9.out⟩, ⟨by (with_reducible repeat (first | apply Kd.R_alloc | apply Kd.R_drewN | apply Kd.R_drew)); exact Kd.R_mono HO248.out (fun _ hk => hk.2)⟩, ⟨by (with_reducible repeat (first | refine blk_drewN ?_ _ | refine blk_drew ?_ | refine blk_alloc ?_ _)); exact BK235.out⟩, ⟨by repeat (first | (with_reducible first | exact HB.out | apply below_alloc | apply pw_below_drewN | apply below_drew1 | refine below_set ?_ GE235.out) | exact HB.out)⟩⟩
                           case rest => as_aux_lemma =>
                            clear HC61
                            try clear c1; try clear c2; try clear p2; try clear q2; try clear hx2; try clear c3; try clear c4; try clear c5; try clear c6; try clear p6; try clear c7; try clear c9; try clear c9b0; try clear c9b1; try clear c10; try clear c10b0; try clear c10b1; try clear c12; try clear c13; try clear c13b0; try clear c13b1; try clear c14; try clear c14b0; try clear c15; try clear c15b0; try clear c18; try clear c18b0; try clear c18b1; try clear c19; try clear c19b0; try clear c21; try clear c22; try clear c22b0; try clear p22; try clear q22; try clear hx22; try clear c23; try clear c23b0; try clear p23; try clear q23; try clear hx23; try clear p24; try clear q24; try clear hx24; try clear c26; try clear c26b0; try clear c27; try clear c27b0; try clear c28; try clear c28b0; try clear c28b1; try clear c29; try clear c29b0; try clear c31; try clear c32; try clear c32b0; try clear c33; try clear c33b0; try clear c36; try clear c36b0; try clear c36b1; try clear c37; try clear c37b0; try clear c37b1; try clear c39; try clear c39b0; try clear c39b1; try clear c41; try clear c45; try clear c45b0; try clear c48; try clear c49; try clear c54; try clear c54b0; try clear c56; try clear c56b0; try clear c57; try clear c57b0; try clear c58; try clear c58b0; try clear c59; try clear c64; try clear c64b0; try clear c64b1; try clear p64; try clear hcz44_0; try clear hcz44_1; try clear hcz44_2; try clear hcz46_0; try clear hcz46_1; try clear hcz46_2; try clear hcz52_0; try clear hcz52_1; try clear hcz52_2; try clear hfz44_0; try clear hfz44_1; try clear hfz44_2; try clear hfz46_0; try clear hfz46_1; try clear hfz46_2; try clear hfz52_0; try clear hfz52_1; try clear hfz52_2; try clear hx229_0; try clear hx229_1; try clear hx229_2; try clear hx229_3; try clear hx229_4; try clear hx229_5; try clear hx229_6; try clear hx230_0; try clear hx230_1; try clear hx230_2; try clear hx230_3; try clear hx230_4; try clear hx230_5; try clear hx230_6; try clear hx231_0; try clear hx231_1; try clear hx231_2; try clear hx231_3; try clear hx231_4; try clear hx231_5; try clear hx231_6; try clear hx232_0; try clear hx233_0; try clear hx233_1; try clear hx233_2; try clear hx233_3; try clear hx233_4; try clear hx233_5; try clear hx233_6; try clear hx234_0; try clear hx242_0; try clear hx242_1; try clear hx242_2; try clear hx242_3; try clear hx242_4; try clear hx242_5; try clear hx242_6; try clear hx243_0; try clear hx243_1; try clear hx243_2; try clear hx243_3; try clear hx243_4; try clear hx243_5; try clear hx243_6; try clear p229; try clear p230; try clear p231; try clear p232; try clear p233; try clear p234; try clear p242; try clear p243; try clear q229; try clear q230; try clear q231; try clear q232; try clear q233; try clear q234; try clear q242; try clear q243
                            obtain ⟨kq, x186_60, rfl, HA, HJ60, HO_3, HO_8, HO_9, HO_15, BK235, HB⟩ := hcut
                            cases kq with
                            | zero => exact absurd HA.out (by simp [fastilaw23_CupsStrength.j9])
                            | succ kj60 =>
                             have H := HA.out
                             clear HA
                             simp only [fastilaw23_CupsStrength.j9] at H
                             by_cases c66 : x186_60 = true
                             ·subst c66
                              have H1 : (some false) = some r := by rw [if_pos rfl] at H; exact H
                              clear H
                              have H := H1
                              clear H1
                              obtain rfl := Option.some.inj H
                              go_wp2
                              repeat (go_quiet (fail); try go_wp2)
                              go_ret
                              exact ⟨by first | rfl | (simp [errW_none, errW_some] <;> rfl) | (simp only [← hji47]; first | rfl | (simp [errW_none, errW_some] <;> rfl)) | (simp [*, errW_none, errW_some] <;> rfl), by repeat (first | (with_reducible first | exact HB.out | apply below_alloc | apply pw_below_drewN | apply below_drew1 | refine below_set ?_ GE235.out) | exact HB.out)⟩
                             ·replace c66 := Bool.eq_false_iff.mpr c66
                              subst c66
                              have H1 : (fastilaw23_CupsStrength.l1 kj60 a0 t222 t226 y236 y239 x10_2 x11_2 t244 0) = some r := by rw [if_neg (show ¬ (false = true) by decide)] at H; exact H
                              clear H
                              have H := H1
                              clear H1
                              have H' := Aside0.mk H
                              clear H
                              go_wp2
                              repeat (go_quiet (fail); try go_wp2)
                              go_loopg [18] kj60 (fun kq v18 w' => ∃ (x18_11 : Int), v18 = .int .i64 x18_11 ∧ Aside0 (fastilaw23_CupsStrength.l1 kq a0 t222 t226 y236 y239 x10_2 x11_2 t244 x18_11 = some r) ∧ Aside0 (kq ≤ kj60) ∧ Aside0 (Kd.R k42 42 w' w.heap.size (fun _ => True) (.slice (some ad229) t222.length co17) t222) ∧ Aside0 (Kd.R (Kd.int .i64) 3 w' w.heap.size (fun k_ => some k_ ≠ (v247 : Value).ownBlock) v237 y236) ∧ Aside0 (Kd.R k45 45 w' w.heap.size (fun k_ => k_ ≠ gb235) (.slice Ao62 y239.length co62) y239) ∧ Aside0 (Kd.R (Kd.int .i64) 3 w' w.heap.size (fun k_ => some k_ ≠ (v237 : Value).ownBlock) v247 t244) ∧ Aside0 (w'.heap[gb235]? = some (.cells #[.int .i64 x11_2, .int .i64 x236001_41, .int .i64 x236002_41] 45 (0, 0))) ∧ Aside0 (Below w.heap.size w w'))
                              case atStart => exact ⟨(0), (by first | rfl | (simp; done) | (simp [*]; done)), H', ⟨Nat.le_refl _⟩, ⟨by (with_reducible repeat (first | apply Kd.R_alloc | apply Kd.R_drewN | apply Kd.R_drew)); exact HO_3.out⟩, ⟨by (with_reducible repeat (first | apply Kd.R_alloc | apply Kd.R_drewN | apply Kd.R_drew)); exact HO_8.out⟩, ⟨by (with_reducible repeat (first | apply Kd.R_alloc | apply Kd.R_drewN | apply Kd.R_drew)); exact HO_9.out⟩, ⟨by (with_reducible repeat (first | apply Kd.R_alloc | apply Kd.R_drewN | apply Kd.R_drew)); exact HO_15.out⟩, ⟨by (with_reducible repeat (first | refine blk_drewN ?_ _ | refine blk_drew ?_ | refine blk_alloc ?_ _)); exact BK235.out⟩, ⟨by repeat (first | (with_reducible first | exact HB.out | apply below_alloc | apply pw_below_drewN | apply below_drew1 | refine below_set ?_ GE235.out) | exact HB.out)⟩⟩
                              case round => as_aux_lemma =>
                               clear H'
                               try clear c1; try clear c2; try clear p2; try clear q2; try clear hx2; try clear c3; try clear c4; try clear c5; try clear c6; try clear p6; try clear c7; try clear c9; try clear c9b0; try clear c9b1; try clear c10; try clear c10b0; try clear c10b1; try clear c12; try clear c13; try clear c13b0; try clear c13b1; try clear c14; try clear c14b0; try clear c15; try clear c15b0; try clear c18; try clear c18b0; try clear c18b1; try clear c19; try clear c19b0; try clear c21; try clear c22; try clear c22b0; try clear p22; try clear q22; try clear hx22; try clear c23; try clear c23b0; try clear p23; try clear q23; try clear hx23; try clear p24; try clear q24; try clear hx24; try clear c26; try clear c26b0; try clear c27; try clear c27b0; try clear c28; try clear c28b0; try clear c28b1; try clear c29; try clear c29b0; try clear c31; try clear c32; try clear c32b0; try clear c33; try clear c33b0; try clear c36; try clear c36b0; try clear c36b1; try clear c37; try clear c37b0; try clear c37b1; try clear c39; try clear c39b0; try clear c39b1; try clear c41; try clear c45; try clear c45b0; try clear c48; try clear c49; try clear c54; try clear c54b0; try clear c56; try clear c56b0; try clear c57; try clear c57b0; try clear c58; try clear c58b0; try clear c59; try clear c64; try clear c64b0; try clear c64b1; try clear p64; try clear c66; try clear hcz44_0; try clear hcz44_1; try clear hcz44_2; try clear hcz46_0; try clear hcz46_1; try clear hcz46_2; try clear hcz52_0; try clear hcz52_1; try clear hcz52_2; try clear hfz44_0; try clear hfz44_1; try clear hfz44_2; try clear hfz46_0; try clear hfz46_1; try clear hfz46_2; try clear hfz52_0; try clear hfz52_1; try clear hfz52_2; try clear hx229_0; try clear hx229_1; try clear hx229_2; try clear hx229_3; try clear hx229_4; try clear hx229_5; try clear hx229_6; try clear hx230_0; try clear hx230_1; try clear hx230_2; try clear hx230_3; try clear hx230_4; try clear hx230_5; try clear hx230_6; try clear hx231_0; try clear hx231_1; try clear hx231_2; try clear hx231_3; try clear hx231_4; try clear hx231_5; try clear hx231_6; try clear hx232_0; try clear hx233_0; try clear hx233_1; try clear hx233_2; try clear hx233_3; try clear hx233_4; try clear hx233_5; try clear hx233_6; try clear hx234_0; try clear hx242_0; try clear hx242_1; try clear hx242_2; try clear hx242_3; try clear hx242_4; try clear hx242_5; try clear hx242_6; try clear hx243_0; try clear hx243_1; try clear hx243_2; try clear hx243_3; try clear hx243_4; try clear hx243_5; try clear hx243_6; try clear p229; try clear p230; try clear p231; try clear p232; try clear p233; try clear p234; try clear p242; try clear p243; try clear q229; try clear q230; try clear q231; try clear q232; try clear q233; try clear q234; try clear q242; try clear q243
                               obtain ⟨x18_11, rfl, HA, HK11, HO_3, HO_8, HO_9, HO_15, BK235, HB⟩ := hrel
                               cases gk with
                               | zero => exact absurd HA.out (by simp [fastilaw23_CupsStrength.l1])
                               | succ k11 =>
                                have H := HA.out
                                clear HA
                                simp only [fastilaw23_CupsStrength.l1] at H
                                by_cases c67 : x18_11 < x10_2
                                ·rw [if_pos c67] at H
                                 have c67b0 : decide (x18_11 < x10_2) = true := decide_eq_true c67
                                 clear c67
                                 by_cases c68 : 0 ≤ x18_11
                                 ·rw [if_pos c68] at H
                                  have c68b0 : decide (0 ≤ x18_11) = true := decide_eq_true c68
                                  clear c68
                                  by_cases c69 : x18_11 < (t244.length : Int)
                                  ·rw [if_pos c69] at H
                                   have c69b0 : decide (x18_11 < (t244.length : Int)) = true := decide_eq_true c69
                                   clear c69
                                   by_cases c70 : (rd t244 x18_11) = x18_11
                                   ·rw [if_pos c70] at H
                                    have c70b0 : ((rd t244 x18_11) == x18_11) = true := beq_iff_eq.mpr c70
                                    have c70b1 : ((rd t244 x18_11) != x18_11) = false := bne_eq_false_iff_eq.mpr c70
                                    clear c70
                                    have H' := Aside0.mk H
                                    clear H
                                    obtain ⟨Ao71, co71, eo71⟩ := Kd.R_slice HO_15.out
                                    subst eo71
                                    have p251 : 0 ≤ (x18_11 : Int) := of_decide_eq_true (by first | (with_reducible assumption) | assumption)
                                    have q251 : x18_11 < (t244.length : Int) := of_decide_eq_true (by first | (with_reducible assumption) | assumption)
                                    obtain ⟨ad251, e251, hx251_0⟩ := Kd.at_int (Kd.R_reads' HO_15.out).2.2 x18_11 p251 q251
                                    cases e251
                                    replace p251 := eq_true p251
                                    replace q251 := eq_true q251
                                    go_wp2
                                    repeat (go_quiet (fail); try go_wp2)
                                    go_roundg k11
                                    case measure => have := HJ5.out; have := HK2.out; have := HJ15.out; have := HJ19.out; have := HJ24.out; have := HJ29.out; have := HJ34.out; have := HJ41.out; have := HJ49.out; have := HJ60.out; have := HK11.out; omega
                                    case rel => exact ⟨(wrap64 (x18_11 + 1)), (by first | rfl | (simp; done) | (simp [*]; done)), H', ⟨by have := HJ5.out; have := HK2.out; have := HJ15.out; have := HJ19.out; have := HJ24.out; have := HJ29.out; have := HJ34.out; have := HJ41.out; have := HJ49.out; have := HJ60.out; have := HK11.out; omega⟩, ⟨by (with_reducible repeat (first | apply Kd.R_alloc | apply Kd.R_drewN | apply Kd.R_drew)); exact HO_3.out⟩, ⟨by (with_reducible repeat (first | apply Kd.R_alloc | apply Kd.R_drewN | apply Kd.R_drew)); exact HO_8.out⟩, ⟨by (with_reducible repeat (first | apply Kd.R_alloc | apply Kd.R_drewN | apply Kd.R_drew)); exact HO_9.out⟩, ⟨by (with_reducible repeat (first | apply Kd.R_alloc | apply Kd.R_drewN | apply Kd.R_drew)); exact HO_15.out⟩, ⟨by (with_reducible repeat (first | refine blk_drewN ?_ _ | refine blk_drew ?_ | refine blk_alloc ?_ _)); exact BK235.out⟩, ⟨by repeat (first | (with_reducible first | exact HB.out | apply below_alloc | apply pw_below_drewN | apply below_drew1 | refine below_set ?_ GE235.out) | exact HB.out)⟩⟩
                                   ·rw [if_neg c70] at H
                                    have c70b0 : ((rd t244 x18_11) == x18_11) = false := beq_eq_false_iff_ne.mpr c70
                                    have c70b1 : ((rd t244 x18_11) != x18_11) = true := bne_iff_ne.mpr c70
                                    obtain rfl := Option.some.inj H
                                    obtain ⟨Ao72, co72, eo72⟩ := Kd.R_slice HO_15.out
                                    subst eo72
                                    have p251 : 0 ≤ (x18_11 : Int) := of_decide_eq_true (by first | (with_reducible assumption) | assumption)
                                    have q251 : x18_11 < (t244.length : Int) := of_decide_eq_true (by first | (with_reducible assumption) | assumption)
                                    obtain ⟨ad251, e251, hx251_0⟩ := Kd.at_int (Kd.R_reads' HO_15.out).2.2 x18_11 p251 q251
                                    cases e251
                                    replace p251 := eq_true p251
                                    replace q251 := eq_true q251
                                    go_wp2
                                    repeat (go_quiet (fail); try go_wp2)
                                    go_ret
                                    exact ⟨by first | rfl | (simp [errW_none, errW_some] <;> rfl) | (simp only [← hji47]; first | rfl | (simp [errW_none, errW_some] <;> rfl)) | (simp [*, errW_none, errW_some] <;> rfl), by repeat (first | (with_reducible first | exact HB.out | apply below_alloc | apply pw_below_drewN | apply below_drew1 | refine below_set ?_ GE235.out) | exact HB.out)⟩
                                  ·rw [if_neg c69] at H
                                   exact absurd H (by simp)
                                 ·rw [if_neg c68] at H
                                  exact absurd H (by simp)
                                ·rw [if_neg c67] at H
                                 have c67b0 : decide (x18_11 < x10_2) = false := decide_eq_false c67
                                 clear c67
                                 have H' := Aside0.mk H
                                 clear H
                                 go_wp2
                                 repeat (go_quiet (fail); try go_wp2)
                                 go_roundg k11
                                 case measure => have := HJ5.out; have := HK2.out; have := HJ15.out; have := HJ19.out; have := HJ24.out; have := HJ29.out; have := HJ34.out; have := HJ41.out; have := HJ49.out; have := HJ60.out; have := HK11.out; omega
                                 case rel => exact ⟨(y236), (y239), (wrap64 (Int.tdiv x10_2 2)), (wrap64 (x11_2 + 1)), (by first | rfl | (simp; done) | (simp [*]; done)), (by first | rfl | (simp; done) | (simp [*]; done)), H', ⟨by have := HJ5.out; have := HK2.out; have := HJ15.out; have := HJ19.out; have := HJ24.out; have := HJ29.out; have := HJ34.out; have := HJ41.out; have := HJ49.out; have := HJ60.out; have := HK11.out; omega⟩, ⟨by (with_reducible repeat (first | apply Kd.R_alloc | apply Kd.R_drewN | apply Kd.R_drew)); exact HO_3.out⟩, ⟨by (with_reducible repeat (first | apply Kd.R_alloc | apply Kd.R_drewN | apply Kd.R_drew)); exact Kd.R_mono HO_8.out (fun _ hk => trivial)⟩, ⟨by (with_reducible repeat (first | apply Kd.R_alloc | apply Kd.R_drewN | apply Kd.R_drew)); exact Kd.R_mono HO_9.out (fun _ hk => trivial)⟩, ⟨by repeat (first | (with_reducible first | exact HB.out | apply below_alloc | apply pw_below_drewN | apply below_drew1 | refine below_set ?_ GE235.out) | exact HB.out)⟩⟩
                       ·rw [if_neg c49] at H
                        exact absurd H (by simp)
                      ·rw [if_neg c48] at H
                       exact absurd H (by simp)
        ·rw [if_neg c15] at H
         exact absurd H (by simp)
       ·rw [if_neg c14] at H
        have c14b0 : decide (x11_2 < (t222.length : Int)) = false := decide_eq_false c14
        clear c14
        by_cases c73 : t226 ≥ 1
        ·rw [if_pos c73] at H
         have c73b0 : decide (1 ≤ t226) = true := decide_eq_true c73
         clear c73
         obtain rfl := Option.some.inj H
         obtain ⟨Ao74, co74, eo74⟩ := Kd.R_slice HO_3.out
         subst eo74
         go_wp2
         repeat (go_quiet (fail); try go_wp2)
         go_ret
         exact ⟨by first | rfl | (simp [errW_none, errW_some] <;> rfl) | (simp [*, errW_none, errW_some] <;> rfl), by repeat (first | (with_reducible first | exact HB.out | apply below_alloc | apply pw_below_drewN | apply below_drew1) | exact HB.out)⟩
        ·rw [if_neg c73] at H
         have c73b0 : decide (1 ≤ t226) = false := decide_eq_false c73
         clear c73
         obtain rfl := Option.some.inj H
         obtain ⟨Ao75, co75, eo75⟩ := Kd.R_slice HO_3.out
         subst eo75
         go_wp2
         repeat (go_quiet (fail); try go_wp2)
         go_ret
         exact ⟨by first | rfl | (simp [errW_none, errW_some] <;> rfl) | (simp [*, errW_none, errW_some] <;> rfl), by repeat (first | (with_reducible first | exact HB.out | apply below_alloc | apply pw_below_drewN | apply below_drew1) | exact HB.out)⟩
 ·replace c3 := Bool.eq_false_iff.mpr c3
  subst c3
  have H1 : (some false) = some r := by rw [if_neg (show ¬ (false = true) by decide)] at H; exact H
  clear H
  have H := H1
  clear H1
  obtain rfl := Option.some.inj H
  go_enter Try.func7, Try.ntmps7
  go_wp2_with (first | (go_at_call 10; (with_reducible refine (fastilaw23_sane.calls  false _ A2.out).mono ?_); rintro e w76 ⟨rfl, hb⟩; have n0_ := Aside0.mk (below_step (by repeat (first | (with_reducible first | exact HB.out | apply below_alloc | apply pw_below_drewN | apply below_drew1) | exact HB.out)) hb); clear HB; have HB := n0_; clear n0_; (try clear hb); (try clear hb2); (try clear hk); (try clear hi)))
  repeat (go_quiet (first | (go_at_call 10; (with_reducible refine (fastilaw23_sane.calls  false _ A2.out).mono ?_); rintro e w76 ⟨rfl, hb⟩; have n0_ := Aside0.mk (below_step (by repeat (first | (with_reducible first | exact HB.out | apply below_alloc | apply pw_below_drewN | apply below_drew1) | exact HB.out)) hb); clear HB; have HB := n0_; clear n0_; (try clear hb); (try clear hb2); (try clear hk); (try clear hi))); try go_wp2_with (first | (go_at_call 10; (with_reducible refine (fastilaw23_sane.calls  false _ A2.out).mono ?_); rintro e w76 ⟨rfl, hb⟩; have n0_ := Aside0.mk (below_step (by repeat (first | (with_reducible first | exact HB.out | apply below_alloc | apply pw_below_drewN | apply below_drew1) | exact HB.out)) hb); clear HB; have HB := n0_; clear n0_; (try clear hb); (try clear hb2); (try clear hk); (try clear hi))))
  go_ret
  exact ⟨by first | rfl | (simp [errW_none, errW_some] <;> rfl) | (simp [*, errW_none, errW_some] <;> rfl), by repeat (first | (with_reducible first | exact HB.out | apply below_alloc | apply pw_below_drewN | apply below_drew1) | exact HB.out)⟩

/-- THE ONE PURE STATEMENT of fastilaw23_CupsStrength: yours. -/
def fastilaw23_CupsStrength.Pure : Prop := ∀ (a0 : Int), (Lit.int .i64 a0).wf = true → ∃ k, fastilaw23_CupsStrength.f k a0 = some true
theorem fastilaw23_CupsStrength.walk (P : fastilaw23_CupsStrength.Pure) (a0 : Int) (w : World) (w0 : (Lit.int .i64 a0).wf = true) :
  Calls Try.prog 7 #[.int .i64 a0] w fun e w' => e = .returned (.bool true) ∧ Below w.heap.size w w' := by
 obtain ⟨k, h⟩ := P a0 w0
 refine (fastilaw23_CupsStrength.calls k a0 true w h).mono ?_
 rintro e w' ⟨rfl, hd⟩
 exact ⟨rfl, hd⟩

end Go.Proofs.Ytaadhandkljcdaa.X
