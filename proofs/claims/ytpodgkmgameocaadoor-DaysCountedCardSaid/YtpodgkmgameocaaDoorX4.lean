/- Proved here: for functions of the program and of the reference, what each call returns (theorems '.calls'), under the conditions that each theorem names. Printed by this project's own driver over the kit's printer; parts marked EXT are written by hand. Lean checks it. -/
import Derived.Test.YtpodgkmgameocaaDoorX0
import Derived.Test.YtpodgkmgameocaaDoorK
import Derived.Test.YtpodgkmgameocaaDoorXGlob
import Derived.Deep.Cut
import Derived.BigQuiet
import Derived.Deep.QuietTactic
namespace Go.Proofs.YtpodgkmgameocaaDoor.X
open Go.RowKit Go.Proofs.YtpodgkmgameocaaDoorW.PrintWords Go.Proofs.YtpodgkmgameocaaDoorW.PrintLast Go.Proofs.YtpodgkmgameocaaDoorW.PrintMore
attribute [local go_sem] max2_int min2_int max_two min_two max_three min_three max_four min_four   -- for this text's walks alone
set_option linter.unusedVariables false
set_option linter.unusedSimpArgs false

-- EXT days_Number: function 12
-- def days_Number.f (a0_0 : Int) (a0_1 : Int) (a0_2 : Int) : Option (Int × Int) := 
-- theorem days_Number.calls (a0_0 : Int) (a0_1 : Int) (a0_2 : Int) (r1 : Int) (r2 : Int) (w : World) (h : days_Number.f a0_0 a0_1 a0_2 = some (r1, r2)) :
--     Calls Tryd.prog 12 #[.agg #[.int .i64 a0_0, .int .i64 a0_1, .int .i64 a0_2]] w fun e w' => e = .returned (.tuple #[.int .i64 r1, .int .i64 r2]) ∧ Below w.heap.size w w'
-- INFO: 3, 45
-- IMPORTS: Derived.Test.YtpodgkmgameocaaDoorK, Derived.Test.YtpodgkmgameocaaDoorXGlob, Derived.Deep.Cut, Derived.BigQuiet, Derived.Deep.QuietTactic
namespace CN
open Go.Proofs.YtpodgkmgameocaaDoor.K
attribute [local go_sem] Oper.semAt_some
theorem wrap_eq {n : Int} (h0 : -9223372036854775808 ≤ n) (h1 : n ≤ 9223372036854775807) : IntKind.i64.wrap n = n := by
 rw [IntKind.wrap_i64]
 omega
def leapB (y : Int) : Bool := (y % 4 == 0) && (y != 2100)
set_option maxRecDepth 100000 in
theorem leap_calls (y : Int) (h0 : 0 ≤ y) (h1 : y ≤ 10000) (w : World) : Calls Tryd.prog 35 #[.int .i64 y] w fun e w' => e = .returned (.bool (leapB y)) ∧ w' = w := by
 by_cases h4 : y % 4 = 0
 ·have k1 : (y % 4 == 0) = true := beq_iff_eq.2 h4
  have hl : leapB y = (y != 2100) := by unfold leapB; rw [k1]; rfl
  rw [hl]
  clear h4 hl
  go_enter Tryd.func35, Tryd.ntmps35
  go_wp2_with fail
  exact bodyPost_ret (v := .bool (y != 2100)) (by simp [results, Tryd.results35, go_sem]) rfl ⟨rfl, rfl⟩
 ·have k1 : (y % 4 == 0) = false := beq_eq_false_iff_ne.2 h4
  have hl : leapB y = false := by unfold leapB; rw [k1]; rfl
  rw [hl]
  clear h4 hl
  go_enter Tryd.func35, Tryd.ntmps35
  go_wp2_with fail
  exact bodyPost_ret (v := .bool false) (by simp [results, Tryd.results35, go_sem]) rfl ⟨rfl, rfl⟩
def goodD (y m d : Int) : Bool := decide (2000 ≤ y) && decide (y ≤ 2199) && decide (1 ≤ m) && decide (m ≤ 12) && decide (1 ≤ d) && decide (d ≤ GL.lens.getD (m - 1).toNat 0) && !(decide (m = 2) && decide (d = 29) && !leapB y)
def before (m : Nat) : Int := (GL.lens.take m).foldl (· + ·) 0
def numS (y m d : Int) : Int × Int :=
 if goodD y m d = true then
  (365 * (y - 2000) + (y - 2000 + 3) / 4 + d - 1 - (if 100 < y - 2000 then 1 else 0) + before (m - 1).toNat - (if 2 < m ∧ leapB y = false then 1 else 0), 0)
 else (0, 120)
theorem before_succ : ∀ i, i < 12 → before (i + 1) = before i + GL.lens.getD i 0 := by decide
theorem before_bd : ∀ i, i < 13 → 0 ≤ before i ∧ before i ≤ 366 := by decide
set_option maxRecDepth 100000 in
set_option maxHeartbeats 16000000 in
theorem num_calls (y m d r1 r2 : Int) (hans : numS y m d = (r1, r2)) (w : World) (hgl : GL.Glob w) : Calls Tryd.prog 12 #[.agg #[.int .i64 y, .int .i64 m, .int .i64 d]] w fun e w' => e = .returned (.tuple #[.int .i64 r1, .int .i64 r2]) ∧ Below w.heap.size w w' := by
 have bad : goodD y m d = false → r1 = 0 ∧ r2 = 120 := fun h => by
  unfold numS at hans
  rw [if_neg (by rw [h]; decide)] at hans
  exact ⟨(Prod.mk.inj hans).1.symm, (Prod.mk.inj hans).2.symm⟩
 have hbl := blk_new w (.cells #[.int .i64 y, .int .i64 m, .int .i64 d] 23)
 have hbw := below_alloc (Below.refl w.heap.size w) (.cells #[.int .i64 y, .int .i64 m, .int .i64 d] 23)
 obtain ⟨wc, hwc⟩ : ∃ wc, w.alloc (.cells #[.int .i64 y, .int .i64 m, .int .i64 d] 23) = wc := ⟨_, rfl⟩
 obtain ⟨g, hg⟩ : ∃ g, w.heap.size = g := ⟨_, rfl⟩
 go_enter Tryd.func12, Tryd.ntmps12
 go_wp2_with fail
 rw [hwc] at hbl hbw
 rw [hg] at hbl
 have c0 := blk_cell hbl 0
 have c1 := blk_cell hbl 1
 have c2 := blk_cell hbl 2
 simp only [List.getElem?_toArray, List.getElem?_cons_zero, List.getElem?_cons_succ] at c0 c1 c2
 have HB := Aside0.mk hbw
 have HG := Aside0.mk (GL.gl hgl hbw)
 have HBL := Aside0.mk hbl
 have BAD := Aside0.mk bad
 have HANS := Aside0.mk hans
 have HGE := Aside0.mk hg
 clear hbl hbw hwc hgl bad hans hg
 by_cases y0 : 2000 ≤ y
 ·have k1 : decide (y < 2000) = false := decide_eq_false (by omega)
  by_cases y1 : y ≤ 2199
  ·have k2 : decide (y > 2199) = false := decide_eq_false (by omega)
   by_cases m0 : 1 ≤ m
   ·have k3 : decide (m < 1) = false := decide_eq_false (by omega)
    by_cases m1 : m ≤ 12
    ·have k4 : decide (m > 12) = false := decide_eq_false (by omega)
     by_cases d0 : 1 ≤ d
     ·have k5 : decide (d < 1) = false := decide_eq_false (by omega)
      obtain ⟨j, hj⟩ : ∃ j : Nat, m - 1 = (j : Int) := ⟨(m - 1).toNat, by omega⟩
      have hj12 : j < 12 := by omega
      have hcell := HG.out j hj12
      have hjt : (m - 1).toNat = j := by omega
      obtain ⟨Lm, hLm⟩ : ∃ Lm, GL.lens.getD j 0 = Lm := ⟨_, rfl⟩
      rw [hLm] at hcell
      have k6 : IntKind.i64.wrap (m - 1) = (j : Int) := by rw [wrap_eq (by omega) (by omega)]; exact hj
      have HJ := Aside0.mk hj
      have HJT := Aside0.mk hjt
      have HLM := Aside0.mk hLm
      clear hj hjt hLm
      by_cases d1 : d ≤ Lm
      ·have k7 : decide (d > Lm) = false := decide_eq_false (by omega)
       have hL31 : 0 ≤ Lm ∧ Lm ≤ 31 := by
        have h : ∀ j, j < 12 → 0 ≤ GL.lens.getD j 0 ∧ GL.lens.getD j 0 ≤ 31 := by decide
        rw [← HLM.out]
        exact h j hj12
       obtain ⟨_, hL31⟩ := hL31
       have hgood : ∀ b, goodD y m d = b → (decide (m = 2) && decide (d = 29) && !leapB y) = !b := fun b hb => by
        rw [← hb]
        unfold goodD
        rw [HJT.out, HLM.out, decide_eq_true y0, decide_eq_true y1, decide_eq_true m0, decide_eq_true m1, decide_eq_true d0, decide_eq_true d1]
        simp
       have HGD := Aside0.mk hgood
       clear hgood
       by_cases hg : goodD y m d = true
       ·have hx := HGD.out true hg
        have hnum : numS y m d = (365 * (y - 2000) + (y - 2000 + 3) / 4 + d - 1 - (if 100 < y - 2000 then 1 else 0) + before j - (if 2 < m ∧ leapB y = false then 1 else 0), 0) := by unfold numS; rw [if_pos hg, HJT.out]
        rw [HANS.out] at hnum
        obtain ⟨hr1, rfl⟩ := Prod.mk.inj hnum
        have HR1 := Aside0.mk hr1
        have HX := Aside0.mk hx
        clear hr1 hg hx hnum
        go_cut [55] from 7 (fun v55 wx => v55 = .bool false ∧ ∃ k, wc.drewN k = wx)
        case first =>
         by_cases m2 : m = 2
         ·have k8 : (m == 2) = true := beq_iff_eq.2 m2
          by_cases d29 : d = 29
          ·have k9 : (d == 29) = true := beq_iff_eq.2 d29
           have hlp : leapB y = true := by have h := HX.out; simp [m2, d29] at h; exact h
           have hlc := leap_calls y (by omega) (by omega)
           rw [hlp] at hlc
           have HLC := Aside0.mk hlc
           clear hlp hlc m2 d29
           go_quiet ((go_at_call 35; exact Calls.quiet_of_same ((HLC.out _).mono (fun e w' h => ⟨h.1, h.2⟩))))
           go_wp2_with fail
           go_meet
           case rel => exact ⟨rfl, _, rfl⟩
          ·have k9 : (d == 29) = false := beq_eq_false_iff_ne.2 d29
           clear m2 d29
           go_quiet (fail)
           go_wp2_with fail
           go_meet
           case rel => exact ⟨rfl, _, rfl⟩
         ·have k8 : (m == 2) = false := beq_eq_false_iff_ne.2 m2
          clear m2
          go_quiet (fail)
          go_wp2_with fail
          go_meet
          case rel => exact ⟨rfl, _, rfl⟩
        case rest =>
         obtain ⟨rfl, kd, hwx⟩ := hcut
         have c0' : wc.cell? ⟨g, 0, none⟩ = some (.int .i64 y) := by rw [← hwx]; exact c0
         have c1' : wc.cell? ⟨g, 1, none⟩ = some (.int .i64 m) := by rw [← hwx]; exact c1
         have c2' : wc.cell? ⟨g, 2, none⟩ = some (.int .i64 d) := by rw [← hwx]; exact c2
         have hbd : Below w.heap.size w wc := by rw [← hwx]; exact pw_below_drewN HB.out kd
         have hgd : GL.Glob wc := by intro i hi; rw [← hwx]; exact HG.out i hi
         have HBD := Aside0.mk hbd
         have HGW := Aside0.mk hgd
         clear hwx hbd hgd c0 c1 c2 hcell HB HG HBL
         obtain ⟨n1, hn1⟩ : ∃ n1, 365 * (y - 2000) + (y - 2000 + 3) / 4 + d - 1 - (if 100 < y - 2000 then 1 else 0) = n1 := ⟨_, rfl⟩
         have hr1 := HR1.out
         rw [hn1] at hr1
         have hnb : 0 ≤ n1 ∧ n1 ≤ 100000 := by rw [← hn1]; split <;> omega
         obtain ⟨hn0, hn9⟩ := hnb
         have HRR := Aside0.mk hr1
         have HN1 := Aside0.mk hn1
         clear hr1 hn1 HR1 HX HGD BAD HANS k1 k2 k3 k4 k5 k7
         go_upto_if 70 with (fail)
         go_cut [2] from 3 (fun v2 wx => v2 = .int .i64 n1 ∧ wc = wx)
         case first =>
          by_cases h100 : 100 < y - 2000
          ·have e := HN1.out
           rw [if_pos h100] at e
           have HE := Aside0.mk e
           clear e
           go_wp2_with fail
           all_goals first | (exfalso; omega) | skip
           go_meet
           case rel => exact ⟨by rw [HE.out], rfl⟩
          ·have e := HN1.out
           rw [if_neg h100, Int.sub_zero] at e
           have HE := Aside0.mk e
           clear e
           go_wp2_with fail
           all_goals first | (exfalso; omega) | skip
           go_meet
           case rel => exact ⟨by rw [HE.out], rfl⟩
         case rest =>
          obtain ⟨rfl, hwx⟩ := hcut
          subst hwx
          have k6' : wrap64 (m - 1) = (j : Int) := by rw [w64 (by omega) (by omega)]; exact HJ.out
          have hsl : ∀ W, (Instr.sliceAt 50 (.pointer (some ⟨0, 0, none⟩)) none (some (.int .i64 (j : Int))) none).run Tryd.prog W = .ok (.slice (some ⟨0, 0, none⟩) j 12) W := fun W => by
           rw [run_sliceAt_array_h W 50 ⟨0, 0, none⟩ (by rfl) .i64 (j : Int) (by omega) (by show (j : Int) ≤ 12; omega)]
           go_simp
          go_wp2_with fail
          refine wp_loop_ghost_k (fun q a W' => ∃ (i : Nat) (u : Nat → Value), q = j - i ∧ i ≤ j ∧ W' = wc ∧ a = { tmps := List.toArray (u 0 :: (.pointer (some ⟨g, 0, none⟩) : Value) :: (.int .i64 (n1 + before i) : Value) :: u 3 :: u 4 :: u 5 :: u 6 :: u 7 :: u 8 :: u 9 :: u 10 :: u 11 :: u 12 :: u 13 :: u 14 :: u 15 :: u 16 :: u 17 :: u 18 :: u 19 :: u 20 :: u 21 :: u 22 :: u 23 :: u 24 :: u 25 :: u 26 :: u 27 :: u 28 :: u 29 :: u 30 :: u 31 :: u 32 :: u 33 :: u 34 :: u 35 :: u 36 :: u 37 :: u 38 :: u 39 :: u 40 :: u 41 :: u 42 :: u 43 :: u 44 :: u 45 :: u 46 :: u 47 :: u 48 :: u 49 :: u 50 :: u 51 :: u 52 :: u 53 :: u 54 :: u 55 :: u 56 :: u 57 :: u 58 :: u 59 :: u 60 :: u 61 :: u 62 :: u 63 :: u 64 :: u 65 :: u 66 :: u 67 :: u 68 :: u 69 :: u 70 :: u 71 :: u 72 :: u 73 :: u 74 :: u 75 :: (.slice (some ⟨0, 0, none⟩) j 12 : Value) :: (.int .i64 (j : Int) : Value) :: (.int .i64 (i : Int) : Value) :: u 79 :: u 80 :: u 81 :: u 82 :: u 83 :: u 84 :: u 85 :: u 86 :: u 87 :: u 88 :: u 89 :: u 90 :: u 91 :: u 92 :: u 93 :: u 94 :: u 95 :: u 96 :: u 97 :: []), defers := [] }) j ?start ?round
          case start =>
           have sta : ∀ T : Array Value, T = List.toArray (T.getD 0 undef :: (.pointer (some ⟨g, 0, none⟩) : Value) :: (.int .i64 n1 : Value) :: T.getD 3 undef :: T.getD 4 undef :: T.getD 5 undef :: T.getD 6 undef :: T.getD 7 undef :: T.getD 8 undef :: T.getD 9 undef :: T.getD 10 undef :: T.getD 11 undef :: T.getD 12 undef :: T.getD 13 undef :: T.getD 14 undef :: T.getD 15 undef :: T.getD 16 undef :: T.getD 17 undef :: T.getD 18 undef :: T.getD 19 undef :: T.getD 20 undef :: T.getD 21 undef :: T.getD 22 undef :: T.getD 23 undef :: T.getD 24 undef :: T.getD 25 undef :: T.getD 26 undef :: T.getD 27 undef :: T.getD 28 undef :: T.getD 29 undef :: T.getD 30 undef :: T.getD 31 undef :: T.getD 32 undef :: T.getD 33 undef :: T.getD 34 undef :: T.getD 35 undef :: T.getD 36 undef :: T.getD 37 undef :: T.getD 38 undef :: T.getD 39 undef :: T.getD 40 undef :: T.getD 41 undef :: T.getD 42 undef :: T.getD 43 undef :: T.getD 44 undef :: T.getD 45 undef :: T.getD 46 undef :: T.getD 47 undef :: T.getD 48 undef :: T.getD 49 undef :: T.getD 50 undef :: T.getD 51 undef :: T.getD 52 undef :: T.getD 53 undef :: T.getD 54 undef :: T.getD 55 undef :: T.getD 56 undef :: T.getD 57 undef :: T.getD 58 undef :: T.getD 59 undef :: T.getD 60 undef :: T.getD 61 undef :: T.getD 62 undef :: T.getD 63 undef :: T.getD 64 undef :: T.getD 65 undef :: T.getD 66 undef :: T.getD 67 undef :: T.getD 68 undef :: T.getD 69 undef :: T.getD 70 undef :: T.getD 71 undef :: T.getD 72 undef :: T.getD 73 undef :: T.getD 74 undef :: T.getD 75 undef :: (.slice (some ⟨0, 0, none⟩) j 12 : Value) :: (.int .i64 (j : Int) : Value) :: (.int .i64 0 : Value) :: T.getD 79 undef :: T.getD 80 undef :: T.getD 81 undef :: T.getD 82 undef :: T.getD 83 undef :: T.getD 84 undef :: T.getD 85 undef :: T.getD 86 undef :: T.getD 87 undef :: T.getD 88 undef :: T.getD 89 undef :: T.getD 90 undef :: T.getD 91 undef :: T.getD 92 undef :: T.getD 93 undef :: T.getD 94 undef :: T.getD 95 undef :: T.getD 96 undef :: T.getD 97 undef :: []) → ∃ (i : Nat) (u : Nat → Value), j = j - i ∧ i ≤ j ∧ wc = wc ∧ (Act.mk T []) = { tmps := List.toArray (u 0 :: (.pointer (some ⟨g, 0, none⟩) : Value) :: (.int .i64 (n1 + before i) : Value) :: u 3 :: u 4 :: u 5 :: u 6 :: u 7 :: u 8 :: u 9 :: u 10 :: u 11 :: u 12 :: u 13 :: u 14 :: u 15 :: u 16 :: u 17 :: u 18 :: u 19 :: u 20 :: u 21 :: u 22 :: u 23 :: u 24 :: u 25 :: u 26 :: u 27 :: u 28 :: u 29 :: u 30 :: u 31 :: u 32 :: u 33 :: u 34 :: u 35 :: u 36 :: u 37 :: u 38 :: u 39 :: u 40 :: u 41 :: u 42 :: u 43 :: u 44 :: u 45 :: u 46 :: u 47 :: u 48 :: u 49 :: u 50 :: u 51 :: u 52 :: u 53 :: u 54 :: u 55 :: u 56 :: u 57 :: u 58 :: u 59 :: u 60 :: u 61 :: u 62 :: u 63 :: u 64 :: u 65 :: u 66 :: u 67 :: u 68 :: u 69 :: u 70 :: u 71 :: u 72 :: u 73 :: u 74 :: u 75 :: (.slice (some ⟨0, 0, none⟩) j 12 : Value) :: (.int .i64 (j : Int) : Value) :: (.int .i64 (i : Int) : Value) :: u 79 :: u 80 :: u 81 :: u 82 :: u 83 :: u 84 :: u 85 :: u 86 :: u 87 :: u 88 :: u 89 :: u 90 :: u 91 :: u 92 :: u 93 :: u 94 :: u 95 :: u 96 :: u 97 :: []), defers := [] } := fun T hT =>
            ⟨0, fun i => T.getD i undef, rfl, Nat.zero_le _, rfl, by rw [show n1 + before 0 = n1 from Int.add_zero n1]; exact congrArg (fun T => (Act.mk T _)) hT⟩
           exact sta _ rfl
          case round =>
           rintro q a W' ⟨i, u, rfl, hij, hWW, rfl⟩ J K hJ hK
           obtain rfl : wc = W' := hWW.symm
           clear hWW
           have fin : ∀ (i' : Nat) (T : Array Value), j - i' < j - i → i' ≤ j → T = List.toArray (T.getD 0 undef :: (.pointer (some ⟨g, 0, none⟩) : Value) :: (.int .i64 (n1 + before i') : Value) :: T.getD 3 undef :: T.getD 4 undef :: T.getD 5 undef :: T.getD 6 undef :: T.getD 7 undef :: T.getD 8 undef :: T.getD 9 undef :: T.getD 10 undef :: T.getD 11 undef :: T.getD 12 undef :: T.getD 13 undef :: T.getD 14 undef :: T.getD 15 undef :: T.getD 16 undef :: T.getD 17 undef :: T.getD 18 undef :: T.getD 19 undef :: T.getD 20 undef :: T.getD 21 undef :: T.getD 22 undef :: T.getD 23 undef :: T.getD 24 undef :: T.getD 25 undef :: T.getD 26 undef :: T.getD 27 undef :: T.getD 28 undef :: T.getD 29 undef :: T.getD 30 undef :: T.getD 31 undef :: T.getD 32 undef :: T.getD 33 undef :: T.getD 34 undef :: T.getD 35 undef :: T.getD 36 undef :: T.getD 37 undef :: T.getD 38 undef :: T.getD 39 undef :: T.getD 40 undef :: T.getD 41 undef :: T.getD 42 undef :: T.getD 43 undef :: T.getD 44 undef :: T.getD 45 undef :: T.getD 46 undef :: T.getD 47 undef :: T.getD 48 undef :: T.getD 49 undef :: T.getD 50 undef :: T.getD 51 undef :: T.getD 52 undef :: T.getD 53 undef :: T.getD 54 undef :: T.getD 55 undef :: T.getD 56 undef :: T.getD 57 undef :: T.getD 58 undef :: T.getD 59 undef :: T.getD 60 undef :: T.getD 61 undef :: T.getD 62 undef :: T.getD 63 undef :: T.getD 64 undef :: T.getD 65 undef :: T.getD 66 undef :: T.getD 67 undef :: T.getD 68 undef :: T.getD 69 undef :: T.getD 70 undef :: T.getD 71 undef :: T.getD 72 undef :: T.getD 73 undef :: T.getD 74 undef :: T.getD 75 undef :: (.slice (some ⟨0, 0, none⟩) j 12 : Value) :: (.int .i64 (j : Int) : Value) :: (.int .i64 (i' : Int) : Value) :: T.getD 79 undef :: T.getD 80 undef :: T.getD 81 undef :: T.getD 82 undef :: T.getD 83 undef :: T.getD 84 undef :: T.getD 85 undef :: T.getD 86 undef :: T.getD 87 undef :: T.getD 88 undef :: T.getD 89 undef :: T.getD 90 undef :: T.getD 91 undef :: T.getD 92 undef :: T.getD 93 undef :: T.getD 94 undef :: T.getD 95 undef :: T.getD 96 undef :: T.getD 97 undef :: []) → Handed J (j - i) { tmps := T, defers := [] } wc := fun i' T h1 h2 hT =>
            ⟨j - i', h1, hJ _ _ _ ⟨i', fun i => T.getD i undef, rfl, h2, rfl, congrArg (fun T => (Act.mk T _)) hT⟩⟩
           by_cases hi : i < j
           ·have k1 : decide ((i : Int) < (j : Int)) = true := decide_eq_true (by omega)
            have hcell := HGW.out i (by omega)
            have hbs := before_succ i (by omega)
            have hbb := before_bd i (by omega)
            have hbb' := before_bd (i + 1) (by omega)
            obtain ⟨Li, hLi⟩ : ∃ Li, GL.lens.getD i 0 = Li := ⟨_, rfl⟩
            rw [hLi] at hcell hbs
            obtain ⟨bi, hbi⟩ : ∃ bi, before i = bi := ⟨_, rfl⟩
            rw [hbi] at hbs hbb
            have HBS := Aside0.mk hbs
            rw [hbs] at hbb'
            rw [hbi]
            have HBI := Aside0.mk hbi
            clear hbs hLi hbi
            go_wp2_with fail
            have hs : n1 + bi + Li = n1 + before (i + 1) := by rw [HBS.out]; omega
            rw [hs]
            exact fin (i + 1) _ (by omega) (by omega) rfl
           ·have k1 : decide ((i : Int) < (j : Int)) = false := decide_eq_false (by omega)
            obtain rfl : i = j := by omega
            have hbb := before_bd i (by omega)
            obtain ⟨n2, hn2⟩ : ∃ n2, n1 + before i = n2 := ⟨_, rfl⟩
            have hr1 := HRR.out
            rw [hn2] at hr1 ⊢
            have hnb : 0 ≤ n2 ∧ n2 ≤ 110000 := by omega
            obtain ⟨hnb0, hnb1⟩ := hnb
            have HR := Aside0.mk hr1
            clear fin hJ hij hi hn2 hbb hsl k6' HRR HN1 hr1
            go_upto_region 12 with (fail)
            by_cases m2 : 2 < m
            ·have k8 : decide (m > 2) = true := decide_eq_true m2
             have hlc := leap_calls y (by omega) (by omega)
             obtain ⟨lp, hlp⟩ : ∃ lp, leapB y = lp := ⟨_, rfl⟩
             have hr1 := HR.out
             rw [hlp] at hlc hr1
             have HLC := Aside0.mk hlc
             cases lp with
             | true =>
              rw [if_neg (by rintro ⟨_, h⟩; exact Bool.noConfusion h), Int.sub_zero] at hr1
              subst hr1
              clear hlp hlc HR m2
              go_wp2_with ((go_at_call 35; refine (HLC.out _).mono ?_; rintro e w' ⟨rfl, rfl⟩))
              exact bodyPost_ret (v := .tuple #[.int .i64 r1, .int .i64 0]) (by simp [results, Tryd.results12, go_sem]) rfl ⟨rfl, HBD.out⟩
             | false =>
              rw [if_pos ⟨m2, rfl⟩] at hr1
              subst hr1
              clear hlp hlc HR m2
              go_wp2_with ((go_at_call 35; refine (HLC.out _).mono ?_; rintro e w' ⟨rfl, rfl⟩))
              exact bodyPost_ret (v := .tuple #[.int .i64 (n2 - 1), .int .i64 0]) (by simp [results, Tryd.results12, go_sem]) rfl ⟨rfl, HBD.out⟩
            ·have k8 : decide (m > 2) = false := decide_eq_false (by omega)
             have hr1 := HR.out
             rw [if_neg (by rintro ⟨h, _⟩; exact m2 h), Int.sub_zero] at hr1
             subst hr1
             clear HR m2
             go_wp2_with fail
             exact bodyPost_ret (v := .tuple #[.int .i64 r1, .int .i64 0]) (by simp [results, Tryd.results12, go_sem]) rfl ⟨rfl, HBD.out⟩
       ·have hg' := Bool.eq_false_iff.2 hg
        have hx := HGD.out false hg'
        simp only [Bool.not_false, Bool.and_eq_true, decide_eq_true_eq, Bool.not_eq_true'] at hx
        obtain ⟨rfl, rfl⟩ := BAD.out hg'
        obtain ⟨⟨m2, d29⟩, hlp⟩ := hx
        have k8 : (m == 2) = true := beq_iff_eq.2 m2
        have k9 : (d == 29) = true := beq_iff_eq.2 d29
        have hlc := leap_calls y (by omega) (by omega)
        rw [hlp] at hlc
        have HLC := Aside0.mk hlc
        clear hlp hlc m2 d29 hg hg' y0 y1 m0 m1 d0 d1 hL31
        go_quiet ((go_at_call 35; exact Calls.quiet_of_same ((HLC.out _).mono (fun e w' h => ⟨h.1, h.2⟩))))
        go_wp2_with fail
        exact bodyPost_ret (v := .tuple #[.int .i64 0, .int .i64 120]) (by simp [results, Tryd.results12, go_sem]) rfl ⟨rfl, pw_below_drewN HB.out _⟩
      ·obtain ⟨rfl, rfl⟩ := BAD.out (by unfold goodD; rw [HJT.out, HLM.out, decide_eq_false d1]; simp)
       have k7 : decide (d > Lm) = true := decide_eq_true (by omega)
       clear y0 y1 m0 m1 d0 d1
       skip
       go_quiet (fail)
       go_wp2_with fail
       exact bodyPost_ret (v := .tuple #[.int .i64 0, .int .i64 120]) (by simp [results, Tryd.results12, go_sem]) rfl ⟨rfl, pw_below_drewN HB.out _⟩
     ·obtain ⟨rfl, rfl⟩ := BAD.out (by unfold goodD; rw [decide_eq_false d0]; simp)
      have k5 : decide (d < 1) = true := decide_eq_true (by omega)
      clear y0 y1 m0 m1 d0
      skip
      go_quiet (fail)
      go_wp2_with fail
      exact bodyPost_ret (v := .tuple #[.int .i64 0, .int .i64 120]) (by simp [results, Tryd.results12, go_sem]) rfl ⟨rfl, pw_below_drewN HB.out _⟩
    ·obtain ⟨rfl, rfl⟩ := BAD.out (by unfold goodD; rw [decide_eq_false m1]; simp)
     have k4 : decide (m > 12) = true := decide_eq_true (by omega)
     clear y0 y1 m0 m1
     skip
     go_quiet (fail)
     go_wp2_with fail
     exact bodyPost_ret (v := .tuple #[.int .i64 0, .int .i64 120]) (by simp [results, Tryd.results12, go_sem]) rfl ⟨rfl, pw_below_drewN HB.out _⟩
   ·obtain ⟨rfl, rfl⟩ := BAD.out (by unfold goodD; rw [decide_eq_false m0]; simp)
    have k3 : decide (m < 1) = true := decide_eq_true (by omega)
    clear y0 y1 m0
    skip
    go_quiet (fail)
    go_wp2_with fail
    exact bodyPost_ret (v := .tuple #[.int .i64 0, .int .i64 120]) (by simp [results, Tryd.results12, go_sem]) rfl ⟨rfl, pw_below_drewN HB.out _⟩
  ·obtain ⟨rfl, rfl⟩ := BAD.out (by unfold goodD; rw [decide_eq_false y1]; simp)
   have k2 : decide (y > 2199) = true := decide_eq_true (by omega)
   clear y0 y1
   skip
   go_quiet (fail)
   go_wp2_with fail
   exact bodyPost_ret (v := .tuple #[.int .i64 0, .int .i64 120]) (by simp [results, Tryd.results12, go_sem]) rfl ⟨rfl, pw_below_drewN HB.out _⟩
 ·obtain ⟨rfl, rfl⟩ := BAD.out (by unfold goodD; rw [decide_eq_false y0]; simp)
  have k1 : decide (y < 2000) = true := decide_eq_true (by omega)
  clear y0
  skip
  go_quiet (fail)
  go_wp2_with fail
  exact bodyPost_ret (v := .tuple #[.int .i64 0, .int .i64 120]) (by simp [results, Tryd.results12, go_sem]) rfl ⟨rfl, pw_below_drewN HB.out _⟩
end CN
def days_Number.f (a0_0 a0_1 a0_2 : Int) : Option (Int × Int) := some (CN.numS a0_0 a0_1 a0_2)
theorem days_Number.calls (a0_0 a0_1 a0_2 : Int) (r1 : Int) (r2 : Int) (w : World) (hgl : GL.Glob w) (h : days_Number.f a0_0 a0_1 a0_2 = some (r1, r2)) :
  Calls Tryd.prog 12 #[.agg #[.int .i64 a0_0, .int .i64 a0_1, .int .i64 a0_2]] w fun e w' => e = .returned (.tuple #[.int .i64 r1, .int .i64 r2]) ∧ Below w.heap.size w w' :=
 CN.num_calls a0_0 a0_1 a0_2 r1 r2 (Option.some.inj h) w hgl

end Go.Proofs.YtpodgkmgameocaaDoor.X
