/- Proved here: for functions of the program and of the reference, what each call returns (theorems '.calls'), under the conditions that each theorem names. Printed by this project's own driver over the kit's printer; parts marked EXT are written by hand. Lean checks it. -/
import Derived.Test.YtpodgkmgameocaaDoorX0
import Derived.Test.YtpodgkmgameocaaDoorX5
import Derived.Test.YtpodgkmgameocaaDoorK
import Derived.Test.YtpodgkmgameocaaDoorXGlob
import Derived.Deep.Cut
import Derived.BigQuiet
namespace Go.Proofs.YtpodgkmgameocaaDoor.X
open Go.RowKit Go.Proofs.YtpodgkmgameocaaDoorW.PrintWords Go.Proofs.YtpodgkmgameocaaDoorW.PrintLast Go.Proofs.YtpodgkmgameocaaDoorW.PrintMore
attribute [local go_sem] max2_int min2_int max_two min_two max_three min_three max_four min_four   -- for this text's walks alone
set_option linter.unusedVariables false
set_option linter.unusedSimpArgs false

-- EXT days_Of: function 10
-- def days_Of.f (a0 : Int) : Option (Int × Int × Int × Int) := 
-- theorem days_Of.calls (a0 : Int) (r1 : Int) (r2 : Int) (r3 : Int) (r4 : Int) (w : World) (h : days_Of.f a0 = some (r1, r2, r3, r4)) :
--     Calls Tryd.prog 10 #[.int .i64 a0] w fun e w' => e = .returned (.tuple #[.agg #[.int .i64 r1, .int .i64 r2, .int .i64 r3], .int .i64 r4]) ∧ Below w.heap.size w w'
-- INFO: 3, 45
-- IMPORTS: Derived.Test.YtpodgkmgameocaaDoorK, Derived.Test.YtpodgkmgameocaaDoorXGlob, Derived.Deep.Cut, Derived.BigQuiet
namespace CO
open Go.Proofs.YtpodgkmgameocaaDoor.K
attribute [local go_sem] Oper.semAt_some
def left (i : Int) : Int := ((GL.lens.drop i.toNat).foldl (· + ·) 0)
set_option maxRecDepth 100000 in
set_option maxHeartbeats 16000000 in
theorem of_good (a0 : Int) (h0 : 0 ≤ a0) (h1 : a0 ≤ 73048) (Y Mo Da : Int) (hans : GL.ofS a0 = (Y, Mo, Da, 0)) (w : World) (hgl : GL.Glob w) : Calls Tryd.prog 10 #[.int .i64 a0] w fun e w' => e = .returned (.tuple #[.agg #[.int .i64 Y, .int .i64 Mo, .int .i64 Da], .int .i64 0]) ∧ Below w.heap.size w w' := by
 have hday : days_day.f a0 = some true := by unfold days_day.f; rw [if_pos h0, decide_eq_true h1]
 obtain ⟨n1, hn1⟩ : ∃ n1, (if 36584 ≤ a0 then a0 + 1 else a0) = n1 := ⟨_, rfl⟩
 obtain ⟨Y', R, hy⟩ : ∃ Y R, GL.yearS n1 = (Y, R) := ⟨_, _, rfl⟩
 have hgo : Y' = Y ∧ GL.mgo GL.lens 0 R = (Mo, Da) := by
  unfold GL.ofS at hans
  rw [if_pos ⟨h0, h1⟩, hn1, hy] at hans
  simp only [Prod.mk.injEq] at hans
  exact ⟨hans.1, Prod.ext hans.2.1 hans.2.2.1⟩
 obtain ⟨rfl, hgo⟩ := hgo
 have hn0 : 0 ≤ n1 := by rw [← hn1]; split <;> omega
 have hn2 : n1 ≤ 73049 := by rw [← hn1]; split <;> omega
 have HGL := Aside0.mk hgl
 have HGO := Aside0.mk hgo
 have HY := Aside0.mk hy
 have HN := Aside0.mk hn1
 clear hgl hgo hy hn1 hans
 go_enter Tryd.func10, Tryd.ntmps10
 go_wp2_with fail
 refine (days_day.calls a0 true _ hday).mono ?_
 rintro e w1 ⟨rfl, ⟨k1, hk1⟩⟩
 subst hk1
 clear hday
 go_simp
 go_upto_if 11 with (fail)
 go_cut [0] from 3 (fun v0 wc => v0 = .int .i64 n1 ∧ (w.alloc (.cells #[.int .i64 0, .int .i64 0, .int .i64 0] 23)).drewN k1 = wc)
 case first =>
  by_cases hg : 36584 ≤ a0
  ·have d1 : decide (a0 ≥ 36584) = true := decide_eq_true hg
   have d2 : decide (36584 ≤ a0) = true := decide_eq_true hg
   have e1 : a0 + 1 = n1 := by have := HN.out; rw [if_pos hg] at this; exact this
   have HE := Aside0.mk e1
   clear e1 HN
   go_wp2_with fail
   all_goals first | (exfalso; omega) | skip
   go_meet
   case rel => exact ⟨by rw [HE.out], rfl⟩
  ·have d1 : decide (a0 ≥ 36584) = false := decide_eq_false hg
   have d2 : decide (36584 ≤ a0) = false := decide_eq_false hg
   have e1 : a0 = n1 := by have := HN.out; rw [if_neg hg] at this; exact this
   have HE := Aside0.mk e1
   clear e1 HN
   go_wp2_with fail
   all_goals first | (exfalso; omega) | skip
   go_meet
   case rel => exact ⟨by rw [HE.out], rfl⟩
 case rest =>
  obtain ⟨rfl, hwc⟩ := hcut
  have hbl : wc.heap[w.heap.size]? = some (.cells #[.int .i64 0, .int .i64 0, .int .i64 0] 23 (0, 0)) := by rw [← hwc]; exact blk_new w _
  have hbw : Below w.heap.size w wc := by rw [← hwc]; exact pw_below_drewN (below_alloc (Below.refl _ _) _) k1
  have hgw : GL.Glob wc := GL.gl HGL.out hbw
  obtain ⟨g, hg⟩ : ∃ g, w.heap.size = g := ⟨_, rfl⟩
  have hglt : 0 < g := by rw [← hg]; exact HGL.out.lt
  rw [hg] at hbl ⊢
  obtain ⟨y0, hy0⟩ : ∃ y0, 2000 + n1 / 1461 * 4 = y0 := ⟨_, rfl⟩
  obtain ⟨q, hq⟩ : ∃ q, n1 % 1461 = q := ⟨_, rfl⟩
  have hq0 : 0 ≤ q := by omega
  have hq1 : q ≤ 1460 := by omega
  have hyb : y0 ≤ 3000 := by omega
  have hyb0 : 2000 ≤ y0 := by omega
  have b0 := blk_cell hbl 0
  have z0 := blk_frozen hbl 0
  have e1 := blk_set hbl 0 (.int .i64 y0)
  simp only [List.getElem?_toArray, List.getElem?_cons_zero, List.setIfInBounds_toArray, List.set_cons_zero] at b0 e1
  have HBW := Aside0.mk hbw
  have HGW := Aside0.mk hgw
  have HE1 := Aside0.mk e1
  have HWC := Aside0.mk hwc
  clear hwc hbl hbw hgw e1 HN
  go_upto_if 22 with (fail)
  have HYQ := Aside0.mk hy0
  have HQQ := Aside0.mk hq
  clear hy0 hq b0 z0
  have c1 := blk_cell HE1.out 0
  have f1 := blk_frozen HE1.out 0
  simp only [List.getElem?_toArray, List.getElem?_cons_zero] at c1
  obtain ⟨W1, hW1⟩ : ∃ W1, wc.setCell ⟨g, 0, none⟩ (.int .i64 y0) = W1 := ⟨_, rfl⟩
  have hE := HE1.out
  have hBW1 := below_set (j := 0) (v := .int .i64 y0) HBW.out (show w.heap.size ≤ g by omega)
  rw [hW1] at hE hBW1 c1 f1 ⊢
  have HE := Aside0.mk hE
  have HB1 := Aside0.mk hBW1
  clear hW1 hE hBW1 HE1 HBW HGW HWC
  rw [HQQ.out]
  go_cut [0] from 3 (fun v0 wx => v0 = .int .i64 R ∧ ∃ wd, wd = wx ∧ wd.heap[g]? = some (.cells #[.int .i64 Y', .int .i64 0, .int .i64 0] 23 (0, 0)) ∧ Below w.heap.size w wd ∧ 0 ≤ R ∧ R ≤ 365)
  case first =>
   have hyy : (if 366 ≤ q then (y0 + (1 + (q - 366) / 365), if 59 ≤ (q - 366) % 365 then (q - 366) % 365 + 1 else (q - 366) % 365) else (y0, q)) = (Y', R) := by rw [← HY.out, GL.yearS, HYQ.out, HQQ.out]
   by_cases hge : 366 ≤ q
   ·rw [if_pos hge] at hyy
    obtain ⟨y1, hy1⟩ : ∃ y1, y0 + (1 + (q - 366) / 365) = y1 := ⟨_, rfl⟩
    obtain ⟨t, ht⟩ : ∃ t, (q - 366) % 365 = t := ⟨_, rfl⟩
    rw [hy1, ht] at hyy
    have ht0 : 0 ≤ t := by omega
    have ht1 : t ≤ 364 := by omega
    have e2 := blk_set HE.out 0 (.int .i64 y1)
    simp only [List.setIfInBounds_toArray, List.set_cons_zero] at e2
    have HE2 := Aside0.mk e2
    have HYY := Aside0.mk hyy
    clear e2 hyy
    by_cases h59 : 59 ≤ t
    ·go_wp2_with fail
     all_goals first | (exfalso; omega) | skip
     go_meet
     have h := HYY.out
     rw [if_pos h59] at h
     obtain ⟨h1, h2⟩ := Prod.mk.inj h
     case rel => exact ⟨by rw [h2], _, rfl, by rw [← h1]; exact HE2.out, below_set HB1.out (by omega), by omega, by omega⟩
    ·go_wp2_with fail
     all_goals first | (exfalso; omega) | skip
     go_meet
     have h := HYY.out
     rw [if_neg (by omega)] at h
     obtain ⟨h1, h2⟩ := Prod.mk.inj h
     case rel => exact ⟨by rw [h2], _, rfl, by rw [← h1]; exact HE2.out, below_set HB1.out (by omega), by omega, by omega⟩
   ·rw [if_neg hge] at hyy
    obtain ⟨h1, h2⟩ := Prod.mk.inj hyy
    have HH := Aside0.mk (And.intro h1 h2)
    clear hyy h1 h2
    go_wp2_with fail
    all_goals first | (exfalso; omega) | skip
    go_meet
    obtain ⟨h1, h2⟩ := HH.out
    case rel => exact ⟨by rw [h2], _, rfl, by rw [← h1]; exact HE.out, HB1.out, by omega, by omega⟩
  case rest =>
   obtain ⟨rfl, wd, hwd, hbl, hbw, hR0, hR1⟩ := hcut
   subst hwd
   obtain ⟨a0', a1', a2', a3', a4', a5', a6', a7', a8', a9', a10', a11'⟩ := (GL.gl HGL.out hbw).all
   have HBL := Aside0.mk hbl
   have HBW := Aside0.mk hbw
   clear hbl hbw HE HB1 HY HYQ HQQ hq0 hq1 hyb hyb0
   go_wp2_with fail
   clear a0' a1' a2' a3' a4' a5' a6' a7' a8' a9' a10' a11'
   refine wp_loop_ghost_k (fun m a W' => ∃ (ii r : Int) (u : Nat → Value), m = (12 - ii).toNat ∧ (ii = 0 ∨ ii = 1 ∨ ii = 2 ∨ ii = 3 ∨ ii = 4 ∨ ii = 5 ∨ ii = 6 ∨ ii = 7 ∨ ii = 8 ∨ ii = 9 ∨ ii = 10 ∨ ii = 11 ∨ ii = 12) ∧ 0 ≤ r ∧ r < left ii ∧ GL.mgo (GL.lens.drop ii.toNat) ii r = (Mo, Da) ∧ W' = wd ∧ a = { tmps := List.toArray ((.int .i64 r : Value) :: u 1 :: (.pointer (some ⟨g, 0, none⟩) : Value) :: u 3 :: u 4 :: u 5 :: u 6 :: u 7 :: u 8 :: u 9 :: u 10 :: u 11 :: u 12 :: u 13 :: u 14 :: u 15 :: u 16 :: u 17 :: u 18 :: u 19 :: u 20 :: u 21 :: u 22 :: u 23 :: u 24 :: u 25 :: u 26 :: u 27 :: u 28 :: u 29 :: u 30 :: u 31 :: u 32 :: u 33 :: u 34 :: u 35 :: u 36 :: u 37 :: (.agg #[.int .i64 31, .int .i64 29, .int .i64 31, .int .i64 30, .int .i64 31, .int .i64 30, .int .i64 31, .int .i64 31, .int .i64 30, .int .i64 31, .int .i64 30, .int .i64 31] : Value) :: (.int .i64 ii : Value) :: u 40 :: u 41 :: u 42 :: u 43 :: u 44 :: u 45 :: u 46 :: u 47 :: u 48 :: u 49 :: u 50 :: u 51 :: u 52 :: u 53 :: u 54 :: u 55 :: u 56 :: []), defers := [] }) 12 ?start ?round
   case start =>
    have sta : ∀ T : Array Value, T = List.toArray ((.int .i64 R : Value) :: T.getD 1 undef :: (.pointer (some ⟨g, 0, none⟩) : Value) :: T.getD 3 undef :: T.getD 4 undef :: T.getD 5 undef :: T.getD 6 undef :: T.getD 7 undef :: T.getD 8 undef :: T.getD 9 undef :: T.getD 10 undef :: T.getD 11 undef :: T.getD 12 undef :: T.getD 13 undef :: T.getD 14 undef :: T.getD 15 undef :: T.getD 16 undef :: T.getD 17 undef :: T.getD 18 undef :: T.getD 19 undef :: T.getD 20 undef :: T.getD 21 undef :: T.getD 22 undef :: T.getD 23 undef :: T.getD 24 undef :: T.getD 25 undef :: T.getD 26 undef :: T.getD 27 undef :: T.getD 28 undef :: T.getD 29 undef :: T.getD 30 undef :: T.getD 31 undef :: T.getD 32 undef :: T.getD 33 undef :: T.getD 34 undef :: T.getD 35 undef :: T.getD 36 undef :: T.getD 37 undef :: (.agg #[.int .i64 31, .int .i64 29, .int .i64 31, .int .i64 30, .int .i64 31, .int .i64 30, .int .i64 31, .int .i64 31, .int .i64 30, .int .i64 31, .int .i64 30, .int .i64 31] : Value) :: (.int .i64 0 : Value) :: T.getD 40 undef :: T.getD 41 undef :: T.getD 42 undef :: T.getD 43 undef :: T.getD 44 undef :: T.getD 45 undef :: T.getD 46 undef :: T.getD 47 undef :: T.getD 48 undef :: T.getD 49 undef :: T.getD 50 undef :: T.getD 51 undef :: T.getD 52 undef :: T.getD 53 undef :: T.getD 54 undef :: T.getD 55 undef :: T.getD 56 undef :: []) → ∃ (ii r : Int) (u : Nat → Value), 12 = (12 - ii).toNat ∧ (ii = 0 ∨ ii = 1 ∨ ii = 2 ∨ ii = 3 ∨ ii = 4 ∨ ii = 5 ∨ ii = 6 ∨ ii = 7 ∨ ii = 8 ∨ ii = 9 ∨ ii = 10 ∨ ii = 11 ∨ ii = 12) ∧ 0 ≤ r ∧ r < left ii ∧ GL.mgo (GL.lens.drop ii.toNat) ii r = (Mo, Da) ∧ wd = wd ∧ (Act.mk T []) = { tmps := List.toArray ((.int .i64 r : Value) :: u 1 :: (.pointer (some ⟨g, 0, none⟩) : Value) :: u 3 :: u 4 :: u 5 :: u 6 :: u 7 :: u 8 :: u 9 :: u 10 :: u 11 :: u 12 :: u 13 :: u 14 :: u 15 :: u 16 :: u 17 :: u 18 :: u 19 :: u 20 :: u 21 :: u 22 :: u 23 :: u 24 :: u 25 :: u 26 :: u 27 :: u 28 :: u 29 :: u 30 :: u 31 :: u 32 :: u 33 :: u 34 :: u 35 :: u 36 :: u 37 :: (.agg #[.int .i64 31, .int .i64 29, .int .i64 31, .int .i64 30, .int .i64 31, .int .i64 30, .int .i64 31, .int .i64 31, .int .i64 30, .int .i64 31, .int .i64 30, .int .i64 31] : Value) :: (.int .i64 ii : Value) :: u 40 :: u 41 :: u 42 :: u 43 :: u 44 :: u 45 :: u 46 :: u 47 :: u 48 :: u 49 :: u 50 :: u 51 :: u 52 :: u 53 :: u 54 :: u 55 :: u 56 :: []), defers := [] } := fun T hT =>
     ⟨0, R, fun i => T.getD i undef, rfl, .inl rfl, hR0, (show R < 366 by omega), HGO.out, rfl, congrArg (fun T => (Act.mk T _)) hT⟩
    exact sta _ rfl
   case round =>
    rintro m a W' ⟨ii, r, u, rfl, hii, hr0, hrl, hgo, hWW, rfl⟩ J K hJ hK
    obtain rfl : wd = W' := hWW.symm
    clear hWW HGO hR0 hR1
    have HGO := Aside0.mk hgo
    have fin : ∀ (jj r' : Int) (T : Array Value), (12 - jj).toNat < (12 - ii).toNat → (jj = 0 ∨ jj = 1 ∨ jj = 2 ∨ jj = 3 ∨ jj = 4 ∨ jj = 5 ∨ jj = 6 ∨ jj = 7 ∨ jj = 8 ∨ jj = 9 ∨ jj = 10 ∨ jj = 11 ∨ jj = 12) → T = List.toArray ((.int .i64 r' : Value) :: T.getD 1 undef :: (.pointer (some ⟨g, 0, none⟩) : Value) :: T.getD 3 undef :: T.getD 4 undef :: T.getD 5 undef :: T.getD 6 undef :: T.getD 7 undef :: T.getD 8 undef :: T.getD 9 undef :: T.getD 10 undef :: T.getD 11 undef :: T.getD 12 undef :: T.getD 13 undef :: T.getD 14 undef :: T.getD 15 undef :: T.getD 16 undef :: T.getD 17 undef :: T.getD 18 undef :: T.getD 19 undef :: T.getD 20 undef :: T.getD 21 undef :: T.getD 22 undef :: T.getD 23 undef :: T.getD 24 undef :: T.getD 25 undef :: T.getD 26 undef :: T.getD 27 undef :: T.getD 28 undef :: T.getD 29 undef :: T.getD 30 undef :: T.getD 31 undef :: T.getD 32 undef :: T.getD 33 undef :: T.getD 34 undef :: T.getD 35 undef :: T.getD 36 undef :: T.getD 37 undef :: (.agg #[.int .i64 31, .int .i64 29, .int .i64 31, .int .i64 30, .int .i64 31, .int .i64 30, .int .i64 31, .int .i64 31, .int .i64 30, .int .i64 31, .int .i64 30, .int .i64 31] : Value) :: (.int .i64 jj : Value) :: T.getD 40 undef :: T.getD 41 undef :: T.getD 42 undef :: T.getD 43 undef :: T.getD 44 undef :: T.getD 45 undef :: T.getD 46 undef :: T.getD 47 undef :: T.getD 48 undef :: T.getD 49 undef :: T.getD 50 undef :: T.getD 51 undef :: T.getD 52 undef :: T.getD 53 undef :: T.getD 54 undef :: T.getD 55 undef :: T.getD 56 undef :: []) → 0 ≤ r' → r' < left jj → GL.mgo (GL.lens.drop jj.toNat) jj r' = (Mo, Da) → Handed J (12 - ii).toNat { tmps := T, defers := [] } wd := fun jj r' T h1 h2 hT h3 h4 h5 =>
     ⟨(12 - jj).toNat, h1, hJ _ _ _ ⟨jj, r', fun i => T.getD i undef, rfl, h2, h3, h4, h5, rfl, congrArg (fun T => (Act.mk T _)) hT⟩⟩
    clear hgo
    have c0 := blk_cell HBL.out 0
    have c1 := blk_cell HBL.out 1
    have c2 := blk_cell HBL.out 2
    have f0 := blk_frozen HBL.out 0
    have f1 := blk_frozen HBL.out 1
    have f2 := blk_frozen HBL.out 2
    simp only [List.getElem?_toArray, List.getElem?_cons_zero, List.getElem?_cons_succ] at c0 c1 c2
    rcases hii with rfl | rfl | rfl | rfl | rfl | rfl | rfl | rfl | rfl | rfl | rfl | rfl | rfl
    ·replace hrl : r < 366 := hrl
     have hix : ∀ W : World, (Instr.index 50 (.agg #[.int .i64 31, .int .i64 29, .int .i64 31, .int .i64 30, .int .i64 31, .int .i64 30, .int .i64 31, .int .i64 31, .int .i64 30, .int .i64 31, .int .i64 30, .int .i64 31]) (.int .i64 0)).run Tryd.prog W = .ok (.int .i64 31) W := fun W => by kernel_rfl
     by_cases hr : r < 31
     ·skip
      have k1 : decide (r < 31) = true := decide_eq_true hr
      have hgo' : (1, r + 1) = (Mo, Da) := by have h := HGO.out; rw [show GL.lens.drop (Int.toNat 0) = 31 :: GL.lens.drop (Int.toNat 1) from rfl, GL.mgo, if_pos hr] at h; exact h
      obtain ⟨rfl, rfl⟩ := Prod.mk.inj hgo'
      clear hr hJ hgo'
      go_wp2_with fail
      have hw5 := blk_set (blk_set (blk_set (blk_set (blk_set HBL.out 1 (.int .i64 1)) 2 (.int .i64 (r + 1))) 0 (.int .i64 Y')) 1 (.int .i64 1)) 2 (.int .i64 (r + 1))
      simp only [List.setIfInBounds_toArray, List.set_cons_zero, List.set_cons_succ] at hw5
      have z0 := blk_cell hw5 0
      have z1 := blk_cell hw5 1
      have z2 := blk_cell hw5 2
      simp only [List.getElem?_toArray, List.getElem?_cons_zero, List.getElem?_cons_succ] at z0 z1 z2
      have hgw : w.heap.size ≤ g := by omega
      exact bodyPost_ret (v := .tuple #[.agg #[.int .i64 Y', .int .i64 1, .int .i64 (r + 1)], .int .i64 0]) (by simp [results, Tryd.results10, go_sem, z0, z1, z2]) rfl ⟨rfl, below_set (below_set (below_set (below_set (below_set HBW.out hgw) hgw) hgw) hgw) hgw⟩
     ·have k1 : decide (r < 31) = false := decide_eq_false hr
      have hgo' : GL.mgo (GL.lens.drop (Int.toNat 1)) 1 (r - 31) = (Mo, Da) := by have h := HGO.out; rw [show GL.lens.drop (Int.toNat 0) = 31 :: GL.lens.drop (Int.toNat 1) from rfl, GL.mgo, if_neg hr] at h; exact h
      have hb' : r - 31 < 335 := by omega
      have hr0 : 0 ≤ r - 31 := by omega
      have HGO' := Aside0.mk hgo'
      clear hr hgo'
      go_wp2_with fail
      exact fin 1 (r - 31) _ (by decide) (by omega) rfl hr0 (by have h := hb'; exact h) HGO'.out
    ·replace hrl : r < 335 := hrl
     have hix : ∀ W : World, (Instr.index 50 (.agg #[.int .i64 31, .int .i64 29, .int .i64 31, .int .i64 30, .int .i64 31, .int .i64 30, .int .i64 31, .int .i64 31, .int .i64 30, .int .i64 31, .int .i64 30, .int .i64 31]) (.int .i64 1)).run Tryd.prog W = .ok (.int .i64 29) W := fun W => by kernel_rfl
     by_cases hr : r < 29
     ·skip
      have k1 : decide (r < 29) = true := decide_eq_true hr
      have hgo' : (2, r + 1) = (Mo, Da) := by have h := HGO.out; rw [show GL.lens.drop (Int.toNat 1) = 29 :: GL.lens.drop (Int.toNat 2) from rfl, GL.mgo, if_pos hr] at h; exact h
      obtain ⟨rfl, rfl⟩ := Prod.mk.inj hgo'
      clear hr hJ hgo'
      go_wp2_with fail
      have hw5 := blk_set (blk_set (blk_set (blk_set (blk_set HBL.out 1 (.int .i64 2)) 2 (.int .i64 (r + 1))) 0 (.int .i64 Y')) 1 (.int .i64 2)) 2 (.int .i64 (r + 1))
      simp only [List.setIfInBounds_toArray, List.set_cons_zero, List.set_cons_succ] at hw5
      have z0 := blk_cell hw5 0
      have z1 := blk_cell hw5 1
      have z2 := blk_cell hw5 2
      simp only [List.getElem?_toArray, List.getElem?_cons_zero, List.getElem?_cons_succ] at z0 z1 z2
      have hgw : w.heap.size ≤ g := by omega
      exact bodyPost_ret (v := .tuple #[.agg #[.int .i64 Y', .int .i64 2, .int .i64 (r + 1)], .int .i64 0]) (by simp [results, Tryd.results10, go_sem, z0, z1, z2]) rfl ⟨rfl, below_set (below_set (below_set (below_set (below_set HBW.out hgw) hgw) hgw) hgw) hgw⟩
     ·have k1 : decide (r < 29) = false := decide_eq_false hr
      have hgo' : GL.mgo (GL.lens.drop (Int.toNat 2)) 2 (r - 29) = (Mo, Da) := by have h := HGO.out; rw [show GL.lens.drop (Int.toNat 1) = 29 :: GL.lens.drop (Int.toNat 2) from rfl, GL.mgo, if_neg hr] at h; exact h
      have hb' : r - 29 < 306 := by omega
      have hr0 : 0 ≤ r - 29 := by omega
      have HGO' := Aside0.mk hgo'
      clear hr hgo'
      go_wp2_with fail
      exact fin 2 (r - 29) _ (by decide) (by omega) rfl hr0 (by have h := hb'; exact h) HGO'.out
    ·replace hrl : r < 306 := hrl
     have hix : ∀ W : World, (Instr.index 50 (.agg #[.int .i64 31, .int .i64 29, .int .i64 31, .int .i64 30, .int .i64 31, .int .i64 30, .int .i64 31, .int .i64 31, .int .i64 30, .int .i64 31, .int .i64 30, .int .i64 31]) (.int .i64 2)).run Tryd.prog W = .ok (.int .i64 31) W := fun W => by kernel_rfl
     by_cases hr : r < 31
     ·skip
      have k1 : decide (r < 31) = true := decide_eq_true hr
      have hgo' : (3, r + 1) = (Mo, Da) := by have h := HGO.out; rw [show GL.lens.drop (Int.toNat 2) = 31 :: GL.lens.drop (Int.toNat 3) from rfl, GL.mgo, if_pos hr] at h; exact h
      obtain ⟨rfl, rfl⟩ := Prod.mk.inj hgo'
      clear hr hJ hgo'
      go_wp2_with fail
      have hw5 := blk_set (blk_set (blk_set (blk_set (blk_set HBL.out 1 (.int .i64 3)) 2 (.int .i64 (r + 1))) 0 (.int .i64 Y')) 1 (.int .i64 3)) 2 (.int .i64 (r + 1))
      simp only [List.setIfInBounds_toArray, List.set_cons_zero, List.set_cons_succ] at hw5
      have z0 := blk_cell hw5 0
      have z1 := blk_cell hw5 1
      have z2 := blk_cell hw5 2
      simp only [List.getElem?_toArray, List.getElem?_cons_zero, List.getElem?_cons_succ] at z0 z1 z2
      have hgw : w.heap.size ≤ g := by omega
      exact bodyPost_ret (v := .tuple #[.agg #[.int .i64 Y', .int .i64 3, .int .i64 (r + 1)], .int .i64 0]) (by simp [results, Tryd.results10, go_sem, z0, z1, z2]) rfl ⟨rfl, below_set (below_set (below_set (below_set (below_set HBW.out hgw) hgw) hgw) hgw) hgw⟩
     ·have k1 : decide (r < 31) = false := decide_eq_false hr
      have hgo' : GL.mgo (GL.lens.drop (Int.toNat 3)) 3 (r - 31) = (Mo, Da) := by have h := HGO.out; rw [show GL.lens.drop (Int.toNat 2) = 31 :: GL.lens.drop (Int.toNat 3) from rfl, GL.mgo, if_neg hr] at h; exact h
      have hb' : r - 31 < 275 := by omega
      have hr0 : 0 ≤ r - 31 := by omega
      have HGO' := Aside0.mk hgo'
      clear hr hgo'
      go_wp2_with fail
      exact fin 3 (r - 31) _ (by decide) (by omega) rfl hr0 (by have h := hb'; exact h) HGO'.out
    ·replace hrl : r < 275 := hrl
     have hix : ∀ W : World, (Instr.index 50 (.agg #[.int .i64 31, .int .i64 29, .int .i64 31, .int .i64 30, .int .i64 31, .int .i64 30, .int .i64 31, .int .i64 31, .int .i64 30, .int .i64 31, .int .i64 30, .int .i64 31]) (.int .i64 3)).run Tryd.prog W = .ok (.int .i64 30) W := fun W => by kernel_rfl
     by_cases hr : r < 30
     ·skip
      have k1 : decide (r < 30) = true := decide_eq_true hr
      have hgo' : (4, r + 1) = (Mo, Da) := by have h := HGO.out; rw [show GL.lens.drop (Int.toNat 3) = 30 :: GL.lens.drop (Int.toNat 4) from rfl, GL.mgo, if_pos hr] at h; exact h
      obtain ⟨rfl, rfl⟩ := Prod.mk.inj hgo'
      clear hr hJ hgo'
      go_wp2_with fail
      have hw5 := blk_set (blk_set (blk_set (blk_set (blk_set HBL.out 1 (.int .i64 4)) 2 (.int .i64 (r + 1))) 0 (.int .i64 Y')) 1 (.int .i64 4)) 2 (.int .i64 (r + 1))
      simp only [List.setIfInBounds_toArray, List.set_cons_zero, List.set_cons_succ] at hw5
      have z0 := blk_cell hw5 0
      have z1 := blk_cell hw5 1
      have z2 := blk_cell hw5 2
      simp only [List.getElem?_toArray, List.getElem?_cons_zero, List.getElem?_cons_succ] at z0 z1 z2
      have hgw : w.heap.size ≤ g := by omega
      exact bodyPost_ret (v := .tuple #[.agg #[.int .i64 Y', .int .i64 4, .int .i64 (r + 1)], .int .i64 0]) (by simp [results, Tryd.results10, go_sem, z0, z1, z2]) rfl ⟨rfl, below_set (below_set (below_set (below_set (below_set HBW.out hgw) hgw) hgw) hgw) hgw⟩
     ·have k1 : decide (r < 30) = false := decide_eq_false hr
      have hgo' : GL.mgo (GL.lens.drop (Int.toNat 4)) 4 (r - 30) = (Mo, Da) := by have h := HGO.out; rw [show GL.lens.drop (Int.toNat 3) = 30 :: GL.lens.drop (Int.toNat 4) from rfl, GL.mgo, if_neg hr] at h; exact h
      have hb' : r - 30 < 245 := by omega
      have hr0 : 0 ≤ r - 30 := by omega
      have HGO' := Aside0.mk hgo'
      clear hr hgo'
      go_wp2_with fail
      exact fin 4 (r - 30) _ (by decide) (by omega) rfl hr0 (by have h := hb'; exact h) HGO'.out
    ·replace hrl : r < 245 := hrl
     have hix : ∀ W : World, (Instr.index 50 (.agg #[.int .i64 31, .int .i64 29, .int .i64 31, .int .i64 30, .int .i64 31, .int .i64 30, .int .i64 31, .int .i64 31, .int .i64 30, .int .i64 31, .int .i64 30, .int .i64 31]) (.int .i64 4)).run Tryd.prog W = .ok (.int .i64 31) W := fun W => by kernel_rfl
     by_cases hr : r < 31
     ·skip
      have k1 : decide (r < 31) = true := decide_eq_true hr
      have hgo' : (5, r + 1) = (Mo, Da) := by have h := HGO.out; rw [show GL.lens.drop (Int.toNat 4) = 31 :: GL.lens.drop (Int.toNat 5) from rfl, GL.mgo, if_pos hr] at h; exact h
      obtain ⟨rfl, rfl⟩ := Prod.mk.inj hgo'
      clear hr hJ hgo'
      go_wp2_with fail
      have hw5 := blk_set (blk_set (blk_set (blk_set (blk_set HBL.out 1 (.int .i64 5)) 2 (.int .i64 (r + 1))) 0 (.int .i64 Y')) 1 (.int .i64 5)) 2 (.int .i64 (r + 1))
      simp only [List.setIfInBounds_toArray, List.set_cons_zero, List.set_cons_succ] at hw5
      have z0 := blk_cell hw5 0
      have z1 := blk_cell hw5 1
      have z2 := blk_cell hw5 2
      simp only [List.getElem?_toArray, List.getElem?_cons_zero, List.getElem?_cons_succ] at z0 z1 z2
      have hgw : w.heap.size ≤ g := by omega
      exact bodyPost_ret (v := .tuple #[.agg #[.int .i64 Y', .int .i64 5, .int .i64 (r + 1)], .int .i64 0]) (by simp [results, Tryd.results10, go_sem, z0, z1, z2]) rfl ⟨rfl, below_set (below_set (below_set (below_set (below_set HBW.out hgw) hgw) hgw) hgw) hgw⟩
     ·have k1 : decide (r < 31) = false := decide_eq_false hr
      have hgo' : GL.mgo (GL.lens.drop (Int.toNat 5)) 5 (r - 31) = (Mo, Da) := by have h := HGO.out; rw [show GL.lens.drop (Int.toNat 4) = 31 :: GL.lens.drop (Int.toNat 5) from rfl, GL.mgo, if_neg hr] at h; exact h
      have hb' : r - 31 < 214 := by omega
      have hr0 : 0 ≤ r - 31 := by omega
      have HGO' := Aside0.mk hgo'
      clear hr hgo'
      go_wp2_with fail
      exact fin 5 (r - 31) _ (by decide) (by omega) rfl hr0 (by have h := hb'; exact h) HGO'.out
    ·replace hrl : r < 214 := hrl
     have hix : ∀ W : World, (Instr.index 50 (.agg #[.int .i64 31, .int .i64 29, .int .i64 31, .int .i64 30, .int .i64 31, .int .i64 30, .int .i64 31, .int .i64 31, .int .i64 30, .int .i64 31, .int .i64 30, .int .i64 31]) (.int .i64 5)).run Tryd.prog W = .ok (.int .i64 30) W := fun W => by kernel_rfl
     by_cases hr : r < 30
     ·skip
      have k1 : decide (r < 30) = true := decide_eq_true hr
      have hgo' : (6, r + 1) = (Mo, Da) := by have h := HGO.out; rw [show GL.lens.drop (Int.toNat 5) = 30 :: GL.lens.drop (Int.toNat 6) from rfl, GL.mgo, if_pos hr] at h; exact h
      obtain ⟨rfl, rfl⟩ := Prod.mk.inj hgo'
      clear hr hJ hgo'
      go_wp2_with fail
      have hw5 := blk_set (blk_set (blk_set (blk_set (blk_set HBL.out 1 (.int .i64 6)) 2 (.int .i64 (r + 1))) 0 (.int .i64 Y')) 1 (.int .i64 6)) 2 (.int .i64 (r + 1))
      simp only [List.setIfInBounds_toArray, List.set_cons_zero, List.set_cons_succ] at hw5
      have z0 := blk_cell hw5 0
      have z1 := blk_cell hw5 1
      have z2 := blk_cell hw5 2
      simp only [List.getElem?_toArray, List.getElem?_cons_zero, List.getElem?_cons_succ] at z0 z1 z2
      have hgw : w.heap.size ≤ g := by omega
      exact bodyPost_ret (v := .tuple #[.agg #[.int .i64 Y', .int .i64 6, .int .i64 (r + 1)], .int .i64 0]) (by simp [results, Tryd.results10, go_sem, z0, z1, z2]) rfl ⟨rfl, below_set (below_set (below_set (below_set (below_set HBW.out hgw) hgw) hgw) hgw) hgw⟩
     ·have k1 : decide (r < 30) = false := decide_eq_false hr
      have hgo' : GL.mgo (GL.lens.drop (Int.toNat 6)) 6 (r - 30) = (Mo, Da) := by have h := HGO.out; rw [show GL.lens.drop (Int.toNat 5) = 30 :: GL.lens.drop (Int.toNat 6) from rfl, GL.mgo, if_neg hr] at h; exact h
      have hb' : r - 30 < 184 := by omega
      have hr0 : 0 ≤ r - 30 := by omega
      have HGO' := Aside0.mk hgo'
      clear hr hgo'
      go_wp2_with fail
      exact fin 6 (r - 30) _ (by decide) (by omega) rfl hr0 (by have h := hb'; exact h) HGO'.out
    ·replace hrl : r < 184 := hrl
     have hix : ∀ W : World, (Instr.index 50 (.agg #[.int .i64 31, .int .i64 29, .int .i64 31, .int .i64 30, .int .i64 31, .int .i64 30, .int .i64 31, .int .i64 31, .int .i64 30, .int .i64 31, .int .i64 30, .int .i64 31]) (.int .i64 6)).run Tryd.prog W = .ok (.int .i64 31) W := fun W => by kernel_rfl
     by_cases hr : r < 31
     ·skip
      have k1 : decide (r < 31) = true := decide_eq_true hr
      have hgo' : (7, r + 1) = (Mo, Da) := by have h := HGO.out; rw [show GL.lens.drop (Int.toNat 6) = 31 :: GL.lens.drop (Int.toNat 7) from rfl, GL.mgo, if_pos hr] at h; exact h
      obtain ⟨rfl, rfl⟩ := Prod.mk.inj hgo'
      clear hr hJ hgo'
      go_wp2_with fail
      have hw5 := blk_set (blk_set (blk_set (blk_set (blk_set HBL.out 1 (.int .i64 7)) 2 (.int .i64 (r + 1))) 0 (.int .i64 Y')) 1 (.int .i64 7)) 2 (.int .i64 (r + 1))
      simp only [List.setIfInBounds_toArray, List.set_cons_zero, List.set_cons_succ] at hw5
      have z0 := blk_cell hw5 0
      have z1 := blk_cell hw5 1
      have z2 := blk_cell hw5 2
      simp only [List.getElem?_toArray, List.getElem?_cons_zero, List.getElem?_cons_succ] at z0 z1 z2
      have hgw : w.heap.size ≤ g := by omega
      exact bodyPost_ret (v := .tuple #[.agg #[.int .i64 Y', .int .i64 7, .int .i64 (r + 1)], .int .i64 0]) (by simp [results, Tryd.results10, go_sem, z0, z1, z2]) rfl ⟨rfl, below_set (below_set (below_set (below_set (below_set HBW.out hgw) hgw) hgw) hgw) hgw⟩
     ·have k1 : decide (r < 31) = false := decide_eq_false hr
      have hgo' : GL.mgo (GL.lens.drop (Int.toNat 7)) 7 (r - 31) = (Mo, Da) := by have h := HGO.out; rw [show GL.lens.drop (Int.toNat 6) = 31 :: GL.lens.drop (Int.toNat 7) from rfl, GL.mgo, if_neg hr] at h; exact h
      have hb' : r - 31 < 153 := by omega
      have hr0 : 0 ≤ r - 31 := by omega
      have HGO' := Aside0.mk hgo'
      clear hr hgo'
      go_wp2_with fail
      exact fin 7 (r - 31) _ (by decide) (by omega) rfl hr0 (by have h := hb'; exact h) HGO'.out
    ·replace hrl : r < 153 := hrl
     have hix : ∀ W : World, (Instr.index 50 (.agg #[.int .i64 31, .int .i64 29, .int .i64 31, .int .i64 30, .int .i64 31, .int .i64 30, .int .i64 31, .int .i64 31, .int .i64 30, .int .i64 31, .int .i64 30, .int .i64 31]) (.int .i64 7)).run Tryd.prog W = .ok (.int .i64 31) W := fun W => by kernel_rfl
     by_cases hr : r < 31
     ·skip
      have k1 : decide (r < 31) = true := decide_eq_true hr
      have hgo' : (8, r + 1) = (Mo, Da) := by have h := HGO.out; rw [show GL.lens.drop (Int.toNat 7) = 31 :: GL.lens.drop (Int.toNat 8) from rfl, GL.mgo, if_pos hr] at h; exact h
      obtain ⟨rfl, rfl⟩ := Prod.mk.inj hgo'
      clear hr hJ hgo'
      go_wp2_with fail
      have hw5 := blk_set (blk_set (blk_set (blk_set (blk_set HBL.out 1 (.int .i64 8)) 2 (.int .i64 (r + 1))) 0 (.int .i64 Y')) 1 (.int .i64 8)) 2 (.int .i64 (r + 1))
      simp only [List.setIfInBounds_toArray, List.set_cons_zero, List.set_cons_succ] at hw5
      have z0 := blk_cell hw5 0
      have z1 := blk_cell hw5 1
      have z2 := blk_cell hw5 2
      simp only [List.getElem?_toArray, List.getElem?_cons_zero, List.getElem?_cons_succ] at z0 z1 z2
      have hgw : w.heap.size ≤ g := by omega
      exact bodyPost_ret (v := .tuple #[.agg #[.int .i64 Y', .int .i64 8, .int .i64 (r + 1)], .int .i64 0]) (by simp [results, Tryd.results10, go_sem, z0, z1, z2]) rfl ⟨rfl, below_set (below_set (below_set (below_set (below_set HBW.out hgw) hgw) hgw) hgw) hgw⟩
     ·have k1 : decide (r < 31) = false := decide_eq_false hr
      have hgo' : GL.mgo (GL.lens.drop (Int.toNat 8)) 8 (r - 31) = (Mo, Da) := by have h := HGO.out; rw [show GL.lens.drop (Int.toNat 7) = 31 :: GL.lens.drop (Int.toNat 8) from rfl, GL.mgo, if_neg hr] at h; exact h
      have hb' : r - 31 < 122 := by omega
      have hr0 : 0 ≤ r - 31 := by omega
      have HGO' := Aside0.mk hgo'
      clear hr hgo'
      go_wp2_with fail
      exact fin 8 (r - 31) _ (by decide) (by omega) rfl hr0 (by have h := hb'; exact h) HGO'.out
    ·replace hrl : r < 122 := hrl
     have hix : ∀ W : World, (Instr.index 50 (.agg #[.int .i64 31, .int .i64 29, .int .i64 31, .int .i64 30, .int .i64 31, .int .i64 30, .int .i64 31, .int .i64 31, .int .i64 30, .int .i64 31, .int .i64 30, .int .i64 31]) (.int .i64 8)).run Tryd.prog W = .ok (.int .i64 30) W := fun W => by kernel_rfl
     by_cases hr : r < 30
     ·skip
      have k1 : decide (r < 30) = true := decide_eq_true hr
      have hgo' : (9, r + 1) = (Mo, Da) := by have h := HGO.out; rw [show GL.lens.drop (Int.toNat 8) = 30 :: GL.lens.drop (Int.toNat 9) from rfl, GL.mgo, if_pos hr] at h; exact h
      obtain ⟨rfl, rfl⟩ := Prod.mk.inj hgo'
      clear hr hJ hgo'
      go_wp2_with fail
      have hw5 := blk_set (blk_set (blk_set (blk_set (blk_set HBL.out 1 (.int .i64 9)) 2 (.int .i64 (r + 1))) 0 (.int .i64 Y')) 1 (.int .i64 9)) 2 (.int .i64 (r + 1))
      simp only [List.setIfInBounds_toArray, List.set_cons_zero, List.set_cons_succ] at hw5
      have z0 := blk_cell hw5 0
      have z1 := blk_cell hw5 1
      have z2 := blk_cell hw5 2
      simp only [List.getElem?_toArray, List.getElem?_cons_zero, List.getElem?_cons_succ] at z0 z1 z2
      have hgw : w.heap.size ≤ g := by omega
      exact bodyPost_ret (v := .tuple #[.agg #[.int .i64 Y', .int .i64 9, .int .i64 (r + 1)], .int .i64 0]) (by simp [results, Tryd.results10, go_sem, z0, z1, z2]) rfl ⟨rfl, below_set (below_set (below_set (below_set (below_set HBW.out hgw) hgw) hgw) hgw) hgw⟩
     ·have k1 : decide (r < 30) = false := decide_eq_false hr
      have hgo' : GL.mgo (GL.lens.drop (Int.toNat 9)) 9 (r - 30) = (Mo, Da) := by have h := HGO.out; rw [show GL.lens.drop (Int.toNat 8) = 30 :: GL.lens.drop (Int.toNat 9) from rfl, GL.mgo, if_neg hr] at h; exact h
      have hb' : r - 30 < 92 := by omega
      have hr0 : 0 ≤ r - 30 := by omega
      have HGO' := Aside0.mk hgo'
      clear hr hgo'
      go_wp2_with fail
      exact fin 9 (r - 30) _ (by decide) (by omega) rfl hr0 (by have h := hb'; exact h) HGO'.out
    ·replace hrl : r < 92 := hrl
     have hix : ∀ W : World, (Instr.index 50 (.agg #[.int .i64 31, .int .i64 29, .int .i64 31, .int .i64 30, .int .i64 31, .int .i64 30, .int .i64 31, .int .i64 31, .int .i64 30, .int .i64 31, .int .i64 30, .int .i64 31]) (.int .i64 9)).run Tryd.prog W = .ok (.int .i64 31) W := fun W => by kernel_rfl
     by_cases hr : r < 31
     ·skip
      have k1 : decide (r < 31) = true := decide_eq_true hr
      have hgo' : (10, r + 1) = (Mo, Da) := by have h := HGO.out; rw [show GL.lens.drop (Int.toNat 9) = 31 :: GL.lens.drop (Int.toNat 10) from rfl, GL.mgo, if_pos hr] at h; exact h
      obtain ⟨rfl, rfl⟩ := Prod.mk.inj hgo'
      clear hr hJ hgo'
      go_wp2_with fail
      have hw5 := blk_set (blk_set (blk_set (blk_set (blk_set HBL.out 1 (.int .i64 10)) 2 (.int .i64 (r + 1))) 0 (.int .i64 Y')) 1 (.int .i64 10)) 2 (.int .i64 (r + 1))
      simp only [List.setIfInBounds_toArray, List.set_cons_zero, List.set_cons_succ] at hw5
      have z0 := blk_cell hw5 0
      have z1 := blk_cell hw5 1
      have z2 := blk_cell hw5 2
      simp only [List.getElem?_toArray, List.getElem?_cons_zero, List.getElem?_cons_succ] at z0 z1 z2
      have hgw : w.heap.size ≤ g := by omega
      exact bodyPost_ret (v := .tuple #[.agg #[.int .i64 Y', .int .i64 10, .int .i64 (r + 1)], .int .i64 0]) (by simp [results, Tryd.results10, go_sem, z0, z1, z2]) rfl ⟨rfl, below_set (below_set (below_set (below_set (below_set HBW.out hgw) hgw) hgw) hgw) hgw⟩
     ·have k1 : decide (r < 31) = false := decide_eq_false hr
      have hgo' : GL.mgo (GL.lens.drop (Int.toNat 10)) 10 (r - 31) = (Mo, Da) := by have h := HGO.out; rw [show GL.lens.drop (Int.toNat 9) = 31 :: GL.lens.drop (Int.toNat 10) from rfl, GL.mgo, if_neg hr] at h; exact h
      have hb' : r - 31 < 61 := by omega
      have hr0 : 0 ≤ r - 31 := by omega
      have HGO' := Aside0.mk hgo'
      clear hr hgo'
      go_wp2_with fail
      exact fin 10 (r - 31) _ (by decide) (by omega) rfl hr0 (by have h := hb'; exact h) HGO'.out
    ·replace hrl : r < 61 := hrl
     have hix : ∀ W : World, (Instr.index 50 (.agg #[.int .i64 31, .int .i64 29, .int .i64 31, .int .i64 30, .int .i64 31, .int .i64 30, .int .i64 31, .int .i64 31, .int .i64 30, .int .i64 31, .int .i64 30, .int .i64 31]) (.int .i64 10)).run Tryd.prog W = .ok (.int .i64 30) W := fun W => by kernel_rfl
     by_cases hr : r < 30
     ·skip
      have k1 : decide (r < 30) = true := decide_eq_true hr
      have hgo' : (11, r + 1) = (Mo, Da) := by have h := HGO.out; rw [show GL.lens.drop (Int.toNat 10) = 30 :: GL.lens.drop (Int.toNat 11) from rfl, GL.mgo, if_pos hr] at h; exact h
      obtain ⟨rfl, rfl⟩ := Prod.mk.inj hgo'
      clear hr hJ hgo'
      go_wp2_with fail
      have hw5 := blk_set (blk_set (blk_set (blk_set (blk_set HBL.out 1 (.int .i64 11)) 2 (.int .i64 (r + 1))) 0 (.int .i64 Y')) 1 (.int .i64 11)) 2 (.int .i64 (r + 1))
      simp only [List.setIfInBounds_toArray, List.set_cons_zero, List.set_cons_succ] at hw5
      have z0 := blk_cell hw5 0
      have z1 := blk_cell hw5 1
      have z2 := blk_cell hw5 2
      simp only [List.getElem?_toArray, List.getElem?_cons_zero, List.getElem?_cons_succ] at z0 z1 z2
      have hgw : w.heap.size ≤ g := by omega
      exact bodyPost_ret (v := .tuple #[.agg #[.int .i64 Y', .int .i64 11, .int .i64 (r + 1)], .int .i64 0]) (by simp [results, Tryd.results10, go_sem, z0, z1, z2]) rfl ⟨rfl, below_set (below_set (below_set (below_set (below_set HBW.out hgw) hgw) hgw) hgw) hgw⟩
     ·have k1 : decide (r < 30) = false := decide_eq_false hr
      have hgo' : GL.mgo (GL.lens.drop (Int.toNat 11)) 11 (r - 30) = (Mo, Da) := by have h := HGO.out; rw [show GL.lens.drop (Int.toNat 10) = 30 :: GL.lens.drop (Int.toNat 11) from rfl, GL.mgo, if_neg hr] at h; exact h
      have hb' : r - 30 < 31 := by omega
      have hr0 : 0 ≤ r - 30 := by omega
      have HGO' := Aside0.mk hgo'
      clear hr hgo'
      go_wp2_with fail
      exact fin 11 (r - 30) _ (by decide) (by omega) rfl hr0 (by have h := hb'; exact h) HGO'.out
    ·replace hrl : r < 31 := hrl
     have hix : ∀ W : World, (Instr.index 50 (.agg #[.int .i64 31, .int .i64 29, .int .i64 31, .int .i64 30, .int .i64 31, .int .i64 30, .int .i64 31, .int .i64 31, .int .i64 30, .int .i64 31, .int .i64 30, .int .i64 31]) (.int .i64 11)).run Tryd.prog W = .ok (.int .i64 31) W := fun W => by kernel_rfl
     have hr : r < 31 := by omega
     have k1 : decide (r < 31) = true := decide_eq_true hr
     have hgo' : (12, r + 1) = (Mo, Da) := by have h := HGO.out; rw [show GL.lens.drop (Int.toNat 11) = 31 :: GL.lens.drop (Int.toNat 12) from rfl, GL.mgo, if_pos hr] at h; exact h
     obtain ⟨rfl, rfl⟩ := Prod.mk.inj hgo'
     clear hr hJ hgo'
     go_wp2_with fail
     have hw5 := blk_set (blk_set (blk_set (blk_set (blk_set HBL.out 1 (.int .i64 12)) 2 (.int .i64 (r + 1))) 0 (.int .i64 Y')) 1 (.int .i64 12)) 2 (.int .i64 (r + 1))
     simp only [List.setIfInBounds_toArray, List.set_cons_zero, List.set_cons_succ] at hw5
     have z0 := blk_cell hw5 0
     have z1 := blk_cell hw5 1
     have z2 := blk_cell hw5 2
     simp only [List.getElem?_toArray, List.getElem?_cons_zero, List.getElem?_cons_succ] at z0 z1 z2
     have hgw : w.heap.size ≤ g := by omega
     exact bodyPost_ret (v := .tuple #[.agg #[.int .i64 Y', .int .i64 12, .int .i64 (r + 1)], .int .i64 0]) (by simp [results, Tryd.results10, go_sem, z0, z1, z2]) rfl ⟨rfl, below_set (below_set (below_set (below_set (below_set HBW.out hgw) hgw) hgw) hgw) hgw⟩
    ·exact absurd hrl (by show ¬ (r < 0); omega)
set_option maxRecDepth 100000 in
theorem of_bad (a0 : Int) (h : ¬ (0 ≤ a0 ∧ a0 ≤ 73048)) (w : World) : Calls Tryd.prog 10 #[.int .i64 a0] w fun e w' => e = .returned (.tuple #[.agg #[.int .i64 0, .int .i64 0, .int .i64 0], .int .i64 1]) ∧ Below w.heap.size w w' := by
 have hday : days_day.f a0 = some false := by
  unfold days_day.f
  by_cases h0 : a0 ≥ 0
  ·rw [if_pos h0, decide_eq_false (by omega)]
  ·rw [if_neg h0]
 go_enter Tryd.func10, Tryd.ntmps10
 go_wp2_with fail
 refine (days_day.calls a0 false _ hday).mono ?_
 rintro e w1 ⟨rfl, ⟨k1, rfl⟩⟩
 clear hday h
 have hbl : ((w.alloc (.cells #[.int .i64 0, .int .i64 0, .int .i64 0] 23)).drewN k1).heap[w.heap.size]? = some (.cells #[.int .i64 0, .int .i64 0, .int .i64 0] 23 (0, 0)) := blk_new w _
 have hbw : Below w.heap.size w ((w.alloc (.cells #[.int .i64 0, .int .i64 0, .int .i64 0] 23)).drewN k1) := pw_below_drewN (below_alloc (Below.refl _ _) _) k1
 obtain ⟨wd, hwd⟩ : ∃ wd, (w.alloc (.cells #[.int .i64 0, .int .i64 0, .int .i64 0] 23)).drewN k1 = wd := ⟨_, rfl⟩
 rw [hwd] at hbl hbw ⊢
 have c0 := blk_cell hbl 0
 have c1 := blk_cell hbl 1
 have c2 := blk_cell hbl 2
 have f0 := blk_frozen hbl 0
 have f1 := blk_frozen hbl 1
 have f2 := blk_frozen hbl 2
 simp only [List.getElem?_toArray, List.getElem?_cons_zero, List.getElem?_cons_succ] at c0 c1 c2
 have HBL := Aside0.mk hbl
 have HBW := Aside0.mk hbw
 clear hwd hbl hbw
 go_wp2_with fail
 have hw5 := blk_set (blk_set (blk_set HBL.out 0 (.int .i64 0)) 1 (.int .i64 0)) 2 (.int .i64 0)
 simp only [List.setIfInBounds_toArray, List.set_cons_zero, List.set_cons_succ] at hw5
 have z0 := blk_cell hw5 0
 have z1 := blk_cell hw5 1
 have z2 := blk_cell hw5 2
 simp only [List.getElem?_toArray, List.getElem?_cons_zero, List.getElem?_cons_succ] at z0 z1 z2
 exact bodyPost_ret (v := .tuple #[.agg #[.int .i64 0, .int .i64 0, .int .i64 0], .int .i64 1]) (by simp [results, Tryd.results10, go_sem, z0, z1, z2]) rfl ⟨rfl, below_set (below_set (below_set HBW.out (Nat.le_refl _)) (Nat.le_refl _)) (Nat.le_refl _)⟩
end CO
def days_Of.f (a0 : Int) : Option (Int × Int × Int × Int) := some (GL.ofS a0)
theorem days_Of.calls (a0 : Int) (r1 : Int) (r2 : Int) (r3 : Int) (r4 : Int) (w : World) (hgl : GL.Glob w) (h : days_Of.f a0 = some (r1, r2, r3, r4)) :
  Calls Tryd.prog 10 #[.int .i64 a0] w fun e w' => e = .returned (.tuple #[.agg #[.int .i64 r1, .int .i64 r2, .int .i64 r3], .int .i64 r4]) ∧ Below w.heap.size w w' := by
 have h := Option.some.inj h
 by_cases hr : 0 ≤ a0 ∧ a0 ≤ 73048
 ·have h4 : r4 = 0 := by
   unfold GL.ofS at h
   rw [if_pos hr] at h
   simp only [Prod.mk.injEq] at h
   exact h.2.2.2.symm
  subst h4
  exact CO.of_good a0 hr.1 hr.2 r1 r2 r3 h w hgl
 ·unfold GL.ofS at h
  rw [if_neg hr] at h
  cases h
  exact CO.of_bad a0 hr w

end Go.Proofs.YtpodgkmgameocaaDoor.X
