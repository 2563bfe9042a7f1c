/- Proved here: for functions of the program and of the reference, what each call returns (theorems '.calls'), under the conditions that each theorem names. Printed by this project's own driver over the kit's printer; parts marked EXT are written by hand. Lean checks it. -/
import Derived.Test.YtcckpmijdckocaaDoorX0
import Derived.Test.YtcckpmijdckocaaDoorX9
import Derived.Test.YtcckpmijdckocaaDoorX10
import Derived.Test.YtcckpmijdckocaaDoorX11
namespace Go.Proofs.YtcckpmijdckocaaDoor.X
open Go.RowKit Go.Proofs.YtcckpmijdckocaaDoorW.PrintWords Go.Proofs.YtcckpmijdckocaaDoorW.PrintLast Go.Proofs.YtcckpmijdckocaaDoorW.PrintMore
attribute [local go_sem] max2_int min2_int max_two min_two max_three min_three max_four min_four   -- for this text's walks alone
set_option linter.unusedVariables false
set_option linter.unusedSimpArgs false

/-! ### fastiref03_Lex: function 13 -/
mutual
def fastiref03_Lex.l0 : Nat → ByteArray → List (S35) → Int → Option ((List (S35)) × Int × Int)
 | 0, _, _, _ => none
 | k + 1, x0, x5, x6 => if x6 < (x0.size : Int) then (if 0 ≤ x6 then ((fastiref03_Space.f (bt x0 x6)).bind fun t220 => (if t220 = true then (fastiref03_Lex.l0 k x0 x5 (wrap64 (x6 + 1))) else (if (bt x0 x6) = 47 then (if (wrap64 (x6 + 1)) < (x0.size : Int) then (if 0 ≤ (wrap64 (x6 + 1)) then (fastiref03_Lex.j1 k x0 x5 x6 x6 ((bt x0 (wrap64 (x6 + 1))) == 47)) else (none)) else (fastiref03_Lex.j1 k x0 x5 x6 x6 false)) else (fastiref03_Lex.j1 k x0 x5 x6 x6 false)))) else (none)) else (some (x5, 0, 0))
def fastiref03_Lex.j1 : Nat → ByteArray → List (S35) → Int → Int → Bool → Option ((List (S35)) × Int × Int)
 | 0, _, _, _, _, _ => none
 | k + 1, x0, x5, x6, x7, x42 => if x42 = true then (fastiref03_Lex.l1 k x0 x5 x6) else (if 0 ≤ x6 then (if x6 < (x0.size : Int) then ((fastiref03_Letter.f (bt x0 x6)).bind fun t221 => (if t221 = true then (fastiref03_Lex.l2 k x0 x5 x6 x7) else ((fastiref03_Figure.f (bt x0 x6)).bind fun t231 => (if t231 = true then (fastiref03_Lex.l3 k x0 x5 x6 x7) else ((fastiref03_Sign.f k (bt x0 x6)).bind fun t238 => (if t238 = true then (if 0 ≤ x7 then (if x7 ≤ (wrap64 (x6 + 1)) then (if (wrap64 (x6 + 1)) ≤ (x0.size : Int) then (if x5.length < 3518437208883 then (fastiref03_Lex.l0 k x0 (x5 ++ [(⟨3, x0.extract (x7 : Int).toNat ((wrap64 (x6 + 1)) : Int).toNat, 0, x7⟩ : S35)]) (wrap64 (x6 + 1))) else (none)) else (none)) else (none)) else (none)) else (some (([] : List (S35)), x7, 30)))))))) else (none)) else (none))
def fastiref03_Lex.l1 : Nat → ByteArray → List (S35) → Int → Option ((List (S35)) × Int × Int)
 | 0, _, _, _ => none
 | k + 1, x0, x5, x6 => if x6 < (x0.size : Int) then (if 0 ≤ x6 then (if (bt x0 x6) = 10 then (fastiref03_Lex.l0 k x0 x5 x6) else (fastiref03_Lex.l1 k x0 x5 (wrap64 (x6 + 1)))) else (none)) else (fastiref03_Lex.l0 k x0 x5 x6)
def fastiref03_Lex.l2 : Nat → ByteArray → List (S35) → Int → Int → Option ((List (S35)) × Int × Int)
 | 0, _, _, _, _ => none
 | k + 1, x0, x5, x6, x7 => if x6 < (x0.size : Int) then (if 0 ≤ x6 then ((fastiref03_part.f (bt x0 x6)).bind fun t222 => (if t222 = true then (fastiref03_Lex.l2 k x0 x5 (wrap64 (x6 + 1)) x7) else (if 0 ≤ x7 then (if x7 ≤ x6 then (if x6 ≤ (x0.size : Int) then ((fastiref03_Name.f k (x0.extract (x7 : Int).toNat (x6 : Int).toNat)).bind fun t223 => (if t223 = true then (if x5.length < 3518437208883 then (fastiref03_Lex.l0 k x0 (x5 ++ [(⟨1, x0.extract (x7 : Int).toNat (x6 : Int).toNat, 0, x7⟩ : S35)]) x6) else (none)) else (some (([] : List (S35)), x7, 30)))) else (none)) else (none)) else (none)))) else (none)) else (if 0 ≤ x7 then (if x7 ≤ x6 then (if x6 ≤ (x0.size : Int) then ((fastiref03_Name.f k (x0.extract (x7 : Int).toNat (x6 : Int).toNat)).bind fun t227 => (if t227 = true then (if x5.length < 3518437208883 then (fastiref03_Lex.l0 k x0 (x5 ++ [(⟨1, x0.extract (x7 : Int).toNat (x6 : Int).toNat, 0, x7⟩ : S35)]) x6) else (none)) else (some (([] : List (S35)), x7, 30)))) else (none)) else (none)) else (none))
def fastiref03_Lex.j5 : Nat → ByteArray → List (S35) → Int → Int → Option ((List (S35)) × Int × Int)
 | 0, _, _, _, _ => none
 | k + 1, x0, x5, x6, x7 => if 0 ≤ x7 then (if x7 ≤ x6 then (if x6 ≤ (x0.size : Int) then ((fastiref03_number.f k (x0.extract (x7 : Int).toNat (x6 : Int).toNat)).bind fun bt233 => (if bt233.2 = true then (if x5.length < 3518437208883 then (fastiref03_Lex.l0 k x0 (x5 ++ [(⟨2, (⟨#[]⟩ : ByteArray), bt233.1, x7⟩ : S35)]) x6) else (none)) else (some (([] : List (S35)), x7, 30)))) else (none)) else (none)) else (none)
def fastiref03_Lex.l3 : Nat → ByteArray → List (S35) → Int → Int → Option ((List (S35)) × Int × Int)
 | 0, _, _, _, _ => none
 | k + 1, x0, x5, x6, x7 => if x6 < (x0.size : Int) then (if 0 ≤ x6 then ((fastiref03_Figure.f (bt x0 x6)).bind fun t232 => (if t232 = true then (fastiref03_Lex.l3 k x0 x5 (wrap64 (x6 + 1)) x7) else (fastiref03_Lex.j5 k x0 x5 x6 x7))) else (none)) else (fastiref03_Lex.j5 k x0 x5 x6 x7)
end
def fastiref03_Lex.f (k : Nat) (a0 : ByteArray) : Option ((List (S35)) × Int × Int) := if (a0.size : Int) > 65536 then (some (([] : List (S35)), 0, 2)) else (fastiref03_Lex.l0 k a0 (([] : List (S35))) 0)
theorem fastiref03_Lex.mono_l : ∀ k, (∀ y0 y1 y2, LeO (fastiref03_Lex.l0 k y0 y1 y2) (fastiref03_Lex.l0 (k + 1) y0 y1 y2)) ∧ (∀ y0 y1 y2 y3 y4, LeO (fastiref03_Lex.j1 k y0 y1 y2 y3 y4) (fastiref03_Lex.j1 (k + 1) y0 y1 y2 y3 y4)) ∧ (∀ y0 y1 y2, LeO (fastiref03_Lex.l1 k y0 y1 y2) (fastiref03_Lex.l1 (k + 1) y0 y1 y2)) ∧ (∀ y0 y1 y2 y3, LeO (fastiref03_Lex.l2 k y0 y1 y2 y3) (fastiref03_Lex.l2 (k + 1) y0 y1 y2 y3)) ∧ (∀ y0 y1 y2 y3, LeO (fastiref03_Lex.j5 k y0 y1 y2 y3) (fastiref03_Lex.j5 (k + 1) y0 y1 y2 y3)) ∧ (∀ y0 y1 y2 y3, LeO (fastiref03_Lex.l3 k y0 y1 y2 y3) (fastiref03_Lex.l3 (k + 1) y0 y1 y2 y3))
 | 0 => ⟨fun _ _ _ r h => by simp [fastiref03_Lex.l0] at h, fun _ _ _ _ _ r h => by simp [fastiref03_Lex.j1] at h, fun _ _ _ r h => by simp [fastiref03_Lex.l1] at h, fun _ _ _ _ r h => by simp [fastiref03_Lex.l2] at h, fun _ _ _ _ r h => by simp [fastiref03_Lex.j5] at h, fun _ _ _ _ r h => by simp [fastiref03_Lex.l3] at h⟩
 | k + 1 => by
  obtain ⟨ih0, ih1, ih2, ih3, ih4, ih5⟩ := fastiref03_Lex.mono_l k
  refine ⟨?_, ?_, ?_, ?_, ?_, ?_⟩
  ·intro y0 y1 y2
   unfold fastiref03_Lex.l0
   repeat' first
   | (with_reducible exact ih0 _ _ _)
   | (with_reducible exact ih1 _ _ _ _ _)
   | (with_reducible exact ih2 _ _ _)
   | (with_reducible exact ih3 _ _ _ _)
   | (with_reducible exact ih4 _ _ _ _)
   | (with_reducible exact ih5 _ _ _ _)
   | (with_reducible exact fastiref03_Name.mono _ _)
   | (with_reducible exact fastiref03_Sign.mono _ _)
   | (with_reducible exact fastiref03_number.mono _ _)
   | (with_reducible exact LeO.refl _)
   | (with_reducible exact LeO.none _)
   | (with_reducible refine LeO.ite ?_ ?_)
   | (with_reducible refine LeO.bind ?_ (fun _ => ?_))
   | exact ih0 _ _ _
   | exact ih1 _ _ _ _ _
   | exact ih2 _ _ _
   | exact ih3 _ _ _ _
   | exact ih4 _ _ _ _
   | exact ih5 _ _ _ _
   | exact fastiref03_Name.mono _ _
   | exact fastiref03_Sign.mono _ _
   | exact fastiref03_number.mono _ _
   | exact LeO.none _
   | refine LeO.ite ?_ ?_
   | refine LeO.bind ?_ (fun _ => ?_)
  ·intro y0 y1 y2 y3 y4
   unfold fastiref03_Lex.j1
   repeat' first
   | (with_reducible exact ih0 _ _ _)
   | (with_reducible exact ih1 _ _ _ _ _)
   | (with_reducible exact ih2 _ _ _)
   | (with_reducible exact ih3 _ _ _ _)
   | (with_reducible exact ih4 _ _ _ _)
   | (with_reducible exact ih5 _ _ _ _)
   | (with_reducible exact fastiref03_Name.mono _ _)
   | (with_reducible exact fastiref03_Sign.mono _ _)
   | (with_reducible exact fastiref03_number.mono _ _)
   | (with_reducible exact LeO.refl _)
   | (with_reducible exact LeO.none _)
   | (with_reducible refine LeO.ite ?_ ?_)
   | (with_reducible refine LeO.bind ?_ (fun _ => ?_))
   | exact ih0 _ _ _
   | exact ih1 _ _ _ _ _
   | exact ih2 _ _ _
   | exact ih3 _ _ _ _
   | exact ih4 _ _ _ _
   | exact ih5 _ _ _ _
   | exact fastiref03_Name.mono _ _
   | exact fastiref03_Sign.mono _ _
   | exact fastiref03_number.mono _ _
   | exact LeO.none _
   | refine LeO.ite ?_ ?_
   | refine LeO.bind ?_ (fun _ => ?_)
  ·intro y0 y1 y2
   unfold fastiref03_Lex.l1
   repeat' first
   | (with_reducible exact ih0 _ _ _)
   | (with_reducible exact ih1 _ _ _ _ _)
   | (with_reducible exact ih2 _ _ _)
   | (with_reducible exact ih3 _ _ _ _)
   | (with_reducible exact ih4 _ _ _ _)
   | (with_reducible exact ih5 _ _ _ _)
   | (with_reducible exact fastiref03_Name.mono _ _)
   | (with_reducible exact fastiref03_Sign.mono _ _)
   | (with_reducible exact fastiref03_number.mono _ _)
   | (with_reducible exact LeO.refl _)
   | (with_reducible exact LeO.none _)
   | (with_reducible refine LeO.ite ?_ ?_)
   | (with_reducible refine LeO.bind ?_ (fun _ => ?_))
   | exact ih0 _ _ _
   | exact ih1 _ _ _ _ _
   | exact ih2 _ _ _
   | exact ih3 _ _ _ _
   | exact ih4 _ _ _ _
   | exact ih5 _ _ _ _
   | exact fastiref03_Name.mono _ _
   | exact fastiref03_Sign.mono _ _
   | exact fastiref03_number.mono _ _
   | exact LeO.none _
   | refine LeO.ite ?_ ?_
   | refine LeO.bind ?_ (fun _ => ?_)
  ·intro y0 y1 y2 y3
   unfold fastiref03_Lex.l2
   repeat' first
   | (with_reducible exact ih0 _ _ _)
   | (with_reducible exact ih1 _ _ _ _ _)
   | (with_reducible exact ih2 _ _ _)
   | (with_reducible exact ih3 _ _ _ _)
   | (with_reducible exact ih4 _ _ _ _)
   | (with_reducible exact ih5 _ _ _ _)
   | (with_reducible exact fastiref03_Name.mono _ _)
   | (with_reducible exact fastiref03_Sign.mono _ _)
   | (with_reducible exact fastiref03_number.mono _ _)
   | (with_reducible exact LeO.refl _)
   | (with_reducible exact LeO.none _)
   | (with_reducible refine LeO.ite ?_ ?_)
   | (with_reducible refine LeO.bind ?_ (fun _ => ?_))
   | exact ih0 _ _ _
   | exact ih1 _ _ _ _ _
   | exact ih2 _ _ _
   | exact ih3 _ _ _ _
   | exact ih4 _ _ _ _
   | exact ih5 _ _ _ _
   | exact fastiref03_Name.mono _ _
   | exact fastiref03_Sign.mono _ _
   | exact fastiref03_number.mono _ _
   | exact LeO.none _
   | refine LeO.ite ?_ ?_
   | refine LeO.bind ?_ (fun _ => ?_)
  ·intro y0 y1 y2 y3
   unfold fastiref03_Lex.j5
   repeat' first
   | (with_reducible exact ih0 _ _ _)
   | (with_reducible exact ih1 _ _ _ _ _)
   | (with_reducible exact ih2 _ _ _)
   | (with_reducible exact ih3 _ _ _ _)
   | (with_reducible exact ih4 _ _ _ _)
   | (with_reducible exact ih5 _ _ _ _)
   | (with_reducible exact fastiref03_Name.mono _ _)
   | (with_reducible exact fastiref03_Sign.mono _ _)
   | (with_reducible exact fastiref03_number.mono _ _)
   | (with_reducible exact LeO.refl _)
   | (with_reducible exact LeO.none _)
   | (with_reducible refine LeO.ite ?_ ?_)
   | (with_reducible refine LeO.bind ?_ (fun _ => ?_))
   | exact ih0 _ _ _
   | exact ih1 _ _ _ _ _
   | exact ih2 _ _ _
   | exact ih3 _ _ _ _
   | exact ih4 _ _ _ _
   | exact ih5 _ _ _ _
   | exact fastiref03_Name.mono _ _
   | exact fastiref03_Sign.mono _ _
   | exact fastiref03_number.mono _ _
   | exact LeO.none _
   | refine LeO.ite ?_ ?_
   | refine LeO.bind ?_ (fun _ => ?_)
  ·intro y0 y1 y2 y3
   unfold fastiref03_Lex.l3
   repeat' first
   | (with_reducible exact ih0 _ _ _)
   | (with_reducible exact ih1 _ _ _ _ _)
   | (with_reducible exact ih2 _ _ _)
   | (with_reducible exact ih3 _ _ _ _)
   | (with_reducible exact ih4 _ _ _ _)
   | (with_reducible exact ih5 _ _ _ _)
   | (with_reducible exact fastiref03_Name.mono _ _)
   | (with_reducible exact fastiref03_Sign.mono _ _)
   | (with_reducible exact fastiref03_number.mono _ _)
   | (with_reducible exact LeO.refl _)
   | (with_reducible exact LeO.none _)
   | (with_reducible refine LeO.ite ?_ ?_)
   | (with_reducible refine LeO.bind ?_ (fun _ => ?_))
   | exact ih0 _ _ _
   | exact ih1 _ _ _ _ _
   | exact ih2 _ _ _
   | exact ih3 _ _ _ _
   | exact ih4 _ _ _ _
   | exact ih5 _ _ _ _
   | exact fastiref03_Name.mono _ _
   | exact fastiref03_Sign.mono _ _
   | exact fastiref03_number.mono _ _
   | exact LeO.none _
   | refine LeO.ite ?_ ?_
   | refine LeO.bind ?_ (fun _ => ?_)
theorem fastiref03_Lex.mono : ∀ a0 k, LeO (fastiref03_Lex.f k a0) (fastiref03_Lex.f (k + 1) a0) := by
 intro a0 k
 obtain ⟨ih0, ih1, ih2, ih3, ih4, ih5⟩ := fastiref03_Lex.mono_l k
 unfold fastiref03_Lex.f
 repeat' first
   | (with_reducible exact ih0 _ _ _)
   | (with_reducible exact ih1 _ _ _ _ _)
   | (with_reducible exact ih2 _ _ _)
   | (with_reducible exact ih3 _ _ _ _)
   | (with_reducible exact ih4 _ _ _ _)
   | (with_reducible exact ih5 _ _ _ _)
   | (with_reducible exact fastiref03_Name.mono _ _)
   | (with_reducible exact fastiref03_Sign.mono _ _)
   | (with_reducible exact fastiref03_number.mono _ _)
   | (with_reducible exact LeO.refl _)
   | (with_reducible exact LeO.none _)
   | (with_reducible refine LeO.ite ?_ ?_)
   | (with_reducible refine LeO.bind ?_ (fun _ => ?_))
   | exact ih0 _ _ _
   | exact ih1 _ _ _ _ _
   | exact ih2 _ _ _
   | exact ih3 _ _ _ _
   | exact ih4 _ _ _ _
   | exact ih5 _ _ _ _
   | exact fastiref03_Name.mono _ _
   | exact fastiref03_Sign.mono _ _
   | exact fastiref03_number.mono _ _
   | exact LeO.none _
   | refine LeO.ite ?_ ?_
   | refine LeO.bind ?_ (fun _ => ?_)
set_option maxHeartbeats 8000000 in
set_option maxRecDepth 100000 in
theorem fastiref03_Lex.calls (k : Nat) (a0 : ByteArray) (r1 : List (S35)) (r2 : Int) (r3 : Int) (w : World) (h : fastiref03_Lex.f k a0 = some (r1, r2, r3)) :
  Calls Tryd.prog 13 #[.string a0] w fun e w' => ∃ v0_ : Value, e = .returned (.tuple #[v0_, .int .i64 r2, .int .i64 r3]) ∧ Kd.R k35 35 w' w.heap.size (fun _ => True) v0_ r1 ∧ Below w.heap.size w w' := by
 have hu35 := Tryd.underlying35
 have HB := Aside0.mk (Below.refl w.heap.size w)
 have H : (if (a0.size : Int) > 65536 then (some (([] : List (S35)), 0, 2)) else (fastiref03_Lex.l0 k a0 (([] : List (S35))) 0)) = some (r1, r2, r3) := h
 clear h
 by_cases c2 : (a0.size : Int) > 65536
 ·rw [if_pos c2] at H
  have c2b0 : decide (65536 < (a0.size : Int)) = true := decide_eq_true c2
  have c2b1 : decide (65536 < a0.size) = true := decide_eq_true (by omega)
  clear c2
  simp only [Option.some.injEq, Prod.mk.injEq] at H
  obtain ⟨rfl, rfl, rfl⟩ := H
  go_enter Tryd.func13, Tryd.ntmps13
  go_wp2
  go_ret3
  exact ⟨_, by first | rfl | (simp [errW_none, errW_some] <;> rfl) | (simp [*, errW_none, errW_some] <;> rfl), by first | exact Kd.R_nil _ _ _ _ _ | exact Kd.N_nil _ _ _ _ _ | exact Kd.V_nil _ _ _ _ _ | exact Kd.Q_nil _ _ _ _ _ | exact Kd.S_nil _ _ _ _ _, by repeat (first | (with_reducible first | exact HB.out | apply below_alloc | apply pw_below_drewN | apply below_drew1) | exact HB.out)⟩
 ·rw [if_neg c2] at H
  have c2b0 : decide (65536 < (a0.size : Int)) = false := decide_eq_false c2
  have c2b1 : decide (65536 < a0.size) = false := decide_eq_false (by omega)
  clear c2
  obtain ⟨y217, hy217⟩ : ∃ y_ : List (S35), y_ = (([] : List (S35))) := ⟨_, rfl⟩
  replace H : (fastiref03_Lex.l0 k a0 y217 0) = some (r1, r2, r3) := by first | (rw [hy217]; with_reducible exact H) | (have H2_ := (Option.bind_some _ _).symm.trans H; rw [hy217]; with_reducible exact H2_) | (have H2_ := (Option.bind_some _ _).symm.trans H; with_reducible exact H2_) | with_reducible exact H | (rw [hy217]; exact H) | exact H
  have Ny217 := Aside0.mk hy217
  clear hy217
  have H' := Aside0.mk H
  clear H
  go_enter Tryd.func13, Tryd.ntmps13
  go_wp2_with (first | ((with_reducible refine gate_dst (N := 13) rfl ?_); (try (refine gate_guard (by rfl) ?_; dsimp only)); refine Kd.R_lit k35 _ 35 ?hg (N := 13) ?hd (xs := ([] : List (S35))) (inner := []) (ok := fun _ => True) (okp := fun _ => True) ?hr ?hp (fun _ hk => hk) trivial (Below.refl _ _) (Nat.le_refl _) (by simp) ?_; (case hd => rfl); (case hg => rfl); (case hr => first | (go_simp; done) | (go_simp; rfl)); (case hp => exact (Reps.none _ _)); intro v218 w3 ho4 hb hg_ hnew_; clear hg_ hnew_; (first | rw [← Ny217.out] at ho4 | (simp only [Int.reduceToNat] at ho4; rw [← Ny217.out] at ho4)); have n0_ := Aside0.mk (Kd.R_lower ho4 (below_size (by repeat (first | (with_reducible first | exact HB.out | apply below_alloc | apply pw_below_drewN | apply below_drew1) | exact HB.out)))); have n1_ := Aside0.mk (below_step (by repeat (first | (with_reducible first | exact HB.out | apply below_alloc | apply pw_below_drewN | apply below_drew1) | exact HB.out)) hb); clear HB; have HO219 := n0_; have HB := n1_; clear n0_ n1_; clear hb ho4))
  (try simp only [Act.put, List.setIfInBounds_toArray, List.set_cons_zero, List.set_cons_succ])
  go_loopg [5, 6] k (fun kq v5 v6 w' => ∃ (x5_1 : List (S35)) (x6_1 : Int), v6 = .int .i64 x6_1 ∧ Aside0 (fastiref03_Lex.l0 kq a0 x5_1 x6_1 = some (r1, r2, r3)) ∧ Aside0 (kq ≤ k) ∧ Aside0 (Kd.R k35 35 w' w.heap.size (fun _ => True) v5 x5_1) ∧ Aside0 (Below w.heap.size w w'))
  case atStart => exact ⟨(y217), (0), (by first | rfl | (simp; done) | (simp [*]; done)), H', ⟨Nat.le_refl _⟩, ⟨by (with_reducible repeat (first | apply Kd.R_alloc | apply Kd.R_drewN | apply Kd.R_drew)); exact HO219.out⟩, ⟨by repeat (first | (with_reducible first | exact HB.out | apply below_alloc | apply pw_below_drewN | apply below_drew1) | exact HB.out)⟩⟩
  case round =>
   clear H'
   try clear c1; try clear c2; try clear c2b0; try clear c2b1; try clear p2
   obtain ⟨x5_1, x6_1, rfl, HA, HK1, HO_5, HB⟩ := hrel
   cases gk with
   | zero => exact absurd HA.out (by simp [fastiref03_Lex.l0])
   | succ k1 =>
    have H := HA.out
    clear HA
    simp only [fastiref03_Lex.l0] at H
    by_cases c5 : x6_1 < (a0.size : Int)
    ·rw [if_pos c5] at H
     have c5b0 : decide (x6_1 < (a0.size : Int)) = true := decide_eq_true c5
     clear c5
     by_cases c6 : 0 ≤ x6_1
     ·rw [if_pos c6] at H
      have c6b0 : decide (0 ≤ x6_1) = true := decide_eq_true c6
      clear c6
      replace H := Option.bind_eq_some_iff.mp H
      obtain ⟨t220, A80, H⟩ := H
      replace H : (if t220 = true then (fastiref03_Lex.l0 k1 a0 x5_1 (wrap64 (x6_1 + 1))) else (if (bt a0 x6_1) = 47 then (if (wrap64 (x6_1 + 1)) < (a0.size : Int) then (if 0 ≤ (wrap64 (x6_1 + 1)) then (fastiref03_Lex.j1 k1 a0 x5_1 x6_1 x6_1 ((bt a0 (wrap64 (x6_1 + 1))) == 47)) else (none)) else (fastiref03_Lex.j1 k1 a0 x5_1 x6_1 x6_1 false)) else (fastiref03_Lex.j1 k1 a0 x5_1 x6_1 x6_1 false))) = some (r1, r2, r3) := H
      have A8 := Aside0.mk A80
      clear A80
      by_cases c9 : t220 = true
      ·subst c9
       have H1 : (fastiref03_Lex.l0 k1 a0 x5_1 (wrap64 (x6_1 + 1))) = some (r1, r2, r3) := by rw [if_pos rfl] at H; exact H
       clear H
       have H := H1
       clear H1
       have H' := Aside0.mk H
       clear H
       have p7 : 0 ≤ (x6_1 : Int) := of_decide_eq_true (by first | (with_reducible assumption) | assumption)
       have q7 : x6_1 < (a0.size : Int) := of_decide_eq_true (by first | (with_reducible assumption) | assumption)
       have hx7 := bt_at a0 x6_1
       replace p7 := eq_true p7
       replace q7 := eq_true q7
       go_wp2_with (first | ((with_reducible refine gate_callee (f := 22) rfl ?_); refine goesL_ (some 22) rfl rfl Tryd.func22 (by kernel_rfl) rfl #[.int .u8 (bt a0 x6_1)] rfl (by (try simp only [List.map_toArray, List.map_cons, List.map_nil]); first | done | rfl | (simp only [List.length_drop, List.length_take]; rfl)) ?_; (with_reducible refine (fastiref03_Space.calls (bt a0 x6_1) true _ A8.out).mono ?_); rintro e w' ⟨rfl, ⟨nd, rfl⟩⟩; refine ⟨_, rfl, ?_⟩))
       go_roundg k1
       case measure => have := HK1.out; omega
       case rel => exact ⟨(x5_1), (wrap64 (x6_1 + 1)), (by first | rfl | (simp; done) | (simp [*]; done)), H', ⟨by have := HK1.out; omega⟩, ⟨by (with_reducible repeat (first | apply Kd.R_alloc | apply Kd.R_drewN | apply Kd.R_drew)); exact HO_5.out⟩, ⟨by repeat (first | (with_reducible first | exact HB.out | apply below_alloc | apply pw_below_drewN | apply below_drew1) | exact HB.out)⟩⟩
      ·replace c9 := Bool.eq_false_iff.mpr c9
       subst c9
       have H1 : (if (bt a0 x6_1) = 47 then (if (wrap64 (x6_1 + 1)) < (a0.size : Int) then (if 0 ≤ (wrap64 (x6_1 + 1)) then (fastiref03_Lex.j1 k1 a0 x5_1 x6_1 x6_1 ((bt a0 (wrap64 (x6_1 + 1))) == 47)) else (none)) else (fastiref03_Lex.j1 k1 a0 x5_1 x6_1 x6_1 false)) else (fastiref03_Lex.j1 k1 a0 x5_1 x6_1 x6_1 false)) = some (r1, r2, r3) := by rw [if_neg (show ¬ (false = true) by decide)] at H; exact H
       clear H
       have H := H1
       clear H1
       have HC10 := Aside0.mk H
       clear H
       have p7 : 0 ≤ (x6_1 : Int) := of_decide_eq_true (by first | (with_reducible assumption) | assumption)
       have q7 : x6_1 < (a0.size : Int) := of_decide_eq_true (by first | (with_reducible assumption) | assumption)
       have hx7 := bt_at a0 x6_1
       replace p7 := eq_true p7
       replace q7 := eq_true q7
       go_upto_region 9 with (first | ((with_reducible refine gate_callee (f := 22) rfl ?_); refine goesL_ (some 22) rfl rfl Tryd.func22 (by kernel_rfl) rfl #[.int .u8 (bt a0 x6_1)] rfl (by (try simp only [List.map_toArray, List.map_cons, List.map_nil]); first | done | rfl | (simp only [List.length_drop, List.length_take]; rfl)) ?_; (with_reducible refine (fastiref03_Space.calls (bt a0 x6_1) false _ A8.out).mono ?_); rintro e w' ⟨rfl, ⟨nd, rfl⟩⟩; refine ⟨_, rfl, ?_⟩))
       (try simp only [Act.put, List.setIfInBounds_toArray, List.set_cons_zero, List.set_cons_succ])
       go_cut [42] (fun v42 wc => ∃ (kq : Nat) (x42_9 : Bool), v42 = .bool x42_9 ∧ Aside0 (fastiref03_Lex.j1 kq a0 x5_1 x6_1 x6_1 x42_9 = some (r1, r2, r3)) ∧ Aside0 (kq ≤ k1) ∧ Aside0 (Kd.R k35 35 wc w.heap.size (fun _ => True) u5 x5_1) ∧ Aside0 (Below w.heap.size w wc))
       case first =>
        have H := HC10.out
        clear HC10
        by_cases c12 : (bt a0 x6_1) = 47
        ·rw [if_pos c12] at H
         have c12b0 : ((bt a0 x6_1) == 47) = true := beq_iff_eq.mpr c12
         have c12b1 : ((bt a0 x6_1) != 47) = false := bne_eq_false_iff_eq.mpr c12
         clear c12
         (first | rw [c12b0] | (simp only [i64_w, i32_w]; rw [c12b0]) | skip)
         by_cases c13 : (wrap64 (x6_1 + 1)) < (a0.size : Int)
         ·rw [if_pos c13] at H
          have c13b0 : decide ((wrap64 (x6_1 + 1)) < (a0.size : Int)) = true := decide_eq_true c13
          clear c13
          obtain ⟨ji14, hji14⟩ : ∃ j_ : Int, (wrap64 (x6_1 + 1)) = j_ := ⟨_, rfl⟩
          replace H : (if 0 ≤ (ji14) then (fastiref03_Lex.j1 k1 a0 x5_1 x6_1 x6_1 ((bt a0 (ji14)) == 47)) else (none)) = some (r1, r2, r3) := by first | (rw [hji14] at H; exact H) | (simp only [hji14] at H ⊢; exact H)
          (try rw [hji14] at c13b0)
          have hji14w : (IntKind.i64.wrap (x6_1 + 1)) = ji14 := (i64_w _).trans hji14
          by_cases c15 : 0 ≤ (ji14)
          ·rw [if_pos c15] at H
           have c15b0 : decide (0 ≤ (ji14)) = true := decide_eq_true c15
           clear c15
           have H' := Aside0.mk H
           clear H
           have p11 : 0 ≤ (x6_1 : Int) := of_decide_eq_true (by first | (with_reducible assumption) | assumption)
           have q11 : x6_1 < (a0.size : Int) := of_decide_eq_true (by first | (with_reducible assumption) | assumption)
           have hx11 := bt_at a0 x6_1
           replace p11 := eq_true p11
           replace q11 := eq_true q11
           have p16 : 0 ≤ ((ji14) : Int) := of_decide_eq_true (by first | (with_reducible assumption) | assumption)
           have q16 : (ji14) < (a0.size : Int) := of_decide_eq_true (by first | (with_reducible assumption) | assumption)
           have hx16 := bt_at a0 (ji14)
           replace p16 := eq_true p16
           replace q16 := eq_true q16
           go_wp2
           go_meet
           case rel => exact ⟨_, (((bt a0 (ji14)) == 47)), (by first | rfl | (simp; done) | (simp only [← hji14] <;> (first | rfl | simp)) | (simp [*]; done)), H', ⟨by have := HK1.out; first | omega | exact Nat.le_refl _⟩, ⟨by (with_reducible repeat (first | apply Kd.R_alloc | apply Kd.R_drewN | apply Kd.R_drew)); exact HO_5.out⟩, ⟨by repeat (first | (with_reducible first | exact HB.out | apply below_alloc | apply pw_below_drewN | apply below_drew1) | exact HB.out)⟩⟩
          ·rw [if_neg c15] at H
           exact absurd H (by simp)
         ·rw [if_neg c13] at H
          have c13b0 : decide ((wrap64 (x6_1 + 1)) < (a0.size : Int)) = false := decide_eq_false c13
          clear c13
          have H' := Aside0.mk H
          clear H
          have p11 : 0 ≤ (x6_1 : Int) := of_decide_eq_true (by first | (with_reducible assumption) | assumption)
          have q11 : x6_1 < (a0.size : Int) := of_decide_eq_true (by first | (with_reducible assumption) | assumption)
          have hx11 := bt_at a0 x6_1
          replace p11 := eq_true p11
          replace q11 := eq_true q11
          go_wp2
          go_meet
          case rel => exact ⟨_, (false), (by first | rfl | (simp; done) | (simp [*]; done)), H', ⟨by have := HK1.out; first | omega | exact Nat.le_refl _⟩, ⟨by (with_reducible repeat (first | apply Kd.R_alloc | apply Kd.R_drewN | apply Kd.R_drew)); exact HO_5.out⟩, ⟨by repeat (first | (with_reducible first | exact HB.out | apply below_alloc | apply pw_below_drewN | apply below_drew1) | exact HB.out)⟩⟩
        ·rw [if_neg c12] at H
         have c12b0 : ((bt a0 x6_1) == 47) = false := beq_eq_false_iff_ne.mpr c12
         have c12b1 : ((bt a0 x6_1) != 47) = true := bne_iff_ne.mpr c12
         (first | rw [c12b0] | (simp only [i64_w, i32_w]; rw [c12b0]) | skip)
         have H' := Aside0.mk H
         clear H
         have p11 : 0 ≤ (x6_1 : Int) := of_decide_eq_true (by first | (with_reducible assumption) | assumption)
         have q11 : x6_1 < (a0.size : Int) := of_decide_eq_true (by first | (with_reducible assumption) | assumption)
         have hx11 := bt_at a0 x6_1
         replace p11 := eq_true p11
         replace q11 := eq_true q11
         go_wp2
         go_meet
         case rel => exact ⟨_, (false), (by first | rfl | (simp; done) | (simp [*]; done)), H', ⟨by have := HK1.out; first | omega | exact Nat.le_refl _⟩, ⟨by (with_reducible repeat (first | apply Kd.R_alloc | apply Kd.R_drewN | apply Kd.R_drew)); exact HO_5.out⟩, ⟨by repeat (first | (with_reducible first | exact HB.out | apply below_alloc | apply pw_below_drewN | apply below_drew1) | exact HB.out)⟩⟩
       case rest =>
        clear HC10
        try clear c1; try clear p1; try clear q1; try clear hx1; try clear c2; try clear c2b0; try clear c2b1; try clear p2; try clear c5; try clear c5b0; try clear c6; try clear c6b0; try clear p6; try clear p7; try clear q7; try clear hx7; try clear c9; try clear p11; try clear q11; try clear hx11; try clear c12; try clear c12b0; try clear c12b1; try clear c13; try clear c13b0; try clear c15; try clear c15b0; try clear p16; try clear q16; try clear hx16
        obtain ⟨kq, x42_9, rfl, HA, HJ9, HO_5, HB⟩ := hcut
        cases kq with
        | zero => exact absurd HA.out (by simp [fastiref03_Lex.j1])
        | succ kj9 =>
         have H := HA.out
         clear HA
         simp only [fastiref03_Lex.j1] at H
         by_cases c17 : x42_9 = true
         ·subst c17
          have H1 : (fastiref03_Lex.l1 kj9 a0 x5_1 x6_1) = some (r1, r2, r3) := by rw [if_pos rfl] at H; exact H
          clear H
          have H := H1
          clear H1
          have H' := Aside0.mk H
          clear H
          go_wp2
          go_loopg [6] kj9 (fun kq v6 w' => ∃ (x6_3 : Int), v6 = .int .i64 x6_3 ∧ Aside0 (fastiref03_Lex.l1 kq a0 x5_1 x6_3 = some (r1, r2, r3)) ∧ Aside0 (kq ≤ kj9) ∧ Aside0 (Kd.R k35 35 w' w.heap.size (fun _ => True) u5 x5_1) ∧ Aside0 (Below w.heap.size w w'))
          case atStart => exact ⟨(x6_1), (by first | rfl | (simp; done) | (simp [*]; done)), H', ⟨Nat.le_refl _⟩, ⟨by (with_reducible repeat (first | apply Kd.R_alloc | apply Kd.R_drewN | apply Kd.R_drew)); exact HO_5.out⟩, ⟨by repeat (first | (with_reducible first | exact HB.out | apply below_alloc | apply pw_below_drewN | apply below_drew1) | exact HB.out)⟩⟩
          case round =>
           clear H'
           try clear c1; try clear p1; try clear q1; try clear hx1; try clear c2; try clear c2b0; try clear c2b1; try clear p2; try clear c5; try clear c5b0; try clear c6; try clear c6b0; try clear p6; try clear p7; try clear q7; try clear hx7; try clear c9; try clear p11; try clear q11; try clear hx11; try clear c12; try clear c12b0; try clear c12b1; try clear c13; try clear c13b0; try clear c15; try clear c15b0; try clear p16; try clear q16; try clear hx16; try clear c17
           obtain ⟨x6_3, rfl, HA, HK3, HO_5, HB⟩ := hrel
           cases gk with
           | zero => exact absurd HA.out (by simp [fastiref03_Lex.l1])
           | succ k3 =>
            have H := HA.out
            clear HA
            simp only [fastiref03_Lex.l1] at H
            by_cases c18 : x6_3 < (a0.size : Int)
            ·rw [if_pos c18] at H
             have c18b0 : decide (x6_3 < (a0.size : Int)) = true := decide_eq_true c18
             clear c18
             by_cases c19 : 0 ≤ x6_3
             ·rw [if_pos c19] at H
              have c19b0 : decide (0 ≤ x6_3) = true := decide_eq_true c19
              clear c19
              by_cases c21 : (bt a0 x6_3) = 10
              ·rw [if_pos c21] at H
               have c21b0 : ((bt a0 x6_3) == 10) = true := beq_iff_eq.mpr c21
               have c21b1 : ((bt a0 x6_3) != 10) = false := bne_eq_false_iff_eq.mpr c21
               clear c21
               have H' := Aside0.mk H
               clear H
               have p20 : 0 ≤ (x6_3 : Int) := of_decide_eq_true (by first | (with_reducible assumption) | assumption)
               have q20 : x6_3 < (a0.size : Int) := of_decide_eq_true (by first | (with_reducible assumption) | assumption)
               have hx20 := bt_at a0 x6_3
               replace p20 := eq_true p20
               replace q20 := eq_true q20
               go_wp2
               go_roundg k3
               case measure => have := HK1.out; have := HJ9.out; have := HK3.out; omega
               case rel => exact ⟨(x5_1), (x6_3), (by first | rfl | (simp; done) | (simp [*]; done)), H', ⟨by have := HK1.out; have := HJ9.out; have := HK3.out; omega⟩, ⟨by (with_reducible repeat (first | apply Kd.R_alloc | apply Kd.R_drewN | apply Kd.R_drew)); exact HO_5.out⟩, ⟨by repeat (first | (with_reducible first | exact HB.out | apply below_alloc | apply pw_below_drewN | apply below_drew1) | exact HB.out)⟩⟩
              ·rw [if_neg c21] at H
               have c21b0 : ((bt a0 x6_3) == 10) = false := beq_eq_false_iff_ne.mpr c21
               have c21b1 : ((bt a0 x6_3) != 10) = true := bne_iff_ne.mpr c21
               have H' := Aside0.mk H
               clear H
               have p20 : 0 ≤ (x6_3 : Int) := of_decide_eq_true (by first | (with_reducible assumption) | assumption)
               have q20 : x6_3 < (a0.size : Int) := of_decide_eq_true (by first | (with_reducible assumption) | assumption)
               have hx20 := bt_at a0 x6_3
               replace p20 := eq_true p20
               replace q20 := eq_true q20
               go_wp2
               go_roundg k3
               case measure => have := HK1.out; have := HJ9.out; have := HK3.out; omega
               case rel => exact ⟨(wrap64 (x6_3 + 1)), (by first | rfl | (simp; done) | (simp [*]; done)), H', ⟨by have := HK1.out; have := HJ9.out; have := HK3.out; omega⟩, ⟨by (with_reducible repeat (first | apply Kd.R_alloc | apply Kd.R_drewN | apply Kd.R_drew)); exact HO_5.out⟩, ⟨by repeat (first | (with_reducible first | exact HB.out | apply below_alloc | apply pw_below_drewN | apply below_drew1) | exact HB.out)⟩⟩
             ·rw [if_neg c19] at H
              exact absurd H (by simp)
            ·rw [if_neg c18] at H
             have c18b0 : decide (x6_3 < (a0.size : Int)) = false := decide_eq_false c18
             clear c18
             have H' := Aside0.mk H
             clear H
             go_wp2
             go_roundg k3
             case measure => have := HK1.out; have := HJ9.out; have := HK3.out; omega
             case rel => exact ⟨(x5_1), (x6_3), (by first | rfl | (simp; done) | (simp [*]; done)), H', ⟨by have := HK1.out; have := HJ9.out; have := HK3.out; omega⟩, ⟨by (with_reducible repeat (first | apply Kd.R_alloc | apply Kd.R_drewN | apply Kd.R_drew)); exact HO_5.out⟩, ⟨by repeat (first | (with_reducible first | exact HB.out | apply below_alloc | apply pw_below_drewN | apply below_drew1) | exact HB.out)⟩⟩
         ·replace c17 := Bool.eq_false_iff.mpr c17
          subst c17
          have H1 : (if 0 ≤ x6_1 then (if x6_1 < (a0.size : Int) then ((fastiref03_Letter.f (bt a0 x6_1)).bind fun t221 => (if t221 = true then (fastiref03_Lex.l2 kj9 a0 x5_1 x6_1 x6_1) else ((fastiref03_Figure.f (bt a0 x6_1)).bind fun t231 => (if t231 = true then (fastiref03_Lex.l3 kj9 a0 x5_1 x6_1 x6_1) else ((fastiref03_Sign.f kj9 (bt a0 x6_1)).bind fun t238 => (if t238 = true then (if 0 ≤ x6_1 then (if x6_1 ≤ (wrap64 (x6_1 + 1)) then (if (wrap64 (x6_1 + 1)) ≤ (a0.size : Int) then (if x5_1.length < 3518437208883 then (fastiref03_Lex.l0 kj9 a0 (x5_1 ++ [(⟨3, a0.extract (x6_1 : Int).toNat ((wrap64 (x6_1 + 1)) : Int).toNat, 0, x6_1⟩ : S35)]) (wrap64 (x6_1 + 1))) else (none)) else (none)) else (none)) else (none)) else (some (([] : List (S35)), x6_1, 30)))))))) else (none)) else (none)) = some (r1, r2, r3) := by rw [if_neg (show ¬ (false = true) by decide)] at H; exact H
          clear H
          have H := H1
          clear H1
          by_cases c22 : 0 ≤ x6_1
          ·rw [if_pos c22] at H
           have c22b0 : decide (0 ≤ x6_1) = true := decide_eq_true c22
           clear c22
           by_cases c23 : x6_1 < (a0.size : Int)
           ·rw [if_pos c23] at H
            have c23b0 : decide (x6_1 < (a0.size : Int)) = true := decide_eq_true c23
            clear c23
            replace H := Option.bind_eq_some_iff.mp H
            obtain ⟨t221, A250, H⟩ := H
            replace H : (if t221 = true then (fastiref03_Lex.l2 kj9 a0 x5_1 x6_1 x6_1) else ((fastiref03_Figure.f (bt a0 x6_1)).bind fun t231 => (if t231 = true then (fastiref03_Lex.l3 kj9 a0 x5_1 x6_1 x6_1) else ((fastiref03_Sign.f kj9 (bt a0 x6_1)).bind fun t238 => (if t238 = true then (if 0 ≤ x6_1 then (if x6_1 ≤ (wrap64 (x6_1 + 1)) then (if (wrap64 (x6_1 + 1)) ≤ (a0.size : Int) then (if x5_1.length < 3518437208883 then (fastiref03_Lex.l0 kj9 a0 (x5_1 ++ [(⟨3, a0.extract (x6_1 : Int).toNat ((wrap64 (x6_1 + 1)) : Int).toNat, 0, x6_1⟩ : S35)]) (wrap64 (x6_1 + 1))) else (none)) else (none)) else (none)) else (none)) else (some (([] : List (S35)), x6_1, 30))))))) = some (r1, r2, r3) := H
            have A25 := Aside0.mk A250
            clear A250
            by_cases c26 : t221 = true
            ·subst c26
             have H1 : (fastiref03_Lex.l2 kj9 a0 x5_1 x6_1 x6_1) = some (r1, r2, r3) := by rw [if_pos rfl] at H; exact H
             clear H
             have H := H1
             clear H1
             have H' := Aside0.mk H
             clear H
             have p24 : 0 ≤ (x6_1 : Int) := of_decide_eq_true (by first | (with_reducible assumption) | assumption)
             have q24 : x6_1 < (a0.size : Int) := of_decide_eq_true (by first | (with_reducible assumption) | assumption)
             have hx24 := bt_at a0 x6_1
             replace p24 := eq_true p24
             replace q24 := eq_true q24
             go_wp2_with (first | ((with_reducible refine gate_callee (f := 31) rfl ?_); refine goesL_ (some 58) rfl rfl Tryd.func31 (by kernel_rfl) rfl #[.int .u8 (bt a0 x6_1)] rfl (by (try simp only [List.map_toArray, List.map_cons, List.map_nil]); first | done | rfl | (simp only [List.length_drop, List.length_take]; rfl)) ?_; (with_reducible refine (fastiref03_Letter.calls (bt a0 x6_1) true _ A25.out).mono ?_); rintro e w' ⟨rfl, ⟨nd, rfl⟩⟩; refine ⟨_, rfl, ?_⟩))
             (try simp only [Act.put, List.setIfInBounds_toArray, List.set_cons_zero, List.set_cons_succ])
             go_loopg [6] kj9 (fun kq v6 w' => ∃ (x6_3 : Int), v6 = .int .i64 x6_3 ∧ Aside0 (fastiref03_Lex.l2 kq a0 x5_1 x6_3 x6_1 = some (r1, r2, r3)) ∧ Aside0 (kq ≤ kj9) ∧ Aside0 (Kd.R k35 35 w' w.heap.size (fun _ => True) u5 x5_1) ∧ Aside0 (Below w.heap.size w w'))
             case atStart => exact ⟨(x6_1), (by first | rfl | (simp; done) | (simp [*]; done)), H', ⟨Nat.le_refl _⟩, ⟨by (with_reducible repeat (first | apply Kd.R_alloc | apply Kd.R_drewN | apply Kd.R_drew)); exact HO_5.out⟩, ⟨by repeat (first | (with_reducible first | exact HB.out | apply below_alloc | apply pw_below_drewN | apply below_drew1) | exact HB.out)⟩⟩
             case round =>
              clear H'
              try clear c1; try clear p1; try clear q1; try clear hx1; try clear c2; try clear c2b0; try clear c2b1; try clear p2; try clear q2; try clear hx2; try clear c3; try clear c5; try clear c5b0; try clear c6; try clear c6b0; try clear p6; try clear p7; try clear q7; try clear hx7; try clear c9; try clear p11; try clear q11; try clear hx11; try clear c12; try clear c12b0; try clear c12b1; try clear c13; try clear c13b0; try clear c15; try clear c15b0; try clear p16; try clear q16; try clear hx16; try clear c17; try clear c18; try clear c18b0; try clear c19; try clear c19b0; try clear p20; try clear q20; try clear hx20; try clear c21; try clear c21b0; try clear c21b1; try clear c22; try clear c22b0; try clear c23; try clear c23b0; try clear p24; try clear q24; try clear hx24; try clear c26
              obtain ⟨x6_3, rfl, HA, HK3, HO_5, HB⟩ := hrel
              cases gk with
              | zero => exact absurd HA.out (by simp [fastiref03_Lex.l2])
              | succ k3 =>
               have H := HA.out
               clear HA
               simp only [fastiref03_Lex.l2] at H
               by_cases c27 : x6_3 < (a0.size : Int)
               ·rw [if_pos c27] at H
                have c27b0 : decide (x6_3 < (a0.size : Int)) = true := decide_eq_true c27
                clear c27
                by_cases c28 : 0 ≤ x6_3
                ·rw [if_pos c28] at H
                 have c28b0 : decide (0 ≤ x6_3) = true := decide_eq_true c28
                 clear c28
                 replace H := Option.bind_eq_some_iff.mp H
                 obtain ⟨t222, A300, H⟩ := H
                 replace H : (if t222 = true then (fastiref03_Lex.l2 k3 a0 x5_1 (wrap64 (x6_3 + 1)) x6_1) else (if 0 ≤ x6_1 then (if x6_1 ≤ x6_3 then (if x6_3 ≤ (a0.size : Int) then ((fastiref03_Name.f k3 (a0.extract (x6_1 : Int).toNat (x6_3 : Int).toNat)).bind fun t223 => (if t223 = true then (if x5_1.length < 3518437208883 then (fastiref03_Lex.l0 k3 a0 (x5_1 ++ [(⟨1, a0.extract (x6_1 : Int).toNat (x6_3 : Int).toNat, 0, x6_1⟩ : S35)]) x6_3) else (none)) else (some (([] : List (S35)), x6_1, 30)))) else (none)) else (none)) else (none))) = some (r1, r2, r3) := H
                 have A30 := Aside0.mk A300
                 clear A300
                 by_cases c31 : t222 = true
                 ·subst c31
                  have H1 : (fastiref03_Lex.l2 k3 a0 x5_1 (wrap64 (x6_3 + 1)) x6_1) = some (r1, r2, r3) := by rw [if_pos rfl] at H; exact H
                  clear H
                  have H := H1
                  clear H1
                  have H' := Aside0.mk H
                  clear H
                  have p29 : 0 ≤ (x6_3 : Int) := of_decide_eq_true (by first | (with_reducible assumption) | assumption)
                  have q29 : x6_3 < (a0.size : Int) := of_decide_eq_true (by first | (with_reducible assumption) | assumption)
                  have hx29 := bt_at a0 x6_3
                  replace p29 := eq_true p29
                  replace q29 := eq_true q29
                  go_wp2_with (first | (go_at_call 32; (with_reducible refine (fastiref03_part.calls (bt a0 x6_3) true _ A30.out).mono ?_); rintro e w' ⟨rfl, ⟨nd, rfl⟩⟩))
                  go_roundg k3
                  case measure => have := HK1.out; have := HJ9.out; have := HK3.out; omega
                  case rel => exact ⟨(wrap64 (x6_3 + 1)), (by first | rfl | (simp; done) | (simp [*]; done)), H', ⟨by have := HK1.out; have := HJ9.out; have := HK3.out; omega⟩, ⟨by (with_reducible repeat (first | apply Kd.R_alloc | apply Kd.R_drewN | apply Kd.R_drew)); exact HO_5.out⟩, ⟨by repeat (first | (with_reducible first | exact HB.out | apply below_alloc | apply pw_below_drewN | apply below_drew1) | exact HB.out)⟩⟩
                 ·replace c31 := Bool.eq_false_iff.mpr c31
                  subst c31
                  have H1 : (if 0 ≤ x6_1 then (if x6_1 ≤ x6_3 then (if x6_3 ≤ (a0.size : Int) then ((fastiref03_Name.f k3 (a0.extract (x6_1 : Int).toNat (x6_3 : Int).toNat)).bind fun t223 => (if t223 = true then (if x5_1.length < 3518437208883 then (fastiref03_Lex.l0 k3 a0 (x5_1 ++ [(⟨1, a0.extract (x6_1 : Int).toNat (x6_3 : Int).toNat, 0, x6_1⟩ : S35)]) x6_3) else (none)) else (some (([] : List (S35)), x6_1, 30)))) else (none)) else (none)) else (none)) = some (r1, r2, r3) := by rw [if_neg (show ¬ (false = true) by decide)] at H; exact H
                  clear H
                  have H := H1
                  clear H1
                  by_cases c32 : 0 ≤ x6_1
                  ·rw [if_pos c32] at H
                   have c32b0 := eq_true c32
                   have c32b1 : decide (0 ≤ x6_1) = true := decide_eq_true c32
                   clear c32
                   by_cases c33 : x6_1 ≤ x6_3
                   ·rw [if_pos c33] at H
                    have c33b0 := eq_true c33
                    have c33b1 : decide (x6_1 ≤ x6_3) = true := decide_eq_true c33
                    clear c33
                    by_cases c34 : x6_3 ≤ (a0.size : Int)
                    ·rw [if_pos c34] at H
                     have c34b0 := eq_true c34
                     have c34b1 : decide (x6_3 ≤ (a0.size : Int)) = true := decide_eq_true c34
                     clear c34
                     replace H := Option.bind_eq_some_iff.mp H
                     obtain ⟨t223, A350, H⟩ := H
                     replace H : (if t223 = true then (if x5_1.length < 3518437208883 then (fastiref03_Lex.l0 k3 a0 (x5_1 ++ [(⟨1, a0.extract (x6_1 : Int).toNat (x6_3 : Int).toNat, 0, x6_1⟩ : S35)]) x6_3) else (none)) else (some (([] : List (S35)), x6_1, 30))) = some (r1, r2, r3) := H
                     have A35 := Aside0.mk A350
                     clear A350
                     by_cases c36 : t223 = true
                     ·subst c36
                      have H1 : (if x5_1.length < 3518437208883 then (fastiref03_Lex.l0 k3 a0 (x5_1 ++ [(⟨1, a0.extract (x6_1 : Int).toNat (x6_3 : Int).toNat, 0, x6_1⟩ : S35)]) x6_3) else (none)) = some (r1, r2, r3) := by rw [if_pos rfl] at H; exact H
                      clear H
                      have H := H1
                      clear H1
                      have c37b0 := eq_true (of_decide_eq_true (by first | (with_reducible assumption) | assumption) : 0 ≤ x6_1)
                      have c38b0 := eq_true (of_decide_eq_true (by first | (with_reducible assumption) | assumption) : x6_1 ≤ x6_3)
                      have c39b0 := eq_true (of_decide_eq_true (by first | (with_reducible assumption) | assumption) : x6_3 ≤ (a0.size : Int))
                      by_cases c40 : x5_1.length < 3518437208883
                      ·rw [if_pos c40] at H
                       have LMc40 := Aside0.mk c40
                       clear c40
                       obtain ⟨y224, hy224⟩ : ∃ y_ : List (S35), y_ = (x5_1 ++ [(⟨1, a0.extract (x6_1 : Int).toNat (x6_3 : Int).toNat, 0, x6_1⟩ : S35)]) := ⟨_, rfl⟩
                       replace H : (fastiref03_Lex.l0 k3 a0 y224 x6_3) = some (r1, r2, r3) := by first | (rw [hy224]; with_reducible exact H) | (have H2_ := (Option.bind_some _ _).symm.trans H; rw [hy224]; with_reducible exact H2_) | (have H2_ := (Option.bind_some _ _).symm.trans H; with_reducible exact H2_) | with_reducible exact H | (rw [hy224]; exact H) | exact H
                       have Ny224 := Aside0.mk hy224
                       clear hy224
                       have H' := Aside0.mk H
                       clear H
                       have p29 : 0 ≤ (x6_3 : Int) := of_decide_eq_true (by first | (with_reducible assumption) | assumption)
                       have q29 : x6_3 < (a0.size : Int) := of_decide_eq_true (by first | (with_reducible assumption) | assumption)
                       have hx29 := bt_at a0 x6_3
                       replace p29 := eq_true p29
                       replace q29 := eq_true q29
                       go_wp2_with (first | (go_at_call 32; (with_reducible refine (fastiref03_part.calls (bt a0 x6_3) false _ A30.out).mono ?_); rintro e w' ⟨rfl, ⟨nd, rfl⟩⟩) | ((with_reducible refine gate_callee (f := 21) rfl ?_); refine goesL_ (some 75) rfl rfl Tryd.func21 (by kernel_rfl) rfl #[.string (a0.extract (x6_1 : Int).toNat (x6_3 : Int).toNat)] rfl (by (try simp only [List.map_toArray, List.map_cons, List.map_nil]); first | done | rfl | (simp only [List.length_drop, List.length_take]; rfl)) ?_; (with_reducible refine (fastiref03_Name.calls k3 (a0.extract (x6_1 : Int).toNat (x6_3 : Int).toNat) true _ A35.out).mono ?_); rintro e w' ⟨rfl, ⟨nd, rfl⟩⟩; refine ⟨_, rfl, ?_⟩) | ((with_reducible refine gate_builtin (b := .append) (xs := #[.tmp 78, .tmp 85]) rfl ?_); (try (refine gate_guard (by rfl) ?_; dsimp only)); at_builtin; refine Kd.R_append k35 (w0 := w) w.heap.size rfl (.tmp 78) (.tmp 85) 23 35 (.agg #[(.int .i64 0), (.string ⟨#[]⟩), (.int .i64 0), (.int .i64 0)]) 40 rfl Tryd.underlying23 info35 rfl (by decide) (by omega) u5 x5_1 (⟨1, a0.extract (x6_1 : Int).toNat (x6_3 : Int).toNat, 0, x6_1⟩ : S35) [.int .i64 1, .string (a0.extract (x6_1 : Int).toNat (x6_3 : Int).toNat), .int .i64 0, .int .i64 x6_1] (fun _ => True) (fun _ => False) rfl rfl ?aP (fun _ hk => hk.elim) ?aF ?aO ?aB ?aS ?aL ?_; (case aP => exact k35_mkM _ _ _ (⟨1, a0.extract (x6_1 : Int).toNat (x6_3 : Int).toNat, 0, x6_1⟩ : S35)); (case aB => exact (by repeat (first | (with_reducible first | exact HB.out | apply below_alloc | apply pw_below_drewN | apply below_drew1) | exact HB.out))); (case aF => exact (fun _ _ => trivial)); (case aO => exact (by (with_reducible repeat (first | apply Kd.R_alloc | apply Kd.R_drewN | apply Kd.R_drew)); exact HO_5.out)); (case aS => exact (below_size (by repeat (first | (with_reducible first | exact HB.out | apply below_alloc | apply pw_below_drewN | apply below_drew1) | exact HB.out)))); (case aL => have := LMc40.out; omega); intro v225 w41 ho hb hg hat; rw [← Ny224.out] at ho; have n0_ := Aside0.mk (hb); have n1_ := Aside0.mk (ho); clear HB; clear HO_5; have HB := n0_; have HO226 := n1_; clear n0_ n1_; clear ho hb hg hat))
                       go_roundg k3
                       case measure => have := HK1.out; have := HJ9.out; have := HK3.out; omega
                       case rel => exact ⟨(y224), (x6_3), (by first | rfl | (simp; done) | (simp [*]; done)), H', ⟨by have := HK1.out; have := HJ9.out; have := HK3.out; omega⟩, ⟨by (with_reducible repeat (first | apply Kd.R_alloc | apply Kd.R_drewN | apply Kd.R_drew)); exact HO226.out⟩, ⟨by repeat (first | (with_reducible first | exact HB.out | apply below_alloc | apply pw_below_drewN | apply below_drew1) | exact HB.out)⟩⟩
                      ·rw [if_neg c40] at H
                       exact absurd H (by simp)
                     ·replace c36 := Bool.eq_false_iff.mpr c36
                      subst c36
                      have H1 : (some (([] : List (S35)), x6_1, 30)) = some (r1, r2, r3) := by rw [if_neg (show ¬ (false = true) by decide)] at H; exact H
                      clear H
                      have H := H1
                      clear H1
                      simp only [Option.some.injEq, Prod.mk.injEq] at H
                      obtain ⟨rfl, rfl, rfl⟩ := H
                      have p29 : 0 ≤ (x6_3 : Int) := of_decide_eq_true (by first | (with_reducible assumption) | assumption)
                      have q29 : x6_3 < (a0.size : Int) := of_decide_eq_true (by first | (with_reducible assumption) | assumption)
                      have hx29 := bt_at a0 x6_3
                      replace p29 := eq_true p29
                      replace q29 := eq_true q29
                      go_wp2_with (first | (go_at_call 32; (with_reducible refine (fastiref03_part.calls (bt a0 x6_3) false _ A30.out).mono ?_); rintro e w' ⟨rfl, ⟨nd, rfl⟩⟩) | ((with_reducible refine gate_callee (f := 21) rfl ?_); refine goesL_ (some 75) rfl rfl Tryd.func21 (by kernel_rfl) rfl #[.string (a0.extract (x6_1 : Int).toNat (x6_3 : Int).toNat)] rfl (by (try simp only [List.map_toArray, List.map_cons, List.map_nil]); first | done | rfl | (simp only [List.length_drop, List.length_take]; rfl)) ?_; (with_reducible refine (fastiref03_Name.calls k3 (a0.extract (x6_1 : Int).toNat (x6_3 : Int).toNat) false _ A35.out).mono ?_); rintro e w' ⟨rfl, ⟨nd, rfl⟩⟩; refine ⟨_, rfl, ?_⟩))
                      go_ret3
                      exact ⟨_, by first | rfl | (simp [errW_none, errW_some] <;> rfl) | (simp [*, errW_none, errW_some] <;> rfl), by first | exact Kd.R_nil _ _ _ _ _ | exact Kd.N_nil _ _ _ _ _ | exact Kd.V_nil _ _ _ _ _ | exact Kd.Q_nil _ _ _ _ _ | exact Kd.S_nil _ _ _ _ _, by repeat (first | (with_reducible first | exact HB.out | apply below_alloc | apply pw_below_drewN | apply below_drew1) | exact HB.out)⟩
                    ·rw [if_neg c34] at H
                     exact absurd H (by simp)
                   ·rw [if_neg c33] at H
                    exact absurd H (by simp)
                  ·rw [if_neg c32] at H
                   exact absurd H (by simp)
                ·rw [if_neg c28] at H
                 exact absurd H (by simp)
               ·rw [if_neg c27] at H
                have c27b0 : decide (x6_3 < (a0.size : Int)) = false := decide_eq_false c27
                clear c27
                by_cases c42 : 0 ≤ x6_1
                ·rw [if_pos c42] at H
                 have c42b0 := eq_true c42
                 have c42b1 : decide (0 ≤ x6_1) = true := decide_eq_true c42
                 clear c42
                 by_cases c43 : x6_1 ≤ x6_3
                 ·rw [if_pos c43] at H
                  have c43b0 := eq_true c43
                  have c43b1 : decide (x6_1 ≤ x6_3) = true := decide_eq_true c43
                  clear c43
                  by_cases c44 : x6_3 ≤ (a0.size : Int)
                  ·rw [if_pos c44] at H
                   have c44b0 := eq_true c44
                   have c44b1 : decide (x6_3 ≤ (a0.size : Int)) = true := decide_eq_true c44
                   clear c44
                   replace H := Option.bind_eq_some_iff.mp H
                   obtain ⟨t227, A450, H⟩ := H
                   replace H : (if t227 = true then (if x5_1.length < 3518437208883 then (fastiref03_Lex.l0 k3 a0 (x5_1 ++ [(⟨1, a0.extract (x6_1 : Int).toNat (x6_3 : Int).toNat, 0, x6_1⟩ : S35)]) x6_3) else (none)) else (some (([] : List (S35)), x6_1, 30))) = some (r1, r2, r3) := H
                   have A45 := Aside0.mk A450
                   clear A450
                   by_cases c46 : t227 = true
                   ·subst c46
                    have H1 : (if x5_1.length < 3518437208883 then (fastiref03_Lex.l0 k3 a0 (x5_1 ++ [(⟨1, a0.extract (x6_1 : Int).toNat (x6_3 : Int).toNat, 0, x6_1⟩ : S35)]) x6_3) else (none)) = some (r1, r2, r3) := by rw [if_pos rfl] at H; exact H
                    clear H
                    have H := H1
                    clear H1
                    have c47b0 := eq_true (of_decide_eq_true (by first | (with_reducible assumption) | assumption) : 0 ≤ x6_1)
                    have c48b0 := eq_true (of_decide_eq_true (by first | (with_reducible assumption) | assumption) : x6_1 ≤ x6_3)
                    have c49b0 := eq_true (of_decide_eq_true (by first | (with_reducible assumption) | assumption) : x6_3 ≤ (a0.size : Int))
                    by_cases c50 : x5_1.length < 3518437208883
                    ·rw [if_pos c50] at H
                     have LMc50 := Aside0.mk c50
                     clear c50
                     obtain ⟨y228, hy228⟩ : ∃ y_ : List (S35), y_ = (x5_1 ++ [(⟨1, a0.extract (x6_1 : Int).toNat (x6_3 : Int).toNat, 0, x6_1⟩ : S35)]) := ⟨_, rfl⟩
                     replace H : (fastiref03_Lex.l0 k3 a0 y228 x6_3) = some (r1, r2, r3) := by first | (rw [hy228]; with_reducible exact H) | (have H2_ := (Option.bind_some _ _).symm.trans H; rw [hy228]; with_reducible exact H2_) | (have H2_ := (Option.bind_some _ _).symm.trans H; with_reducible exact H2_) | with_reducible exact H | (rw [hy228]; exact H) | exact H
                     have Ny228 := Aside0.mk hy228
                     clear hy228
                     have H' := Aside0.mk H
                     clear H
                     go_wp2_with (first | ((with_reducible refine gate_callee (f := 21) rfl ?_); refine goesL_ (some 75) rfl rfl Tryd.func21 (by kernel_rfl) rfl #[.string (a0.extract (x6_1 : Int).toNat (x6_3 : Int).toNat)] rfl (by (try simp only [List.map_toArray, List.map_cons, List.map_nil]); first | done | rfl | (simp only [List.length_drop, List.length_take]; rfl)) ?_; (with_reducible refine (fastiref03_Name.calls k3 (a0.extract (x6_1 : Int).toNat (x6_3 : Int).toNat) true _ A45.out).mono ?_); rintro e w' ⟨rfl, ⟨nd, rfl⟩⟩; refine ⟨_, rfl, ?_⟩) | ((with_reducible refine gate_builtin (b := .append) (xs := #[.tmp 78, .tmp 85]) rfl ?_); (try (refine gate_guard (by rfl) ?_; dsimp only)); at_builtin; refine Kd.R_append k35 (w0 := w) w.heap.size rfl (.tmp 78) (.tmp 85) 23 35 (.agg #[(.int .i64 0), (.string ⟨#[]⟩), (.int .i64 0), (.int .i64 0)]) 40 rfl Tryd.underlying23 info35 rfl (by decide) (by omega) u5 x5_1 (⟨1, a0.extract (x6_1 : Int).toNat (x6_3 : Int).toNat, 0, x6_1⟩ : S35) [.int .i64 1, .string (a0.extract (x6_1 : Int).toNat (x6_3 : Int).toNat), .int .i64 0, .int .i64 x6_1] (fun _ => True) (fun _ => False) rfl rfl ?aP (fun _ hk => hk.elim) ?aF ?aO ?aB ?aS ?aL ?_; (case aP => exact k35_mkM _ _ _ (⟨1, a0.extract (x6_1 : Int).toNat (x6_3 : Int).toNat, 0, x6_1⟩ : S35)); (case aB => exact (by repeat (first | (with_reducible first | exact HB.out | apply below_alloc | apply pw_below_drewN | apply below_drew1) | exact HB.out))); (case aF => exact (fun _ _ => trivial)); (case aO => exact (by (with_reducible repeat (first | apply Kd.R_alloc | apply Kd.R_drewN | apply Kd.R_drew)); exact HO_5.out)); (case aS => exact (below_size (by repeat (first | (with_reducible first | exact HB.out | apply below_alloc | apply pw_below_drewN | apply below_drew1) | exact HB.out)))); (case aL => have := LMc50.out; omega); intro v229 w51 ho hb hg hat; rw [← Ny228.out] at ho; have n0_ := Aside0.mk (hb); have n1_ := Aside0.mk (ho); clear HB; clear HO_5; have HB := n0_; have HO230 := n1_; clear n0_ n1_; clear ho hb hg hat))
                     go_roundg k3
                     case measure => have := HK1.out; have := HJ9.out; have := HK3.out; omega
                     case rel => exact ⟨(y228), (x6_3), (by first | rfl | (simp; done) | (simp [*]; done)), H', ⟨by have := HK1.out; have := HJ9.out; have := HK3.out; omega⟩, ⟨by (with_reducible repeat (first | apply Kd.R_alloc | apply Kd.R_drewN | apply Kd.R_drew)); exact HO230.out⟩, ⟨by repeat (first | (with_reducible first | exact HB.out | apply below_alloc | apply pw_below_drewN | apply below_drew1) | exact HB.out)⟩⟩
                    ·rw [if_neg c50] at H
                     exact absurd H (by simp)
                   ·replace c46 := Bool.eq_false_iff.mpr c46
                    subst c46
                    have H1 : (some (([] : List (S35)), x6_1, 30)) = some (r1, r2, r3) := by rw [if_neg (show ¬ (false = true) by decide)] at H; exact H
                    clear H
                    have H := H1
                    clear H1
                    simp only [Option.some.injEq, Prod.mk.injEq] at H
                    obtain ⟨rfl, rfl, rfl⟩ := H
                    go_wp2_with (first | ((with_reducible refine gate_callee (f := 21) rfl ?_); refine goesL_ (some 75) rfl rfl Tryd.func21 (by kernel_rfl) rfl #[.string (a0.extract (x6_1 : Int).toNat (x6_3 : Int).toNat)] rfl (by (try simp only [List.map_toArray, List.map_cons, List.map_nil]); first | done | rfl | (simp only [List.length_drop, List.length_take]; rfl)) ?_; (with_reducible refine (fastiref03_Name.calls k3 (a0.extract (x6_1 : Int).toNat (x6_3 : Int).toNat) false _ A45.out).mono ?_); rintro e w' ⟨rfl, ⟨nd, rfl⟩⟩; refine ⟨_, rfl, ?_⟩))
                    go_ret3
                    exact ⟨_, by first | rfl | (simp [errW_none, errW_some] <;> rfl) | (simp [*, errW_none, errW_some] <;> rfl), by first | exact Kd.R_nil _ _ _ _ _ | exact Kd.N_nil _ _ _ _ _ | exact Kd.V_nil _ _ _ _ _ | exact Kd.Q_nil _ _ _ _ _ | exact Kd.S_nil _ _ _ _ _, by repeat (first | (with_reducible first | exact HB.out | apply below_alloc | apply pw_below_drewN | apply below_drew1) | exact HB.out)⟩
                  ·rw [if_neg c44] at H
                   exact absurd H (by simp)
                 ·rw [if_neg c43] at H
                  exact absurd H (by simp)
                ·rw [if_neg c42] at H
                 exact absurd H (by simp)
            ·replace c26 := Bool.eq_false_iff.mpr c26
             subst c26
             have H1 : ((fastiref03_Figure.f (bt a0 x6_1)).bind fun t231 => (if t231 = true then (fastiref03_Lex.l3 kj9 a0 x5_1 x6_1 x6_1) else ((fastiref03_Sign.f kj9 (bt a0 x6_1)).bind fun t238 => (if t238 = true then (if 0 ≤ x6_1 then (if x6_1 ≤ (wrap64 (x6_1 + 1)) then (if (wrap64 (x6_1 + 1)) ≤ (a0.size : Int) then (if x5_1.length < 3518437208883 then (fastiref03_Lex.l0 kj9 a0 (x5_1 ++ [(⟨3, a0.extract (x6_1 : Int).toNat ((wrap64 (x6_1 + 1)) : Int).toNat, 0, x6_1⟩ : S35)]) (wrap64 (x6_1 + 1))) else (none)) else (none)) else (none)) else (none)) else (some (([] : List (S35)), x6_1, 30)))))) = some (r1, r2, r3) := by rw [if_neg (show ¬ (false = true) by decide)] at H; exact H
             clear H
             have H := H1
             clear H1
             replace H := Option.bind_eq_some_iff.mp H
             obtain ⟨t231, A530, H⟩ := H
             replace H : (if t231 = true then (fastiref03_Lex.l3 kj9 a0 x5_1 x6_1 x6_1) else ((fastiref03_Sign.f kj9 (bt a0 x6_1)).bind fun t238 => (if t238 = true then (if 0 ≤ x6_1 then (if x6_1 ≤ (wrap64 (x6_1 + 1)) then (if (wrap64 (x6_1 + 1)) ≤ (a0.size : Int) then (if x5_1.length < 3518437208883 then (fastiref03_Lex.l0 kj9 a0 (x5_1 ++ [(⟨3, a0.extract (x6_1 : Int).toNat ((wrap64 (x6_1 + 1)) : Int).toNat, 0, x6_1⟩ : S35)]) (wrap64 (x6_1 + 1))) else (none)) else (none)) else (none)) else (none)) else (some (([] : List (S35)), x6_1, 30))))) = some (r1, r2, r3) := H
             have A53 := Aside0.mk A530
             clear A530
             by_cases c54 : t231 = true
             ·subst c54
              have H1 : (fastiref03_Lex.l3 kj9 a0 x5_1 x6_1 x6_1) = some (r1, r2, r3) := by rw [if_pos rfl] at H; exact H
              clear H
              have H := H1
              clear H1
              have HC55 := Aside0.mk H
              clear H
              have p24 : 0 ≤ (x6_1 : Int) := of_decide_eq_true (by first | (with_reducible assumption) | assumption)
              have q24 : x6_1 < (a0.size : Int) := of_decide_eq_true (by first | (with_reducible assumption) | assumption)
              have hx24 := bt_at a0 x6_1
              replace p24 := eq_true p24
              replace q24 := eq_true q24
              go_upto_block 6 with (first | ((with_reducible refine gate_callee (f := 31) rfl ?_); refine goesL_ (some 58) rfl rfl Tryd.func31 (by kernel_rfl) rfl #[.int .u8 (bt a0 x6_1)] rfl (by (try simp only [List.map_toArray, List.map_cons, List.map_nil]); first | done | rfl | (simp only [List.length_drop, List.length_take]; rfl)) ?_; (with_reducible refine (fastiref03_Letter.calls (bt a0 x6_1) false _ A25.out).mono ?_); rintro e w' ⟨rfl, ⟨nd, rfl⟩⟩; refine ⟨_, rfl, ?_⟩; have p52 : 0 ≤ (x6_1 : Int) := of_decide_eq_true (by first | (with_reducible assumption) | assumption); have q52 : x6_1 < (a0.size : Int) := of_decide_eq_true (by first | (with_reducible assumption) | assumption); have hx52 := bt_at a0 x6_1; replace p52 := eq_true p52; replace q52 := eq_true q52) | ((with_reducible refine gate_callee (f := 33) rfl ?_); refine goesL_ (some 90) rfl rfl Tryd.func33 (by kernel_rfl) rfl #[.int .u8 (bt a0 x6_1)] rfl (by (try simp only [List.map_toArray, List.map_cons, List.map_nil]); first | done | rfl | (simp only [List.length_drop, List.length_take]; rfl)) ?_; (with_reducible refine (fastiref03_Figure.calls (bt a0 x6_1) true _ A53.out).mono ?_); rintro e w' ⟨rfl, ⟨nd, rfl⟩⟩; refine ⟨_, rfl, ?_⟩))
              (try simp only [Act.put, List.setIfInBounds_toArray, List.set_cons_zero, List.set_cons_succ])
              go_cut [6] (fun v6 wc => ∃ (kq : Nat) (x6_54 : Int), v6 = .int .i64 x6_54 ∧ Aside0 (fastiref03_Lex.j5 kq a0 x5_1 x6_54 x6_1 = some (r1, r2, r3)) ∧ Aside0 (kq ≤ kj9) ∧ Aside0 (Kd.R k35 35 wc w.heap.size (fun _ => True) u5 x5_1) ∧ Aside0 (Below w.heap.size w wc))
              case first =>
               have H := HC55.out
               clear HC55
               have H' := Aside0.mk H
               clear H
               go_wp2
               go_loopg [6] kj9 (fun kq v6 w' => ∃ (x6_3 : Int), v6 = .int .i64 x6_3 ∧ Aside0 (fastiref03_Lex.l3 kq a0 x5_1 x6_3 x6_1 = some (r1, r2, r3)) ∧ Aside0 (kq ≤ kj9) ∧ Aside0 (Kd.R k35 35 w' w.heap.size (fun _ => True) u5 x5_1) ∧ Aside0 (Below w.heap.size w w'))
               case atStart => exact ⟨(x6_1), (by first | rfl | (simp; done) | (simp [*]; done)), H', ⟨Nat.le_refl _⟩, ⟨by (with_reducible repeat (first | apply Kd.R_alloc | apply Kd.R_drewN | apply Kd.R_drew)); exact HO_5.out⟩, ⟨by repeat (first | (with_reducible first | exact HB.out | apply below_alloc | apply pw_below_drewN | apply below_drew1) | exact HB.out)⟩⟩
               case round =>
                clear H'
                try clear c1; try clear p1; try clear q1; try clear hx1; try clear c2; try clear c2b0; try clear c2b1; try clear p2; try clear q2; try clear hx2; try clear c3; try clear c4; try clear c5; try clear c5b0; try clear p5; try clear q5; try clear hx5; try clear c6; try clear c6b0; try clear p6; try clear p7; try clear q7; try clear hx7; try clear c9; try clear p11; try clear q11; try clear hx11; try clear c12; try clear c12b0; try clear c12b1; try clear c13; try clear c13b0; try clear c15; try clear c15b0; try clear p16; try clear q16; try clear hx16; try clear c17; try clear c18; try clear c18b0; try clear c19; try clear c19b0; try clear p20; try clear q20; try clear hx20; try clear c21; try clear c21b0; try clear c21b1; try clear c22; try clear c22b0; try clear c23; try clear c23b0; try clear p24; try clear q24; try clear hx24; try clear c26; try clear c27; try clear c27b0; try clear c28; try clear c28b0; try clear p29; try clear q29; try clear hx29; try clear c31; try clear c32; try clear c32b0; try clear c32b1; try clear c33; try clear c33b0; try clear c33b1; try clear c34; try clear c34b0; try clear c34b1; try clear c36; try clear c37; try clear c37b0; try clear c38; try clear c38b0; try clear c39; try clear c39b0; try clear c40; try clear c42; try clear c42b0; try clear c42b1; try clear c43; try clear c43b0; try clear c43b1; try clear c44; try clear c44b0; try clear c44b1; try clear c46; try clear c47; try clear c47b0; try clear c48; try clear c48b0; try clear c49; try clear c49b0; try clear c50; try clear p52; try clear q52; try clear hx52; try clear c54
                obtain ⟨x6_3, rfl, HA, HK3, HO_5, HB⟩ := hrel
                cases gk with
                | zero => exact absurd HA.out (by simp [fastiref03_Lex.l3])
                | succ k3 =>
                 have H := HA.out
                 clear HA
                 simp only [fastiref03_Lex.l3] at H
                 by_cases c56 : x6_3 < (a0.size : Int)
                 ·rw [if_pos c56] at H
                  have c56b0 : decide (x6_3 < (a0.size : Int)) = true := decide_eq_true c56
                  clear c56
                  (first | rw [c56b0] | (simp only [i64_w, i32_w]; rw [c56b0]) | skip)
                  by_cases c57 : 0 ≤ x6_3
                  ·rw [if_pos c57] at H
                   have c57b0 : decide (0 ≤ x6_3) = true := decide_eq_true c57
                   clear c57
                   replace H := Option.bind_eq_some_iff.mp H
                   obtain ⟨t232, A590, H⟩ := H
                   replace H : (if t232 = true then (fastiref03_Lex.l3 k3 a0 x5_1 (wrap64 (x6_3 + 1)) x6_1) else (fastiref03_Lex.j5 k3 a0 x5_1 x6_3 x6_1)) = some (r1, r2, r3) := H
                   have A59 := Aside0.mk A590
                   clear A590
                   by_cases c60 : t232 = true
                   ·subst c60
                    have H1 : (fastiref03_Lex.l3 k3 a0 x5_1 (wrap64 (x6_3 + 1)) x6_1) = some (r1, r2, r3) := by rw [if_pos rfl] at H; exact H
                    clear H
                    have H := H1
                    clear H1
                    have H' := Aside0.mk H
                    clear H
                    have p58 : 0 ≤ (x6_3 : Int) := of_decide_eq_true (by first | (with_reducible assumption) | assumption)
                    have q58 : x6_3 < (a0.size : Int) := of_decide_eq_true (by first | (with_reducible assumption) | assumption)
                    have hx58 := bt_at a0 x6_3
                    replace p58 := eq_true p58
                    replace q58 := eq_true q58
                    go_wp2_with (first | (go_at_call 33; (with_reducible refine (fastiref03_Figure.calls (bt a0 x6_3) true _ A59.out).mono ?_); rintro e w' ⟨rfl, ⟨nd, rfl⟩⟩))
                    go_roundg k3
                    case measure => have := HK1.out; have := HJ9.out; have := HK3.out; omega
                    case rel => exact ⟨(wrap64 (x6_3 + 1)), (by first | rfl | (simp; done) | (simp [*]; done)), H', ⟨by have := HK1.out; have := HJ9.out; have := HK3.out; omega⟩, ⟨by (with_reducible repeat (first | apply Kd.R_alloc | apply Kd.R_drewN | apply Kd.R_drew)); exact HO_5.out⟩, ⟨by repeat (first | (with_reducible first | exact HB.out | apply below_alloc | apply pw_below_drewN | apply below_drew1) | exact HB.out)⟩⟩
                   ·replace c60 := Bool.eq_false_iff.mpr c60
                    subst c60
                    have H1 : (fastiref03_Lex.j5 k3 a0 x5_1 x6_3 x6_1) = some (r1, r2, r3) := by rw [if_neg (show ¬ (false = true) by decide)] at H; exact H
                    clear H
                    have H := H1
                    clear H1
                    have H' := Aside0.mk H
                    clear H
                    have p58 : 0 ≤ (x6_3 : Int) := of_decide_eq_true (by first | (with_reducible assumption) | assumption)
                    have q58 : x6_3 < (a0.size : Int) := of_decide_eq_true (by first | (with_reducible assumption) | assumption)
                    have hx58 := bt_at a0 x6_3
                    replace p58 := eq_true p58
                    replace q58 := eq_true q58
                    go_wp2_with (first | (go_at_call 33; (with_reducible refine (fastiref03_Figure.calls (bt a0 x6_3) false _ A59.out).mono ?_); rintro e w' ⟨rfl, ⟨nd, rfl⟩⟩))
                    go_meet
                    case rel => exact ⟨_, (x6_3), (by first | rfl | (simp; done) | (simp [*]; done)), H', ⟨by have := HK1.out; have := HJ9.out; have := HK3.out; first | omega | exact Nat.le_refl _⟩, ⟨by (with_reducible repeat (first | apply Kd.R_alloc | apply Kd.R_drewN | apply Kd.R_drew)); exact HO_5.out⟩, ⟨by repeat (first | (with_reducible first | exact HB.out | apply below_alloc | apply pw_below_drewN | apply below_drew1) | exact HB.out)⟩⟩
                  ·rw [if_neg c57] at H
                   exact absurd H (by simp)
                 ·rw [if_neg c56] at H
                  have c56b0 : decide (x6_3 < (a0.size : Int)) = false := decide_eq_false c56
                  clear c56
                  (first | rw [c56b0] | (simp only [i64_w, i32_w]; rw [c56b0]) | skip)
                  have H' := Aside0.mk H
                  clear H
                  go_wp2
                  go_meet
                  case rel => exact ⟨_, (x6_3), (by first | rfl | (simp; done) | (simp [*]; done)), H', ⟨by have := HK1.out; have := HJ9.out; have := HK3.out; first | omega | exact Nat.le_refl _⟩, ⟨by (with_reducible repeat (first | apply Kd.R_alloc | apply Kd.R_drewN | apply Kd.R_drew)); exact HO_5.out⟩, ⟨by repeat (first | (with_reducible first | exact HB.out | apply below_alloc | apply pw_below_drewN | apply below_drew1) | exact HB.out)⟩⟩
              case rest =>
               clear HC55
               try clear c1; try clear p1; try clear q1; try clear hx1; try clear c2; try clear c2b0; try clear c2b1; try clear p2; try clear q2; try clear hx2; try clear c3; try clear c4; try clear c5; try clear c5b0; try clear p5; try clear q5; try clear hx5; try clear c6; try clear c6b0; try clear p6; try clear p7; try clear q7; try clear hx7; try clear c9; try clear p11; try clear q11; try clear hx11; try clear c12; try clear c12b0; try clear c12b1; try clear c13; try clear c13b0; try clear c15; try clear c15b0; try clear p16; try clear q16; try clear hx16; try clear c17; try clear c18; try clear c18b0; try clear c19; try clear c19b0; try clear p20; try clear q20; try clear hx20; try clear c21; try clear c21b0; try clear c21b1; try clear c22; try clear c22b0; try clear c23; try clear c23b0; try clear p24; try clear q24; try clear hx24; try clear c26; try clear c27; try clear c27b0; try clear c28; try clear c28b0; try clear p29; try clear q29; try clear hx29; try clear c31; try clear c32; try clear c32b0; try clear c32b1; try clear c33; try clear c33b0; try clear c33b1; try clear c34; try clear c34b0; try clear c34b1; try clear c36; try clear c37; try clear c37b0; try clear c38; try clear c38b0; try clear c39; try clear c39b0; try clear c40; try clear c42; try clear c42b0; try clear c42b1; try clear c43; try clear c43b0; try clear c43b1; try clear c44; try clear c44b0; try clear c44b1; try clear c46; try clear c47; try clear c47b0; try clear c48; try clear c48b0; try clear c49; try clear c49b0; try clear c50; try clear p52; try clear q52; try clear hx52; try clear c54; try clear c56; try clear c56b0; try clear c57; try clear c57b0; try clear p58; try clear q58; try clear hx58; try clear c60
               obtain ⟨kq, x6_54, rfl, HA, HJ54, HO_5, HB⟩ := hcut
               cases kq with
               | zero => exact absurd HA.out (by simp [fastiref03_Lex.j5])
               | succ kj54 =>
                have H := HA.out
                clear HA
                simp only [fastiref03_Lex.j5] at H
                by_cases c61 : 0 ≤ x6_1
                ·rw [if_pos c61] at H
                 have c61b0 := eq_true c61
                 have c61b1 : decide (0 ≤ x6_1) = true := decide_eq_true c61
                 clear c61
                 by_cases c62 : x6_1 ≤ x6_54
                 ·rw [if_pos c62] at H
                  have c62b0 := eq_true c62
                  have c62b1 : decide (x6_1 ≤ x6_54) = true := decide_eq_true c62
                  clear c62
                  by_cases c63 : x6_54 ≤ (a0.size : Int)
                  ·rw [if_pos c63] at H
                   have c63b0 := eq_true c63
                   have c63b1 : decide (x6_54 ≤ (a0.size : Int)) = true := decide_eq_true c63
                   clear c63
                   replace H := Option.bind_eq_some_iff.mp H
                   obtain ⟨⟨t233, t234⟩, A640, H⟩ := H
                   replace H : (if t234 = true then (if x5_1.length < 3518437208883 then (fastiref03_Lex.l0 kj54 a0 (x5_1 ++ [(⟨2, (⟨#[]⟩ : ByteArray), t233, x6_1⟩ : S35)]) x6_54) else (none)) else (some (([] : List (S35)), x6_1, 30))) = some (r1, r2, r3) := H
                   have A64 := Aside0.mk A640
                   clear A640
                   by_cases c65 : t234 = true
                   ·subst c65
                    have H1 : (if x5_1.length < 3518437208883 then (fastiref03_Lex.l0 kj54 a0 (x5_1 ++ [(⟨2, (⟨#[]⟩ : ByteArray), t233, x6_1⟩ : S35)]) x6_54) else (none)) = some (r1, r2, r3) := by rw [if_pos rfl] at H; exact H
                    clear H
                    have H := H1
                    clear H1
                    by_cases c66 : x5_1.length < 3518437208883
                    ·rw [if_pos c66] at H
                     have LMc66 := Aside0.mk c66
                     clear c66
                     obtain ⟨y235, hy235⟩ : ∃ y_ : List (S35), y_ = (x5_1 ++ [(⟨2, (⟨#[]⟩ : ByteArray), t233, x6_1⟩ : S35)]) := ⟨_, rfl⟩
                     replace H : (fastiref03_Lex.l0 kj54 a0 y235 x6_54) = some (r1, r2, r3) := by first | (rw [hy235]; with_reducible exact H) | (have H2_ := (Option.bind_some _ _).symm.trans H; rw [hy235]; with_reducible exact H2_) | (have H2_ := (Option.bind_some _ _).symm.trans H; with_reducible exact H2_) | with_reducible exact H | (rw [hy235]; exact H) | exact H
                     have Ny235 := Aside0.mk hy235
                     clear hy235
                     have H' := Aside0.mk H
                     clear H
                     go_wp2_with (first | ((with_reducible refine gate_callee (f := 34) rfl ?_); refine goesL_ (some 108) rfl rfl Tryd.func34 (by kernel_rfl) rfl #[.string (a0.extract (x6_1 : Int).toNat (x6_54 : Int).toNat)] rfl (by (try simp only [List.map_toArray, List.map_cons, List.map_nil]); first | done | rfl | (simp only [List.length_drop, List.length_take]; rfl)) ?_; (with_reducible refine (fastiref03_number.calls kj54 (a0.extract (x6_1 : Int).toNat (x6_54 : Int).toNat) t233 true _ A64.out).mono ?_); rintro e w' ⟨rfl, ⟨nd, rfl⟩⟩; refine ⟨_, rfl, ?_⟩) | ((with_reducible refine gate_builtin (b := .append) (xs := #[.tmp 114, .tmp 118]) rfl ?_); (try (refine gate_guard (by rfl) ?_; dsimp only)); at_builtin; refine Kd.R_append k35 (w0 := w) w.heap.size rfl (.tmp 114) (.tmp 118) 23 35 (.agg #[(.int .i64 0), (.string ⟨#[]⟩), (.int .i64 0), (.int .i64 0)]) 40 rfl Tryd.underlying23 info35 rfl (by decide) (by omega) u5 x5_1 (⟨2, (⟨#[]⟩ : ByteArray), t233, x6_1⟩ : S35) [.int .i64 2, .string (⟨#[]⟩ : ByteArray), .int .i64 t233, .int .i64 x6_1] (fun _ => True) (fun _ => False) rfl rfl ?aP (fun _ hk => hk.elim) ?aF ?aO ?aB ?aS ?aL ?_; (case aP => exact k35_mkM _ _ _ (⟨2, (⟨#[]⟩ : ByteArray), t233, x6_1⟩ : S35)); (case aB => exact (by repeat (first | (with_reducible first | exact HB.out | apply below_alloc | apply pw_below_drewN | apply below_drew1) | exact HB.out))); (case aF => exact (fun _ _ => trivial)); (case aO => exact (by (with_reducible repeat (first | apply Kd.R_alloc | apply Kd.R_drewN | apply Kd.R_drew)); exact HO_5.out)); (case aS => exact (below_size (by repeat (first | (with_reducible first | exact HB.out | apply below_alloc | apply pw_below_drewN | apply below_drew1) | exact HB.out)))); (case aL => have := LMc66.out; omega); intro v236 w67 ho hb hg hat; rw [← Ny235.out] at ho; have n0_ := Aside0.mk (hb); have n1_ := Aside0.mk (ho); clear HB; clear HO_5; have HB := n0_; have HO237 := n1_; clear n0_ n1_; clear ho hb hg hat))
                     go_roundg kj54
                     case measure => have := HK1.out; have := HJ9.out; have := HJ54.out; omega
                     case rel => exact ⟨(y235), (x6_54), (by first | rfl | (simp; done) | (simp [*]; done)), H', ⟨by have := HK1.out; have := HJ9.out; have := HJ54.out; omega⟩, ⟨by (with_reducible repeat (first | apply Kd.R_alloc | apply Kd.R_drewN | apply Kd.R_drew)); exact HO237.out⟩, ⟨by repeat (first | (with_reducible first | exact HB.out | apply below_alloc | apply pw_below_drewN | apply below_drew1) | exact HB.out)⟩⟩
                    ·rw [if_neg c66] at H
                     exact absurd H (by simp)
                   ·replace c65 := Bool.eq_false_iff.mpr c65
                    subst c65
                    have H1 : (some (([] : List (S35)), x6_1, 30)) = some (r1, r2, r3) := by rw [if_neg (show ¬ (false = true) by decide)] at H; exact H
                    clear H
                    have H := H1
                    clear H1
                    simp only [Option.some.injEq, Prod.mk.injEq] at H
                    obtain ⟨rfl, rfl, rfl⟩ := H
                    go_wp2_with (first | ((with_reducible refine gate_callee (f := 34) rfl ?_); refine goesL_ (some 108) rfl rfl Tryd.func34 (by kernel_rfl) rfl #[.string (a0.extract (x6_1 : Int).toNat (x6_54 : Int).toNat)] rfl (by (try simp only [List.map_toArray, List.map_cons, List.map_nil]); first | done | rfl | (simp only [List.length_drop, List.length_take]; rfl)) ?_; (with_reducible refine (fastiref03_number.calls kj54 (a0.extract (x6_1 : Int).toNat (x6_54 : Int).toNat) t233 false _ A64.out).mono ?_); rintro e w' ⟨rfl, ⟨nd, rfl⟩⟩; refine ⟨_, rfl, ?_⟩))
                    go_ret3
                    exact ⟨_, by first | rfl | (simp [errW_none, errW_some] <;> rfl) | (simp [*, errW_none, errW_some] <;> rfl), by first | exact Kd.R_nil _ _ _ _ _ | exact Kd.N_nil _ _ _ _ _ | exact Kd.V_nil _ _ _ _ _ | exact Kd.Q_nil _ _ _ _ _ | exact Kd.S_nil _ _ _ _ _, by repeat (first | (with_reducible first | exact HB.out | apply below_alloc | apply pw_below_drewN | apply below_drew1) | exact HB.out)⟩
                  ·rw [if_neg c63] at H
                   exact absurd H (by simp)
                 ·rw [if_neg c62] at H
                  exact absurd H (by simp)
                ·rw [if_neg c61] at H
                 exact absurd H (by simp)
             ·replace c54 := Bool.eq_false_iff.mpr c54
              subst c54
              have H1 : ((fastiref03_Sign.f kj9 (bt a0 x6_1)).bind fun t238 => (if t238 = true then (if 0 ≤ x6_1 then (if x6_1 ≤ (wrap64 (x6_1 + 1)) then (if (wrap64 (x6_1 + 1)) ≤ (a0.size : Int) then (if x5_1.length < 3518437208883 then (fastiref03_Lex.l0 kj9 a0 (x5_1 ++ [(⟨3, a0.extract (x6_1 : Int).toNat ((wrap64 (x6_1 + 1)) : Int).toNat, 0, x6_1⟩ : S35)]) (wrap64 (x6_1 + 1))) else (none)) else (none)) else (none)) else (none)) else (some (([] : List (S35)), x6_1, 30)))) = some (r1, r2, r3) := by rw [if_neg (show ¬ (false = true) by decide)] at H; exact H
              clear H
              have H := H1
              clear H1
              replace H := Option.bind_eq_some_iff.mp H
              obtain ⟨t238, A690, H⟩ := H
              replace H : (if t238 = true then (if 0 ≤ x6_1 then (if x6_1 ≤ (wrap64 (x6_1 + 1)) then (if (wrap64 (x6_1 + 1)) ≤ (a0.size : Int) then (if x5_1.length < 3518437208883 then (fastiref03_Lex.l0 kj9 a0 (x5_1 ++ [(⟨3, a0.extract (x6_1 : Int).toNat ((wrap64 (x6_1 + 1)) : Int).toNat, 0, x6_1⟩ : S35)]) (wrap64 (x6_1 + 1))) else (none)) else (none)) else (none)) else (none)) else (some (([] : List (S35)), x6_1, 30))) = some (r1, r2, r3) := H
              have A69 := Aside0.mk A690
              clear A690
              by_cases c70 : t238 = true
              ·subst c70
               have H1 : (if 0 ≤ x6_1 then (if x6_1 ≤ (wrap64 (x6_1 + 1)) then (if (wrap64 (x6_1 + 1)) ≤ (a0.size : Int) then (if x5_1.length < 3518437208883 then (fastiref03_Lex.l0 kj9 a0 (x5_1 ++ [(⟨3, a0.extract (x6_1 : Int).toNat ((wrap64 (x6_1 + 1)) : Int).toNat, 0, x6_1⟩ : S35)]) (wrap64 (x6_1 + 1))) else (none)) else (none)) else (none)) else (none)) = some (r1, r2, r3) := by rw [if_pos rfl] at H; exact H
               clear H
               have H := H1
               clear H1
               by_cases c71 : 0 ≤ x6_1
               ·rw [if_pos c71] at H
                have c71b0 := eq_true c71
                have c71b1 : decide (0 ≤ x6_1) = true := decide_eq_true c71
                clear c71
                by_cases c72 : x6_1 ≤ (wrap64 (x6_1 + 1))
                ·rw [if_pos c72] at H
                 have c72b0 := eq_true c72
                 have c72b1 : decide (x6_1 ≤ (wrap64 (x6_1 + 1))) = true := decide_eq_true c72
                 by_cases c73 : (wrap64 (x6_1 + 1)) ≤ (a0.size : Int)
                 ·rw [if_pos c73] at H
                  have c73b0 := eq_true c73
                  have c73b1 : decide ((wrap64 (x6_1 + 1)) ≤ (a0.size : Int)) = true := decide_eq_true c73
                  by_cases c74 : x5_1.length < 3518437208883
                  ·rw [if_pos c74] at H
                   have LMc74 := Aside0.mk c74
                   clear c74
                   obtain ⟨y239, hy239⟩ : ∃ y_ : List (S35), y_ = (x5_1 ++ [(⟨3, a0.extract (x6_1 : Int).toNat ((wrap64 (x6_1 + 1)) : Int).toNat, 0, x6_1⟩ : S35)]) := ⟨_, rfl⟩
                   replace H : (fastiref03_Lex.l0 kj9 a0 y239 (wrap64 (x6_1 + 1))) = some (r1, r2, r3) := by first | (rw [hy239]; with_reducible exact H) | (have H2_ := (Option.bind_some _ _).symm.trans H; rw [hy239]; with_reducible exact H2_) | (have H2_ := (Option.bind_some _ _).symm.trans H; with_reducible exact H2_) | with_reducible exact H | (rw [hy239]; exact H) | exact H
                   have Ny239 := Aside0.mk hy239
                   clear hy239
                   have H' := Aside0.mk H
                   clear H
                   have p24 : 0 ≤ (x6_1 : Int) := of_decide_eq_true (by first | (with_reducible assumption) | assumption)
                   have q24 : x6_1 < (a0.size : Int) := of_decide_eq_true (by first | (with_reducible assumption) | assumption)
                   have hx24 := bt_at a0 x6_1
                   replace p24 := eq_true p24
                   replace q24 := eq_true q24
                   go_wp2_with (first | ((with_reducible refine gate_callee (f := 31) rfl ?_); refine goesL_ (some 58) rfl rfl Tryd.func31 (by kernel_rfl) rfl #[.int .u8 (bt a0 x6_1)] rfl (by (try simp only [List.map_toArray, List.map_cons, List.map_nil]); first | done | rfl | (simp only [List.length_drop, List.length_take]; rfl)) ?_; (with_reducible refine (fastiref03_Letter.calls (bt a0 x6_1) false _ A25.out).mono ?_); rintro e w' ⟨rfl, ⟨nd, rfl⟩⟩; refine ⟨_, rfl, ?_⟩; have p52 : 0 ≤ (x6_1 : Int) := of_decide_eq_true (by first | (with_reducible assumption) | assumption); have q52 : x6_1 < (a0.size : Int) := of_decide_eq_true (by first | (with_reducible assumption) | assumption); have hx52 := bt_at a0 x6_1; replace p52 := eq_true p52; replace q52 := eq_true q52) | ((with_reducible refine gate_callee (f := 33) rfl ?_); refine goesL_ (some 90) rfl rfl Tryd.func33 (by kernel_rfl) rfl #[.int .u8 (bt a0 x6_1)] rfl (by (try simp only [List.map_toArray, List.map_cons, List.map_nil]); first | done | rfl | (simp only [List.length_drop, List.length_take]; rfl)) ?_; (with_reducible refine (fastiref03_Figure.calls (bt a0 x6_1) false _ A53.out).mono ?_); rintro e w' ⟨rfl, ⟨nd, rfl⟩⟩; refine ⟨_, rfl, ?_⟩; have p68 : 0 ≤ (x6_1 : Int) := of_decide_eq_true (by first | (with_reducible assumption) | assumption); have q68 : x6_1 < (a0.size : Int) := of_decide_eq_true (by first | (with_reducible assumption) | assumption); have hx68 := bt_at a0 x6_1; replace p68 := eq_true p68; replace q68 := eq_true q68) | ((with_reducible refine gate_callee (f := 35) rfl ?_); refine goesL_ (some 123) rfl rfl Tryd.func35 (by kernel_rfl) rfl #[.int .u8 (bt a0 x6_1)] rfl (by (try simp only [List.map_toArray, List.map_cons, List.map_nil]); first | done | rfl | (simp only [List.length_drop, List.length_take]; rfl)) ?_; (with_reducible refine (fastiref03_Sign.calls kj9 (bt a0 x6_1) true _ A69.out).mono ?_); rintro e w' ⟨rfl, ⟨nd, rfl⟩⟩; refine ⟨_, rfl, ?_⟩) | ((with_reducible refine gate_builtin (b := .append) (xs := #[.tmp 128, .tmp 135]) rfl ?_); (try (refine gate_guard (by rfl) ?_; dsimp only)); at_builtin; refine Kd.R_append k35 (w0 := w) w.heap.size rfl (.tmp 128) (.tmp 135) 23 35 (.agg #[(.int .i64 0), (.string ⟨#[]⟩), (.int .i64 0), (.int .i64 0)]) 40 rfl Tryd.underlying23 info35 rfl (by decide) (by omega) u5 x5_1 (⟨3, a0.extract (x6_1 : Int).toNat ((wrap64 (x6_1 + 1)) : Int).toNat, 0, x6_1⟩ : S35) [.int .i64 3, .string (a0.extract (x6_1 : Int).toNat ((wrap64 (x6_1 + 1)) : Int).toNat), .int .i64 0, .int .i64 x6_1] (fun _ => True) (fun _ => False) rfl rfl ?aP (fun _ hk => hk.elim) ?aF ?aO ?aB ?aS ?aL ?_; (case aP => exact k35_mkM _ _ _ (⟨3, a0.extract (x6_1 : Int).toNat ((wrap64 (x6_1 + 1)) : Int).toNat, 0, x6_1⟩ : S35)); (case aB => exact (by repeat (first | (with_reducible first | exact HB.out | apply below_alloc | apply pw_below_drewN | apply below_drew1) | exact HB.out))); (case aF => exact (fun _ _ => trivial)); (case aO => exact (by (with_reducible repeat (first | apply Kd.R_alloc | apply Kd.R_drewN | apply Kd.R_drew)); exact HO_5.out)); (case aS => exact (below_size (by repeat (first | (with_reducible first | exact HB.out | apply below_alloc | apply pw_below_drewN | apply below_drew1) | exact HB.out)))); (case aL => have := LMc74.out; omega); intro v240 w75 ho hb hg hat; rw [← Ny239.out] at ho; have n0_ := Aside0.mk (hb); have n1_ := Aside0.mk (ho); clear HB; clear HO_5; have HB := n0_; have HO241 := n1_; clear n0_ n1_; clear ho hb hg hat))
                   go_roundg kj9
                   case measure => have := HK1.out; have := HJ9.out; omega
                   case rel => exact ⟨(y239), (wrap64 (x6_1 + 1)), (by first | rfl | (simp; done) | (simp [*]; done)), H', ⟨by have := HK1.out; have := HJ9.out; omega⟩, ⟨by (with_reducible repeat (first | apply Kd.R_alloc | apply Kd.R_drewN | apply Kd.R_drew)); exact HO241.out⟩, ⟨by repeat (first | (with_reducible first | exact HB.out | apply below_alloc | apply pw_below_drewN | apply below_drew1) | exact HB.out)⟩⟩
                  ·rw [if_neg c74] at H
                   exact absurd H (by simp)
                 ·rw [if_neg c73] at H
                  exact absurd H (by simp)
                ·rw [if_neg c72] at H
                 exact absurd H (by simp)
               ·rw [if_neg c71] at H
                exact absurd H (by simp)
              ·replace c70 := Bool.eq_false_iff.mpr c70
               subst c70
               have H1 : (some (([] : List (S35)), x6_1, 30)) = some (r1, r2, r3) := by rw [if_neg (show ¬ (false = true) by decide)] at H; exact H
               clear H
               have H := H1
               clear H1
               simp only [Option.some.injEq, Prod.mk.injEq] at H
               obtain ⟨rfl, rfl, rfl⟩ := H
               have p24 : 0 ≤ (x6_1 : Int) := of_decide_eq_true (by first | (with_reducible assumption) | assumption)
               have q24 : x6_1 < (a0.size : Int) := of_decide_eq_true (by first | (with_reducible assumption) | assumption)
               have hx24 := bt_at a0 x6_1
               replace p24 := eq_true p24
               replace q24 := eq_true q24
               go_wp2_with (first | ((with_reducible refine gate_callee (f := 31) rfl ?_); refine goesL_ (some 58) rfl rfl Tryd.func31 (by kernel_rfl) rfl #[.int .u8 (bt a0 x6_1)] rfl (by (try simp only [List.map_toArray, List.map_cons, List.map_nil]); first | done | rfl | (simp only [List.length_drop, List.length_take]; rfl)) ?_; (with_reducible refine (fastiref03_Letter.calls (bt a0 x6_1) false _ A25.out).mono ?_); rintro e w' ⟨rfl, ⟨nd, rfl⟩⟩; refine ⟨_, rfl, ?_⟩; have p52 : 0 ≤ (x6_1 : Int) := of_decide_eq_true (by first | (with_reducible assumption) | assumption); have q52 : x6_1 < (a0.size : Int) := of_decide_eq_true (by first | (with_reducible assumption) | assumption); have hx52 := bt_at a0 x6_1; replace p52 := eq_true p52; replace q52 := eq_true q52) | ((with_reducible refine gate_callee (f := 33) rfl ?_); refine goesL_ (some 90) rfl rfl Tryd.func33 (by kernel_rfl) rfl #[.int .u8 (bt a0 x6_1)] rfl (by (try simp only [List.map_toArray, List.map_cons, List.map_nil]); first | done | rfl | (simp only [List.length_drop, List.length_take]; rfl)) ?_; (with_reducible refine (fastiref03_Figure.calls (bt a0 x6_1) false _ A53.out).mono ?_); rintro e w' ⟨rfl, ⟨nd, rfl⟩⟩; refine ⟨_, rfl, ?_⟩; have p68 : 0 ≤ (x6_1 : Int) := of_decide_eq_true (by first | (with_reducible assumption) | assumption); have q68 : x6_1 < (a0.size : Int) := of_decide_eq_true (by first | (with_reducible assumption) | assumption); have hx68 := bt_at a0 x6_1; replace p68 := eq_true p68; replace q68 := eq_true q68) | ((with_reducible refine gate_callee (f := 35) rfl ?_); refine goesL_ (some 123) rfl rfl Tryd.func35 (by kernel_rfl) rfl #[.int .u8 (bt a0 x6_1)] rfl (by (try simp only [List.map_toArray, List.map_cons, List.map_nil]); first | done | rfl | (simp only [List.length_drop, List.length_take]; rfl)) ?_; (with_reducible refine (fastiref03_Sign.calls kj9 (bt a0 x6_1) false _ A69.out).mono ?_); rintro e w' ⟨rfl, ⟨nd, rfl⟩⟩; refine ⟨_, rfl, ?_⟩))
               go_ret3
               exact ⟨_, by first | rfl | (simp [errW_none, errW_some] <;> rfl) | (simp [*, errW_none, errW_some] <;> rfl), by first | exact Kd.R_nil _ _ _ _ _ | exact Kd.N_nil _ _ _ _ _ | exact Kd.V_nil _ _ _ _ _ | exact Kd.Q_nil _ _ _ _ _ | exact Kd.S_nil _ _ _ _ _, by repeat (first | (with_reducible first | exact HB.out | apply below_alloc | apply pw_below_drewN | apply below_drew1) | exact HB.out)⟩
           ·rw [if_neg c23] at H
            exact absurd H (by simp)
          ·rw [if_neg c22] at H
           exact absurd H (by simp)
     ·rw [if_neg c6] at H
      exact absurd H (by simp)
    ·rw [if_neg c5] at H
     have c5b0 : decide (x6_1 < (a0.size : Int)) = false := decide_eq_false c5
     clear c5
     simp only [Option.some.injEq, Prod.mk.injEq] at H
     obtain ⟨rfl, rfl, rfl⟩ := H
     go_wp2
     go_ret3
     exact ⟨_, by first | rfl | (simp [errW_none, errW_some] <;> rfl) | (simp [*, errW_none, errW_some] <;> rfl), by (with_reducible repeat (first | apply Kd.R_alloc | apply Kd.R_drewN | apply Kd.R_drew)); exact HO_5.out, by repeat (first | (with_reducible first | exact HB.out | apply below_alloc | apply pw_below_drewN | apply below_drew1) | exact HB.out)⟩

end Go.Proofs.YtcckpmijdckocaaDoor.X
