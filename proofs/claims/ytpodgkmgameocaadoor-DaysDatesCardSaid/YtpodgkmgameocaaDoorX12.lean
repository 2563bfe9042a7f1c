/- Proved here: for functions of the program and of the reference, what each call returns (theorems '.calls'), under the conditions that each theorem names. Printed by this project's own driver over the kit's printer; parts marked EXT are written by hand. Lean checks it. -/
import Derived.Test.YtpodgkmgameocaaDoorX0
import Derived.Test.YtpodgkmgameocaaDoorX1
import Derived.Test.YtpodgkmgameocaaDoorX3
import Derived.Test.YtpodgkmgameocaaDoorX4
import Derived.Test.YtpodgkmgameocaaDoorX5
import Derived.Test.YtpodgkmgameocaaDoorX6
import Derived.Test.YtpodgkmgameocaaDoorX11b
namespace Go.Proofs.YtpodgkmgameocaaDoor.X
open Go.RowKit Go.Proofs.YtpodgkmgameocaaDoorW.PrintWords Go.Proofs.YtpodgkmgameocaaDoorW.PrintLast Go.Proofs.YtpodgkmgameocaaDoorW.PrintMore
attribute [local go_sem] max2_int min2_int max_two min_two max_three min_three max_four min_four   -- for this text's walks alone
set_option linter.unusedVariables false
set_option linter.unusedSimpArgs false

attribute [local go_sem high] eqA23
/-! ### fastilaw12_DaysDates: function 6 -/
mutual
def fastilaw12_DaysDates.j0 : Nat → Int → Int → Option (Bool)
 | 0, _, _ => none
 | k + 1, x0, x1 => if x0 < 0 then (fastilaw12_DaysDates.j1 k x0 x1 true) else (if x0 > 73048 then (fastilaw12_DaysDates.j1 k x0 x1 true) else (if x1 < 0 then (fastilaw12_DaysDates.j1 k x0 x1 true) else (fastilaw12_DaysDates.j1 k x0 x1 (decide (x1 > 73048)))))
def fastilaw12_DaysDates.j1 : Nat → Int → Int → Bool → Option (Bool)
 | 0, _, _, _ => none
 | k + 1, x0, x1, x65 => if x65 = true then (some true) else ((days_Of.f x0).bind fun bt186 => ((days_Of.f x1).bind fun bt191 => ((days_Number.f bt186.1 bt186.2.1 bt186.2.2.1).bind fun bt196 => (if bt186.2.2.2 = 0 then (if bt191.2.2.2 = 0 then (if bt196.2 = 0 then (if bt196.1 = x0 then ((fastilaw12_less.f bt186.1 bt186.2.1 bt186.2.2.1 bt191.1 bt191.2.1 bt191.2.2.1).bind fun t198 => (fastilaw12_DaysDates.j2 k x0 (t198 != (decide (x0 < x1))) bt186.1 bt186.2.1 bt186.2.2.1)) else (fastilaw12_DaysDates.j2 k x0 true bt186.1 bt186.2.1 bt186.2.2.1)) else (fastilaw12_DaysDates.j2 k x0 true bt186.1 bt186.2.1 bt186.2.2.1)) else (fastilaw12_DaysDates.j2 k x0 true bt186.1 bt186.2.1 bt186.2.2.1)) else (fastilaw12_DaysDates.j2 k x0 true bt186.1 bt186.2.1 bt186.2.2.1)))))
def fastilaw12_DaysDates.j2 : Nat → Int → Bool → Int → Int → Int → Option (Bool)
 | 0, _, _, _, _, _ => none
 | k + 1, x0, x104, x191000, x191001, x191002 => if x104 = true then (some false) else (if x0 = 73048 then (some (x191000 == 2199 && (x191001 == 12 && (x191002 == 31)))) else ((days_Of.f (wrap64 (x0 + 1))).bind fun bt199 => ((days_Weekday.f x0).bind fun bt204 => ((days_Weekday.f (wrap64 (x0 + 1))).bind fun bt206 => (if bt199.2.2.2 = 0 then (if bt204.2 = 0 then (if bt206.2 = 0 then (fastilaw12_DaysDates.j3 k (bt206.1 != (Int.tmod (wrap64 (bt204.1 + 1)) 7)) x191000 x191001 x191002 bt199.1 bt199.2.1 bt199.2.2.1) else (fastilaw12_DaysDates.j3 k true x191000 x191001 x191002 bt199.1 bt199.2.1 bt199.2.2.1)) else (fastilaw12_DaysDates.j3 k true x191000 x191001 x191002 bt199.1 bt199.2.1 bt199.2.2.1)) else (fastilaw12_DaysDates.j3 k true x191000 x191001 x191002 bt199.1 bt199.2.1 bt199.2.2.1))))))
def fastilaw12_DaysDates.j3 : Nat → Bool → Int → Int → Int → Int → Int → Int → Option (Bool)
 | 0, _, _, _, _, _, _, _ => none
 | k + 1, x143, x191000, x191001, x191002, x204000, x204001, x204002 => if x143 = true then (some false) else (if x204002 = 1 then (if x191001 < 12 then (if x204000 = x191000 then (if x204001 = (wrap64 (x191001 + 1)) then (some (decide (x191002 ≥ 28))) else (some false)) else (some false)) else (if x204000 = (wrap64 (x191000 + 1)) then (if x204001 = 1 then (some (x191002 == 31)) else (some false)) else (some false))) else (if x204000 = x191000 then (if x204001 = x191001 then (some (x204002 == (wrap64 (x191002 + 1)))) else (some false)) else (some false)))
end
def fastilaw12_DaysDates.f (k : Nat) (a0 : Int) (a1 : Int) (a2_0 : Int) (a2_1 : Int) (a2_2 : Int) : Option (Bool) := (fastilaw12_sane.f).bind fun t178 => (if t178 = true then ((days_Number.f a2_0 a2_1 a2_2).bind fun bt179 => (if bt179.2 = 0 then ((days_Of.f bt179.1).bind fun bt181 => (if bt181.2.2.2 = 0 then (if (!(bt181.1 == a2_0) || (!(bt181.2.1 == a2_1) || (!(bt181.2.2.1 == a2_2)))) = true then (some false) else (if bt179.1 < 0 then (some false) else (if bt179.1 > 73048 then (some false) else (fastilaw12_DaysDates.j0 k a0 a1)))) else (some false))) else (fastilaw12_DaysDates.j0 k a0 a1))) else (some false))
theorem fastilaw12_DaysDates.mono_l : ∀ k, (∀ y0 y1, LeO (fastilaw12_DaysDates.j0 k y0 y1) (fastilaw12_DaysDates.j0 (k + 1) y0 y1)) ∧ (∀ y0 y1 y2, LeO (fastilaw12_DaysDates.j1 k y0 y1 y2) (fastilaw12_DaysDates.j1 (k + 1) y0 y1 y2)) ∧ (∀ y0 y1 y2 y3 y4, LeO (fastilaw12_DaysDates.j2 k y0 y1 y2 y3 y4) (fastilaw12_DaysDates.j2 (k + 1) y0 y1 y2 y3 y4)) ∧ (∀ y0 y1 y2 y3 y4 y5 y6, LeO (fastilaw12_DaysDates.j3 k y0 y1 y2 y3 y4 y5 y6) (fastilaw12_DaysDates.j3 (k + 1) y0 y1 y2 y3 y4 y5 y6))
 | 0 => ⟨fun _ _ r h => by simp [fastilaw12_DaysDates.j0] at h, fun _ _ _ r h => by simp [fastilaw12_DaysDates.j1] at h, fun _ _ _ _ _ r h => by simp [fastilaw12_DaysDates.j2] at h, fun _ _ _ _ _ _ _ r h => by simp [fastilaw12_DaysDates.j3] at h⟩
 | k + 1 => by
  obtain ⟨ih0, ih1, ih2, ih3⟩ := fastilaw12_DaysDates.mono_l k
  refine ⟨?_, ?_, ?_, ?_⟩
  ·intro y0 y1
   unfold fastilaw12_DaysDates.j0
   repeat' first
   | (with_reducible exact ih0 _ _)
   | (with_reducible exact ih1 _ _ _)
   | (with_reducible exact ih2 _ _ _ _ _)
   | (with_reducible exact ih3 _ _ _ _ _ _ _)
   | (with_reducible exact LeO.refl _)
   | (with_reducible exact LeO.none _)
   | (with_reducible refine LeO.ite ?_ ?_)
   | (with_reducible refine LeO.bind ?_ (fun _ => ?_))
   | exact ih0 _ _
   | exact ih1 _ _ _
   | exact ih2 _ _ _ _ _
   | exact ih3 _ _ _ _ _ _ _
   | exact LeO.none _
   | refine LeO.ite ?_ ?_
   | refine LeO.bind ?_ (fun _ => ?_)
  ·intro y0 y1 y2
   unfold fastilaw12_DaysDates.j1
   repeat' first
   | (with_reducible exact ih0 _ _)
   | (with_reducible exact ih1 _ _ _)
   | (with_reducible exact ih2 _ _ _ _ _)
   | (with_reducible exact ih3 _ _ _ _ _ _ _)
   | (with_reducible exact LeO.refl _)
   | (with_reducible exact LeO.none _)
   | (with_reducible refine LeO.ite ?_ ?_)
   | (with_reducible refine LeO.bind ?_ (fun _ => ?_))
   | exact ih0 _ _
   | exact ih1 _ _ _
   | exact ih2 _ _ _ _ _
   | exact ih3 _ _ _ _ _ _ _
   | exact LeO.none _
   | refine LeO.ite ?_ ?_
   | refine LeO.bind ?_ (fun _ => ?_)
  ·intro y0 y1 y2 y3 y4
   unfold fastilaw12_DaysDates.j2
   repeat' first
   | (with_reducible exact ih0 _ _)
   | (with_reducible exact ih1 _ _ _)
   | (with_reducible exact ih2 _ _ _ _ _)
   | (with_reducible exact ih3 _ _ _ _ _ _ _)
   | (with_reducible exact LeO.refl _)
   | (with_reducible exact LeO.none _)
   | (with_reducible refine LeO.ite ?_ ?_)
   | (with_reducible refine LeO.bind ?_ (fun _ => ?_))
   | exact ih0 _ _
   | exact ih1 _ _ _
   | exact ih2 _ _ _ _ _
   | exact ih3 _ _ _ _ _ _ _
   | exact LeO.none _
   | refine LeO.ite ?_ ?_
   | refine LeO.bind ?_ (fun _ => ?_)
  ·intro y0 y1 y2 y3 y4 y5 y6
   unfold fastilaw12_DaysDates.j3
   repeat' first
   | (with_reducible exact ih0 _ _)
   | (with_reducible exact ih1 _ _ _)
   | (with_reducible exact ih2 _ _ _ _ _)
   | (with_reducible exact ih3 _ _ _ _ _ _ _)
   | (with_reducible exact LeO.refl _)
   | (with_reducible exact LeO.none _)
   | (with_reducible refine LeO.ite ?_ ?_)
   | (with_reducible refine LeO.bind ?_ (fun _ => ?_))
   | exact ih0 _ _
   | exact ih1 _ _ _
   | exact ih2 _ _ _ _ _
   | exact ih3 _ _ _ _ _ _ _
   | exact LeO.none _
   | refine LeO.ite ?_ ?_
   | refine LeO.bind ?_ (fun _ => ?_)
theorem fastilaw12_DaysDates.mono : ∀ a0 a1 a2 a3 a4 k, LeO (fastilaw12_DaysDates.f k a0 a1 a2 a3 a4) (fastilaw12_DaysDates.f (k + 1) a0 a1 a2 a3 a4) := by
 intro a0 a1 a2 a3 a4 k
 obtain ⟨ih0, ih1, ih2, ih3⟩ := fastilaw12_DaysDates.mono_l k
 unfold fastilaw12_DaysDates.f
 repeat' first
   | (with_reducible exact ih0 _ _)
   | (with_reducible exact ih1 _ _ _)
   | (with_reducible exact ih2 _ _ _ _ _)
   | (with_reducible exact ih3 _ _ _ _ _ _ _)
   | (with_reducible exact LeO.refl _)
   | (with_reducible exact LeO.none _)
   | (with_reducible refine LeO.ite ?_ ?_)
   | (with_reducible refine LeO.bind ?_ (fun _ => ?_))
   | exact ih0 _ _
   | exact ih1 _ _ _
   | exact ih2 _ _ _ _ _
   | exact ih3 _ _ _ _ _ _ _
   | exact LeO.none _
   | refine LeO.ite ?_ ?_
   | refine LeO.bind ?_ (fun _ => ?_)
set_option maxHeartbeats 8000000 in
set_option maxRecDepth 100000 in
theorem fastilaw12_DaysDates.calls (k : Nat) (a0 : Int) (a1 : Int) (a2_0 : Int) (a2_1 : Int) (a2_2 : Int) (r : Bool) (w : World) (hgl : GL.Glob w) (h : fastilaw12_DaysDates.f k a0 a1 a2_0 a2_1 a2_2 = some r) :
  Calls Tryd.prog 6 #[.int .i64 a0, .int .i64 a1, .agg #[.int .i64 a2_0, .int .i64 a2_1, .int .i64 a2_2]] w fun e w' => e = .returned (.bool r) ∧ Below w.heap.size w w' := by
 have HGL := Aside0.mk hgl
 clear hgl
 have hu23 := Tryd.underlying23
 have HB := Aside0.mk (Below.refl w.heap.size w)
 have H : ((fastilaw12_sane.f).bind fun t178 => (if t178 = true then ((days_Number.f a2_0 a2_1 a2_2).bind fun bt179 => (if bt179.2 = 0 then ((days_Of.f bt179.1).bind fun bt181 => (if bt181.2.2.2 = 0 then (if (!(bt181.1 == a2_0) || (!(bt181.2.1 == a2_1) || (!(bt181.2.2.1 == a2_2)))) = true then (some false) else (if bt179.1 < 0 then (some false) else (if bt179.1 > 73048 then (some false) else (fastilaw12_DaysDates.j0 k a0 a1)))) else (some false))) else (fastilaw12_DaysDates.j0 k a0 a1))) else (some false))) = some r := h
 clear h
 replace H := Option.bind_eq_some_iff.mp H
 obtain ⟨t178, A40, H⟩ := H
 replace H : (if t178 = true then ((days_Number.f a2_0 a2_1 a2_2).bind fun bt179 => (if bt179.2 = 0 then ((days_Of.f bt179.1).bind fun bt181 => (if bt181.2.2.2 = 0 then (if (!(bt181.1 == a2_0) || (!(bt181.2.1 == a2_1) || (!(bt181.2.2.1 == a2_2)))) = true then (some false) else (if bt179.1 < 0 then (some false) else (if bt179.1 > 73048 then (some false) else (fastilaw12_DaysDates.j0 k a0 a1)))) else (some false))) else (fastilaw12_DaysDates.j0 k a0 a1))) else (some false)) = some r := H
 have A4 := Aside0.mk A40
 clear A40
 by_cases c5 : t178 = true
 ·subst c5
  have H1 : ((days_Number.f a2_0 a2_1 a2_2).bind fun bt179 => (if bt179.2 = 0 then ((days_Of.f bt179.1).bind fun bt181 => (if bt181.2.2.2 = 0 then (if (!(bt181.1 == a2_0) || (!(bt181.2.1 == a2_1) || (!(bt181.2.2.1 == a2_2)))) = true then (some false) else (if bt179.1 < 0 then (some false) else (if bt179.1 > 73048 then (some false) else (fastilaw12_DaysDates.j0 k a0 a1)))) else (some false))) else (fastilaw12_DaysDates.j0 k a0 a1))) = some r := by rw [if_pos rfl] at H; exact H
  clear H
  have H := H1
  clear H1
  replace H := Option.bind_eq_some_iff.mp H
  obtain ⟨⟨t179, t180⟩, A60, H⟩ := H
  replace H : (if t180 = 0 then ((days_Of.f t179).bind fun bt181 => (if bt181.2.2.2 = 0 then (if (!(bt181.1 == a2_0) || (!(bt181.2.1 == a2_1) || (!(bt181.2.2.1 == a2_2)))) = true then (some false) else (if t179 < 0 then (some false) else (if t179 > 73048 then (some false) else (fastilaw12_DaysDates.j0 k a0 a1)))) else (some false))) else (fastilaw12_DaysDates.j0 k a0 a1)) = some r := H
  have A6 := Aside0.mk A60
  clear A60
  have HC7 := Aside0.mk H
  clear H
  go_enter Tryd.func6, Tryd.ntmps6
  go_upto_if 31 with (first | ((with_reducible refine gate_dst (N := 5) rfl ?_); refine box_event ?hg (N := 5) ?hd (cs := #[.int .i64 a2_0, .int .i64 a2_1, .int .i64 a2_2]) (t := 23) ?hr ?_; (case hd => rfl); (case hg => rfl); (case hr => first | (go_simp; done) | (go_simp; rfl)); intro gb177 hg w8 hbox hb; have n0_ := Aside0.mk (below_step (by repeat (first | (with_reducible first | exact HB.out | apply below_alloc | apply pw_below_drewN | apply below_drew1) | exact HB.out)) hb); have n1_ := Aside0.mk (hbox); have n2_ := Aside0.mk ((by rw [hg]; exact (below_size (by repeat (first | (with_reducible first | exact HB.out | apply below_alloc | apply pw_below_drewN | apply below_drew1) | exact HB.out))) : w.heap.size ≤ gb177)); have n3_ := Aside0.mk ((by rw [hg]; exact (below_size (by repeat (first | (with_reducible first | exact HB.out | apply below_alloc | apply pw_below_drewN | apply below_drew1) | exact HB.out))) : w.heap.size ≤ gb177)); clear HB; have HB := n0_; have BK177 := n1_; have GW177 := n2_; have GE177 := n3_; clear n0_ n1_ n2_ n3_; clear hb hbox hg) | ((with_reducible refine gate_callee (f := 9) rfl ?_); refine goesL_ (some 23) rfl rfl Tryd.func9 (by kernel_rfl) rfl #[] rfl (by (try simp only [List.map_toArray, List.map_cons, List.map_nil]); first | done | rfl | (simp only [List.length_drop, List.length_take]; rfl)) ?_; (with_reducible refine (fastilaw12_sane.calls  true _ (GL.gl HGL.out (by repeat (first | (with_reducible first | exact HB.out | apply below_alloc | apply pw_below_drewN | apply below_drew1 | refine below_set ?_ GE177.out) | exact HB.out))) A4.out).mono ?_); rintro e w9 ⟨rfl, hb⟩; refine ⟨_, rfl, ?_⟩; have n0_ := Aside0.mk (blk_below (g := gb177) (o := .cells #[.int .i64 a2_0, .int .i64 a2_1, .int .i64 a2_2] 23 (0, 0)) (by (with_reducible repeat (first | refine blk_drewN ?_ _ | refine blk_drew ?_ | refine blk_alloc ?_ _)); exact BK177.out) hb); have n1_ := Aside0.mk (below_step (by repeat (first | (with_reducible first | exact HB.out | apply below_alloc | apply pw_below_drewN | apply below_drew1 | refine below_set ?_ GE177.out) | exact HB.out)) hb); clear BK177; clear HB; have BK177 := n0_; have HB := n1_; clear n0_ n1_; (try clear hb); (try clear hb2); (try clear hk); (try clear hi); have hcz10_0 : w9.cell? ⟨gb177, 0, none⟩ = some (.int .i64 a2_0) := (blk_cell BK177.out 0).trans rfl; have hcz10_1 : w9.cell? ⟨gb177, 1, none⟩ = some (.int .i64 a2_1) := (blk_cell BK177.out 1).trans rfl; have hcz10_2 : w9.cell? ⟨gb177, 2, none⟩ = some (.int .i64 a2_2) := (blk_cell BK177.out 2).trans rfl; have hfz10_0 := blk_frozen BK177.out 0; have hfz10_1 := blk_frozen BK177.out 1; have hfz10_2 := blk_frozen BK177.out 2) | ((with_reducible refine gate_callee (f := 12) rfl ?_); refine goesL_ (some 27) rfl rfl Tryd.func12 (by kernel_rfl) rfl #[.agg #[.int .i64 a2_0, .int .i64 a2_1, .int .i64 a2_2]] rfl (by (try simp only [List.map_toArray, List.map_cons, List.map_nil]); first | done | rfl | (simp only [List.length_drop, List.length_take]; rfl)) ?_; (with_reducible refine (days_Number.calls a2_0 a2_1 a2_2 t179 t180 _ (GL.gl HGL.out (by repeat (first | (with_reducible first | exact HB.out | apply below_alloc | apply pw_below_drewN | apply below_drew1 | refine below_set ?_ GE177.out) | exact HB.out))) A6.out).mono ?_); rintro e w11 ⟨rfl, hb⟩; refine ⟨_, rfl, ?_⟩; have n0_ := Aside0.mk (blk_below (g := gb177) (o := .cells #[.int .i64 a2_0, .int .i64 a2_1, .int .i64 a2_2] 23 (0, 0)) (by (with_reducible repeat (first | refine blk_drewN ?_ _ | refine blk_drew ?_ | refine blk_alloc ?_ _)); exact BK177.out) hb); have n1_ := Aside0.mk (below_step (by repeat (first | (with_reducible first | exact HB.out | apply below_alloc | apply pw_below_drewN | apply below_drew1 | refine below_set ?_ GE177.out) | exact HB.out)) hb); clear BK177; clear HB; have BK177 := n0_; have HB := n1_; clear n0_ n1_; (try clear hb); (try clear hb2); (try clear hk); (try clear hi)))
  (try simp only [Act.put, List.setIfInBounds_toArray, List.set_cons_zero, List.set_cons_succ])
  go_cut [] (fun wc => ∃ (kq : Nat), Aside0 (fastilaw12_DaysDates.j0 kq a0 a1 = some r) ∧ Aside0 (kq ≤ k) ∧ Aside0 (wc.heap[gb177]? = some (.cells #[.int .i64 a2_0, .int .i64 a2_1, .int .i64 a2_2] 23 (0, 0))) ∧ Aside0 (Below w.heap.size w wc))
  case first =>
   have H := HC7.out
   clear HC7
   by_cases c12 : t180 = 0
   ·rw [if_pos c12] at H
    have c12b0 : (t180 == 0) = true := beq_iff_eq.mpr c12
    have c12b1 : (t180 != 0) = false := bne_eq_false_iff_eq.mpr c12
    clear c12
    (first | rw [c12b0] | (simp only [i64_w, i32_w]; rw [c12b0]) | skip)
    replace H := Option.bind_eq_some_iff.mp H
    obtain ⟨⟨t181, t182, t183, t184⟩, A130, H⟩ := H
    replace H : (if t184 = 0 then (if (!(t181 == a2_0) || (!(t182 == a2_1) || (!(t183 == a2_2)))) = true then (some false) else (if t179 < 0 then (some false) else (if t179 > 73048 then (some false) else (fastilaw12_DaysDates.j0 k a0 a1)))) else (some false)) = some r := H
    have A13 := Aside0.mk A130
    clear A130
    by_cases c14 : t184 = 0
    ·rw [if_pos c14] at H
     have c14b0 : (t184 == 0) = true := beq_iff_eq.mpr c14
     have c14b1 : (t184 != 0) = false := bne_eq_false_iff_eq.mpr c14
     clear c14
     by_cases c15 : (!(t181 == a2_0) || (!(t182 == a2_1) || (!(t183 == a2_2)))) = true
     ·rw [if_pos c15] at H
      have c15b0 : (!(t181 == a2_0) || (!(t182 == a2_1) || (!(t183 == a2_2)))) = true := c15
      clear c15
      obtain rfl := Option.some.inj H
      go_wp2_with (first | ((with_reducible refine gate_callee (f := 10) rfl ?_); refine goesL_ (some 34) rfl rfl Tryd.func10 (by kernel_rfl) rfl #[.int .i64 t179] rfl (by (try simp only [List.map_toArray, List.map_cons, List.map_nil]); first | done | rfl | (simp only [List.length_drop, List.length_take]; rfl)) ?_; (with_reducible refine (days_Of.calls t179 t181 t182 t183 t184 _ (GL.gl HGL.out (by repeat (first | (with_reducible first | exact HB.out | apply below_alloc | apply pw_below_drewN | apply below_drew1 | refine below_set ?_ GE177.out) | exact HB.out))) A13.out).mono ?_); rintro e w16 ⟨rfl, hb⟩; refine ⟨_, rfl, ?_⟩; have n0_ := Aside0.mk (blk_below (g := gb177) (o := .cells #[.int .i64 a2_0, .int .i64 a2_1, .int .i64 a2_2] 23 (0, 0)) (by (with_reducible repeat (first | refine blk_drewN ?_ _ | refine blk_drew ?_ | refine blk_alloc ?_ _)); exact BK177.out) hb); have n1_ := Aside0.mk (below_step (by repeat (first | (with_reducible first | exact HB.out | apply below_alloc | apply pw_below_drewN | apply below_drew1 | refine below_set ?_ GE177.out) | exact HB.out)) hb); clear BK177; clear HB; have BK177 := n0_; have HB := n1_; clear n0_ n1_; (try clear hb); (try clear hb2); (try clear hk); (try clear hi)) | ((with_reducible refine gate_dst (N := 9) rfl ?_); refine box_event ?hg (N := 9) ?hd (cs := #[.int .i64 0, .int .i64 0, .int .i64 0]) (t := 23) ?hr ?_; (case hd => rfl); (case hg => rfl); (case hr => first | (go_simp; done) | (go_simp; rfl)); intro gb185 hg w17 hbox hb; have n0_ := Aside0.mk (blk_below (g := gb177) (o := .cells #[.int .i64 a2_0, .int .i64 a2_1, .int .i64 a2_2] 23 (0, 0)) (by (with_reducible repeat (first | refine blk_drewN ?_ _ | refine blk_drew ?_ | refine blk_alloc ?_ _)); exact BK177.out) hb); have n1_ := Aside0.mk (below_step (by repeat (first | (with_reducible first | exact HB.out | apply below_alloc | apply pw_below_drewN | apply below_drew1 | refine below_set ?_ GE177.out) | exact HB.out)) hb); have n2_ := Aside0.mk (hbox); have n3_ := Aside0.mk ((by rw [hg]; exact (below_size (by repeat (first | (with_reducible first | exact HB.out | apply below_alloc | apply pw_below_drewN | apply below_drew1 | refine below_set ?_ GE177.out) | exact HB.out))) : w.heap.size ≤ gb185)); have n4_ := Aside0.mk ((by rw [hg]; exact (below_size (by repeat (first | (with_reducible first | exact HB.out | apply below_alloc | apply pw_below_drewN | apply below_drew1 | refine below_set ?_ GE177.out) | exact HB.out))) : w.heap.size ≤ gb185)); have n5_ := Aside0.mk ((by rw [hg]; exact Nat.ne_of_lt (blk_lt (g := gb177) (o := .cells #[.int .i64 a2_0, .int .i64 a2_1, .int .i64 a2_2] 23 (0, 0)) (by (with_reducible repeat (first | refine blk_drewN ?_ _ | refine blk_drew ?_ | refine blk_alloc ?_ _)); exact BK177.out)) : gb177 ≠ gb185)); have n6_ := Aside0.mk ((by rw [hg]; exact Nat.ne_of_gt (blk_lt (g := gb177) (o := .cells #[.int .i64 a2_0, .int .i64 a2_1, .int .i64 a2_2] 23 (0, 0)) (by (with_reducible repeat (first | refine blk_drewN ?_ _ | refine blk_drew ?_ | refine blk_alloc ?_ _)); exact BK177.out)) : gb185 ≠ gb177)); clear BK177; clear HB; have BK177 := n0_; have HB := n1_; have BK185 := n2_; have GW185 := n3_; have GE185 := n4_; have NB177_185 := n5_; have NB185_177 := n6_; clear n0_ n1_ n2_ n3_ n4_ n5_ n6_; clear hb hbox hg; have hnb18 := NB185_177.out; have hnc18 := NB177_185.out; have hcz19_0 : w17.cell? ⟨gb185, 0, none⟩ = some (.int .i64 0) := (blk_cell BK185.out 0).trans rfl; have hcz19_1 : w17.cell? ⟨gb185, 1, none⟩ = some (.int .i64 0) := (blk_cell BK185.out 1).trans rfl; have hcz19_2 : w17.cell? ⟨gb185, 2, none⟩ = some (.int .i64 0) := (blk_cell BK185.out 2).trans rfl; have hfz19_0 := blk_frozen BK185.out 0; have hfz19_1 := blk_frozen BK185.out 1; have hfz19_2 := blk_frozen BK185.out 2; have hcz20_0 : w17.cell? ⟨gb177, 0, none⟩ = some (.int .i64 a2_0) := (blk_cell BK177.out 0).trans rfl; have hcz20_1 : w17.cell? ⟨gb177, 1, none⟩ = some (.int .i64 a2_1) := (blk_cell BK177.out 1).trans rfl; have hcz20_2 : w17.cell? ⟨gb177, 2, none⟩ = some (.int .i64 a2_2) := (blk_cell BK177.out 2).trans rfl; have hfz20_0 := blk_frozen BK177.out 0; have hfz20_1 := blk_frozen BK177.out 1; have hfz20_2 := blk_frozen BK177.out 2))
      go_ret
      exact ⟨by first | rfl | (simp [errW_none, errW_some] <;> rfl) | (simp [*, errW_none, errW_some] <;> rfl), by repeat (first | (with_reducible first | exact HB.out | apply below_alloc | apply pw_below_drewN | apply below_drew1 | refine below_set ?_ GE177.out | refine below_set ?_ GE185.out) | exact HB.out)⟩
     ·rw [if_neg c15] at H
      have c15b0 : (!(t181 == a2_0) || (!(t182 == a2_1) || (!(t183 == a2_2)))) = false := by simpa using c15
      clear c15
      by_cases c21 : t179 < 0
      ·rw [if_pos c21] at H
       have c21b0 : decide (t179 < 0) = true := decide_eq_true c21
       clear c21
       obtain rfl := Option.some.inj H
       go_wp2_with (first | ((with_reducible refine gate_callee (f := 10) rfl ?_); refine goesL_ (some 34) rfl rfl Tryd.func10 (by kernel_rfl) rfl #[.int .i64 t179] rfl (by (try simp only [List.map_toArray, List.map_cons, List.map_nil]); first | done | rfl | (simp only [List.length_drop, List.length_take]; rfl)) ?_; (with_reducible refine (days_Of.calls t179 t181 t182 t183 t184 _ (GL.gl HGL.out (by repeat (first | (with_reducible first | exact HB.out | apply below_alloc | apply pw_below_drewN | apply below_drew1 | refine below_set ?_ GE177.out) | exact HB.out))) A13.out).mono ?_); rintro e w22 ⟨rfl, hb⟩; refine ⟨_, rfl, ?_⟩; have n0_ := Aside0.mk (blk_below (g := gb177) (o := .cells #[.int .i64 a2_0, .int .i64 a2_1, .int .i64 a2_2] 23 (0, 0)) (by (with_reducible repeat (first | refine blk_drewN ?_ _ | refine blk_drew ?_ | refine blk_alloc ?_ _)); exact BK177.out) hb); have n1_ := Aside0.mk (below_step (by repeat (first | (with_reducible first | exact HB.out | apply below_alloc | apply pw_below_drewN | apply below_drew1 | refine below_set ?_ GE177.out) | exact HB.out)) hb); clear BK177; clear HB; have BK177 := n0_; have HB := n1_; clear n0_ n1_; (try clear hb); (try clear hb2); (try clear hk); (try clear hi)) | ((with_reducible refine gate_dst (N := 9) rfl ?_); refine box_event ?hg (N := 9) ?hd (cs := #[.int .i64 0, .int .i64 0, .int .i64 0]) (t := 23) ?hr ?_; (case hd => rfl); (case hg => rfl); (case hr => first | (go_simp; done) | (go_simp; rfl)); intro gb185 hg w23 hbox hb; have n0_ := Aside0.mk (blk_below (g := gb177) (o := .cells #[.int .i64 a2_0, .int .i64 a2_1, .int .i64 a2_2] 23 (0, 0)) (by (with_reducible repeat (first | refine blk_drewN ?_ _ | refine blk_drew ?_ | refine blk_alloc ?_ _)); exact BK177.out) hb); have n1_ := Aside0.mk (below_step (by repeat (first | (with_reducible first | exact HB.out | apply below_alloc | apply pw_below_drewN | apply below_drew1 | refine below_set ?_ GE177.out) | exact HB.out)) hb); have n2_ := Aside0.mk (hbox); have n3_ := Aside0.mk ((by rw [hg]; exact (below_size (by repeat (first | (with_reducible first | exact HB.out | apply below_alloc | apply pw_below_drewN | apply below_drew1 | refine below_set ?_ GE177.out) | exact HB.out))) : w.heap.size ≤ gb185)); have n4_ := Aside0.mk ((by rw [hg]; exact (below_size (by repeat (first | (with_reducible first | exact HB.out | apply below_alloc | apply pw_below_drewN | apply below_drew1 | refine below_set ?_ GE177.out) | exact HB.out))) : w.heap.size ≤ gb185)); have n5_ := Aside0.mk ((by rw [hg]; exact Nat.ne_of_lt (blk_lt (g := gb177) (o := .cells #[.int .i64 a2_0, .int .i64 a2_1, .int .i64 a2_2] 23 (0, 0)) (by (with_reducible repeat (first | refine blk_drewN ?_ _ | refine blk_drew ?_ | refine blk_alloc ?_ _)); exact BK177.out)) : gb177 ≠ gb185)); have n6_ := Aside0.mk ((by rw [hg]; exact Nat.ne_of_gt (blk_lt (g := gb177) (o := .cells #[.int .i64 a2_0, .int .i64 a2_1, .int .i64 a2_2] 23 (0, 0)) (by (with_reducible repeat (first | refine blk_drewN ?_ _ | refine blk_drew ?_ | refine blk_alloc ?_ _)); exact BK177.out)) : gb185 ≠ gb177)); clear BK177; clear HB; have BK177 := n0_; have HB := n1_; have BK185 := n2_; have GW185 := n3_; have GE185 := n4_; have NB177_185 := n5_; have NB185_177 := n6_; clear n0_ n1_ n2_ n3_ n4_ n5_ n6_; clear hb hbox hg; have hnb24 := NB185_177.out; have hnc24 := NB177_185.out; have hcz25_0 : w23.cell? ⟨gb185, 0, none⟩ = some (.int .i64 0) := (blk_cell BK185.out 0).trans rfl; have hcz25_1 : w23.cell? ⟨gb185, 1, none⟩ = some (.int .i64 0) := (blk_cell BK185.out 1).trans rfl; have hcz25_2 : w23.cell? ⟨gb185, 2, none⟩ = some (.int .i64 0) := (blk_cell BK185.out 2).trans rfl; have hfz25_0 := blk_frozen BK185.out 0; have hfz25_1 := blk_frozen BK185.out 1; have hfz25_2 := blk_frozen BK185.out 2; have hcz26_0 : w23.cell? ⟨gb177, 0, none⟩ = some (.int .i64 a2_0) := (blk_cell BK177.out 0).trans rfl; have hcz26_1 : w23.cell? ⟨gb177, 1, none⟩ = some (.int .i64 a2_1) := (blk_cell BK177.out 1).trans rfl; have hcz26_2 : w23.cell? ⟨gb177, 2, none⟩ = some (.int .i64 a2_2) := (blk_cell BK177.out 2).trans rfl; have hfz26_0 := blk_frozen BK177.out 0; have hfz26_1 := blk_frozen BK177.out 1; have hfz26_2 := blk_frozen BK177.out 2))
       go_ret
       exact ⟨by first | rfl | (simp [errW_none, errW_some] <;> rfl) | (simp [*, errW_none, errW_some] <;> rfl), by repeat (first | (with_reducible first | exact HB.out | apply below_alloc | apply pw_below_drewN | apply below_drew1 | refine below_set ?_ GE177.out | refine below_set ?_ GE185.out) | exact HB.out)⟩
      ·rw [if_neg c21] at H
       have c21b0 : decide (t179 < 0) = false := decide_eq_false c21
       clear c21
       by_cases c27 : t179 > 73048
       ·rw [if_pos c27] at H
        have c27b0 : decide (73048 < t179) = true := decide_eq_true c27
        clear c27
        obtain rfl := Option.some.inj H
        go_wp2_with (first | ((with_reducible refine gate_callee (f := 10) rfl ?_); refine goesL_ (some 34) rfl rfl Tryd.func10 (by kernel_rfl) rfl #[.int .i64 t179] rfl (by (try simp only [List.map_toArray, List.map_cons, List.map_nil]); first | done | rfl | (simp only [List.length_drop, List.length_take]; rfl)) ?_; (with_reducible refine (days_Of.calls t179 t181 t182 t183 t184 _ (GL.gl HGL.out (by repeat (first | (with_reducible first | exact HB.out | apply below_alloc | apply pw_below_drewN | apply below_drew1 | refine below_set ?_ GE177.out) | exact HB.out))) A13.out).mono ?_); rintro e w28 ⟨rfl, hb⟩; refine ⟨_, rfl, ?_⟩; have n0_ := Aside0.mk (blk_below (g := gb177) (o := .cells #[.int .i64 a2_0, .int .i64 a2_1, .int .i64 a2_2] 23 (0, 0)) (by (with_reducible repeat (first | refine blk_drewN ?_ _ | refine blk_drew ?_ | refine blk_alloc ?_ _)); exact BK177.out) hb); have n1_ := Aside0.mk (below_step (by repeat (first | (with_reducible first | exact HB.out | apply below_alloc | apply pw_below_drewN | apply below_drew1 | refine below_set ?_ GE177.out) | exact HB.out)) hb); clear BK177; clear HB; have BK177 := n0_; have HB := n1_; clear n0_ n1_; (try clear hb); (try clear hb2); (try clear hk); (try clear hi)) | ((with_reducible refine gate_dst (N := 9) rfl ?_); refine box_event ?hg (N := 9) ?hd (cs := #[.int .i64 0, .int .i64 0, .int .i64 0]) (t := 23) ?hr ?_; (case hd => rfl); (case hg => rfl); (case hr => first | (go_simp; done) | (go_simp; rfl)); intro gb185 hg w29 hbox hb; have n0_ := Aside0.mk (blk_below (g := gb177) (o := .cells #[.int .i64 a2_0, .int .i64 a2_1, .int .i64 a2_2] 23 (0, 0)) (by (with_reducible repeat (first | refine blk_drewN ?_ _ | refine blk_drew ?_ | refine blk_alloc ?_ _)); exact BK177.out) hb); have n1_ := Aside0.mk (below_step (by repeat (first | (with_reducible first | exact HB.out | apply below_alloc | apply pw_below_drewN | apply below_drew1 | refine below_set ?_ GE177.out) | exact HB.out)) hb); have n2_ := Aside0.mk (hbox); have n3_ := Aside0.mk ((by rw [hg]; exact (below_size (by repeat (first | (with_reducible first | exact HB.out | apply below_alloc | apply pw_below_drewN | apply below_drew1 | refine below_set ?_ GE177.out) | exact HB.out))) : w.heap.size ≤ gb185)); have n4_ := Aside0.mk ((by rw [hg]; exact (below_size (by repeat (first | (with_reducible first | exact HB.out | apply below_alloc | apply pw_below_drewN | apply below_drew1 | refine below_set ?_ GE177.out) | exact HB.out))) : w.heap.size ≤ gb185)); have n5_ := Aside0.mk ((by rw [hg]; exact Nat.ne_of_lt (blk_lt (g := gb177) (o := .cells #[.int .i64 a2_0, .int .i64 a2_1, .int .i64 a2_2] 23 (0, 0)) (by (with_reducible repeat (first | refine blk_drewN ?_ _ | refine blk_drew ?_ | refine blk_alloc ?_ _)); exact BK177.out)) : gb177 ≠ gb185)); have n6_ := Aside0.mk ((by rw [hg]; exact Nat.ne_of_gt (blk_lt (g := gb177) (o := .cells #[.int .i64 a2_0, .int .i64 a2_1, .int .i64 a2_2] 23 (0, 0)) (by (with_reducible repeat (first | refine blk_drewN ?_ _ | refine blk_drew ?_ | refine blk_alloc ?_ _)); exact BK177.out)) : gb185 ≠ gb177)); clear BK177; clear HB; have BK177 := n0_; have HB := n1_; have BK185 := n2_; have GW185 := n3_; have GE185 := n4_; have NB177_185 := n5_; have NB185_177 := n6_; clear n0_ n1_ n2_ n3_ n4_ n5_ n6_; clear hb hbox hg; have hnb30 := NB185_177.out; have hnc30 := NB177_185.out; have hcz31_0 : w29.cell? ⟨gb185, 0, none⟩ = some (.int .i64 0) := (blk_cell BK185.out 0).trans rfl; have hcz31_1 : w29.cell? ⟨gb185, 1, none⟩ = some (.int .i64 0) := (blk_cell BK185.out 1).trans rfl; have hcz31_2 : w29.cell? ⟨gb185, 2, none⟩ = some (.int .i64 0) := (blk_cell BK185.out 2).trans rfl; have hfz31_0 := blk_frozen BK185.out 0; have hfz31_1 := blk_frozen BK185.out 1; have hfz31_2 := blk_frozen BK185.out 2; have hcz32_0 : w29.cell? ⟨gb177, 0, none⟩ = some (.int .i64 a2_0) := (blk_cell BK177.out 0).trans rfl; have hcz32_1 : w29.cell? ⟨gb177, 1, none⟩ = some (.int .i64 a2_1) := (blk_cell BK177.out 1).trans rfl; have hcz32_2 : w29.cell? ⟨gb177, 2, none⟩ = some (.int .i64 a2_2) := (blk_cell BK177.out 2).trans rfl; have hfz32_0 := blk_frozen BK177.out 0; have hfz32_1 := blk_frozen BK177.out 1; have hfz32_2 := blk_frozen BK177.out 2))
        go_ret
        exact ⟨by first | rfl | (simp [errW_none, errW_some] <;> rfl) | (simp [*, errW_none, errW_some] <;> rfl), by repeat (first | (with_reducible first | exact HB.out | apply below_alloc | apply pw_below_drewN | apply below_drew1 | refine below_set ?_ GE177.out | refine below_set ?_ GE185.out) | exact HB.out)⟩
       ·rw [if_neg c27] at H
        have c27b0 : decide (73048 < t179) = false := decide_eq_false c27
        clear c27
        have H' := Aside0.mk H
        clear H
        go_wp2_with (first | ((with_reducible refine gate_callee (f := 10) rfl ?_); refine goesL_ (some 34) rfl rfl Tryd.func10 (by kernel_rfl) rfl #[.int .i64 t179] rfl (by (try simp only [List.map_toArray, List.map_cons, List.map_nil]); first | done | rfl | (simp only [List.length_drop, List.length_take]; rfl)) ?_; (with_reducible refine (days_Of.calls t179 t181 t182 t183 t184 _ (GL.gl HGL.out (by repeat (first | (with_reducible first | exact HB.out | apply below_alloc | apply pw_below_drewN | apply below_drew1 | refine below_set ?_ GE177.out) | exact HB.out))) A13.out).mono ?_); rintro e w33 ⟨rfl, hb⟩; refine ⟨_, rfl, ?_⟩; have n0_ := Aside0.mk (blk_below (g := gb177) (o := .cells #[.int .i64 a2_0, .int .i64 a2_1, .int .i64 a2_2] 23 (0, 0)) (by (with_reducible repeat (first | refine blk_drewN ?_ _ | refine blk_drew ?_ | refine blk_alloc ?_ _)); exact BK177.out) hb); have n1_ := Aside0.mk (below_step (by repeat (first | (with_reducible first | exact HB.out | apply below_alloc | apply pw_below_drewN | apply below_drew1 | refine below_set ?_ GE177.out) | exact HB.out)) hb); clear BK177; clear HB; have BK177 := n0_; have HB := n1_; clear n0_ n1_; (try clear hb); (try clear hb2); (try clear hk); (try clear hi)) | ((with_reducible refine gate_dst (N := 9) rfl ?_); refine box_event ?hg (N := 9) ?hd (cs := #[.int .i64 0, .int .i64 0, .int .i64 0]) (t := 23) ?hr ?_; (case hd => rfl); (case hg => rfl); (case hr => first | (go_simp; done) | (go_simp; rfl)); intro gb185 hg w34 hbox hb; have n0_ := Aside0.mk (blk_below (g := gb177) (o := .cells #[.int .i64 a2_0, .int .i64 a2_1, .int .i64 a2_2] 23 (0, 0)) (by (with_reducible repeat (first | refine blk_drewN ?_ _ | refine blk_drew ?_ | refine blk_alloc ?_ _)); exact BK177.out) hb); have n1_ := Aside0.mk (below_step (by repeat (first | (with_reducible first | exact HB.out | apply below_alloc | apply pw_below_drewN | apply below_drew1 | refine below_set ?_ GE177.out) | exact HB.out)) hb); have n2_ := Aside0.mk (hbox); have n3_ := Aside0.mk ((by rw [hg]; exact (below_size (by repeat (first | (with_reducible first | exact HB.out | apply below_alloc | apply pw_below_drewN | apply below_drew1 | refine below_set ?_ GE177.out) | exact HB.out))) : w.heap.size ≤ gb185)); have n4_ := Aside0.mk ((by rw [hg]; exact (below_size (by repeat (first | (with_reducible first | exact HB.out | apply below_alloc | apply pw_below_drewN | apply below_drew1 | refine below_set ?_ GE177.out) | exact HB.out))) : w.heap.size ≤ gb185)); have n5_ := Aside0.mk ((by rw [hg]; exact Nat.ne_of_lt (blk_lt (g := gb177) (o := .cells #[.int .i64 a2_0, .int .i64 a2_1, .int .i64 a2_2] 23 (0, 0)) (by (with_reducible repeat (first | refine blk_drewN ?_ _ | refine blk_drew ?_ | refine blk_alloc ?_ _)); exact BK177.out)) : gb177 ≠ gb185)); have n6_ := Aside0.mk ((by rw [hg]; exact Nat.ne_of_gt (blk_lt (g := gb177) (o := .cells #[.int .i64 a2_0, .int .i64 a2_1, .int .i64 a2_2] 23 (0, 0)) (by (with_reducible repeat (first | refine blk_drewN ?_ _ | refine blk_drew ?_ | refine blk_alloc ?_ _)); exact BK177.out)) : gb185 ≠ gb177)); clear BK177; clear HB; have BK177 := n0_; have HB := n1_; have BK185 := n2_; have GW185 := n3_; have GE185 := n4_; have NB177_185 := n5_; have NB185_177 := n6_; clear n0_ n1_ n2_ n3_ n4_ n5_ n6_; clear hb hbox hg; have hnb35 := NB185_177.out; have hnc35 := NB177_185.out; have hcz36_0 : w34.cell? ⟨gb185, 0, none⟩ = some (.int .i64 0) := (blk_cell BK185.out 0).trans rfl; have hcz36_1 : w34.cell? ⟨gb185, 1, none⟩ = some (.int .i64 0) := (blk_cell BK185.out 1).trans rfl; have hcz36_2 : w34.cell? ⟨gb185, 2, none⟩ = some (.int .i64 0) := (blk_cell BK185.out 2).trans rfl; have hfz36_0 := blk_frozen BK185.out 0; have hfz36_1 := blk_frozen BK185.out 1; have hfz36_2 := blk_frozen BK185.out 2; have hcz37_0 : w34.cell? ⟨gb177, 0, none⟩ = some (.int .i64 a2_0) := (blk_cell BK177.out 0).trans rfl; have hcz37_1 : w34.cell? ⟨gb177, 1, none⟩ = some (.int .i64 a2_1) := (blk_cell BK177.out 1).trans rfl; have hcz37_2 : w34.cell? ⟨gb177, 2, none⟩ = some (.int .i64 a2_2) := (blk_cell BK177.out 2).trans rfl; have hfz37_0 := blk_frozen BK177.out 0; have hfz37_1 := blk_frozen BK177.out 1; have hfz37_2 := blk_frozen BK177.out 2))
        go_meet
        case rel => exact ⟨_, H', ⟨by first | omega | exact Nat.le_refl _⟩, ⟨by (with_reducible repeat (first | refine blk_drewN ?_ _ | refine blk_drew ?_ | refine blk_alloc ?_ _)); refine blk_far ?_ NB177_185.out _; (with_reducible repeat (first | refine blk_drewN ?_ _ | refine blk_drew ?_ | refine blk_alloc ?_ _)); refine blk_far ?_ NB177_185.out _; (with_reducible repeat (first | refine blk_drewN ?_ _ | refine blk_drew ?_ | refine blk_alloc ?_ _)); refine blk_far ?_ NB177_185.out _; (with_reducible repeat (first | refine blk_drewN ?_ _ | refine blk_drew ?_ | refine blk_alloc ?_ _)); exact BK177.out⟩, ⟨by repeat (first | (with_reducible first | exact HB.out | apply below_alloc | apply pw_below_drewN | apply below_drew1 | refine below_set ?_ GE177.out | refine below_set ?_ GE185.out) | exact HB.out)⟩⟩
    ·rw [if_neg c14] at H
     have c14b0 : (t184 == 0) = false := beq_eq_false_iff_ne.mpr c14
     have c14b1 : (t184 != 0) = true := bne_iff_ne.mpr c14
     obtain rfl := Option.some.inj H
     go_wp2_with (first | ((with_reducible refine gate_callee (f := 10) rfl ?_); refine goesL_ (some 34) rfl rfl Tryd.func10 (by kernel_rfl) rfl #[.int .i64 t179] rfl (by (try simp only [List.map_toArray, List.map_cons, List.map_nil]); first | done | rfl | (simp only [List.length_drop, List.length_take]; rfl)) ?_; (with_reducible refine (days_Of.calls t179 t181 t182 t183 t184 _ (GL.gl HGL.out (by repeat (first | (with_reducible first | exact HB.out | apply below_alloc | apply pw_below_drewN | apply below_drew1 | refine below_set ?_ GE177.out) | exact HB.out))) A13.out).mono ?_); rintro e w38 ⟨rfl, hb⟩; refine ⟨_, rfl, ?_⟩; have n0_ := Aside0.mk (blk_below (g := gb177) (o := .cells #[.int .i64 a2_0, .int .i64 a2_1, .int .i64 a2_2] 23 (0, 0)) (by (with_reducible repeat (first | refine blk_drewN ?_ _ | refine blk_drew ?_ | refine blk_alloc ?_ _)); exact BK177.out) hb); have n1_ := Aside0.mk (below_step (by repeat (first | (with_reducible first | exact HB.out | apply below_alloc | apply pw_below_drewN | apply below_drew1 | refine below_set ?_ GE177.out) | exact HB.out)) hb); clear BK177; clear HB; have BK177 := n0_; have HB := n1_; clear n0_ n1_; (try clear hb); (try clear hb2); (try clear hk); (try clear hi)) | ((with_reducible refine gate_dst (N := 9) rfl ?_); refine box_event ?hg (N := 9) ?hd (cs := #[.int .i64 0, .int .i64 0, .int .i64 0]) (t := 23) ?hr ?_; (case hd => rfl); (case hg => rfl); (case hr => first | (go_simp; done) | (go_simp; rfl)); intro gb185 hg w39 hbox hb; have n0_ := Aside0.mk (blk_below (g := gb177) (o := .cells #[.int .i64 a2_0, .int .i64 a2_1, .int .i64 a2_2] 23 (0, 0)) (by (with_reducible repeat (first | refine blk_drewN ?_ _ | refine blk_drew ?_ | refine blk_alloc ?_ _)); exact BK177.out) hb); have n1_ := Aside0.mk (below_step (by repeat (first | (with_reducible first | exact HB.out | apply below_alloc | apply pw_below_drewN | apply below_drew1 | refine below_set ?_ GE177.out) | exact HB.out)) hb); have n2_ := Aside0.mk (hbox); have n3_ := Aside0.mk ((by rw [hg]; exact (below_size (by repeat (first | (with_reducible first | exact HB.out | apply below_alloc | apply pw_below_drewN | apply below_drew1 | refine below_set ?_ GE177.out) | exact HB.out))) : w.heap.size ≤ gb185)); have n4_ := Aside0.mk ((by rw [hg]; exact (below_size (by repeat (first | (with_reducible first | exact HB.out | apply below_alloc | apply pw_below_drewN | apply below_drew1 | refine below_set ?_ GE177.out) | exact HB.out))) : w.heap.size ≤ gb185)); have n5_ := Aside0.mk ((by rw [hg]; exact Nat.ne_of_lt (blk_lt (g := gb177) (o := .cells #[.int .i64 a2_0, .int .i64 a2_1, .int .i64 a2_2] 23 (0, 0)) (by (with_reducible repeat (first | refine blk_drewN ?_ _ | refine blk_drew ?_ | refine blk_alloc ?_ _)); exact BK177.out)) : gb177 ≠ gb185)); have n6_ := Aside0.mk ((by rw [hg]; exact Nat.ne_of_gt (blk_lt (g := gb177) (o := .cells #[.int .i64 a2_0, .int .i64 a2_1, .int .i64 a2_2] 23 (0, 0)) (by (with_reducible repeat (first | refine blk_drewN ?_ _ | refine blk_drew ?_ | refine blk_alloc ?_ _)); exact BK177.out)) : gb185 ≠ gb177)); clear BK177; clear HB; have BK177 := n0_; have HB := n1_; have BK185 := n2_; have GW185 := n3_; have GE185 := n4_; have NB177_185 := n5_; have NB185_177 := n6_; clear n0_ n1_ n2_ n3_ n4_ n5_ n6_; clear hb hbox hg; have hnb40 := NB185_177.out; have hnc40 := NB177_185.out; have hcz41_0 : w39.cell? ⟨gb185, 0, none⟩ = some (.int .i64 0) := (blk_cell BK185.out 0).trans rfl; have hcz41_1 : w39.cell? ⟨gb185, 1, none⟩ = some (.int .i64 0) := (blk_cell BK185.out 1).trans rfl; have hcz41_2 : w39.cell? ⟨gb185, 2, none⟩ = some (.int .i64 0) := (blk_cell BK185.out 2).trans rfl; have hfz41_0 := blk_frozen BK185.out 0; have hfz41_1 := blk_frozen BK185.out 1; have hfz41_2 := blk_frozen BK185.out 2))
     go_ret
     exact ⟨by first | rfl | (simp [errW_none, errW_some] <;> rfl) | (simp [*, errW_none, errW_some] <;> rfl), by repeat (first | (with_reducible first | exact HB.out | apply below_alloc | apply pw_below_drewN | apply below_drew1 | refine below_set ?_ GE177.out | refine below_set ?_ GE185.out) | exact HB.out)⟩
   ·rw [if_neg c12] at H
    have c12b0 : (t180 == 0) = false := beq_eq_false_iff_ne.mpr c12
    have c12b1 : (t180 != 0) = true := bne_iff_ne.mpr c12
    (first | rw [c12b0] | (simp only [i64_w, i32_w]; rw [c12b0]) | skip)
    have H' := Aside0.mk H
    clear H
    go_wp2
    go_meet
    case rel => exact ⟨_, H', ⟨by first | omega | exact Nat.le_refl _⟩, ⟨by (with_reducible repeat (first | refine blk_drewN ?_ _ | refine blk_drew ?_ | refine blk_alloc ?_ _)); exact BK177.out⟩, ⟨by repeat (first | (with_reducible first | exact HB.out | apply below_alloc | apply pw_below_drewN | apply below_drew1 | refine below_set ?_ GE177.out) | exact HB.out)⟩⟩
  case rest => as_aux_lemma =>
   clear HC7
   try clear c1; try clear c2; try clear p2; try clear c3; try clear c4; try clear c5; try clear c6; try clear c9; try clear c10; try clear c12; try clear c12b0; try clear c12b1; try clear c14; try clear c14b0; try clear c14b1; try clear c15; try clear c15b0; try clear c18; try clear c21; try clear c21b0; try clear c24; try clear c27; try clear c27b0; try clear c30; try clear c35; try clear c40; try clear hcz10_0; try clear hcz10_1; try clear hcz10_2; try clear hcz19_0; try clear hcz19_1; try clear hcz19_2; try clear hcz20_0; try clear hcz20_1; try clear hcz20_2; try clear hcz25_0; try clear hcz25_1; try clear hcz25_2; try clear hcz26_0; try clear hcz26_1; try clear hcz26_2; try clear hcz31_0; try clear hcz31_1; try clear hcz31_2; try clear hcz32_0; try clear hcz32_1; try clear hcz32_2; try clear hcz36_0; try clear hcz36_1; try clear hcz36_2; try clear hcz37_0; try clear hcz37_1; try clear hcz37_2; try clear hcz41_0; try clear hcz41_1; try clear hcz41_2; try clear hfz10_0; try clear hfz10_1; try clear hfz10_2; try clear hfz19_0; try clear hfz19_1; try clear hfz19_2; try clear hfz20_0; try clear hfz20_1; try clear hfz20_2; try clear hfz25_0; try clear hfz25_1; try clear hfz25_2; try clear hfz26_0; try clear hfz26_1; try clear hfz26_2; try clear hfz31_0; try clear hfz31_1; try clear hfz31_2; try clear hfz32_0; try clear hfz32_1; try clear hfz32_2; try clear hfz36_0; try clear hfz36_1; try clear hfz36_2; try clear hfz37_0; try clear hfz37_1; try clear hfz37_2; try clear hfz41_0; try clear hfz41_1; try clear hfz41_2
   obtain ⟨kq, HA, HJ6, BK177, HB⟩ := hcut
   cases kq with
   | zero => exact absurd HA.out (by simp [fastilaw12_DaysDates.j0])
   | succ kj6 =>
    have H := HA.out
    clear HA
    simp only [fastilaw12_DaysDates.j0] at H
    have HC42 := Aside0.mk H
    clear H
    go_upto_region 8 with (fail)
    go_cut [65] (fun v65 wc => ∃ (kq : Nat) (x65_41 : Bool), v65 = .bool x65_41 ∧ Aside0 (fastilaw12_DaysDates.j1 kq a0 a1 x65_41 = some r) ∧ Aside0 (kq ≤ kj6) ∧ Aside0 (wc.heap[gb177]? = some (.cells #[.int .i64 a2_0, .int .i64 a2_1, .int .i64 a2_2] 23 (0, 0))) ∧ Aside0 (Below w.heap.size w wc))
    case first =>
     have H := HC42.out
     clear HC42
     by_cases c43 : a0 < 0
     ·rw [if_pos c43] at H
      have c43b0 : decide (a0 < 0) = true := decide_eq_true c43
      clear c43
      (first | rw [c43b0] | (simp only [i64_w, i32_w]; rw [c43b0]) | skip)
      have H' := Aside0.mk H
      clear H
      go_wp2
      go_meet
      case rel => exact ⟨_, (true), (by first | rfl | (simp; done) | (simp [*]; done)), H', ⟨by have := HJ6.out; first | omega | exact Nat.le_refl _⟩, ⟨by (with_reducible repeat (first | refine blk_drewN ?_ _ | refine blk_drew ?_ | refine blk_alloc ?_ _)); exact BK177.out⟩, ⟨by repeat (first | (with_reducible first | exact HB.out | apply below_alloc | apply pw_below_drewN | apply below_drew1 | refine below_set ?_ GE177.out) | exact HB.out)⟩⟩
     ·rw [if_neg c43] at H
      have c43b0 : decide (a0 < 0) = false := decide_eq_false c43
      clear c43
      (first | rw [c43b0] | (simp only [i64_w, i32_w]; rw [c43b0]) | skip)
      by_cases c44 : a0 > 73048
      ·rw [if_pos c44] at H
       have c44b0 : decide (73048 < a0) = true := decide_eq_true c44
       clear c44
       have H' := Aside0.mk H
       clear H
       go_wp2
       go_meet
       case rel => exact ⟨_, (true), (by first | rfl | (simp; done) | (simp [*]; done)), H', ⟨by have := HJ6.out; first | omega | exact Nat.le_refl _⟩, ⟨by (with_reducible repeat (first | refine blk_drewN ?_ _ | refine blk_drew ?_ | refine blk_alloc ?_ _)); exact BK177.out⟩, ⟨by repeat (first | (with_reducible first | exact HB.out | apply below_alloc | apply pw_below_drewN | apply below_drew1 | refine below_set ?_ GE177.out) | exact HB.out)⟩⟩
      ·rw [if_neg c44] at H
       have c44b0 : decide (73048 < a0) = false := decide_eq_false c44
       clear c44
       by_cases c45 : a1 < 0
       ·rw [if_pos c45] at H
        have c45b0 : decide (a1 < 0) = true := decide_eq_true c45
        clear c45
        have H' := Aside0.mk H
        clear H
        go_wp2
        go_meet
        case rel => exact ⟨_, (true), (by first | rfl | (simp; done) | (simp [*]; done)), H', ⟨by have := HJ6.out; first | omega | exact Nat.le_refl _⟩, ⟨by (with_reducible repeat (first | refine blk_drewN ?_ _ | refine blk_drew ?_ | refine blk_alloc ?_ _)); exact BK177.out⟩, ⟨by repeat (first | (with_reducible first | exact HB.out | apply below_alloc | apply pw_below_drewN | apply below_drew1 | refine below_set ?_ GE177.out) | exact HB.out)⟩⟩
       ·rw [if_neg c45] at H
        have c45b0 : decide (a1 < 0) = false := decide_eq_false c45
        clear c45
        have H' := Aside0.mk H
        clear H
        go_wp2
        go_meet
        case rel => exact ⟨_, (decide (a1 > 73048)), (by first | rfl | (simp; done) | (simp [*]; done)), H', ⟨by have := HJ6.out; first | omega | exact Nat.le_refl _⟩, ⟨by (with_reducible repeat (first | refine blk_drewN ?_ _ | refine blk_drew ?_ | refine blk_alloc ?_ _)); exact BK177.out⟩, ⟨by repeat (first | (with_reducible first | exact HB.out | apply below_alloc | apply pw_below_drewN | apply below_drew1 | refine below_set ?_ GE177.out) | exact HB.out)⟩⟩
    case rest => as_aux_lemma =>
     clear HC42
     try clear c1; try clear c2; try clear p2; try clear c3; try clear c4; try clear c5; try clear c6; try clear c9; try clear c10; try clear c12; try clear c12b0; try clear c12b1; try clear c14; try clear c14b0; try clear c14b1; try clear c15; try clear c15b0; try clear c18; try clear c21; try clear c21b0; try clear c24; try clear c27; try clear c27b0; try clear c30; try clear c35; try clear c40; try clear c43; try clear c43b0; try clear c44; try clear c44b0; try clear c45; try clear c45b0; try clear hcz10_0; try clear hcz10_1; try clear hcz10_2; try clear hcz19_0; try clear hcz19_1; try clear hcz19_2; try clear hcz20_0; try clear hcz20_1; try clear hcz20_2; try clear hcz25_0; try clear hcz25_1; try clear hcz25_2; try clear hcz26_0; try clear hcz26_1; try clear hcz26_2; try clear hcz31_0; try clear hcz31_1; try clear hcz31_2; try clear hcz32_0; try clear hcz32_1; try clear hcz32_2; try clear hcz36_0; try clear hcz36_1; try clear hcz36_2; try clear hcz37_0; try clear hcz37_1; try clear hcz37_2; try clear hcz41_0; try clear hcz41_1; try clear hcz41_2; try clear hfz10_0; try clear hfz10_1; try clear hfz10_2; try clear hfz19_0; try clear hfz19_1; try clear hfz19_2; try clear hfz20_0; try clear hfz20_1; try clear hfz20_2; try clear hfz25_0; try clear hfz25_1; try clear hfz25_2; try clear hfz26_0; try clear hfz26_1; try clear hfz26_2; try clear hfz31_0; try clear hfz31_1; try clear hfz31_2; try clear hfz32_0; try clear hfz32_1; try clear hfz32_2; try clear hfz36_0; try clear hfz36_1; try clear hfz36_2; try clear hfz37_0; try clear hfz37_1; try clear hfz37_2; try clear hfz41_0; try clear hfz41_1; try clear hfz41_2
     obtain ⟨kq, x65_41, rfl, HA, HJ41, BK177, HB⟩ := hcut
     cases kq with
     | zero => exact absurd HA.out (by simp [fastilaw12_DaysDates.j1])
     | succ kj41 =>
      have H := HA.out
      clear HA
      simp only [fastilaw12_DaysDates.j1] at H
      by_cases c46 : x65_41 = true
      ·subst c46
       have H1 : (some true) = some r := by rw [if_pos rfl] at H; exact H
       clear H
       have H := H1
       clear H1
       obtain rfl := Option.some.inj H
       go_wp2
       go_ret
       exact ⟨by first | rfl | (simp [errW_none, errW_some] <;> rfl) | (simp [*, errW_none, errW_some] <;> rfl), by repeat (first | (with_reducible first | exact HB.out | apply below_alloc | apply pw_below_drewN | apply below_drew1 | refine below_set ?_ GE177.out) | exact HB.out)⟩
      ·replace c46 := Bool.eq_false_iff.mpr c46
       subst c46
       have H1 : ((days_Of.f a0).bind fun bt186 => ((days_Of.f a1).bind fun bt191 => ((days_Number.f bt186.1 bt186.2.1 bt186.2.2.1).bind fun bt196 => (if bt186.2.2.2 = 0 then (if bt191.2.2.2 = 0 then (if bt196.2 = 0 then (if bt196.1 = a0 then ((fastilaw12_less.f bt186.1 bt186.2.1 bt186.2.2.1 bt191.1 bt191.2.1 bt191.2.2.1).bind fun t198 => (fastilaw12_DaysDates.j2 kj41 a0 (t198 != (decide (a0 < a1))) bt186.1 bt186.2.1 bt186.2.2.1)) else (fastilaw12_DaysDates.j2 kj41 a0 true bt186.1 bt186.2.1 bt186.2.2.1)) else (fastilaw12_DaysDates.j2 kj41 a0 true bt186.1 bt186.2.1 bt186.2.2.1)) else (fastilaw12_DaysDates.j2 kj41 a0 true bt186.1 bt186.2.1 bt186.2.2.1)) else (fastilaw12_DaysDates.j2 kj41 a0 true bt186.1 bt186.2.1 bt186.2.2.1))))) = some r := by rw [if_neg (show ¬ (false = true) by decide)] at H; exact H
       clear H
       have H := H1
       clear H1
       replace H := Option.bind_eq_some_iff.mp H
       obtain ⟨⟨t186, t187, t188, t189⟩, A470, H⟩ := H
       replace H : ((days_Of.f a1).bind fun bt191 => ((days_Number.f t186 t187 t188).bind fun bt196 => (if t189 = 0 then (if bt191.2.2.2 = 0 then (if bt196.2 = 0 then (if bt196.1 = a0 then ((fastilaw12_less.f t186 t187 t188 bt191.1 bt191.2.1 bt191.2.2.1).bind fun t198 => (fastilaw12_DaysDates.j2 kj41 a0 (t198 != (decide (a0 < a1))) t186 t187 t188)) else (fastilaw12_DaysDates.j2 kj41 a0 true t186 t187 t188)) else (fastilaw12_DaysDates.j2 kj41 a0 true t186 t187 t188)) else (fastilaw12_DaysDates.j2 kj41 a0 true t186 t187 t188)) else (fastilaw12_DaysDates.j2 kj41 a0 true t186 t187 t188)))) = some r := H
       have A47 := Aside0.mk A470
       clear A470
       replace H := Option.bind_eq_some_iff.mp H
       obtain ⟨⟨t191, t192, t193, t194⟩, A480, H⟩ := H
       replace H : ((days_Number.f t186 t187 t188).bind fun bt196 => (if t189 = 0 then (if t194 = 0 then (if bt196.2 = 0 then (if bt196.1 = a0 then ((fastilaw12_less.f t186 t187 t188 t191 t192 t193).bind fun t198 => (fastilaw12_DaysDates.j2 kj41 a0 (t198 != (decide (a0 < a1))) t186 t187 t188)) else (fastilaw12_DaysDates.j2 kj41 a0 true t186 t187 t188)) else (fastilaw12_DaysDates.j2 kj41 a0 true t186 t187 t188)) else (fastilaw12_DaysDates.j2 kj41 a0 true t186 t187 t188)) else (fastilaw12_DaysDates.j2 kj41 a0 true t186 t187 t188))) = some r := H
       have A48 := Aside0.mk A480
       clear A480
       replace H := Option.bind_eq_some_iff.mp H
       obtain ⟨⟨t196, t197⟩, A490, H⟩ := H
       replace H : (if t189 = 0 then (if t194 = 0 then (if t197 = 0 then (if t196 = a0 then ((fastilaw12_less.f t186 t187 t188 t191 t192 t193).bind fun t198 => (fastilaw12_DaysDates.j2 kj41 a0 (t198 != (decide (a0 < a1))) t186 t187 t188)) else (fastilaw12_DaysDates.j2 kj41 a0 true t186 t187 t188)) else (fastilaw12_DaysDates.j2 kj41 a0 true t186 t187 t188)) else (fastilaw12_DaysDates.j2 kj41 a0 true t186 t187 t188)) else (fastilaw12_DaysDates.j2 kj41 a0 true t186 t187 t188)) = some r := H
       have A49 := Aside0.mk A490
       clear A490
       have HC50 := Aside0.mk H
       clear H
       go_upto_region 13 with (first | ((with_reducible refine gate_callee (f := 10) rfl ?_); refine goesL_ (some 68) rfl rfl Tryd.func10 (by kernel_rfl) rfl #[.int .i64 a0] rfl (by (try simp only [List.map_toArray, List.map_cons, List.map_nil]); first | done | rfl | (simp only [List.length_drop, List.length_take]; rfl)) ?_; (with_reducible refine (days_Of.calls a0 t186 t187 t188 t189 _ (GL.gl HGL.out (by repeat (first | (with_reducible first | exact HB.out | apply below_alloc | apply pw_below_drewN | apply below_drew1 | refine below_set ?_ GE177.out) | exact HB.out))) A47.out).mono ?_); rintro e w51 ⟨rfl, hb⟩; refine ⟨_, rfl, ?_⟩; have n0_ := Aside0.mk (blk_below (g := gb177) (o := .cells #[.int .i64 a2_0, .int .i64 a2_1, .int .i64 a2_2] 23 (0, 0)) (by (with_reducible repeat (first | refine blk_drewN ?_ _ | refine blk_drew ?_ | refine blk_alloc ?_ _)); exact BK177.out) hb); have n1_ := Aside0.mk (below_step (by repeat (first | (with_reducible first | exact HB.out | apply below_alloc | apply pw_below_drewN | apply below_drew1 | refine below_set ?_ GE177.out) | exact HB.out)) hb); clear BK177; clear HB; have BK177 := n0_; have HB := n1_; clear n0_ n1_; (try clear hb); (try clear hb2); (try clear hk); (try clear hi)) | ((with_reducible refine gate_dst (N := 11) rfl ?_); refine box_event ?hg (N := 11) ?hd (cs := #[.int .i64 0, .int .i64 0, .int .i64 0]) (t := 23) ?hr ?_; (case hd => rfl); (case hg => rfl); (case hr => first | (go_simp; done) | (go_simp; rfl)); intro gb190 hg w52 hbox hb; have n0_ := Aside0.mk (blk_below (g := gb177) (o := .cells #[.int .i64 a2_0, .int .i64 a2_1, .int .i64 a2_2] 23 (0, 0)) (by (with_reducible repeat (first | refine blk_drewN ?_ _ | refine blk_drew ?_ | refine blk_alloc ?_ _)); exact BK177.out) hb); have n1_ := Aside0.mk (below_step (by repeat (first | (with_reducible first | exact HB.out | apply below_alloc | apply pw_below_drewN | apply below_drew1 | refine below_set ?_ GE177.out) | exact HB.out)) hb); have n2_ := Aside0.mk (hbox); have n3_ := Aside0.mk ((by rw [hg]; exact (below_size (by repeat (first | (with_reducible first | exact HB.out | apply below_alloc | apply pw_below_drewN | apply below_drew1 | refine below_set ?_ GE177.out) | exact HB.out))) : w.heap.size ≤ gb190)); have n4_ := Aside0.mk ((by rw [hg]; exact (below_size (by repeat (first | (with_reducible first | exact HB.out | apply below_alloc | apply pw_below_drewN | apply below_drew1 | refine below_set ?_ GE177.out) | exact HB.out))) : w.heap.size ≤ gb190)); have n5_ := Aside0.mk ((by rw [hg]; exact Nat.ne_of_lt (blk_lt (g := gb177) (o := .cells #[.int .i64 a2_0, .int .i64 a2_1, .int .i64 a2_2] 23 (0, 0)) (by (with_reducible repeat (first | refine blk_drewN ?_ _ | refine blk_drew ?_ | refine blk_alloc ?_ _)); exact BK177.out)) : gb177 ≠ gb190)); have n6_ := Aside0.mk ((by rw [hg]; exact Nat.ne_of_gt (blk_lt (g := gb177) (o := .cells #[.int .i64 a2_0, .int .i64 a2_1, .int .i64 a2_2] 23 (0, 0)) (by (with_reducible repeat (first | refine blk_drewN ?_ _ | refine blk_drew ?_ | refine blk_alloc ?_ _)); exact BK177.out)) : gb190 ≠ gb177)); clear BK177; clear HB; have BK177 := n0_; have HB := n1_; have BK190 := n2_; have GW190 := n3_; have GE190 := n4_; have NB177_190 := n5_; have NB190_177 := n6_; clear n0_ n1_ n2_ n3_ n4_ n5_ n6_; clear hb hbox hg; have hnb53 := NB190_177.out; have hnc53 := NB177_190.out; have hcz54_0 : w52.cell? ⟨gb190, 0, none⟩ = some (.int .i64 0) := (blk_cell BK190.out 0).trans rfl; have hcz54_1 : w52.cell? ⟨gb190, 1, none⟩ = some (.int .i64 0) := (blk_cell BK190.out 1).trans rfl; have hcz54_2 : w52.cell? ⟨gb190, 2, none⟩ = some (.int .i64 0) := (blk_cell BK190.out 2).trans rfl; have hfz54_0 := blk_frozen BK190.out 0; have hfz54_1 := blk_frozen BK190.out 1; have hfz54_2 := blk_frozen BK190.out 2) | ((with_reducible refine gate_callee (f := 10) rfl ?_); refine goesL_ (some 73) rfl rfl Tryd.func10 (by kernel_rfl) rfl #[.int .i64 a1] rfl (by (try simp only [List.map_toArray, List.map_cons, List.map_nil]); first | done | rfl | (simp only [List.length_drop, List.length_take]; rfl)) ?_; (with_reducible refine (days_Of.calls a1 t191 t192 t193 t194 _ (GL.gl HGL.out (by repeat (first | (with_reducible first | exact HB.out | apply below_alloc | apply pw_below_drewN | apply below_drew1 | refine below_set ?_ GE177.out | refine below_set ?_ GE190.out) | exact HB.out))) A48.out).mono ?_); rintro e w55 ⟨rfl, hb⟩; refine ⟨_, rfl, ?_⟩; have n0_ := Aside0.mk (blk_below (g := gb177) (o := .cells #[.int .i64 a2_0, .int .i64 a2_1, .int .i64 a2_2] 23 (0, 0)) (by (with_reducible repeat (first | refine blk_drewN ?_ _ | refine blk_drew ?_ | refine blk_alloc ?_ _)); refine blk_far ?_ NB177_190.out _; (with_reducible repeat (first | refine blk_drewN ?_ _ | refine blk_drew ?_ | refine blk_alloc ?_ _)); refine blk_far ?_ NB177_190.out _; (with_reducible repeat (first | refine blk_drewN ?_ _ | refine blk_drew ?_ | refine blk_alloc ?_ _)); refine blk_far ?_ NB177_190.out _; (with_reducible repeat (first | refine blk_drewN ?_ _ | refine blk_drew ?_ | refine blk_alloc ?_ _)); exact BK177.out) hb); have n1_ := Aside0.mk (blk_below (g := gb190) (o := .cells #[.int .i64 t186, .int .i64 t187, .int .i64 t188] 23 (0, 0)) (by (with_reducible repeat (first | refine blk_drewN ?_ _ | refine blk_drew ?_ | refine blk_alloc ?_ _)); refine blk_put (cs := #[.int .i64 t186, .int .i64 t187, .int .i64 0]) ?_ 2 _ rfl; (with_reducible repeat (first | refine blk_drewN ?_ _ | refine blk_drew ?_ | refine blk_alloc ?_ _)); refine blk_put (cs := #[.int .i64 t186, .int .i64 0, .int .i64 0]) ?_ 1 _ rfl; (with_reducible repeat (first | refine blk_drewN ?_ _ | refine blk_drew ?_ | refine blk_alloc ?_ _)); refine blk_put (cs := #[.int .i64 0, .int .i64 0, .int .i64 0]) ?_ 0 _ rfl; (with_reducible repeat (first | refine blk_drewN ?_ _ | refine blk_drew ?_ | refine blk_alloc ?_ _)); exact BK190.out) hb); have n2_ := Aside0.mk (below_step (by repeat (first | (with_reducible first | exact HB.out | apply below_alloc | apply pw_below_drewN | apply below_drew1 | refine below_set ?_ GE177.out | refine below_set ?_ GE190.out) | exact HB.out)) hb); clear BK177; clear BK190; clear HB; have BK177 := n0_; have BK190 := n1_; have HB := n2_; clear n0_ n1_ n2_; (try clear hb); (try clear hb2); (try clear hk); (try clear hi)) | ((with_reducible refine gate_dst (N := 13) rfl ?_); refine box_event ?hg (N := 13) ?hd (cs := #[.int .i64 0, .int .i64 0, .int .i64 0]) (t := 23) ?hr ?_; (case hd => rfl); (case hg => rfl); (case hr => first | (go_simp; done) | (go_simp; rfl)); intro gb195 hg w56 hbox hb; have n0_ := Aside0.mk (blk_below (g := gb177) (o := .cells #[.int .i64 a2_0, .int .i64 a2_1, .int .i64 a2_2] 23 (0, 0)) (by (with_reducible repeat (first | refine blk_drewN ?_ _ | refine blk_drew ?_ | refine blk_alloc ?_ _)); exact BK177.out) hb); have n1_ := Aside0.mk (blk_below (g := gb190) (o := .cells #[.int .i64 t186, .int .i64 t187, .int .i64 t188] 23 (0, 0)) (by (with_reducible repeat (first | refine blk_drewN ?_ _ | refine blk_drew ?_ | refine blk_alloc ?_ _)); exact BK190.out) hb); have n2_ := Aside0.mk (below_step (by repeat (first | (with_reducible first | exact HB.out | apply below_alloc | apply pw_below_drewN | apply below_drew1 | refine below_set ?_ GE177.out | refine below_set ?_ GE190.out) | exact HB.out)) hb); have n3_ := Aside0.mk (hbox); have n4_ := Aside0.mk ((by rw [hg]; exact (below_size (by repeat (first | (with_reducible first | exact HB.out | apply below_alloc | apply pw_below_drewN | apply below_drew1 | refine below_set ?_ GE177.out | refine below_set ?_ GE190.out) | exact HB.out))) : w.heap.size ≤ gb195)); have n5_ := Aside0.mk ((by rw [hg]; exact (below_size (by repeat (first | (with_reducible first | exact HB.out | apply below_alloc | apply pw_below_drewN | apply below_drew1 | refine below_set ?_ GE177.out | refine below_set ?_ GE190.out) | exact HB.out))) : w.heap.size ≤ gb195)); have n6_ := Aside0.mk ((by rw [hg]; exact Nat.ne_of_lt (blk_lt (g := gb177) (o := .cells #[.int .i64 a2_0, .int .i64 a2_1, .int .i64 a2_2] 23 (0, 0)) (by (with_reducible repeat (first | refine blk_drewN ?_ _ | refine blk_drew ?_ | refine blk_alloc ?_ _)); exact BK177.out)) : gb177 ≠ gb195)); have n7_ := Aside0.mk ((by rw [hg]; exact Nat.ne_of_gt (blk_lt (g := gb177) (o := .cells #[.int .i64 a2_0, .int .i64 a2_1, .int .i64 a2_2] 23 (0, 0)) (by (with_reducible repeat (first | refine blk_drewN ?_ _ | refine blk_drew ?_ | refine blk_alloc ?_ _)); exact BK177.out)) : gb195 ≠ gb177)); have n8_ := Aside0.mk ((by rw [hg]; exact Nat.ne_of_lt (blk_lt (g := gb190) (o := .cells #[.int .i64 t186, .int .i64 t187, .int .i64 t188] 23 (0, 0)) (by (with_reducible repeat (first | refine blk_drewN ?_ _ | refine blk_drew ?_ | refine blk_alloc ?_ _)); exact BK190.out)) : gb190 ≠ gb195)); have n9_ := Aside0.mk ((by rw [hg]; exact Nat.ne_of_gt (blk_lt (g := gb190) (o := .cells #[.int .i64 t186, .int .i64 t187, .int .i64 t188] 23 (0, 0)) (by (with_reducible repeat (first | refine blk_drewN ?_ _ | refine blk_drew ?_ | refine blk_alloc ?_ _)); exact BK190.out)) : gb195 ≠ gb190)); clear BK177; clear BK190; clear HB; have BK177 := n0_; have BK190 := n1_; have HB := n2_; have BK195 := n3_; have GW195 := n4_; have GE195 := n5_; have NB177_195 := n6_; have NB195_177 := n7_; have NB190_195 := n8_; have NB195_190 := n9_; clear n0_ n1_ n2_ n3_ n4_ n5_ n6_ n7_ n8_ n9_; clear hb hbox hg; have hnb57 := NB195_177.out; have hnc57 := NB177_195.out; have hnb58 := NB195_190.out; have hnc58 := NB190_195.out; have hcz59_0 : w56.cell? ⟨gb195, 0, none⟩ = some (.int .i64 0) := (blk_cell BK195.out 0).trans rfl; have hcz59_1 : w56.cell? ⟨gb195, 1, none⟩ = some (.int .i64 0) := (blk_cell BK195.out 1).trans rfl; have hcz59_2 : w56.cell? ⟨gb195, 2, none⟩ = some (.int .i64 0) := (blk_cell BK195.out 2).trans rfl; have hfz59_0 := blk_frozen BK195.out 0; have hfz59_1 := blk_frozen BK195.out 1; have hfz59_2 := blk_frozen BK195.out 2; have hcz60_0 : w56.cell? ⟨gb190, 0, none⟩ = some (.int .i64 t186) := (blk_cell BK190.out 0).trans rfl; have hcz60_1 : w56.cell? ⟨gb190, 1, none⟩ = some (.int .i64 t187) := (blk_cell BK190.out 1).trans rfl; have hcz60_2 : w56.cell? ⟨gb190, 2, none⟩ = some (.int .i64 t188) := (blk_cell BK190.out 2).trans rfl; have hfz60_0 := blk_frozen BK190.out 0; have hfz60_1 := blk_frozen BK190.out 1; have hfz60_2 := blk_frozen BK190.out 2) | ((with_reducible refine gate_callee (f := 12) rfl ?_); refine goesL_ (some 78) rfl rfl Tryd.func12 (by kernel_rfl) rfl #[.agg #[.int .i64 t186, .int .i64 t187, .int .i64 t188]] rfl (by (try simp only [List.map_toArray, List.map_cons, List.map_nil]); first | done | rfl | (simp only [List.length_drop, List.length_take]; rfl)) ?_; (with_reducible refine (days_Number.calls t186 t187 t188 t196 t197 _ (GL.gl HGL.out (by repeat (first | (with_reducible first | exact HB.out | apply below_alloc | apply pw_below_drewN | apply below_drew1 | refine below_set ?_ GE177.out | refine below_set ?_ GE190.out | refine below_set ?_ GE195.out) | exact HB.out))) A49.out).mono ?_); rintro e w61 ⟨rfl, hb⟩; refine ⟨_, rfl, ?_⟩; have n0_ := Aside0.mk (blk_below (g := gb177) (o := .cells #[.int .i64 a2_0, .int .i64 a2_1, .int .i64 a2_2] 23 (0, 0)) (by (with_reducible repeat (first | refine blk_drewN ?_ _ | refine blk_drew ?_ | refine blk_alloc ?_ _)); refine blk_far ?_ NB177_195.out _; (with_reducible repeat (first | refine blk_drewN ?_ _ | refine blk_drew ?_ | refine blk_alloc ?_ _)); refine blk_far ?_ NB177_195.out _; (with_reducible repeat (first | refine blk_drewN ?_ _ | refine blk_drew ?_ | refine blk_alloc ?_ _)); refine blk_far ?_ NB177_195.out _; (with_reducible repeat (first | refine blk_drewN ?_ _ | refine blk_drew ?_ | refine blk_alloc ?_ _)); exact BK177.out) hb); have n1_ := Aside0.mk (blk_below (g := gb190) (o := .cells #[.int .i64 t186, .int .i64 t187, .int .i64 t188] 23 (0, 0)) (by (with_reducible repeat (first | refine blk_drewN ?_ _ | refine blk_drew ?_ | refine blk_alloc ?_ _)); refine blk_far ?_ NB190_195.out _; (with_reducible repeat (first | refine blk_drewN ?_ _ | refine blk_drew ?_ | refine blk_alloc ?_ _)); refine blk_far ?_ NB190_195.out _; (with_reducible repeat (first | refine blk_drewN ?_ _ | refine blk_drew ?_ | refine blk_alloc ?_ _)); refine blk_far ?_ NB190_195.out _; (with_reducible repeat (first | refine blk_drewN ?_ _ | refine blk_drew ?_ | refine blk_alloc ?_ _)); exact BK190.out) hb); have n2_ := Aside0.mk (blk_below (g := gb195) (o := .cells #[.int .i64 t191, .int .i64 t192, .int .i64 t193] 23 (0, 0)) (by (with_reducible repeat (first | refine blk_drewN ?_ _ | refine blk_drew ?_ | refine blk_alloc ?_ _)); refine blk_put (cs := #[.int .i64 t191, .int .i64 t192, .int .i64 0]) ?_ 2 _ rfl; (with_reducible repeat (first | refine blk_drewN ?_ _ | refine blk_drew ?_ | refine blk_alloc ?_ _)); refine blk_put (cs := #[.int .i64 t191, .int .i64 0, .int .i64 0]) ?_ 1 _ rfl; (with_reducible repeat (first | refine blk_drewN ?_ _ | refine blk_drew ?_ | refine blk_alloc ?_ _)); refine blk_put (cs := #[.int .i64 0, .int .i64 0, .int .i64 0]) ?_ 0 _ rfl; (with_reducible repeat (first | refine blk_drewN ?_ _ | refine blk_drew ?_ | refine blk_alloc ?_ _)); exact BK195.out) hb); have n3_ := Aside0.mk (below_step (by repeat (first | (with_reducible first | exact HB.out | apply below_alloc | apply pw_below_drewN | apply below_drew1 | refine below_set ?_ GE177.out | refine below_set ?_ GE190.out | refine below_set ?_ GE195.out) | exact HB.out)) hb); clear BK177; clear BK190; clear BK195; clear HB; have BK177 := n0_; have BK190 := n1_; have BK195 := n2_; have HB := n3_; clear n0_ n1_ n2_ n3_; (try clear hb); (try clear hb2); (try clear hk); (try clear hi)))
       (try simp only [Act.put, List.setIfInBounds_toArray, List.set_cons_zero, List.set_cons_succ])
       go_cut [104] (fun v104 wc => ∃ (kq : Nat) (x104_49 : Bool), v104 = .bool x104_49 ∧ Aside0 (fastilaw12_DaysDates.j2 kq a0 x104_49 t186 t187 t188 = some r) ∧ Aside0 (kq ≤ kj41) ∧ Aside0 (wc.heap[gb177]? = some (.cells #[.int .i64 a2_0, .int .i64 a2_1, .int .i64 a2_2] 23 (0, 0))) ∧ Aside0 (wc.heap[gb190]? = some (.cells #[.int .i64 t186, .int .i64 t187, .int .i64 t188] 23 (0, 0))) ∧ Aside0 (wc.heap[gb195]? = some (.cells #[.int .i64 t191, .int .i64 t192, .int .i64 t193] 23 (0, 0))) ∧ Aside0 (Below w.heap.size w wc))
       case first =>
        have H := HC50.out
        clear HC50
        by_cases c62 : t189 = 0
        ·rw [if_pos c62] at H
         have c62b0 : (t189 == 0) = true := beq_iff_eq.mpr c62
         have c62b1 : (t189 != 0) = false := bne_eq_false_iff_eq.mpr c62
         clear c62
         (first | rw [c62b0] | (simp only [i64_w, i32_w]; rw [c62b0]) | skip)
         by_cases c63 : t194 = 0
         ·rw [if_pos c63] at H
          have c63b0 : (t194 == 0) = true := beq_iff_eq.mpr c63
          have c63b1 : (t194 != 0) = false := bne_eq_false_iff_eq.mpr c63
          clear c63
          by_cases c64 : t197 = 0
          ·rw [if_pos c64] at H
           have c64b0 : (t197 == 0) = true := beq_iff_eq.mpr c64
           have c64b1 : (t197 != 0) = false := bne_eq_false_iff_eq.mpr c64
           clear c64
           by_cases c65 : t196 = a0
           ·rw [if_pos c65] at H
            have c65b0 : (t196 == a0) = true := beq_iff_eq.mpr c65
            have c65b1 : (t196 != a0) = false := bne_eq_false_iff_eq.mpr c65
            clear c65
            replace H := Option.bind_eq_some_iff.mp H
            obtain ⟨t198, A660, H⟩ := H
            replace H : (fastilaw12_DaysDates.j2 kj41 a0 (t198 != (decide (a0 < a1))) t186 t187 t188) = some r := H
            have A66 := Aside0.mk A660
            clear A660
            have H' := Aside0.mk H
            clear H
            have hnb67 := NB190_177.out
            have hnc67 := NB177_190.out
            have hnb68 := NB190_195.out
            have hnc68 := NB195_190.out
            have hcz69_0 : w61.cell? ⟨gb190, 0, none⟩ = some (.int .i64 t186) := (blk_cell BK190.out 0).trans rfl
            have hcz69_1 : w61.cell? ⟨gb190, 1, none⟩ = some (.int .i64 t187) := (blk_cell BK190.out 1).trans rfl
            have hcz69_2 : w61.cell? ⟨gb190, 2, none⟩ = some (.int .i64 t188) := (blk_cell BK190.out 2).trans rfl
            have hfz69_0 := blk_frozen BK190.out 0
            have hfz69_1 := blk_frozen BK190.out 1
            have hfz69_2 := blk_frozen BK190.out 2
            have hnb70 := NB195_177.out
            have hnc70 := NB177_195.out
            have hcz71_0 : w61.cell? ⟨gb195, 0, none⟩ = some (.int .i64 t191) := (blk_cell BK195.out 0).trans rfl
            have hcz71_1 : w61.cell? ⟨gb195, 1, none⟩ = some (.int .i64 t192) := (blk_cell BK195.out 1).trans rfl
            have hcz71_2 : w61.cell? ⟨gb195, 2, none⟩ = some (.int .i64 t193) := (blk_cell BK195.out 2).trans rfl
            have hfz71_0 := blk_frozen BK195.out 0
            have hfz71_1 := blk_frozen BK195.out 1
            have hfz71_2 := blk_frozen BK195.out 2
            go_wp2_with (first | (go_at_call 30; (with_reducible refine (fastilaw12_less.calls t186 t187 t188 t191 t192 t193 t198 _ A66.out).mono ?_); rintro e w72 ⟨rfl, hb⟩; have n0_ := Aside0.mk (blk_below (g := gb177) (o := .cells #[.int .i64 a2_0, .int .i64 a2_1, .int .i64 a2_2] 23 (0, 0)) (by (with_reducible repeat (first | refine blk_drewN ?_ _ | refine blk_drew ?_ | refine blk_alloc ?_ _)); exact BK177.out) hb); have n1_ := Aside0.mk (blk_below (g := gb190) (o := .cells #[.int .i64 t186, .int .i64 t187, .int .i64 t188] 23 (0, 0)) (by (with_reducible repeat (first | refine blk_drewN ?_ _ | refine blk_drew ?_ | refine blk_alloc ?_ _)); exact BK190.out) hb); have n2_ := Aside0.mk (blk_below (g := gb195) (o := .cells #[.int .i64 t191, .int .i64 t192, .int .i64 t193] 23 (0, 0)) (by (with_reducible repeat (first | refine blk_drewN ?_ _ | refine blk_drew ?_ | refine blk_alloc ?_ _)); exact BK195.out) hb); have n3_ := Aside0.mk (below_step (by repeat (first | (with_reducible first | exact HB.out | apply below_alloc | apply pw_below_drewN | apply below_drew1 | refine below_set ?_ GE177.out | refine below_set ?_ GE190.out | refine below_set ?_ GE195.out) | exact HB.out)) hb); clear BK177; clear BK190; clear BK195; clear HB; have BK177 := n0_; have BK190 := n1_; have BK195 := n2_; have HB := n3_; clear n0_ n1_ n2_ n3_; (try clear hb); (try clear hb2); (try clear hk); (try clear hi)))
            go_meet
            case rel => exact ⟨_, ((t198 != (decide (a0 < a1)))), (by first | rfl | (simp; done) | (simp [*]; done)), H', ⟨by have := HJ6.out; have := HJ41.out; first | omega | exact Nat.le_refl _⟩, ⟨by (with_reducible repeat (first | refine blk_drewN ?_ _ | refine blk_drew ?_ | refine blk_alloc ?_ _)); exact BK177.out⟩, ⟨by (with_reducible repeat (first | refine blk_drewN ?_ _ | refine blk_drew ?_ | refine blk_alloc ?_ _)); exact BK190.out⟩, ⟨by (with_reducible repeat (first | refine blk_drewN ?_ _ | refine blk_drew ?_ | refine blk_alloc ?_ _)); exact BK195.out⟩, ⟨by repeat (first | (with_reducible first | exact HB.out | apply below_alloc | apply pw_below_drewN | apply below_drew1 | refine below_set ?_ GE177.out | refine below_set ?_ GE190.out | refine below_set ?_ GE195.out) | exact HB.out)⟩⟩
           ·rw [if_neg c65] at H
            have c65b0 : (t196 == a0) = false := beq_eq_false_iff_ne.mpr c65
            have c65b1 : (t196 != a0) = true := bne_iff_ne.mpr c65
            have H' := Aside0.mk H
            clear H
            go_wp2
            go_meet
            case rel => exact ⟨_, (true), (by first | rfl | (simp; done) | (simp [*]; done)), H', ⟨by have := HJ6.out; have := HJ41.out; first | omega | exact Nat.le_refl _⟩, ⟨by (with_reducible repeat (first | refine blk_drewN ?_ _ | refine blk_drew ?_ | refine blk_alloc ?_ _)); exact BK177.out⟩, ⟨by (with_reducible repeat (first | refine blk_drewN ?_ _ | refine blk_drew ?_ | refine blk_alloc ?_ _)); exact BK190.out⟩, ⟨by (with_reducible repeat (first | refine blk_drewN ?_ _ | refine blk_drew ?_ | refine blk_alloc ?_ _)); exact BK195.out⟩, ⟨by repeat (first | (with_reducible first | exact HB.out | apply below_alloc | apply pw_below_drewN | apply below_drew1 | refine below_set ?_ GE177.out | refine below_set ?_ GE190.out | refine below_set ?_ GE195.out) | exact HB.out)⟩⟩
          ·rw [if_neg c64] at H
           have c64b0 : (t197 == 0) = false := beq_eq_false_iff_ne.mpr c64
           have c64b1 : (t197 != 0) = true := bne_iff_ne.mpr c64
           have H' := Aside0.mk H
           clear H
           go_wp2
           go_meet
           case rel => exact ⟨_, (true), (by first | rfl | (simp; done) | (simp [*]; done)), H', ⟨by have := HJ6.out; have := HJ41.out; first | omega | exact Nat.le_refl _⟩, ⟨by (with_reducible repeat (first | refine blk_drewN ?_ _ | refine blk_drew ?_ | refine blk_alloc ?_ _)); exact BK177.out⟩, ⟨by (with_reducible repeat (first | refine blk_drewN ?_ _ | refine blk_drew ?_ | refine blk_alloc ?_ _)); exact BK190.out⟩, ⟨by (with_reducible repeat (first | refine blk_drewN ?_ _ | refine blk_drew ?_ | refine blk_alloc ?_ _)); exact BK195.out⟩, ⟨by repeat (first | (with_reducible first | exact HB.out | apply below_alloc | apply pw_below_drewN | apply below_drew1 | refine below_set ?_ GE177.out | refine below_set ?_ GE190.out | refine below_set ?_ GE195.out) | exact HB.out)⟩⟩
         ·rw [if_neg c63] at H
          have c63b0 : (t194 == 0) = false := beq_eq_false_iff_ne.mpr c63
          have c63b1 : (t194 != 0) = true := bne_iff_ne.mpr c63
          have H' := Aside0.mk H
          clear H
          go_wp2
          go_meet
          case rel => exact ⟨_, (true), (by first | rfl | (simp; done) | (simp [*]; done)), H', ⟨by have := HJ6.out; have := HJ41.out; first | omega | exact Nat.le_refl _⟩, ⟨by (with_reducible repeat (first | refine blk_drewN ?_ _ | refine blk_drew ?_ | refine blk_alloc ?_ _)); exact BK177.out⟩, ⟨by (with_reducible repeat (first | refine blk_drewN ?_ _ | refine blk_drew ?_ | refine blk_alloc ?_ _)); exact BK190.out⟩, ⟨by (with_reducible repeat (first | refine blk_drewN ?_ _ | refine blk_drew ?_ | refine blk_alloc ?_ _)); exact BK195.out⟩, ⟨by repeat (first | (with_reducible first | exact HB.out | apply below_alloc | apply pw_below_drewN | apply below_drew1 | refine below_set ?_ GE177.out | refine below_set ?_ GE190.out | refine below_set ?_ GE195.out) | exact HB.out)⟩⟩
        ·rw [if_neg c62] at H
         have c62b0 : (t189 == 0) = false := beq_eq_false_iff_ne.mpr c62
         have c62b1 : (t189 != 0) = true := bne_iff_ne.mpr c62
         (first | rw [c62b0] | (simp only [i64_w, i32_w]; rw [c62b0]) | skip)
         have H' := Aside0.mk H
         clear H
         go_wp2
         go_meet
         case rel => exact ⟨_, (true), (by first | rfl | (simp; done) | (simp [*]; done)), H', ⟨by have := HJ6.out; have := HJ41.out; first | omega | exact Nat.le_refl _⟩, ⟨by (with_reducible repeat (first | refine blk_drewN ?_ _ | refine blk_drew ?_ | refine blk_alloc ?_ _)); exact BK177.out⟩, ⟨by (with_reducible repeat (first | refine blk_drewN ?_ _ | refine blk_drew ?_ | refine blk_alloc ?_ _)); exact BK190.out⟩, ⟨by (with_reducible repeat (first | refine blk_drewN ?_ _ | refine blk_drew ?_ | refine blk_alloc ?_ _)); exact BK195.out⟩, ⟨by repeat (first | (with_reducible first | exact HB.out | apply below_alloc | apply pw_below_drewN | apply below_drew1 | refine below_set ?_ GE177.out | refine below_set ?_ GE190.out | refine below_set ?_ GE195.out) | exact HB.out)⟩⟩
       case rest => as_aux_lemma =>
        clear HC50
        try clear c1; try clear c2; try clear p2; try clear c3; try clear c4; try clear c5; try clear c6; try clear c7; try clear c9; try clear c10; try clear c12; try clear c12b0; try clear c12b1; try clear c14; try clear c14b0; try clear c14b1; try clear c15; try clear c15b0; try clear c18; try clear c21; try clear c21b0; try clear c24; try clear c27; try clear c27b0; try clear c30; try clear c35; try clear c40; try clear c43; try clear c43b0; try clear c44; try clear c44b0; try clear c45; try clear c45b0; try clear c46; try clear c53; try clear c57; try clear c58; try clear c62; try clear c62b0; try clear c62b1; try clear c63; try clear c63b0; try clear c63b1; try clear c64; try clear c64b0; try clear c64b1; try clear c65; try clear c65b0; try clear c65b1; try clear c67; try clear c68; try clear c70; try clear hcz10_0; try clear hcz10_1; try clear hcz10_2; try clear hcz19_0; try clear hcz19_1; try clear hcz19_2; try clear hcz20_0; try clear hcz20_1; try clear hcz20_2; try clear hcz25_0; try clear hcz25_1; try clear hcz25_2; try clear hcz26_0; try clear hcz26_1; try clear hcz26_2; try clear hcz31_0; try clear hcz31_1; try clear hcz31_2; try clear hcz32_0; try clear hcz32_1; try clear hcz32_2; try clear hcz36_0; try clear hcz36_1; try clear hcz36_2; try clear hcz37_0; try clear hcz37_1; try clear hcz37_2; try clear hcz41_0; try clear hcz41_1; try clear hcz41_2; try clear hcz54_0; try clear hcz54_1; try clear hcz54_2; try clear hcz59_0; try clear hcz59_1; try clear hcz59_2; try clear hcz60_0; try clear hcz60_1; try clear hcz60_2; try clear hcz69_0; try clear hcz69_1; try clear hcz69_2; try clear hcz71_0; try clear hcz71_1; try clear hcz71_2; try clear hfz10_0; try clear hfz10_1; try clear hfz10_2; try clear hfz19_0; try clear hfz19_1; try clear hfz19_2; try clear hfz20_0; try clear hfz20_1; try clear hfz20_2; try clear hfz25_0; try clear hfz25_1; try clear hfz25_2; try clear hfz26_0; try clear hfz26_1; try clear hfz26_2; try clear hfz31_0; try clear hfz31_1; try clear hfz31_2; try clear hfz32_0; try clear hfz32_1; try clear hfz32_2; try clear hfz36_0; try clear hfz36_1; try clear hfz36_2; try clear hfz37_0; try clear hfz37_1; try clear hfz37_2; try clear hfz41_0; try clear hfz41_1; try clear hfz41_2; try clear hfz54_0; try clear hfz54_1; try clear hfz54_2; try clear hfz59_0; try clear hfz59_1; try clear hfz59_2; try clear hfz60_0; try clear hfz60_1; try clear hfz60_2; try clear hfz69_0; try clear hfz69_1; try clear hfz69_2; try clear hfz71_0; try clear hfz71_1; try clear hfz71_2
        obtain ⟨kq, x104_49, rfl, HA, HJ49, BK177, BK190, BK195, HB⟩ := hcut
        cases kq with
        | zero => exact absurd HA.out (by simp [fastilaw12_DaysDates.j2])
        | succ kj49 =>
         have H := HA.out
         clear HA
         simp only [fastilaw12_DaysDates.j2] at H
         by_cases c73 : x104_49 = true
         ·subst c73
          have H1 : (some false) = some r := by rw [if_pos rfl] at H; exact H
          clear H
          have H := H1
          clear H1
          obtain rfl := Option.some.inj H
          go_wp2
          go_ret
          exact ⟨by first | rfl | (simp [errW_none, errW_some] <;> rfl) | (simp [*, errW_none, errW_some] <;> rfl), by repeat (first | (with_reducible first | exact HB.out | apply below_alloc | apply pw_below_drewN | apply below_drew1 | refine below_set ?_ GE177.out | refine below_set ?_ GE190.out | refine below_set ?_ GE195.out) | exact HB.out)⟩
         ·replace c73 := Bool.eq_false_iff.mpr c73
          subst c73
          have H1 : (if a0 = 73048 then (some (t186 == 2199 && (t187 == 12 && (t188 == 31)))) else ((days_Of.f (wrap64 (a0 + 1))).bind fun bt199 => ((days_Weekday.f a0).bind fun bt204 => ((days_Weekday.f (wrap64 (a0 + 1))).bind fun bt206 => (if bt199.2.2.2 = 0 then (if bt204.2 = 0 then (if bt206.2 = 0 then (fastilaw12_DaysDates.j3 kj49 (bt206.1 != (Int.tmod (wrap64 (bt204.1 + 1)) 7)) t186 t187 t188 bt199.1 bt199.2.1 bt199.2.2.1) else (fastilaw12_DaysDates.j3 kj49 true t186 t187 t188 bt199.1 bt199.2.1 bt199.2.2.1)) else (fastilaw12_DaysDates.j3 kj49 true t186 t187 t188 bt199.1 bt199.2.1 bt199.2.2.1)) else (fastilaw12_DaysDates.j3 kj49 true t186 t187 t188 bt199.1 bt199.2.1 bt199.2.2.1)))))) = some r := by rw [if_neg (show ¬ (false = true) by decide)] at H; exact H
          clear H
          have H := H1
          clear H1
          by_cases c74 : a0 = 73048
          ·rw [if_pos c74] at H
           have c74b0 : (a0 == 73048) = true := beq_iff_eq.mpr c74
           have c74b1 : (a0 != 73048) = false := bne_eq_false_iff_eq.mpr c74
           clear c74
           obtain rfl := Option.some.inj H
           have hnb75 := NB190_177.out
           have hnc75 := NB177_190.out
           have hnb76 := NB190_195.out
           have hnc76 := NB195_190.out
           have hcz77_0 : wc.cell? ⟨gb190, 0, none⟩ = some (.int .i64 t186) := (blk_cell BK190.out 0).trans rfl
           have hcz77_1 : wc.cell? ⟨gb190, 1, none⟩ = some (.int .i64 t187) := (blk_cell BK190.out 1).trans rfl
           have hcz77_2 : wc.cell? ⟨gb190, 2, none⟩ = some (.int .i64 t188) := (blk_cell BK190.out 2).trans rfl
           have hfz77_0 := blk_frozen BK190.out 0
           have hfz77_1 := blk_frozen BK190.out 1
           have hfz77_2 := blk_frozen BK190.out 2
           go_wp2
           go_ret
           exact ⟨by first | rfl | (simp [errW_none, errW_some] <;> rfl) | (simp [*, errW_none, errW_some] <;> rfl), by repeat (first | (with_reducible first | exact HB.out | apply below_alloc | apply pw_below_drewN | apply below_drew1 | refine below_set ?_ GE177.out | refine below_set ?_ GE190.out | refine below_set ?_ GE195.out) | exact HB.out)⟩
          ·rw [if_neg c74] at H
           have c74b0 : (a0 == 73048) = false := beq_eq_false_iff_ne.mpr c74
           have c74b1 : (a0 != 73048) = true := bne_iff_ne.mpr c74
           replace H := Option.bind_eq_some_iff.mp H
           obtain ⟨⟨t199, t200, t201, t202⟩, A780, H⟩ := H
           replace H : ((days_Weekday.f a0).bind fun bt204 => ((days_Weekday.f (wrap64 (a0 + 1))).bind fun bt206 => (if t202 = 0 then (if bt204.2 = 0 then (if bt206.2 = 0 then (fastilaw12_DaysDates.j3 kj49 (bt206.1 != (Int.tmod (wrap64 (bt204.1 + 1)) 7)) t186 t187 t188 t199 t200 t201) else (fastilaw12_DaysDates.j3 kj49 true t186 t187 t188 t199 t200 t201)) else (fastilaw12_DaysDates.j3 kj49 true t186 t187 t188 t199 t200 t201)) else (fastilaw12_DaysDates.j3 kj49 true t186 t187 t188 t199 t200 t201)))) = some r := H
           have A78 := Aside0.mk A780
           clear A780
           replace H := Option.bind_eq_some_iff.mp H
           obtain ⟨⟨t204, t205⟩, A790, H⟩ := H
           replace H : ((days_Weekday.f (wrap64 (a0 + 1))).bind fun bt206 => (if t202 = 0 then (if t205 = 0 then (if bt206.2 = 0 then (fastilaw12_DaysDates.j3 kj49 (bt206.1 != (Int.tmod (wrap64 (t204 + 1)) 7)) t186 t187 t188 t199 t200 t201) else (fastilaw12_DaysDates.j3 kj49 true t186 t187 t188 t199 t200 t201)) else (fastilaw12_DaysDates.j3 kj49 true t186 t187 t188 t199 t200 t201)) else (fastilaw12_DaysDates.j3 kj49 true t186 t187 t188 t199 t200 t201))) = some r := H
           have A79 := Aside0.mk A790
           clear A790
           replace H := Option.bind_eq_some_iff.mp H
           obtain ⟨⟨t206, t207⟩, A800, H⟩ := H
           replace H : (if t202 = 0 then (if t205 = 0 then (if t207 = 0 then (fastilaw12_DaysDates.j3 kj49 (t206 != (Int.tmod (wrap64 (t204 + 1)) 7)) t186 t187 t188 t199 t200 t201) else (fastilaw12_DaysDates.j3 kj49 true t186 t187 t188 t199 t200 t201)) else (fastilaw12_DaysDates.j3 kj49 true t186 t187 t188 t199 t200 t201)) else (fastilaw12_DaysDates.j3 kj49 true t186 t187 t188 t199 t200 t201)) = some r := H
           have A80 := Aside0.mk A800
           clear A800
           have HC81 := Aside0.mk H
           clear H
           go_upto_region 20 with (first | ((with_reducible refine gate_callee (f := 10) rfl ?_); refine goesL_ (some 113) rfl rfl Tryd.func10 (by kernel_rfl) rfl #[.int .i64 (wrap64 (a0 + 1))] rfl (by (try simp only [List.map_toArray, List.map_cons, List.map_nil]); first | done | rfl | (simp only [List.length_drop, List.length_take]; rfl)) ?_; (with_reducible refine (days_Of.calls (wrap64 (a0 + 1)) t199 t200 t201 t202 _ (GL.gl HGL.out (by repeat (first | (with_reducible first | exact HB.out | apply below_alloc | apply pw_below_drewN | apply below_drew1 | refine below_set ?_ GE177.out | refine below_set ?_ GE190.out | refine below_set ?_ GE195.out) | exact HB.out))) A78.out).mono ?_); rintro e w82 ⟨rfl, hb⟩; refine ⟨_, rfl, ?_⟩; have n0_ := Aside0.mk (blk_below (g := gb177) (o := .cells #[.int .i64 a2_0, .int .i64 a2_1, .int .i64 a2_2] 23 (0, 0)) (by (with_reducible repeat (first | refine blk_drewN ?_ _ | refine blk_drew ?_ | refine blk_alloc ?_ _)); exact BK177.out) hb); have n1_ := Aside0.mk (blk_below (g := gb190) (o := .cells #[.int .i64 t186, .int .i64 t187, .int .i64 t188] 23 (0, 0)) (by (with_reducible repeat (first | refine blk_drewN ?_ _ | refine blk_drew ?_ | refine blk_alloc ?_ _)); exact BK190.out) hb); have n2_ := Aside0.mk (blk_below (g := gb195) (o := .cells #[.int .i64 t191, .int .i64 t192, .int .i64 t193] 23 (0, 0)) (by (with_reducible repeat (first | refine blk_drewN ?_ _ | refine blk_drew ?_ | refine blk_alloc ?_ _)); exact BK195.out) hb); have n3_ := Aside0.mk (below_step (by repeat (first | (with_reducible first | exact HB.out | apply below_alloc | apply pw_below_drewN | apply below_drew1 | refine below_set ?_ GE177.out | refine below_set ?_ GE190.out | refine below_set ?_ GE195.out) | exact HB.out)) hb); clear BK177; clear BK190; clear BK195; clear HB; have BK177 := n0_; have BK190 := n1_; have BK195 := n2_; have HB := n3_; clear n0_ n1_ n2_ n3_; (try clear hb); (try clear hb2); (try clear hk); (try clear hi)) | ((with_reducible refine gate_dst (N := 17) rfl ?_); refine box_event ?hg (N := 17) ?hd (cs := #[.int .i64 0, .int .i64 0, .int .i64 0]) (t := 23) ?hr ?_; (case hd => rfl); (case hg => rfl); (case hr => first | (go_simp; done) | (go_simp; rfl)); intro gb203 hg w83 hbox hb; have n0_ := Aside0.mk (blk_below (g := gb177) (o := .cells #[.int .i64 a2_0, .int .i64 a2_1, .int .i64 a2_2] 23 (0, 0)) (by (with_reducible repeat (first | refine blk_drewN ?_ _ | refine blk_drew ?_ | refine blk_alloc ?_ _)); exact BK177.out) hb); have n1_ := Aside0.mk (blk_below (g := gb190) (o := .cells #[.int .i64 t186, .int .i64 t187, .int .i64 t188] 23 (0, 0)) (by (with_reducible repeat (first | refine blk_drewN ?_ _ | refine blk_drew ?_ | refine blk_alloc ?_ _)); exact BK190.out) hb); have n2_ := Aside0.mk (blk_below (g := gb195) (o := .cells #[.int .i64 t191, .int .i64 t192, .int .i64 t193] 23 (0, 0)) (by (with_reducible repeat (first | refine blk_drewN ?_ _ | refine blk_drew ?_ | refine blk_alloc ?_ _)); exact BK195.out) hb); have n3_ := Aside0.mk (below_step (by repeat (first | (with_reducible first | exact HB.out | apply below_alloc | apply pw_below_drewN | apply below_drew1 | refine below_set ?_ GE177.out | refine below_set ?_ GE190.out | refine below_set ?_ GE195.out) | exact HB.out)) hb); have n4_ := Aside0.mk (hbox); have n5_ := Aside0.mk ((by rw [hg]; exact (below_size (by repeat (first | (with_reducible first | exact HB.out | apply below_alloc | apply pw_below_drewN | apply below_drew1 | refine below_set ?_ GE177.out | refine below_set ?_ GE190.out | refine below_set ?_ GE195.out) | exact HB.out))) : w.heap.size ≤ gb203)); have n6_ := Aside0.mk ((by rw [hg]; exact (below_size (by repeat (first | (with_reducible first | exact HB.out | apply below_alloc | apply pw_below_drewN | apply below_drew1 | refine below_set ?_ GE177.out | refine below_set ?_ GE190.out | refine below_set ?_ GE195.out) | exact HB.out))) : w.heap.size ≤ gb203)); have n7_ := Aside0.mk ((by rw [hg]; exact Nat.ne_of_lt (blk_lt (g := gb177) (o := .cells #[.int .i64 a2_0, .int .i64 a2_1, .int .i64 a2_2] 23 (0, 0)) (by (with_reducible repeat (first | refine blk_drewN ?_ _ | refine blk_drew ?_ | refine blk_alloc ?_ _)); exact BK177.out)) : gb177 ≠ gb203)); have n8_ := Aside0.mk ((by rw [hg]; exact Nat.ne_of_gt (blk_lt (g := gb177) (o := .cells #[.int .i64 a2_0, .int .i64 a2_1, .int .i64 a2_2] 23 (0, 0)) (by (with_reducible repeat (first | refine blk_drewN ?_ _ | refine blk_drew ?_ | refine blk_alloc ?_ _)); exact BK177.out)) : gb203 ≠ gb177)); have n9_ := Aside0.mk ((by rw [hg]; exact Nat.ne_of_lt (blk_lt (g := gb190) (o := .cells #[.int .i64 t186, .int .i64 t187, .int .i64 t188] 23 (0, 0)) (by (with_reducible repeat (first | refine blk_drewN ?_ _ | refine blk_drew ?_ | refine blk_alloc ?_ _)); exact BK190.out)) : gb190 ≠ gb203)); have n10_ := Aside0.mk ((by rw [hg]; exact Nat.ne_of_gt (blk_lt (g := gb190) (o := .cells #[.int .i64 t186, .int .i64 t187, .int .i64 t188] 23 (0, 0)) (by (with_reducible repeat (first | refine blk_drewN ?_ _ | refine blk_drew ?_ | refine blk_alloc ?_ _)); exact BK190.out)) : gb203 ≠ gb190)); have n11_ := Aside0.mk ((by rw [hg]; exact Nat.ne_of_lt (blk_lt (g := gb195) (o := .cells #[.int .i64 t191, .int .i64 t192, .int .i64 t193] 23 (0, 0)) (by (with_reducible repeat (first | refine blk_drewN ?_ _ | refine blk_drew ?_ | refine blk_alloc ?_ _)); exact BK195.out)) : gb195 ≠ gb203)); have n12_ := Aside0.mk ((by rw [hg]; exact Nat.ne_of_gt (blk_lt (g := gb195) (o := .cells #[.int .i64 t191, .int .i64 t192, .int .i64 t193] 23 (0, 0)) (by (with_reducible repeat (first | refine blk_drewN ?_ _ | refine blk_drew ?_ | refine blk_alloc ?_ _)); exact BK195.out)) : gb203 ≠ gb195)); clear BK177; clear BK190; clear BK195; clear HB; have BK177 := n0_; have BK190 := n1_; have BK195 := n2_; have HB := n3_; have BK203 := n4_; have GW203 := n5_; have GE203 := n6_; have NB177_203 := n7_; have NB203_177 := n8_; have NB190_203 := n9_; have NB203_190 := n10_; have NB195_203 := n11_; have NB203_195 := n12_; clear n0_ n1_ n2_ n3_ n4_ n5_ n6_ n7_ n8_ n9_ n10_ n11_ n12_; clear hb hbox hg; have hnb84 := NB203_177.out; have hnc84 := NB177_203.out; have hnb85 := NB203_190.out; have hnc85 := NB190_203.out; have hnb86 := NB203_195.out; have hnc86 := NB195_203.out; have hcz87_0 : w83.cell? ⟨gb203, 0, none⟩ = some (.int .i64 0) := (blk_cell BK203.out 0).trans rfl; have hcz87_1 : w83.cell? ⟨gb203, 1, none⟩ = some (.int .i64 0) := (blk_cell BK203.out 1).trans rfl; have hcz87_2 : w83.cell? ⟨gb203, 2, none⟩ = some (.int .i64 0) := (blk_cell BK203.out 2).trans rfl; have hfz87_0 := blk_frozen BK203.out 0; have hfz87_1 := blk_frozen BK203.out 1; have hfz87_2 := blk_frozen BK203.out 2) | ((with_reducible refine gate_callee (f := 14) rfl ?_); refine goesL_ (some 118) rfl rfl Tryd.func14 (by kernel_rfl) rfl #[.int .i64 a0] rfl (by (try simp only [List.map_toArray, List.map_cons, List.map_nil]); first | done | rfl | (simp only [List.length_drop, List.length_take]; rfl)) ?_; (with_reducible refine (days_Weekday.calls a0 t204 t205 _ A79.out).mono ?_); rintro e w' ⟨rfl, ⟨nd, rfl⟩⟩; refine ⟨_, rfl, ?_⟩) | ((with_reducible refine gate_callee (f := 14) rfl ?_); refine goesL_ (some 124) rfl rfl Tryd.func14 (by kernel_rfl) rfl #[.int .i64 (wrap64 (a0 + 1))] rfl (by (try simp only [List.map_toArray, List.map_cons, List.map_nil]); first | done | rfl | (simp only [List.length_drop, List.length_take]; rfl)) ?_; (with_reducible refine (days_Weekday.calls (wrap64 (a0 + 1)) t206 t207 _ A80.out).mono ?_); rintro e w' ⟨rfl, ⟨nd, rfl⟩⟩; refine ⟨_, rfl, ?_⟩))
           (try simp only [Act.put, List.setIfInBounds_toArray, List.set_cons_zero, List.set_cons_succ])
           go_cut [143] (fun v143 wc => ∃ (kq : Nat) (x143_80 : Bool), v143 = .bool x143_80 ∧ Aside0 (fastilaw12_DaysDates.j3 kq x143_80 t186 t187 t188 t199 t200 t201 = some r) ∧ Aside0 (kq ≤ kj49) ∧ Aside0 (wc.heap[gb177]? = some (.cells #[.int .i64 a2_0, .int .i64 a2_1, .int .i64 a2_2] 23 (0, 0))) ∧ Aside0 (wc.heap[gb190]? = some (.cells #[.int .i64 t186, .int .i64 t187, .int .i64 t188] 23 (0, 0))) ∧ Aside0 (wc.heap[gb195]? = some (.cells #[.int .i64 t191, .int .i64 t192, .int .i64 t193] 23 (0, 0))) ∧ Aside0 (wc.heap[gb203]? = some (.cells #[.int .i64 t199, .int .i64 t200, .int .i64 t201] 23 (0, 0))) ∧ Aside0 (Below w.heap.size w wc))
           case first =>
            have H := HC81.out
            clear HC81
            by_cases c88 : t202 = 0
            ·rw [if_pos c88] at H
             have c88b0 : (t202 == 0) = true := beq_iff_eq.mpr c88
             have c88b1 : (t202 != 0) = false := bne_eq_false_iff_eq.mpr c88
             clear c88
             (first | rw [c88b0] | (simp only [i64_w, i32_w]; rw [c88b0]) | skip)
             by_cases c89 : t205 = 0
             ·rw [if_pos c89] at H
              have c89b0 : (t205 == 0) = true := beq_iff_eq.mpr c89
              have c89b1 : (t205 != 0) = false := bne_eq_false_iff_eq.mpr c89
              clear c89
              by_cases c90 : t207 = 0
              ·rw [if_pos c90] at H
               have c90b0 : (t207 == 0) = true := beq_iff_eq.mpr c90
               have c90b1 : (t207 != 0) = false := bne_eq_false_iff_eq.mpr c90
               clear c90
               have H' := Aside0.mk H
               clear H
               go_wp2
               go_meet
               case rel => exact ⟨_, ((t206 != (Int.tmod (wrap64 (t204 + 1)) 7))), (by first | rfl | (simp; done) | (simp [*]; done)), H', ⟨by have := HJ6.out; have := HJ41.out; have := HJ49.out; first | omega | exact Nat.le_refl _⟩, ⟨by (with_reducible repeat (first | refine blk_drewN ?_ _ | refine blk_drew ?_ | refine blk_alloc ?_ _)); refine blk_far ?_ NB177_203.out _; (with_reducible repeat (first | refine blk_drewN ?_ _ | refine blk_drew ?_ | refine blk_alloc ?_ _)); refine blk_far ?_ NB177_203.out _; (with_reducible repeat (first | refine blk_drewN ?_ _ | refine blk_drew ?_ | refine blk_alloc ?_ _)); refine blk_far ?_ NB177_203.out _; (with_reducible repeat (first | refine blk_drewN ?_ _ | refine blk_drew ?_ | refine blk_alloc ?_ _)); exact BK177.out⟩, ⟨by (with_reducible repeat (first | refine blk_drewN ?_ _ | refine blk_drew ?_ | refine blk_alloc ?_ _)); refine blk_far ?_ NB190_203.out _; (with_reducible repeat (first | refine blk_drewN ?_ _ | refine blk_drew ?_ | refine blk_alloc ?_ _)); refine blk_far ?_ NB190_203.out _; (with_reducible repeat (first | refine blk_drewN ?_ _ | refine blk_drew ?_ | refine blk_alloc ?_ _)); refine blk_far ?_ NB190_203.out _; (with_reducible repeat (first | refine blk_drewN ?_ _ | refine blk_drew ?_ | refine blk_alloc ?_ _)); exact BK190.out⟩, ⟨by (with_reducible repeat (first | refine blk_drewN ?_ _ | refine blk_drew ?_ | refine blk_alloc ?_ _)); refine blk_far ?_ NB195_203.out _; (with_reducible repeat (first | refine blk_drewN ?_ _ | refine blk_drew ?_ | refine blk_alloc ?_ _)); refine blk_far ?_ NB195_203.out _; (with_reducible repeat (first | refine blk_drewN ?_ _ | refine blk_drew ?_ | refine blk_alloc ?_ _)); refine blk_far ?_ NB195_203.out _; (with_reducible repeat (first | refine blk_drewN ?_ _ | refine blk_drew ?_ | refine blk_alloc ?_ _)); exact BK195.out⟩, ⟨by (with_reducible repeat (first | refine blk_drewN ?_ _ | refine blk_drew ?_ | refine blk_alloc ?_ _)); refine blk_put (cs := #[.int .i64 t199, .int .i64 t200, .int .i64 0]) ?_ 2 _ rfl; (with_reducible repeat (first | refine blk_drewN ?_ _ | refine blk_drew ?_ | refine blk_alloc ?_ _)); refine blk_put (cs := #[.int .i64 t199, .int .i64 0, .int .i64 0]) ?_ 1 _ rfl; (with_reducible repeat (first | refine blk_drewN ?_ _ | refine blk_drew ?_ | refine blk_alloc ?_ _)); refine blk_put (cs := #[.int .i64 0, .int .i64 0, .int .i64 0]) ?_ 0 _ rfl; (with_reducible repeat (first | refine blk_drewN ?_ _ | refine blk_drew ?_ | refine blk_alloc ?_ _)); exact BK203.out⟩, ⟨by repeat (first | (with_reducible first | exact HB.out | apply below_alloc | apply pw_below_drewN | apply below_drew1 | refine below_set ?_ GE177.out | refine below_set ?_ GE190.out | refine below_set ?_ GE195.out | refine below_set ?_ GE203.out) | exact HB.out)⟩⟩
              ·rw [if_neg c90] at H
               have c90b0 : (t207 == 0) = false := beq_eq_false_iff_ne.mpr c90
               have c90b1 : (t207 != 0) = true := bne_iff_ne.mpr c90
               have H' := Aside0.mk H
               clear H
               go_wp2
               go_meet
               case rel => exact ⟨_, (true), (by first | rfl | (simp; done) | (simp [*]; done)), H', ⟨by have := HJ6.out; have := HJ41.out; have := HJ49.out; first | omega | exact Nat.le_refl _⟩, ⟨by (with_reducible repeat (first | refine blk_drewN ?_ _ | refine blk_drew ?_ | refine blk_alloc ?_ _)); refine blk_far ?_ NB177_203.out _; (with_reducible repeat (first | refine blk_drewN ?_ _ | refine blk_drew ?_ | refine blk_alloc ?_ _)); refine blk_far ?_ NB177_203.out _; (with_reducible repeat (first | refine blk_drewN ?_ _ | refine blk_drew ?_ | refine blk_alloc ?_ _)); refine blk_far ?_ NB177_203.out _; (with_reducible repeat (first | refine blk_drewN ?_ _ | refine blk_drew ?_ | refine blk_alloc ?_ _)); exact BK177.out⟩, ⟨by (with_reducible repeat (first | refine blk_drewN ?_ _ | refine blk_drew ?_ | refine blk_alloc ?_ _)); refine blk_far ?_ NB190_203.out _; (with_reducible repeat (first | refine blk_drewN ?_ _ | refine blk_drew ?_ | refine blk_alloc ?_ _)); refine blk_far ?_ NB190_203.out _; (with_reducible repeat (first | refine blk_drewN ?_ _ | refine blk_drew ?_ | refine blk_alloc ?_ _)); refine blk_far ?_ NB190_203.out _; (with_reducible repeat (first | refine blk_drewN ?_ _ | refine blk_drew ?_ | refine blk_alloc ?_ _)); exact BK190.out⟩, ⟨by (with_reducible repeat (first | refine blk_drewN ?_ _ | refine blk_drew ?_ | refine blk_alloc ?_ _)); refine blk_far ?_ NB195_203.out _; (with_reducible repeat (first | refine blk_drewN ?_ _ | refine blk_drew ?_ | refine blk_alloc ?_ _)); refine blk_far ?_ NB195_203.out _; (with_reducible repeat (first | refine blk_drewN ?_ _ | refine blk_drew ?_ | refine blk_alloc ?_ _)); refine blk_far ?_ NB195_203.out _; (with_reducible repeat (first | refine blk_drewN ?_ _ | refine blk_drew ?_ | refine blk_alloc ?_ _)); exact BK195.out⟩, ⟨by (with_reducible repeat (first | refine blk_drewN ?_ _ | refine blk_drew ?_ | refine blk_alloc ?_ _)); refine blk_put (cs := #[.int .i64 t199, .int .i64 t200, .int .i64 0]) ?_ 2 _ rfl; (with_reducible repeat (first | refine blk_drewN ?_ _ | refine blk_drew ?_ | refine blk_alloc ?_ _)); refine blk_put (cs := #[.int .i64 t199, .int .i64 0, .int .i64 0]) ?_ 1 _ rfl; (with_reducible repeat (first | refine blk_drewN ?_ _ | refine blk_drew ?_ | refine blk_alloc ?_ _)); refine blk_put (cs := #[.int .i64 0, .int .i64 0, .int .i64 0]) ?_ 0 _ rfl; (with_reducible repeat (first | refine blk_drewN ?_ _ | refine blk_drew ?_ | refine blk_alloc ?_ _)); exact BK203.out⟩, ⟨by repeat (first | (with_reducible first | exact HB.out | apply below_alloc | apply pw_below_drewN | apply below_drew1 | refine below_set ?_ GE177.out | refine below_set ?_ GE190.out | refine below_set ?_ GE195.out | refine below_set ?_ GE203.out) | exact HB.out)⟩⟩
             ·rw [if_neg c89] at H
              have c89b0 : (t205 == 0) = false := beq_eq_false_iff_ne.mpr c89
              have c89b1 : (t205 != 0) = true := bne_iff_ne.mpr c89
              have H' := Aside0.mk H
              clear H
              go_wp2
              go_meet
              case rel => exact ⟨_, (true), (by first | rfl | (simp; done) | (simp [*]; done)), H', ⟨by have := HJ6.out; have := HJ41.out; have := HJ49.out; first | omega | exact Nat.le_refl _⟩, ⟨by (with_reducible repeat (first | refine blk_drewN ?_ _ | refine blk_drew ?_ | refine blk_alloc ?_ _)); refine blk_far ?_ NB177_203.out _; (with_reducible repeat (first | refine blk_drewN ?_ _ | refine blk_drew ?_ | refine blk_alloc ?_ _)); refine blk_far ?_ NB177_203.out _; (with_reducible repeat (first | refine blk_drewN ?_ _ | refine blk_drew ?_ | refine blk_alloc ?_ _)); refine blk_far ?_ NB177_203.out _; (with_reducible repeat (first | refine blk_drewN ?_ _ | refine blk_drew ?_ | refine blk_alloc ?_ _)); exact BK177.out⟩, ⟨by (with_reducible repeat (first | refine blk_drewN ?_ _ | refine blk_drew ?_ | refine blk_alloc ?_ _)); refine blk_far ?_ NB190_203.out _; (with_reducible repeat (first | refine blk_drewN ?_ _ | refine blk_drew ?_ | refine blk_alloc ?_ _)); refine blk_far ?_ NB190_203.out _; (with_reducible repeat (first | refine blk_drewN ?_ _ | refine blk_drew ?_ | refine blk_alloc ?_ _)); refine blk_far ?_ NB190_203.out _; (with_reducible repeat (first | refine blk_drewN ?_ _ | refine blk_drew ?_ | refine blk_alloc ?_ _)); exact BK190.out⟩, ⟨by (with_reducible repeat (first | refine blk_drewN ?_ _ | refine blk_drew ?_ | refine blk_alloc ?_ _)); refine blk_far ?_ NB195_203.out _; (with_reducible repeat (first | refine blk_drewN ?_ _ | refine blk_drew ?_ | refine blk_alloc ?_ _)); refine blk_far ?_ NB195_203.out _; (with_reducible repeat (first | refine blk_drewN ?_ _ | refine blk_drew ?_ | refine blk_alloc ?_ _)); refine blk_far ?_ NB195_203.out _; (with_reducible repeat (first | refine blk_drewN ?_ _ | refine blk_drew ?_ | refine blk_alloc ?_ _)); exact BK195.out⟩, ⟨by (with_reducible repeat (first | refine blk_drewN ?_ _ | refine blk_drew ?_ | refine blk_alloc ?_ _)); refine blk_put (cs := #[.int .i64 t199, .int .i64 t200, .int .i64 0]) ?_ 2 _ rfl; (with_reducible repeat (first | refine blk_drewN ?_ _ | refine blk_drew ?_ | refine blk_alloc ?_ _)); refine blk_put (cs := #[.int .i64 t199, .int .i64 0, .int .i64 0]) ?_ 1 _ rfl; (with_reducible repeat (first | refine blk_drewN ?_ _ | refine blk_drew ?_ | refine blk_alloc ?_ _)); refine blk_put (cs := #[.int .i64 0, .int .i64 0, .int .i64 0]) ?_ 0 _ rfl; (with_reducible repeat (first | refine blk_drewN ?_ _ | refine blk_drew ?_ | refine blk_alloc ?_ _)); exact BK203.out⟩, ⟨by repeat (first | (with_reducible first | exact HB.out | apply below_alloc | apply pw_below_drewN | apply below_drew1 | refine below_set ?_ GE177.out | refine below_set ?_ GE190.out | refine below_set ?_ GE195.out | refine below_set ?_ GE203.out) | exact HB.out)⟩⟩
            ·rw [if_neg c88] at H
             have c88b0 : (t202 == 0) = false := beq_eq_false_iff_ne.mpr c88
             have c88b1 : (t202 != 0) = true := bne_iff_ne.mpr c88
             (first | rw [c88b0] | (simp only [i64_w, i32_w]; rw [c88b0]) | skip)
             have H' := Aside0.mk H
             clear H
             go_wp2
             go_meet
             case rel => exact ⟨_, (true), (by first | rfl | (simp; done) | (simp [*]; done)), H', ⟨by have := HJ6.out; have := HJ41.out; have := HJ49.out; first | omega | exact Nat.le_refl _⟩, ⟨by (with_reducible repeat (first | refine blk_drewN ?_ _ | refine blk_drew ?_ | refine blk_alloc ?_ _)); refine blk_far ?_ NB177_203.out _; (with_reducible repeat (first | refine blk_drewN ?_ _ | refine blk_drew ?_ | refine blk_alloc ?_ _)); refine blk_far ?_ NB177_203.out _; (with_reducible repeat (first | refine blk_drewN ?_ _ | refine blk_drew ?_ | refine blk_alloc ?_ _)); refine blk_far ?_ NB177_203.out _; (with_reducible repeat (first | refine blk_drewN ?_ _ | refine blk_drew ?_ | refine blk_alloc ?_ _)); exact BK177.out⟩, ⟨by (with_reducible repeat (first | refine blk_drewN ?_ _ | refine blk_drew ?_ | refine blk_alloc ?_ _)); refine blk_far ?_ NB190_203.out _; (with_reducible repeat (first | refine blk_drewN ?_ _ | refine blk_drew ?_ | refine blk_alloc ?_ _)); refine blk_far ?_ NB190_203.out _; (with_reducible repeat (first | refine blk_drewN ?_ _ | refine blk_drew ?_ | refine blk_alloc ?_ _)); refine blk_far ?_ NB190_203.out _; (with_reducible repeat (first | refine blk_drewN ?_ _ | refine blk_drew ?_ | refine blk_alloc ?_ _)); exact BK190.out⟩, ⟨by (with_reducible repeat (first | refine blk_drewN ?_ _ | refine blk_drew ?_ | refine blk_alloc ?_ _)); refine blk_far ?_ NB195_203.out _; (with_reducible repeat (first | refine blk_drewN ?_ _ | refine blk_drew ?_ | refine blk_alloc ?_ _)); refine blk_far ?_ NB195_203.out _; (with_reducible repeat (first | refine blk_drewN ?_ _ | refine blk_drew ?_ | refine blk_alloc ?_ _)); refine blk_far ?_ NB195_203.out _; (with_reducible repeat (first | refine blk_drewN ?_ _ | refine blk_drew ?_ | refine blk_alloc ?_ _)); exact BK195.out⟩, ⟨by (with_reducible repeat (first | refine blk_drewN ?_ _ | refine blk_drew ?_ | refine blk_alloc ?_ _)); refine blk_put (cs := #[.int .i64 t199, .int .i64 t200, .int .i64 0]) ?_ 2 _ rfl; (with_reducible repeat (first | refine blk_drewN ?_ _ | refine blk_drew ?_ | refine blk_alloc ?_ _)); refine blk_put (cs := #[.int .i64 t199, .int .i64 0, .int .i64 0]) ?_ 1 _ rfl; (with_reducible repeat (first | refine blk_drewN ?_ _ | refine blk_drew ?_ | refine blk_alloc ?_ _)); refine blk_put (cs := #[.int .i64 0, .int .i64 0, .int .i64 0]) ?_ 0 _ rfl; (with_reducible repeat (first | refine blk_drewN ?_ _ | refine blk_drew ?_ | refine blk_alloc ?_ _)); exact BK203.out⟩, ⟨by repeat (first | (with_reducible first | exact HB.out | apply below_alloc | apply pw_below_drewN | apply below_drew1 | refine below_set ?_ GE177.out | refine below_set ?_ GE190.out | refine below_set ?_ GE195.out | refine below_set ?_ GE203.out) | exact HB.out)⟩⟩
           case rest => as_aux_lemma =>
            clear HC81
            try clear c1; try clear c2; try clear p2; try clear c3; try clear c4; try clear c5; try clear c6; try clear p6; try clear c7; try clear c8; try clear c9; try clear c10; try clear c12; try clear c12b0; try clear c12b1; try clear c14; try clear c14b0; try clear c14b1; try clear c15; try clear c15b0; try clear c18; try clear c21; try clear c21b0; try clear c24; try clear c27; try clear c27b0; try clear c30; try clear c35; try clear c40; try clear c43; try clear c43b0; try clear c44; try clear c44b0; try clear c45; try clear c45b0; try clear c46; try clear c53; try clear c57; try clear c58; try clear c62; try clear c62b0; try clear c62b1; try clear c63; try clear c63b0; try clear c63b1; try clear c64; try clear c64b0; try clear c64b1; try clear p64; try clear c65; try clear c65b0; try clear c65b1; try clear c67; try clear c68; try clear c70; try clear c73; try clear c74; try clear c74b0; try clear c74b1; try clear c75; try clear c76; try clear c84; try clear c85; try clear c86; try clear c88; try clear c88b0; try clear c88b1; try clear c89; try clear c89b0; try clear c89b1; try clear c90; try clear c90b0; try clear c90b1; try clear hcz10_0; try clear hcz10_1; try clear hcz10_2; try clear hcz19_0; try clear hcz19_1; try clear hcz19_2; try clear hcz20_0; try clear hcz20_1; try clear hcz20_2; try clear hcz25_0; try clear hcz25_1; try clear hcz25_2; try clear hcz26_0; try clear hcz26_1; try clear hcz26_2; try clear hcz31_0; try clear hcz31_1; try clear hcz31_2; try clear hcz32_0; try clear hcz32_1; try clear hcz32_2; try clear hcz36_0; try clear hcz36_1; try clear hcz36_2; try clear hcz37_0; try clear hcz37_1; try clear hcz37_2; try clear hcz41_0; try clear hcz41_1; try clear hcz41_2; try clear hcz54_0; try clear hcz54_1; try clear hcz54_2; try clear hcz59_0; try clear hcz59_1; try clear hcz59_2; try clear hcz60_0; try clear hcz60_1; try clear hcz60_2; try clear hcz69_0; try clear hcz69_1; try clear hcz69_2; try clear hcz71_0; try clear hcz71_1; try clear hcz71_2; try clear hcz77_0; try clear hcz77_1; try clear hcz77_2; try clear hcz87_0; try clear hcz87_1; try clear hcz87_2; try clear hfz10_0; try clear hfz10_1; try clear hfz10_2; try clear hfz19_0; try clear hfz19_1; try clear hfz19_2; try clear hfz20_0; try clear hfz20_1; try clear hfz20_2; try clear hfz25_0; try clear hfz25_1; try clear hfz25_2; try clear hfz26_0; try clear hfz26_1; try clear hfz26_2; try clear hfz31_0; try clear hfz31_1; try clear hfz31_2; try clear hfz32_0; try clear hfz32_1; try clear hfz32_2; try clear hfz36_0; try clear hfz36_1; try clear hfz36_2; try clear hfz37_0; try clear hfz37_1; try clear hfz37_2; try clear hfz41_0; try clear hfz41_1; try clear hfz41_2; try clear hfz54_0; try clear hfz54_1; try clear hfz54_2; try clear hfz59_0; try clear hfz59_1; try clear hfz59_2; try clear hfz60_0; try clear hfz60_1; try clear hfz60_2; try clear hfz69_0; try clear hfz69_1; try clear hfz69_2; try clear hfz71_0; try clear hfz71_1; try clear hfz71_2; try clear hfz77_0; try clear hfz77_1; try clear hfz77_2; try clear hfz87_0; try clear hfz87_1; try clear hfz87_2
            obtain ⟨kq, x143_80, rfl, HA, HJ80, BK177, BK190, BK195, BK203, HB⟩ := hcut
            cases kq with
            | zero => exact absurd HA.out (by simp [fastilaw12_DaysDates.j3])
            | succ kj80 =>
             have H := HA.out
             clear HA
             simp only [fastilaw12_DaysDates.j3] at H
             by_cases c91 : x143_80 = true
             ·subst c91
              have H1 : (some false) = some r := by rw [if_pos rfl] at H; exact H
              clear H
              have H := H1
              clear H1
              obtain rfl := Option.some.inj H
              go_wp2
              go_ret
              exact ⟨by first | rfl | (simp [errW_none, errW_some] <;> rfl) | (simp [*, errW_none, errW_some] <;> rfl), by repeat (first | (with_reducible first | exact HB.out | apply below_alloc | apply pw_below_drewN | apply below_drew1 | refine below_set ?_ GE177.out | refine below_set ?_ GE190.out | refine below_set ?_ GE195.out | refine below_set ?_ GE203.out) | exact HB.out)⟩
             ·replace c91 := Bool.eq_false_iff.mpr c91
              subst c91
              have H1 : (if t201 = 1 then (if t187 < 12 then (if t199 = t186 then (if t200 = (wrap64 (t187 + 1)) then (some (decide (t188 ≥ 28))) else (some false)) else (some false)) else (if t199 = (wrap64 (t186 + 1)) then (if t200 = 1 then (some (t188 == 31)) else (some false)) else (some false))) else (if t199 = t186 then (if t200 = t187 then (some (t201 == (wrap64 (t188 + 1)))) else (some false)) else (some false))) = some r := by rw [if_neg (show ¬ (false = true) by decide)] at H; exact H
              clear H
              have H := H1
              clear H1
              by_cases c92 : t201 = 1
              ·rw [if_pos c92] at H
               have c92b0 : (t201 == 1) = true := beq_iff_eq.mpr c92
               have c92b1 : (t201 != 1) = false := bne_eq_false_iff_eq.mpr c92
               clear c92
               by_cases c93 : t187 < 12
               ·rw [if_pos c93] at H
                have c93b0 : decide (t187 < 12) = true := decide_eq_true c93
                clear c93
                by_cases c94 : t199 = t186
                ·rw [if_pos c94] at H
                 have c94b0 : (t199 == t186) = true := beq_iff_eq.mpr c94
                 have c94b1 : (t199 != t186) = false := bne_eq_false_iff_eq.mpr c94
                 clear c94
                 by_cases c95 : t200 = (wrap64 (t187 + 1))
                 ·rw [if_pos c95] at H
                  have c95b0 : (t200 == (wrap64 (t187 + 1))) = true := beq_iff_eq.mpr c95
                  have c95b1 : (t200 != (wrap64 (t187 + 1))) = false := bne_eq_false_iff_eq.mpr c95
                  clear c95
                  obtain rfl := Option.some.inj H
                  have hnb96 := NB203_177.out
                  have hnc96 := NB177_203.out
                  have hnb97 := NB203_190.out
                  have hnc97 := NB190_203.out
                  have hnb98 := NB203_195.out
                  have hnc98 := NB195_203.out
                  have hcz99_0 : wc.cell? ⟨gb203, 0, none⟩ = some (.int .i64 t199) := (blk_cell BK203.out 0).trans rfl
                  have hcz99_1 : wc.cell? ⟨gb203, 1, none⟩ = some (.int .i64 t200) := (blk_cell BK203.out 1).trans rfl
                  have hcz99_2 : wc.cell? ⟨gb203, 2, none⟩ = some (.int .i64 t201) := (blk_cell BK203.out 2).trans rfl
                  have hfz99_0 := blk_frozen BK203.out 0
                  have hfz99_1 := blk_frozen BK203.out 1
                  have hfz99_2 := blk_frozen BK203.out 2
                  have hnb100 := NB190_177.out
                  have hnc100 := NB177_190.out
                  have hnb101 := NB190_195.out
                  have hnc101 := NB195_190.out
                  have hcz102_0 : wc.cell? ⟨gb190, 0, none⟩ = some (.int .i64 t186) := (blk_cell BK190.out 0).trans rfl
                  have hcz102_1 : wc.cell? ⟨gb190, 1, none⟩ = some (.int .i64 t187) := (blk_cell BK190.out 1).trans rfl
                  have hcz102_2 : wc.cell? ⟨gb190, 2, none⟩ = some (.int .i64 t188) := (blk_cell BK190.out 2).trans rfl
                  have hfz102_0 := blk_frozen BK190.out 0
                  have hfz102_1 := blk_frozen BK190.out 1
                  have hfz102_2 := blk_frozen BK190.out 2
                  go_wp2
                  go_ret
                  exact ⟨by first | rfl | (simp [errW_none, errW_some] <;> rfl) | (simp [*, errW_none, errW_some] <;> rfl), by repeat (first | (with_reducible first | exact HB.out | apply below_alloc | apply pw_below_drewN | apply below_drew1 | refine below_set ?_ GE177.out | refine below_set ?_ GE190.out | refine below_set ?_ GE195.out | refine below_set ?_ GE203.out) | exact HB.out)⟩
                 ·rw [if_neg c95] at H
                  have c95b0 : (t200 == (wrap64 (t187 + 1))) = false := beq_eq_false_iff_ne.mpr c95
                  have c95b1 : (t200 != (wrap64 (t187 + 1))) = true := bne_iff_ne.mpr c95
                  obtain rfl := Option.some.inj H
                  have hnb103 := NB203_177.out
                  have hnc103 := NB177_203.out
                  have hnb104 := NB203_190.out
                  have hnc104 := NB190_203.out
                  have hnb105 := NB203_195.out
                  have hnc105 := NB195_203.out
                  have hcz106_0 : wc.cell? ⟨gb203, 0, none⟩ = some (.int .i64 t199) := (blk_cell BK203.out 0).trans rfl
                  have hcz106_1 : wc.cell? ⟨gb203, 1, none⟩ = some (.int .i64 t200) := (blk_cell BK203.out 1).trans rfl
                  have hcz106_2 : wc.cell? ⟨gb203, 2, none⟩ = some (.int .i64 t201) := (blk_cell BK203.out 2).trans rfl
                  have hfz106_0 := blk_frozen BK203.out 0
                  have hfz106_1 := blk_frozen BK203.out 1
                  have hfz106_2 := blk_frozen BK203.out 2
                  have hnb107 := NB190_177.out
                  have hnc107 := NB177_190.out
                  have hnb108 := NB190_195.out
                  have hnc108 := NB195_190.out
                  have hcz109_0 : wc.cell? ⟨gb190, 0, none⟩ = some (.int .i64 t186) := (blk_cell BK190.out 0).trans rfl
                  have hcz109_1 : wc.cell? ⟨gb190, 1, none⟩ = some (.int .i64 t187) := (blk_cell BK190.out 1).trans rfl
                  have hcz109_2 : wc.cell? ⟨gb190, 2, none⟩ = some (.int .i64 t188) := (blk_cell BK190.out 2).trans rfl
                  have hfz109_0 := blk_frozen BK190.out 0
                  have hfz109_1 := blk_frozen BK190.out 1
                  have hfz109_2 := blk_frozen BK190.out 2
                  go_wp2
                  go_ret
                  exact ⟨by first | rfl | (simp [errW_none, errW_some] <;> rfl) | (simp [*, errW_none, errW_some] <;> rfl), by repeat (first | (with_reducible first | exact HB.out | apply below_alloc | apply pw_below_drewN | apply below_drew1 | refine below_set ?_ GE177.out | refine below_set ?_ GE190.out | refine below_set ?_ GE195.out | refine below_set ?_ GE203.out) | exact HB.out)⟩
                ·rw [if_neg c94] at H
                 have c94b0 : (t199 == t186) = false := beq_eq_false_iff_ne.mpr c94
                 have c94b1 : (t199 != t186) = true := bne_iff_ne.mpr c94
                 obtain rfl := Option.some.inj H
                 have hnb110 := NB203_177.out
                 have hnc110 := NB177_203.out
                 have hnb111 := NB203_190.out
                 have hnc111 := NB190_203.out
                 have hnb112 := NB203_195.out
                 have hnc112 := NB195_203.out
                 have hcz113_0 : wc.cell? ⟨gb203, 0, none⟩ = some (.int .i64 t199) := (blk_cell BK203.out 0).trans rfl
                 have hcz113_1 : wc.cell? ⟨gb203, 1, none⟩ = some (.int .i64 t200) := (blk_cell BK203.out 1).trans rfl
                 have hcz113_2 : wc.cell? ⟨gb203, 2, none⟩ = some (.int .i64 t201) := (blk_cell BK203.out 2).trans rfl
                 have hfz113_0 := blk_frozen BK203.out 0
                 have hfz113_1 := blk_frozen BK203.out 1
                 have hfz113_2 := blk_frozen BK203.out 2
                 have hnb114 := NB190_177.out
                 have hnc114 := NB177_190.out
                 have hnb115 := NB190_195.out
                 have hnc115 := NB195_190.out
                 have hcz116_0 : wc.cell? ⟨gb190, 0, none⟩ = some (.int .i64 t186) := (blk_cell BK190.out 0).trans rfl
                 have hcz116_1 : wc.cell? ⟨gb190, 1, none⟩ = some (.int .i64 t187) := (blk_cell BK190.out 1).trans rfl
                 have hcz116_2 : wc.cell? ⟨gb190, 2, none⟩ = some (.int .i64 t188) := (blk_cell BK190.out 2).trans rfl
                 have hfz116_0 := blk_frozen BK190.out 0
                 have hfz116_1 := blk_frozen BK190.out 1
                 have hfz116_2 := blk_frozen BK190.out 2
                 go_wp2
                 go_ret
                 exact ⟨by first | rfl | (simp [errW_none, errW_some] <;> rfl) | (simp [*, errW_none, errW_some] <;> rfl), by repeat (first | (with_reducible first | exact HB.out | apply below_alloc | apply pw_below_drewN | apply below_drew1 | refine below_set ?_ GE177.out | refine below_set ?_ GE190.out | refine below_set ?_ GE195.out | refine below_set ?_ GE203.out) | exact HB.out)⟩
               ·rw [if_neg c93] at H
                have c93b0 : decide (t187 < 12) = false := decide_eq_false c93
                clear c93
                by_cases c117 : t199 = (wrap64 (t186 + 1))
                ·rw [if_pos c117] at H
                 have c117b0 : (t199 == (wrap64 (t186 + 1))) = true := beq_iff_eq.mpr c117
                 have c117b1 : (t199 != (wrap64 (t186 + 1))) = false := bne_eq_false_iff_eq.mpr c117
                 clear c117
                 by_cases c118 : t200 = 1
                 ·rw [if_pos c118] at H
                  have c118b0 : (t200 == 1) = true := beq_iff_eq.mpr c118
                  have c118b1 : (t200 != 1) = false := bne_eq_false_iff_eq.mpr c118
                  clear c118
                  obtain rfl := Option.some.inj H
                  have hnb119 := NB203_177.out
                  have hnc119 := NB177_203.out
                  have hnb120 := NB203_190.out
                  have hnc120 := NB190_203.out
                  have hnb121 := NB203_195.out
                  have hnc121 := NB195_203.out
                  have hcz122_0 : wc.cell? ⟨gb203, 0, none⟩ = some (.int .i64 t199) := (blk_cell BK203.out 0).trans rfl
                  have hcz122_1 : wc.cell? ⟨gb203, 1, none⟩ = some (.int .i64 t200) := (blk_cell BK203.out 1).trans rfl
                  have hcz122_2 : wc.cell? ⟨gb203, 2, none⟩ = some (.int .i64 t201) := (blk_cell BK203.out 2).trans rfl
                  have hfz122_0 := blk_frozen BK203.out 0
                  have hfz122_1 := blk_frozen BK203.out 1
                  have hfz122_2 := blk_frozen BK203.out 2
                  have hnb123 := NB190_177.out
                  have hnc123 := NB177_190.out
                  have hnb124 := NB190_195.out
                  have hnc124 := NB195_190.out
                  have hcz125_0 : wc.cell? ⟨gb190, 0, none⟩ = some (.int .i64 t186) := (blk_cell BK190.out 0).trans rfl
                  have hcz125_1 : wc.cell? ⟨gb190, 1, none⟩ = some (.int .i64 t187) := (blk_cell BK190.out 1).trans rfl
                  have hcz125_2 : wc.cell? ⟨gb190, 2, none⟩ = some (.int .i64 t188) := (blk_cell BK190.out 2).trans rfl
                  have hfz125_0 := blk_frozen BK190.out 0
                  have hfz125_1 := blk_frozen BK190.out 1
                  have hfz125_2 := blk_frozen BK190.out 2
                  go_wp2
                  go_ret
                  exact ⟨by first | rfl | (simp [errW_none, errW_some] <;> rfl) | (simp [*, errW_none, errW_some] <;> rfl), by repeat (first | (with_reducible first | exact HB.out | apply below_alloc | apply pw_below_drewN | apply below_drew1 | refine below_set ?_ GE177.out | refine below_set ?_ GE190.out | refine below_set ?_ GE195.out | refine below_set ?_ GE203.out) | exact HB.out)⟩
                 ·rw [if_neg c118] at H
                  have c118b0 : (t200 == 1) = false := beq_eq_false_iff_ne.mpr c118
                  have c118b1 : (t200 != 1) = true := bne_iff_ne.mpr c118
                  obtain rfl := Option.some.inj H
                  have hnb126 := NB203_177.out
                  have hnc126 := NB177_203.out
                  have hnb127 := NB203_190.out
                  have hnc127 := NB190_203.out
                  have hnb128 := NB203_195.out
                  have hnc128 := NB195_203.out
                  have hcz129_0 : wc.cell? ⟨gb203, 0, none⟩ = some (.int .i64 t199) := (blk_cell BK203.out 0).trans rfl
                  have hcz129_1 : wc.cell? ⟨gb203, 1, none⟩ = some (.int .i64 t200) := (blk_cell BK203.out 1).trans rfl
                  have hcz129_2 : wc.cell? ⟨gb203, 2, none⟩ = some (.int .i64 t201) := (blk_cell BK203.out 2).trans rfl
                  have hfz129_0 := blk_frozen BK203.out 0
                  have hfz129_1 := blk_frozen BK203.out 1
                  have hfz129_2 := blk_frozen BK203.out 2
                  have hnb130 := NB190_177.out
                  have hnc130 := NB177_190.out
                  have hnb131 := NB190_195.out
                  have hnc131 := NB195_190.out
                  have hcz132_0 : wc.cell? ⟨gb190, 0, none⟩ = some (.int .i64 t186) := (blk_cell BK190.out 0).trans rfl
                  have hcz132_1 : wc.cell? ⟨gb190, 1, none⟩ = some (.int .i64 t187) := (blk_cell BK190.out 1).trans rfl
                  have hcz132_2 : wc.cell? ⟨gb190, 2, none⟩ = some (.int .i64 t188) := (blk_cell BK190.out 2).trans rfl
                  have hfz132_0 := blk_frozen BK190.out 0
                  have hfz132_1 := blk_frozen BK190.out 1
                  have hfz132_2 := blk_frozen BK190.out 2
                  go_wp2
                  go_ret
                  exact ⟨by first | rfl | (simp [errW_none, errW_some] <;> rfl) | (simp [*, errW_none, errW_some] <;> rfl), by repeat (first | (with_reducible first | exact HB.out | apply below_alloc | apply pw_below_drewN | apply below_drew1 | refine below_set ?_ GE177.out | refine below_set ?_ GE190.out | refine below_set ?_ GE195.out | refine below_set ?_ GE203.out) | exact HB.out)⟩
                ·rw [if_neg c117] at H
                 have c117b0 : (t199 == (wrap64 (t186 + 1))) = false := beq_eq_false_iff_ne.mpr c117
                 have c117b1 : (t199 != (wrap64 (t186 + 1))) = true := bne_iff_ne.mpr c117
                 obtain rfl := Option.some.inj H
                 have hnb133 := NB203_177.out
                 have hnc133 := NB177_203.out
                 have hnb134 := NB203_190.out
                 have hnc134 := NB190_203.out
                 have hnb135 := NB203_195.out
                 have hnc135 := NB195_203.out
                 have hcz136_0 : wc.cell? ⟨gb203, 0, none⟩ = some (.int .i64 t199) := (blk_cell BK203.out 0).trans rfl
                 have hcz136_1 : wc.cell? ⟨gb203, 1, none⟩ = some (.int .i64 t200) := (blk_cell BK203.out 1).trans rfl
                 have hcz136_2 : wc.cell? ⟨gb203, 2, none⟩ = some (.int .i64 t201) := (blk_cell BK203.out 2).trans rfl
                 have hfz136_0 := blk_frozen BK203.out 0
                 have hfz136_1 := blk_frozen BK203.out 1
                 have hfz136_2 := blk_frozen BK203.out 2
                 have hnb137 := NB190_177.out
                 have hnc137 := NB177_190.out
                 have hnb138 := NB190_195.out
                 have hnc138 := NB195_190.out
                 have hcz139_0 : wc.cell? ⟨gb190, 0, none⟩ = some (.int .i64 t186) := (blk_cell BK190.out 0).trans rfl
                 have hcz139_1 : wc.cell? ⟨gb190, 1, none⟩ = some (.int .i64 t187) := (blk_cell BK190.out 1).trans rfl
                 have hcz139_2 : wc.cell? ⟨gb190, 2, none⟩ = some (.int .i64 t188) := (blk_cell BK190.out 2).trans rfl
                 have hfz139_0 := blk_frozen BK190.out 0
                 have hfz139_1 := blk_frozen BK190.out 1
                 have hfz139_2 := blk_frozen BK190.out 2
                 go_wp2
                 go_ret
                 exact ⟨by first | rfl | (simp [errW_none, errW_some] <;> rfl) | (simp [*, errW_none, errW_some] <;> rfl), by repeat (first | (with_reducible first | exact HB.out | apply below_alloc | apply pw_below_drewN | apply below_drew1 | refine below_set ?_ GE177.out | refine below_set ?_ GE190.out | refine below_set ?_ GE195.out | refine below_set ?_ GE203.out) | exact HB.out)⟩
              ·rw [if_neg c92] at H
               have c92b0 : (t201 == 1) = false := beq_eq_false_iff_ne.mpr c92
               have c92b1 : (t201 != 1) = true := bne_iff_ne.mpr c92
               by_cases c140 : t199 = t186
               ·rw [if_pos c140] at H
                have c140b0 : (t199 == t186) = true := beq_iff_eq.mpr c140
                have c140b1 : (t199 != t186) = false := bne_eq_false_iff_eq.mpr c140
                clear c140
                by_cases c141 : t200 = t187
                ·rw [if_pos c141] at H
                 have c141b0 : (t200 == t187) = true := beq_iff_eq.mpr c141
                 have c141b1 : (t200 != t187) = false := bne_eq_false_iff_eq.mpr c141
                 clear c141
                 obtain rfl := Option.some.inj H
                 have hnb142 := NB203_177.out
                 have hnc142 := NB177_203.out
                 have hnb143 := NB203_190.out
                 have hnc143 := NB190_203.out
                 have hnb144 := NB203_195.out
                 have hnc144 := NB195_203.out
                 have hcz145_0 : wc.cell? ⟨gb203, 0, none⟩ = some (.int .i64 t199) := (blk_cell BK203.out 0).trans rfl
                 have hcz145_1 : wc.cell? ⟨gb203, 1, none⟩ = some (.int .i64 t200) := (blk_cell BK203.out 1).trans rfl
                 have hcz145_2 : wc.cell? ⟨gb203, 2, none⟩ = some (.int .i64 t201) := (blk_cell BK203.out 2).trans rfl
                 have hfz145_0 := blk_frozen BK203.out 0
                 have hfz145_1 := blk_frozen BK203.out 1
                 have hfz145_2 := blk_frozen BK203.out 2
                 have hnb146 := NB190_177.out
                 have hnc146 := NB177_190.out
                 have hnb147 := NB190_195.out
                 have hnc147 := NB195_190.out
                 have hcz148_0 : wc.cell? ⟨gb190, 0, none⟩ = some (.int .i64 t186) := (blk_cell BK190.out 0).trans rfl
                 have hcz148_1 : wc.cell? ⟨gb190, 1, none⟩ = some (.int .i64 t187) := (blk_cell BK190.out 1).trans rfl
                 have hcz148_2 : wc.cell? ⟨gb190, 2, none⟩ = some (.int .i64 t188) := (blk_cell BK190.out 2).trans rfl
                 have hfz148_0 := blk_frozen BK190.out 0
                 have hfz148_1 := blk_frozen BK190.out 1
                 have hfz148_2 := blk_frozen BK190.out 2
                 go_wp2
                 go_ret
                 exact ⟨by first | rfl | (simp [errW_none, errW_some] <;> rfl) | (simp [*, errW_none, errW_some] <;> rfl), by repeat (first | (with_reducible first | exact HB.out | apply below_alloc | apply pw_below_drewN | apply below_drew1 | refine below_set ?_ GE177.out | refine below_set ?_ GE190.out | refine below_set ?_ GE195.out | refine below_set ?_ GE203.out) | exact HB.out)⟩
                ·rw [if_neg c141] at H
                 have c141b0 : (t200 == t187) = false := beq_eq_false_iff_ne.mpr c141
                 have c141b1 : (t200 != t187) = true := bne_iff_ne.mpr c141
                 obtain rfl := Option.some.inj H
                 have hnb149 := NB203_177.out
                 have hnc149 := NB177_203.out
                 have hnb150 := NB203_190.out
                 have hnc150 := NB190_203.out
                 have hnb151 := NB203_195.out
                 have hnc151 := NB195_203.out
                 have hcz152_0 : wc.cell? ⟨gb203, 0, none⟩ = some (.int .i64 t199) := (blk_cell BK203.out 0).trans rfl
                 have hcz152_1 : wc.cell? ⟨gb203, 1, none⟩ = some (.int .i64 t200) := (blk_cell BK203.out 1).trans rfl
                 have hcz152_2 : wc.cell? ⟨gb203, 2, none⟩ = some (.int .i64 t201) := (blk_cell BK203.out 2).trans rfl
                 have hfz152_0 := blk_frozen BK203.out 0
                 have hfz152_1 := blk_frozen BK203.out 1
                 have hfz152_2 := blk_frozen BK203.out 2
                 have hnb153 := NB190_177.out
                 have hnc153 := NB177_190.out
                 have hnb154 := NB190_195.out
                 have hnc154 := NB195_190.out
                 have hcz155_0 : wc.cell? ⟨gb190, 0, none⟩ = some (.int .i64 t186) := (blk_cell BK190.out 0).trans rfl
                 have hcz155_1 : wc.cell? ⟨gb190, 1, none⟩ = some (.int .i64 t187) := (blk_cell BK190.out 1).trans rfl
                 have hcz155_2 : wc.cell? ⟨gb190, 2, none⟩ = some (.int .i64 t188) := (blk_cell BK190.out 2).trans rfl
                 have hfz155_0 := blk_frozen BK190.out 0
                 have hfz155_1 := blk_frozen BK190.out 1
                 have hfz155_2 := blk_frozen BK190.out 2
                 go_wp2
                 go_ret
                 exact ⟨by first | rfl | (simp [errW_none, errW_some] <;> rfl) | (simp [*, errW_none, errW_some] <;> rfl), by repeat (first | (with_reducible first | exact HB.out | apply below_alloc | apply pw_below_drewN | apply below_drew1 | refine below_set ?_ GE177.out | refine below_set ?_ GE190.out | refine below_set ?_ GE195.out | refine below_set ?_ GE203.out) | exact HB.out)⟩
               ·rw [if_neg c140] at H
                have c140b0 : (t199 == t186) = false := beq_eq_false_iff_ne.mpr c140
                have c140b1 : (t199 != t186) = true := bne_iff_ne.mpr c140
                obtain rfl := Option.some.inj H
                have hnb156 := NB203_177.out
                have hnc156 := NB177_203.out
                have hnb157 := NB203_190.out
                have hnc157 := NB190_203.out
                have hnb158 := NB203_195.out
                have hnc158 := NB195_203.out
                have hcz159_0 : wc.cell? ⟨gb203, 0, none⟩ = some (.int .i64 t199) := (blk_cell BK203.out 0).trans rfl
                have hcz159_1 : wc.cell? ⟨gb203, 1, none⟩ = some (.int .i64 t200) := (blk_cell BK203.out 1).trans rfl
                have hcz159_2 : wc.cell? ⟨gb203, 2, none⟩ = some (.int .i64 t201) := (blk_cell BK203.out 2).trans rfl
                have hfz159_0 := blk_frozen BK203.out 0
                have hfz159_1 := blk_frozen BK203.out 1
                have hfz159_2 := blk_frozen BK203.out 2
                have hnb160 := NB190_177.out
                have hnc160 := NB177_190.out
                have hnb161 := NB190_195.out
                have hnc161 := NB195_190.out
                have hcz162_0 : wc.cell? ⟨gb190, 0, none⟩ = some (.int .i64 t186) := (blk_cell BK190.out 0).trans rfl
                have hcz162_1 : wc.cell? ⟨gb190, 1, none⟩ = some (.int .i64 t187) := (blk_cell BK190.out 1).trans rfl
                have hcz162_2 : wc.cell? ⟨gb190, 2, none⟩ = some (.int .i64 t188) := (blk_cell BK190.out 2).trans rfl
                have hfz162_0 := blk_frozen BK190.out 0
                have hfz162_1 := blk_frozen BK190.out 1
                have hfz162_2 := blk_frozen BK190.out 2
                go_wp2
                go_ret
                exact ⟨by first | rfl | (simp [errW_none, errW_some] <;> rfl) | (simp [*, errW_none, errW_some] <;> rfl), by repeat (first | (with_reducible first | exact HB.out | apply below_alloc | apply pw_below_drewN | apply below_drew1 | refine below_set ?_ GE177.out | refine below_set ?_ GE190.out | refine below_set ?_ GE195.out | refine below_set ?_ GE203.out) | exact HB.out)⟩
 ·replace c5 := Bool.eq_false_iff.mpr c5
  subst c5
  have H1 : (some false) = some r := by rw [if_neg (show ¬ (false = true) by decide)] at H; exact H
  clear H
  have H := H1
  clear H1
  obtain rfl := Option.some.inj H
  go_enter Tryd.func6, Tryd.ntmps6
  go_wp2_with (first | ((with_reducible refine gate_dst (N := 5) rfl ?_); refine box_event ?hg (N := 5) ?hd (cs := #[.int .i64 a2_0, .int .i64 a2_1, .int .i64 a2_2]) (t := 23) ?hr ?_; (case hd => rfl); (case hg => rfl); (case hr => first | (go_simp; done) | (go_simp; rfl)); intro gb177 hg w163 hbox hb; have n0_ := Aside0.mk (below_step (by repeat (first | (with_reducible first | exact HB.out | apply below_alloc | apply pw_below_drewN | apply below_drew1) | exact HB.out)) hb); have n1_ := Aside0.mk (hbox); have n2_ := Aside0.mk ((by rw [hg]; exact (below_size (by repeat (first | (with_reducible first | exact HB.out | apply below_alloc | apply pw_below_drewN | apply below_drew1) | exact HB.out))) : w.heap.size ≤ gb177)); have n3_ := Aside0.mk ((by rw [hg]; exact (below_size (by repeat (first | (with_reducible first | exact HB.out | apply below_alloc | apply pw_below_drewN | apply below_drew1) | exact HB.out))) : w.heap.size ≤ gb177)); clear HB; have HB := n0_; have BK177 := n1_; have GW177 := n2_; have GE177 := n3_; clear n0_ n1_ n2_ n3_; clear hb hbox hg) | ((with_reducible refine gate_callee (f := 9) rfl ?_); refine goesL_ (some 23) rfl rfl Tryd.func9 (by kernel_rfl) rfl #[] rfl (by (try simp only [List.map_toArray, List.map_cons, List.map_nil]); first | done | rfl | (simp only [List.length_drop, List.length_take]; rfl)) ?_; (with_reducible refine (fastilaw12_sane.calls  false _ (GL.gl HGL.out (by repeat (first | (with_reducible first | exact HB.out | apply below_alloc | apply pw_below_drewN | apply below_drew1 | refine below_set ?_ GE177.out) | exact HB.out))) A4.out).mono ?_); rintro e w164 ⟨rfl, hb⟩; refine ⟨_, rfl, ?_⟩; have n0_ := Aside0.mk (blk_below (g := gb177) (o := .cells #[.int .i64 a2_0, .int .i64 a2_1, .int .i64 a2_2] 23 (0, 0)) (by (with_reducible repeat (first | refine blk_drewN ?_ _ | refine blk_drew ?_ | refine blk_alloc ?_ _)); exact BK177.out) hb); have n1_ := Aside0.mk (below_step (by repeat (first | (with_reducible first | exact HB.out | apply below_alloc | apply pw_below_drewN | apply below_drew1 | refine below_set ?_ GE177.out) | exact HB.out)) hb); clear BK177; clear HB; have BK177 := n0_; have HB := n1_; clear n0_ n1_; (try clear hb); (try clear hb2); (try clear hk); (try clear hi)))
  go_ret
  exact ⟨by first | rfl | (simp [errW_none, errW_some] <;> rfl) | (simp [*, errW_none, errW_some] <;> rfl), by repeat (first | (with_reducible first | exact HB.out | apply below_alloc | apply pw_below_drewN | apply below_drew1 | refine below_set ?_ GE177.out) | exact HB.out)⟩

end Go.Proofs.YtpodgkmgameocaaDoor.X
