/- Proved here: for functions of the program and of the reference, what each call returns (theorems '.calls'), under the conditions that each theorem names. Printed by this project's own driver over the kit's printer; parts marked EXT are written by hand. Lean checks it. -/
import Derived.Test.YtaadhandkljcdaaX0
import Derived.Test.YtaadhandkljcdaaX17
namespace Go.Proofs.Ytaadhandkljcdaa.X
open Go.RowKit Go.Proofs.YtaadhandkljcdaaW.PrintWords Go.Proofs.YtaadhandkljcdaaW.PrintLast Go.Proofs.YtaadhandkljcdaaW.PrintMore
attribute [local go_sem] max2_int min2_int max_two min_two max_three min_three max_four min_four   -- for this text's walks alone
set_option linter.unusedVariables false
set_option linter.unusedSimpArgs false

/-! ### fastiref23_play: function 31 -/
mutual
def fastiref23_play.l0 : Nat → List (S42) → List (S45) → Int → List Int → List Int → List Bool → Option (List Int × List Int × List Bool × Bool)
  | 0, _, _, _, _, _, _ => none
  | k + 1, x1, x2, x9, x315000, x315001, x315002 => if x9 < (x1.length : Int) then (if x315000.length < 17592186044416 then (if x315001.length < 17592186044416 then (fastiref23_play.l0 k x1 x2 (wrap64 (x9 + 1)) (x315000 ++ [(-1)]) (x315001 ++ [0]) x315002) else (none)) else (none)) else (fastiref23_play.l1 k x1 x2 0 x315000 x315001 x315002)
def fastiref23_play.l1 : Nat → List (S42) → List (S45) → Int → List Int → List Int → List Bool → Option (List Int × List Int × List Bool × Bool)
  | 0, _, _, _, _, _, _ => none
  | k + 1, x1, x2, x10, x315000, x315001, x315002 => if x10 < (x2.length : Int) then (if 0 ≤ x10 then (if ((rd_T45 x2 x10).f0) < 0 then (fastiref23_play.j2 k x1 x2 x10 true x315000 x315001 x315002 ((rd_T45 x2 x10).f0) ((rd_T45 x2 x10).f1) ((rd_T45 x2 x10).f2)) else (if ((rd_T45 x2 x10).f0) ≥ (x1.length : Int) then (fastiref23_play.j2 k x1 x2 x10 true x315000 x315001 x315002 ((rd_T45 x2 x10).f0) ((rd_T45 x2 x10).f1) ((rd_T45 x2 x10).f2)) else (if ((rd_T45 x2 x10).f1) < 0 then (fastiref23_play.j2 k x1 x2 x10 true x315000 x315001 x315002 ((rd_T45 x2 x10).f0) ((rd_T45 x2 x10).f1) ((rd_T45 x2 x10).f2)) else (if ((rd_T45 x2 x10).f1) > 99 then (fastiref23_play.j2 k x1 x2 x10 true x315000 x315001 x315002 ((rd_T45 x2 x10).f0) ((rd_T45 x2 x10).f1) ((rd_T45 x2 x10).f2)) else (if ((rd_T45 x2 x10).f2) < 0 then (fastiref23_play.j2 k x1 x2 x10 true x315000 x315001 x315002 ((rd_T45 x2 x10).f0) ((rd_T45 x2 x10).f1) ((rd_T45 x2 x10).f2)) else (fastiref23_play.j2 k x1 x2 x10 (decide (((rd_T45 x2 x10).f2) > 99)) x315000 x315001 x315002 ((rd_T45 x2 x10).f0) ((rd_T45 x2 x10).f1) ((rd_T45 x2 x10).f2))))))) else (none)) else (some (x315000, x315001, x315002, true))
def fastiref23_play.j2 : Nat → List (S42) → List (S45) → Int → Bool → List Int → List Int → List Bool → Int → Int → Int → Option (List Int × List Int × List Bool × Bool)
  | 0, _, _, _, _, _, _, _, _, _, _ => none
  | k + 1, x1, x2, x10, x72, x315000, x315001, x315002, x323000, x323001, x323002 => if x72 = true then (some (x315000, x315001, x315002, false)) else ((fastiref23_ready.f x1 x315000 x315001 x315002 x323000).bind fun t323 => (if t323 = true then (if 0 ≤ x323000 then (if x323000 < (x1.length : Int) then ((fastiref23_entrant.f ((rd_T42 x1 x323000).f1.f0) ((rd_T42 x1 x323000).f1.f1) ((rd_T42 x1 x323000).f1.f2) x315000).bind fun t325 => ((fastiref23_entrant.f ((rd_T42 x1 x323000).f2.f0) ((rd_T42 x1 x323000).f2.f1) ((rd_T42 x1 x323000).f2.f2) x315000).bind fun t327 => (if x323000 < (x315001.length : Int) then (if (Int.tmod (rd x315001 x323000) 2) = 1 then (fastiref23_play.j3 k x1 x2 x10 t327 t325 x315000 x315001 x315002 x323000 x323001 x323002) else (fastiref23_play.j3 k x1 x2 x10 t325 t327 x315000 x315001 x315002 x323000 x323001 x323002)) else (none)))) else (none)) else (none)) else (some (x315000, x315001, x315002, false))))
def fastiref23_play.j3 : Nat → List (S42) → List (S45) → Int → Int → Int → List Int → List Int → List Bool → Int → Int → Int → Option (List Int × List Int × List Bool × Bool)
  | 0, _, _, _, _, _, _, _, _, _, _, _ => none
  | k + 1, x1, x2, x10, x12, x13, x315000, x315001, x315002, x323000, x323001, x323002 => if 0 ≤ x323000 then (if x323000 < (x315001.length : Int) then ((some (x315001.set (x323000 : Int).toNat (wrap64 ((rd x315001 x323000) + 1)) : List Int)).bind fun y330 => (if x323001 > x323002 then (if x323000 < (x315000.length : Int) then ((some (x315000.set (x323000 : Int).toNat x12 : List Int)).bind fun y331 => (if 0 ≤ x13 then (if x13 < (x315002.length : Int) then ((some (x315002.set (x13 : Int).toNat true : List Bool)).bind fun y332 => (if x323001 < x323002 then (if 0 ≤ x12 then (if x12 < (x315002.length : Int) then (fastiref23_play.l1 k x1 x2 (wrap64 (x10 + 1)) (y331.set (x323000 : Int).toNat x13) y330 (y332.set (x12 : Int).toNat true)) else (none)) else (none)) else (fastiref23_play.l1 k x1 x2 (wrap64 (x10 + 1)) y331 y330 y332))) else (none)) else (none))) else (none)) else (if x323001 < x323002 then (if x323000 < (x315000.length : Int) then (if 0 ≤ x12 then (if x12 < (x315002.length : Int) then (fastiref23_play.l1 k x1 x2 (wrap64 (x10 + 1)) (x315000.set (x323000 : Int).toNat x13) y330 (x315002.set (x12 : Int).toNat true)) else (none)) else (none)) else (none)) else (fastiref23_play.l1 k x1 x2 (wrap64 (x10 + 1)) x315000 y330 x315002)))) else (none)) else (none)
end
def fastiref23_play.f (k : Nat) (a0 : Int) (l1 : List (S42)) (l2 : List (S45)) : Option (List Int × List Int × List Bool × Bool) := if 0 ≤ a0 then (if (a0 : Int).toNat ≤ 281474976710656 then (fastiref23_play.l0 k l1 l2 0 ([] : List Int) ([] : List Int) (List.replicate (a0 : Int).toNat false)) else (none)) else (none)
theorem fastiref23_play.mono_l : ∀ k, (∀ y0 y1 y2 y3 y4 y5, LeO (fastiref23_play.l0 k y0 y1 y2 y3 y4 y5) (fastiref23_play.l0 (k + 1) y0 y1 y2 y3 y4 y5)) ∧ (∀ y0 y1 y2 y3 y4 y5, LeO (fastiref23_play.l1 k y0 y1 y2 y3 y4 y5) (fastiref23_play.l1 (k + 1) y0 y1 y2 y3 y4 y5)) ∧ (∀ y0 y1 y2 y3 y4 y5 y6 y7 y8 y9, LeO (fastiref23_play.j2 k y0 y1 y2 y3 y4 y5 y6 y7 y8 y9) (fastiref23_play.j2 (k + 1) y0 y1 y2 y3 y4 y5 y6 y7 y8 y9)) ∧ (∀ y0 y1 y2 y3 y4 y5 y6 y7 y8 y9 y10, LeO (fastiref23_play.j3 k y0 y1 y2 y3 y4 y5 y6 y7 y8 y9 y10) (fastiref23_play.j3 (k + 1) y0 y1 y2 y3 y4 y5 y6 y7 y8 y9 y10))
  | 0 => ⟨fun _ _ _ _ _ _ r h => by simp [fastiref23_play.l0] at h, fun _ _ _ _ _ _ r h => by simp [fastiref23_play.l1] at h, fun _ _ _ _ _ _ _ _ _ _ r h => by simp [fastiref23_play.j2] at h, fun _ _ _ _ _ _ _ _ _ _ _ r h => by simp [fastiref23_play.j3] at h⟩
  | k + 1 => by
    obtain ⟨ih0, ih1, ih2, ih3⟩ := fastiref23_play.mono_l k
    refine ⟨?_, ?_, ?_, ?_⟩
    · intro y0 y1 y2 y3 y4 y5
      unfold fastiref23_play.l0
      repeat' first
      | (with_reducible exact ih0 _ _ _ _ _ _)
      | (with_reducible exact ih1 _ _ _ _ _ _)
      | (with_reducible exact ih2 _ _ _ _ _ _ _ _ _ _)
      | (with_reducible exact ih3 _ _ _ _ _ _ _ _ _ _ _)
      | (with_reducible exact LeO.refl _)
      | (with_reducible exact LeO.none _)
      | (with_reducible refine LeO.ite ?_ ?_)
      | (with_reducible refine LeO.bind ?_ (fun _ => ?_))
      | exact ih0 _ _ _ _ _ _
      | exact ih1 _ _ _ _ _ _
      | exact ih2 _ _ _ _ _ _ _ _ _ _
      | exact ih3 _ _ _ _ _ _ _ _ _ _ _
      | exact LeO.none _
      | refine LeO.ite ?_ ?_
      | refine LeO.bind ?_ (fun _ => ?_)
    · intro y0 y1 y2 y3 y4 y5
      unfold fastiref23_play.l1
      repeat' first
      | (with_reducible exact ih0 _ _ _ _ _ _)
      | (with_reducible exact ih1 _ _ _ _ _ _)
      | (with_reducible exact ih2 _ _ _ _ _ _ _ _ _ _)
      | (with_reducible exact ih3 _ _ _ _ _ _ _ _ _ _ _)
      | (with_reducible exact LeO.refl _)
      | (with_reducible exact LeO.none _)
      | (with_reducible refine LeO.ite ?_ ?_)
      | (with_reducible refine LeO.bind ?_ (fun _ => ?_))
      | exact ih0 _ _ _ _ _ _
      | exact ih1 _ _ _ _ _ _
      | exact ih2 _ _ _ _ _ _ _ _ _ _
      | exact ih3 _ _ _ _ _ _ _ _ _ _ _
      | exact LeO.none _
      | refine LeO.ite ?_ ?_
      | refine LeO.bind ?_ (fun _ => ?_)
    · intro y0 y1 y2 y3 y4 y5 y6 y7 y8 y9
      unfold fastiref23_play.j2
      repeat' first
      | (with_reducible exact ih0 _ _ _ _ _ _)
      | (with_reducible exact ih1 _ _ _ _ _ _)
      | (with_reducible exact ih2 _ _ _ _ _ _ _ _ _ _)
      | (with_reducible exact ih3 _ _ _ _ _ _ _ _ _ _ _)
      | (with_reducible exact LeO.refl _)
      | (with_reducible exact LeO.none _)
      | (with_reducible refine LeO.ite ?_ ?_)
      | (with_reducible refine LeO.bind ?_ (fun _ => ?_))
      | exact ih0 _ _ _ _ _ _
      | exact ih1 _ _ _ _ _ _
      | exact ih2 _ _ _ _ _ _ _ _ _ _
      | exact ih3 _ _ _ _ _ _ _ _ _ _ _
      | exact LeO.none _
      | refine LeO.ite ?_ ?_
      | refine LeO.bind ?_ (fun _ => ?_)
    · intro y0 y1 y2 y3 y4 y5 y6 y7 y8 y9 y10
      unfold fastiref23_play.j3
      repeat' first
      | (with_reducible exact ih0 _ _ _ _ _ _)
      | (with_reducible exact ih1 _ _ _ _ _ _)
      | (with_reducible exact ih2 _ _ _ _ _ _ _ _ _ _)
      | (with_reducible exact ih3 _ _ _ _ _ _ _ _ _ _ _)
      | (with_reducible exact LeO.refl _)
      | (with_reducible exact LeO.none _)
      | (with_reducible refine LeO.ite ?_ ?_)
      | (with_reducible refine LeO.bind ?_ (fun _ => ?_))
      | exact ih0 _ _ _ _ _ _
      | exact ih1 _ _ _ _ _ _
      | exact ih2 _ _ _ _ _ _ _ _ _ _
      | exact ih3 _ _ _ _ _ _ _ _ _ _ _
      | exact LeO.none _
      | refine LeO.ite ?_ ?_
      | refine LeO.bind ?_ (fun _ => ?_)
theorem fastiref23_play.mono : ∀ a0 a1 a2 k, LeO (fastiref23_play.f k a0 a1 a2) (fastiref23_play.f (k + 1) a0 a1 a2) := by
  intro a0 a1 a2 k
  obtain ⟨ih0, ih1, ih2, ih3⟩ := fastiref23_play.mono_l k
  unfold fastiref23_play.f
  repeat' first
      | (with_reducible exact ih0 _ _ _ _ _ _)
      | (with_reducible exact ih1 _ _ _ _ _ _)
      | (with_reducible exact ih2 _ _ _ _ _ _ _ _ _ _)
      | (with_reducible exact ih3 _ _ _ _ _ _ _ _ _ _ _)
      | (with_reducible exact LeO.refl _)
      | (with_reducible exact LeO.none _)
      | (with_reducible refine LeO.ite ?_ ?_)
      | (with_reducible refine LeO.bind ?_ (fun _ => ?_))
      | exact ih0 _ _ _ _ _ _
      | exact ih1 _ _ _ _ _ _
      | exact ih2 _ _ _ _ _ _ _ _ _ _
      | exact ih3 _ _ _ _ _ _ _ _ _ _ _
      | exact LeO.none _
      | refine LeO.ite ?_ ?_
      | refine LeO.bind ?_ (fun _ => ?_)
def fastiref23_play.T15 : Bool × List (List Nat × List Nat) := (true, [([], []), ([], []), ([1], [1]), ([0, 2], [0, 2]), ([3], [3]), ([4], [4]), ([], []), ([6], [6]), ([5, 7], [5, 7]), ([8, 8, 0, 1, 2, 3, 4, 5, 6, 7, 8], [8])])
def fastiref23_play.B15 : List Nat := [0, 0, 2, 7, 15, 31, 0, 64, 255, 511]
theorem fastiref23_play.tab15 : rtab .any (opsOf Try.f31 15) = fastiref23_play.T15 := by kernel_rfl
theorem fastiref23_play.bits15 : waitsOk fastiref23_play.T15.2 fastiref23_play.B15 = true := by kernel_rfl
def fastiref23_play.T16 : Bool × List (List Nat × List Nat) := (true, [([], []), ([], []), ([1], [1]), ([0, 2], [0, 2]), ([3], [3]), ([4], [4]), ([], []), ([6], [6]), ([5, 7], [5, 7]), ([8, 8, 0, 1, 2, 3, 4, 5, 6, 7, 8], [8])])
def fastiref23_play.B16 : List Nat := [0, 0, 2, 7, 15, 31, 0, 64, 255, 511]
theorem fastiref23_play.tab16 : rtab .any (opsOf Try.f31 16) = fastiref23_play.T16 := by kernel_rfl
theorem fastiref23_play.bits16 : waitsOk fastiref23_play.T16.2 fastiref23_play.B16 = true := by kernel_rfl
set_option maxHeartbeats 8000000 in
set_option maxRecDepth 100000 in
theorem fastiref23_play.calls (k : Nat) (a0 : Int) (A1 : Option Addr) (c1 : Nat) (l1 : List (S42)) (A2 : Option Addr) (c2 : Nat) (l2 : List (S45)) (r1 : List Int) (r2 : List Int) (r3 : List Bool) (r4 : Bool) (w : World) (hr1 : Kd.C k42 w A1 l1.length l1) (hc1 : l1.length ≤ c1) (hr2 : Kd.C k45 w A2 l2.length l2) (hc2 : l2.length ≤ c2) (h : fastiref23_play.f k a0 l1 l2 = some (r1, r2, r3, r4)) :
    Calls Try.prog 31 #[.int .i64 a0, .slice A1 l1.length c1, .slice A2 l2.length c2] w fun e w' => ∃ v0_ v1_ v2_ : Value, e = .returned (.tuple #[.agg #[v0_, v1_, v2_], .bool r4]) ∧ Kd.R (Kd.int .i64) 3 w' w.heap.size (fun k_ => some k_ ≠ (v1_ : Value).ownBlock) v0_ r1 ∧ Kd.R (Kd.int .i64) 3 w' w.heap.size (fun k_ => some k_ ≠ (v0_ : Value).ownBlock) v1_ r2 ∧ Kd.R Kd.bool 4 w' w.heap.size (fun _ => True) v2_ r3 ∧ Below w.heap.size w w' := by
  have hu64 := Try.underlying64
  have hu45 := Try.underlying45
  have hu40 := Try.underlying40
  have HR1 := Aside0.mk hr1
  have HC1 := Aside0.mk hc1
  clear hr1 hc1
  have HR2 := Aside0.mk hr2
  have HC2 := Aside0.mk hc2
  clear hr2 hc2
  have HB := Aside0.mk (Below.refl w.heap.size w)
  have H : (if 0 ≤ a0 then (if (a0 : Int).toNat ≤ 281474976710656 then (fastiref23_play.l0 k l1 l2 0 ([] : List Int) ([] : List Int) (List.replicate (a0 : Int).toNat false)) else (none)) else (none)) = some (r1, r2, r3, r4) := h
  clear h
  by_cases c4 : 0 ≤ a0
  · rw [if_pos c4] at H
    have c4b0 := eq_true c4
    have c4b1 : decide (0 ≤ a0) = true := decide_eq_true c4
    clear c4
    by_cases c5 : (a0 : Int).toNat ≤ 281474976710656
    · rw [if_pos c5] at H
      have c5b0 := eq_true c5
      have c5b1 : decide ((a0 : Int).toNat ≤ 281474976710656) = true := decide_eq_true c5
      clear c5
      obtain ⟨y311, hy311⟩ : ∃ y_ : List Bool, y_ = (List.replicate (a0 : Int).toNat false) := ⟨_, rfl⟩
      replace H : (fastiref23_play.l0 k l1 l2 0 ([] : List Int) ([] : List Int) y311) = some (r1, r2, r3, r4) := by first | (rw [hy311]; with_reducible exact H) | (have H2_ := (Option.bind_some _ _).symm.trans H; rw [hy311]; with_reducible exact H2_) | (have H2_ := (Option.bind_some _ _).symm.trans H; with_reducible exact H2_) | with_reducible exact H | (rw [hy311]; exact H) | exact H
      have Ny311 := Aside0.mk hy311
      clear hy311
      have H' := Aside0.mk H
      clear H
      go_enter Try.func31, Try.ntmps31
      go_wp2_with (first | ((with_reducible refine gate_dst (N := 6) rfl ?_); (try (refine gate_guard (by rfl) ?_; dsimp only)); refine box_event ?hg (N := 6) ?hd (cs := #[.slice none 0 0, .slice none 0 0, .slice none 0 0]) (t := 64) ?hr ?_; (case hd => rfl); (case hg => rfl); (case hr => first | (go_simp; done) | (go_simp; rfl)); intro gb310 hg w6 hbox hb; have n0_ := Aside0.mk (below_step (by repeat (first | (with_reducible first | exact HB.out | apply below_alloc | apply pw_below_drewN | apply below_drew1) | exact HB.out)) hb); have n1_ := Aside0.mk (hbox); have n2_ := Aside0.mk ((by rw [hg]; exact (below_size (by repeat (first | (with_reducible first | exact HB.out | apply below_alloc | apply pw_below_drewN | apply below_drew1) | exact HB.out))) : w.heap.size ≤ gb310)); have n3_ := Aside0.mk ((by rw [hg]; exact (below_size (by repeat (first | (with_reducible first | exact HB.out | apply below_alloc | apply pw_below_drewN | apply below_drew1) | exact HB.out))) : w.heap.size ≤ gb310)); clear HB; have HB := n0_; have BK310 := n1_; have GW310 := n2_; have GE310 := n3_; clear n0_ n1_ n2_ n3_; clear hb hbox hg) | ((with_reducible refine gate_dst (N := 15) rfl ?_); (try (refine gate_guard (by rfl) ?_; dsimp only)); refine Kd.R_make Kd.bool _ 4 rfl (N := 15) rfl 62 _ _ rfl a0 rfl rfl Try.underlying62 (.bool false) 1 info4 rfl (by decide) (by omega) false (ok := fun _ => True) (okp := fun _ => True) rfl (fun _ hk => hk) trivial (of_decide_eq_true (by first | (with_reducible assumption) | assumption)) (Nat.le_trans (Nat.mul_le_mul_right _ (of_decide_eq_true (by first | (with_reducible assumption) | assumption) : a0.toNat ≤ 281474976710656)) (by omega)) (Below.refl _ _) (Nat.le_refl _) ?_; intro v312 w7 ho8 hb hg_ hnew_; clear hg_ hnew_; (first | rw [← Ny311.out] at ho8 | (simp only [Int.reduceToNat] at ho8; rw [← Ny311.out] at ho8)); have n0_ := Aside0.mk (Kd.R_lower ho8 (below_size (by repeat (first | (with_reducible first | exact HB.out | apply below_alloc | apply pw_below_drewN | apply below_drew1 | refine below_set ?_ GE310.out) | exact HB.out)))); have n1_ := Aside0.mk (blk_below (g := gb310) (o := .cells #[.slice none 0 0, .slice none 0 0, .slice none 0 0] 64 (0, 0)) (by (with_reducible repeat (first | refine blk_drewN ?_ _ | refine blk_drew ?_ | refine blk_alloc ?_ _)); exact BK310.out) hb); have n2_ := Aside0.mk (below_step (by repeat (first | (with_reducible first | exact HB.out | apply below_alloc | apply pw_below_drewN | apply below_drew1 | refine below_set ?_ GE310.out) | exact HB.out)) hb); clear BK310; clear HB; have HO313 := n0_; have BK310 := n1_; have HB := n2_; clear n0_ n1_ n2_; clear hb ho8; obtain ⟨Ao9, co9, eo9⟩ := Kd.R_slice HO313.out; subst eo9) | ((with_reducible refine gate_dst (N := 8) rfl ?_); (try (refine gate_guard (by rfl) ?_; dsimp only)); refine box_event ?hg (N := 8) ?hd (cs := #[.slice none 0 0, .slice none 0 0, .slice none 0 0]) (t := 64) ?hr ?_; (case hd => rfl); (case hg => rfl); (case hr => first | (go_simp; done) | (go_simp; rfl)); intro gb314 hg w10 hbox hb; have n0_ := Aside0.mk (Kd.R_below (by (with_reducible repeat (first | apply Kd.R_alloc | apply Kd.R_drewN | apply Kd.R_drew)); exact HO313.out) hb); have n1_ := Aside0.mk (blk_below (g := gb310) (o := .cells #[.slice none 0 0, .slice none 0 0, .slice none 0 0] 64 (0, 0)) (by (with_reducible repeat (first | refine blk_drewN ?_ _ | refine blk_drew ?_ | refine blk_alloc ?_ _)); exact BK310.out) hb); have n2_ := Aside0.mk (below_step (by repeat (first | (with_reducible first | exact HB.out | apply below_alloc | apply pw_below_drewN | apply below_drew1 | refine below_set ?_ GE310.out) | exact HB.out)) hb); have n3_ := Aside0.mk (hbox); have n4_ := Aside0.mk ((by rw [hg]; exact (below_size (by repeat (first | (with_reducible first | exact HB.out | apply below_alloc | apply pw_below_drewN | apply below_drew1 | refine below_set ?_ GE310.out) | exact HB.out))) : w.heap.size ≤ gb314)); have n5_ := Aside0.mk ((by rw [hg]; exact (below_size (by repeat (first | (with_reducible first | exact HB.out | apply below_alloc | apply pw_below_drewN | apply below_drew1 | refine below_set ?_ GE310.out) | exact HB.out))) : w.heap.size ≤ gb314)); have n6_ := Aside0.mk ((by rw [hg]; exact Nat.ne_of_lt (blk_lt (g := gb310) (o := .cells #[.slice none 0 0, .slice none 0 0, .slice none 0 0] 64 (0, 0)) (by (with_reducible repeat (first | refine blk_drewN ?_ _ | refine blk_drew ?_ | refine blk_alloc ?_ _)); exact BK310.out)) : gb310 ≠ gb314)); have n7_ := Aside0.mk ((by rw [hg]; exact Nat.ne_of_gt (blk_lt (g := gb310) (o := .cells #[.slice none 0 0, .slice none 0 0, .slice none 0 0] 64 (0, 0)) (by (with_reducible repeat (first | refine blk_drewN ?_ _ | refine blk_drew ?_ | refine blk_alloc ?_ _)); exact BK310.out)) : gb314 ≠ gb310)); clear HO313; clear BK310; clear HB; have HO313 := n0_; have BK310 := n1_; have HB := n2_; have BK314 := n3_; have GW314 := n4_; have GE314 := n5_; have NB310_314 := n6_; have NB314_310 := n7_; clear n0_ n1_ n2_ n3_ n4_ n5_ n6_ n7_; clear hb hbox hg; have hnb11 := NB314_310.out; have hnc11 := NB310_314.out; have hcz12_0 : w10.cell? ⟨gb314, 0, none⟩ = some (.slice none 0 0) := (blk_cell BK314.out 0).trans rfl; have hcz12_1 : w10.cell? ⟨gb314, 1, none⟩ = some (.slice none 0 0) := (blk_cell BK314.out 1).trans rfl; have hcz12_2 : w10.cell? ⟨gb314, 2, none⟩ = some (.slice none 0 0) := (blk_cell BK314.out 2).trans rfl; have hfz12_0 := blk_frozen BK314.out 0; have hfz12_1 := blk_frozen BK314.out 1; have hfz12_2 := blk_frozen BK314.out 2))
      go_loopg [9] k (fun kq v9 w' => ∃ (x9_1 : Int) (x315000_1 : List Int) (x315001_1 : List Int) (u315000 : Value) (u315001 : Value), v9 = .int .i64 x9_1 ∧ Aside0 (fastiref23_play.l0 kq l1 l2 x9_1 x315000_1 x315001_1 y311 = some (r1, r2, r3, r4)) ∧ Aside0 (kq ≤ k) ∧ Aside0 (Kd.R (Kd.int .i64) 3 w' w.heap.size (fun k_ => some k_ ≠ (u315001 : Value).ownBlock) u315000 x315000_1) ∧ Aside0 (Kd.R (Kd.int .i64) 3 w' w.heap.size (fun k_ => some k_ ≠ (u315000 : Value).ownBlock) u315001 x315001_1) ∧ Aside0 (Kd.R Kd.bool 4 w' w.heap.size (fun _ => True) (.slice Ao9 y311.length co9) y311) ∧ Aside0 (w'.heap[gb310]? = some (.cells #[(.slice none 0 0), (.slice none 0 0), (.slice none 0 0)] 64 (0, 0))) ∧ Aside0 (w'.heap[gb314]? = some (.cells #[u315000, u315001, (.slice Ao9 y311.length co9)] 64 (0, 0))) ∧ Aside0 (Below w.heap.size w w'))
      case atStart => exact ⟨(0), (([] : List Int)), (([] : List Int)), (.slice none 0 0), (.slice none 0 0), (by first | rfl | (simp; done) | (simp [*]; done)), H', ⟨Nat.le_refl _⟩, ⟨by first | exact Kd.R_nil _ _ _ _ _ | exact Kd.N_nil _ _ _ _ _ | exact Kd.V_nil _ _ _ _ _ | exact Kd.Q_nil _ _ _ _ _ | exact Kd.S_nil _ _ _ _ _⟩, ⟨by first | exact Kd.R_nil _ _ _ _ _ | exact Kd.N_nil _ _ _ _ _ | exact Kd.V_nil _ _ _ _ _ | exact Kd.Q_nil _ _ _ _ _ | exact Kd.S_nil _ _ _ _ _⟩, ⟨by (with_reducible repeat (first | apply Kd.R_alloc | apply Kd.R_drewN | apply Kd.R_drew)); exact Kd.R_mono (Kd.R_far (p := ⟨gb314, 2, none⟩) (Kd.R_far (p := ⟨gb314, 1, none⟩) (Kd.R_far (p := ⟨gb314, 0, none⟩) (Kd.R_types HO313.out BK314.out (by decide)) (fun _ hk => hk.2) (.slice none 0 0)) (fun _ hk => hk.2) (.slice none 0 0)) (fun _ hk => hk.2) (.slice Ao9 y311.length co9)) (fun _ hk => trivial)⟩, ⟨by (with_reducible repeat (first | refine blk_drewN ?_ _ | refine blk_drew ?_ | refine blk_alloc ?_ _)); refine blk_far ?_ NB310_314.out _; (with_reducible repeat (first | refine blk_drewN ?_ _ | refine blk_drew ?_ | refine blk_alloc ?_ _)); refine blk_far ?_ NB310_314.out _; (with_reducible repeat (first | refine blk_drewN ?_ _ | refine blk_drew ?_ | refine blk_alloc ?_ _)); refine blk_far ?_ NB310_314.out _; (with_reducible repeat (first | refine blk_drewN ?_ _ | refine blk_drew ?_ | refine blk_alloc ?_ _)); exact BK310.out⟩, ⟨by (with_reducible repeat (first | refine blk_drewN ?_ _ | refine blk_drew ?_ | refine blk_alloc ?_ _)); refine blk_put (cs := #[.slice none 0 0, .slice none 0 0, .slice none 0 0]) ?_ 2 _ rfl; (with_reducible repeat (first | refine blk_drewN ?_ _ | refine blk_drew ?_ | refine blk_alloc ?_ _)); refine blk_put (cs := #[.slice none 0 0, .slice none 0 0, .slice none 0 0]) ?_ 1 _ rfl; (with_reducible repeat (first | refine blk_drewN ?_ _ | refine blk_drew ?_ | refine blk_alloc ?_ _)); refine blk_put (cs := #[.slice none 0 0, .slice none 0 0, .slice none 0 0]) ?_ 0 _ rfl; (with_reducible repeat (first | refine blk_drewN ?_ _ | refine blk_drew ?_ | refine blk_alloc ?_ _)); exact BK314.out⟩, ⟨by repeat (first | (with_reducible first | exact HB.out | apply below_alloc | apply pw_below_drewN | apply below_drew1 | refine below_set ?_ GE310.out | refine below_set ?_ GE314.out) | exact HB.out)⟩⟩
      case round =>
        clear H'
        try clear c1
        try clear c2
        try clear p2
        try clear c3
        try clear c4
        try clear c4b0
        try clear c4b1
        try clear c5
        try clear c5b0
        try clear c5b1
        try clear c11
        try clear hcz12_0
        try clear hcz12_1
        try clear hcz12_2
        try clear hfz12_0
        try clear hfz12_1
        try clear hfz12_2
        obtain ⟨x9_1, x315000_1, x315001_1, u315000, u315001, rfl, HA, HK1, HO_315000, HO_315001, HO_315002, BK310, BK314, HB⟩ := hrel
        cases gk with
        | zero => exact absurd HA.out (by simp [fastiref23_play.l0])
        | succ k1 =>
          have H := HA.out
          clear HA
          simp only [fastiref23_play.l0] at H
          by_cases c13 : x9_1 < (l1.length : Int)
          · rw [if_pos c13] at H
            have c13b0 : decide (x9_1 < (l1.length : Int)) = true := decide_eq_true c13
            clear c13
            by_cases c14 : x315000_1.length < 17592186044416
            · rw [if_pos c14] at H
              have LMc14 := Aside0.mk c14
              clear c14
              obtain ⟨y315, hy315⟩ : ∃ y_ : List Int, y_ = (x315000_1 ++ [(-1)]) := ⟨_, rfl⟩
              replace H : (if x315001_1.length < 17592186044416 then (fastiref23_play.l0 k1 l1 l2 (wrap64 (x9_1 + 1)) y315 (x315001_1 ++ [0]) y311) else (none)) = some (r1, r2, r3, r4) := by first | (rw [hy315]; with_reducible exact H) | (have H2_ := (Option.bind_some _ _).symm.trans H; rw [hy315]; with_reducible exact H2_) | (have H2_ := (Option.bind_some _ _).symm.trans H; with_reducible exact H2_) | with_reducible exact H | (rw [hy315]; exact H) | exact H
              have Ny315 := Aside0.mk hy315
              clear hy315
              by_cases c15 : x315001_1.length < 17592186044416
              · rw [if_pos c15] at H
                have LMc15 := Aside0.mk c15
                clear c15
                obtain ⟨y318, hy318⟩ : ∃ y_ : List Int, y_ = (x315001_1 ++ [0]) := ⟨_, rfl⟩
                replace H : (fastiref23_play.l0 k1 l1 l2 (wrap64 (x9_1 + 1)) y315 y318 y311) = some (r1, r2, r3, r4) := by first | (rw [hy318]; with_reducible exact H) | (have H2_ := (Option.bind_some _ _).symm.trans H; rw [hy318]; with_reducible exact H2_) | (have H2_ := (Option.bind_some _ _).symm.trans H; with_reducible exact H2_) | with_reducible exact H | (rw [hy318]; exact H) | exact H
                have Ny318 := Aside0.mk hy318
                clear hy318
                have H' := Aside0.mk H
                clear H
                have hnb16 := NB314_310.out
                have hnc16 := NB310_314.out
                have hcz17_0 : wr.cell? ⟨gb314, 0, none⟩ = some (u315000) := (blk_cell BK314.out 0).trans rfl
                have hcz17_1 : wr.cell? ⟨gb314, 1, none⟩ = some (u315001) := (blk_cell BK314.out 1).trans rfl
                have hcz17_2 : wr.cell? ⟨gb314, 2, none⟩ = some (.slice Ao9 y311.length co9) := (blk_cell BK314.out 2).trans rfl
                have hfz17_0 := blk_frozen BK314.out 0
                have hfz17_1 := blk_frozen BK314.out 1
                have hfz17_2 := blk_frozen BK314.out 2
                go_wp2_with (first | ((with_reducible refine gate_builtin (b := .append) (xs := #[.tmp 24, .tmp 25]) rfl ?_); (try (refine gate_guard (by rfl) ?_; dsimp only)); at_builtin; refine Kd.R_append (Kd.int .i64) (w0 := w) w.heap.size rfl (.tmp 24) (.tmp 25) 32 3 (.int .i64 0) 8 rfl Try.underlying32 info3 rfl (by decide) (by omega) u315000 x315000_1 (-1) [.int .i64 (-1)] (fun k_ => some k_ ≠ (u315001 : Value).ownBlock) (fun _ => False) rfl rfl ?aP (fun _ hk => hk.elim) ?aF ?aO ?aB ?aS ?aL ?_; (case aP => exact rfl); (case aB => exact (by repeat (first | (with_reducible first | exact HB.out | apply below_alloc | apply pw_below_drewN | apply below_drew1 | refine below_set ?_ GE310.out | refine below_set ?_ GE314.out) | exact HB.out))); (case aF => exact (fun k_ hk => Kd.fresh' (Kd.R_lt (by (with_reducible repeat (first | apply Kd.R_alloc | apply Kd.R_drewN | apply Kd.R_drew)); exact HO_315001.out)) k_ hk)); (case aO => exact (by (with_reducible repeat (first | apply Kd.R_alloc | apply Kd.R_drewN | apply Kd.R_drew)); exact HO_315000.out)); (case aS => exact (below_size (by repeat (first | (with_reducible first | exact HB.out | apply below_alloc | apply pw_below_drewN | apply below_drew1 | refine below_set ?_ GE310.out | refine below_set ?_ GE314.out) | exact HB.out)))); (case aL => have := LMc14.out; omega); intro v316 w18 ho hb hg hat; rw [← Ny315.out] at ho; have n0_ := Aside0.mk (Kd.R_after (ok := (fun _ => True)) (by (with_reducible repeat (first | apply Kd.R_alloc | apply Kd.R_drewN | apply Kd.R_drew)); exact Kd.R_mono HO_315001.out (fun _ hk => ⟨trivial, hk⟩)) hg hat); have n1_ := Aside0.mk (Kd.R_over' (by (with_reducible repeat (first | apply Kd.R_alloc | apply Kd.R_drewN | apply Kd.R_drew)); exact HO_315002.out) (Kd.R_typed (by (with_reducible repeat (first | apply Kd.R_alloc | apply Kd.R_drewN | apply Kd.R_drew)); exact HO_315000.out)) (by decide) hg); have n2_ := Aside0.mk (blk_grown (g := gb310) (o := .cells #[.slice none 0 0, .slice none 0 0, .slice none 0 0] 64 (0, 0)) (by (with_reducible repeat (first | refine blk_drewN ?_ _ | refine blk_drew ?_ | refine blk_alloc ?_ _)); exact BK310.out) hg (Kd.R_ne HO_315000.out BK310.out (by decide))); have n3_ := Aside0.mk (blk_grown (g := gb314) (o := .cells #[u315000, u315001, .slice Ao9 y311.length co9] 64 (0, 0)) (by (with_reducible repeat (first | refine blk_drewN ?_ _ | refine blk_drew ?_ | refine blk_alloc ?_ _)); exact BK314.out) hg (Kd.R_ne HO_315000.out BK314.out (by decide))); have n4_ := Aside0.mk (hb); have n5_ := Aside0.mk (ho); clear HO_315001; clear HO_315002; clear BK310; clear BK314; clear HB; clear HO_315000; have HO_315001 := n0_; have HO_315002 := n1_; have BK310 := n2_; have BK314 := n3_; have HB := n4_; have HO317 := n5_; clear n0_ n1_ n2_ n3_ n4_ n5_; clear ho hb hg hat; obtain ⟨Ao19, co19, eo19⟩ := Kd.R_slice HO317.out; subst eo19; have hcz20_0 : w18.cell? ⟨gb314, 0, none⟩ = some (u315000) := (blk_cell BK314.out 0).trans rfl; have hcz20_1 : w18.cell? ⟨gb314, 1, none⟩ = some (u315001) := (blk_cell BK314.out 1).trans rfl; have hcz20_2 : w18.cell? ⟨gb314, 2, none⟩ = some (.slice Ao9 y311.length co9) := (blk_cell BK314.out 2).trans rfl; have hfz20_0 := blk_frozen BK314.out 0; have hfz20_1 := blk_frozen BK314.out 1; have hfz20_2 := blk_frozen BK314.out 2) | ((with_reducible refine gate_builtin (b := .append) (xs := #[.tmp 29, .tmp 30]) rfl ?_); (try (refine gate_guard (by rfl) ?_; dsimp only)); at_builtin; refine Kd.R_append (Kd.int .i64) (w0 := w) w.heap.size rfl (.tmp 29) (.tmp 30) 32 3 (.int .i64 0) 8 rfl Try.underlying32 info3 rfl (by decide) (by omega) u315001 x315001_1 0 [.int .i64 0] (fun k_ => some k_ ≠ (.slice Ao19 y315.length co19 : Value).ownBlock) (fun _ => False) rfl (by first | (go_simp; done) | (go_simp; rfl)) ?aP (fun _ hk => hk.elim) ?aF ?aO ?aB ?aS ?aL ?_; (case aP => exact rfl); (case aB => exact (by repeat (first | (with_reducible first | exact HB.out | apply below_alloc | apply pw_below_drewN | apply below_drew1 | refine below_set ?_ GE310.out | refine below_set ?_ GE314.out) | exact HB.out))); (case aF => exact (fun k_ hk => Kd.fresh' (Kd.R_lt (by (with_reducible repeat (first | apply Kd.R_alloc | apply Kd.R_drewN | apply Kd.R_drew)); exact (Kd.R_mono (Kd.R_far (p := ⟨gb314, 0, none⟩) (Kd.R_types HO317.out BK314.out (by decide)) (fun _ hk => hk.2) (.slice Ao19 y315.length co19)) (fun _ h_ => h_.1)))) k_ hk)); (case aO => exact (by (with_reducible repeat (first | apply Kd.R_alloc | apply Kd.R_drewN | apply Kd.R_drew)); exact Kd.R_mono (Kd.R_far (p := ⟨gb314, 0, none⟩) (Kd.R_types HO_315001.out BK314.out (by decide)) (fun _ hk => hk.2) (.slice Ao19 y315.length co19)) (fun _ hk => hk.1.2))); (case aS => exact (below_size (by repeat (first | (with_reducible first | exact HB.out | apply below_alloc | apply pw_below_drewN | apply below_drew1 | refine below_set ?_ GE310.out | refine below_set ?_ GE314.out) | exact HB.out)))); (case aL => have := LMc15.out; omega); intro v319 w21 ho hb hg hat; rw [← Ny318.out] at ho; have n0_ := Aside0.mk (Kd.R_over' (by (with_reducible repeat (first | apply Kd.R_alloc | apply Kd.R_drewN | apply Kd.R_drew)); exact (Kd.R_mono (Kd.R_far (p := ⟨gb314, 0, none⟩) (Kd.R_types HO_315002.out BK314.out (by decide)) (fun _ hk => hk.2) (.slice Ao19 y315.length co19)) (fun _ h_ => h_.1))) (Kd.R_typed (by (with_reducible repeat (first | apply Kd.R_alloc | apply Kd.R_drewN | apply Kd.R_drew)); exact (Kd.R_mono (Kd.R_far (p := ⟨gb314, 0, none⟩) (Kd.R_types HO_315001.out BK314.out (by decide)) (fun _ hk => hk.2) (.slice Ao19 y315.length co19)) (fun _ h_ => h_.1)))) (by decide) hg); have n1_ := Aside0.mk (blk_grown (g := gb310) (o := .cells #[.slice none 0 0, .slice none 0 0, .slice none 0 0] 64 (0, 0)) (by (with_reducible repeat (first | refine blk_drewN ?_ _ | refine blk_drew ?_ | refine blk_alloc ?_ _)); refine blk_far ?_ NB310_314.out _; (with_reducible repeat (first | refine blk_drewN ?_ _ | refine blk_drew ?_ | refine blk_alloc ?_ _)); exact BK310.out) hg (Kd.R_ne HO_315001.out BK310.out (by decide))); have n2_ := Aside0.mk (blk_grown (g := gb314) (o := .cells #[.slice Ao19 y315.length co19, u315001, .slice Ao9 y311.length co9] 64 (0, 0)) (by (with_reducible repeat (first | refine blk_drewN ?_ _ | refine blk_drew ?_ | refine blk_alloc ?_ _)); refine blk_put (cs := #[u315000, u315001, .slice Ao9 y311.length co9]) ?_ 0 _ rfl; (with_reducible repeat (first | refine blk_drewN ?_ _ | refine blk_drew ?_ | refine blk_alloc ?_ _)); exact BK314.out) hg (Kd.R_ne HO_315001.out BK314.out (by decide))); have n3_ := Aside0.mk (Kd.R_after (ok := (fun _ => True)) (by (with_reducible repeat (first | apply Kd.R_alloc | apply Kd.R_drewN | apply Kd.R_drew)); exact Kd.R_mono (Kd.R_far (p := ⟨gb314, 0, none⟩) (Kd.R_types HO317.out BK314.out (by decide)) (fun _ hk => hk.2) (.slice Ao19 y315.length co19)) (fun _ hk => ⟨trivial, hk.1⟩)) hg hat); have n4_ := Aside0.mk (hb); have n5_ := Aside0.mk (ho); clear HO_315002; clear BK310; clear BK314; clear HO317; clear HB; clear HO_315001; have HO_315002 := n0_; have BK310 := n1_; have BK314 := n2_; have HO317 := n3_; have HB := n4_; have HO320 := n5_; clear n0_ n1_ n2_ n3_ n4_ n5_; clear ho hb hg hat; obtain ⟨Ao22, co22, eo22⟩ := Kd.R_slice HO320.out; subst eo22; have hcz23_0 : w21.cell? ⟨gb314, 0, none⟩ = some (.slice Ao19 y315.length co19) := (blk_cell BK314.out 0).trans rfl; have hcz23_1 : w21.cell? ⟨gb314, 1, none⟩ = some (u315001) := (blk_cell BK314.out 1).trans rfl; have hcz23_2 : w21.cell? ⟨gb314, 2, none⟩ = some (.slice Ao9 y311.length co9) := (blk_cell BK314.out 2).trans rfl; have hfz23_0 := blk_frozen BK314.out 0; have hfz23_1 := blk_frozen BK314.out 1; have hfz23_2 := blk_frozen BK314.out 2))
                go_roundg k1
                case measure => have := HK1.out; omega
                case rel => exact ⟨(wrap64 (x9_1 + 1)), (y315), (y318), (.slice Ao19 y315.length co19), (.slice Ao22 y318.length co22), (by first | rfl | (simp; done) | (simp [*]; done)), H', ⟨by have := HK1.out; omega⟩, ⟨by (with_reducible repeat (first | apply Kd.R_alloc | apply Kd.R_drewN | apply Kd.R_drew)); exact Kd.R_mono (Kd.R_far (p := ⟨gb314, 1, none⟩) (Kd.R_types HO317.out BK314.out (by decide)) (fun _ hk => hk.2) (.slice Ao22 y318.length co22)) (fun _ hk => hk.1.2)⟩, ⟨by (with_reducible repeat (first | apply Kd.R_alloc | apply Kd.R_drewN | apply Kd.R_drew)); exact Kd.R_mono (Kd.R_far (p := ⟨gb314, 1, none⟩) (Kd.R_types HO320.out BK314.out (by decide)) (fun _ hk => hk.2) (.slice Ao22 y318.length co22)) (fun _ hk => hk.1)⟩, ⟨by (with_reducible repeat (first | apply Kd.R_alloc | apply Kd.R_drewN | apply Kd.R_drew)); exact Kd.R_mono (Kd.R_far (p := ⟨gb314, 1, none⟩) (Kd.R_types HO_315002.out BK314.out (by decide)) (fun _ hk => hk.2) (.slice Ao22 y318.length co22)) (fun _ hk => trivial)⟩, ⟨by (with_reducible repeat (first | refine blk_drewN ?_ _ | refine blk_drew ?_ | refine blk_alloc ?_ _)); refine blk_far ?_ NB310_314.out _; (with_reducible repeat (first | refine blk_drewN ?_ _ | refine blk_drew ?_ | refine blk_alloc ?_ _)); exact BK310.out⟩, ⟨by (with_reducible repeat (first | refine blk_drewN ?_ _ | refine blk_drew ?_ | refine blk_alloc ?_ _)); refine blk_put (cs := #[.slice Ao19 y315.length co19, u315001, .slice Ao9 y311.length co9]) ?_ 1 _ rfl; (with_reducible repeat (first | refine blk_drewN ?_ _ | refine blk_drew ?_ | refine blk_alloc ?_ _)); exact BK314.out⟩, ⟨by repeat (first | (with_reducible first | exact HB.out | apply below_alloc | apply pw_below_drewN | apply below_drew1 | refine below_set ?_ GE310.out | refine below_set ?_ GE314.out) | exact HB.out)⟩⟩
              · rw [if_neg c15] at H
                exact absurd H (by simp)
            · rw [if_neg c14] at H
              exact absurd H (by simp)
          · rw [if_neg c13] at H
            have c13b0 : decide (x9_1 < (l1.length : Int)) = false := decide_eq_false c13
            clear c13
            have H' := Aside0.mk H
            clear H
            go_wp2
            go_loopg [10] k1 (fun kq v10 w' => ∃ (x10_2 : Int) (x315000_2 : List Int) (x315001_2 : List Int) (x315002_2 : List Bool) (u315000 : Value) (u315001 : Value) (u315002 : Value), v10 = .int .i64 x10_2 ∧ Aside0 (fastiref23_play.l1 kq l1 l2 x10_2 x315000_2 x315001_2 x315002_2 = some (r1, r2, r3, r4)) ∧ Aside0 (kq ≤ k1) ∧ Aside0 (Kd.R (Kd.int .i64) 3 w' w.heap.size (fun k_ => some k_ ≠ (u315001 : Value).ownBlock) u315000 x315000_2) ∧ Aside0 (Kd.R (Kd.int .i64) 3 w' w.heap.size (fun k_ => some k_ ≠ (u315000 : Value).ownBlock) u315001 x315001_2) ∧ Aside0 (Kd.R Kd.bool 4 w' w.heap.size (fun _ => True) u315002 x315002_2) ∧ Aside0 (w'.heap[gb310]? = some (.cells #[(.slice none 0 0), (.slice none 0 0), (.slice none 0 0)] 64 (0, 0))) ∧ Aside0 (w'.heap[gb314]? = some (.cells #[u315000, u315001, u315002] 64 (0, 0))) ∧ Aside0 (Below w.heap.size w w'))
            case atStart => exact ⟨(0), (x315000_1), (x315001_1), (y311), (u315000), (u315001), (.slice Ao9 y311.length co9), (by first | rfl | (simp; done) | (simp [*]; done)), H', ⟨Nat.le_refl _⟩, ⟨by (with_reducible repeat (first | apply Kd.R_alloc | apply Kd.R_drewN | apply Kd.R_drew)); exact HO_315000.out⟩, ⟨by (with_reducible repeat (first | apply Kd.R_alloc | apply Kd.R_drewN | apply Kd.R_drew)); exact HO_315001.out⟩, ⟨by (with_reducible repeat (first | apply Kd.R_alloc | apply Kd.R_drewN | apply Kd.R_drew)); exact HO_315002.out⟩, ⟨by (with_reducible repeat (first | refine blk_drewN ?_ _ | refine blk_drew ?_ | refine blk_alloc ?_ _)); exact BK310.out⟩, ⟨by (with_reducible repeat (first | refine blk_drewN ?_ _ | refine blk_drew ?_ | refine blk_alloc ?_ _)); exact BK314.out⟩, ⟨by repeat (first | (with_reducible first | exact HB.out | apply below_alloc | apply pw_below_drewN | apply below_drew1 | refine below_set ?_ GE310.out | refine below_set ?_ GE314.out) | exact HB.out)⟩⟩
            case round =>
              clear H'
              try clear c1
              try clear c2
              try clear p2
              try clear c3
              try clear c4
              try clear c4b0
              try clear c4b1
              try clear c5
              try clear c5b0
              try clear c5b1
              try clear p6
              try clear c11
              try clear c13
              try clear c13b0
              try clear c14
              try clear c15
              try clear c16
              try clear hcz12_0
              try clear hcz12_1
              try clear hcz12_2
              try clear hcz17_0
              try clear hcz17_1
              try clear hcz17_2
              try clear hcz20_0
              try clear hcz20_1
              try clear hcz20_2
              try clear hcz23_0
              try clear hcz23_1
              try clear hcz23_2
              try clear hfz12_0
              try clear hfz12_1
              try clear hfz12_2
              try clear hfz17_0
              try clear hfz17_1
              try clear hfz17_2
              try clear hfz20_0
              try clear hfz20_1
              try clear hfz20_2
              try clear hfz23_0
              try clear hfz23_1
              try clear hfz23_2
              try clear p2
              obtain ⟨x10_2, x315000_2, x315001_2, x315002_2, u315000, u315001, u315002, rfl, HA, HK2, HO_315000, HO_315001, HO_315002, BK310, BK314, HB⟩ := hrel
              cases gk with
              | zero => exact absurd HA.out (by simp [fastiref23_play.l1])
              | succ k2 =>
                have H := HA.out
                clear HA
                simp only [fastiref23_play.l1] at H
                by_cases c24 : x10_2 < (l2.length : Int)
                · rw [if_pos c24] at H
                  have c24b0 : decide (x10_2 < (l2.length : Int)) = true := decide_eq_true c24
                  clear c24
                  by_cases c25 : 0 ≤ x10_2
                  · rw [if_pos c25] at H
                    have c25b0 : decide (0 ≤ x10_2) = true := decide_eq_true c25
                    clear c25
                    have HC26 := Aside0.mk H
                    clear H
                    have p321 : 0 ≤ (x10_2 : Int) := of_decide_eq_true (by first | (with_reducible assumption) | assumption)
                    have q321 : x10_2 < (l2.length : Int) := of_decide_eq_true (by first | (with_reducible assumption) | assumption)
                    obtain ⟨ad321, e321, hx321_0, hx321_1, hx321_2⟩ := at_T45 HR2.out x10_2 p321 q321
                    cases e321
                    replace hx321_0 := (HB.out.cell (World.block_lt_of_cell? w _ hx321_0)).trans hx321_0
                    replace hx321_1 := (HB.out.cell (World.block_lt_of_cell? w _ hx321_1)).trans hx321_1
                    replace hx321_2 := (HB.out.cell (World.block_lt_of_cell? w _ hx321_2)).trans hx321_2
                    replace p321 := eq_true p321
                    replace q321 := eq_true q321
                    go_upto_region 11 with (first | ((with_reducible refine gate_dst (N := 11) rfl ?_); (try (refine gate_guard (by rfl) ?_; dsimp only)); refine box_event ?hg (N := 11) ?hd (cs := #[.int .i64 0, .int .i64 0, .int .i64 0]) (t := 45) ?hr ?_; (case hd => rfl); (case hg => rfl); (case hr => first | (go_simp; done) | (go_simp; rfl)); intro gb322 hg w27 hbox hb; have n0_ := Aside0.mk (Kd.R_below (by (with_reducible repeat (first | apply Kd.R_alloc | apply Kd.R_drewN | apply Kd.R_drew)); exact HO_315000.out) hb); have n1_ := Aside0.mk (Kd.R_below (by (with_reducible repeat (first | apply Kd.R_alloc | apply Kd.R_drewN | apply Kd.R_drew)); exact HO_315001.out) hb); have n2_ := Aside0.mk (Kd.R_below (by (with_reducible repeat (first | apply Kd.R_alloc | apply Kd.R_drewN | apply Kd.R_drew)); exact HO_315002.out) hb); have n3_ := Aside0.mk (blk_below (g := gb310) (o := .cells #[.slice none 0 0, .slice none 0 0, .slice none 0 0] 64 (0, 0)) (by (with_reducible repeat (first | refine blk_drewN ?_ _ | refine blk_drew ?_ | refine blk_alloc ?_ _)); exact BK310.out) hb); have n4_ := Aside0.mk (blk_below (g := gb314) (o := .cells #[u315000, u315001, u315002] 64 (0, 0)) (by (with_reducible repeat (first | refine blk_drewN ?_ _ | refine blk_drew ?_ | refine blk_alloc ?_ _)); exact BK314.out) hb); have n5_ := Aside0.mk (below_step (by repeat (first | (with_reducible first | exact HB.out | apply below_alloc | apply pw_below_drewN | apply below_drew1 | refine below_set ?_ GE310.out | refine below_set ?_ GE314.out) | exact HB.out)) hb); have n6_ := Aside0.mk (hbox); have n7_ := Aside0.mk ((by rw [hg]; exact (below_size (by repeat (first | (with_reducible first | exact HB.out | apply below_alloc | apply pw_below_drewN | apply below_drew1 | refine below_set ?_ GE310.out | refine below_set ?_ GE314.out) | exact HB.out))) : w.heap.size ≤ gb322)); have n8_ := Aside0.mk ((by rw [hg]; exact (below_size (by repeat (first | (with_reducible first | exact HB.out | apply below_alloc | apply pw_below_drewN | apply below_drew1 | refine below_set ?_ GE310.out | refine below_set ?_ GE314.out) | exact HB.out))) : w.heap.size ≤ gb322)); have n9_ := Aside0.mk ((by rw [hg]; exact Nat.ne_of_lt (blk_lt (g := gb310) (o := .cells #[.slice none 0 0, .slice none 0 0, .slice none 0 0] 64 (0, 0)) (by (with_reducible repeat (first | refine blk_drewN ?_ _ | refine blk_drew ?_ | refine blk_alloc ?_ _)); exact BK310.out)) : gb310 ≠ gb322)); have n10_ := Aside0.mk ((by rw [hg]; exact Nat.ne_of_gt (blk_lt (g := gb310) (o := .cells #[.slice none 0 0, .slice none 0 0, .slice none 0 0] 64 (0, 0)) (by (with_reducible repeat (first | refine blk_drewN ?_ _ | refine blk_drew ?_ | refine blk_alloc ?_ _)); exact BK310.out)) : gb322 ≠ gb310)); have n11_ := Aside0.mk ((by rw [hg]; exact Nat.ne_of_lt (blk_lt (g := gb314) (o := .cells #[u315000, u315001, u315002] 64 (0, 0)) (by (with_reducible repeat (first | refine blk_drewN ?_ _ | refine blk_drew ?_ | refine blk_alloc ?_ _)); exact BK314.out)) : gb314 ≠ gb322)); have n12_ := Aside0.mk ((by rw [hg]; exact Nat.ne_of_gt (blk_lt (g := gb314) (o := .cells #[u315000, u315001, u315002] 64 (0, 0)) (by (with_reducible repeat (first | refine blk_drewN ?_ _ | refine blk_drew ?_ | refine blk_alloc ?_ _)); exact BK314.out)) : gb322 ≠ gb314)); clear HO_315000; clear HO_315001; clear HO_315002; clear BK310; clear BK314; clear HB; have HO_315000 := n0_; have HO_315001 := n1_; have HO_315002 := n2_; have BK310 := n3_; have BK314 := n4_; have HB := n5_; have BK322 := n6_; have GW322 := n7_; have GE322 := n8_; have NB310_322 := n9_; have NB322_310 := n10_; have NB314_322 := n11_; have NB322_314 := n12_; clear n0_ n1_ n2_ n3_ n4_ n5_ n6_ n7_ n8_ n9_ n10_ n11_ n12_; clear hb hbox hg; have hnb28 := NB322_310.out; have hnc28 := NB310_322.out; have hnb29 := NB322_314.out; have hnc29 := NB314_322.out; have hcz30_0 : w27.cell? ⟨gb322, 0, none⟩ = some (.int .i64 0) := (blk_cell BK322.out 0).trans rfl; have hcz30_1 : w27.cell? ⟨gb322, 1, none⟩ = some (.int .i64 0) := (blk_cell BK322.out 1).trans rfl; have hcz30_2 : w27.cell? ⟨gb322, 2, none⟩ = some (.int .i64 0) := (blk_cell BK322.out 2).trans rfl; have hfz30_0 := blk_frozen BK322.out 0; have hfz30_1 := blk_frozen BK322.out 1; have hfz30_2 := blk_frozen BK322.out 2))
                    (try simp only [Act.put, List.setIfInBounds_toArray, List.set_cons_zero, List.set_cons_succ])
                    go_cut [72] (fun v72 wc => ∃ (kq : Nat) (x72_25 : Bool), v72 = .bool x72_25 ∧ Aside0 (fastiref23_play.j2 kq l1 l2 x10_2 x72_25 x315000_2 x315001_2 x315002_2 ((rd_T45 l2 x10_2).f0) ((rd_T45 l2 x10_2).f1) ((rd_T45 l2 x10_2).f2) = some (r1, r2, r3, r4)) ∧ Aside0 (kq ≤ k2) ∧ Aside0 (Kd.R (Kd.int .i64) 3 wc w.heap.size (fun k_ => some k_ ≠ (u315001 : Value).ownBlock) u315000 x315000_2) ∧ Aside0 (Kd.R (Kd.int .i64) 3 wc w.heap.size (fun k_ => some k_ ≠ (u315000 : Value).ownBlock) u315001 x315001_2) ∧ Aside0 (Kd.R Kd.bool 4 wc w.heap.size (fun _ => True) u315002 x315002_2) ∧ Aside0 (wc.heap[gb310]? = some (.cells #[(.slice none 0 0), (.slice none 0 0), (.slice none 0 0)] 64 (0, 0))) ∧ Aside0 (wc.heap[gb314]? = some (.cells #[u315000, u315001, u315002] 64 (0, 0))) ∧ Aside0 (wc.heap[gb322]? = some (.cells #[.int .i64 ((rd_T45 l2 x10_2).f0), .int .i64 ((rd_T45 l2 x10_2).f1), .int .i64 ((rd_T45 l2 x10_2).f2)] 45 (0, 0))) ∧ Aside0 (Below w.heap.size w wc))
                    case first =>
                      have H := HC26.out
                      clear HC26
                      by_cases c31 : ((rd_T45 l2 x10_2).f0) < 0
                      · rw [if_pos c31] at H
                        have c31b0 : decide (((rd_T45 l2 x10_2).f0) < 0) = true := decide_eq_true c31
                        clear c31
                        (first | rw [c31b0] | (simp only [i64_w, i32_w]; rw [c31b0]) | skip)
                        have H' := Aside0.mk H
                        clear H
                        have hnb32 := NB322_310.out
                        have hnc32 := NB310_322.out
                        have hnb33 := NB322_314.out
                        have hnc33 := NB314_322.out
                        have hcz34_0 : w27.cell? ⟨gb322, 0, none⟩ = some (.int .i64 0) := (blk_cell BK322.out 0).trans rfl
                        have hcz34_1 : w27.cell? ⟨gb322, 1, none⟩ = some (.int .i64 0) := (blk_cell BK322.out 1).trans rfl
                        have hcz34_2 : w27.cell? ⟨gb322, 2, none⟩ = some (.int .i64 0) := (blk_cell BK322.out 2).trans rfl
                        have hfz34_0 := blk_frozen BK322.out 0
                        have hfz34_1 := blk_frozen BK322.out 1
                        have hfz34_2 := blk_frozen BK322.out 2
                        go_wp2
                        go_meet
                        case rel => exact ⟨_, (true), (by first | rfl | (simp; done) | (simp [*]; done)), H', ⟨by have := HK1.out; have := HK2.out; first | omega | exact Nat.le_refl _⟩, ⟨by (with_reducible repeat (first | apply Kd.R_alloc | apply Kd.R_drewN | apply Kd.R_drew)); exact Kd.R_mono (Kd.R_far (p := ⟨gb322, 2, none⟩) (Kd.R_far (p := ⟨gb322, 1, none⟩) (Kd.R_far (p := ⟨gb322, 0, none⟩) (Kd.R_types HO_315000.out BK322.out (by decide)) (fun _ hk => hk.2) (.int .i64 ((rd_T45 l2 x10_2).f0))) (fun _ hk => hk.2) (.int .i64 ((rd_T45 l2 x10_2).f1))) (fun _ hk => hk.2) (.int .i64 ((rd_T45 l2 x10_2).f2))) (fun _ hk => hk.1)⟩, ⟨by (with_reducible repeat (first | apply Kd.R_alloc | apply Kd.R_drewN | apply Kd.R_drew)); exact Kd.R_mono (Kd.R_far (p := ⟨gb322, 2, none⟩) (Kd.R_far (p := ⟨gb322, 1, none⟩) (Kd.R_far (p := ⟨gb322, 0, none⟩) (Kd.R_types HO_315001.out BK322.out (by decide)) (fun _ hk => hk.2) (.int .i64 ((rd_T45 l2 x10_2).f0))) (fun _ hk => hk.2) (.int .i64 ((rd_T45 l2 x10_2).f1))) (fun _ hk => hk.2) (.int .i64 ((rd_T45 l2 x10_2).f2))) (fun _ hk => hk.1)⟩, ⟨by (with_reducible repeat (first | apply Kd.R_alloc | apply Kd.R_drewN | apply Kd.R_drew)); exact Kd.R_mono (Kd.R_far (p := ⟨gb322, 2, none⟩) (Kd.R_far (p := ⟨gb322, 1, none⟩) (Kd.R_far (p := ⟨gb322, 0, none⟩) (Kd.R_types HO_315002.out BK322.out (by decide)) (fun _ hk => hk.2) (.int .i64 ((rd_T45 l2 x10_2).f0))) (fun _ hk => hk.2) (.int .i64 ((rd_T45 l2 x10_2).f1))) (fun _ hk => hk.2) (.int .i64 ((rd_T45 l2 x10_2).f2))) (fun _ hk => trivial)⟩, ⟨by (with_reducible repeat (first | refine blk_drewN ?_ _ | refine blk_drew ?_ | refine blk_alloc ?_ _)); refine blk_far ?_ NB310_322.out _; (with_reducible repeat (first | refine blk_drewN ?_ _ | refine blk_drew ?_ | refine blk_alloc ?_ _)); refine blk_far ?_ NB310_322.out _; (with_reducible repeat (first | refine blk_drewN ?_ _ | refine blk_drew ?_ | refine blk_alloc ?_ _)); refine blk_far ?_ NB310_322.out _; (with_reducible repeat (first | refine blk_drewN ?_ _ | refine blk_drew ?_ | refine blk_alloc ?_ _)); exact BK310.out⟩, ⟨by (with_reducible repeat (first | refine blk_drewN ?_ _ | refine blk_drew ?_ | refine blk_alloc ?_ _)); refine blk_far ?_ NB314_322.out _; (with_reducible repeat (first | refine blk_drewN ?_ _ | refine blk_drew ?_ | refine blk_alloc ?_ _)); refine blk_far ?_ NB314_322.out _; (with_reducible repeat (first | refine blk_drewN ?_ _ | refine blk_drew ?_ | refine blk_alloc ?_ _)); refine blk_far ?_ NB314_322.out _; (with_reducible repeat (first | refine blk_drewN ?_ _ | refine blk_drew ?_ | refine blk_alloc ?_ _)); exact BK314.out⟩, ⟨by (with_reducible repeat (first | refine blk_drewN ?_ _ | refine blk_drew ?_ | refine blk_alloc ?_ _)); refine blk_put (cs := #[.int .i64 ((rd_T45 l2 x10_2).f0), .int .i64 ((rd_T45 l2 x10_2).f1), .int .i64 0]) ?_ 2 _ rfl; (with_reducible repeat (first | refine blk_drewN ?_ _ | refine blk_drew ?_ | refine blk_alloc ?_ _)); refine blk_put (cs := #[.int .i64 ((rd_T45 l2 x10_2).f0), .int .i64 0, .int .i64 0]) ?_ 1 _ rfl; (with_reducible repeat (first | refine blk_drewN ?_ _ | refine blk_drew ?_ | refine blk_alloc ?_ _)); refine blk_put (cs := #[.int .i64 0, .int .i64 0, .int .i64 0]) ?_ 0 _ rfl; (with_reducible repeat (first | refine blk_drewN ?_ _ | refine blk_drew ?_ | refine blk_alloc ?_ _)); exact BK322.out⟩, ⟨by repeat (first | (with_reducible first | exact HB.out | apply below_alloc | apply pw_below_drewN | apply below_drew1 | refine below_set ?_ GE310.out | refine below_set ?_ GE314.out | refine below_set ?_ GE322.out) | exact HB.out)⟩⟩
                      · rw [if_neg c31] at H
                        have c31b0 : decide (((rd_T45 l2 x10_2).f0) < 0) = false := decide_eq_false c31
                        clear c31
                        (first | rw [c31b0] | (simp only [i64_w, i32_w]; rw [c31b0]) | skip)
                        by_cases c35 : ((rd_T45 l2 x10_2).f0) ≥ (l1.length : Int)
                        · rw [if_pos c35] at H
                          have c35b0 : decide ((l1.length : Int) ≤ ((rd_T45 l2 x10_2).f0)) = true := decide_eq_true c35
                          clear c35
                          have H' := Aside0.mk H
                          clear H
                          have hnb36 := NB322_310.out
                          have hnc36 := NB310_322.out
                          have hnb37 := NB322_314.out
                          have hnc37 := NB314_322.out
                          have hcz38_0 : w27.cell? ⟨gb322, 0, none⟩ = some (.int .i64 0) := (blk_cell BK322.out 0).trans rfl
                          have hcz38_1 : w27.cell? ⟨gb322, 1, none⟩ = some (.int .i64 0) := (blk_cell BK322.out 1).trans rfl
                          have hcz38_2 : w27.cell? ⟨gb322, 2, none⟩ = some (.int .i64 0) := (blk_cell BK322.out 2).trans rfl
                          have hfz38_0 := blk_frozen BK322.out 0
                          have hfz38_1 := blk_frozen BK322.out 1
                          have hfz38_2 := blk_frozen BK322.out 2
                          go_wp2
                          go_meet
                          case rel => exact ⟨_, (true), (by first | rfl | (simp; done) | (simp [*]; done)), H', ⟨by have := HK1.out; have := HK2.out; first | omega | exact Nat.le_refl _⟩, ⟨by (with_reducible repeat (first | apply Kd.R_alloc | apply Kd.R_drewN | apply Kd.R_drew)); exact Kd.R_mono (Kd.R_far (p := ⟨gb322, 2, none⟩) (Kd.R_far (p := ⟨gb322, 1, none⟩) (Kd.R_far (p := ⟨gb322, 0, none⟩) (Kd.R_types HO_315000.out BK322.out (by decide)) (fun _ hk => hk.2) (.int .i64 ((rd_T45 l2 x10_2).f0))) (fun _ hk => hk.2) (.int .i64 ((rd_T45 l2 x10_2).f1))) (fun _ hk => hk.2) (.int .i64 ((rd_T45 l2 x10_2).f2))) (fun _ hk => hk.1)⟩, ⟨by (with_reducible repeat (first | apply Kd.R_alloc | apply Kd.R_drewN | apply Kd.R_drew)); exact Kd.R_mono (Kd.R_far (p := ⟨gb322, 2, none⟩) (Kd.R_far (p := ⟨gb322, 1, none⟩) (Kd.R_far (p := ⟨gb322, 0, none⟩) (Kd.R_types HO_315001.out BK322.out (by decide)) (fun _ hk => hk.2) (.int .i64 ((rd_T45 l2 x10_2).f0))) (fun _ hk => hk.2) (.int .i64 ((rd_T45 l2 x10_2).f1))) (fun _ hk => hk.2) (.int .i64 ((rd_T45 l2 x10_2).f2))) (fun _ hk => hk.1)⟩, ⟨by (with_reducible repeat (first | apply Kd.R_alloc | apply Kd.R_drewN | apply Kd.R_drew)); exact Kd.R_mono (Kd.R_far (p := ⟨gb322, 2, none⟩) (Kd.R_far (p := ⟨gb322, 1, none⟩) (Kd.R_far (p := ⟨gb322, 0, none⟩) (Kd.R_types HO_315002.out BK322.out (by decide)) (fun _ hk => hk.2) (.int .i64 ((rd_T45 l2 x10_2).f0))) (fun _ hk => hk.2) (.int .i64 ((rd_T45 l2 x10_2).f1))) (fun _ hk => hk.2) (.int .i64 ((rd_T45 l2 x10_2).f2))) (fun _ hk => trivial)⟩, ⟨by (with_reducible repeat (first | refine blk_drewN ?_ _ | refine blk_drew ?_ | refine blk_alloc ?_ _)); refine blk_far ?_ NB310_322.out _; (with_reducible repeat (first | refine blk_drewN ?_ _ | refine blk_drew ?_ | refine blk_alloc ?_ _)); refine blk_far ?_ NB310_322.out _; (with_reducible repeat (first | refine blk_drewN ?_ _ | refine blk_drew ?_ | refine blk_alloc ?_ _)); refine blk_far ?_ NB310_322.out _; (with_reducible repeat (first | refine blk_drewN ?_ _ | refine blk_drew ?_ | refine blk_alloc ?_ _)); exact BK310.out⟩, ⟨by (with_reducible repeat (first | refine blk_drewN ?_ _ | refine blk_drew ?_ | refine blk_alloc ?_ _)); refine blk_far ?_ NB314_322.out _; (with_reducible repeat (first | refine blk_drewN ?_ _ | refine blk_drew ?_ | refine blk_alloc ?_ _)); refine blk_far ?_ NB314_322.out _; (with_reducible repeat (first | refine blk_drewN ?_ _ | refine blk_drew ?_ | refine blk_alloc ?_ _)); refine blk_far ?_ NB314_322.out _; (with_reducible repeat (first | refine blk_drewN ?_ _ | refine blk_drew ?_ | refine blk_alloc ?_ _)); exact BK314.out⟩, ⟨by (with_reducible repeat (first | refine blk_drewN ?_ _ | refine blk_drew ?_ | refine blk_alloc ?_ _)); refine blk_put (cs := #[.int .i64 ((rd_T45 l2 x10_2).f0), .int .i64 ((rd_T45 l2 x10_2).f1), .int .i64 0]) ?_ 2 _ rfl; (with_reducible repeat (first | refine blk_drewN ?_ _ | refine blk_drew ?_ | refine blk_alloc ?_ _)); refine blk_put (cs := #[.int .i64 ((rd_T45 l2 x10_2).f0), .int .i64 0, .int .i64 0]) ?_ 1 _ rfl; (with_reducible repeat (first | refine blk_drewN ?_ _ | refine blk_drew ?_ | refine blk_alloc ?_ _)); refine blk_put (cs := #[.int .i64 0, .int .i64 0, .int .i64 0]) ?_ 0 _ rfl; (with_reducible repeat (first | refine blk_drewN ?_ _ | refine blk_drew ?_ | refine blk_alloc ?_ _)); exact BK322.out⟩, ⟨by repeat (first | (with_reducible first | exact HB.out | apply below_alloc | apply pw_below_drewN | apply below_drew1 | refine below_set ?_ GE310.out | refine below_set ?_ GE314.out | refine below_set ?_ GE322.out) | exact HB.out)⟩⟩
                        · rw [if_neg c35] at H
                          have c35b0 : decide ((l1.length : Int) ≤ ((rd_T45 l2 x10_2).f0)) = false := decide_eq_false c35
                          clear c35
                          by_cases c39 : ((rd_T45 l2 x10_2).f1) < 0
                          · rw [if_pos c39] at H
                            have c39b0 : decide (((rd_T45 l2 x10_2).f1) < 0) = true := decide_eq_true c39
                            clear c39
                            have H' := Aside0.mk H
                            clear H
                            have hnb40 := NB322_310.out
                            have hnc40 := NB310_322.out
                            have hnb41 := NB322_314.out
                            have hnc41 := NB314_322.out
                            have hcz42_0 : w27.cell? ⟨gb322, 0, none⟩ = some (.int .i64 0) := (blk_cell BK322.out 0).trans rfl
                            have hcz42_1 : w27.cell? ⟨gb322, 1, none⟩ = some (.int .i64 0) := (blk_cell BK322.out 1).trans rfl
                            have hcz42_2 : w27.cell? ⟨gb322, 2, none⟩ = some (.int .i64 0) := (blk_cell BK322.out 2).trans rfl
                            have hfz42_0 := blk_frozen BK322.out 0
                            have hfz42_1 := blk_frozen BK322.out 1
                            have hfz42_2 := blk_frozen BK322.out 2
                            go_wp2
                            go_meet
                            case rel => exact ⟨_, (true), (by first | rfl | (simp; done) | (simp [*]; done)), H', ⟨by have := HK1.out; have := HK2.out; first | omega | exact Nat.le_refl _⟩, ⟨by (with_reducible repeat (first | apply Kd.R_alloc | apply Kd.R_drewN | apply Kd.R_drew)); exact Kd.R_mono (Kd.R_far (p := ⟨gb322, 2, none⟩) (Kd.R_far (p := ⟨gb322, 1, none⟩) (Kd.R_far (p := ⟨gb322, 0, none⟩) (Kd.R_types HO_315000.out BK322.out (by decide)) (fun _ hk => hk.2) (.int .i64 ((rd_T45 l2 x10_2).f0))) (fun _ hk => hk.2) (.int .i64 ((rd_T45 l2 x10_2).f1))) (fun _ hk => hk.2) (.int .i64 ((rd_T45 l2 x10_2).f2))) (fun _ hk => hk.1)⟩, ⟨by (with_reducible repeat (first | apply Kd.R_alloc | apply Kd.R_drewN | apply Kd.R_drew)); exact Kd.R_mono (Kd.R_far (p := ⟨gb322, 2, none⟩) (Kd.R_far (p := ⟨gb322, 1, none⟩) (Kd.R_far (p := ⟨gb322, 0, none⟩) (Kd.R_types HO_315001.out BK322.out (by decide)) (fun _ hk => hk.2) (.int .i64 ((rd_T45 l2 x10_2).f0))) (fun _ hk => hk.2) (.int .i64 ((rd_T45 l2 x10_2).f1))) (fun _ hk => hk.2) (.int .i64 ((rd_T45 l2 x10_2).f2))) (fun _ hk => hk.1)⟩, ⟨by (with_reducible repeat (first | apply Kd.R_alloc | apply Kd.R_drewN | apply Kd.R_drew)); exact Kd.R_mono (Kd.R_far (p := ⟨gb322, 2, none⟩) (Kd.R_far (p := ⟨gb322, 1, none⟩) (Kd.R_far (p := ⟨gb322, 0, none⟩) (Kd.R_types HO_315002.out BK322.out (by decide)) (fun _ hk => hk.2) (.int .i64 ((rd_T45 l2 x10_2).f0))) (fun _ hk => hk.2) (.int .i64 ((rd_T45 l2 x10_2).f1))) (fun _ hk => hk.2) (.int .i64 ((rd_T45 l2 x10_2).f2))) (fun _ hk => trivial)⟩, ⟨by (with_reducible repeat (first | refine blk_drewN ?_ _ | refine blk_drew ?_ | refine blk_alloc ?_ _)); refine blk_far ?_ NB310_322.out _; (with_reducible repeat (first | refine blk_drewN ?_ _ | refine blk_drew ?_ | refine blk_alloc ?_ _)); refine blk_far ?_ NB310_322.out _; (with_reducible repeat (first | refine blk_drewN ?_ _ | refine blk_drew ?_ | refine blk_alloc ?_ _)); refine blk_far ?_ NB310_322.out _; (with_reducible repeat (first | refine blk_drewN ?_ _ | refine blk_drew ?_ | refine blk_alloc ?_ _)); exact BK310.out⟩, ⟨by (with_reducible repeat (first | refine blk_drewN ?_ _ | refine blk_drew ?_ | refine blk_alloc ?_ _)); refine blk_far ?_ NB314_322.out _; (with_reducible repeat (first | refine blk_drewN ?_ _ | refine blk_drew ?_ | refine blk_alloc ?_ _)); refine blk_far ?_ NB314_322.out _; (with_reducible repeat (first | refine blk_drewN ?_ _ | refine blk_drew ?_ | refine blk_alloc ?_ _)); refine blk_far ?_ NB314_322.out _; (with_reducible repeat (first | refine blk_drewN ?_ _ | refine blk_drew ?_ | refine blk_alloc ?_ _)); exact BK314.out⟩, ⟨by (with_reducible repeat (first | refine blk_drewN ?_ _ | refine blk_drew ?_ | refine blk_alloc ?_ _)); refine blk_put (cs := #[.int .i64 ((rd_T45 l2 x10_2).f0), .int .i64 ((rd_T45 l2 x10_2).f1), .int .i64 0]) ?_ 2 _ rfl; (with_reducible repeat (first | refine blk_drewN ?_ _ | refine blk_drew ?_ | refine blk_alloc ?_ _)); refine blk_put (cs := #[.int .i64 ((rd_T45 l2 x10_2).f0), .int .i64 0, .int .i64 0]) ?_ 1 _ rfl; (with_reducible repeat (first | refine blk_drewN ?_ _ | refine blk_drew ?_ | refine blk_alloc ?_ _)); refine blk_put (cs := #[.int .i64 0, .int .i64 0, .int .i64 0]) ?_ 0 _ rfl; (with_reducible repeat (first | refine blk_drewN ?_ _ | refine blk_drew ?_ | refine blk_alloc ?_ _)); exact BK322.out⟩, ⟨by repeat (first | (with_reducible first | exact HB.out | apply below_alloc | apply pw_below_drewN | apply below_drew1 | refine below_set ?_ GE310.out | refine below_set ?_ GE314.out | refine below_set ?_ GE322.out) | exact HB.out)⟩⟩
                          · rw [if_neg c39] at H
                            have c39b0 : decide (((rd_T45 l2 x10_2).f1) < 0) = false := decide_eq_false c39
                            clear c39
                            by_cases c43 : ((rd_T45 l2 x10_2).f1) > 99
                            · rw [if_pos c43] at H
                              have c43b0 : decide (99 < ((rd_T45 l2 x10_2).f1)) = true := decide_eq_true c43
                              clear c43
                              have H' := Aside0.mk H
                              clear H
                              have hnb44 := NB322_310.out
                              have hnc44 := NB310_322.out
                              have hnb45 := NB322_314.out
                              have hnc45 := NB314_322.out
                              have hcz46_0 : w27.cell? ⟨gb322, 0, none⟩ = some (.int .i64 0) := (blk_cell BK322.out 0).trans rfl
                              have hcz46_1 : w27.cell? ⟨gb322, 1, none⟩ = some (.int .i64 0) := (blk_cell BK322.out 1).trans rfl
                              have hcz46_2 : w27.cell? ⟨gb322, 2, none⟩ = some (.int .i64 0) := (blk_cell BK322.out 2).trans rfl
                              have hfz46_0 := blk_frozen BK322.out 0
                              have hfz46_1 := blk_frozen BK322.out 1
                              have hfz46_2 := blk_frozen BK322.out 2
                              go_wp2
                              go_meet
                              case rel => exact ⟨_, (true), (by first | rfl | (simp; done) | (simp [*]; done)), H', ⟨by have := HK1.out; have := HK2.out; first | omega | exact Nat.le_refl _⟩, ⟨by (with_reducible repeat (first | apply Kd.R_alloc | apply Kd.R_drewN | apply Kd.R_drew)); exact Kd.R_mono (Kd.R_far (p := ⟨gb322, 2, none⟩) (Kd.R_far (p := ⟨gb322, 1, none⟩) (Kd.R_far (p := ⟨gb322, 0, none⟩) (Kd.R_types HO_315000.out BK322.out (by decide)) (fun _ hk => hk.2) (.int .i64 ((rd_T45 l2 x10_2).f0))) (fun _ hk => hk.2) (.int .i64 ((rd_T45 l2 x10_2).f1))) (fun _ hk => hk.2) (.int .i64 ((rd_T45 l2 x10_2).f2))) (fun _ hk => hk.1)⟩, ⟨by (with_reducible repeat (first | apply Kd.R_alloc | apply Kd.R_drewN | apply Kd.R_drew)); exact Kd.R_mono (Kd.R_far (p := ⟨gb322, 2, none⟩) (Kd.R_far (p := ⟨gb322, 1, none⟩) (Kd.R_far (p := ⟨gb322, 0, none⟩) (Kd.R_types HO_315001.out BK322.out (by decide)) (fun _ hk => hk.2) (.int .i64 ((rd_T45 l2 x10_2).f0))) (fun _ hk => hk.2) (.int .i64 ((rd_T45 l2 x10_2).f1))) (fun _ hk => hk.2) (.int .i64 ((rd_T45 l2 x10_2).f2))) (fun _ hk => hk.1)⟩, ⟨by (with_reducible repeat (first | apply Kd.R_alloc | apply Kd.R_drewN | apply Kd.R_drew)); exact Kd.R_mono (Kd.R_far (p := ⟨gb322, 2, none⟩) (Kd.R_far (p := ⟨gb322, 1, none⟩) (Kd.R_far (p := ⟨gb322, 0, none⟩) (Kd.R_types HO_315002.out BK322.out (by decide)) (fun _ hk => hk.2) (.int .i64 ((rd_T45 l2 x10_2).f0))) (fun _ hk => hk.2) (.int .i64 ((rd_T45 l2 x10_2).f1))) (fun _ hk => hk.2) (.int .i64 ((rd_T45 l2 x10_2).f2))) (fun _ hk => trivial)⟩, ⟨by (with_reducible repeat (first | refine blk_drewN ?_ _ | refine blk_drew ?_ | refine blk_alloc ?_ _)); refine blk_far ?_ NB310_322.out _; (with_reducible repeat (first | refine blk_drewN ?_ _ | refine blk_drew ?_ | refine blk_alloc ?_ _)); refine blk_far ?_ NB310_322.out _; (with_reducible repeat (first | refine blk_drewN ?_ _ | refine blk_drew ?_ | refine blk_alloc ?_ _)); refine blk_far ?_ NB310_322.out _; (with_reducible repeat (first | refine blk_drewN ?_ _ | refine blk_drew ?_ | refine blk_alloc ?_ _)); exact BK310.out⟩, ⟨by (with_reducible repeat (first | refine blk_drewN ?_ _ | refine blk_drew ?_ | refine blk_alloc ?_ _)); refine blk_far ?_ NB314_322.out _; (with_reducible repeat (first | refine blk_drewN ?_ _ | refine blk_drew ?_ | refine blk_alloc ?_ _)); refine blk_far ?_ NB314_322.out _; (with_reducible repeat (first | refine blk_drewN ?_ _ | refine blk_drew ?_ | refine blk_alloc ?_ _)); refine blk_far ?_ NB314_322.out _; (with_reducible repeat (first | refine blk_drewN ?_ _ | refine blk_drew ?_ | refine blk_alloc ?_ _)); exact BK314.out⟩, ⟨by (with_reducible repeat (first | refine blk_drewN ?_ _ | refine blk_drew ?_ | refine blk_alloc ?_ _)); refine blk_put (cs := #[.int .i64 ((rd_T45 l2 x10_2).f0), .int .i64 ((rd_T45 l2 x10_2).f1), .int .i64 0]) ?_ 2 _ rfl; (with_reducible repeat (first | refine blk_drewN ?_ _ | refine blk_drew ?_ | refine blk_alloc ?_ _)); refine blk_put (cs := #[.int .i64 ((rd_T45 l2 x10_2).f0), .int .i64 0, .int .i64 0]) ?_ 1 _ rfl; (with_reducible repeat (first | refine blk_drewN ?_ _ | refine blk_drew ?_ | refine blk_alloc ?_ _)); refine blk_put (cs := #[.int .i64 0, .int .i64 0, .int .i64 0]) ?_ 0 _ rfl; (with_reducible repeat (first | refine blk_drewN ?_ _ | refine blk_drew ?_ | refine blk_alloc ?_ _)); exact BK322.out⟩, ⟨by repeat (first | (with_reducible first | exact HB.out | apply below_alloc | apply pw_below_drewN | apply below_drew1 | refine below_set ?_ GE310.out | refine below_set ?_ GE314.out | refine below_set ?_ GE322.out) | exact HB.out)⟩⟩
                            · rw [if_neg c43] at H
                              have c43b0 : decide (99 < ((rd_T45 l2 x10_2).f1)) = false := decide_eq_false c43
                              clear c43
                              by_cases c47 : ((rd_T45 l2 x10_2).f2) < 0
                              · rw [if_pos c47] at H
                                have c47b0 : decide (((rd_T45 l2 x10_2).f2) < 0) = true := decide_eq_true c47
                                clear c47
                                have H' := Aside0.mk H
                                clear H
                                have hnb48 := NB322_310.out
                                have hnc48 := NB310_322.out
                                have hnb49 := NB322_314.out
                                have hnc49 := NB314_322.out
                                have hcz50_0 : w27.cell? ⟨gb322, 0, none⟩ = some (.int .i64 0) := (blk_cell BK322.out 0).trans rfl
                                have hcz50_1 : w27.cell? ⟨gb322, 1, none⟩ = some (.int .i64 0) := (blk_cell BK322.out 1).trans rfl
                                have hcz50_2 : w27.cell? ⟨gb322, 2, none⟩ = some (.int .i64 0) := (blk_cell BK322.out 2).trans rfl
                                have hfz50_0 := blk_frozen BK322.out 0
                                have hfz50_1 := blk_frozen BK322.out 1
                                have hfz50_2 := blk_frozen BK322.out 2
                                go_wp2
                                go_meet
                                case rel => exact ⟨_, (true), (by first | rfl | (simp; done) | (simp [*]; done)), H', ⟨by have := HK1.out; have := HK2.out; first | omega | exact Nat.le_refl _⟩, ⟨by (with_reducible repeat (first | apply Kd.R_alloc | apply Kd.R_drewN | apply Kd.R_drew)); exact Kd.R_mono (Kd.R_far (p := ⟨gb322, 2, none⟩) (Kd.R_far (p := ⟨gb322, 1, none⟩) (Kd.R_far (p := ⟨gb322, 0, none⟩) (Kd.R_types HO_315000.out BK322.out (by decide)) (fun _ hk => hk.2) (.int .i64 ((rd_T45 l2 x10_2).f0))) (fun _ hk => hk.2) (.int .i64 ((rd_T45 l2 x10_2).f1))) (fun _ hk => hk.2) (.int .i64 ((rd_T45 l2 x10_2).f2))) (fun _ hk => hk.1)⟩, ⟨by (with_reducible repeat (first | apply Kd.R_alloc | apply Kd.R_drewN | apply Kd.R_drew)); exact Kd.R_mono (Kd.R_far (p := ⟨gb322, 2, none⟩) (Kd.R_far (p := ⟨gb322, 1, none⟩) (Kd.R_far (p := ⟨gb322, 0, none⟩) (Kd.R_types HO_315001.out BK322.out (by decide)) (fun _ hk => hk.2) (.int .i64 ((rd_T45 l2 x10_2).f0))) (fun _ hk => hk.2) (.int .i64 ((rd_T45 l2 x10_2).f1))) (fun _ hk => hk.2) (.int .i64 ((rd_T45 l2 x10_2).f2))) (fun _ hk => hk.1)⟩, ⟨by (with_reducible repeat (first | apply Kd.R_alloc | apply Kd.R_drewN | apply Kd.R_drew)); exact Kd.R_mono (Kd.R_far (p := ⟨gb322, 2, none⟩) (Kd.R_far (p := ⟨gb322, 1, none⟩) (Kd.R_far (p := ⟨gb322, 0, none⟩) (Kd.R_types HO_315002.out BK322.out (by decide)) (fun _ hk => hk.2) (.int .i64 ((rd_T45 l2 x10_2).f0))) (fun _ hk => hk.2) (.int .i64 ((rd_T45 l2 x10_2).f1))) (fun _ hk => hk.2) (.int .i64 ((rd_T45 l2 x10_2).f2))) (fun _ hk => trivial)⟩, ⟨by (with_reducible repeat (first | refine blk_drewN ?_ _ | refine blk_drew ?_ | refine blk_alloc ?_ _)); refine blk_far ?_ NB310_322.out _; (with_reducible repeat (first | refine blk_drewN ?_ _ | refine blk_drew ?_ | refine blk_alloc ?_ _)); refine blk_far ?_ NB310_322.out _; (with_reducible repeat (first | refine blk_drewN ?_ _ | refine blk_drew ?_ | refine blk_alloc ?_ _)); refine blk_far ?_ NB310_322.out _; (with_reducible repeat (first | refine blk_drewN ?_ _ | refine blk_drew ?_ | refine blk_alloc ?_ _)); exact BK310.out⟩, ⟨by (with_reducible repeat (first | refine blk_drewN ?_ _ | refine blk_drew ?_ | refine blk_alloc ?_ _)); refine blk_far ?_ NB314_322.out _; (with_reducible repeat (first | refine blk_drewN ?_ _ | refine blk_drew ?_ | refine blk_alloc ?_ _)); refine blk_far ?_ NB314_322.out _; (with_reducible repeat (first | refine blk_drewN ?_ _ | refine blk_drew ?_ | refine blk_alloc ?_ _)); refine blk_far ?_ NB314_322.out _; (with_reducible repeat (first | refine blk_drewN ?_ _ | refine blk_drew ?_ | refine blk_alloc ?_ _)); exact BK314.out⟩, ⟨by (with_reducible repeat (first | refine blk_drewN ?_ _ | refine blk_drew ?_ | refine blk_alloc ?_ _)); refine blk_put (cs := #[.int .i64 ((rd_T45 l2 x10_2).f0), .int .i64 ((rd_T45 l2 x10_2).f1), .int .i64 0]) ?_ 2 _ rfl; (with_reducible repeat (first | refine blk_drewN ?_ _ | refine blk_drew ?_ | refine blk_alloc ?_ _)); refine blk_put (cs := #[.int .i64 ((rd_T45 l2 x10_2).f0), .int .i64 0, .int .i64 0]) ?_ 1 _ rfl; (with_reducible repeat (first | refine blk_drewN ?_ _ | refine blk_drew ?_ | refine blk_alloc ?_ _)); refine blk_put (cs := #[.int .i64 0, .int .i64 0, .int .i64 0]) ?_ 0 _ rfl; (with_reducible repeat (first | refine blk_drewN ?_ _ | refine blk_drew ?_ | refine blk_alloc ?_ _)); exact BK322.out⟩, ⟨by repeat (first | (with_reducible first | exact HB.out | apply below_alloc | apply pw_below_drewN | apply below_drew1 | refine below_set ?_ GE310.out | refine below_set ?_ GE314.out | refine below_set ?_ GE322.out) | exact HB.out)⟩⟩
                              · rw [if_neg c47] at H
                                have c47b0 : decide (((rd_T45 l2 x10_2).f2) < 0) = false := decide_eq_false c47
                                clear c47
                                have H' := Aside0.mk H
                                clear H
                                have hnb51 := NB322_310.out
                                have hnc51 := NB310_322.out
                                have hnb52 := NB322_314.out
                                have hnc52 := NB314_322.out
                                have hcz53_0 : w27.cell? ⟨gb322, 0, none⟩ = some (.int .i64 0) := (blk_cell BK322.out 0).trans rfl
                                have hcz53_1 : w27.cell? ⟨gb322, 1, none⟩ = some (.int .i64 0) := (blk_cell BK322.out 1).trans rfl
                                have hcz53_2 : w27.cell? ⟨gb322, 2, none⟩ = some (.int .i64 0) := (blk_cell BK322.out 2).trans rfl
                                have hfz53_0 := blk_frozen BK322.out 0
                                have hfz53_1 := blk_frozen BK322.out 1
                                have hfz53_2 := blk_frozen BK322.out 2
                                go_wp2
                                go_meet
                                case rel => exact ⟨_, (decide (((rd_T45 l2 x10_2).f2) > 99)), (by first | rfl | (simp; done) | (simp [*]; done)), H', ⟨by have := HK1.out; have := HK2.out; first | omega | exact Nat.le_refl _⟩, ⟨by (with_reducible repeat (first | apply Kd.R_alloc | apply Kd.R_drewN | apply Kd.R_drew)); exact Kd.R_mono (Kd.R_far (p := ⟨gb322, 2, none⟩) (Kd.R_far (p := ⟨gb322, 1, none⟩) (Kd.R_far (p := ⟨gb322, 0, none⟩) (Kd.R_types HO_315000.out BK322.out (by decide)) (fun _ hk => hk.2) (.int .i64 ((rd_T45 l2 x10_2).f0))) (fun _ hk => hk.2) (.int .i64 ((rd_T45 l2 x10_2).f1))) (fun _ hk => hk.2) (.int .i64 ((rd_T45 l2 x10_2).f2))) (fun _ hk => hk.1)⟩, ⟨by (with_reducible repeat (first | apply Kd.R_alloc | apply Kd.R_drewN | apply Kd.R_drew)); exact Kd.R_mono (Kd.R_far (p := ⟨gb322, 2, none⟩) (Kd.R_far (p := ⟨gb322, 1, none⟩) (Kd.R_far (p := ⟨gb322, 0, none⟩) (Kd.R_types HO_315001.out BK322.out (by decide)) (fun _ hk => hk.2) (.int .i64 ((rd_T45 l2 x10_2).f0))) (fun _ hk => hk.2) (.int .i64 ((rd_T45 l2 x10_2).f1))) (fun _ hk => hk.2) (.int .i64 ((rd_T45 l2 x10_2).f2))) (fun _ hk => hk.1)⟩, ⟨by (with_reducible repeat (first | apply Kd.R_alloc | apply Kd.R_drewN | apply Kd.R_drew)); exact Kd.R_mono (Kd.R_far (p := ⟨gb322, 2, none⟩) (Kd.R_far (p := ⟨gb322, 1, none⟩) (Kd.R_far (p := ⟨gb322, 0, none⟩) (Kd.R_types HO_315002.out BK322.out (by decide)) (fun _ hk => hk.2) (.int .i64 ((rd_T45 l2 x10_2).f0))) (fun _ hk => hk.2) (.int .i64 ((rd_T45 l2 x10_2).f1))) (fun _ hk => hk.2) (.int .i64 ((rd_T45 l2 x10_2).f2))) (fun _ hk => trivial)⟩, ⟨by (with_reducible repeat (first | refine blk_drewN ?_ _ | refine blk_drew ?_ | refine blk_alloc ?_ _)); refine blk_far ?_ NB310_322.out _; (with_reducible repeat (first | refine blk_drewN ?_ _ | refine blk_drew ?_ | refine blk_alloc ?_ _)); refine blk_far ?_ NB310_322.out _; (with_reducible repeat (first | refine blk_drewN ?_ _ | refine blk_drew ?_ | refine blk_alloc ?_ _)); refine blk_far ?_ NB310_322.out _; (with_reducible repeat (first | refine blk_drewN ?_ _ | refine blk_drew ?_ | refine blk_alloc ?_ _)); exact BK310.out⟩, ⟨by (with_reducible repeat (first | refine blk_drewN ?_ _ | refine blk_drew ?_ | refine blk_alloc ?_ _)); refine blk_far ?_ NB314_322.out _; (with_reducible repeat (first | refine blk_drewN ?_ _ | refine blk_drew ?_ | refine blk_alloc ?_ _)); refine blk_far ?_ NB314_322.out _; (with_reducible repeat (first | refine blk_drewN ?_ _ | refine blk_drew ?_ | refine blk_alloc ?_ _)); refine blk_far ?_ NB314_322.out _; (with_reducible repeat (first | refine blk_drewN ?_ _ | refine blk_drew ?_ | refine blk_alloc ?_ _)); exact BK314.out⟩, ⟨by (with_reducible repeat (first | refine blk_drewN ?_ _ | refine blk_drew ?_ | refine blk_alloc ?_ _)); refine blk_put (cs := #[.int .i64 ((rd_T45 l2 x10_2).f0), .int .i64 ((rd_T45 l2 x10_2).f1), .int .i64 0]) ?_ 2 _ rfl; (with_reducible repeat (first | refine blk_drewN ?_ _ | refine blk_drew ?_ | refine blk_alloc ?_ _)); refine blk_put (cs := #[.int .i64 ((rd_T45 l2 x10_2).f0), .int .i64 0, .int .i64 0]) ?_ 1 _ rfl; (with_reducible repeat (first | refine blk_drewN ?_ _ | refine blk_drew ?_ | refine blk_alloc ?_ _)); refine blk_put (cs := #[.int .i64 0, .int .i64 0, .int .i64 0]) ?_ 0 _ rfl; (with_reducible repeat (first | refine blk_drewN ?_ _ | refine blk_drew ?_ | refine blk_alloc ?_ _)); exact BK322.out⟩, ⟨by repeat (first | (with_reducible first | exact HB.out | apply below_alloc | apply pw_below_drewN | apply below_drew1 | refine below_set ?_ GE310.out | refine below_set ?_ GE314.out | refine below_set ?_ GE322.out) | exact HB.out)⟩⟩
                    case rest =>
                      clear HC26
                      try clear c1
                      try clear c2
                      try clear p2
                      try clear c3
                      try clear p3
                      try clear q3
                      try clear hx3
                      try clear c4
                      try clear c4b0
                      try clear c4b1
                      try clear c5
                      try clear c5b0
                      try clear c5b1
                      try clear p6
                      try clear c11
                      try clear c13
                      try clear c13b0
                      try clear c14
                      try clear c15
                      try clear c16
                      try clear c24
                      try clear c24b0
                      try clear c25
                      try clear c25b0
                      try clear c28
                      try clear c29
                      try clear c31
                      try clear c31b0
                      try clear c32
                      try clear p32
                      try clear q32
                      try clear hx32
                      try clear c33
                      try clear c35
                      try clear c35b0
                      try clear c36
                      try clear c37
                      try clear c39
                      try clear c39b0
                      try clear c40
                      try clear c41
                      try clear c43
                      try clear c43b0
                      try clear c44
                      try clear c45
                      try clear c47
                      try clear c47b0
                      try clear c48
                      try clear c49
                      try clear c51
                      try clear c52
                      try clear hcz12_0
                      try clear hcz12_1
                      try clear hcz12_2
                      try clear hcz17_0
                      try clear hcz17_1
                      try clear hcz17_2
                      try clear hcz20_0
                      try clear hcz20_1
                      try clear hcz20_2
                      try clear hcz23_0
                      try clear hcz23_1
                      try clear hcz23_2
                      try clear hcz30_0
                      try clear hcz30_1
                      try clear hcz30_2
                      try clear hcz34_0
                      try clear hcz34_1
                      try clear hcz34_2
                      try clear hcz38_0
                      try clear hcz38_1
                      try clear hcz38_2
                      try clear hcz42_0
                      try clear hcz42_1
                      try clear hcz42_2
                      try clear hcz46_0
                      try clear hcz46_1
                      try clear hcz46_2
                      try clear hcz50_0
                      try clear hcz50_1
                      try clear hcz50_2
                      try clear hcz53_0
                      try clear hcz53_1
                      try clear hcz53_2
                      try clear hfz12_0
                      try clear hfz12_1
                      try clear hfz12_2
                      try clear hfz17_0
                      try clear hfz17_1
                      try clear hfz17_2
                      try clear hfz20_0
                      try clear hfz20_1
                      try clear hfz20_2
                      try clear hfz23_0
                      try clear hfz23_1
                      try clear hfz23_2
                      try clear hfz30_0
                      try clear hfz30_1
                      try clear hfz30_2
                      try clear hfz34_0
                      try clear hfz34_1
                      try clear hfz34_2
                      try clear hfz38_0
                      try clear hfz38_1
                      try clear hfz38_2
                      try clear hfz42_0
                      try clear hfz42_1
                      try clear hfz42_2
                      try clear hfz46_0
                      try clear hfz46_1
                      try clear hfz46_2
                      try clear hfz50_0
                      try clear hfz50_1
                      try clear hfz50_2
                      try clear hfz53_0
                      try clear hfz53_1
                      try clear hfz53_2
                      try clear hx321_0
                      try clear hx321_1
                      try clear hx321_2
                      try clear p2
                      try clear p321
                      try clear p6
                      try clear q321
                      obtain ⟨kq, x72_25, rfl, HA, HJ25, HO_315000, HO_315001, HO_315002, BK310, BK314, BK322, HB⟩ := hcut
                      cases kq with
                      | zero => exact absurd HA.out (by simp [fastiref23_play.j2])
                      | succ kj25 =>
                        have H := HA.out
                        clear HA
                        simp only [fastiref23_play.j2] at H
                        by_cases c54 : x72_25 = true
                        · subst c54
                          have H1 : (some (x315000_2, x315001_2, x315002_2, false)) = some (r1, r2, r3, r4) := by rw [if_pos rfl] at H; exact H
                          clear H
                          have H := H1
                          clear H1
                          simp only [Option.some.injEq, Prod.mk.injEq] at H
                          obtain ⟨rfl, rfl, rfl, rfl⟩ := H
                          have hnb55 := NB314_310.out
                          have hnc55 := NB310_314.out
                          have hnb56 := NB314_322.out
                          have hnc56 := NB322_314.out
                          have hcz57_0 : wc.cell? ⟨gb314, 0, none⟩ = some (u315000) := (blk_cell BK314.out 0).trans rfl
                          have hcz57_1 : wc.cell? ⟨gb314, 1, none⟩ = some (u315001) := (blk_cell BK314.out 1).trans rfl
                          have hcz57_2 : wc.cell? ⟨gb314, 2, none⟩ = some (u315002) := (blk_cell BK314.out 2).trans rfl
                          have hfz57_0 := blk_frozen BK314.out 0
                          have hfz57_1 := blk_frozen BK314.out 1
                          have hfz57_2 := blk_frozen BK314.out 2
                          obtain ⟨Ao58, co58, eo58⟩ := Kd.R_slice HO_315000.out
                          subst eo58
                          have hnb59 := NB310_322.out
                          have hnc59 := NB322_310.out
                          have hcz60_0 : wc.cell? ⟨gb310, 0, none⟩ = some (.slice none 0 0) := (blk_cell BK310.out 0).trans rfl
                          have hcz60_1 : wc.cell? ⟨gb310, 1, none⟩ = some (.slice none 0 0) := (blk_cell BK310.out 1).trans rfl
                          have hcz60_2 : wc.cell? ⟨gb310, 2, none⟩ = some (.slice none 0 0) := (blk_cell BK310.out 2).trans rfl
                          have hfz60_0 := blk_frozen BK310.out 0
                          have hfz60_1 := blk_frozen BK310.out 1
                          have hfz60_2 := blk_frozen BK310.out 2
                          obtain ⟨Ao61, co61, eo61⟩ := Kd.R_slice HO_315001.out
                          subst eo61
                          obtain ⟨Ao62, co62, eo62⟩ := Kd.R_slice HO_315002.out
                          subst eo62
                          go_wp2
                          refine bodyPost_ret (results_ct rfl _ _ gb310 64 #[.slice Ao58 x315000_2.length co58, .slice Ao61 x315001_2.length co61, .slice Ao62 x315002_2.length co62] (0, 0) _ rfl (by (with_reducible repeat (first | refine blk_drewN ?_ _ | refine blk_drew ?_ | refine blk_alloc ?_ _)); refine blk_put (cs := #[.slice Ao58 x315000_2.length co58, .slice Ao61 x315001_2.length co61, .slice none 0 0]) ?_ 2 _ rfl; (with_reducible repeat (first | refine blk_drewN ?_ _ | refine blk_drew ?_ | refine blk_alloc ?_ _)); refine blk_put (cs := #[.slice Ao58 x315000_2.length co58, .slice none 0 0, .slice none 0 0]) ?_ 1 _ rfl; (with_reducible repeat (first | refine blk_drewN ?_ _ | refine blk_drew ?_ | refine blk_alloc ?_ _)); refine blk_put (cs := #[.slice none 0 0, .slice none 0 0, .slice none 0 0]) ?_ 0 _ rfl; (with_reducible repeat (first | refine blk_drewN ?_ _ | refine blk_drew ?_ | refine blk_alloc ?_ _)); exact BK310.out) Try.underlying64 rfl (by kernel_rfl)) rfl ?_
                          exact ⟨_, _, _, by first | rfl | (simp [errW_none, errW_some] <;> rfl) | (simp [*, errW_none, errW_some] <;> rfl), by (with_reducible repeat (first | apply Kd.R_alloc | apply Kd.R_drewN | apply Kd.R_drew)); exact Kd.R_mono (Kd.R_far (p := ⟨gb310, 2, none⟩) (Kd.R_far (p := ⟨gb310, 1, none⟩) (Kd.R_far (p := ⟨gb310, 0, none⟩) (Kd.R_types HO_315000.out BK310.out (by decide)) (fun _ hk => hk.2) (.slice Ao58 x315000_2.length co58)) (fun _ hk => hk.2) (.slice Ao61 x315001_2.length co61)) (fun _ hk => hk.2) (.slice Ao62 x315002_2.length co62)) (fun _ hk => hk.1), by (with_reducible repeat (first | apply Kd.R_alloc | apply Kd.R_drewN | apply Kd.R_drew)); exact Kd.R_mono (Kd.R_far (p := ⟨gb310, 2, none⟩) (Kd.R_far (p := ⟨gb310, 1, none⟩) (Kd.R_far (p := ⟨gb310, 0, none⟩) (Kd.R_types HO_315001.out BK310.out (by decide)) (fun _ hk => hk.2) (.slice Ao58 x315000_2.length co58)) (fun _ hk => hk.2) (.slice Ao61 x315001_2.length co61)) (fun _ hk => hk.2) (.slice Ao62 x315002_2.length co62)) (fun _ hk => hk.1), by (with_reducible repeat (first | apply Kd.R_alloc | apply Kd.R_drewN | apply Kd.R_drew)); exact Kd.R_mono (Kd.R_far (p := ⟨gb310, 2, none⟩) (Kd.R_far (p := ⟨gb310, 1, none⟩) (Kd.R_far (p := ⟨gb310, 0, none⟩) (Kd.R_types HO_315002.out BK310.out (by decide)) (fun _ hk => hk.2) (.slice Ao58 x315000_2.length co58)) (fun _ hk => hk.2) (.slice Ao61 x315001_2.length co61)) (fun _ hk => hk.2) (.slice Ao62 x315002_2.length co62)) (fun _ hk => trivial), by repeat (first | (with_reducible first | exact HB.out | apply below_alloc | apply pw_below_drewN | apply below_drew1 | refine below_set ?_ GE310.out | refine below_set ?_ GE314.out | refine below_set ?_ GE322.out) | exact HB.out)⟩
                        · replace c54 := Bool.eq_false_iff.mpr c54
                          subst c54
                          have H1 : ((fastiref23_ready.f l1 x315000_2 x315001_2 x315002_2 ((rd_T45 l2 x10_2).f0)).bind fun t323 => (if t323 = true then (if 0 ≤ ((rd_T45 l2 x10_2).f0) then (if ((rd_T45 l2 x10_2).f0) < (l1.length : Int) then ((fastiref23_entrant.f ((rd_T42 l1 ((rd_T45 l2 x10_2).f0)).f1.f0) ((rd_T42 l1 ((rd_T45 l2 x10_2).f0)).f1.f1) ((rd_T42 l1 ((rd_T45 l2 x10_2).f0)).f1.f2) x315000_2).bind fun t325 => ((fastiref23_entrant.f ((rd_T42 l1 ((rd_T45 l2 x10_2).f0)).f2.f0) ((rd_T42 l1 ((rd_T45 l2 x10_2).f0)).f2.f1) ((rd_T42 l1 ((rd_T45 l2 x10_2).f0)).f2.f2) x315000_2).bind fun t327 => (if ((rd_T45 l2 x10_2).f0) < (x315001_2.length : Int) then (if (Int.tmod (rd x315001_2 ((rd_T45 l2 x10_2).f0)) 2) = 1 then (fastiref23_play.j3 kj25 l1 l2 x10_2 t327 t325 x315000_2 x315001_2 x315002_2 ((rd_T45 l2 x10_2).f0) ((rd_T45 l2 x10_2).f1) ((rd_T45 l2 x10_2).f2)) else (fastiref23_play.j3 kj25 l1 l2 x10_2 t325 t327 x315000_2 x315001_2 x315002_2 ((rd_T45 l2 x10_2).f0) ((rd_T45 l2 x10_2).f1) ((rd_T45 l2 x10_2).f2))) else (none)))) else (none)) else (none)) else (some (x315000_2, x315001_2, x315002_2, false)))) = some (r1, r2, r3, r4) := by rw [if_neg (show ¬ (false = true) by decide)] at H; exact H
                          clear H
                          have H := H1
                          clear H1
                          replace H := Option.bind_eq_some_iff.mp H
                          obtain ⟨t323, A630, H⟩ := H
                          replace H : (if t323 = true then (if 0 ≤ ((rd_T45 l2 x10_2).f0) then (if ((rd_T45 l2 x10_2).f0) < (l1.length : Int) then ((fastiref23_entrant.f ((rd_T42 l1 ((rd_T45 l2 x10_2).f0)).f1.f0) ((rd_T42 l1 ((rd_T45 l2 x10_2).f0)).f1.f1) ((rd_T42 l1 ((rd_T45 l2 x10_2).f0)).f1.f2) x315000_2).bind fun t325 => ((fastiref23_entrant.f ((rd_T42 l1 ((rd_T45 l2 x10_2).f0)).f2.f0) ((rd_T42 l1 ((rd_T45 l2 x10_2).f0)).f2.f1) ((rd_T42 l1 ((rd_T45 l2 x10_2).f0)).f2.f2) x315000_2).bind fun t327 => (if ((rd_T45 l2 x10_2).f0) < (x315001_2.length : Int) then (if (Int.tmod (rd x315001_2 ((rd_T45 l2 x10_2).f0)) 2) = 1 then (fastiref23_play.j3 kj25 l1 l2 x10_2 t327 t325 x315000_2 x315001_2 x315002_2 ((rd_T45 l2 x10_2).f0) ((rd_T45 l2 x10_2).f1) ((rd_T45 l2 x10_2).f2)) else (fastiref23_play.j3 kj25 l1 l2 x10_2 t325 t327 x315000_2 x315001_2 x315002_2 ((rd_T45 l2 x10_2).f0) ((rd_T45 l2 x10_2).f1) ((rd_T45 l2 x10_2).f2))) else (none)))) else (none)) else (none)) else (some (x315000_2, x315001_2, x315002_2, false))) = some (r1, r2, r3, r4) := H
                          have A63 := Aside0.mk A630
                          clear A630
                          by_cases c64 : t323 = true
                          · subst c64
                            have H1 : (if 0 ≤ ((rd_T45 l2 x10_2).f0) then (if ((rd_T45 l2 x10_2).f0) < (l1.length : Int) then ((fastiref23_entrant.f ((rd_T42 l1 ((rd_T45 l2 x10_2).f0)).f1.f0) ((rd_T42 l1 ((rd_T45 l2 x10_2).f0)).f1.f1) ((rd_T42 l1 ((rd_T45 l2 x10_2).f0)).f1.f2) x315000_2).bind fun t325 => ((fastiref23_entrant.f ((rd_T42 l1 ((rd_T45 l2 x10_2).f0)).f2.f0) ((rd_T42 l1 ((rd_T45 l2 x10_2).f0)).f2.f1) ((rd_T42 l1 ((rd_T45 l2 x10_2).f0)).f2.f2) x315000_2).bind fun t327 => (if ((rd_T45 l2 x10_2).f0) < (x315001_2.length : Int) then (if (Int.tmod (rd x315001_2 ((rd_T45 l2 x10_2).f0)) 2) = 1 then (fastiref23_play.j3 kj25 l1 l2 x10_2 t327 t325 x315000_2 x315001_2 x315002_2 ((rd_T45 l2 x10_2).f0) ((rd_T45 l2 x10_2).f1) ((rd_T45 l2 x10_2).f2)) else (fastiref23_play.j3 kj25 l1 l2 x10_2 t325 t327 x315000_2 x315001_2 x315002_2 ((rd_T45 l2 x10_2).f0) ((rd_T45 l2 x10_2).f1) ((rd_T45 l2 x10_2).f2))) else (none)))) else (none)) else (none)) = some (r1, r2, r3, r4) := by rw [if_pos rfl] at H; exact H
                            clear H
                            have H := H1
                            clear H1
                            by_cases c65 : 0 ≤ ((rd_T45 l2 x10_2).f0)
                            · rw [if_pos c65] at H
                              have c65b0 : decide (0 ≤ ((rd_T45 l2 x10_2).f0)) = true := decide_eq_true c65
                              clear c65
                              by_cases c66 : ((rd_T45 l2 x10_2).f0) < (l1.length : Int)
                              · rw [if_pos c66] at H
                                have c66b0 : decide (((rd_T45 l2 x10_2).f0) < (l1.length : Int)) = true := decide_eq_true c66
                                clear c66
                                replace H := Option.bind_eq_some_iff.mp H
                                obtain ⟨t325, A670, H⟩ := H
                                replace H : ((fastiref23_entrant.f ((rd_T42 l1 ((rd_T45 l2 x10_2).f0)).f2.f0) ((rd_T42 l1 ((rd_T45 l2 x10_2).f0)).f2.f1) ((rd_T42 l1 ((rd_T45 l2 x10_2).f0)).f2.f2) x315000_2).bind fun t327 => (if ((rd_T45 l2 x10_2).f0) < (x315001_2.length : Int) then (if (Int.tmod (rd x315001_2 ((rd_T45 l2 x10_2).f0)) 2) = 1 then (fastiref23_play.j3 kj25 l1 l2 x10_2 t327 t325 x315000_2 x315001_2 x315002_2 ((rd_T45 l2 x10_2).f0) ((rd_T45 l2 x10_2).f1) ((rd_T45 l2 x10_2).f2)) else (fastiref23_play.j3 kj25 l1 l2 x10_2 t325 t327 x315000_2 x315001_2 x315002_2 ((rd_T45 l2 x10_2).f0) ((rd_T45 l2 x10_2).f1) ((rd_T45 l2 x10_2).f2))) else (none))) = some (r1, r2, r3, r4) := H
                                have A67 := Aside0.mk A670
                                clear A670
                                replace H := Option.bind_eq_some_iff.mp H
                                obtain ⟨t327, A680, H⟩ := H
                                replace H : (if ((rd_T45 l2 x10_2).f0) < (x315001_2.length : Int) then (if (Int.tmod (rd x315001_2 ((rd_T45 l2 x10_2).f0)) 2) = 1 then (fastiref23_play.j3 kj25 l1 l2 x10_2 t327 t325 x315000_2 x315001_2 x315002_2 ((rd_T45 l2 x10_2).f0) ((rd_T45 l2 x10_2).f1) ((rd_T45 l2 x10_2).f2)) else (fastiref23_play.j3 kj25 l1 l2 x10_2 t325 t327 x315000_2 x315001_2 x315002_2 ((rd_T45 l2 x10_2).f0) ((rd_T45 l2 x10_2).f1) ((rd_T45 l2 x10_2).f2))) else (none)) = some (r1, r2, r3, r4) := H
                                have A68 := Aside0.mk A680
                                clear A680
                                by_cases c69 : ((rd_T45 l2 x10_2).f0) < (x315001_2.length : Int)
                                · rw [if_pos c69] at H
                                  have c69b0 : decide (((rd_T45 l2 x10_2).f0) < (x315001_2.length : Int)) = true := decide_eq_true c69
                                  clear c69
                                  have HC70 := Aside0.mk H
                                  clear H
                                  have hnb71 := NB314_310.out
                                  have hnc71 := NB310_314.out
                                  have hnb72 := NB314_322.out
                                  have hnc72 := NB322_314.out
                                  have hcz73_0 : wc.cell? ⟨gb314, 0, none⟩ = some (u315000) := (blk_cell BK314.out 0).trans rfl
                                  have hcz73_1 : wc.cell? ⟨gb314, 1, none⟩ = some (u315001) := (blk_cell BK314.out 1).trans rfl
                                  have hcz73_2 : wc.cell? ⟨gb314, 2, none⟩ = some (u315002) := (blk_cell BK314.out 2).trans rfl
                                  have hfz73_0 := blk_frozen BK314.out 0
                                  have hfz73_1 := blk_frozen BK314.out 1
                                  have hfz73_2 := blk_frozen BK314.out 2
                                  have hnb74 := NB322_310.out
                                  have hnc74 := NB310_322.out
                                  have hcz75_0 : wc.cell? ⟨gb322, 0, none⟩ = some (.int .i64 ((rd_T45 l2 x10_2).f0)) := (blk_cell BK322.out 0).trans rfl
                                  have hcz75_1 : wc.cell? ⟨gb322, 1, none⟩ = some (.int .i64 ((rd_T45 l2 x10_2).f1)) := (blk_cell BK322.out 1).trans rfl
                                  have hcz75_2 : wc.cell? ⟨gb322, 2, none⟩ = some (.int .i64 ((rd_T45 l2 x10_2).f2)) := (blk_cell BK322.out 2).trans rfl
                                  have hfz75_0 := blk_frozen BK322.out 0
                                  have hfz75_1 := blk_frozen BK322.out 1
                                  have hfz75_2 := blk_frozen BK322.out 2
                                  obtain ⟨Ao76, co76, eo76⟩ := Kd.R_slice HO_315000.out
                                  subst eo76
                                  obtain ⟨Ao77, co77, eo77⟩ := Kd.R_slice HO_315001.out
                                  subst eo77
                                  obtain ⟨Ao78, co78, eo78⟩ := Kd.R_slice HO_315002.out
                                  subst eo78
                                  try go_wp2_with (first | ((with_reducible refine gate_callee (f := 32) rfl ?_); refine goesL_ (some 78) rfl rfl Try.func32 (by kernel_rfl) rfl #[.slice A1 l1.length c1, .agg #[.slice Ao76 x315000_2.length co76, .slice Ao77 x315001_2.length co77, .slice Ao78 x315002_2.length co78], .int .i64 ((rd_T45 l2 x10_2).f0)] rfl (by (try simp only [List.map_toArray, List.map_cons, List.map_nil]); first | done | rfl | (simp only [List.length_drop, List.length_take]; rfl)) ?_; (with_reducible refine (fastiref23_ready.calls _ _ l1 _ _ x315000_2 _ _ x315001_2 _ _ x315002_2 ((rd_T45 l2 x10_2).f0) true _ ?side1 ?side2 ?side3 ?side4 ?side5 ?side6 ?side7 ?side8 A63.out).mono ?_); (case side1 => repeat (first | exact (Kd.C_below HR1.out HB.out) | (with_reducible refine Kd.C_alloc ?_ _) | (with_reducible refine Kd.C_drewN ?_ _) | (with_reducible refine Kd.C_drew ?_))); (case side2 => exact HC1.out); (case side3 => repeat (first | exact (Kd.R_reads' HO_315000.out).2.2 | (with_reducible refine Kd.C_alloc ?_ _) | (with_reducible refine Kd.C_drewN ?_ _) | (with_reducible refine Kd.C_drew ?_))); (case side4 => exact (Kd.R_reads' HO_315000.out).2.1); (case side5 => repeat (first | exact (Kd.R_reads' HO_315001.out).2.2 | (with_reducible refine Kd.C_alloc ?_ _) | (with_reducible refine Kd.C_drewN ?_ _) | (with_reducible refine Kd.C_drew ?_))); (case side6 => exact (Kd.R_reads' HO_315001.out).2.1); (case side7 => repeat (first | exact (Kd.R_reads' HO_315002.out).2.2 | (with_reducible refine Kd.C_alloc ?_ _) | (with_reducible refine Kd.C_drewN ?_ _) | (with_reducible refine Kd.C_drew ?_))); (case side8 => exact (Kd.R_reads' HO_315002.out).2.1); rintro e w79 ⟨rfl, hb⟩; refine ⟨_, rfl, ?_⟩; have n0_ := Aside0.mk (Kd.R_below (by (with_reducible repeat (first | apply Kd.R_alloc | apply Kd.R_drewN | apply Kd.R_drew)); exact HO_315000.out) hb); have n1_ := Aside0.mk (Kd.R_below (by (with_reducible repeat (first | apply Kd.R_alloc | apply Kd.R_drewN | apply Kd.R_drew)); exact HO_315001.out) hb); have n2_ := Aside0.mk (Kd.R_below (by (with_reducible repeat (first | apply Kd.R_alloc | apply Kd.R_drewN | apply Kd.R_drew)); exact HO_315002.out) hb); have n3_ := Aside0.mk (blk_below (g := gb310) (o := .cells #[.slice none 0 0, .slice none 0 0, .slice none 0 0] 64 (0, 0)) (by (with_reducible repeat (first | refine blk_drewN ?_ _ | refine blk_drew ?_ | refine blk_alloc ?_ _)); exact BK310.out) hb); have n4_ := Aside0.mk (blk_below (g := gb314) (o := .cells #[.slice Ao76 x315000_2.length co76, .slice Ao77 x315001_2.length co77, .slice Ao78 x315002_2.length co78] 64 (0, 0)) (by (with_reducible repeat (first | refine blk_drewN ?_ _ | refine blk_drew ?_ | refine blk_alloc ?_ _)); exact BK314.out) hb); have n5_ := Aside0.mk (blk_below (g := gb322) (o := .cells #[.int .i64 ((rd_T45 l2 x10_2).f0), .int .i64 ((rd_T45 l2 x10_2).f1), .int .i64 ((rd_T45 l2 x10_2).f2)] 45 (0, 0)) (by (with_reducible repeat (first | refine blk_drewN ?_ _ | refine blk_drew ?_ | refine blk_alloc ?_ _)); exact BK322.out) hb); have n6_ := Aside0.mk (below_step (by repeat (first | (with_reducible first | exact HB.out | apply below_alloc | apply pw_below_drewN | apply below_drew1 | refine below_set ?_ GE310.out | refine below_set ?_ GE314.out | refine below_set ?_ GE322.out) | exact HB.out)) hb); clear HO_315000; clear HO_315001; clear HO_315002; clear BK310; clear BK314; clear BK322; clear HB; have HO_315000 := n0_; have HO_315001 := n1_; have HO_315002 := n2_; have BK310 := n3_; have BK314 := n4_; have BK322 := n5_; have HB := n6_; clear n0_ n1_ n2_ n3_ n4_ n5_ n6_; (try clear hb); (try clear hb2); (try clear hk); (try clear hi)))
                                  have n0_ := Aside0.mk (Kd.R_drew HO_315000.out)
                                  have n1_ := Aside0.mk (Kd.R_drew HO_315001.out)
                                  have n2_ := Aside0.mk (Kd.R_drew HO_315002.out)
                                  have n3_ := Aside0.mk (blk_drew BK310.out)
                                  have n4_ := Aside0.mk (blk_drew BK314.out)
                                  have n5_ := Aside0.mk (blk_drew BK322.out)
                                  have n6_ := Aside0.mk (below_drew1 HB.out)
                                  clear HO_315000
                                  clear HO_315001
                                  clear HO_315002
                                  clear BK310
                                  clear BK314
                                  clear BK322
                                  clear HB
                                  have HO_315000 := n0_
                                  have HO_315001 := n1_
                                  have HO_315002 := n2_
                                  have BK310 := n3_
                                  have BK314 := n4_
                                  have BK322 := n5_
                                  have HB := n6_
                                  clear n0_ n1_ n2_ n3_ n4_ n5_ n6_
                                  have p324 : 0 ≤ (((rd_T45 l2 x10_2).f0) : Int) := of_decide_eq_true (by first | (with_reducible assumption) | assumption)
                                  have q324 : ((rd_T45 l2 x10_2).f0) < (l1.length : Int) := of_decide_eq_true (by first | (with_reducible assumption) | assumption)
                                  obtain ⟨ad324, e324, hx324_0, hx324_1, hx324_2, hx324_3, hx324_4, hx324_5, hx324_6⟩ := at_T42 HR1.out ((rd_T45 l2 x10_2).f0) p324 q324
                                  have hw324_6 := hx324_6
                                  have hw324_5 := hx324_5
                                  have hw324_4 := hx324_4
                                  have hw324_3 := hx324_3
                                  have hw324_2 := hx324_2
                                  have hw324_1 := hx324_1
                                  have hw324_0 := hx324_0
                                  cases e324
                                  replace hx324_0 := (HB.out.cell (World.block_lt_of_cell? w _ hx324_0)).trans hx324_0
                                  replace hx324_1 := (HB.out.cell (World.block_lt_of_cell? w _ hx324_1)).trans hx324_1
                                  replace hx324_2 := (HB.out.cell (World.block_lt_of_cell? w _ hx324_2)).trans hx324_2
                                  replace hx324_3 := (HB.out.cell (World.block_lt_of_cell? w _ hx324_3)).trans hx324_3
                                  replace hx324_4 := (HB.out.cell (World.block_lt_of_cell? w _ hx324_4)).trans hx324_4
                                  replace hx324_5 := (HB.out.cell (World.block_lt_of_cell? w _ hx324_5)).trans hx324_5
                                  replace hx324_6 := (HB.out.cell (World.block_lt_of_cell? w _ hx324_6)).trans hx324_6
                                  replace p324 := eq_true p324
                                  replace q324 := eq_true q324
                                  refine start_ (n := 10) (S := fun w' => w'.cell? ⟨gb322, 0, none⟩ = some (.int .i64 ((rd_T45 l2 x10_2).f0)) ∧ w'.cell? ⟨gb322, 1, none⟩ = some (.int .i64 ((rd_T45 l2 x10_2).f1)) ∧ w'.cell? ⟨gb322, 2, none⟩ = some (.int .i64 ((rd_T45 l2 x10_2).f2)) ∧ w'.cell? ⟨gb314, 0, none⟩ = some (.slice Ao76 x315000_2.length co76) ∧ w'.cell? ⟨gb314, 1, none⟩ = some (.slice Ao77 x315001_2.length co77) ∧ w'.cell? ⟨gb314, 2, none⟩ = some (.slice Ao78 x315002_2.length co78) ∧ w'.cell? (ad324.add ((((rd_T45 l2 x10_2).f0)).toNat * 7)) = some (.int .i64 ((rd_T42 l1 ((rd_T45 l2 x10_2).f0)).f0)) ∧ w'.cell? ⟨(ad324.add ((((rd_T45 l2 x10_2).f0)).toNat * 7)).block, (ad324.add ((((rd_T45 l2 x10_2).f0)).toNat * 7)).off + 1, none⟩ = some (.int .i64 ((rd_T42 l1 ((rd_T45 l2 x10_2).f0)).f1.f0)) ∧ w'.cell? ⟨(ad324.add ((((rd_T45 l2 x10_2).f0)).toNat * 7)).block, (ad324.add ((((rd_T45 l2 x10_2).f0)).toNat * 7)).off + 2, none⟩ = some (.int .i64 ((rd_T42 l1 ((rd_T45 l2 x10_2).f0)).f1.f1)) ∧ w'.cell? ⟨(ad324.add ((((rd_T45 l2 x10_2).f0)).toNat * 7)).block, (ad324.add ((((rd_T45 l2 x10_2).f0)).toNat * 7)).off + 3, none⟩ = some (.int .i64 ((rd_T42 l1 ((rd_T45 l2 x10_2).f0)).f1.f2)) ∧ w'.cell? ⟨(ad324.add ((((rd_T45 l2 x10_2).f0)).toNat * 7)).block, (ad324.add ((((rd_T45 l2 x10_2).f0)).toNat * 7)).off + 4, none⟩ = some (.int .i64 ((rd_T42 l1 ((rd_T45 l2 x10_2).f0)).f2.f0)) ∧ w'.cell? ⟨(ad324.add ((((rd_T45 l2 x10_2).f0)).toNat * 7)).block, (ad324.add ((((rd_T45 l2 x10_2).f0)).toNat * 7)).off + 5, none⟩ = some (.int .i64 ((rd_T42 l1 ((rd_T45 l2 x10_2).f0)).f2.f1)) ∧ w'.cell? ⟨(ad324.add ((((rd_T45 l2 x10_2).f0)).toNat * 7)).block, (ad324.add ((((rd_T45 l2 x10_2).f0)).toNat * 7)).off + 6, none⟩ = some (.int .i64 ((rd_T42 l1 ((rd_T45 l2 x10_2).f0)).f2.f2))) (ds := []) #[false, false, false, false, false, false, false, false, false, false] (by kernel_rfl) rfl rfl ⟨(blk_cell BK322.out 0).trans rfl, (blk_cell BK322.out 1).trans rfl, (blk_cell BK322.out 2).trans rfl, (blk_cell BK314.out 0).trans rfl, (blk_cell BK314.out 1).trans rfl, (blk_cell BK314.out 2).trans rfl, ((HB.out.cell (World.block_lt_of_cell? w _ hw324_0)).trans hw324_0), ((HB.out.cell (World.block_lt_of_cell? w _ hw324_1)).trans hw324_1), ((HB.out.cell (World.block_lt_of_cell? w _ hw324_2)).trans hw324_2), ((HB.out.cell (World.block_lt_of_cell? w _ hw324_3)).trans hw324_3), ((HB.out.cell (World.block_lt_of_cell? w _ hw324_4)).trans hw324_4), ((HB.out.cell (World.block_lt_of_cell? w _ hw324_5)).trans hw324_5), ((HB.out.cell (World.block_lt_of_cell? w _ hw324_6)).trans hw324_6)⟩ (fun hHeld => ?_); refine with_tabW fastiref23_play.tab15 fastiref23_play.bits15 (fun HT_ HW_ => ?_)
                                  generalize w79.drew = w80 at HO_315000 HO_315001 HO_315002 BK310 BK314 BK322 HB hx324_0 hx324_1 hx324_2 hx324_3 hx324_4 hx324_5 hx324_6 hHeld ⊢
                                  refine pure_ (i := 0) (N := some 81) (v := ?_) (a' := ?_) #[true, false, false, false, false, false, false, false, false, false] rfl rfl (any_of HT_.out (by kernel_rfl)) (fun _ _ _ h => h) (Or.inl ⟨by rfl, ?_⟩) ?_ ?_
                                  rotate_left
                                  · intro w'
                                    go_simp
                                    with_reducible rfl
                                  rotate_left
                                  · simp only [Act.put, List.setIfInBounds_toArray, List.set_cons_zero, List.set_cons_succ, i64_w, i32_w]
                                    rfl
                                  refine pure_ (i := 1) (N := some 82) (v := ?_) (a' := ?_) #[true, true, false, false, false, false, false, false, false, false] rfl rfl (any_of HT_.out (by kernel_rfl)) (fun _ _ _ h => h) (Or.inl ⟨by rfl, ?_⟩) ?_ ?_
                                  rotate_left
                                  · intro w'
                                    go_simp
                                    with_reducible rfl
                                  rotate_left
                                  · simp only [Act.put, List.setIfInBounds_toArray, List.set_cons_zero, List.set_cons_succ, i64_w, i32_w]
                                    rfl
                                  refine pure_ (i := 6) (N := some 87) (v := ?_) (a' := ?_) #[true, true, false, false, false, false, true, false, false, false] rfl rfl (any_of HT_.out (by kernel_rfl)) (fun _ _ _ h => h) (Or.inl ⟨by rfl, ?_⟩) ?_ ?_
                                  rotate_left
                                  · intro w'
                                    go_simp
                                    with_reducible rfl
                                  rotate_left
                                  · simp only [Act.put, List.setIfInBounds_toArray, List.set_cons_zero, List.set_cons_succ, i64_w, i32_w]
                                    rfl
                                  refine take_ (i := 2) (N := some 83) (v := ?_) (a' := ?_) #[true, true, true, false, false, false, true, false, false, false] rfl rfl (take_ofW HT_.out HW_.out (by kernel_rfl)) (fun _ _ _ h => h) (Or.inl ⟨by rfl, ?_⟩) hHeld ?_ ?_
                                  rotate_left
                                  · rintro w' ⟨s0, s1, s2, s3, s4, s5, s6, s7, s8, s9, s10, s11, s12⟩
                                    go_simp
                                    with_reducible rfl
                                  rotate_left
                                  · simp only [Act.put, List.setIfInBounds_toArray, List.set_cons_zero, List.set_cons_succ, i64_w, i32_w]
                                    rfl
                                  refine pure_ (i := 3) (N := some 84) (v := ?_) (a' := ?_) #[true, true, true, true, false, false, true, false, false, false] rfl rfl (any_of HT_.out (by kernel_rfl)) (fun _ _ _ h => h) (Or.inl ⟨by rfl, ?_⟩) ?_ ?_
                                  rotate_left
                                  · intro w'
                                    go_simp
                                    with_reducible rfl
                                  rotate_left
                                  · simp only [Act.put, List.setIfInBounds_toArray, List.set_cons_zero, List.set_cons_succ, i64_w, i32_w]
                                    rfl
                                  refine pure_ (i := 4) (N := some 85) (v := ?_) (a' := ?_) #[true, true, true, true, true, false, true, false, false, false] rfl rfl (any_of HT_.out (by kernel_rfl)) (fun _ _ _ h => h) (Or.inl ⟨by rfl, ?_⟩) ?_ ?_
                                  rotate_left
                                  · intro w'
                                    go_simp
                                    with_reducible rfl
                                  rotate_left
                                  · simp only [Act.put, List.setIfInBounds_toArray, List.set_cons_zero, List.set_cons_succ, i64_w, i32_w]
                                    rfl
                                  refine take_ (i := 5) (N := some 86) (v := ?_) (a' := ?_) #[true, true, true, true, true, true, true, false, false, false] rfl rfl (take_ofW HT_.out HW_.out (by kernel_rfl)) (fun _ _ _ h => h) (Or.inl ⟨by rfl, ?_⟩) hHeld ?_ ?_
                                  rotate_left
                                  · rintro w' ⟨s0, s1, s2, s3, s4, s5, s6, s7, s8, s9, s10, s11, s12⟩
                                    go_simp
                                    with_reducible rfl
                                  rotate_left
                                  · simp only [Act.put, List.setIfInBounds_toArray, List.set_cons_zero, List.set_cons_succ, i64_w, i32_w]
                                    rfl
                                  refine take_ (i := 7) (N := some 88) (v := ?_) (a' := ?_) #[true, true, true, true, true, true, true, true, false, false] rfl rfl (take_ofW HT_.out HW_.out (by kernel_rfl)) (fun _ _ _ h => h) (Or.inl ⟨by rfl, ?_⟩) hHeld ?_ ?_
                                  rotate_left
                                  · rintro w' ⟨s0, s1, s2, s3, s4, s5, s6, s7, s8, s9, s10, s11, s12⟩
                                    go_simp
                                    with_reducible rfl
                                  rotate_left
                                  · simp only [Act.put, List.setIfInBounds_toArray, List.set_cons_zero, List.set_cons_succ, i64_w, i32_w]
                                    rfl
                                  refine one_ (i := 8) (N := some 89) #[true, true, true, true, true, true, true, true, true, false] rfl rfl (one_of HT_.out (by kernel_rfl)) (by decide) (fun K hK => ?_)
                                  refine goes_ Try.func38 (by kernel_rfl) rfl #[.agg #[.int .i64 ((rd_T42 l1 ((rd_T45 l2 x10_2).f0)).f1.f0), .int .i64 ((rd_T42 l1 ((rd_T45 l2 x10_2).f0)).f1.f1), .int .i64 ((rd_T42 l1 ((rd_T45 l2 x10_2).f0)).f1.f2)], .slice Ao76 x315000_2.length co76] (by rfl) rfl rfl (by (try simp only [List.map_toArray, List.map_cons, List.map_nil]); first | done | rfl | (simp only [List.length_drop, List.length_take]; rfl)) ?_
                                  with_reducible refine (fastiref23_entrant.calls ((rd_T42 l1 ((rd_T45 l2 x10_2).f0)).f1.f0) ((rd_T42 l1 ((rd_T45 l2 x10_2).f0)).f1.f1) ((rd_T42 l1 ((rd_T45 l2 x10_2).f0)).f1.f2) _ _ x315000_2 t325 _ ?side1 ?side2 A67.out).mono ?_
                                  (case side1 => repeat (first | exact (Kd.R_reads' HO_315000.out).2.2 | (with_reducible refine Kd.C_alloc ?_ _) | (with_reducible refine Kd.C_drewN ?_ _) | (with_reducible refine Kd.C_drew ?_)))
                                  (case side2 => exact (Kd.R_reads' HO_315000.out).2.1)
                                  rintro e w81 ⟨rfl, hb⟩
                                  refine ⟨_, rfl, ?_⟩
                                  have n0_ := Aside0.mk (Kd.R_below (by (with_reducible repeat (first | apply Kd.R_alloc | apply Kd.R_drewN | apply Kd.R_drew)); exact HO_315000.out) hb)
                                  have n1_ := Aside0.mk (Kd.R_below (by (with_reducible repeat (first | apply Kd.R_alloc | apply Kd.R_drewN | apply Kd.R_drew)); exact HO_315001.out) hb)
                                  have n2_ := Aside0.mk (Kd.R_below (by (with_reducible repeat (first | apply Kd.R_alloc | apply Kd.R_drewN | apply Kd.R_drew)); exact HO_315002.out) hb)
                                  have n3_ := Aside0.mk (blk_below (g := gb310) (o := .cells #[.slice none 0 0, .slice none 0 0, .slice none 0 0] 64 (0, 0)) (by (with_reducible repeat (first | refine blk_drewN ?_ _ | refine blk_drew ?_ | refine blk_alloc ?_ _)); exact BK310.out) hb)
                                  have n4_ := Aside0.mk (blk_below (g := gb314) (o := .cells #[.slice Ao76 x315000_2.length co76, .slice Ao77 x315001_2.length co77, .slice Ao78 x315002_2.length co78] 64 (0, 0)) (by (with_reducible repeat (first | refine blk_drewN ?_ _ | refine blk_drew ?_ | refine blk_alloc ?_ _)); exact BK314.out) hb)
                                  have n5_ := Aside0.mk (blk_below (g := gb322) (o := .cells #[.int .i64 ((rd_T45 l2 x10_2).f0), .int .i64 ((rd_T45 l2 x10_2).f1), .int .i64 ((rd_T45 l2 x10_2).f2)] 45 (0, 0)) (by (with_reducible repeat (first | refine blk_drewN ?_ _ | refine blk_drew ?_ | refine blk_alloc ?_ _)); exact BK322.out) hb)
                                  have n6_ := Aside0.mk (below_step (by repeat (first | (with_reducible first | exact HB.out | apply below_alloc | apply pw_below_drewN | apply below_drew1 | refine below_set ?_ GE310.out | refine below_set ?_ GE314.out | refine below_set ?_ GE322.out) | exact HB.out)) hb)
                                  clear HO_315000
                                  clear HO_315001
                                  clear HO_315002
                                  clear BK310
                                  clear BK314
                                  clear BK322
                                  clear HB
                                  have HO_315000 := n0_
                                  have HO_315001 := n1_
                                  have HO_315002 := n2_
                                  have BK310 := n3_
                                  have BK314 := n4_
                                  have BK322 := n5_
                                  have HB := n6_
                                  clear n0_ n1_ n2_ n3_ n4_ n5_ n6_
                                  (try clear hb)
                                  (try clear hb2)
                                  (try clear hk)
                                  (try clear hi)
                                  refine hK.out _ _ ⟨(blk_cell BK322.out 0).trans rfl, (blk_cell BK322.out 1).trans rfl, (blk_cell BK322.out 2).trans rfl, (blk_cell BK314.out 0).trans rfl, (blk_cell BK314.out 1).trans rfl, (blk_cell BK314.out 2).trans rfl, ((HB.out.cell (World.block_lt_of_cell? w _ hw324_0)).trans hw324_0), ((HB.out.cell (World.block_lt_of_cell? w _ hw324_1)).trans hw324_1), ((HB.out.cell (World.block_lt_of_cell? w _ hw324_2)).trans hw324_2), ((HB.out.cell (World.block_lt_of_cell? w _ hw324_3)).trans hw324_3), ((HB.out.cell (World.block_lt_of_cell? w _ hw324_4)).trans hw324_4), ((HB.out.cell (World.block_lt_of_cell? w _ hw324_5)).trans hw324_5), ((HB.out.cell (World.block_lt_of_cell? w _ hw324_6)).trans hw324_6)⟩ (fun hHeld => ?_)
                                  clear hK K
                                  refine norm_ (a' := ?_) ?_ ?_
                                  rotate_left
                                  · show Act.put _ (some 89) _ = _
                                    simp only [Act.put, List.setIfInBounds_toArray, List.set_cons_zero, List.set_cons_succ, i64_w, i32_w]
                                    rfl
                                  refine pure_ (i := 9) (N := some 12) (v := ?_) (a' := ?_) #[true, true, true, true, true, true, true, true, true, true] rfl rfl (any_of HT_.out (by kernel_rfl)) (fun _ _ _ h => h) (Or.inl ⟨by rfl, ?_⟩) ?_ ?_
                                  rotate_left
                                  · intro w'
                                    go_simp
                                    with_reducible rfl
                                  rotate_left
                                  · simp only [Act.put, List.setIfInBounds_toArray, List.set_cons_zero, List.set_cons_succ, i64_w, i32_w]
                                    rfl
                                  refine done_ (done_of HT_.out (by kernel_rfl)) ?_
                                  try go_wp2
                                  have n0_ := Aside0.mk (Kd.R_drew HO_315000.out)
                                  have n1_ := Aside0.mk (Kd.R_drew HO_315001.out)
                                  have n2_ := Aside0.mk (Kd.R_drew HO_315002.out)
                                  have n3_ := Aside0.mk (blk_drew BK310.out)
                                  have n4_ := Aside0.mk (blk_drew BK314.out)
                                  have n5_ := Aside0.mk (blk_drew BK322.out)
                                  have n6_ := Aside0.mk (below_drew1 HB.out)
                                  clear HO_315000
                                  clear HO_315001
                                  clear HO_315002
                                  clear BK310
                                  clear BK314
                                  clear BK322
                                  clear HB
                                  have HO_315000 := n0_
                                  have HO_315001 := n1_
                                  have HO_315002 := n2_
                                  have BK310 := n3_
                                  have BK314 := n4_
                                  have BK322 := n5_
                                  have HB := n6_
                                  clear n0_ n1_ n2_ n3_ n4_ n5_ n6_
                                  have p326 : 0 ≤ (((rd_T45 l2 x10_2).f0) : Int) := of_decide_eq_true (by first | (with_reducible assumption) | assumption)
                                  have q326 : ((rd_T45 l2 x10_2).f0) < (l1.length : Int) := of_decide_eq_true (by first | (with_reducible assumption) | assumption)
                                  obtain ⟨ad326, e326, hx326_0, hx326_1, hx326_2, hx326_3, hx326_4, hx326_5, hx326_6⟩ := at_T42 HR1.out ((rd_T45 l2 x10_2).f0) p326 q326
                                  have hw326_6 := hx326_6
                                  have hw326_5 := hx326_5
                                  have hw326_4 := hx326_4
                                  have hw326_3 := hx326_3
                                  have hw326_2 := hx326_2
                                  have hw326_1 := hx326_1
                                  have hw326_0 := hx326_0
                                  obtain rfl : ad324 = ad326 := (by injection e326)
                                  replace hx326_0 := (HB.out.cell (World.block_lt_of_cell? w _ hx326_0)).trans hx326_0
                                  replace hx326_1 := (HB.out.cell (World.block_lt_of_cell? w _ hx326_1)).trans hx326_1
                                  replace hx326_2 := (HB.out.cell (World.block_lt_of_cell? w _ hx326_2)).trans hx326_2
                                  replace hx326_3 := (HB.out.cell (World.block_lt_of_cell? w _ hx326_3)).trans hx326_3
                                  replace hx326_4 := (HB.out.cell (World.block_lt_of_cell? w _ hx326_4)).trans hx326_4
                                  replace hx326_5 := (HB.out.cell (World.block_lt_of_cell? w _ hx326_5)).trans hx326_5
                                  replace hx326_6 := (HB.out.cell (World.block_lt_of_cell? w _ hx326_6)).trans hx326_6
                                  replace p326 := eq_true p326
                                  replace q326 := eq_true q326
                                  refine start_ (n := 10) (S := fun w' => w'.cell? ⟨gb322, 0, none⟩ = some (.int .i64 ((rd_T45 l2 x10_2).f0)) ∧ w'.cell? ⟨gb322, 1, none⟩ = some (.int .i64 ((rd_T45 l2 x10_2).f1)) ∧ w'.cell? ⟨gb322, 2, none⟩ = some (.int .i64 ((rd_T45 l2 x10_2).f2)) ∧ w'.cell? ⟨gb314, 0, none⟩ = some (.slice Ao76 x315000_2.length co76) ∧ w'.cell? ⟨gb314, 1, none⟩ = some (.slice Ao77 x315001_2.length co77) ∧ w'.cell? ⟨gb314, 2, none⟩ = some (.slice Ao78 x315002_2.length co78) ∧ w'.cell? (ad324.add ((((rd_T45 l2 x10_2).f0)).toNat * 7)) = some (.int .i64 ((rd_T42 l1 ((rd_T45 l2 x10_2).f0)).f0)) ∧ w'.cell? ⟨(ad324.add ((((rd_T45 l2 x10_2).f0)).toNat * 7)).block, (ad324.add ((((rd_T45 l2 x10_2).f0)).toNat * 7)).off + 1, none⟩ = some (.int .i64 ((rd_T42 l1 ((rd_T45 l2 x10_2).f0)).f1.f0)) ∧ w'.cell? ⟨(ad324.add ((((rd_T45 l2 x10_2).f0)).toNat * 7)).block, (ad324.add ((((rd_T45 l2 x10_2).f0)).toNat * 7)).off + 2, none⟩ = some (.int .i64 ((rd_T42 l1 ((rd_T45 l2 x10_2).f0)).f1.f1)) ∧ w'.cell? ⟨(ad324.add ((((rd_T45 l2 x10_2).f0)).toNat * 7)).block, (ad324.add ((((rd_T45 l2 x10_2).f0)).toNat * 7)).off + 3, none⟩ = some (.int .i64 ((rd_T42 l1 ((rd_T45 l2 x10_2).f0)).f1.f2)) ∧ w'.cell? ⟨(ad324.add ((((rd_T45 l2 x10_2).f0)).toNat * 7)).block, (ad324.add ((((rd_T45 l2 x10_2).f0)).toNat * 7)).off + 4, none⟩ = some (.int .i64 ((rd_T42 l1 ((rd_T45 l2 x10_2).f0)).f2.f0)) ∧ w'.cell? ⟨(ad324.add ((((rd_T45 l2 x10_2).f0)).toNat * 7)).block, (ad324.add ((((rd_T45 l2 x10_2).f0)).toNat * 7)).off + 5, none⟩ = some (.int .i64 ((rd_T42 l1 ((rd_T45 l2 x10_2).f0)).f2.f1)) ∧ w'.cell? ⟨(ad324.add ((((rd_T45 l2 x10_2).f0)).toNat * 7)).block, (ad324.add ((((rd_T45 l2 x10_2).f0)).toNat * 7)).off + 6, none⟩ = some (.int .i64 ((rd_T42 l1 ((rd_T45 l2 x10_2).f0)).f2.f2))) (ds := []) #[false, false, false, false, false, false, false, false, false, false] (by kernel_rfl) rfl rfl ⟨(blk_cell BK322.out 0).trans rfl, (blk_cell BK322.out 1).trans rfl, (blk_cell BK322.out 2).trans rfl, (blk_cell BK314.out 0).trans rfl, (blk_cell BK314.out 1).trans rfl, (blk_cell BK314.out 2).trans rfl, ((HB.out.cell (World.block_lt_of_cell? w _ hw326_0)).trans hw326_0), ((HB.out.cell (World.block_lt_of_cell? w _ hw326_1)).trans hw326_1), ((HB.out.cell (World.block_lt_of_cell? w _ hw326_2)).trans hw326_2), ((HB.out.cell (World.block_lt_of_cell? w _ hw326_3)).trans hw326_3), ((HB.out.cell (World.block_lt_of_cell? w _ hw326_4)).trans hw326_4), ((HB.out.cell (World.block_lt_of_cell? w _ hw326_5)).trans hw326_5), ((HB.out.cell (World.block_lt_of_cell? w _ hw326_6)).trans hw326_6)⟩ (fun hHeld => ?_); refine with_tabW fastiref23_play.tab16 fastiref23_play.bits16 (fun HT_ HW_ => ?_)
                                  generalize w81.drew = w82 at HO_315000 HO_315001 HO_315002 BK310 BK314 BK322 HB hx326_0 hx326_1 hx326_2 hx326_3 hx326_4 hx326_5 hx326_6 hHeld ⊢
                                  refine pure_ (i := 0) (N := some 90) (v := ?_) (a' := ?_) #[true, false, false, false, false, false, false, false, false, false] rfl rfl (any_of HT_.out (by kernel_rfl)) (fun _ _ _ h => h) (Or.inl ⟨by rfl, ?_⟩) ?_ ?_
                                  rotate_left
                                  · intro w'
                                    go_simp
                                    with_reducible rfl
                                  rotate_left
                                  · simp only [Act.put, List.setIfInBounds_toArray, List.set_cons_zero, List.set_cons_succ, i64_w, i32_w]
                                    rfl
                                  refine pure_ (i := 1) (N := some 91) (v := ?_) (a' := ?_) #[true, true, false, false, false, false, false, false, false, false] rfl rfl (any_of HT_.out (by kernel_rfl)) (fun _ _ _ h => h) (Or.inl ⟨by rfl, ?_⟩) ?_ ?_
                                  rotate_left
                                  · intro w'
                                    go_simp
                                    with_reducible rfl
                                  rotate_left
                                  · simp only [Act.put, List.setIfInBounds_toArray, List.set_cons_zero, List.set_cons_succ, i64_w, i32_w]
                                    rfl
                                  refine pure_ (i := 6) (N := some 96) (v := ?_) (a' := ?_) #[true, true, false, false, false, false, true, false, false, false] rfl rfl (any_of HT_.out (by kernel_rfl)) (fun _ _ _ h => h) (Or.inl ⟨by rfl, ?_⟩) ?_ ?_
                                  rotate_left
                                  · intro w'
                                    go_simp
                                    with_reducible rfl
                                  rotate_left
                                  · simp only [Act.put, List.setIfInBounds_toArray, List.set_cons_zero, List.set_cons_succ, i64_w, i32_w]
                                    rfl
                                  refine take_ (i := 2) (N := some 92) (v := ?_) (a' := ?_) #[true, true, true, false, false, false, true, false, false, false] rfl rfl (take_ofW HT_.out HW_.out (by kernel_rfl)) (fun _ _ _ h => h) (Or.inl ⟨by rfl, ?_⟩) hHeld ?_ ?_
                                  rotate_left
                                  · rintro w' ⟨s0, s1, s2, s3, s4, s5, s6, s7, s8, s9, s10, s11, s12⟩
                                    go_simp
                                    with_reducible rfl
                                  rotate_left
                                  · simp only [Act.put, List.setIfInBounds_toArray, List.set_cons_zero, List.set_cons_succ, i64_w, i32_w]
                                    rfl
                                  refine pure_ (i := 3) (N := some 93) (v := ?_) (a' := ?_) #[true, true, true, true, false, false, true, false, false, false] rfl rfl (any_of HT_.out (by kernel_rfl)) (fun _ _ _ h => h) (Or.inl ⟨by rfl, ?_⟩) ?_ ?_
                                  rotate_left
                                  · intro w'
                                    go_simp
                                    with_reducible rfl
                                  rotate_left
                                  · simp only [Act.put, List.setIfInBounds_toArray, List.set_cons_zero, List.set_cons_succ, i64_w, i32_w]
                                    rfl
                                  refine pure_ (i := 4) (N := some 94) (v := ?_) (a' := ?_) #[true, true, true, true, true, false, true, false, false, false] rfl rfl (any_of HT_.out (by kernel_rfl)) (fun _ _ _ h => h) (Or.inl ⟨by rfl, ?_⟩) ?_ ?_
                                  rotate_left
                                  · intro w'
                                    go_simp
                                    with_reducible rfl
                                  rotate_left
                                  · simp only [Act.put, List.setIfInBounds_toArray, List.set_cons_zero, List.set_cons_succ, i64_w, i32_w]
                                    rfl
                                  refine take_ (i := 5) (N := some 95) (v := ?_) (a' := ?_) #[true, true, true, true, true, true, true, false, false, false] rfl rfl (take_ofW HT_.out HW_.out (by kernel_rfl)) (fun _ _ _ h => h) (Or.inl ⟨by rfl, ?_⟩) hHeld ?_ ?_
                                  rotate_left
                                  · rintro w' ⟨s0, s1, s2, s3, s4, s5, s6, s7, s8, s9, s10, s11, s12⟩
                                    go_simp
                                    with_reducible rfl
                                  rotate_left
                                  · simp only [Act.put, List.setIfInBounds_toArray, List.set_cons_zero, List.set_cons_succ, i64_w, i32_w]
                                    rfl
                                  refine take_ (i := 7) (N := some 97) (v := ?_) (a' := ?_) #[true, true, true, true, true, true, true, true, false, false] rfl rfl (take_ofW HT_.out HW_.out (by kernel_rfl)) (fun _ _ _ h => h) (Or.inl ⟨by rfl, ?_⟩) hHeld ?_ ?_
                                  rotate_left
                                  · rintro w' ⟨s0, s1, s2, s3, s4, s5, s6, s7, s8, s9, s10, s11, s12⟩
                                    go_simp
                                    with_reducible rfl
                                  rotate_left
                                  · simp only [Act.put, List.setIfInBounds_toArray, List.set_cons_zero, List.set_cons_succ, i64_w, i32_w]
                                    rfl
                                  refine one_ (i := 8) (N := some 98) #[true, true, true, true, true, true, true, true, true, false] rfl rfl (one_of HT_.out (by kernel_rfl)) (by decide) (fun K hK => ?_)
                                  refine goes_ Try.func38 (by kernel_rfl) rfl #[.agg #[.int .i64 ((rd_T42 l1 ((rd_T45 l2 x10_2).f0)).f2.f0), .int .i64 ((rd_T42 l1 ((rd_T45 l2 x10_2).f0)).f2.f1), .int .i64 ((rd_T42 l1 ((rd_T45 l2 x10_2).f0)).f2.f2)], .slice Ao76 x315000_2.length co76] (by rfl) rfl rfl (by (try simp only [List.map_toArray, List.map_cons, List.map_nil]); first | done | rfl | (simp only [List.length_drop, List.length_take]; rfl)) ?_
                                  with_reducible refine (fastiref23_entrant.calls ((rd_T42 l1 ((rd_T45 l2 x10_2).f0)).f2.f0) ((rd_T42 l1 ((rd_T45 l2 x10_2).f0)).f2.f1) ((rd_T42 l1 ((rd_T45 l2 x10_2).f0)).f2.f2) _ _ x315000_2 t327 _ ?side1 ?side2 A68.out).mono ?_
                                  (case side1 => repeat (first | exact (Kd.R_reads' HO_315000.out).2.2 | (with_reducible refine Kd.C_alloc ?_ _) | (with_reducible refine Kd.C_drewN ?_ _) | (with_reducible refine Kd.C_drew ?_)))
                                  (case side2 => exact (Kd.R_reads' HO_315000.out).2.1)
                                  rintro e w83 ⟨rfl, hb⟩
                                  refine ⟨_, rfl, ?_⟩
                                  have n0_ := Aside0.mk (Kd.R_below (by (with_reducible repeat (first | apply Kd.R_alloc | apply Kd.R_drewN | apply Kd.R_drew)); exact HO_315000.out) hb)
                                  have n1_ := Aside0.mk (Kd.R_below (by (with_reducible repeat (first | apply Kd.R_alloc | apply Kd.R_drewN | apply Kd.R_drew)); exact HO_315001.out) hb)
                                  have n2_ := Aside0.mk (Kd.R_below (by (with_reducible repeat (first | apply Kd.R_alloc | apply Kd.R_drewN | apply Kd.R_drew)); exact HO_315002.out) hb)
                                  have n3_ := Aside0.mk (blk_below (g := gb310) (o := .cells #[.slice none 0 0, .slice none 0 0, .slice none 0 0] 64 (0, 0)) (by (with_reducible repeat (first | refine blk_drewN ?_ _ | refine blk_drew ?_ | refine blk_alloc ?_ _)); exact BK310.out) hb)
                                  have n4_ := Aside0.mk (blk_below (g := gb314) (o := .cells #[.slice Ao76 x315000_2.length co76, .slice Ao77 x315001_2.length co77, .slice Ao78 x315002_2.length co78] 64 (0, 0)) (by (with_reducible repeat (first | refine blk_drewN ?_ _ | refine blk_drew ?_ | refine blk_alloc ?_ _)); exact BK314.out) hb)
                                  have n5_ := Aside0.mk (blk_below (g := gb322) (o := .cells #[.int .i64 ((rd_T45 l2 x10_2).f0), .int .i64 ((rd_T45 l2 x10_2).f1), .int .i64 ((rd_T45 l2 x10_2).f2)] 45 (0, 0)) (by (with_reducible repeat (first | refine blk_drewN ?_ _ | refine blk_drew ?_ | refine blk_alloc ?_ _)); exact BK322.out) hb)
                                  have n6_ := Aside0.mk (below_step (by repeat (first | (with_reducible first | exact HB.out | apply below_alloc | apply pw_below_drewN | apply below_drew1 | refine below_set ?_ GE310.out | refine below_set ?_ GE314.out | refine below_set ?_ GE322.out) | exact HB.out)) hb)
                                  clear HO_315000
                                  clear HO_315001
                                  clear HO_315002
                                  clear BK310
                                  clear BK314
                                  clear BK322
                                  clear HB
                                  have HO_315000 := n0_
                                  have HO_315001 := n1_
                                  have HO_315002 := n2_
                                  have BK310 := n3_
                                  have BK314 := n4_
                                  have BK322 := n5_
                                  have HB := n6_
                                  clear n0_ n1_ n2_ n3_ n4_ n5_ n6_
                                  (try clear hb)
                                  (try clear hb2)
                                  (try clear hk)
                                  (try clear hi)
                                  refine hK.out _ _ ⟨(blk_cell BK322.out 0).trans rfl, (blk_cell BK322.out 1).trans rfl, (blk_cell BK322.out 2).trans rfl, (blk_cell BK314.out 0).trans rfl, (blk_cell BK314.out 1).trans rfl, (blk_cell BK314.out 2).trans rfl, ((HB.out.cell (World.block_lt_of_cell? w _ hw326_0)).trans hw326_0), ((HB.out.cell (World.block_lt_of_cell? w _ hw326_1)).trans hw326_1), ((HB.out.cell (World.block_lt_of_cell? w _ hw326_2)).trans hw326_2), ((HB.out.cell (World.block_lt_of_cell? w _ hw326_3)).trans hw326_3), ((HB.out.cell (World.block_lt_of_cell? w _ hw326_4)).trans hw326_4), ((HB.out.cell (World.block_lt_of_cell? w _ hw326_5)).trans hw326_5), ((HB.out.cell (World.block_lt_of_cell? w _ hw326_6)).trans hw326_6)⟩ (fun hHeld => ?_)
                                  clear hK K
                                  refine norm_ (a' := ?_) ?_ ?_
                                  rotate_left
                                  · show Act.put _ (some 98) _ = _
                                    simp only [Act.put, List.setIfInBounds_toArray, List.set_cons_zero, List.set_cons_succ, i64_w, i32_w]
                                    rfl
                                  refine pure_ (i := 9) (N := some 13) (v := ?_) (a' := ?_) #[true, true, true, true, true, true, true, true, true, true] rfl rfl (any_of HT_.out (by kernel_rfl)) (fun _ _ _ h => h) (Or.inl ⟨by rfl, ?_⟩) ?_ ?_
                                  rotate_left
                                  · intro w'
                                    go_simp
                                    with_reducible rfl
                                  rotate_left
                                  · simp only [Act.put, List.setIfInBounds_toArray, List.set_cons_zero, List.set_cons_succ, i64_w, i32_w]
                                    rfl
                                  refine done_ (done_of HT_.out (by kernel_rfl)) ?_
                                  have hcz84_0 : w83.cell? ⟨gb314, 0, none⟩ = some (.slice Ao76 x315000_2.length co76) := (blk_cell BK314.out 0).trans rfl
                                  have hcz84_1 : w83.cell? ⟨gb314, 1, none⟩ = some (.slice Ao77 x315001_2.length co77) := (blk_cell BK314.out 1).trans rfl
                                  have hcz84_2 : w83.cell? ⟨gb314, 2, none⟩ = some (.slice Ao78 x315002_2.length co78) := (blk_cell BK314.out 2).trans rfl
                                  have hfz84_0 := blk_frozen BK314.out 0
                                  have hfz84_1 := blk_frozen BK314.out 1
                                  have hfz84_2 := blk_frozen BK314.out 2
                                  have hcz85_0 : w83.cell? ⟨gb322, 0, none⟩ = some (.int .i64 ((rd_T45 l2 x10_2).f0)) := (blk_cell BK322.out 0).trans rfl
                                  have hcz85_1 : w83.cell? ⟨gb322, 1, none⟩ = some (.int .i64 ((rd_T45 l2 x10_2).f1)) := (blk_cell BK322.out 1).trans rfl
                                  have hcz85_2 : w83.cell? ⟨gb322, 2, none⟩ = some (.int .i64 ((rd_T45 l2 x10_2).f2)) := (blk_cell BK322.out 2).trans rfl
                                  have hfz85_0 := blk_frozen BK322.out 0
                                  have hfz85_1 := blk_frozen BK322.out 1
                                  have hfz85_2 := blk_frozen BK322.out 2
                                  have p328 : 0 ≤ (((rd_T45 l2 x10_2).f0) : Int) := of_decide_eq_true (by first | (with_reducible assumption) | assumption)
                                  have q328 : ((rd_T45 l2 x10_2).f0) < (x315001_2.length : Int) := of_decide_eq_true (by first | (with_reducible assumption) | assumption)
                                  obtain ⟨ad328, e328, hx328_0⟩ := Kd.at_int (Kd.R_reads' HO_315001.out).2.2 ((rd_T45 l2 x10_2).f0) p328 q328
                                  cases e328
                                  replace p328 := eq_true p328
                                  replace q328 := eq_true q328
                                  go_upto_if 106 with (fail)
                                  go_cut [12, 13] (fun v12 v13 wc => ∃ (kq : Nat) (x12_69 : Int) (x13_69 : Int), v12 = .int .i64 x12_69 ∧ v13 = .int .i64 x13_69 ∧ Aside0 (fastiref23_play.j3 kq l1 l2 x10_2 x12_69 x13_69 x315000_2 x315001_2 x315002_2 ((rd_T45 l2 x10_2).f0) ((rd_T45 l2 x10_2).f1) ((rd_T45 l2 x10_2).f2) = some (r1, r2, r3, r4)) ∧ Aside0 (kq ≤ kj25) ∧ Aside0 (Kd.R (Kd.int .i64) 3 wc w.heap.size (fun k_ => some k_ ≠ ((.slice (some ad328) x315001_2.length co77) : Value).ownBlock) (.slice Ao76 x315000_2.length co76) x315000_2) ∧ Aside0 (Kd.R (Kd.int .i64) 3 wc w.heap.size (fun k_ => some k_ ≠ ((.slice Ao76 x315000_2.length co76) : Value).ownBlock) (.slice (some ad328) x315001_2.length co77) x315001_2) ∧ Aside0 (Kd.R Kd.bool 4 wc w.heap.size (fun _ => True) (.slice Ao78 x315002_2.length co78) x315002_2) ∧ Aside0 (wc.heap[gb310]? = some (.cells #[(.slice none 0 0), (.slice none 0 0), (.slice none 0 0)] 64 (0, 0))) ∧ Aside0 (wc.heap[gb314]? = some (.cells #[(.slice Ao76 x315000_2.length co76), (.slice (some ad328) x315001_2.length co77), (.slice Ao78 x315002_2.length co78)] 64 (0, 0))) ∧ Aside0 (wc.heap[gb322]? = some (.cells #[.int .i64 ((rd_T45 l2 x10_2).f0), .int .i64 ((rd_T45 l2 x10_2).f1), .int .i64 ((rd_T45 l2 x10_2).f2)] 45 (0, 0))) ∧ Aside0 (Below w.heap.size w wc))
                                  case first =>
                                    have H := HC70.out
                                    clear HC70
                                    by_cases c86 : (Int.tmod (rd x315001_2 ((rd_T45 l2 x10_2).f0)) 2) = 1
                                    · rw [if_pos c86] at H
                                      have c86b0 : ((Int.tmod (rd x315001_2 ((rd_T45 l2 x10_2).f0)) 2) == 1) = true := beq_iff_eq.mpr c86
                                      have c86b1 : ((Int.tmod (rd x315001_2 ((rd_T45 l2 x10_2).f0)) 2) != 1) = false := bne_eq_false_iff_eq.mpr c86
                                      clear c86
                                      (first | rw [c86b0] | (simp only [i64_w, i32_w]; rw [c86b0]) | skip)
                                      have H' := Aside0.mk H
                                      clear H
                                      go_wp2
                                      go_meet
                                      case rel => exact ⟨_, (t327), (t325), (by first | rfl | (simp; done) | (simp [*]; done)), (by first | rfl | (simp; done) | (simp [*]; done)), H', ⟨by have := HK1.out; have := HK2.out; have := HJ25.out; first | omega | exact Nat.le_refl _⟩, ⟨by (with_reducible repeat (first | apply Kd.R_alloc | apply Kd.R_drewN | apply Kd.R_drew)); exact HO_315000.out⟩, ⟨by (with_reducible repeat (first | apply Kd.R_alloc | apply Kd.R_drewN | apply Kd.R_drew)); exact HO_315001.out⟩, ⟨by (with_reducible repeat (first | apply Kd.R_alloc | apply Kd.R_drewN | apply Kd.R_drew)); exact HO_315002.out⟩, ⟨by (with_reducible repeat (first | refine blk_drewN ?_ _ | refine blk_drew ?_ | refine blk_alloc ?_ _)); exact BK310.out⟩, ⟨by (with_reducible repeat (first | refine blk_drewN ?_ _ | refine blk_drew ?_ | refine blk_alloc ?_ _)); exact BK314.out⟩, ⟨by (with_reducible repeat (first | refine blk_drewN ?_ _ | refine blk_drew ?_ | refine blk_alloc ?_ _)); exact BK322.out⟩, ⟨by repeat (first | (with_reducible first | exact HB.out | apply below_alloc | apply pw_below_drewN | apply below_drew1 | refine below_set ?_ GE310.out | refine below_set ?_ GE314.out | refine below_set ?_ GE322.out) | exact HB.out)⟩⟩
                                    · rw [if_neg c86] at H
                                      have c86b0 : ((Int.tmod (rd x315001_2 ((rd_T45 l2 x10_2).f0)) 2) == 1) = false := beq_eq_false_iff_ne.mpr c86
                                      have c86b1 : ((Int.tmod (rd x315001_2 ((rd_T45 l2 x10_2).f0)) 2) != 1) = true := bne_iff_ne.mpr c86
                                      (first | rw [c86b0] | (simp only [i64_w, i32_w]; rw [c86b0]) | skip)
                                      have H' := Aside0.mk H
                                      clear H
                                      go_wp2
                                      go_meet
                                      case rel => exact ⟨_, (t325), (t327), (by first | rfl | (simp; done) | (simp [*]; done)), (by first | rfl | (simp; done) | (simp [*]; done)), H', ⟨by have := HK1.out; have := HK2.out; have := HJ25.out; first | omega | exact Nat.le_refl _⟩, ⟨by (with_reducible repeat (first | apply Kd.R_alloc | apply Kd.R_drewN | apply Kd.R_drew)); exact HO_315000.out⟩, ⟨by (with_reducible repeat (first | apply Kd.R_alloc | apply Kd.R_drewN | apply Kd.R_drew)); exact HO_315001.out⟩, ⟨by (with_reducible repeat (first | apply Kd.R_alloc | apply Kd.R_drewN | apply Kd.R_drew)); exact HO_315002.out⟩, ⟨by (with_reducible repeat (first | refine blk_drewN ?_ _ | refine blk_drew ?_ | refine blk_alloc ?_ _)); exact BK310.out⟩, ⟨by (with_reducible repeat (first | refine blk_drewN ?_ _ | refine blk_drew ?_ | refine blk_alloc ?_ _)); exact BK314.out⟩, ⟨by (with_reducible repeat (first | refine blk_drewN ?_ _ | refine blk_drew ?_ | refine blk_alloc ?_ _)); exact BK322.out⟩, ⟨by repeat (first | (with_reducible first | exact HB.out | apply below_alloc | apply pw_below_drewN | apply below_drew1 | refine below_set ?_ GE310.out | refine below_set ?_ GE314.out | refine below_set ?_ GE322.out) | exact HB.out)⟩⟩
                                  case rest =>
                                    clear HC70
                                    try clear c1
                                    try clear c2
                                    try clear p2
                                    try clear c3
                                    try clear p3
                                    try clear q3
                                    try clear hx3
                                    try clear c4
                                    try clear c4b0
                                    try clear c4b1
                                    try clear c5
                                    try clear c5b0
                                    try clear c5b1
                                    try clear c6
                                    try clear p6
                                    try clear c7
                                    try clear c8
                                    try clear c11
                                    try clear c13
                                    try clear c13b0
                                    try clear c14
                                    try clear c15
                                    try clear c16
                                    try clear c24
                                    try clear c24b0
                                    try clear c25
                                    try clear c25b0
                                    try clear c28
                                    try clear c29
                                    try clear c31
                                    try clear c31b0
                                    try clear c32
                                    try clear p32
                                    try clear q32
                                    try clear hx32
                                    try clear c33
                                    try clear c35
                                    try clear c35b0
                                    try clear c36
                                    try clear c37
                                    try clear c38
                                    try clear c39
                                    try clear c39b0
                                    try clear c40
                                    try clear c41
                                    try clear c43
                                    try clear c43b0
                                    try clear c44
                                    try clear c45
                                    try clear c47
                                    try clear c47b0
                                    try clear c48
                                    try clear c49
                                    try clear c51
                                    try clear c52
                                    try clear c54
                                    try clear c55
                                    try clear c56
                                    try clear c59
                                    try clear c64
                                    try clear c65
                                    try clear c65b0
                                    try clear c66
                                    try clear c66b0
                                    try clear c69
                                    try clear c69b0
                                    try clear c71
                                    try clear c72
                                    try clear c74
                                    try clear c86
                                    try clear c86b0
                                    try clear c86b1
                                    try clear hcz12_0
                                    try clear hcz12_1
                                    try clear hcz12_2
                                    try clear hcz17_0
                                    try clear hcz17_1
                                    try clear hcz17_2
                                    try clear hcz20_0
                                    try clear hcz20_1
                                    try clear hcz20_2
                                    try clear hcz23_0
                                    try clear hcz23_1
                                    try clear hcz23_2
                                    try clear hcz30_0
                                    try clear hcz30_1
                                    try clear hcz30_2
                                    try clear hcz34_0
                                    try clear hcz34_1
                                    try clear hcz34_2
                                    try clear hcz38_0
                                    try clear hcz38_1
                                    try clear hcz38_2
                                    try clear hcz42_0
                                    try clear hcz42_1
                                    try clear hcz42_2
                                    try clear hcz46_0
                                    try clear hcz46_1
                                    try clear hcz46_2
                                    try clear hcz50_0
                                    try clear hcz50_1
                                    try clear hcz50_2
                                    try clear hcz53_0
                                    try clear hcz53_1
                                    try clear hcz53_2
                                    try clear hcz57_0
                                    try clear hcz57_1
                                    try clear hcz57_2
                                    try clear hcz60_0
                                    try clear hcz60_1
                                    try clear hcz60_2
                                    try clear hcz73_0
                                    try clear hcz73_1
                                    try clear hcz73_2
                                    try clear hcz75_0
                                    try clear hcz75_1
                                    try clear hcz75_2
                                    try clear hcz84_0
                                    try clear hcz84_1
                                    try clear hcz84_2
                                    try clear hcz85_0
                                    try clear hcz85_1
                                    try clear hcz85_2
                                    try clear hfz12_0
                                    try clear hfz12_1
                                    try clear hfz12_2
                                    try clear hfz17_0
                                    try clear hfz17_1
                                    try clear hfz17_2
                                    try clear hfz20_0
                                    try clear hfz20_1
                                    try clear hfz20_2
                                    try clear hfz23_0
                                    try clear hfz23_1
                                    try clear hfz23_2
                                    try clear hfz30_0
                                    try clear hfz30_1
                                    try clear hfz30_2
                                    try clear hfz34_0
                                    try clear hfz34_1
                                    try clear hfz34_2
                                    try clear hfz38_0
                                    try clear hfz38_1
                                    try clear hfz38_2
                                    try clear hfz42_0
                                    try clear hfz42_1
                                    try clear hfz42_2
                                    try clear hfz46_0
                                    try clear hfz46_1
                                    try clear hfz46_2
                                    try clear hfz50_0
                                    try clear hfz50_1
                                    try clear hfz50_2
                                    try clear hfz53_0
                                    try clear hfz53_1
                                    try clear hfz53_2
                                    try clear hfz57_0
                                    try clear hfz57_1
                                    try clear hfz57_2
                                    try clear hfz60_0
                                    try clear hfz60_1
                                    try clear hfz60_2
                                    try clear hfz73_0
                                    try clear hfz73_1
                                    try clear hfz73_2
                                    try clear hfz75_0
                                    try clear hfz75_1
                                    try clear hfz75_2
                                    try clear hfz84_0
                                    try clear hfz84_1
                                    try clear hfz84_2
                                    try clear hfz85_0
                                    try clear hfz85_1
                                    try clear hfz85_2
                                    try clear hx321_0
                                    try clear hx321_1
                                    try clear hx321_2
                                    try clear hx324_0
                                    try clear hx324_1
                                    try clear hx324_2
                                    try clear hx324_3
                                    try clear hx324_4
                                    try clear hx324_5
                                    try clear hx324_6
                                    try clear hx326_0
                                    try clear hx326_1
                                    try clear hx326_2
                                    try clear hx326_3
                                    try clear hx326_4
                                    try clear hx326_5
                                    try clear hx326_6
                                    try clear hx328_0
                                    try clear p2
                                    try clear p3
                                    try clear p32
                                    try clear p321
                                    try clear p324
                                    try clear p326
                                    try clear p328
                                    try clear p6
                                    try clear q3
                                    try clear q32
                                    try clear q321
                                    try clear q324
                                    try clear q326
                                    try clear q328
                                    obtain ⟨kq, x12_69, x13_69, rfl, rfl, HA, HJ69, HO_315000, HO_315001, HO_315002, BK310, BK314, BK322, HB⟩ := hcut
                                    cases kq with
                                    | zero => exact absurd HA.out (by simp [fastiref23_play.j3])
                                    | succ kj69 =>
                                      have H := HA.out
                                      clear HA
                                      simp only [fastiref23_play.j3] at H
                                      by_cases c87 : 0 ≤ ((rd_T45 l2 x10_2).f0)
                                      · rw [if_pos c87] at H
                                        have c87b0 : decide (0 ≤ ((rd_T45 l2 x10_2).f0)) = true := decide_eq_true c87
                                        clear c87
                                        by_cases c88 : ((rd_T45 l2 x10_2).f0) < (x315001_2.length : Int)
                                        · rw [if_pos c88] at H
                                          have c88b0 : decide (((rd_T45 l2 x10_2).f0) < (x315001_2.length : Int)) = true := decide_eq_true c88
                                          clear c88
                                          obtain ⟨y330, hy330⟩ : ∃ y_ : List Int, y_ = (x315001_2.set (((rd_T45 l2 x10_2).f0) : Int).toNat (wrap64 ((rd x315001_2 ((rd_T45 l2 x10_2).f0)) + 1))) := ⟨_, rfl⟩
                                          replace H : (if ((rd_T45 l2 x10_2).f1) > ((rd_T45 l2 x10_2).f2) then (if ((rd_T45 l2 x10_2).f0) < (x315000_2.length : Int) then ((some (x315000_2.set (((rd_T45 l2 x10_2).f0) : Int).toNat x12_69 : List Int)).bind fun y331 => (if 0 ≤ x13_69 then (if x13_69 < (x315002_2.length : Int) then ((some (x315002_2.set (x13_69 : Int).toNat true : List Bool)).bind fun y332 => (if ((rd_T45 l2 x10_2).f1) < ((rd_T45 l2 x10_2).f2) then (if 0 ≤ x12_69 then (if x12_69 < (x315002_2.length : Int) then (fastiref23_play.l1 kj69 l1 l2 (wrap64 (x10_2 + 1)) (y331.set (((rd_T45 l2 x10_2).f0) : Int).toNat x13_69) y330 (y332.set (x12_69 : Int).toNat true)) else (none)) else (none)) else (fastiref23_play.l1 kj69 l1 l2 (wrap64 (x10_2 + 1)) y331 y330 y332))) else (none)) else (none))) else (none)) else (if ((rd_T45 l2 x10_2).f1) < ((rd_T45 l2 x10_2).f2) then (if ((rd_T45 l2 x10_2).f0) < (x315000_2.length : Int) then (if 0 ≤ x12_69 then (if x12_69 < (x315002_2.length : Int) then (fastiref23_play.l1 kj69 l1 l2 (wrap64 (x10_2 + 1)) (x315000_2.set (((rd_T45 l2 x10_2).f0) : Int).toNat x13_69) y330 (x315002_2.set (x12_69 : Int).toNat true)) else (none)) else (none)) else (none)) else (fastiref23_play.l1 kj69 l1 l2 (wrap64 (x10_2 + 1)) x315000_2 y330 x315002_2))) = some (r1, r2, r3, r4) := by first | (rw [hy330]; with_reducible exact H) | (have H2_ := (Option.bind_some _ _).symm.trans H; rw [hy330]; with_reducible exact H2_) | (have H2_ := (Option.bind_some _ _).symm.trans H; with_reducible exact H2_) | with_reducible exact H | (rw [hy330]; exact H) | exact H
                                          have Ny330 := Aside0.mk hy330
                                          clear hy330
                                          by_cases c90 : ((rd_T45 l2 x10_2).f1) > ((rd_T45 l2 x10_2).f2)
                                          · rw [if_pos c90] at H
                                            have c90b0 : decide (((rd_T45 l2 x10_2).f2) < ((rd_T45 l2 x10_2).f1)) = true := decide_eq_true c90
                                            clear c90
                                            by_cases c91 : ((rd_T45 l2 x10_2).f0) < (x315000_2.length : Int)
                                            · rw [if_pos c91] at H
                                              have c91b0 : decide (((rd_T45 l2 x10_2).f0) < (x315000_2.length : Int)) = true := decide_eq_true c91
                                              clear c91
                                              obtain ⟨y331, hy331⟩ : ∃ y_ : List Int, y_ = (x315000_2.set (((rd_T45 l2 x10_2).f0) : Int).toNat x12_69) := ⟨_, rfl⟩
                                              replace H : (if 0 ≤ x13_69 then (if x13_69 < (x315002_2.length : Int) then ((some (x315002_2.set (x13_69 : Int).toNat true : List Bool)).bind fun y332 => (if ((rd_T45 l2 x10_2).f1) < ((rd_T45 l2 x10_2).f2) then (if 0 ≤ x12_69 then (if x12_69 < (x315002_2.length : Int) then (fastiref23_play.l1 kj69 l1 l2 (wrap64 (x10_2 + 1)) (y331.set (((rd_T45 l2 x10_2).f0) : Int).toNat x13_69) y330 (y332.set (x12_69 : Int).toNat true)) else (none)) else (none)) else (fastiref23_play.l1 kj69 l1 l2 (wrap64 (x10_2 + 1)) y331 y330 y332))) else (none)) else (none)) = some (r1, r2, r3, r4) := by first | (rw [hy331]; with_reducible exact H) | (have H2_ := (Option.bind_some _ _).symm.trans H; rw [hy331]; with_reducible exact H2_) | (have H2_ := (Option.bind_some _ _).symm.trans H; with_reducible exact H2_) | with_reducible exact H | (rw [hy331]; exact H) | exact H
                                              have Ny331 := Aside0.mk hy331
                                              clear hy331
                                              by_cases c93 : 0 ≤ x13_69
                                              · rw [if_pos c93] at H
                                                have c93b0 : decide (0 ≤ x13_69) = true := decide_eq_true c93
                                                clear c93
                                                by_cases c94 : x13_69 < (x315002_2.length : Int)
                                                · rw [if_pos c94] at H
                                                  have c94b0 : decide (x13_69 < (x315002_2.length : Int)) = true := decide_eq_true c94
                                                  clear c94
                                                  obtain ⟨y332, hy332⟩ : ∃ y_ : List Bool, y_ = (x315002_2.set (x13_69 : Int).toNat true) := ⟨_, rfl⟩
                                                  replace H : (if ((rd_T45 l2 x10_2).f1) < ((rd_T45 l2 x10_2).f2) then (if 0 ≤ x12_69 then (if x12_69 < (x315002_2.length : Int) then (fastiref23_play.l1 kj69 l1 l2 (wrap64 (x10_2 + 1)) (y331.set (((rd_T45 l2 x10_2).f0) : Int).toNat x13_69) y330 (y332.set (x12_69 : Int).toNat true)) else (none)) else (none)) else (fastiref23_play.l1 kj69 l1 l2 (wrap64 (x10_2 + 1)) y331 y330 y332)) = some (r1, r2, r3, r4) := by first | (rw [hy332]; with_reducible exact H) | (have H2_ := (Option.bind_some _ _).symm.trans H; rw [hy332]; with_reducible exact H2_) | (have H2_ := (Option.bind_some _ _).symm.trans H; with_reducible exact H2_) | with_reducible exact H | (rw [hy332]; exact H) | exact H
                                                  have Ny332 := Aside0.mk hy332
                                                  clear hy332
                                                  by_cases c96 : ((rd_T45 l2 x10_2).f1) < ((rd_T45 l2 x10_2).f2)
                                                  · rw [if_pos c96] at H
                                                    have c96b0 : decide (((rd_T45 l2 x10_2).f1) < ((rd_T45 l2 x10_2).f2)) = true := decide_eq_true c96
                                                    clear c96
                                                    obtain ⟨y333, hy333⟩ : ∃ y_ : List Int, y_ = (y331.set (((rd_T45 l2 x10_2).f0) : Int).toNat x13_69) := ⟨_, rfl⟩
                                                    replace H : (if 0 ≤ x12_69 then (if x12_69 < (x315002_2.length : Int) then (fastiref23_play.l1 kj69 l1 l2 (wrap64 (x10_2 + 1)) y333 y330 (y332.set (x12_69 : Int).toNat true)) else (none)) else (none)) = some (r1, r2, r3, r4) := by first | (rw [hy333]; with_reducible exact H) | (have H2_ := (Option.bind_some _ _).symm.trans H; rw [hy333]; with_reducible exact H2_) | (have H2_ := (Option.bind_some _ _).symm.trans H; with_reducible exact H2_) | with_reducible exact H | (rw [hy333]; exact H) | exact H
                                                    have Ny333 := Aside0.mk hy333
                                                    clear hy333
                                                    by_cases c98 : 0 ≤ x12_69
                                                    · rw [if_pos c98] at H
                                                      have c98b0 : decide (0 ≤ x12_69) = true := decide_eq_true c98
                                                      clear c98
                                                      by_cases c99 : x12_69 < (x315002_2.length : Int)
                                                      · rw [if_pos c99] at H
                                                        have c99b0 : decide (x12_69 < (x315002_2.length : Int)) = true := decide_eq_true c99
                                                        clear c99
                                                        obtain ⟨y334, hy334⟩ : ∃ y_ : List Bool, y_ = (y332.set (x12_69 : Int).toNat true) := ⟨_, rfl⟩
                                                        replace H : (fastiref23_play.l1 kj69 l1 l2 (wrap64 (x10_2 + 1)) y333 y330 y334) = some (r1, r2, r3, r4) := by first | (rw [hy334]; with_reducible exact H) | (have H2_ := (Option.bind_some _ _).symm.trans H; rw [hy334]; with_reducible exact H2_) | (have H2_ := (Option.bind_some _ _).symm.trans H; with_reducible exact H2_) | with_reducible exact H | (rw [hy334]; exact H) | exact H
                                                        have Ny334 := Aside0.mk hy334
                                                        clear hy334
                                                        have H' := Aside0.mk H
                                                        clear H
                                                        have hnb101 := NB314_310.out
                                                        have hnc101 := NB310_314.out
                                                        have hnb102 := NB314_322.out
                                                        have hnc102 := NB322_314.out
                                                        have hcz103_0 : wc.cell? ⟨gb314, 0, none⟩ = some (.slice Ao76 x315000_2.length co76) := (blk_cell BK314.out 0).trans rfl
                                                        have hcz103_1 : wc.cell? ⟨gb314, 1, none⟩ = some (.slice (some ad328) x315001_2.length co77) := (blk_cell BK314.out 1).trans rfl
                                                        have hcz103_2 : wc.cell? ⟨gb314, 2, none⟩ = some (.slice Ao78 x315002_2.length co78) := (blk_cell BK314.out 2).trans rfl
                                                        have hfz103_0 := blk_frozen BK314.out 0
                                                        have hfz103_1 := blk_frozen BK314.out 1
                                                        have hfz103_2 := blk_frozen BK314.out 2
                                                        have hnb104 := NB322_310.out
                                                        have hnc104 := NB310_322.out
                                                        have hcz105_0 : wc.cell? ⟨gb322, 0, none⟩ = some (.int .i64 ((rd_T45 l2 x10_2).f0)) := (blk_cell BK322.out 0).trans rfl
                                                        have hcz105_1 : wc.cell? ⟨gb322, 1, none⟩ = some (.int .i64 ((rd_T45 l2 x10_2).f1)) := (blk_cell BK322.out 1).trans rfl
                                                        have hcz105_2 : wc.cell? ⟨gb322, 2, none⟩ = some (.int .i64 ((rd_T45 l2 x10_2).f2)) := (blk_cell BK322.out 2).trans rfl
                                                        have hfz105_0 := blk_frozen BK322.out 0
                                                        have hfz105_1 := blk_frozen BK322.out 1
                                                        have hfz105_2 := blk_frozen BK322.out 2
                                                        have p329 : 0 ≤ (((rd_T45 l2 x10_2).f0) : Int) := of_decide_eq_true (by first | (with_reducible assumption) | assumption)
                                                        have q329 : ((rd_T45 l2 x10_2).f0) < (x315001_2.length : Int) := of_decide_eq_true (by first | (with_reducible assumption) | assumption)
                                                        obtain ⟨ad329, e329, hx329_0⟩ := Kd.at_int (Kd.R_reads' HO_315001.out).2.2 ((rd_T45 l2 x10_2).f0) p329 q329
                                                        obtain rfl : ad328 = ad329 := (by injection e329)
                                                        replace p329 := eq_true p329
                                                        replace q329 := eq_true q329
                                                        have p89 : 0 ≤ (((rd_T45 l2 x10_2).f0) : Int) := of_decide_eq_true (by first | (with_reducible assumption) | assumption)
                                                        have q89 : (((rd_T45 l2 x10_2).f0) : Int) < ((x315001_2.length : Int) : Int) := of_decide_eq_true (by first | (with_reducible assumption) | assumption)
                                                        obtain ⟨go89, co89, eo89, gb89, gl89, cl89, HG89⟩ := Kd.R_form HO_315001.out (by omega)
                                                        (first | cases eo89 | (injection eo89 with ea_ en_ ec_; (first | subst ea_ | (injection ea_ with ea_; subst ea_)); subst ec_; clear en_))
                                                        have GB89 := Aside0.mk gb89
                                                        have GG89 := Aside0.mk HG89
                                                        clear gb89 gl89 HG89
                                                        (first | simp only [add_plain] at hx328_0 | skip)
                                                        (first | simp only [add_plain] at hx329_0 | skip)
                                                        obtain ⟨hx89_0, hf89_0⟩ := Kd.R_celln 0 HO_315001.out (((rd_T45 l2 x10_2).f0) : Int) p89 q89
                                                        replace p89 := eq_true p89
                                                        replace q89 := eq_true q89
                                                        have HP106 := Kd.R_putg HO_315001.out (((rd_T45 l2 x10_2).f0) : Int) (wrap64 ((rd x315001_2 ((rd_T45 l2 x10_2).f0)) + 1))
                                                        go_wp2_with (first | ((with_reducible refine gate_store (t := 3) (p := 116) rfl ?_); refine store_event (t := 3) (p := 116) (v := ?vo_w107) (w1 := (wc.setCell ⟨go89, (((rd_T45 l2 x10_2).f0) : Int).toNat, none⟩ (.int .i64 (wrap64 ((rd x315001_2 ((rd_T45 l2 x10_2).f0)) + 1))))) ?hg ?ho ?hn ?hr ?_; (case ho => rfl); (case hg => rfl); (case hn => rfl); (case hr => first | (go_simp; done) | (go_simp; rfl)); intro w107 hw; have hg : wc.grownBy w107 (some go89) := (by rw [hw]; exact HP106.2); have hp_ : Kd.R (Kd.int .i64) 3 w107 w.heap.size (fun k_ => some k_ ≠ (.slice Ao76 x315000_2.length co76 : Value).ownBlock) (.slice (some ⟨go89, 0, none⟩) x315001_2.length co77) y330 := (by rw [hw, Ny330.out]; exact HP106.1); clear HP106; have n0_ := Aside0.mk (Kd.R_after (v := (.slice (some ⟨go89, 0, none⟩) x315001_2.length co77)) (v1 := (.slice (some ⟨go89, 0, none⟩) x315001_2.length co77)) (ok := (fun _ => True)) (by (with_reducible repeat (first | apply Kd.R_alloc | apply Kd.R_drewN | apply Kd.R_drew)); exact Kd.R_mono HO_315000.out (fun _ hk => ⟨trivial, hk⟩)) hg (.inl rfl)); have n1_ := Aside0.mk (hp_); have n2_ := Aside0.mk (Kd.R_over' (v := (.slice (some ⟨go89, 0, none⟩) x315001_2.length co77)) (by (with_reducible repeat (first | apply Kd.R_alloc | apply Kd.R_drewN | apply Kd.R_drew)); exact HO_315002.out) (Kd.R_typed HO_315001.out) (by decide) hg); have n3_ := Aside0.mk (blk_grown (g := gb310) (o := .cells #[.slice none 0 0, .slice none 0 0, .slice none 0 0] 64 (0, 0)) (by (with_reducible repeat (first | refine blk_drewN ?_ _ | refine blk_drew ?_ | refine blk_alloc ?_ _)); exact BK310.out) hg (Kd.R_ne HO_315001.out BK310.out (by decide))); have n4_ := Aside0.mk (blk_grown (g := gb314) (o := .cells #[.slice Ao76 x315000_2.length co76, .slice (some ⟨go89, 0, none⟩) x315001_2.length co77, .slice Ao78 x315002_2.length co78] 64 (0, 0)) (by (with_reducible repeat (first | refine blk_drewN ?_ _ | refine blk_drew ?_ | refine blk_alloc ?_ _)); exact BK314.out) hg (Kd.R_ne HO_315001.out BK314.out (by decide))); have n5_ := Aside0.mk (blk_grown (g := gb322) (o := .cells #[.int .i64 ((rd_T45 l2 x10_2).f0), .int .i64 ((rd_T45 l2 x10_2).f1), .int .i64 ((rd_T45 l2 x10_2).f2)] 45 (0, 0)) (by (with_reducible repeat (first | refine blk_drewN ?_ _ | refine blk_drew ?_ | refine blk_alloc ?_ _)); exact BK322.out) hg (Kd.R_ne HO_315001.out BK322.out (by decide))); have n6_ := Aside0.mk ((by rw [hw]; exact below_set (HB.out) GB89.out : Below w.heap.size w w107)); clear HO_315000; clear HO_315001; clear HO_315002; clear BK310; clear BK314; clear BK322; clear HB; have HO_315000 := n0_; have HO_315001 := n1_; have HO_315002 := n2_; have BK310 := n3_; have BK314 := n4_; have BK322 := n5_; have HB := n6_; clear n0_ n1_ n2_ n3_ n4_ n5_ n6_; clear hg hw hp_; have hcz108_0 : w107.cell? ⟨gb322, 0, none⟩ = some (.int .i64 ((rd_T45 l2 x10_2).f0)) := (blk_cell BK322.out 0).trans rfl; have hcz108_1 : w107.cell? ⟨gb322, 1, none⟩ = some (.int .i64 ((rd_T45 l2 x10_2).f1)) := (blk_cell BK322.out 1).trans rfl; have hcz108_2 : w107.cell? ⟨gb322, 2, none⟩ = some (.int .i64 ((rd_T45 l2 x10_2).f2)) := (blk_cell BK322.out 2).trans rfl; have hfz108_0 := blk_frozen BK322.out 0; have hfz108_1 := blk_frozen BK322.out 1; have hfz108_2 := blk_frozen BK322.out 2; have hcz109_0 : w107.cell? ⟨gb314, 0, none⟩ = some (.slice Ao76 x315000_2.length co76) := (blk_cell BK314.out 0).trans rfl; have hcz109_1 : w107.cell? ⟨gb314, 1, none⟩ = some (.slice (some ⟨go89, 0, none⟩) x315001_2.length co77) := (blk_cell BK314.out 1).trans rfl; have hcz109_2 : w107.cell? ⟨gb314, 2, none⟩ = some (.slice Ao78 x315002_2.length co78) := (blk_cell BK314.out 2).trans rfl; have hfz109_0 := blk_frozen BK314.out 0; have hfz109_1 := blk_frozen BK314.out 1; have hfz109_2 := blk_frozen BK314.out 2; have p92 : 0 ≤ (((rd_T45 l2 x10_2).f0) : Int) := of_decide_eq_true (by first | (with_reducible assumption) | assumption); have q92 : (((rd_T45 l2 x10_2).f0) : Int) < ((x315000_2.length : Int) : Int) := of_decide_eq_true (by first | (with_reducible assumption) | assumption); obtain ⟨go92, co92, eo92, gb92, gl92, cl92, HG92⟩ := Kd.R_form HO_315000.out (by omega); (first | cases eo92 | (injection eo92 with ea_ en_ ec_; (first | subst ea_ | (injection ea_ with ea_; subst ea_)); subst ec_; clear en_)); have GB92 := Aside0.mk gb92; have GG92 := Aside0.mk HG92; clear gb92 gl92 HG92; obtain ⟨hx92_0, hf92_0⟩ := Kd.R_celln 0 HO_315000.out (((rd_T45 l2 x10_2).f0) : Int) p92 q92; replace p92 := eq_true p92; replace q92 := eq_true q92; have n_ := Aside0.mk (Kd.R_mono (ok' := (fun k_ => some k_ ≠ (.slice (some ⟨go89, 0, none⟩) x315001_2.length co77 : Value).ownBlock)) HO_315000.out (fun k_ hk => hk.2)); clear HO_315000; have HO_315000 := n_; clear n_; obtain ⟨hy110_, hz110_⟩ := Kd.R_celln 0 HO_315000.out (((rd_T45 l2 x10_2).f0) : Int) (of_decide_eq_true (by first | (with_reducible assumption) | assumption)) (of_decide_eq_true (by first | (with_reducible assumption) | assumption)); have HP110 := Kd.R_putg HO_315000.out (((rd_T45 l2 x10_2).f0) : Int) x12_69) | ((with_reducible refine gate_store (t := 3) (p := 127) rfl ?_); refine store_event (t := 3) (p := 127) (v := ?vo_w111) (w1 := (w107.setCell ⟨go92, (((rd_T45 l2 x10_2).f0) : Int).toNat, none⟩ (.int .i64 x12_69))) ?hg ?ho ?hn ?hr ?_; (case ho => rfl); (case hg => rfl); (case hn => rfl); (case hr => first | (go_simp; done) | (go_simp; rfl)); intro w111 hw; have hg : w107.grownBy w111 (some go92) := (by rw [hw]; exact HP110.2); have hp_ : Kd.R (Kd.int .i64) 3 w111 w.heap.size (fun k_ => some k_ ≠ (.slice (some ⟨go89, 0, none⟩) x315001_2.length co77 : Value).ownBlock) (.slice (some ⟨go92, 0, none⟩) x315000_2.length co76) y331 := (by rw [hw, Ny331.out]; exact HP110.1); clear HP110; have n0_ := Aside0.mk (hp_); have n1_ := Aside0.mk (Kd.R_after (v := (.slice (some ⟨go92, 0, none⟩) x315000_2.length co76)) (v1 := (.slice (some ⟨go92, 0, none⟩) x315000_2.length co76)) (ok := (fun _ => True)) (by (with_reducible repeat (first | apply Kd.R_alloc | apply Kd.R_drewN | apply Kd.R_drew)); exact Kd.R_mono HO_315001.out (fun _ hk => ⟨trivial, hk⟩)) hg (.inl rfl)); have n2_ := Aside0.mk (Kd.R_over' (v := (.slice (some ⟨go92, 0, none⟩) x315000_2.length co76)) (by (with_reducible repeat (first | apply Kd.R_alloc | apply Kd.R_drewN | apply Kd.R_drew)); exact HO_315002.out) (Kd.R_typed HO_315000.out) (by decide) hg); have n3_ := Aside0.mk (blk_grown (g := gb310) (o := .cells #[.slice none 0 0, .slice none 0 0, .slice none 0 0] 64 (0, 0)) (by (with_reducible repeat (first | refine blk_drewN ?_ _ | refine blk_drew ?_ | refine blk_alloc ?_ _)); exact BK310.out) hg (Kd.R_ne HO_315000.out BK310.out (by decide))); have n4_ := Aside0.mk (blk_grown (g := gb314) (o := .cells #[.slice (some ⟨go92, 0, none⟩) x315000_2.length co76, .slice (some ⟨go89, 0, none⟩) x315001_2.length co77, .slice Ao78 x315002_2.length co78] 64 (0, 0)) (by (with_reducible repeat (first | refine blk_drewN ?_ _ | refine blk_drew ?_ | refine blk_alloc ?_ _)); exact BK314.out) hg (Kd.R_ne HO_315000.out BK314.out (by decide))); have n5_ := Aside0.mk (blk_grown (g := gb322) (o := .cells #[.int .i64 ((rd_T45 l2 x10_2).f0), .int .i64 ((rd_T45 l2 x10_2).f1), .int .i64 ((rd_T45 l2 x10_2).f2)] 45 (0, 0)) (by (with_reducible repeat (first | refine blk_drewN ?_ _ | refine blk_drew ?_ | refine blk_alloc ?_ _)); exact BK322.out) hg (Kd.R_ne HO_315000.out BK322.out (by decide))); have n6_ := Aside0.mk ((by rw [hw]; exact below_set (HB.out) GB92.out : Below w.heap.size w w111)); clear HO_315000; clear HO_315001; clear HO_315002; clear BK310; clear BK314; clear BK322; clear HB; have HO_315000 := n0_; have HO_315001 := n1_; have HO_315002 := n2_; have BK310 := n3_; have BK314 := n4_; have BK322 := n5_; have HB := n6_; clear n0_ n1_ n2_ n3_ n4_ n5_ n6_; clear hg hw hp_; have hcz112_0 : w111.cell? ⟨gb314, 0, none⟩ = some (.slice (some ⟨go92, 0, none⟩) x315000_2.length co76) := (blk_cell BK314.out 0).trans rfl; have hcz112_1 : w111.cell? ⟨gb314, 1, none⟩ = some (.slice (some ⟨go89, 0, none⟩) x315001_2.length co77) := (blk_cell BK314.out 1).trans rfl; have hcz112_2 : w111.cell? ⟨gb314, 2, none⟩ = some (.slice Ao78 x315002_2.length co78) := (blk_cell BK314.out 2).trans rfl; have hfz112_0 := blk_frozen BK314.out 0; have hfz112_1 := blk_frozen BK314.out 1; have hfz112_2 := blk_frozen BK314.out 2; have p95 : 0 ≤ (x13_69 : Int) := of_decide_eq_true (by first | (with_reducible assumption) | assumption); have q95 : (x13_69 : Int) < ((x315002_2.length : Int) : Int) := of_decide_eq_true (by first | (with_reducible assumption) | assumption); obtain ⟨go95, co95, eo95, gb95, gl95, cl95, HG95⟩ := Kd.R_form HO_315002.out (by omega); (first | cases eo95 | (injection eo95 with ea_ en_ ec_; (first | subst ea_ | (injection ea_ with ea_; subst ea_)); subst ec_; clear en_)); have GB95 := Aside0.mk gb95; have GG95 := Aside0.mk HG95; clear gb95 gl95 HG95; obtain ⟨hx95_0, hf95_0⟩ := Kd.R_celln false HO_315002.out (x13_69 : Int) p95 q95; replace p95 := eq_true p95; replace q95 := eq_true q95; obtain ⟨hy113_, hz113_⟩ := Kd.R_celln false HO_315002.out (x13_69 : Int) (of_decide_eq_true (by first | (with_reducible assumption) | assumption)) (of_decide_eq_true (by first | (with_reducible assumption) | assumption)); have HP113 := Kd.R_putg HO_315002.out (x13_69 : Int) true) | ((with_reducible refine gate_store (t := 4) (p := 131) rfl ?_); refine store_event (t := 4) (p := 131) (v := ?vo_w114) (w1 := (w111.setCell ⟨go95, (x13_69 : Int).toNat, none⟩ (.bool true))) ?hg ?ho ?hn ?hr ?_; (case ho => rfl); (case hg => rfl); (case hn => rfl); (case hr => first | (go_simp; done) | (go_simp; rfl)); intro w114 hw; have hg : w111.grownBy w114 (some go95) := (by rw [hw]; exact HP113.2); have hp_ : Kd.R Kd.bool 4 w114 w.heap.size (fun _ => True) (.slice (some ⟨go95, 0, none⟩) x315002_2.length co78) y332 := (by rw [hw, Ny332.out]; exact HP113.1); clear HP113; have n0_ := Aside0.mk (Kd.R_over' (v := (.slice (some ⟨go95, 0, none⟩) x315002_2.length co78)) (by (with_reducible repeat (first | apply Kd.R_alloc | apply Kd.R_drewN | apply Kd.R_drew)); exact HO_315000.out) (Kd.R_typed HO_315002.out) (by decide) hg); have n1_ := Aside0.mk (Kd.R_over' (v := (.slice (some ⟨go95, 0, none⟩) x315002_2.length co78)) (by (with_reducible repeat (first | apply Kd.R_alloc | apply Kd.R_drewN | apply Kd.R_drew)); exact HO_315001.out) (Kd.R_typed HO_315002.out) (by decide) hg); have n2_ := Aside0.mk (hp_); have n3_ := Aside0.mk (blk_grown (g := gb310) (o := .cells #[.slice none 0 0, .slice none 0 0, .slice none 0 0] 64 (0, 0)) (by (with_reducible repeat (first | refine blk_drewN ?_ _ | refine blk_drew ?_ | refine blk_alloc ?_ _)); exact BK310.out) hg (Kd.R_ne HO_315002.out BK310.out (by decide))); have n4_ := Aside0.mk (blk_grown (g := gb314) (o := .cells #[.slice (some ⟨go92, 0, none⟩) x315000_2.length co76, .slice (some ⟨go89, 0, none⟩) x315001_2.length co77, .slice (some ⟨go95, 0, none⟩) x315002_2.length co78] 64 (0, 0)) (by (with_reducible repeat (first | refine blk_drewN ?_ _ | refine blk_drew ?_ | refine blk_alloc ?_ _)); exact BK314.out) hg (Kd.R_ne HO_315002.out BK314.out (by decide))); have n5_ := Aside0.mk (blk_grown (g := gb322) (o := .cells #[.int .i64 ((rd_T45 l2 x10_2).f0), .int .i64 ((rd_T45 l2 x10_2).f1), .int .i64 ((rd_T45 l2 x10_2).f2)] 45 (0, 0)) (by (with_reducible repeat (first | refine blk_drewN ?_ _ | refine blk_drew ?_ | refine blk_alloc ?_ _)); exact BK322.out) hg (Kd.R_ne HO_315002.out BK322.out (by decide))); have n6_ := Aside0.mk ((by rw [hw]; exact below_set (HB.out) GB95.out : Below w.heap.size w w114)); clear HO_315000; clear HO_315001; clear HO_315002; clear BK310; clear BK314; clear BK322; clear HB; have HO_315000 := n0_; have HO_315001 := n1_; have HO_315002 := n2_; have BK310 := n3_; have BK314 := n4_; have BK322 := n5_; have HB := n6_; clear n0_ n1_ n2_ n3_ n4_ n5_ n6_; clear hg hw hp_; have hcz115_0 : w114.cell? ⟨gb322, 0, none⟩ = some (.int .i64 ((rd_T45 l2 x10_2).f0)) := (blk_cell BK322.out 0).trans rfl; have hcz115_1 : w114.cell? ⟨gb322, 1, none⟩ = some (.int .i64 ((rd_T45 l2 x10_2).f1)) := (blk_cell BK322.out 1).trans rfl; have hcz115_2 : w114.cell? ⟨gb322, 2, none⟩ = some (.int .i64 ((rd_T45 l2 x10_2).f2)) := (blk_cell BK322.out 2).trans rfl; have hfz115_0 := blk_frozen BK322.out 0; have hfz115_1 := blk_frozen BK322.out 1; have hfz115_2 := blk_frozen BK322.out 2; have hcz116_0 : w114.cell? ⟨gb314, 0, none⟩ = some (.slice (some ⟨go92, 0, none⟩) x315000_2.length co76) := (blk_cell BK314.out 0).trans rfl; have hcz116_1 : w114.cell? ⟨gb314, 1, none⟩ = some (.slice (some ⟨go89, 0, none⟩) x315001_2.length co77) := (blk_cell BK314.out 1).trans rfl; have hcz116_2 : w114.cell? ⟨gb314, 2, none⟩ = some (.slice (some ⟨go95, 0, none⟩) x315002_2.length co78) := (blk_cell BK314.out 2).trans rfl; have hfz116_0 := blk_frozen BK314.out 0; have hfz116_1 := blk_frozen BK314.out 1; have hfz116_2 := blk_frozen BK314.out 2; have p97 : 0 ≤ (((rd_T45 l2 x10_2).f0) : Int) := of_decide_eq_true (by first | (with_reducible assumption) | assumption); have q97 : (((rd_T45 l2 x10_2).f0) : Int) < ((x315000_2.length : Int) : Int) := of_decide_eq_true (by first | (with_reducible assumption) | assumption); obtain ⟨hx97_0, hf97_0⟩ := Kd.R_celln 0 HO_315000.out (((rd_T45 l2 x10_2).f0) : Int) p97 q97; replace p97 := eq_true p97; replace q97 := eq_true q97; obtain ⟨hy117_, hz117_⟩ := Kd.R_celln 0 HO_315000.out (((rd_T45 l2 x10_2).f0) : Int) (of_decide_eq_true (by first | (with_reducible assumption) | assumption)) (of_decide_eq_true (by first | (with_reducible assumption) | assumption)); have HP117 := Kd.R_putg HO_315000.out (((rd_T45 l2 x10_2).f0) : Int) x13_69) | ((with_reducible refine gate_store (t := 3) (p := 142) rfl ?_); refine store_event (t := 3) (p := 142) (v := ?vo_w118) (w1 := (w114.setCell ⟨go92, (((rd_T45 l2 x10_2).f0) : Int).toNat, none⟩ (.int .i64 x13_69))) ?hg ?ho ?hn ?hr ?_; (case ho => rfl); (case hg => rfl); (case hn => rfl); (case hr => first | (go_simp; done) | (go_simp; rfl)); intro w118 hw; have hg : w114.grownBy w118 (some go92) := (by rw [hw]; exact HP117.2); have hp_ : Kd.R (Kd.int .i64) 3 w118 w.heap.size (fun k_ => some k_ ≠ (.slice (some ⟨go89, 0, none⟩) x315001_2.length co77 : Value).ownBlock) (.slice (some ⟨go92, 0, none⟩) x315000_2.length co76) y333 := (by rw [hw, Ny333.out]; exact HP117.1); clear HP117; have n0_ := Aside0.mk (hp_); have n1_ := Aside0.mk (Kd.R_after (v := (.slice (some ⟨go92, 0, none⟩) x315000_2.length co76)) (v1 := (.slice (some ⟨go92, 0, none⟩) x315000_2.length co76)) (ok := (fun _ => True)) (by (with_reducible repeat (first | apply Kd.R_alloc | apply Kd.R_drewN | apply Kd.R_drew)); exact HO_315001.out) hg (.inl rfl)); have n2_ := Aside0.mk (Kd.R_over' (v := (.slice (some ⟨go92, 0, none⟩) x315000_2.length co76)) (by (with_reducible repeat (first | apply Kd.R_alloc | apply Kd.R_drewN | apply Kd.R_drew)); exact HO_315002.out) (Kd.R_typed HO_315000.out) (by decide) hg); have n3_ := Aside0.mk (blk_grown (g := gb310) (o := .cells #[.slice none 0 0, .slice none 0 0, .slice none 0 0] 64 (0, 0)) (by (with_reducible repeat (first | refine blk_drewN ?_ _ | refine blk_drew ?_ | refine blk_alloc ?_ _)); exact BK310.out) hg (Kd.R_ne HO_315000.out BK310.out (by decide))); have n4_ := Aside0.mk (blk_grown (g := gb314) (o := .cells #[.slice (some ⟨go92, 0, none⟩) x315000_2.length co76, .slice (some ⟨go89, 0, none⟩) x315001_2.length co77, .slice (some ⟨go95, 0, none⟩) x315002_2.length co78] 64 (0, 0)) (by (with_reducible repeat (first | refine blk_drewN ?_ _ | refine blk_drew ?_ | refine blk_alloc ?_ _)); exact BK314.out) hg (Kd.R_ne HO_315000.out BK314.out (by decide))); have n5_ := Aside0.mk (blk_grown (g := gb322) (o := .cells #[.int .i64 ((rd_T45 l2 x10_2).f0), .int .i64 ((rd_T45 l2 x10_2).f1), .int .i64 ((rd_T45 l2 x10_2).f2)] 45 (0, 0)) (by (with_reducible repeat (first | refine blk_drewN ?_ _ | refine blk_drew ?_ | refine blk_alloc ?_ _)); exact BK322.out) hg (Kd.R_ne HO_315000.out BK322.out (by decide))); have n6_ := Aside0.mk ((by rw [hw]; exact below_set (HB.out) GB92.out : Below w.heap.size w w118)); clear HO_315000; clear HO_315001; clear HO_315002; clear BK310; clear BK314; clear BK322; clear HB; have HO_315000 := n0_; have HO_315001 := n1_; have HO_315002 := n2_; have BK310 := n3_; have BK314 := n4_; have BK322 := n5_; have HB := n6_; clear n0_ n1_ n2_ n3_ n4_ n5_ n6_; clear hg hw hp_; have hcz119_0 : w118.cell? ⟨gb314, 0, none⟩ = some (.slice (some ⟨go92, 0, none⟩) x315000_2.length co76) := (blk_cell BK314.out 0).trans rfl; have hcz119_1 : w118.cell? ⟨gb314, 1, none⟩ = some (.slice (some ⟨go89, 0, none⟩) x315001_2.length co77) := (blk_cell BK314.out 1).trans rfl; have hcz119_2 : w118.cell? ⟨gb314, 2, none⟩ = some (.slice (some ⟨go95, 0, none⟩) x315002_2.length co78) := (blk_cell BK314.out 2).trans rfl; have hfz119_0 := blk_frozen BK314.out 0; have hfz119_1 := blk_frozen BK314.out 1; have hfz119_2 := blk_frozen BK314.out 2; have p100 : 0 ≤ (x12_69 : Int) := of_decide_eq_true (by first | (with_reducible assumption) | assumption); have q100 : (x12_69 : Int) < ((x315002_2.length : Int) : Int) := of_decide_eq_true (by first | (with_reducible assumption) | assumption); obtain ⟨hx100_0, hf100_0⟩ := Kd.R_celln false HO_315002.out (x12_69 : Int) p100 q100; replace p100 := eq_true p100; replace q100 := eq_true q100; obtain ⟨hy120_, hz120_⟩ := Kd.R_celln false HO_315002.out (x12_69 : Int) (of_decide_eq_true (by first | (with_reducible assumption) | assumption)) (of_decide_eq_true (by first | (with_reducible assumption) | assumption)); have HP120 := Kd.R_putg HO_315002.out (x12_69 : Int) true) | ((with_reducible refine gate_store (t := 4) (p := 146) rfl ?_); refine store_event (t := 4) (p := 146) (v := ?vo_w121) (w1 := (w118.setCell ⟨go95, (x12_69 : Int).toNat, none⟩ (.bool true))) ?hg ?ho ?hn ?hr ?_; (case ho => rfl); (case hg => rfl); (case hn => rfl); (case hr => first | (go_simp; done) | (go_simp; rfl)); intro w121 hw; have hg : w118.grownBy w121 (some go95) := (by rw [hw]; exact HP120.2); have hp_ : Kd.R Kd.bool 4 w121 w.heap.size (fun _ => True) (.slice (some ⟨go95, 0, none⟩) x315002_2.length co78) y334 := (by rw [hw, Ny334.out]; exact HP120.1); clear HP120; have n0_ := Aside0.mk (Kd.R_over' (v := (.slice (some ⟨go95, 0, none⟩) x315002_2.length co78)) (by (with_reducible repeat (first | apply Kd.R_alloc | apply Kd.R_drewN | apply Kd.R_drew)); exact HO_315000.out) (Kd.R_typed HO_315002.out) (by decide) hg); have n1_ := Aside0.mk (Kd.R_over' (v := (.slice (some ⟨go95, 0, none⟩) x315002_2.length co78)) (by (with_reducible repeat (first | apply Kd.R_alloc | apply Kd.R_drewN | apply Kd.R_drew)); exact HO_315001.out) (Kd.R_typed HO_315002.out) (by decide) hg); have n2_ := Aside0.mk (hp_); have n3_ := Aside0.mk (blk_grown (g := gb310) (o := .cells #[.slice none 0 0, .slice none 0 0, .slice none 0 0] 64 (0, 0)) (by (with_reducible repeat (first | refine blk_drewN ?_ _ | refine blk_drew ?_ | refine blk_alloc ?_ _)); exact BK310.out) hg (Kd.R_ne HO_315002.out BK310.out (by decide))); have n4_ := Aside0.mk (blk_grown (g := gb314) (o := .cells #[.slice (some ⟨go92, 0, none⟩) x315000_2.length co76, .slice (some ⟨go89, 0, none⟩) x315001_2.length co77, .slice (some ⟨go95, 0, none⟩) x315002_2.length co78] 64 (0, 0)) (by (with_reducible repeat (first | refine blk_drewN ?_ _ | refine blk_drew ?_ | refine blk_alloc ?_ _)); exact BK314.out) hg (Kd.R_ne HO_315002.out BK314.out (by decide))); have n5_ := Aside0.mk (blk_grown (g := gb322) (o := .cells #[.int .i64 ((rd_T45 l2 x10_2).f0), .int .i64 ((rd_T45 l2 x10_2).f1), .int .i64 ((rd_T45 l2 x10_2).f2)] 45 (0, 0)) (by (with_reducible repeat (first | refine blk_drewN ?_ _ | refine blk_drew ?_ | refine blk_alloc ?_ _)); exact BK322.out) hg (Kd.R_ne HO_315002.out BK322.out (by decide))); have n6_ := Aside0.mk ((by rw [hw]; exact below_set (HB.out) GB95.out : Below w.heap.size w w121)); clear HO_315000; clear HO_315001; clear HO_315002; clear BK310; clear BK314; clear BK322; clear HB; have HO_315000 := n0_; have HO_315001 := n1_; have HO_315002 := n2_; have BK310 := n3_; have BK314 := n4_; have BK322 := n5_; have HB := n6_; clear n0_ n1_ n2_ n3_ n4_ n5_ n6_; clear hg hw hp_))
                                                        go_roundg kj69
                                                        case measure => have := HK1.out; have := HK2.out; have := HJ25.out; have := HJ69.out; omega
                                                        case rel => exact ⟨(wrap64 (x10_2 + 1)), (y333), (y330), (y334), (.slice (some ⟨go92, 0, none⟩) x315000_2.length co76), (.slice (some ⟨go89, 0, none⟩) x315001_2.length co77), (.slice (some ⟨go95, 0, none⟩) x315002_2.length co78), (by first | rfl | (simp; done) | (simp [*]; done)), H', ⟨by have := HK1.out; have := HK2.out; have := HJ25.out; have := HJ69.out; omega⟩, ⟨by (with_reducible repeat (first | apply Kd.R_alloc | apply Kd.R_drewN | apply Kd.R_drew)); exact HO_315000.out⟩, ⟨by (with_reducible repeat (first | apply Kd.R_alloc | apply Kd.R_drewN | apply Kd.R_drew)); exact Kd.R_mono HO_315001.out (fun _ hk => hk.2)⟩, ⟨by (with_reducible repeat (first | apply Kd.R_alloc | apply Kd.R_drewN | apply Kd.R_drew)); exact HO_315002.out⟩, ⟨by (with_reducible repeat (first | refine blk_drewN ?_ _ | refine blk_drew ?_ | refine blk_alloc ?_ _)); exact BK310.out⟩, ⟨by (with_reducible repeat (first | refine blk_drewN ?_ _ | refine blk_drew ?_ | refine blk_alloc ?_ _)); exact BK314.out⟩, ⟨by repeat (first | (with_reducible first | exact HB.out | apply below_alloc | apply pw_below_drewN | apply below_drew1 | refine below_set ?_ GE310.out | refine below_set ?_ GE314.out | refine below_set ?_ GE322.out) | exact HB.out)⟩⟩
                                                      · rw [if_neg c99] at H
                                                        exact absurd H (by simp)
                                                    · rw [if_neg c98] at H
                                                      exact absurd H (by simp)
                                                  · rw [if_neg c96] at H
                                                    have c96b0 : decide (((rd_T45 l2 x10_2).f1) < ((rd_T45 l2 x10_2).f2)) = false := decide_eq_false c96
                                                    clear c96
                                                    have H' := Aside0.mk H
                                                    clear H
                                                    have hnb122 := NB314_310.out
                                                    have hnc122 := NB310_314.out
                                                    have hnb123 := NB314_322.out
                                                    have hnc123 := NB322_314.out
                                                    have hcz124_0 : wc.cell? ⟨gb314, 0, none⟩ = some (.slice Ao76 x315000_2.length co76) := (blk_cell BK314.out 0).trans rfl
                                                    have hcz124_1 : wc.cell? ⟨gb314, 1, none⟩ = some (.slice (some ad328) x315001_2.length co77) := (blk_cell BK314.out 1).trans rfl
                                                    have hcz124_2 : wc.cell? ⟨gb314, 2, none⟩ = some (.slice Ao78 x315002_2.length co78) := (blk_cell BK314.out 2).trans rfl
                                                    have hfz124_0 := blk_frozen BK314.out 0
                                                    have hfz124_1 := blk_frozen BK314.out 1
                                                    have hfz124_2 := blk_frozen BK314.out 2
                                                    have hnb125 := NB322_310.out
                                                    have hnc125 := NB310_322.out
                                                    have hcz126_0 : wc.cell? ⟨gb322, 0, none⟩ = some (.int .i64 ((rd_T45 l2 x10_2).f0)) := (blk_cell BK322.out 0).trans rfl
                                                    have hcz126_1 : wc.cell? ⟨gb322, 1, none⟩ = some (.int .i64 ((rd_T45 l2 x10_2).f1)) := (blk_cell BK322.out 1).trans rfl
                                                    have hcz126_2 : wc.cell? ⟨gb322, 2, none⟩ = some (.int .i64 ((rd_T45 l2 x10_2).f2)) := (blk_cell BK322.out 2).trans rfl
                                                    have hfz126_0 := blk_frozen BK322.out 0
                                                    have hfz126_1 := blk_frozen BK322.out 1
                                                    have hfz126_2 := blk_frozen BK322.out 2
                                                    have p329 : 0 ≤ (((rd_T45 l2 x10_2).f0) : Int) := of_decide_eq_true (by first | (with_reducible assumption) | assumption)
                                                    have q329 : ((rd_T45 l2 x10_2).f0) < (x315001_2.length : Int) := of_decide_eq_true (by first | (with_reducible assumption) | assumption)
                                                    obtain ⟨ad329, e329, hx329_0⟩ := Kd.at_int (Kd.R_reads' HO_315001.out).2.2 ((rd_T45 l2 x10_2).f0) p329 q329
                                                    obtain rfl : ad328 = ad329 := (by injection e329)
                                                    replace p329 := eq_true p329
                                                    replace q329 := eq_true q329
                                                    have p89 : 0 ≤ (((rd_T45 l2 x10_2).f0) : Int) := of_decide_eq_true (by first | (with_reducible assumption) | assumption)
                                                    have q89 : (((rd_T45 l2 x10_2).f0) : Int) < ((x315001_2.length : Int) : Int) := of_decide_eq_true (by first | (with_reducible assumption) | assumption)
                                                    obtain ⟨go89, co89, eo89, gb89, gl89, cl89, HG89⟩ := Kd.R_form HO_315001.out (by omega)
                                                    (first | cases eo89 | (injection eo89 with ea_ en_ ec_; (first | subst ea_ | (injection ea_ with ea_; subst ea_)); subst ec_; clear en_))
                                                    have GB89 := Aside0.mk gb89
                                                    have GG89 := Aside0.mk HG89
                                                    clear gb89 gl89 HG89
                                                    (first | simp only [add_plain] at hx329_0 | skip)
                                                    obtain ⟨hx89_0, hf89_0⟩ := Kd.R_celln 0 HO_315001.out (((rd_T45 l2 x10_2).f0) : Int) p89 q89
                                                    replace p89 := eq_true p89
                                                    replace q89 := eq_true q89
                                                    have HP127 := Kd.R_putg HO_315001.out (((rd_T45 l2 x10_2).f0) : Int) (wrap64 ((rd x315001_2 ((rd_T45 l2 x10_2).f0)) + 1))
                                                    go_wp2_with (first | ((with_reducible refine gate_store (t := 3) (p := 116) rfl ?_); refine store_event (t := 3) (p := 116) (v := ?vo_w128) (w1 := (wc.setCell ⟨go89, (((rd_T45 l2 x10_2).f0) : Int).toNat, none⟩ (.int .i64 (wrap64 ((rd x315001_2 ((rd_T45 l2 x10_2).f0)) + 1))))) ?hg ?ho ?hn ?hr ?_; (case ho => rfl); (case hg => rfl); (case hn => rfl); (case hr => first | (go_simp; done) | (go_simp; rfl)); intro w128 hw; have hg : wc.grownBy w128 (some go89) := (by rw [hw]; exact HP127.2); have hp_ : Kd.R (Kd.int .i64) 3 w128 w.heap.size (fun k_ => some k_ ≠ (.slice Ao76 x315000_2.length co76 : Value).ownBlock) (.slice (some ⟨go89, 0, none⟩) x315001_2.length co77) y330 := (by rw [hw, Ny330.out]; exact HP127.1); clear HP127; have n0_ := Aside0.mk (Kd.R_after (v := (.slice (some ⟨go89, 0, none⟩) x315001_2.length co77)) (v1 := (.slice (some ⟨go89, 0, none⟩) x315001_2.length co77)) (ok := (fun _ => True)) (by (with_reducible repeat (first | apply Kd.R_alloc | apply Kd.R_drewN | apply Kd.R_drew)); exact Kd.R_mono HO_315000.out (fun _ hk => ⟨trivial, hk⟩)) hg (.inl rfl)); have n1_ := Aside0.mk (hp_); have n2_ := Aside0.mk (Kd.R_over' (v := (.slice (some ⟨go89, 0, none⟩) x315001_2.length co77)) (by (with_reducible repeat (first | apply Kd.R_alloc | apply Kd.R_drewN | apply Kd.R_drew)); exact HO_315002.out) (Kd.R_typed HO_315001.out) (by decide) hg); have n3_ := Aside0.mk (blk_grown (g := gb310) (o := .cells #[.slice none 0 0, .slice none 0 0, .slice none 0 0] 64 (0, 0)) (by (with_reducible repeat (first | refine blk_drewN ?_ _ | refine blk_drew ?_ | refine blk_alloc ?_ _)); exact BK310.out) hg (Kd.R_ne HO_315001.out BK310.out (by decide))); have n4_ := Aside0.mk (blk_grown (g := gb314) (o := .cells #[.slice Ao76 x315000_2.length co76, .slice (some ⟨go89, 0, none⟩) x315001_2.length co77, .slice Ao78 x315002_2.length co78] 64 (0, 0)) (by (with_reducible repeat (first | refine blk_drewN ?_ _ | refine blk_drew ?_ | refine blk_alloc ?_ _)); exact BK314.out) hg (Kd.R_ne HO_315001.out BK314.out (by decide))); have n5_ := Aside0.mk (blk_grown (g := gb322) (o := .cells #[.int .i64 ((rd_T45 l2 x10_2).f0), .int .i64 ((rd_T45 l2 x10_2).f1), .int .i64 ((rd_T45 l2 x10_2).f2)] 45 (0, 0)) (by (with_reducible repeat (first | refine blk_drewN ?_ _ | refine blk_drew ?_ | refine blk_alloc ?_ _)); exact BK322.out) hg (Kd.R_ne HO_315001.out BK322.out (by decide))); have n6_ := Aside0.mk ((by rw [hw]; exact below_set (HB.out) GB89.out : Below w.heap.size w w128)); clear HO_315000; clear HO_315001; clear HO_315002; clear BK310; clear BK314; clear BK322; clear HB; have HO_315000 := n0_; have HO_315001 := n1_; have HO_315002 := n2_; have BK310 := n3_; have BK314 := n4_; have BK322 := n5_; have HB := n6_; clear n0_ n1_ n2_ n3_ n4_ n5_ n6_; clear hg hw hp_; have hcz129_0 : w128.cell? ⟨gb322, 0, none⟩ = some (.int .i64 ((rd_T45 l2 x10_2).f0)) := (blk_cell BK322.out 0).trans rfl; have hcz129_1 : w128.cell? ⟨gb322, 1, none⟩ = some (.int .i64 ((rd_T45 l2 x10_2).f1)) := (blk_cell BK322.out 1).trans rfl; have hcz129_2 : w128.cell? ⟨gb322, 2, none⟩ = some (.int .i64 ((rd_T45 l2 x10_2).f2)) := (blk_cell BK322.out 2).trans rfl; have hfz129_0 := blk_frozen BK322.out 0; have hfz129_1 := blk_frozen BK322.out 1; have hfz129_2 := blk_frozen BK322.out 2; have hcz130_0 : w128.cell? ⟨gb314, 0, none⟩ = some (.slice Ao76 x315000_2.length co76) := (blk_cell BK314.out 0).trans rfl; have hcz130_1 : w128.cell? ⟨gb314, 1, none⟩ = some (.slice (some ⟨go89, 0, none⟩) x315001_2.length co77) := (blk_cell BK314.out 1).trans rfl; have hcz130_2 : w128.cell? ⟨gb314, 2, none⟩ = some (.slice Ao78 x315002_2.length co78) := (blk_cell BK314.out 2).trans rfl; have hfz130_0 := blk_frozen BK314.out 0; have hfz130_1 := blk_frozen BK314.out 1; have hfz130_2 := blk_frozen BK314.out 2; have p92 : 0 ≤ (((rd_T45 l2 x10_2).f0) : Int) := of_decide_eq_true (by first | (with_reducible assumption) | assumption); have q92 : (((rd_T45 l2 x10_2).f0) : Int) < ((x315000_2.length : Int) : Int) := of_decide_eq_true (by first | (with_reducible assumption) | assumption); obtain ⟨go92, co92, eo92, gb92, gl92, cl92, HG92⟩ := Kd.R_form HO_315000.out (by omega); (first | cases eo92 | (injection eo92 with ea_ en_ ec_; (first | subst ea_ | (injection ea_ with ea_; subst ea_)); subst ec_; clear en_)); have GB92 := Aside0.mk gb92; have GG92 := Aside0.mk HG92; clear gb92 gl92 HG92; obtain ⟨hx92_0, hf92_0⟩ := Kd.R_celln 0 HO_315000.out (((rd_T45 l2 x10_2).f0) : Int) p92 q92; replace p92 := eq_true p92; replace q92 := eq_true q92; have n_ := Aside0.mk (Kd.R_mono (ok' := (fun k_ => some k_ ≠ (.slice (some ⟨go89, 0, none⟩) x315001_2.length co77 : Value).ownBlock)) HO_315000.out (fun k_ hk => hk.2)); clear HO_315000; have HO_315000 := n_; clear n_; obtain ⟨hy131_, hz131_⟩ := Kd.R_celln 0 HO_315000.out (((rd_T45 l2 x10_2).f0) : Int) (of_decide_eq_true (by first | (with_reducible assumption) | assumption)) (of_decide_eq_true (by first | (with_reducible assumption) | assumption)); have HP131 := Kd.R_putg HO_315000.out (((rd_T45 l2 x10_2).f0) : Int) x12_69) | ((with_reducible refine gate_store (t := 3) (p := 127) rfl ?_); refine store_event (t := 3) (p := 127) (v := ?vo_w132) (w1 := (w128.setCell ⟨go92, (((rd_T45 l2 x10_2).f0) : Int).toNat, none⟩ (.int .i64 x12_69))) ?hg ?ho ?hn ?hr ?_; (case ho => rfl); (case hg => rfl); (case hn => rfl); (case hr => first | (go_simp; done) | (go_simp; rfl)); intro w132 hw; have hg : w128.grownBy w132 (some go92) := (by rw [hw]; exact HP131.2); have hp_ : Kd.R (Kd.int .i64) 3 w132 w.heap.size (fun k_ => some k_ ≠ (.slice (some ⟨go89, 0, none⟩) x315001_2.length co77 : Value).ownBlock) (.slice (some ⟨go92, 0, none⟩) x315000_2.length co76) y331 := (by rw [hw, Ny331.out]; exact HP131.1); clear HP131; have n0_ := Aside0.mk (hp_); have n1_ := Aside0.mk (Kd.R_after (v := (.slice (some ⟨go92, 0, none⟩) x315000_2.length co76)) (v1 := (.slice (some ⟨go92, 0, none⟩) x315000_2.length co76)) (ok := (fun _ => True)) (by (with_reducible repeat (first | apply Kd.R_alloc | apply Kd.R_drewN | apply Kd.R_drew)); exact Kd.R_mono HO_315001.out (fun _ hk => ⟨trivial, hk⟩)) hg (.inl rfl)); have n2_ := Aside0.mk (Kd.R_over' (v := (.slice (some ⟨go92, 0, none⟩) x315000_2.length co76)) (by (with_reducible repeat (first | apply Kd.R_alloc | apply Kd.R_drewN | apply Kd.R_drew)); exact HO_315002.out) (Kd.R_typed HO_315000.out) (by decide) hg); have n3_ := Aside0.mk (blk_grown (g := gb310) (o := .cells #[.slice none 0 0, .slice none 0 0, .slice none 0 0] 64 (0, 0)) (by (with_reducible repeat (first | refine blk_drewN ?_ _ | refine blk_drew ?_ | refine blk_alloc ?_ _)); exact BK310.out) hg (Kd.R_ne HO_315000.out BK310.out (by decide))); have n4_ := Aside0.mk (blk_grown (g := gb314) (o := .cells #[.slice (some ⟨go92, 0, none⟩) x315000_2.length co76, .slice (some ⟨go89, 0, none⟩) x315001_2.length co77, .slice Ao78 x315002_2.length co78] 64 (0, 0)) (by (with_reducible repeat (first | refine blk_drewN ?_ _ | refine blk_drew ?_ | refine blk_alloc ?_ _)); exact BK314.out) hg (Kd.R_ne HO_315000.out BK314.out (by decide))); have n5_ := Aside0.mk (blk_grown (g := gb322) (o := .cells #[.int .i64 ((rd_T45 l2 x10_2).f0), .int .i64 ((rd_T45 l2 x10_2).f1), .int .i64 ((rd_T45 l2 x10_2).f2)] 45 (0, 0)) (by (with_reducible repeat (first | refine blk_drewN ?_ _ | refine blk_drew ?_ | refine blk_alloc ?_ _)); exact BK322.out) hg (Kd.R_ne HO_315000.out BK322.out (by decide))); have n6_ := Aside0.mk ((by rw [hw]; exact below_set (HB.out) GB92.out : Below w.heap.size w w132)); clear HO_315000; clear HO_315001; clear HO_315002; clear BK310; clear BK314; clear BK322; clear HB; have HO_315000 := n0_; have HO_315001 := n1_; have HO_315002 := n2_; have BK310 := n3_; have BK314 := n4_; have BK322 := n5_; have HB := n6_; clear n0_ n1_ n2_ n3_ n4_ n5_ n6_; clear hg hw hp_; have hcz133_0 : w132.cell? ⟨gb314, 0, none⟩ = some (.slice (some ⟨go92, 0, none⟩) x315000_2.length co76) := (blk_cell BK314.out 0).trans rfl; have hcz133_1 : w132.cell? ⟨gb314, 1, none⟩ = some (.slice (some ⟨go89, 0, none⟩) x315001_2.length co77) := (blk_cell BK314.out 1).trans rfl; have hcz133_2 : w132.cell? ⟨gb314, 2, none⟩ = some (.slice Ao78 x315002_2.length co78) := (blk_cell BK314.out 2).trans rfl; have hfz133_0 := blk_frozen BK314.out 0; have hfz133_1 := blk_frozen BK314.out 1; have hfz133_2 := blk_frozen BK314.out 2; have p95 : 0 ≤ (x13_69 : Int) := of_decide_eq_true (by first | (with_reducible assumption) | assumption); have q95 : (x13_69 : Int) < ((x315002_2.length : Int) : Int) := of_decide_eq_true (by first | (with_reducible assumption) | assumption); obtain ⟨go95, co95, eo95, gb95, gl95, cl95, HG95⟩ := Kd.R_form HO_315002.out (by omega); (first | cases eo95 | (injection eo95 with ea_ en_ ec_; (first | subst ea_ | (injection ea_ with ea_; subst ea_)); subst ec_; clear en_)); have GB95 := Aside0.mk gb95; have GG95 := Aside0.mk HG95; clear gb95 gl95 HG95; obtain ⟨hx95_0, hf95_0⟩ := Kd.R_celln false HO_315002.out (x13_69 : Int) p95 q95; replace p95 := eq_true p95; replace q95 := eq_true q95; obtain ⟨hy134_, hz134_⟩ := Kd.R_celln false HO_315002.out (x13_69 : Int) (of_decide_eq_true (by first | (with_reducible assumption) | assumption)) (of_decide_eq_true (by first | (with_reducible assumption) | assumption)); have HP134 := Kd.R_putg HO_315002.out (x13_69 : Int) true) | ((with_reducible refine gate_store (t := 4) (p := 131) rfl ?_); refine store_event (t := 4) (p := 131) (v := ?vo_w135) (w1 := (w132.setCell ⟨go95, (x13_69 : Int).toNat, none⟩ (.bool true))) ?hg ?ho ?hn ?hr ?_; (case ho => rfl); (case hg => rfl); (case hn => rfl); (case hr => first | (go_simp; done) | (go_simp; rfl)); intro w135 hw; have hg : w132.grownBy w135 (some go95) := (by rw [hw]; exact HP134.2); have hp_ : Kd.R Kd.bool 4 w135 w.heap.size (fun _ => True) (.slice (some ⟨go95, 0, none⟩) x315002_2.length co78) y332 := (by rw [hw, Ny332.out]; exact HP134.1); clear HP134; have n0_ := Aside0.mk (Kd.R_over' (v := (.slice (some ⟨go95, 0, none⟩) x315002_2.length co78)) (by (with_reducible repeat (first | apply Kd.R_alloc | apply Kd.R_drewN | apply Kd.R_drew)); exact HO_315000.out) (Kd.R_typed HO_315002.out) (by decide) hg); have n1_ := Aside0.mk (Kd.R_over' (v := (.slice (some ⟨go95, 0, none⟩) x315002_2.length co78)) (by (with_reducible repeat (first | apply Kd.R_alloc | apply Kd.R_drewN | apply Kd.R_drew)); exact HO_315001.out) (Kd.R_typed HO_315002.out) (by decide) hg); have n2_ := Aside0.mk (hp_); have n3_ := Aside0.mk (blk_grown (g := gb310) (o := .cells #[.slice none 0 0, .slice none 0 0, .slice none 0 0] 64 (0, 0)) (by (with_reducible repeat (first | refine blk_drewN ?_ _ | refine blk_drew ?_ | refine blk_alloc ?_ _)); exact BK310.out) hg (Kd.R_ne HO_315002.out BK310.out (by decide))); have n4_ := Aside0.mk (blk_grown (g := gb314) (o := .cells #[.slice (some ⟨go92, 0, none⟩) x315000_2.length co76, .slice (some ⟨go89, 0, none⟩) x315001_2.length co77, .slice (some ⟨go95, 0, none⟩) x315002_2.length co78] 64 (0, 0)) (by (with_reducible repeat (first | refine blk_drewN ?_ _ | refine blk_drew ?_ | refine blk_alloc ?_ _)); exact BK314.out) hg (Kd.R_ne HO_315002.out BK314.out (by decide))); have n5_ := Aside0.mk (blk_grown (g := gb322) (o := .cells #[.int .i64 ((rd_T45 l2 x10_2).f0), .int .i64 ((rd_T45 l2 x10_2).f1), .int .i64 ((rd_T45 l2 x10_2).f2)] 45 (0, 0)) (by (with_reducible repeat (first | refine blk_drewN ?_ _ | refine blk_drew ?_ | refine blk_alloc ?_ _)); exact BK322.out) hg (Kd.R_ne HO_315002.out BK322.out (by decide))); have n6_ := Aside0.mk ((by rw [hw]; exact below_set (HB.out) GB95.out : Below w.heap.size w w135)); clear HO_315000; clear HO_315001; clear HO_315002; clear BK310; clear BK314; clear BK322; clear HB; have HO_315000 := n0_; have HO_315001 := n1_; have HO_315002 := n2_; have BK310 := n3_; have BK314 := n4_; have BK322 := n5_; have HB := n6_; clear n0_ n1_ n2_ n3_ n4_ n5_ n6_; clear hg hw hp_; have hcz136_0 : w135.cell? ⟨gb322, 0, none⟩ = some (.int .i64 ((rd_T45 l2 x10_2).f0)) := (blk_cell BK322.out 0).trans rfl; have hcz136_1 : w135.cell? ⟨gb322, 1, none⟩ = some (.int .i64 ((rd_T45 l2 x10_2).f1)) := (blk_cell BK322.out 1).trans rfl; have hcz136_2 : w135.cell? ⟨gb322, 2, none⟩ = some (.int .i64 ((rd_T45 l2 x10_2).f2)) := (blk_cell BK322.out 2).trans rfl; have hfz136_0 := blk_frozen BK322.out 0; have hfz136_1 := blk_frozen BK322.out 1; have hfz136_2 := blk_frozen BK322.out 2))
                                                    go_roundg kj69
                                                    case measure => have := HK1.out; have := HK2.out; have := HJ25.out; have := HJ69.out; omega
                                                    case rel => exact ⟨(wrap64 (x10_2 + 1)), (y331), (y330), (y332), (.slice (some ⟨go92, 0, none⟩) x315000_2.length co76), (.slice (some ⟨go89, 0, none⟩) x315001_2.length co77), (.slice (some ⟨go95, 0, none⟩) x315002_2.length co78), (by first | rfl | (simp; done) | (simp [*]; done)), H', ⟨by have := HK1.out; have := HK2.out; have := HJ25.out; have := HJ69.out; omega⟩, ⟨by (with_reducible repeat (first | apply Kd.R_alloc | apply Kd.R_drewN | apply Kd.R_drew)); exact HO_315000.out⟩, ⟨by (with_reducible repeat (first | apply Kd.R_alloc | apply Kd.R_drewN | apply Kd.R_drew)); exact Kd.R_mono HO_315001.out (fun _ hk => hk.2)⟩, ⟨by (with_reducible repeat (first | apply Kd.R_alloc | apply Kd.R_drewN | apply Kd.R_drew)); exact HO_315002.out⟩, ⟨by (with_reducible repeat (first | refine blk_drewN ?_ _ | refine blk_drew ?_ | refine blk_alloc ?_ _)); exact BK310.out⟩, ⟨by (with_reducible repeat (first | refine blk_drewN ?_ _ | refine blk_drew ?_ | refine blk_alloc ?_ _)); exact BK314.out⟩, ⟨by repeat (first | (with_reducible first | exact HB.out | apply below_alloc | apply pw_below_drewN | apply below_drew1 | refine below_set ?_ GE310.out | refine below_set ?_ GE314.out | refine below_set ?_ GE322.out) | exact HB.out)⟩⟩
                                                · rw [if_neg c94] at H
                                                  exact absurd H (by simp)
                                              · rw [if_neg c93] at H
                                                exact absurd H (by simp)
                                            · rw [if_neg c91] at H
                                              exact absurd H (by simp)
                                          · rw [if_neg c90] at H
                                            have c90b0 : decide (((rd_T45 l2 x10_2).f2) < ((rd_T45 l2 x10_2).f1)) = false := decide_eq_false c90
                                            clear c90
                                            by_cases c137 : ((rd_T45 l2 x10_2).f1) < ((rd_T45 l2 x10_2).f2)
                                            · rw [if_pos c137] at H
                                              have c137b0 : decide (((rd_T45 l2 x10_2).f1) < ((rd_T45 l2 x10_2).f2)) = true := decide_eq_true c137
                                              clear c137
                                              by_cases c138 : ((rd_T45 l2 x10_2).f0) < (x315000_2.length : Int)
                                              · rw [if_pos c138] at H
                                                have c138b0 : decide (((rd_T45 l2 x10_2).f0) < (x315000_2.length : Int)) = true := decide_eq_true c138
                                                clear c138
                                                obtain ⟨y335, hy335⟩ : ∃ y_ : List Int, y_ = (x315000_2.set (((rd_T45 l2 x10_2).f0) : Int).toNat x13_69) := ⟨_, rfl⟩
                                                replace H : (if 0 ≤ x12_69 then (if x12_69 < (x315002_2.length : Int) then (fastiref23_play.l1 kj69 l1 l2 (wrap64 (x10_2 + 1)) y335 y330 (x315002_2.set (x12_69 : Int).toNat true)) else (none)) else (none)) = some (r1, r2, r3, r4) := by first | (rw [hy335]; with_reducible exact H) | (have H2_ := (Option.bind_some _ _).symm.trans H; rw [hy335]; with_reducible exact H2_) | (have H2_ := (Option.bind_some _ _).symm.trans H; with_reducible exact H2_) | with_reducible exact H | (rw [hy335]; exact H) | exact H
                                                have Ny335 := Aside0.mk hy335
                                                clear hy335
                                                by_cases c140 : 0 ≤ x12_69
                                                · rw [if_pos c140] at H
                                                  have c140b0 : decide (0 ≤ x12_69) = true := decide_eq_true c140
                                                  clear c140
                                                  by_cases c141 : x12_69 < (x315002_2.length : Int)
                                                  · rw [if_pos c141] at H
                                                    have c141b0 : decide (x12_69 < (x315002_2.length : Int)) = true := decide_eq_true c141
                                                    clear c141
                                                    obtain ⟨y336, hy336⟩ : ∃ y_ : List Bool, y_ = (x315002_2.set (x12_69 : Int).toNat true) := ⟨_, rfl⟩
                                                    replace H : (fastiref23_play.l1 kj69 l1 l2 (wrap64 (x10_2 + 1)) y335 y330 y336) = some (r1, r2, r3, r4) := by first | (rw [hy336]; with_reducible exact H) | (have H2_ := (Option.bind_some _ _).symm.trans H; rw [hy336]; with_reducible exact H2_) | (have H2_ := (Option.bind_some _ _).symm.trans H; with_reducible exact H2_) | with_reducible exact H | (rw [hy336]; exact H) | exact H
                                                    have Ny336 := Aside0.mk hy336
                                                    clear hy336
                                                    have H' := Aside0.mk H
                                                    clear H
                                                    have hnb143 := NB314_310.out
                                                    have hnc143 := NB310_314.out
                                                    have hnb144 := NB314_322.out
                                                    have hnc144 := NB322_314.out
                                                    have hcz145_0 : wc.cell? ⟨gb314, 0, none⟩ = some (.slice Ao76 x315000_2.length co76) := (blk_cell BK314.out 0).trans rfl
                                                    have hcz145_1 : wc.cell? ⟨gb314, 1, none⟩ = some (.slice (some ad328) x315001_2.length co77) := (blk_cell BK314.out 1).trans rfl
                                                    have hcz145_2 : wc.cell? ⟨gb314, 2, none⟩ = some (.slice Ao78 x315002_2.length co78) := (blk_cell BK314.out 2).trans rfl
                                                    have hfz145_0 := blk_frozen BK314.out 0
                                                    have hfz145_1 := blk_frozen BK314.out 1
                                                    have hfz145_2 := blk_frozen BK314.out 2
                                                    have hnb146 := NB322_310.out
                                                    have hnc146 := NB310_322.out
                                                    have hcz147_0 : wc.cell? ⟨gb322, 0, none⟩ = some (.int .i64 ((rd_T45 l2 x10_2).f0)) := (blk_cell BK322.out 0).trans rfl
                                                    have hcz147_1 : wc.cell? ⟨gb322, 1, none⟩ = some (.int .i64 ((rd_T45 l2 x10_2).f1)) := (blk_cell BK322.out 1).trans rfl
                                                    have hcz147_2 : wc.cell? ⟨gb322, 2, none⟩ = some (.int .i64 ((rd_T45 l2 x10_2).f2)) := (blk_cell BK322.out 2).trans rfl
                                                    have hfz147_0 := blk_frozen BK322.out 0
                                                    have hfz147_1 := blk_frozen BK322.out 1
                                                    have hfz147_2 := blk_frozen BK322.out 2
                                                    have p329 : 0 ≤ (((rd_T45 l2 x10_2).f0) : Int) := of_decide_eq_true (by first | (with_reducible assumption) | assumption)
                                                    have q329 : ((rd_T45 l2 x10_2).f0) < (x315001_2.length : Int) := of_decide_eq_true (by first | (with_reducible assumption) | assumption)
                                                    obtain ⟨ad329, e329, hx329_0⟩ := Kd.at_int (Kd.R_reads' HO_315001.out).2.2 ((rd_T45 l2 x10_2).f0) p329 q329
                                                    obtain rfl : ad328 = ad329 := (by injection e329)
                                                    replace p329 := eq_true p329
                                                    replace q329 := eq_true q329
                                                    have p89 : 0 ≤ (((rd_T45 l2 x10_2).f0) : Int) := of_decide_eq_true (by first | (with_reducible assumption) | assumption)
                                                    have q89 : (((rd_T45 l2 x10_2).f0) : Int) < ((x315001_2.length : Int) : Int) := of_decide_eq_true (by first | (with_reducible assumption) | assumption)
                                                    obtain ⟨go89, co89, eo89, gb89, gl89, cl89, HG89⟩ := Kd.R_form HO_315001.out (by omega)
                                                    (first | cases eo89 | (injection eo89 with ea_ en_ ec_; (first | subst ea_ | (injection ea_ with ea_; subst ea_)); subst ec_; clear en_))
                                                    have GB89 := Aside0.mk gb89
                                                    have GG89 := Aside0.mk HG89
                                                    clear gb89 gl89 HG89
                                                    (first | simp only [add_plain] at hx329_0 | skip)
                                                    obtain ⟨hx89_0, hf89_0⟩ := Kd.R_celln 0 HO_315001.out (((rd_T45 l2 x10_2).f0) : Int) p89 q89
                                                    replace p89 := eq_true p89
                                                    replace q89 := eq_true q89
                                                    have HP148 := Kd.R_putg HO_315001.out (((rd_T45 l2 x10_2).f0) : Int) (wrap64 ((rd x315001_2 ((rd_T45 l2 x10_2).f0)) + 1))
                                                    go_wp2_with (first | ((with_reducible refine gate_store (t := 3) (p := 116) rfl ?_); refine store_event (t := 3) (p := 116) (v := ?vo_w149) (w1 := (wc.setCell ⟨go89, (((rd_T45 l2 x10_2).f0) : Int).toNat, none⟩ (.int .i64 (wrap64 ((rd x315001_2 ((rd_T45 l2 x10_2).f0)) + 1))))) ?hg ?ho ?hn ?hr ?_; (case ho => rfl); (case hg => rfl); (case hn => rfl); (case hr => first | (go_simp; done) | (go_simp; rfl)); intro w149 hw; have hg : wc.grownBy w149 (some go89) := (by rw [hw]; exact HP148.2); have hp_ : Kd.R (Kd.int .i64) 3 w149 w.heap.size (fun k_ => some k_ ≠ (.slice Ao76 x315000_2.length co76 : Value).ownBlock) (.slice (some ⟨go89, 0, none⟩) x315001_2.length co77) y330 := (by rw [hw, Ny330.out]; exact HP148.1); clear HP148; have n0_ := Aside0.mk (Kd.R_after (v := (.slice (some ⟨go89, 0, none⟩) x315001_2.length co77)) (v1 := (.slice (some ⟨go89, 0, none⟩) x315001_2.length co77)) (ok := (fun _ => True)) (by (with_reducible repeat (first | apply Kd.R_alloc | apply Kd.R_drewN | apply Kd.R_drew)); exact Kd.R_mono HO_315000.out (fun _ hk => ⟨trivial, hk⟩)) hg (.inl rfl)); have n1_ := Aside0.mk (hp_); have n2_ := Aside0.mk (Kd.R_over' (v := (.slice (some ⟨go89, 0, none⟩) x315001_2.length co77)) (by (with_reducible repeat (first | apply Kd.R_alloc | apply Kd.R_drewN | apply Kd.R_drew)); exact HO_315002.out) (Kd.R_typed HO_315001.out) (by decide) hg); have n3_ := Aside0.mk (blk_grown (g := gb310) (o := .cells #[.slice none 0 0, .slice none 0 0, .slice none 0 0] 64 (0, 0)) (by (with_reducible repeat (first | refine blk_drewN ?_ _ | refine blk_drew ?_ | refine blk_alloc ?_ _)); exact BK310.out) hg (Kd.R_ne HO_315001.out BK310.out (by decide))); have n4_ := Aside0.mk (blk_grown (g := gb314) (o := .cells #[.slice Ao76 x315000_2.length co76, .slice (some ⟨go89, 0, none⟩) x315001_2.length co77, .slice Ao78 x315002_2.length co78] 64 (0, 0)) (by (with_reducible repeat (first | refine blk_drewN ?_ _ | refine blk_drew ?_ | refine blk_alloc ?_ _)); exact BK314.out) hg (Kd.R_ne HO_315001.out BK314.out (by decide))); have n5_ := Aside0.mk (blk_grown (g := gb322) (o := .cells #[.int .i64 ((rd_T45 l2 x10_2).f0), .int .i64 ((rd_T45 l2 x10_2).f1), .int .i64 ((rd_T45 l2 x10_2).f2)] 45 (0, 0)) (by (with_reducible repeat (first | refine blk_drewN ?_ _ | refine blk_drew ?_ | refine blk_alloc ?_ _)); exact BK322.out) hg (Kd.R_ne HO_315001.out BK322.out (by decide))); have n6_ := Aside0.mk ((by rw [hw]; exact below_set (HB.out) GB89.out : Below w.heap.size w w149)); clear HO_315000; clear HO_315001; clear HO_315002; clear BK310; clear BK314; clear BK322; clear HB; have HO_315000 := n0_; have HO_315001 := n1_; have HO_315002 := n2_; have BK310 := n3_; have BK314 := n4_; have BK322 := n5_; have HB := n6_; clear n0_ n1_ n2_ n3_ n4_ n5_ n6_; clear hg hw hp_; have hcz150_0 : w149.cell? ⟨gb322, 0, none⟩ = some (.int .i64 ((rd_T45 l2 x10_2).f0)) := (blk_cell BK322.out 0).trans rfl; have hcz150_1 : w149.cell? ⟨gb322, 1, none⟩ = some (.int .i64 ((rd_T45 l2 x10_2).f1)) := (blk_cell BK322.out 1).trans rfl; have hcz150_2 : w149.cell? ⟨gb322, 2, none⟩ = some (.int .i64 ((rd_T45 l2 x10_2).f2)) := (blk_cell BK322.out 2).trans rfl; have hfz150_0 := blk_frozen BK322.out 0; have hfz150_1 := blk_frozen BK322.out 1; have hfz150_2 := blk_frozen BK322.out 2; have hcz151_0 : w149.cell? ⟨gb314, 0, none⟩ = some (.slice Ao76 x315000_2.length co76) := (blk_cell BK314.out 0).trans rfl; have hcz151_1 : w149.cell? ⟨gb314, 1, none⟩ = some (.slice (some ⟨go89, 0, none⟩) x315001_2.length co77) := (blk_cell BK314.out 1).trans rfl; have hcz151_2 : w149.cell? ⟨gb314, 2, none⟩ = some (.slice Ao78 x315002_2.length co78) := (blk_cell BK314.out 2).trans rfl; have hfz151_0 := blk_frozen BK314.out 0; have hfz151_1 := blk_frozen BK314.out 1; have hfz151_2 := blk_frozen BK314.out 2; have p139 : 0 ≤ (((rd_T45 l2 x10_2).f0) : Int) := of_decide_eq_true (by first | (with_reducible assumption) | assumption); have q139 : (((rd_T45 l2 x10_2).f0) : Int) < ((x315000_2.length : Int) : Int) := of_decide_eq_true (by first | (with_reducible assumption) | assumption); obtain ⟨go139, co139, eo139, gb139, gl139, cl139, HG139⟩ := Kd.R_form HO_315000.out (by omega); (first | cases eo139 | (injection eo139 with ea_ en_ ec_; (first | subst ea_ | (injection ea_ with ea_; subst ea_)); subst ec_; clear en_)); have GB139 := Aside0.mk gb139; have GG139 := Aside0.mk HG139; clear gb139 gl139 HG139; obtain ⟨hx139_0, hf139_0⟩ := Kd.R_celln 0 HO_315000.out (((rd_T45 l2 x10_2).f0) : Int) p139 q139; replace p139 := eq_true p139; replace q139 := eq_true q139; have n_ := Aside0.mk (Kd.R_mono (ok' := (fun k_ => some k_ ≠ (.slice (some ⟨go89, 0, none⟩) x315001_2.length co77 : Value).ownBlock)) HO_315000.out (fun k_ hk => hk.2)); clear HO_315000; have HO_315000 := n_; clear n_; obtain ⟨hy152_, hz152_⟩ := Kd.R_celln 0 HO_315000.out (((rd_T45 l2 x10_2).f0) : Int) (of_decide_eq_true (by first | (with_reducible assumption) | assumption)) (of_decide_eq_true (by first | (with_reducible assumption) | assumption)); have HP152 := Kd.R_putg HO_315000.out (((rd_T45 l2 x10_2).f0) : Int) x13_69) | ((with_reducible refine gate_store (t := 3) (p := 142) rfl ?_); refine store_event (t := 3) (p := 142) (v := ?vo_w153) (w1 := (w149.setCell ⟨go139, (((rd_T45 l2 x10_2).f0) : Int).toNat, none⟩ (.int .i64 x13_69))) ?hg ?ho ?hn ?hr ?_; (case ho => rfl); (case hg => rfl); (case hn => rfl); (case hr => first | (go_simp; done) | (go_simp; rfl)); intro w153 hw; have hg : w149.grownBy w153 (some go139) := (by rw [hw]; exact HP152.2); have hp_ : Kd.R (Kd.int .i64) 3 w153 w.heap.size (fun k_ => some k_ ≠ (.slice (some ⟨go89, 0, none⟩) x315001_2.length co77 : Value).ownBlock) (.slice (some ⟨go139, 0, none⟩) x315000_2.length co76) y335 := (by rw [hw, Ny335.out]; exact HP152.1); clear HP152; have n0_ := Aside0.mk (hp_); have n1_ := Aside0.mk (Kd.R_after (v := (.slice (some ⟨go139, 0, none⟩) x315000_2.length co76)) (v1 := (.slice (some ⟨go139, 0, none⟩) x315000_2.length co76)) (ok := (fun _ => True)) (by (with_reducible repeat (first | apply Kd.R_alloc | apply Kd.R_drewN | apply Kd.R_drew)); exact Kd.R_mono HO_315001.out (fun _ hk => ⟨trivial, hk⟩)) hg (.inl rfl)); have n2_ := Aside0.mk (Kd.R_over' (v := (.slice (some ⟨go139, 0, none⟩) x315000_2.length co76)) (by (with_reducible repeat (first | apply Kd.R_alloc | apply Kd.R_drewN | apply Kd.R_drew)); exact HO_315002.out) (Kd.R_typed HO_315000.out) (by decide) hg); have n3_ := Aside0.mk (blk_grown (g := gb310) (o := .cells #[.slice none 0 0, .slice none 0 0, .slice none 0 0] 64 (0, 0)) (by (with_reducible repeat (first | refine blk_drewN ?_ _ | refine blk_drew ?_ | refine blk_alloc ?_ _)); exact BK310.out) hg (Kd.R_ne HO_315000.out BK310.out (by decide))); have n4_ := Aside0.mk (blk_grown (g := gb314) (o := .cells #[.slice (some ⟨go139, 0, none⟩) x315000_2.length co76, .slice (some ⟨go89, 0, none⟩) x315001_2.length co77, .slice Ao78 x315002_2.length co78] 64 (0, 0)) (by (with_reducible repeat (first | refine blk_drewN ?_ _ | refine blk_drew ?_ | refine blk_alloc ?_ _)); exact BK314.out) hg (Kd.R_ne HO_315000.out BK314.out (by decide))); have n5_ := Aside0.mk (blk_grown (g := gb322) (o := .cells #[.int .i64 ((rd_T45 l2 x10_2).f0), .int .i64 ((rd_T45 l2 x10_2).f1), .int .i64 ((rd_T45 l2 x10_2).f2)] 45 (0, 0)) (by (with_reducible repeat (first | refine blk_drewN ?_ _ | refine blk_drew ?_ | refine blk_alloc ?_ _)); exact BK322.out) hg (Kd.R_ne HO_315000.out BK322.out (by decide))); have n6_ := Aside0.mk ((by rw [hw]; exact below_set (HB.out) GB139.out : Below w.heap.size w w153)); clear HO_315000; clear HO_315001; clear HO_315002; clear BK310; clear BK314; clear BK322; clear HB; have HO_315000 := n0_; have HO_315001 := n1_; have HO_315002 := n2_; have BK310 := n3_; have BK314 := n4_; have BK322 := n5_; have HB := n6_; clear n0_ n1_ n2_ n3_ n4_ n5_ n6_; clear hg hw hp_; have hcz154_0 : w153.cell? ⟨gb314, 0, none⟩ = some (.slice (some ⟨go139, 0, none⟩) x315000_2.length co76) := (blk_cell BK314.out 0).trans rfl; have hcz154_1 : w153.cell? ⟨gb314, 1, none⟩ = some (.slice (some ⟨go89, 0, none⟩) x315001_2.length co77) := (blk_cell BK314.out 1).trans rfl; have hcz154_2 : w153.cell? ⟨gb314, 2, none⟩ = some (.slice Ao78 x315002_2.length co78) := (blk_cell BK314.out 2).trans rfl; have hfz154_0 := blk_frozen BK314.out 0; have hfz154_1 := blk_frozen BK314.out 1; have hfz154_2 := blk_frozen BK314.out 2; have p142 : 0 ≤ (x12_69 : Int) := of_decide_eq_true (by first | (with_reducible assumption) | assumption); have q142 : (x12_69 : Int) < ((x315002_2.length : Int) : Int) := of_decide_eq_true (by first | (with_reducible assumption) | assumption); obtain ⟨go142, co142, eo142, gb142, gl142, cl142, HG142⟩ := Kd.R_form HO_315002.out (by omega); (first | cases eo142 | (injection eo142 with ea_ en_ ec_; (first | subst ea_ | (injection ea_ with ea_; subst ea_)); subst ec_; clear en_)); have GB142 := Aside0.mk gb142; have GG142 := Aside0.mk HG142; clear gb142 gl142 HG142; obtain ⟨hx142_0, hf142_0⟩ := Kd.R_celln false HO_315002.out (x12_69 : Int) p142 q142; replace p142 := eq_true p142; replace q142 := eq_true q142; obtain ⟨hy155_, hz155_⟩ := Kd.R_celln false HO_315002.out (x12_69 : Int) (of_decide_eq_true (by first | (with_reducible assumption) | assumption)) (of_decide_eq_true (by first | (with_reducible assumption) | assumption)); have HP155 := Kd.R_putg HO_315002.out (x12_69 : Int) true) | ((with_reducible refine gate_store (t := 4) (p := 146) rfl ?_); refine store_event (t := 4) (p := 146) (v := ?vo_w156) (w1 := (w153.setCell ⟨go142, (x12_69 : Int).toNat, none⟩ (.bool true))) ?hg ?ho ?hn ?hr ?_; (case ho => rfl); (case hg => rfl); (case hn => rfl); (case hr => first | (go_simp; done) | (go_simp; rfl)); intro w156 hw; have hg : w153.grownBy w156 (some go142) := (by rw [hw]; exact HP155.2); have hp_ : Kd.R Kd.bool 4 w156 w.heap.size (fun _ => True) (.slice (some ⟨go142, 0, none⟩) x315002_2.length co78) y336 := (by rw [hw, Ny336.out]; exact HP155.1); clear HP155; have n0_ := Aside0.mk (Kd.R_over' (v := (.slice (some ⟨go142, 0, none⟩) x315002_2.length co78)) (by (with_reducible repeat (first | apply Kd.R_alloc | apply Kd.R_drewN | apply Kd.R_drew)); exact HO_315000.out) (Kd.R_typed HO_315002.out) (by decide) hg); have n1_ := Aside0.mk (Kd.R_over' (v := (.slice (some ⟨go142, 0, none⟩) x315002_2.length co78)) (by (with_reducible repeat (first | apply Kd.R_alloc | apply Kd.R_drewN | apply Kd.R_drew)); exact HO_315001.out) (Kd.R_typed HO_315002.out) (by decide) hg); have n2_ := Aside0.mk (hp_); have n3_ := Aside0.mk (blk_grown (g := gb310) (o := .cells #[.slice none 0 0, .slice none 0 0, .slice none 0 0] 64 (0, 0)) (by (with_reducible repeat (first | refine blk_drewN ?_ _ | refine blk_drew ?_ | refine blk_alloc ?_ _)); exact BK310.out) hg (Kd.R_ne HO_315002.out BK310.out (by decide))); have n4_ := Aside0.mk (blk_grown (g := gb314) (o := .cells #[.slice (some ⟨go139, 0, none⟩) x315000_2.length co76, .slice (some ⟨go89, 0, none⟩) x315001_2.length co77, .slice (some ⟨go142, 0, none⟩) x315002_2.length co78] 64 (0, 0)) (by (with_reducible repeat (first | refine blk_drewN ?_ _ | refine blk_drew ?_ | refine blk_alloc ?_ _)); exact BK314.out) hg (Kd.R_ne HO_315002.out BK314.out (by decide))); have n5_ := Aside0.mk (blk_grown (g := gb322) (o := .cells #[.int .i64 ((rd_T45 l2 x10_2).f0), .int .i64 ((rd_T45 l2 x10_2).f1), .int .i64 ((rd_T45 l2 x10_2).f2)] 45 (0, 0)) (by (with_reducible repeat (first | refine blk_drewN ?_ _ | refine blk_drew ?_ | refine blk_alloc ?_ _)); exact BK322.out) hg (Kd.R_ne HO_315002.out BK322.out (by decide))); have n6_ := Aside0.mk ((by rw [hw]; exact below_set (HB.out) GB142.out : Below w.heap.size w w156)); clear HO_315000; clear HO_315001; clear HO_315002; clear BK310; clear BK314; clear BK322; clear HB; have HO_315000 := n0_; have HO_315001 := n1_; have HO_315002 := n2_; have BK310 := n3_; have BK314 := n4_; have BK322 := n5_; have HB := n6_; clear n0_ n1_ n2_ n3_ n4_ n5_ n6_; clear hg hw hp_))
                                                    go_roundg kj69
                                                    case measure => have := HK1.out; have := HK2.out; have := HJ25.out; have := HJ69.out; omega
                                                    case rel => exact ⟨(wrap64 (x10_2 + 1)), (y335), (y330), (y336), (.slice (some ⟨go139, 0, none⟩) x315000_2.length co76), (.slice (some ⟨go89, 0, none⟩) x315001_2.length co77), (.slice (some ⟨go142, 0, none⟩) x315002_2.length co78), (by first | rfl | (simp; done) | (simp [*]; done)), H', ⟨by have := HK1.out; have := HK2.out; have := HJ25.out; have := HJ69.out; omega⟩, ⟨by (with_reducible repeat (first | apply Kd.R_alloc | apply Kd.R_drewN | apply Kd.R_drew)); exact HO_315000.out⟩, ⟨by (with_reducible repeat (first | apply Kd.R_alloc | apply Kd.R_drewN | apply Kd.R_drew)); exact Kd.R_mono HO_315001.out (fun _ hk => hk.2)⟩, ⟨by (with_reducible repeat (first | apply Kd.R_alloc | apply Kd.R_drewN | apply Kd.R_drew)); exact HO_315002.out⟩, ⟨by (with_reducible repeat (first | refine blk_drewN ?_ _ | refine blk_drew ?_ | refine blk_alloc ?_ _)); exact BK310.out⟩, ⟨by (with_reducible repeat (first | refine blk_drewN ?_ _ | refine blk_drew ?_ | refine blk_alloc ?_ _)); exact BK314.out⟩, ⟨by repeat (first | (with_reducible first | exact HB.out | apply below_alloc | apply pw_below_drewN | apply below_drew1 | refine below_set ?_ GE310.out | refine below_set ?_ GE314.out | refine below_set ?_ GE322.out) | exact HB.out)⟩⟩
                                                  · rw [if_neg c141] at H
                                                    exact absurd H (by simp)
                                                · rw [if_neg c140] at H
                                                  exact absurd H (by simp)
                                              · rw [if_neg c138] at H
                                                exact absurd H (by simp)
                                            · rw [if_neg c137] at H
                                              have c137b0 : decide (((rd_T45 l2 x10_2).f1) < ((rd_T45 l2 x10_2).f2)) = false := decide_eq_false c137
                                              clear c137
                                              have H' := Aside0.mk H
                                              clear H
                                              have hnb157 := NB314_310.out
                                              have hnc157 := NB310_314.out
                                              have hnb158 := NB314_322.out
                                              have hnc158 := NB322_314.out
                                              have hcz159_0 : wc.cell? ⟨gb314, 0, none⟩ = some (.slice Ao76 x315000_2.length co76) := (blk_cell BK314.out 0).trans rfl
                                              have hcz159_1 : wc.cell? ⟨gb314, 1, none⟩ = some (.slice (some ad328) x315001_2.length co77) := (blk_cell BK314.out 1).trans rfl
                                              have hcz159_2 : wc.cell? ⟨gb314, 2, none⟩ = some (.slice Ao78 x315002_2.length co78) := (blk_cell BK314.out 2).trans rfl
                                              have hfz159_0 := blk_frozen BK314.out 0
                                              have hfz159_1 := blk_frozen BK314.out 1
                                              have hfz159_2 := blk_frozen BK314.out 2
                                              have hnb160 := NB322_310.out
                                              have hnc160 := NB310_322.out
                                              have hcz161_0 : wc.cell? ⟨gb322, 0, none⟩ = some (.int .i64 ((rd_T45 l2 x10_2).f0)) := (blk_cell BK322.out 0).trans rfl
                                              have hcz161_1 : wc.cell? ⟨gb322, 1, none⟩ = some (.int .i64 ((rd_T45 l2 x10_2).f1)) := (blk_cell BK322.out 1).trans rfl
                                              have hcz161_2 : wc.cell? ⟨gb322, 2, none⟩ = some (.int .i64 ((rd_T45 l2 x10_2).f2)) := (blk_cell BK322.out 2).trans rfl
                                              have hfz161_0 := blk_frozen BK322.out 0
                                              have hfz161_1 := blk_frozen BK322.out 1
                                              have hfz161_2 := blk_frozen BK322.out 2
                                              have p329 : 0 ≤ (((rd_T45 l2 x10_2).f0) : Int) := of_decide_eq_true (by first | (with_reducible assumption) | assumption)
                                              have q329 : ((rd_T45 l2 x10_2).f0) < (x315001_2.length : Int) := of_decide_eq_true (by first | (with_reducible assumption) | assumption)
                                              obtain ⟨ad329, e329, hx329_0⟩ := Kd.at_int (Kd.R_reads' HO_315001.out).2.2 ((rd_T45 l2 x10_2).f0) p329 q329
                                              obtain rfl : ad328 = ad329 := (by injection e329)
                                              replace p329 := eq_true p329
                                              replace q329 := eq_true q329
                                              have p89 : 0 ≤ (((rd_T45 l2 x10_2).f0) : Int) := of_decide_eq_true (by first | (with_reducible assumption) | assumption)
                                              have q89 : (((rd_T45 l2 x10_2).f0) : Int) < ((x315001_2.length : Int) : Int) := of_decide_eq_true (by first | (with_reducible assumption) | assumption)
                                              obtain ⟨go89, co89, eo89, gb89, gl89, cl89, HG89⟩ := Kd.R_form HO_315001.out (by omega)
                                              (first | cases eo89 | (injection eo89 with ea_ en_ ec_; (first | subst ea_ | (injection ea_ with ea_; subst ea_)); subst ec_; clear en_))
                                              have GB89 := Aside0.mk gb89
                                              have GG89 := Aside0.mk HG89
                                              clear gb89 gl89 HG89
                                              (first | simp only [add_plain] at hx329_0 | skip)
                                              obtain ⟨hx89_0, hf89_0⟩ := Kd.R_celln 0 HO_315001.out (((rd_T45 l2 x10_2).f0) : Int) p89 q89
                                              replace p89 := eq_true p89
                                              replace q89 := eq_true q89
                                              have HP162 := Kd.R_putg HO_315001.out (((rd_T45 l2 x10_2).f0) : Int) (wrap64 ((rd x315001_2 ((rd_T45 l2 x10_2).f0)) + 1))
                                              go_wp2_with (first | ((with_reducible refine gate_store (t := 3) (p := 116) rfl ?_); refine store_event (t := 3) (p := 116) (v := ?vo_w163) (w1 := (wc.setCell ⟨go89, (((rd_T45 l2 x10_2).f0) : Int).toNat, none⟩ (.int .i64 (wrap64 ((rd x315001_2 ((rd_T45 l2 x10_2).f0)) + 1))))) ?hg ?ho ?hn ?hr ?_; (case ho => rfl); (case hg => rfl); (case hn => rfl); (case hr => first | (go_simp; done) | (go_simp; rfl)); intro w163 hw; have hg : wc.grownBy w163 (some go89) := (by rw [hw]; exact HP162.2); have hp_ : Kd.R (Kd.int .i64) 3 w163 w.heap.size (fun k_ => some k_ ≠ (.slice Ao76 x315000_2.length co76 : Value).ownBlock) (.slice (some ⟨go89, 0, none⟩) x315001_2.length co77) y330 := (by rw [hw, Ny330.out]; exact HP162.1); clear HP162; have n0_ := Aside0.mk (Kd.R_after (v := (.slice (some ⟨go89, 0, none⟩) x315001_2.length co77)) (v1 := (.slice (some ⟨go89, 0, none⟩) x315001_2.length co77)) (ok := (fun _ => True)) (by (with_reducible repeat (first | apply Kd.R_alloc | apply Kd.R_drewN | apply Kd.R_drew)); exact Kd.R_mono HO_315000.out (fun _ hk => ⟨trivial, hk⟩)) hg (.inl rfl)); have n1_ := Aside0.mk (hp_); have n2_ := Aside0.mk (Kd.R_over' (v := (.slice (some ⟨go89, 0, none⟩) x315001_2.length co77)) (by (with_reducible repeat (first | apply Kd.R_alloc | apply Kd.R_drewN | apply Kd.R_drew)); exact HO_315002.out) (Kd.R_typed HO_315001.out) (by decide) hg); have n3_ := Aside0.mk (blk_grown (g := gb310) (o := .cells #[.slice none 0 0, .slice none 0 0, .slice none 0 0] 64 (0, 0)) (by (with_reducible repeat (first | refine blk_drewN ?_ _ | refine blk_drew ?_ | refine blk_alloc ?_ _)); exact BK310.out) hg (Kd.R_ne HO_315001.out BK310.out (by decide))); have n4_ := Aside0.mk (blk_grown (g := gb314) (o := .cells #[.slice Ao76 x315000_2.length co76, .slice (some ⟨go89, 0, none⟩) x315001_2.length co77, .slice Ao78 x315002_2.length co78] 64 (0, 0)) (by (with_reducible repeat (first | refine blk_drewN ?_ _ | refine blk_drew ?_ | refine blk_alloc ?_ _)); exact BK314.out) hg (Kd.R_ne HO_315001.out BK314.out (by decide))); have n5_ := Aside0.mk (blk_grown (g := gb322) (o := .cells #[.int .i64 ((rd_T45 l2 x10_2).f0), .int .i64 ((rd_T45 l2 x10_2).f1), .int .i64 ((rd_T45 l2 x10_2).f2)] 45 (0, 0)) (by (with_reducible repeat (first | refine blk_drewN ?_ _ | refine blk_drew ?_ | refine blk_alloc ?_ _)); exact BK322.out) hg (Kd.R_ne HO_315001.out BK322.out (by decide))); have n6_ := Aside0.mk ((by rw [hw]; exact below_set (HB.out) GB89.out : Below w.heap.size w w163)); clear HO_315000; clear HO_315001; clear HO_315002; clear BK310; clear BK314; clear BK322; clear HB; have HO_315000 := n0_; have HO_315001 := n1_; have HO_315002 := n2_; have BK310 := n3_; have BK314 := n4_; have BK322 := n5_; have HB := n6_; clear n0_ n1_ n2_ n3_ n4_ n5_ n6_; clear hg hw hp_; have hcz164_0 : w163.cell? ⟨gb322, 0, none⟩ = some (.int .i64 ((rd_T45 l2 x10_2).f0)) := (blk_cell BK322.out 0).trans rfl; have hcz164_1 : w163.cell? ⟨gb322, 1, none⟩ = some (.int .i64 ((rd_T45 l2 x10_2).f1)) := (blk_cell BK322.out 1).trans rfl; have hcz164_2 : w163.cell? ⟨gb322, 2, none⟩ = some (.int .i64 ((rd_T45 l2 x10_2).f2)) := (blk_cell BK322.out 2).trans rfl; have hfz164_0 := blk_frozen BK322.out 0; have hfz164_1 := blk_frozen BK322.out 1; have hfz164_2 := blk_frozen BK322.out 2))
                                              go_roundg kj69
                                              case measure => have := HK1.out; have := HK2.out; have := HJ25.out; have := HJ69.out; omega
                                              case rel => exact ⟨(wrap64 (x10_2 + 1)), (x315000_2), (y330), (x315002_2), (.slice Ao76 x315000_2.length co76), (.slice (some ⟨go89, 0, none⟩) x315001_2.length co77), (.slice Ao78 x315002_2.length co78), (by first | rfl | (simp; done) | (simp [*]; done)), H', ⟨by have := HK1.out; have := HK2.out; have := HJ25.out; have := HJ69.out; omega⟩, ⟨by (with_reducible repeat (first | apply Kd.R_alloc | apply Kd.R_drewN | apply Kd.R_drew)); exact Kd.R_mono HO_315000.out (fun _ hk => hk.2)⟩, ⟨by (with_reducible repeat (first | apply Kd.R_alloc | apply Kd.R_drewN | apply Kd.R_drew)); exact HO_315001.out⟩, ⟨by (with_reducible repeat (first | apply Kd.R_alloc | apply Kd.R_drewN | apply Kd.R_drew)); exact HO_315002.out⟩, ⟨by (with_reducible repeat (first | refine blk_drewN ?_ _ | refine blk_drew ?_ | refine blk_alloc ?_ _)); exact BK310.out⟩, ⟨by (with_reducible repeat (first | refine blk_drewN ?_ _ | refine blk_drew ?_ | refine blk_alloc ?_ _)); exact BK314.out⟩, ⟨by repeat (first | (with_reducible first | exact HB.out | apply below_alloc | apply pw_below_drewN | apply below_drew1 | refine below_set ?_ GE310.out | refine below_set ?_ GE314.out | refine below_set ?_ GE322.out) | exact HB.out)⟩⟩
                                        · rw [if_neg c88] at H
                                          exact absurd H (by simp)
                                      · rw [if_neg c87] at H
                                        exact absurd H (by simp)
                                · rw [if_neg c69] at H
                                  exact absurd H (by simp)
                              · rw [if_neg c66] at H
                                exact absurd H (by simp)
                            · rw [if_neg c65] at H
                              exact absurd H (by simp)
                          · replace c64 := Bool.eq_false_iff.mpr c64
                            subst c64
                            have H1 : (some (x315000_2, x315001_2, x315002_2, false)) = some (r1, r2, r3, r4) := by rw [if_neg (show ¬ (false = true) by decide)] at H; exact H
                            clear H
                            have H := H1
                            clear H1
                            simp only [Option.some.injEq, Prod.mk.injEq] at H
                            obtain ⟨rfl, rfl, rfl, rfl⟩ := H
                            have hnb165 := NB314_310.out
                            have hnc165 := NB310_314.out
                            have hnb166 := NB314_322.out
                            have hnc166 := NB322_314.out
                            have hcz167_0 : wc.cell? ⟨gb314, 0, none⟩ = some (u315000) := (blk_cell BK314.out 0).trans rfl
                            have hcz167_1 : wc.cell? ⟨gb314, 1, none⟩ = some (u315001) := (blk_cell BK314.out 1).trans rfl
                            have hcz167_2 : wc.cell? ⟨gb314, 2, none⟩ = some (u315002) := (blk_cell BK314.out 2).trans rfl
                            have hfz167_0 := blk_frozen BK314.out 0
                            have hfz167_1 := blk_frozen BK314.out 1
                            have hfz167_2 := blk_frozen BK314.out 2
                            have hnb168 := NB322_310.out
                            have hnc168 := NB310_322.out
                            have hcz169_0 : wc.cell? ⟨gb322, 0, none⟩ = some (.int .i64 ((rd_T45 l2 x10_2).f0)) := (blk_cell BK322.out 0).trans rfl
                            have hcz169_1 : wc.cell? ⟨gb322, 1, none⟩ = some (.int .i64 ((rd_T45 l2 x10_2).f1)) := (blk_cell BK322.out 1).trans rfl
                            have hcz169_2 : wc.cell? ⟨gb322, 2, none⟩ = some (.int .i64 ((rd_T45 l2 x10_2).f2)) := (blk_cell BK322.out 2).trans rfl
                            have hfz169_0 := blk_frozen BK322.out 0
                            have hfz169_1 := blk_frozen BK322.out 1
                            have hfz169_2 := blk_frozen BK322.out 2
                            obtain ⟨Ao170, co170, eo170⟩ := Kd.R_slice HO_315000.out
                            subst eo170
                            obtain ⟨Ao171, co171, eo171⟩ := Kd.R_slice HO_315001.out
                            subst eo171
                            obtain ⟨Ao172, co172, eo172⟩ := Kd.R_slice HO_315002.out
                            subst eo172
                            go_wp2_with (first | ((with_reducible refine gate_callee (f := 32) rfl ?_); refine goesL_ (some 78) rfl rfl Try.func32 (by kernel_rfl) rfl #[.slice A1 l1.length c1, .agg #[.slice Ao170 x315000_2.length co170, .slice Ao171 x315001_2.length co171, .slice Ao172 x315002_2.length co172], .int .i64 ((rd_T45 l2 x10_2).f0)] rfl (by (try simp only [List.map_toArray, List.map_cons, List.map_nil]); first | done | rfl | (simp only [List.length_drop, List.length_take]; rfl)) ?_; (with_reducible refine (fastiref23_ready.calls _ _ l1 _ _ x315000_2 _ _ x315001_2 _ _ x315002_2 ((rd_T45 l2 x10_2).f0) false _ ?side1 ?side2 ?side3 ?side4 ?side5 ?side6 ?side7 ?side8 A63.out).mono ?_); (case side1 => repeat (first | exact (Kd.C_below HR1.out HB.out) | (with_reducible refine Kd.C_alloc ?_ _) | (with_reducible refine Kd.C_drewN ?_ _) | (with_reducible refine Kd.C_drew ?_))); (case side2 => exact HC1.out); (case side3 => repeat (first | exact (Kd.R_reads' HO_315000.out).2.2 | (with_reducible refine Kd.C_alloc ?_ _) | (with_reducible refine Kd.C_drewN ?_ _) | (with_reducible refine Kd.C_drew ?_))); (case side4 => exact (Kd.R_reads' HO_315000.out).2.1); (case side5 => repeat (first | exact (Kd.R_reads' HO_315001.out).2.2 | (with_reducible refine Kd.C_alloc ?_ _) | (with_reducible refine Kd.C_drewN ?_ _) | (with_reducible refine Kd.C_drew ?_))); (case side6 => exact (Kd.R_reads' HO_315001.out).2.1); (case side7 => repeat (first | exact (Kd.R_reads' HO_315002.out).2.2 | (with_reducible refine Kd.C_alloc ?_ _) | (with_reducible refine Kd.C_drewN ?_ _) | (with_reducible refine Kd.C_drew ?_))); (case side8 => exact (Kd.R_reads' HO_315002.out).2.1); rintro e w173 ⟨rfl, hb⟩; refine ⟨_, rfl, ?_⟩; have n0_ := Aside0.mk (Kd.R_below (by (with_reducible repeat (first | apply Kd.R_alloc | apply Kd.R_drewN | apply Kd.R_drew)); exact HO_315000.out) hb); have n1_ := Aside0.mk (Kd.R_below (by (with_reducible repeat (first | apply Kd.R_alloc | apply Kd.R_drewN | apply Kd.R_drew)); exact HO_315001.out) hb); have n2_ := Aside0.mk (Kd.R_below (by (with_reducible repeat (first | apply Kd.R_alloc | apply Kd.R_drewN | apply Kd.R_drew)); exact HO_315002.out) hb); have n3_ := Aside0.mk (blk_below (g := gb310) (o := .cells #[.slice none 0 0, .slice none 0 0, .slice none 0 0] 64 (0, 0)) (by (with_reducible repeat (first | refine blk_drewN ?_ _ | refine blk_drew ?_ | refine blk_alloc ?_ _)); exact BK310.out) hb); have n4_ := Aside0.mk (blk_below (g := gb314) (o := .cells #[.slice Ao170 x315000_2.length co170, .slice Ao171 x315001_2.length co171, .slice Ao172 x315002_2.length co172] 64 (0, 0)) (by (with_reducible repeat (first | refine blk_drewN ?_ _ | refine blk_drew ?_ | refine blk_alloc ?_ _)); exact BK314.out) hb); have n5_ := Aside0.mk (blk_below (g := gb322) (o := .cells #[.int .i64 ((rd_T45 l2 x10_2).f0), .int .i64 ((rd_T45 l2 x10_2).f1), .int .i64 ((rd_T45 l2 x10_2).f2)] 45 (0, 0)) (by (with_reducible repeat (first | refine blk_drewN ?_ _ | refine blk_drew ?_ | refine blk_alloc ?_ _)); exact BK322.out) hb); have n6_ := Aside0.mk (below_step (by repeat (first | (with_reducible first | exact HB.out | apply below_alloc | apply pw_below_drewN | apply below_drew1 | refine below_set ?_ GE310.out | refine below_set ?_ GE314.out | refine below_set ?_ GE322.out) | exact HB.out)) hb); clear HO_315000; clear HO_315001; clear HO_315002; clear BK310; clear BK314; clear BK322; clear HB; have HO_315000 := n0_; have HO_315001 := n1_; have HO_315002 := n2_; have BK310 := n3_; have BK314 := n4_; have BK322 := n5_; have HB := n6_; clear n0_ n1_ n2_ n3_ n4_ n5_ n6_; (try clear hb); (try clear hb2); (try clear hk); (try clear hi); have hcz174_0 : w173.cell? ⟨gb314, 0, none⟩ = some (.slice Ao170 x315000_2.length co170) := (blk_cell BK314.out 0).trans rfl; have hcz174_1 : w173.cell? ⟨gb314, 1, none⟩ = some (.slice Ao171 x315001_2.length co171) := (blk_cell BK314.out 1).trans rfl; have hcz174_2 : w173.cell? ⟨gb314, 2, none⟩ = some (.slice Ao172 x315002_2.length co172) := (blk_cell BK314.out 2).trans rfl; have hfz174_0 := blk_frozen BK314.out 0; have hfz174_1 := blk_frozen BK314.out 1; have hfz174_2 := blk_frozen BK314.out 2; have hcz175_0 : w173.cell? ⟨gb310, 0, none⟩ = some (.slice none 0 0) := (blk_cell BK310.out 0).trans rfl; have hcz175_1 : w173.cell? ⟨gb310, 1, none⟩ = some (.slice none 0 0) := (blk_cell BK310.out 1).trans rfl; have hcz175_2 : w173.cell? ⟨gb310, 2, none⟩ = some (.slice none 0 0) := (blk_cell BK310.out 2).trans rfl; have hfz175_0 := blk_frozen BK310.out 0; have hfz175_1 := blk_frozen BK310.out 1; have hfz175_2 := blk_frozen BK310.out 2))
                            refine bodyPost_ret (results_ct rfl _ _ gb310 64 #[.slice Ao170 x315000_2.length co170, .slice Ao171 x315001_2.length co171, .slice Ao172 x315002_2.length co172] (0, 0) _ rfl (by (with_reducible repeat (first | refine blk_drewN ?_ _ | refine blk_drew ?_ | refine blk_alloc ?_ _)); refine blk_put (cs := #[.slice Ao170 x315000_2.length co170, .slice Ao171 x315001_2.length co171, .slice none 0 0]) ?_ 2 _ rfl; (with_reducible repeat (first | refine blk_drewN ?_ _ | refine blk_drew ?_ | refine blk_alloc ?_ _)); refine blk_put (cs := #[.slice Ao170 x315000_2.length co170, .slice none 0 0, .slice none 0 0]) ?_ 1 _ rfl; (with_reducible repeat (first | refine blk_drewN ?_ _ | refine blk_drew ?_ | refine blk_alloc ?_ _)); refine blk_put (cs := #[.slice none 0 0, .slice none 0 0, .slice none 0 0]) ?_ 0 _ rfl; (with_reducible repeat (first | refine blk_drewN ?_ _ | refine blk_drew ?_ | refine blk_alloc ?_ _)); exact BK310.out) Try.underlying64 rfl (by kernel_rfl)) rfl ?_
                            exact ⟨_, _, _, by first | rfl | (simp [errW_none, errW_some] <;> rfl) | (simp [*, errW_none, errW_some] <;> rfl), by (with_reducible repeat (first | apply Kd.R_alloc | apply Kd.R_drewN | apply Kd.R_drew)); exact Kd.R_mono (Kd.R_far (p := ⟨gb310, 2, none⟩) (Kd.R_far (p := ⟨gb310, 1, none⟩) (Kd.R_far (p := ⟨gb310, 0, none⟩) (Kd.R_types HO_315000.out BK310.out (by decide)) (fun _ hk => hk.2) (.slice Ao170 x315000_2.length co170)) (fun _ hk => hk.2) (.slice Ao171 x315001_2.length co171)) (fun _ hk => hk.2) (.slice Ao172 x315002_2.length co172)) (fun _ hk => hk.1), by (with_reducible repeat (first | apply Kd.R_alloc | apply Kd.R_drewN | apply Kd.R_drew)); exact Kd.R_mono (Kd.R_far (p := ⟨gb310, 2, none⟩) (Kd.R_far (p := ⟨gb310, 1, none⟩) (Kd.R_far (p := ⟨gb310, 0, none⟩) (Kd.R_types HO_315001.out BK310.out (by decide)) (fun _ hk => hk.2) (.slice Ao170 x315000_2.length co170)) (fun _ hk => hk.2) (.slice Ao171 x315001_2.length co171)) (fun _ hk => hk.2) (.slice Ao172 x315002_2.length co172)) (fun _ hk => hk.1), by (with_reducible repeat (first | apply Kd.R_alloc | apply Kd.R_drewN | apply Kd.R_drew)); exact Kd.R_mono (Kd.R_far (p := ⟨gb310, 2, none⟩) (Kd.R_far (p := ⟨gb310, 1, none⟩) (Kd.R_far (p := ⟨gb310, 0, none⟩) (Kd.R_types HO_315002.out BK310.out (by decide)) (fun _ hk => hk.2) (.slice Ao170 x315000_2.length co170)) (fun _ hk => hk.2) (.slice Ao171 x315001_2.length co171)) (fun _ hk => hk.2) (.slice Ao172 x315002_2.length co172)) (fun _ hk => trivial), by repeat (first | (with_reducible first | exact HB.out | apply below_alloc | apply pw_below_drewN | apply below_drew1 | refine below_set ?_ GE310.out | refine below_set ?_ GE314.out | refine below_set ?_ GE322.out) | exact HB.out)⟩
                  · rw [if_neg c25] at H
                    exact absurd H (by simp)
                · rw [if_neg c24] at H
                  have c24b0 : decide (x10_2 < (l2.length : Int)) = false := decide_eq_false c24
                  clear c24
                  simp only [Option.some.injEq, Prod.mk.injEq] at H
                  obtain ⟨rfl, rfl, rfl, rfl⟩ := H
                  have hnb176 := NB314_310.out
                  have hnc176 := NB310_314.out
                  have hcz177_0 : wr.cell? ⟨gb314, 0, none⟩ = some (u315000) := (blk_cell BK314.out 0).trans rfl
                  have hcz177_1 : wr.cell? ⟨gb314, 1, none⟩ = some (u315001) := (blk_cell BK314.out 1).trans rfl
                  have hcz177_2 : wr.cell? ⟨gb314, 2, none⟩ = some (u315002) := (blk_cell BK314.out 2).trans rfl
                  have hfz177_0 := blk_frozen BK314.out 0
                  have hfz177_1 := blk_frozen BK314.out 1
                  have hfz177_2 := blk_frozen BK314.out 2
                  obtain ⟨Ao178, co178, eo178⟩ := Kd.R_slice HO_315000.out
                  subst eo178
                  have hcz179_0 : wr.cell? ⟨gb310, 0, none⟩ = some (.slice none 0 0) := (blk_cell BK310.out 0).trans rfl
                  have hcz179_1 : wr.cell? ⟨gb310, 1, none⟩ = some (.slice none 0 0) := (blk_cell BK310.out 1).trans rfl
                  have hcz179_2 : wr.cell? ⟨gb310, 2, none⟩ = some (.slice none 0 0) := (blk_cell BK310.out 2).trans rfl
                  have hfz179_0 := blk_frozen BK310.out 0
                  have hfz179_1 := blk_frozen BK310.out 1
                  have hfz179_2 := blk_frozen BK310.out 2
                  obtain ⟨Ao180, co180, eo180⟩ := Kd.R_slice HO_315001.out
                  subst eo180
                  obtain ⟨Ao181, co181, eo181⟩ := Kd.R_slice HO_315002.out
                  subst eo181
                  go_wp2
                  refine bodyPost_ret (results_ct rfl _ _ gb310 64 #[.slice Ao178 x315000_2.length co178, .slice Ao180 x315001_2.length co180, .slice Ao181 x315002_2.length co181] (0, 0) _ rfl (by (with_reducible repeat (first | refine blk_drewN ?_ _ | refine blk_drew ?_ | refine blk_alloc ?_ _)); refine blk_put (cs := #[.slice Ao178 x315000_2.length co178, .slice Ao180 x315001_2.length co180, .slice none 0 0]) ?_ 2 _ rfl; (with_reducible repeat (first | refine blk_drewN ?_ _ | refine blk_drew ?_ | refine blk_alloc ?_ _)); refine blk_put (cs := #[.slice Ao178 x315000_2.length co178, .slice none 0 0, .slice none 0 0]) ?_ 1 _ rfl; (with_reducible repeat (first | refine blk_drewN ?_ _ | refine blk_drew ?_ | refine blk_alloc ?_ _)); refine blk_put (cs := #[.slice none 0 0, .slice none 0 0, .slice none 0 0]) ?_ 0 _ rfl; (with_reducible repeat (first | refine blk_drewN ?_ _ | refine blk_drew ?_ | refine blk_alloc ?_ _)); exact BK310.out) Try.underlying64 rfl (by kernel_rfl)) rfl ?_
                  exact ⟨_, _, _, by first | rfl | (simp [errW_none, errW_some] <;> rfl) | (simp [*, errW_none, errW_some] <;> rfl), by (with_reducible repeat (first | apply Kd.R_alloc | apply Kd.R_drewN | apply Kd.R_drew)); exact Kd.R_mono (Kd.R_far (p := ⟨gb310, 2, none⟩) (Kd.R_far (p := ⟨gb310, 1, none⟩) (Kd.R_far (p := ⟨gb310, 0, none⟩) (Kd.R_types HO_315000.out BK310.out (by decide)) (fun _ hk => hk.2) (.slice Ao178 x315000_2.length co178)) (fun _ hk => hk.2) (.slice Ao180 x315001_2.length co180)) (fun _ hk => hk.2) (.slice Ao181 x315002_2.length co181)) (fun _ hk => hk.1), by (with_reducible repeat (first | apply Kd.R_alloc | apply Kd.R_drewN | apply Kd.R_drew)); exact Kd.R_mono (Kd.R_far (p := ⟨gb310, 2, none⟩) (Kd.R_far (p := ⟨gb310, 1, none⟩) (Kd.R_far (p := ⟨gb310, 0, none⟩) (Kd.R_types HO_315001.out BK310.out (by decide)) (fun _ hk => hk.2) (.slice Ao178 x315000_2.length co178)) (fun _ hk => hk.2) (.slice Ao180 x315001_2.length co180)) (fun _ hk => hk.2) (.slice Ao181 x315002_2.length co181)) (fun _ hk => hk.1), by (with_reducible repeat (first | apply Kd.R_alloc | apply Kd.R_drewN | apply Kd.R_drew)); exact Kd.R_mono (Kd.R_far (p := ⟨gb310, 2, none⟩) (Kd.R_far (p := ⟨gb310, 1, none⟩) (Kd.R_far (p := ⟨gb310, 0, none⟩) (Kd.R_types HO_315002.out BK310.out (by decide)) (fun _ hk => hk.2) (.slice Ao178 x315000_2.length co178)) (fun _ hk => hk.2) (.slice Ao180 x315001_2.length co180)) (fun _ hk => hk.2) (.slice Ao181 x315002_2.length co181)) (fun _ hk => trivial), by repeat (first | (with_reducible first | exact HB.out | apply below_alloc | apply pw_below_drewN | apply below_drew1 | refine below_set ?_ GE310.out | refine below_set ?_ GE314.out) | exact HB.out)⟩
    · rw [if_neg c5] at H
      exact absurd H (by simp)
  · rw [if_neg c4] at H
    exact absurd H (by simp)

end Go.Proofs.Ytaadhandkljcdaa.X
