/- Proved here: for functions of the program and of the reference, what each call returns (theorems '.calls'), under the conditions that each theorem names. Printed by this project's own driver over the kit's printer; parts marked EXT are written by hand. Lean checks it. -/
import Derived.Test.YtaagpnbnjdpjgaaX0
import Derived.Test.YtaagpnbnjdpjgaaX4
import Derived.Test.YtaagpnbnjdpjgaaX6
import Derived.Test.YtaagpnbnjdpjgaaX8
import Derived.Test.YtaagpnbnjdpjgaaX9
import Derived.Test.YtaagpnbnjdpjgaaX10
namespace Go.Proofs.Ytaagpnbnjdpjgaa.X
open Go.RowKit Go.Proofs.YtaagpnbnjdpjgaaW.PrintWords Go.Proofs.YtaagpnbnjdpjgaaW.PrintLast Go.Proofs.YtaagpnbnjdpjgaaW.PrintMore
attribute [local go_sem] max2_int min2_int max_two min_two max_three min_three max_four min_four   -- for this text's walks alone
set_option linter.unusedVariables false
set_option linter.unusedSimpArgs false

/-! ### fastilaw32_RoundsMost: function 7 -/
mutual
def fastilaw32_RoundsMost.j0 : Nat → List Int → Int → List Int → Bool → Option (Bool)
  | 0, _, _, _, _ => none
  | k + 1, x0, x1, x2, x36 => if x36 = true then (some true) else ((rounds_Most.f x0 x1).bind fun bt289 => (if bt289.2 = 0 then (if bt289.1 < 1 then (fastilaw32_RoundsMost.j1 k x0 x1 x2 bt289.1 true) else (fastilaw32_RoundsMost.j1 k x0 x1 x2 bt289.1 (decide (bt289.1 > (x0.length : Int))))) else (fastilaw32_RoundsMost.j1 k x0 x1 x2 bt289.1 true)))
def fastilaw32_RoundsMost.j1 : Nat → List Int → Int → List Int → Int → Bool → Option (Bool)
  | 0, _, _, _, _, _ => none
  | k + 1, x0, x1, x2, x7, x54 => if x54 = true then (some false) else (fastilaw32_RoundsMost.l0 k x0 x1 x7 ([] : List Int) x2 (x2.length : Int) 0)
def fastilaw32_RoundsMost.l0 : Nat → List Int → Int → Int → List Int → List Int → Int → Int → Option (Bool)
  | 0, _, _, _, _, _, _, _ => none
  | k + 1, x0, x1, x7, x9, x55, x56, x57 => if x57 < x56 then (if 0 ≤ x57 then (if x57 < (x55.length : Int) then (if (x0.length : Int) = 0 then (none) else (if 0 ≤ (Int.tmod (wrap64 (rd x55 x57)) (x0.length : Int)) then (if (Int.tmod (wrap64 (rd x55 x57)) (x0.length : Int)) < (x0.length : Int) then (fastilaw32_RoundsMost.l1 k x0 x1 x7 x9 (rd x0 (Int.tmod (wrap64 (rd x55 x57)) (x0.length : Int))) true x55 x56 x57 x9 (x9.length : Int) 0) else (none)) else (none))) else (none)) else (none)) else (if (x9.length : Int) > x7 then (some false) else (if x7 > 39 then (some true) else (if 0 ≤ (wrap64 (x7 + 1)) then (if (wrap64 (x7 + 1) : Int).toNat ≤ 11728124029610 then ((some (List.replicate (wrap64 (x7 + 1) : Int).toNat [] : List (List Int))).bind fun y297 => (fastilaw32_RoundsMost.l2 k x0 x1 x7 y297 (y297.length : Int) 0)) else (none)) else (none))))
def fastilaw32_RoundsMost.l1 : Nat → List Int → Int → Int → List Int → Int → Bool → List Int → Int → Int → List Int → Int → Int → Option (Bool)
  | 0, _, _, _, _, _, _, _, _, _, _, _, _ => none
  | k + 1, x0, x1, x7, x9, x12, x13, x55, x56, x57, x69, x70, x71 => if x71 < x70 then (if 0 ≤ x71 then (if x71 < (x69.length : Int) then (if x13 = true then (fastilaw32_RoundsMost.l1 k x0 x1 x7 x9 x12 (decide ((mx (wrap64 ((rd x69 x71) - x12)) (wrap64 (x12 - (rd x69 x71)))) ≥ x1)) x55 x56 x57 x69 x70 (wrap64 (x71 + 1))) else (fastilaw32_RoundsMost.l1 k x0 x1 x7 x9 x12 false x55 x56 x57 x69 x70 (wrap64 (x71 + 1)))) else (none)) else (none)) else (if x13 = true then (if x9.length < 17592186044416 then (fastilaw32_RoundsMost.l0 k x0 x1 x7 (x9 ++ [x12]) x55 x56 (wrap64 (x57 + 1))) else (none)) else (fastilaw32_RoundsMost.l0 k x0 x1 x7 x9 x55 x56 (wrap64 (x57 + 1))))
def fastilaw32_RoundsMost.l2 : Nat → List Int → Int → Int → List (List Int) → Int → Int → Option (Bool)
  | 0, _, _, _, _, _, _ => none
  | k + 1, x0, x1, x7, x16, x104, x105 => if x105 < x104 then (if 0 ≤ (x0.length : Int) then (if ((x0.length : Int) : Int).toNat ≤ 35184372088832 then (if 0 ≤ x105 then (if x105 < (x16.length : Int) then (fastilaw32_RoundsMost.l2 k x0 x1 x7 (x16.set (x105 : Int).toNat (List.replicate ((x0.length : Int) : Int).toNat 0)) x104 (wrap64 (x105 + 1))) else (none)) else (none)) else (none)) else (none)) else ((rounds_Place.f x0 x1 x16).bind fun bt304 => (if 0 ≤ x7 then (if x7 ≤ (x16.length : Int) then ((rounds_Place.f x0 x1 (x16.take (x7 : Int).toNat)).bind fun bt314 => (if bt304.2.2.2 = 0 then (if bt314.2.2.2 = 0 then (if bt304.2.2.1 = true then (some false) else (if bt314.2.2.1 = true then (if bt314.2.1 = 0 then (some ((bt314.1.length : Int) == x7)) else (some false)) else (some false))) else (some false)) else (some false))) else (none)) else (none)))
end
def fastilaw32_RoundsMost.f (k : Nat) (l0 : List Int) (a1 : Int) (l2 : List Int) : Option (Bool) := (fastilaw32_sane.f).bind fun t286 => (if t286 = true then ((fastiref32_Few.f k l0 ([] : List (List Int))).bind fun t287 => (if t287 = true then ((fastiref32_Check.f k l0 a1 ([] : List (List Int))).bind fun t288 => (fastilaw32_RoundsMost.j0 k l0 a1 l2 (t288 != 0))) else (fastilaw32_RoundsMost.j0 k l0 a1 l2 true))) else (some false))
theorem fastilaw32_RoundsMost.mono_l : ∀ k, (∀ y0 y1 y2 y3, LeO (fastilaw32_RoundsMost.j0 k y0 y1 y2 y3) (fastilaw32_RoundsMost.j0 (k + 1) y0 y1 y2 y3)) ∧ (∀ y0 y1 y2 y3 y4, LeO (fastilaw32_RoundsMost.j1 k y0 y1 y2 y3 y4) (fastilaw32_RoundsMost.j1 (k + 1) y0 y1 y2 y3 y4)) ∧ (∀ y0 y1 y2 y3 y4 y5 y6, LeO (fastilaw32_RoundsMost.l0 k y0 y1 y2 y3 y4 y5 y6) (fastilaw32_RoundsMost.l0 (k + 1) y0 y1 y2 y3 y4 y5 y6)) ∧ (∀ y0 y1 y2 y3 y4 y5 y6 y7 y8 y9 y10 y11, LeO (fastilaw32_RoundsMost.l1 k y0 y1 y2 y3 y4 y5 y6 y7 y8 y9 y10 y11) (fastilaw32_RoundsMost.l1 (k + 1) y0 y1 y2 y3 y4 y5 y6 y7 y8 y9 y10 y11)) ∧ (∀ y0 y1 y2 y3 y4 y5, LeO (fastilaw32_RoundsMost.l2 k y0 y1 y2 y3 y4 y5) (fastilaw32_RoundsMost.l2 (k + 1) y0 y1 y2 y3 y4 y5))
  | 0 => ⟨fun _ _ _ _ r h => by simp [fastilaw32_RoundsMost.j0] at h, fun _ _ _ _ _ r h => by simp [fastilaw32_RoundsMost.j1] at h, fun _ _ _ _ _ _ _ r h => by simp [fastilaw32_RoundsMost.l0] at h, fun _ _ _ _ _ _ _ _ _ _ _ _ r h => by simp [fastilaw32_RoundsMost.l1] at h, fun _ _ _ _ _ _ r h => by simp [fastilaw32_RoundsMost.l2] at h⟩
  | k + 1 => by
    obtain ⟨ih0, ih1, ih2, ih3, ih4⟩ := fastilaw32_RoundsMost.mono_l k
    refine ⟨?_, ?_, ?_, ?_, ?_⟩
    · intro y0 y1 y2 y3
      unfold fastilaw32_RoundsMost.j0
      repeat' first
      | (with_reducible exact ih0 _ _ _ _)
      | (with_reducible exact ih1 _ _ _ _ _)
      | (with_reducible exact ih2 _ _ _ _ _ _ _)
      | (with_reducible exact ih3 _ _ _ _ _ _ _ _ _ _ _ _)
      | (with_reducible exact ih4 _ _ _ _ _ _)
      | (with_reducible exact fastiref32_Check.mono _ _ _ _)
      | (with_reducible exact fastiref32_Few.mono _ _ _)
      | (with_reducible exact LeO.refl _)
      | (with_reducible exact LeO.none _)
      | (with_reducible refine LeO.ite ?_ ?_)
      | (with_reducible refine LeO.bind ?_ (fun _ => ?_))
      | exact ih0 _ _ _ _
      | exact ih1 _ _ _ _ _
      | exact ih2 _ _ _ _ _ _ _
      | exact ih3 _ _ _ _ _ _ _ _ _ _ _ _
      | exact ih4 _ _ _ _ _ _
      | exact fastiref32_Check.mono _ _ _ _
      | exact fastiref32_Few.mono _ _ _
      | exact LeO.none _
      | refine LeO.ite ?_ ?_
      | refine LeO.bind ?_ (fun _ => ?_)
    · intro y0 y1 y2 y3 y4
      unfold fastilaw32_RoundsMost.j1
      repeat' first
      | (with_reducible exact ih0 _ _ _ _)
      | (with_reducible exact ih1 _ _ _ _ _)
      | (with_reducible exact ih2 _ _ _ _ _ _ _)
      | (with_reducible exact ih3 _ _ _ _ _ _ _ _ _ _ _ _)
      | (with_reducible exact ih4 _ _ _ _ _ _)
      | (with_reducible exact fastiref32_Check.mono _ _ _ _)
      | (with_reducible exact fastiref32_Few.mono _ _ _)
      | (with_reducible exact LeO.refl _)
      | (with_reducible exact LeO.none _)
      | (with_reducible refine LeO.ite ?_ ?_)
      | (with_reducible refine LeO.bind ?_ (fun _ => ?_))
      | exact ih0 _ _ _ _
      | exact ih1 _ _ _ _ _
      | exact ih2 _ _ _ _ _ _ _
      | exact ih3 _ _ _ _ _ _ _ _ _ _ _ _
      | exact ih4 _ _ _ _ _ _
      | exact fastiref32_Check.mono _ _ _ _
      | exact fastiref32_Few.mono _ _ _
      | exact LeO.none _
      | refine LeO.ite ?_ ?_
      | refine LeO.bind ?_ (fun _ => ?_)
    · intro y0 y1 y2 y3 y4 y5 y6
      unfold fastilaw32_RoundsMost.l0
      repeat' first
      | (with_reducible exact ih0 _ _ _ _)
      | (with_reducible exact ih1 _ _ _ _ _)
      | (with_reducible exact ih2 _ _ _ _ _ _ _)
      | (with_reducible exact ih3 _ _ _ _ _ _ _ _ _ _ _ _)
      | (with_reducible exact ih4 _ _ _ _ _ _)
      | (with_reducible exact fastiref32_Check.mono _ _ _ _)
      | (with_reducible exact fastiref32_Few.mono _ _ _)
      | (with_reducible exact LeO.refl _)
      | (with_reducible exact LeO.none _)
      | (with_reducible refine LeO.ite ?_ ?_)
      | (with_reducible refine LeO.bind ?_ (fun _ => ?_))
      | exact ih0 _ _ _ _
      | exact ih1 _ _ _ _ _
      | exact ih2 _ _ _ _ _ _ _
      | exact ih3 _ _ _ _ _ _ _ _ _ _ _ _
      | exact ih4 _ _ _ _ _ _
      | exact fastiref32_Check.mono _ _ _ _
      | exact fastiref32_Few.mono _ _ _
      | exact LeO.none _
      | refine LeO.ite ?_ ?_
      | refine LeO.bind ?_ (fun _ => ?_)
    · intro y0 y1 y2 y3 y4 y5 y6 y7 y8 y9 y10 y11
      unfold fastilaw32_RoundsMost.l1
      repeat' first
      | (with_reducible exact ih0 _ _ _ _)
      | (with_reducible exact ih1 _ _ _ _ _)
      | (with_reducible exact ih2 _ _ _ _ _ _ _)
      | (with_reducible exact ih3 _ _ _ _ _ _ _ _ _ _ _ _)
      | (with_reducible exact ih4 _ _ _ _ _ _)
      | (with_reducible exact fastiref32_Check.mono _ _ _ _)
      | (with_reducible exact fastiref32_Few.mono _ _ _)
      | (with_reducible exact LeO.refl _)
      | (with_reducible exact LeO.none _)
      | (with_reducible refine LeO.ite ?_ ?_)
      | (with_reducible refine LeO.bind ?_ (fun _ => ?_))
      | exact ih0 _ _ _ _
      | exact ih1 _ _ _ _ _
      | exact ih2 _ _ _ _ _ _ _
      | exact ih3 _ _ _ _ _ _ _ _ _ _ _ _
      | exact ih4 _ _ _ _ _ _
      | exact fastiref32_Check.mono _ _ _ _
      | exact fastiref32_Few.mono _ _ _
      | exact LeO.none _
      | refine LeO.ite ?_ ?_
      | refine LeO.bind ?_ (fun _ => ?_)
    · intro y0 y1 y2 y3 y4 y5
      unfold fastilaw32_RoundsMost.l2
      repeat' first
      | (with_reducible exact ih0 _ _ _ _)
      | (with_reducible exact ih1 _ _ _ _ _)
      | (with_reducible exact ih2 _ _ _ _ _ _ _)
      | (with_reducible exact ih3 _ _ _ _ _ _ _ _ _ _ _ _)
      | (with_reducible exact ih4 _ _ _ _ _ _)
      | (with_reducible exact fastiref32_Check.mono _ _ _ _)
      | (with_reducible exact fastiref32_Few.mono _ _ _)
      | (with_reducible exact LeO.refl _)
      | (with_reducible exact LeO.none _)
      | (with_reducible refine LeO.ite ?_ ?_)
      | (with_reducible refine LeO.bind ?_ (fun _ => ?_))
      | exact ih0 _ _ _ _
      | exact ih1 _ _ _ _ _
      | exact ih2 _ _ _ _ _ _ _
      | exact ih3 _ _ _ _ _ _ _ _ _ _ _ _
      | exact ih4 _ _ _ _ _ _
      | exact fastiref32_Check.mono _ _ _ _
      | exact fastiref32_Few.mono _ _ _
      | exact LeO.none _
      | refine LeO.ite ?_ ?_
      | refine LeO.bind ?_ (fun _ => ?_)
theorem fastilaw32_RoundsMost.mono : ∀ a0 a1 a2 k, LeO (fastilaw32_RoundsMost.f k a0 a1 a2) (fastilaw32_RoundsMost.f (k + 1) a0 a1 a2) := by
  intro a0 a1 a2 k
  obtain ⟨ih0, ih1, ih2, ih3, ih4⟩ := fastilaw32_RoundsMost.mono_l k
  unfold fastilaw32_RoundsMost.f
  repeat' first
      | (with_reducible exact ih0 _ _ _ _)
      | (with_reducible exact ih1 _ _ _ _ _)
      | (with_reducible exact ih2 _ _ _ _ _ _ _)
      | (with_reducible exact ih3 _ _ _ _ _ _ _ _ _ _ _ _)
      | (with_reducible exact ih4 _ _ _ _ _ _)
      | (with_reducible exact fastiref32_Check.mono _ _ _ _)
      | (with_reducible exact fastiref32_Few.mono _ _ _)
      | (with_reducible exact LeO.refl _)
      | (with_reducible exact LeO.none _)
      | (with_reducible refine LeO.ite ?_ ?_)
      | (with_reducible refine LeO.bind ?_ (fun _ => ?_))
      | exact ih0 _ _ _ _
      | exact ih1 _ _ _ _ _
      | exact ih2 _ _ _ _ _ _ _
      | exact ih3 _ _ _ _ _ _ _ _ _ _ _ _
      | exact ih4 _ _ _ _ _ _
      | exact fastiref32_Check.mono _ _ _ _
      | exact fastiref32_Few.mono _ _ _
      | exact LeO.none _
      | refine LeO.ite ?_ ?_
      | refine LeO.bind ?_ (fun _ => ?_)
set_option maxHeartbeats 8000000 in
set_option maxRecDepth 100000 in
theorem fastilaw32_RoundsMost.calls (k : Nat) (A0 : Option Addr) (c0 : Nat) (l0 : List Int) (a1 : Int) (A2 : Option Addr) (c2 : Nat) (l2 : List Int) (r : Bool) (w : World) (hr0 : Kd.C (Kd.int .i64) w A0 l0.length l0) (hc0 : l0.length ≤ c0) (hr2 : Kd.C (Kd.int .u16) w A2 l2.length l2) (hc2 : l2.length ≤ c2) (h : fastilaw32_RoundsMost.f k l0 a1 l2 = some r) :
    Calls Try.prog 7 #[.slice A0 l0.length c0, .int .i64 a1, .slice A2 l2.length c2] w fun e w' => e = .returned (.bool r) ∧ Below w.heap.size w w' := by
  have HR0 := Aside0.mk hr0
  have HC0 := Aside0.mk hc0
  clear hr0 hc0
  have HR2 := Aside0.mk hr2
  have HC2 := Aside0.mk hc2
  clear hr2 hc2
  have HB := Aside0.mk (Below.refl w.heap.size w)
  have H : ((fastilaw32_sane.f).bind fun t286 => (if t286 = true then ((fastiref32_Few.f k l0 ([] : List (List Int))).bind fun t287 => (if t287 = true then ((fastiref32_Check.f k l0 a1 ([] : List (List Int))).bind fun t288 => (fastilaw32_RoundsMost.j0 k l0 a1 l2 (t288 != 0))) else (fastilaw32_RoundsMost.j0 k l0 a1 l2 true))) else (some false))) = some r := h
  clear h
  replace H := Option.bind_eq_some_iff.mp H
  obtain ⟨t286, A40, H⟩ := H
  replace H : (if t286 = true then ((fastiref32_Few.f k l0 ([] : List (List Int))).bind fun t287 => (if t287 = true then ((fastiref32_Check.f k l0 a1 ([] : List (List Int))).bind fun t288 => (fastilaw32_RoundsMost.j0 k l0 a1 l2 (t288 != 0))) else (fastilaw32_RoundsMost.j0 k l0 a1 l2 true))) else (some false)) = some r := H
  have A4 := Aside0.mk A40
  clear A40
  by_cases c5 : t286 = true
  · subst c5
    have H1 : ((fastiref32_Few.f k l0 ([] : List (List Int))).bind fun t287 => (if t287 = true then ((fastiref32_Check.f k l0 a1 ([] : List (List Int))).bind fun t288 => (fastilaw32_RoundsMost.j0 k l0 a1 l2 (t288 != 0))) else (fastilaw32_RoundsMost.j0 k l0 a1 l2 true))) = some r := by rw [if_pos rfl] at H; exact H
    clear H
    have H := H1
    clear H1
    have HC6 := Aside0.mk H
    clear H
    go_enter Try.func7, Try.ntmps7
    go_upto_region 3 with (first | ((with_reducible refine gate_callee (f := 9) rfl ?_); refine goesL_ (some 26) rfl rfl Try.func9 (by kernel_rfl) rfl #[] rfl (by (try simp only [List.map_toArray, List.map_cons, List.map_nil]); first | done | rfl | (simp only [List.length_drop, List.length_take]; rfl)) ?_; (with_reducible refine (fastilaw32_sane.calls  true _ A4.out).mono ?_); rintro e w7 ⟨rfl, hb⟩; refine ⟨_, rfl, ?_⟩; have n0_ := Aside0.mk (below_step (by repeat (first | (with_reducible first | exact HB.out | apply below_alloc | apply pw_below_drewN | apply below_drew1) | exact HB.out)) hb); clear HB; have HB := n0_; clear n0_; (try clear hb); (try clear hb2); (try clear hk); (try clear hi)))
    (try simp only [Act.put, List.setIfInBounds_toArray, List.set_cons_zero, List.set_cons_succ])
    go_cut [36] (fun v36 wc => ∃ (kq : Nat) (x36_5 : Bool), v36 = .bool x36_5 ∧ Aside0 (fastilaw32_RoundsMost.j0 kq l0 a1 l2 x36_5 = some r) ∧ Aside0 (kq ≤ k) ∧ Aside0 (Below w.heap.size w wc))
    case first =>
      have H := HC6.out
      clear HC6
      replace H := Option.bind_eq_some_iff.mp H
      obtain ⟨t287, A80, H⟩ := H
      replace H : (if t287 = true then ((fastiref32_Check.f k l0 a1 ([] : List (List Int))).bind fun t288 => (fastilaw32_RoundsMost.j0 k l0 a1 l2 (t288 != 0))) else (fastilaw32_RoundsMost.j0 k l0 a1 l2 true)) = some r := H
      have A8 := Aside0.mk A80
      clear A80
      by_cases c9 : t287 = true
      · subst c9
        have H1 : ((fastiref32_Check.f k l0 a1 ([] : List (List Int))).bind fun t288 => (fastilaw32_RoundsMost.j0 k l0 a1 l2 (t288 != 0))) = some r := by rw [if_pos rfl] at H; exact H
        clear H
        have H := H1
        clear H1
        replace H := Option.bind_eq_some_iff.mp H
        obtain ⟨t288, A100, H⟩ := H
        replace H : (fastilaw32_RoundsMost.j0 k l0 a1 l2 (t288 != 0)) = some r := H
        have A10 := Aside0.mk A100
        clear A100
        have H' := Aside0.mk H
        clear H
        go_wp2_with (first | ((with_reducible refine gate_callee (f := 10) rfl ?_); refine goesL_ (some 29) rfl rfl Try.func10 (by kernel_rfl) rfl #[.slice A0 l0.length c0, .slice none 0 0] rfl (by (try simp only [List.map_toArray, List.map_cons, List.map_nil]); first | done | rfl | (simp only [List.length_drop, List.length_take]; rfl)) ?_; (refine (fastiref32_Few.calls k _ _ l0 _ _ ([] : List (List Int)) true _ ?side1 ?side2 ?side3 ?side4 A8.out).mono ?_); (case side1 => repeat (first | exact (Kd.C_below HR0.out HB.out) | (with_reducible refine Kd.C_alloc ?_ _) | (with_reducible refine Kd.C_drewN ?_ _) | (with_reducible refine Kd.C_drew ?_))); (case side2 => exact HC0.out); (case side3 => exact Kd.C_nil _ _); (case side4 => exact Nat.le_refl _); rintro e w' ⟨rfl, ⟨nd, rfl⟩⟩; refine ⟨_, rfl, ?_⟩) | (go_at_call 18; (refine (fastiref32_Check.calls k _ _ l0 a1 _ _ ([] : List (List Int)) t288 _ ?side1 ?side2 ?side3 ?side4 A10.out).mono ?_); (case side1 => repeat (first | exact (Kd.C_below HR0.out (by repeat (first | (with_reducible first | exact HB.out | apply below_alloc | apply pw_below_drewN | apply below_drew1) | exact HB.out))) | (with_reducible refine Kd.C_alloc ?_ _) | (with_reducible refine Kd.C_drewN ?_ _) | (with_reducible refine Kd.C_drew ?_))); (case side2 => exact HC0.out); (case side3 => exact Kd.C_nil _ _); (case side4 => exact Nat.le_refl _); rintro e w' ⟨rfl, ⟨nd, rfl⟩⟩))
        go_meet
        case rel => exact ⟨_, ((t288 != 0)), (by first | rfl | (simp; done) | (simp [*]; done)), H', ⟨by first | omega | exact Nat.le_refl _⟩, ⟨by repeat (first | (with_reducible first | exact HB.out | apply below_alloc | apply pw_below_drewN | apply below_drew1) | exact HB.out)⟩⟩
      · replace c9 := Bool.eq_false_iff.mpr c9
        subst c9
        have H1 : (fastilaw32_RoundsMost.j0 k l0 a1 l2 true) = some r := by rw [if_neg (show ¬ (false = true) by decide)] at H; exact H
        clear H
        have H := H1
        clear H1
        have H' := Aside0.mk H
        clear H
        go_wp2_with (first | ((with_reducible refine gate_callee (f := 10) rfl ?_); refine goesL_ (some 29) rfl rfl Try.func10 (by kernel_rfl) rfl #[.slice A0 l0.length c0, .slice none 0 0] rfl (by (try simp only [List.map_toArray, List.map_cons, List.map_nil]); first | done | rfl | (simp only [List.length_drop, List.length_take]; rfl)) ?_; (refine (fastiref32_Few.calls k _ _ l0 _ _ ([] : List (List Int)) false _ ?side1 ?side2 ?side3 ?side4 A8.out).mono ?_); (case side1 => repeat (first | exact (Kd.C_below HR0.out HB.out) | (with_reducible refine Kd.C_alloc ?_ _) | (with_reducible refine Kd.C_drewN ?_ _) | (with_reducible refine Kd.C_drew ?_))); (case side2 => exact HC0.out); (case side3 => exact Kd.C_nil _ _); (case side4 => exact Nat.le_refl _); rintro e w' ⟨rfl, ⟨nd, rfl⟩⟩; refine ⟨_, rfl, ?_⟩))
        go_meet
        case rel => exact ⟨_, (true), (by first | rfl | (simp; done) | (simp [*]; done)), H', ⟨by first | omega | exact Nat.le_refl _⟩, ⟨by repeat (first | (with_reducible first | exact HB.out | apply below_alloc | apply pw_below_drewN | apply below_drew1) | exact HB.out)⟩⟩
    case rest =>
      clear HC6
      try clear c1
      try clear c2
      try clear p2
      try clear c5
      try clear c7
      try clear c9
      try clear c10
      obtain ⟨kq, x36_5, rfl, HA, HJ5, HB⟩ := hcut
      cases kq with
      | zero => exact absurd HA.out (by simp [fastilaw32_RoundsMost.j0])
      | succ kj5 =>
        have H := HA.out
        clear HA
        simp only [fastilaw32_RoundsMost.j0] at H
        by_cases c11 : x36_5 = true
        · subst c11
          have H1 : (some true) = some r := by rw [if_pos rfl] at H; exact H
          clear H
          have H := H1
          clear H1
          obtain rfl := Option.some.inj H
          go_wp2
          go_ret
          exact ⟨by first | rfl | (simp [errW_none, errW_some] <;> rfl) | (simp [*, errW_none, errW_some] <;> rfl), by repeat (first | (with_reducible first | exact HB.out | apply below_alloc | apply pw_below_drewN | apply below_drew1) | exact HB.out)⟩
        · replace c11 := Bool.eq_false_iff.mpr c11
          subst c11
          have H1 : ((rounds_Most.f l0 a1).bind fun bt289 => (if bt289.2 = 0 then (if bt289.1 < 1 then (fastilaw32_RoundsMost.j1 kj5 l0 a1 l2 bt289.1 true) else (fastilaw32_RoundsMost.j1 kj5 l0 a1 l2 bt289.1 (decide (bt289.1 > (l0.length : Int))))) else (fastilaw32_RoundsMost.j1 kj5 l0 a1 l2 bt289.1 true))) = some r := by rw [if_neg (show ¬ (false = true) by decide)] at H; exact H
          clear H
          have H := H1
          clear H1
          replace H := Option.bind_eq_some_iff.mp H
          obtain ⟨⟨t289, t290⟩, A120, H⟩ := H
          replace H : (if t290 = 0 then (if t289 < 1 then (fastilaw32_RoundsMost.j1 kj5 l0 a1 l2 t289 true) else (fastilaw32_RoundsMost.j1 kj5 l0 a1 l2 t289 (decide (t289 > (l0.length : Int))))) else (fastilaw32_RoundsMost.j1 kj5 l0 a1 l2 t289 true)) = some r := H
          have A12 := Aside0.mk A120
          clear A120
          have HC13 := Aside0.mk H
          clear H
          go_upto_region 6 with (first | ((with_reducible refine gate_callee (f := 11) rfl ?_); refine goesL_ (some 40) rfl rfl Try.func11 (by kernel_rfl) rfl #[.slice A0 l0.length c0, .int .i64 a1] rfl (by (try simp only [List.map_toArray, List.map_cons, List.map_nil]); first | done | rfl | (simp only [List.length_drop, List.length_take]; rfl)) ?_; (with_reducible refine (rounds_Most.calls _ _ l0 a1 t289 t290 _ ?side1 ?side2 A12.out).mono ?_); (case side1 => repeat (first | exact (Kd.C_below HR0.out HB.out) | (with_reducible refine Kd.C_alloc ?_ _) | (with_reducible refine Kd.C_drewN ?_ _) | (with_reducible refine Kd.C_drew ?_))); (case side2 => exact HC0.out); rintro e w14 ⟨rfl, hb⟩; refine ⟨_, rfl, ?_⟩; have n0_ := Aside0.mk (below_step (by repeat (first | (with_reducible first | exact HB.out | apply below_alloc | apply pw_below_drewN | apply below_drew1) | exact HB.out)) hb); clear HB; have HB := n0_; clear n0_; (try clear hb); (try clear hb2); (try clear hk); (try clear hi)))
          (try simp only [Act.put, List.setIfInBounds_toArray, List.set_cons_zero, List.set_cons_succ])
          go_cut [54] (fun v54 wc => ∃ (kq : Nat) (x54_12 : Bool), v54 = .bool x54_12 ∧ Aside0 (fastilaw32_RoundsMost.j1 kq l0 a1 l2 t289 x54_12 = some r) ∧ Aside0 (kq ≤ kj5) ∧ Aside0 (Below w.heap.size w wc))
          case first =>
            have H := HC13.out
            clear HC13
            by_cases c15 : t290 = 0
            · rw [if_pos c15] at H
              have c15b0 : (t290 == 0) = true := beq_iff_eq.mpr c15
              have c15b1 : (t290 != 0) = false := bne_eq_false_iff_eq.mpr c15
              clear c15
              (first | rw [c15b0] | (simp only [i64_w, i32_w]; rw [c15b0]) | skip)
              by_cases c16 : t289 < 1
              · rw [if_pos c16] at H
                have c16b0 : decide (t289 < 1) = true := decide_eq_true c16
                clear c16
                have H' := Aside0.mk H
                clear H
                go_wp2
                go_meet
                case rel => exact ⟨_, (true), (by first | rfl | (simp; done) | (simp [*]; done)), H', ⟨by have := HJ5.out; first | omega | exact Nat.le_refl _⟩, ⟨by repeat (first | (with_reducible first | exact HB.out | apply below_alloc | apply pw_below_drewN | apply below_drew1) | exact HB.out)⟩⟩
              · rw [if_neg c16] at H
                have c16b0 : decide (t289 < 1) = false := decide_eq_false c16
                clear c16
                have H' := Aside0.mk H
                clear H
                go_wp2
                go_meet
                case rel => exact ⟨_, (decide (t289 > (l0.length : Int))), (by first | rfl | (simp; done) | (simp [*]; done)), H', ⟨by have := HJ5.out; first | omega | exact Nat.le_refl _⟩, ⟨by repeat (first | (with_reducible first | exact HB.out | apply below_alloc | apply pw_below_drewN | apply below_drew1) | exact HB.out)⟩⟩
            · rw [if_neg c15] at H
              have c15b0 : (t290 == 0) = false := beq_eq_false_iff_ne.mpr c15
              have c15b1 : (t290 != 0) = true := bne_iff_ne.mpr c15
              (first | rw [c15b0] | (simp only [i64_w, i32_w]; rw [c15b0]) | skip)
              have H' := Aside0.mk H
              clear H
              go_wp2
              go_meet
              case rel => exact ⟨_, (true), (by first | rfl | (simp; done) | (simp [*]; done)), H', ⟨by have := HJ5.out; first | omega | exact Nat.le_refl _⟩, ⟨by repeat (first | (with_reducible first | exact HB.out | apply below_alloc | apply pw_below_drewN | apply below_drew1) | exact HB.out)⟩⟩
          case rest =>
            clear HC13
            try clear c1
            try clear c2
            try clear p2
            try clear c5
            try clear c7
            try clear c9
            try clear c10
            try clear c11
            try clear c15
            try clear c15b0
            try clear c15b1
            try clear c16
            try clear c16b0
            try clear p2
            obtain ⟨kq, x54_12, rfl, HA, HJ12, HB⟩ := hcut
            cases kq with
            | zero => exact absurd HA.out (by simp [fastilaw32_RoundsMost.j1])
            | succ kj12 =>
              have H := HA.out
              clear HA
              simp only [fastilaw32_RoundsMost.j1] at H
              by_cases c17 : x54_12 = true
              · subst c17
                have H1 : (some false) = some r := by rw [if_pos rfl] at H; exact H
                clear H
                have H := H1
                clear H1
                obtain rfl := Option.some.inj H
                go_wp2
                go_ret
                exact ⟨by first | rfl | (simp [errW_none, errW_some] <;> rfl) | (simp [*, errW_none, errW_some] <;> rfl), by repeat (first | (with_reducible first | exact HB.out | apply below_alloc | apply pw_below_drewN | apply below_drew1) | exact HB.out)⟩
              · replace c17 := Bool.eq_false_iff.mpr c17
                subst c17
                have H1 : (fastilaw32_RoundsMost.l0 kj12 l0 a1 t289 ([] : List Int) l2 (l2.length : Int) 0) = some r := by rw [if_neg (show ¬ (false = true) by decide)] at H; exact H
                clear H
                have H := H1
                clear H1
                have H' := Aside0.mk H
                clear H
                go_wp2
                go_loopg [9, 57] kj12 (fun kq v9 v57 w' => ∃ (x9_3 : List Int) (x57_3 : Int), v57 = .int .i64 x57_3 ∧ Aside0 (fastilaw32_RoundsMost.l0 kq l0 a1 t289 x9_3 l2 (l2.length : Int) x57_3 = some r) ∧ Aside0 (kq ≤ kj12) ∧ Aside0 (Kd.R (Kd.int .i64) 3 w' w.heap.size (fun _ => True) v9 x9_3) ∧ Aside0 (Below w.heap.size w w'))
                case atStart => exact ⟨(([] : List Int)), (0), (by first | rfl | (simp; done) | (simp [*]; done)), H', ⟨Nat.le_refl _⟩, ⟨by first | exact Kd.R_nil _ _ _ _ _ | exact Kd.N_nil _ _ _ _ _ | exact Kd.V_nil _ _ _ _ _ | exact Kd.Q_nil _ _ _ _ _ | exact Kd.S_nil _ _ _ _ _⟩, ⟨by repeat (first | (with_reducible first | exact HB.out | apply below_alloc | apply pw_below_drewN | apply below_drew1) | exact HB.out)⟩⟩
                case round =>
                  clear H'
                  try clear c1
                  try clear c2
                  try clear p2
                  try clear c5
                  try clear c7
                  try clear c9
                  try clear c10
                  try clear c11
                  try clear c15
                  try clear c15b0
                  try clear c15b1
                  try clear c16
                  try clear c16b0
                  try clear c17
                  try clear p2
                  obtain ⟨x9_3, x57_3, rfl, HA, HK3, HO_9, HB⟩ := hrel
                  cases gk with
                  | zero => exact absurd HA.out (by simp [fastilaw32_RoundsMost.l0])
                  | succ k3 =>
                    have H := HA.out
                    clear HA
                    simp only [fastilaw32_RoundsMost.l0] at H
                    by_cases c18 : x57_3 < (l2.length : Int)
                    · rw [if_pos c18] at H
                      have c18b0 : decide (x57_3 < (l2.length : Int)) = true := decide_eq_true c18
                      clear c18
                      by_cases c19 : 0 ≤ x57_3
                      · rw [if_pos c19] at H
                        have c19b0 : decide (0 ≤ x57_3) = true := decide_eq_true c19
                        clear c19
                        by_cases c20 : x57_3 < (l2.length : Int)
                        · rw [if_pos c20] at H
                          have c20b0 : decide (x57_3 < (l2.length : Int)) = true := decide_eq_true c20
                          clear c20
                          by_cases c21 : (l0.length : Int) = 0
                          · rw [if_pos c21] at H
                            exact absurd H (by simp)
                          · rw [if_neg c21] at H
                            have c21b0 : ((l0.length : Int) == 0) = false := beq_eq_false_iff_ne.mpr c21
                            have c21b1 : ((l0.length : Int) != 0) = true := bne_iff_ne.mpr c21
                            have c21b2 : ¬ (l0 = []) := fun h_ => c21 (by rw [h_]; rfl)
                            obtain ⟨ji22, hji22⟩ : ∃ j_ : Int, (Int.tmod (wrap64 (rd l2 x57_3)) (l0.length : Int)) = j_ := ⟨_, rfl⟩
                            replace H : (if 0 ≤ (ji22) then (if (ji22) < (l0.length : Int) then (fastilaw32_RoundsMost.l1 k3 l0 a1 t289 x9_3 (rd l0 (ji22)) true l2 (l2.length : Int) x57_3 x9_3 (x9_3.length : Int) 0) else (none)) else (none)) = some r := by first | (rw [hji22] at H; exact H) | (simp only [hji22] at H ⊢; exact H)
                            by_cases c23 : 0 ≤ (ji22)
                            · rw [if_pos c23] at H
                              have c23b0 : decide (0 ≤ (ji22)) = true := decide_eq_true c23
                              clear c23
                              by_cases c24 : (ji22) < (l0.length : Int)
                              · rw [if_pos c24] at H
                                have c24b0 : decide ((ji22) < (l0.length : Int)) = true := decide_eq_true c24
                                clear c24
                                have H' := Aside0.mk H
                                clear H
                                have p291 : 0 ≤ (x57_3 : Int) := of_decide_eq_true (by first | (with_reducible assumption) | assumption)
                                have q291 : x57_3 < (l2.length : Int) := of_decide_eq_true (by first | (with_reducible assumption) | assumption)
                                obtain ⟨ad291, e291, hx291_0⟩ := Kd.at_int HR2.out x57_3 p291 q291
                                cases e291
                                replace hx291_0 := (HB.out.cell (World.block_lt_of_cell? w _ hx291_0)).trans hx291_0
                                replace p291 := eq_true p291
                                replace q291 := eq_true q291
                                have p292 : 0 ≤ ((ji22) : Int) := of_decide_eq_true (by first | (with_reducible assumption) | assumption)
                                have q292 : (ji22) < (l0.length : Int) := of_decide_eq_true (by first | (with_reducible assumption) | assumption)
                                obtain ⟨ad292, e292, hx292_0⟩ := Kd.at_int HR0.out (ji22) p292 q292
                                cases e292
                                replace hx292_0 := (HB.out.cell (World.block_lt_of_cell? w _ hx292_0)).trans hx292_0
                                replace p292 := eq_true p292
                                replace q292 := eq_true q292
                                obtain ⟨Ao25, co25, eo25⟩ := Kd.R_slice HO_9.out
                                subst eo25
                                go_wp2
                                go_loopg [13, 71] k3 (fun kq v13 v71 w' => ∃ (x13_4 : Bool) (x71_4 : Int), v13 = .bool x13_4 ∧ v71 = .int .i64 x71_4 ∧ Aside0 (fastilaw32_RoundsMost.l1 kq l0 a1 t289 x9_3 (rd l0 (ji22)) x13_4 l2 (l2.length : Int) x57_3 x9_3 (x9_3.length : Int) x71_4 = some r) ∧ Aside0 (kq ≤ k3) ∧ Aside0 (Kd.R (Kd.int .i64) 3 w' w.heap.size (fun _ => True) (.slice Ao25 x9_3.length co25) x9_3) ∧ Aside0 (Kd.R (Kd.int .i64) 3 w' w.heap.size (fun _ => True) (.slice Ao25 x9_3.length co25) x9_3) ∧ Aside0 (Below w.heap.size w w'))
                                case atStart => exact ⟨(true), (0), (by first | rfl | (simp; done) | (simp [*]; done)), (by first | rfl | (simp; done) | (simp [*]; done)), H', ⟨Nat.le_refl _⟩, ⟨by (with_reducible repeat (first | apply Kd.R_alloc | apply Kd.R_drewN | apply Kd.R_drew)); exact HO_9.out⟩, ⟨by (with_reducible repeat (first | apply Kd.R_alloc | apply Kd.R_drewN | apply Kd.R_drew)); exact HO_9.out⟩, ⟨by repeat (first | (with_reducible first | exact HB.out | apply below_alloc | apply pw_below_drewN | apply below_drew1) | exact HB.out)⟩⟩
                                case round =>
                                  clear H'
                                  try clear c1
                                  try clear c2
                                  try clear p2
                                  try clear q2
                                  try clear hx2
                                  try clear c5
                                  try clear p6
                                  try clear c7
                                  try clear c9
                                  try clear c10
                                  try clear c11
                                  try clear c15
                                  try clear c15b0
                                  try clear c15b1
                                  try clear c16
                                  try clear c16b0
                                  try clear c17
                                  try clear c18
                                  try clear c18b0
                                  try clear c19
                                  try clear c19b0
                                  try clear c20
                                  try clear c20b0
                                  try clear c21
                                  try clear c21b0
                                  try clear c21b1
                                  try clear c21b2
                                  try clear c23
                                  try clear c23b0
                                  try clear c24
                                  try clear c24b0
                                  try clear hx291_0
                                  try clear hx292_0
                                  try clear p2
                                  try clear p291
                                  try clear p292
                                  try clear q291
                                  try clear q292
                                  obtain ⟨x13_4, x71_4, rfl, rfl, HA, HK4, HO_9, HO_69, HB⟩ := hrel
                                  cases gk with
                                  | zero => exact absurd HA.out (by simp [fastilaw32_RoundsMost.l1])
                                  | succ k4 =>
                                    have H := HA.out
                                    clear HA
                                    simp only [fastilaw32_RoundsMost.l1] at H
                                    by_cases c26 : x71_4 < (x9_3.length : Int)
                                    · rw [if_pos c26] at H
                                      have c26b0 : decide (x71_4 < (x9_3.length : Int)) = true := decide_eq_true c26
                                      clear c26
                                      by_cases c27 : 0 ≤ x71_4
                                      · rw [if_pos c27] at H
                                        have c27b0 : decide (0 ≤ x71_4) = true := decide_eq_true c27
                                        clear c27
                                        by_cases c28 : x71_4 < (x9_3.length : Int)
                                        · rw [if_pos c28] at H
                                          have c28b0 : decide (x71_4 < (x9_3.length : Int)) = true := decide_eq_true c28
                                          clear c28
                                          by_cases c29 : x13_4 = true
                                          · subst c29
                                            have H1 : (fastilaw32_RoundsMost.l1 k4 l0 a1 t289 x9_3 (rd l0 (ji22)) (decide ((mx (wrap64 ((rd x9_3 x71_4) - (rd l0 (ji22)))) (wrap64 ((rd l0 (ji22)) - (rd x9_3 x71_4)))) ≥ a1)) l2 (l2.length : Int) x57_3 x9_3 (x9_3.length : Int) (wrap64 (x71_4 + 1))) = some r := by rw [if_pos rfl] at H; exact H
                                            clear H
                                            have H := H1
                                            clear H1
                                            obtain ⟨ji30, hji30⟩ : ∃ j_ : Int, (mx (wrap64 ((rd x9_3 x71_4) - (rd l0 (ji22)))) (wrap64 ((rd l0 (ji22)) - (rd x9_3 x71_4)))) = j_ := ⟨_, rfl⟩
                                            replace H : (fastilaw32_RoundsMost.l1 k4 l0 a1 t289 x9_3 (rd l0 (ji22)) (decide ((ji30) ≥ a1)) l2 (l2.length : Int) x57_3 x9_3 (x9_3.length : Int) (wrap64 (x71_4 + 1))) = some r := by first | (rw [hji30] at H; exact H) | (simp only [hji30] at H ⊢; exact H)
                                            have hji30_ : (if (wrap64 ((rd x9_3 x71_4) - (rd l0 (ji22)))) < (wrap64 ((rd l0 (ji22)) - (rd x9_3 x71_4))) then (wrap64 ((rd l0 (ji22)) - (rd x9_3 x71_4))) else (wrap64 ((rd x9_3 x71_4) - (rd l0 (ji22))))) = ji30 := hji30
                                            have H' := Aside0.mk H
                                            clear H
                                            have p293 : 0 ≤ (x71_4 : Int) := of_decide_eq_true (by first | (with_reducible assumption) | assumption)
                                            have q293 : x71_4 < (x9_3.length : Int) := of_decide_eq_true (by first | (with_reducible assumption) | assumption)
                                            obtain ⟨ad293, e293, hx293_0⟩ := Kd.at_int (Kd.R_reads' HO_69.out).2.2 x71_4 p293 q293
                                            cases e293
                                            replace p293 := eq_true p293
                                            replace q293 := eq_true q293
                                            go_wp2
                                            go_roundg k4
                                            case measure => have := HJ5.out; have := HJ12.out; have := HK3.out; have := HK4.out; omega
                                            case rel => exact ⟨(decide ((ji30) ≥ a1)), (wrap64 (x71_4 + 1)), (by first | rfl | (simp; done) | (simp only [← hji30] <;> (first | rfl | simp)) | (simp [*]; done)), (by first | rfl | (simp; done) | (simp [*]; done)), H', ⟨by have := HJ5.out; have := HJ12.out; have := HK3.out; have := HK4.out; omega⟩, ⟨by (with_reducible repeat (first | apply Kd.R_alloc | apply Kd.R_drewN | apply Kd.R_drew)); exact HO_9.out⟩, ⟨by (with_reducible repeat (first | apply Kd.R_alloc | apply Kd.R_drewN | apply Kd.R_drew)); exact HO_69.out⟩, ⟨by repeat (first | (with_reducible first | exact HB.out | apply below_alloc | apply pw_below_drewN | apply below_drew1) | exact HB.out)⟩⟩
                                          · replace c29 := Bool.eq_false_iff.mpr c29
                                            subst c29
                                            have H1 : (fastilaw32_RoundsMost.l1 k4 l0 a1 t289 x9_3 (rd l0 (ji22)) false l2 (l2.length : Int) x57_3 x9_3 (x9_3.length : Int) (wrap64 (x71_4 + 1))) = some r := by rw [if_neg (show ¬ (false = true) by decide)] at H; exact H
                                            clear H
                                            have H := H1
                                            clear H1
                                            have H' := Aside0.mk H
                                            clear H
                                            have p293 : 0 ≤ (x71_4 : Int) := of_decide_eq_true (by first | (with_reducible assumption) | assumption)
                                            have q293 : x71_4 < (x9_3.length : Int) := of_decide_eq_true (by first | (with_reducible assumption) | assumption)
                                            obtain ⟨ad293, e293, hx293_0⟩ := Kd.at_int (Kd.R_reads' HO_69.out).2.2 x71_4 p293 q293
                                            cases e293
                                            replace p293 := eq_true p293
                                            replace q293 := eq_true q293
                                            go_wp2
                                            go_roundg k4
                                            case measure => have := HJ5.out; have := HJ12.out; have := HK3.out; have := HK4.out; omega
                                            case rel => exact ⟨(false), (wrap64 (x71_4 + 1)), (by first | rfl | (simp; done) | (simp [*]; done)), (by first | rfl | (simp; done) | (simp [*]; done)), H', ⟨by have := HJ5.out; have := HJ12.out; have := HK3.out; have := HK4.out; omega⟩, ⟨by (with_reducible repeat (first | apply Kd.R_alloc | apply Kd.R_drewN | apply Kd.R_drew)); exact HO_9.out⟩, ⟨by (with_reducible repeat (first | apply Kd.R_alloc | apply Kd.R_drewN | apply Kd.R_drew)); exact HO_69.out⟩, ⟨by repeat (first | (with_reducible first | exact HB.out | apply below_alloc | apply pw_below_drewN | apply below_drew1) | exact HB.out)⟩⟩
                                        · rw [if_neg c28] at H
                                          exact absurd H (by simp)
                                      · rw [if_neg c27] at H
                                        exact absurd H (by simp)
                                    · rw [if_neg c26] at H
                                      have c26b0 : decide (x71_4 < (x9_3.length : Int)) = false := decide_eq_false c26
                                      clear c26
                                      by_cases c31 : x13_4 = true
                                      · subst c31
                                        have H1 : (if x9_3.length < 17592186044416 then (fastilaw32_RoundsMost.l0 k4 l0 a1 t289 (x9_3 ++ [(rd l0 (ji22))]) l2 (l2.length : Int) (wrap64 (x57_3 + 1))) else (none)) = some r := by rw [if_pos rfl] at H; exact H
                                        clear H
                                        have H := H1
                                        clear H1
                                        by_cases c32 : x9_3.length < 17592186044416
                                        · rw [if_pos c32] at H
                                          have LMc32 := Aside0.mk c32
                                          clear c32
                                          obtain ⟨y294, hy294⟩ : ∃ y_ : List Int, y_ = (x9_3 ++ [(rd l0 (ji22))]) := ⟨_, rfl⟩
                                          replace H : (fastilaw32_RoundsMost.l0 k4 l0 a1 t289 y294 l2 (l2.length : Int) (wrap64 (x57_3 + 1))) = some r := by first | (rw [hy294]; with_reducible exact H) | (have H2_ := (Option.bind_some _ _).symm.trans H; rw [hy294]; with_reducible exact H2_) | (have H2_ := (Option.bind_some _ _).symm.trans H; with_reducible exact H2_) | with_reducible exact H | (rw [hy294]; exact H) | exact H
                                          have Ny294 := Aside0.mk hy294
                                          clear hy294
                                          have H' := Aside0.mk H
                                          clear H
                                          go_wp2_with (first | ((with_reducible refine gate_builtin (b := .append) (xs := #[.tmp 89, .tmp 91]) rfl ?_); (try (refine gate_guard (by rfl) ?_; dsimp only)); at_builtin; refine Kd.R_append (Kd.int .i64) (w0 := w) w.heap.size rfl (.tmp 89) (.tmp 91) 22 3 (.int .i64 0) 8 rfl Try.underlying22 info3 rfl (by decide) (by omega) (.slice Ao25 x9_3.length co25) x9_3 (rd l0 (ji22)) [.int .i64 (rd l0 (ji22))] (fun _ => True) (fun _ => False) rfl rfl ?aP (fun _ hk => hk.elim) ?aF ?aO ?aB ?aS ?aL ?_; (case aP => exact rfl); (case aB => exact (by repeat (first | (with_reducible first | exact HB.out | apply below_alloc | apply pw_below_drewN | apply below_drew1) | exact HB.out))); (case aF => exact (fun _ _ => trivial)); (case aO => exact (by (with_reducible repeat (first | apply Kd.R_alloc | apply Kd.R_drewN | apply Kd.R_drew)); exact HO_9.out)); (case aS => exact (below_size (by repeat (first | (with_reducible first | exact HB.out | apply below_alloc | apply pw_below_drewN | apply below_drew1) | exact HB.out)))); (case aL => have := LMc32.out; omega); intro v295 w33 ho hb hg hat; rw [← Ny294.out] at ho; have n0_ := Aside0.mk (hb); have n1_ := Aside0.mk (ho); clear HB; clear HO_9; have HB := n0_; have HO296 := n1_; clear n0_ n1_; clear ho hb hg hat))
                                          go_roundg k4
                                          case measure => have := HJ5.out; have := HJ12.out; have := HK3.out; have := HK4.out; omega
                                          case rel => exact ⟨(y294), (wrap64 (x57_3 + 1)), (by first | rfl | (simp; done) | (simp [*]; done)), H', ⟨by have := HJ5.out; have := HJ12.out; have := HK3.out; have := HK4.out; omega⟩, ⟨by (with_reducible repeat (first | apply Kd.R_alloc | apply Kd.R_drewN | apply Kd.R_drew)); exact HO296.out⟩, ⟨by repeat (first | (with_reducible first | exact HB.out | apply below_alloc | apply pw_below_drewN | apply below_drew1) | exact HB.out)⟩⟩
                                        · rw [if_neg c32] at H
                                          exact absurd H (by simp)
                                      · replace c31 := Bool.eq_false_iff.mpr c31
                                        subst c31
                                        have H1 : (fastilaw32_RoundsMost.l0 k4 l0 a1 t289 x9_3 l2 (l2.length : Int) (wrap64 (x57_3 + 1))) = some r := by rw [if_neg (show ¬ (false = true) by decide)] at H; exact H
                                        clear H
                                        have H := H1
                                        clear H1
                                        have H' := Aside0.mk H
                                        clear H
                                        go_wp2
                                        go_roundg k4
                                        case measure => have := HJ5.out; have := HJ12.out; have := HK3.out; have := HK4.out; omega
                                        case rel => exact ⟨(x9_3), (wrap64 (x57_3 + 1)), (by first | rfl | (simp; done) | (simp [*]; done)), H', ⟨by have := HJ5.out; have := HJ12.out; have := HK3.out; have := HK4.out; omega⟩, ⟨by (with_reducible repeat (first | apply Kd.R_alloc | apply Kd.R_drewN | apply Kd.R_drew)); exact HO_9.out⟩, ⟨by repeat (first | (with_reducible first | exact HB.out | apply below_alloc | apply pw_below_drewN | apply below_drew1) | exact HB.out)⟩⟩
                              · rw [if_neg c24] at H
                                exact absurd H (by simp)
                            · rw [if_neg c23] at H
                              exact absurd H (by simp)
                        · rw [if_neg c20] at H
                          exact absurd H (by simp)
                      · rw [if_neg c19] at H
                        exact absurd H (by simp)
                    · rw [if_neg c18] at H
                      have c18b0 : decide (x57_3 < (l2.length : Int)) = false := decide_eq_false c18
                      clear c18
                      by_cases c34 : (x9_3.length : Int) > t289
                      · rw [if_pos c34] at H
                        have c34b0 : decide (t289 < (x9_3.length : Int)) = true := decide_eq_true c34
                        clear c34
                        obtain rfl := Option.some.inj H
                        obtain ⟨Ao35, co35, eo35⟩ := Kd.R_slice HO_9.out
                        subst eo35
                        go_wp2
                        go_ret
                        exact ⟨by first | rfl | (simp [errW_none, errW_some] <;> rfl) | (simp [*, errW_none, errW_some] <;> rfl), by repeat (first | (with_reducible first | exact HB.out | apply below_alloc | apply pw_below_drewN | apply below_drew1) | exact HB.out)⟩
                      · rw [if_neg c34] at H
                        have c34b0 : decide (t289 < (x9_3.length : Int)) = false := decide_eq_false c34
                        clear c34
                        by_cases c36 : t289 > 39
                        · rw [if_pos c36] at H
                          have c36b0 : decide (39 < t289) = true := decide_eq_true c36
                          clear c36
                          obtain rfl := Option.some.inj H
                          obtain ⟨Ao37, co37, eo37⟩ := Kd.R_slice HO_9.out
                          subst eo37
                          go_wp2
                          go_ret
                          exact ⟨by first | rfl | (simp [errW_none, errW_some] <;> rfl) | (simp [*, errW_none, errW_some] <;> rfl), by repeat (first | (with_reducible first | exact HB.out | apply below_alloc | apply pw_below_drewN | apply below_drew1) | exact HB.out)⟩
                        · rw [if_neg c36] at H
                          have c36b0 : decide (39 < t289) = false := decide_eq_false c36
                          clear c36
                          obtain ⟨ji38, hji38⟩ : ∃ j_ : Int, (wrap64 (t289 + 1)) = j_ := ⟨_, rfl⟩
                          replace H : (if 0 ≤ (ji38) then (if (ji38 : Int).toNat ≤ 11728124029610 then ((some (List.replicate (ji38 : Int).toNat [] : List (List Int))).bind fun y297 => (fastilaw32_RoundsMost.l2 k3 l0 a1 t289 y297 (y297.length : Int) 0)) else (none)) else (none)) = some r := by first | (rw [hji38] at H; exact H) | (simp only [hji38] at H ⊢; exact H)
                          have hji38w : (IntKind.i64.wrap (t289 + 1)) = ji38 := (i64_w _).trans hji38
                          by_cases c39 : 0 ≤ (ji38)
                          · rw [if_pos c39] at H
                            have c39b0 := eq_true c39
                            have c39b1 : decide (0 ≤ (ji38)) = true := decide_eq_true c39
                            clear c39
                            by_cases c40 : (ji38 : Int).toNat ≤ 11728124029610
                            · rw [if_pos c40] at H
                              have c40b0 := eq_true c40
                              have c40b1 : decide ((ji38 : Int).toNat ≤ 11728124029610) = true := decide_eq_true c40
                              clear c40
                              obtain ⟨y297, hy297⟩ : ∃ y_ : List (List Int), y_ = (List.replicate (ji38 : Int).toNat []) := ⟨_, rfl⟩
                              replace H : (fastilaw32_RoundsMost.l2 k3 l0 a1 t289 y297 (y297.length : Int) 0) = some r := by first | (rw [hy297]; with_reducible exact H) | (have H2_ := (Option.bind_some _ _).symm.trans H; rw [hy297]; with_reducible exact H2_) | (have H2_ := (Option.bind_some _ _).symm.trans H; with_reducible exact H2_) | with_reducible exact H | (rw [hy297]; exact H) | exact H
                              have Ny297 := Aside0.mk hy297
                              clear hy297
                              have H' := Aside0.mk H
                              clear H
                              obtain ⟨Ao41, co41, eo41⟩ := Kd.R_slice HO_9.out
                              subst eo41
                              go_wp2_with (first | ((with_reducible refine gate_dst (N := 102) rfl ?_); (try (refine gate_guard (by rfl) ?_; dsimp only)); refine Kd.S_make (Kd.slice 3 (Kd.int .i64)) _ 22 rfl (N := 102) rfl 29 _ _ rfl ji38 rfl rfl Try.underlying29 (.slice none 0 0) 24 info22 rfl (by decide) (by omega) [] (ok := fun _ => True) (okp := fun _ => True) ⟨_, rfl, Kd.R_nil _ _ _ _ _⟩ (fun _ hk => hk) trivial (of_decide_eq_true (by first | (with_reducible assumption) | assumption)) (Nat.le_trans (Nat.mul_le_mul_right _ (of_decide_eq_true (by first | (with_reducible assumption) | assumption) : ji38.toNat ≤ 11728124029610)) (by omega)) (Below.refl _ _) (Nat.le_refl _) ?_; intro v298 w42 ho43 hb hg_ hnew_; clear hg_ hnew_; (first | rw [← Ny297.out] at ho43 | (simp only [Int.reduceToNat] at ho43; rw [← Ny297.out] at ho43)); have n0_ := Aside0.mk (Kd.R_below (by (with_reducible repeat (first | apply Kd.R_alloc | apply Kd.R_drewN | apply Kd.R_drew)); exact HO_9.out) hb); have n1_ := Aside0.mk (Kd.S_lower (Kd.S_new' ho43 (Kd.R_lt (by (with_reducible repeat (first | apply Kd.R_alloc | apply Kd.R_drewN | apply Kd.R_drew)); exact HO_9.out))) (below_size (by repeat (first | (with_reducible first | exact HB.out | apply below_alloc | apply pw_below_drewN | apply below_drew1) | exact HB.out)))); have n2_ := Aside0.mk (below_step (by repeat (first | (with_reducible first | exact HB.out | apply below_alloc | apply pw_below_drewN | apply below_drew1) | exact HB.out)) hb); clear HO_9; clear HB; have HO_9 := n0_; have HO299 := n1_; have HB := n2_; clear n0_ n1_ n2_; clear hb ho43; obtain ⟨Ao44, co44, eo44⟩ := Kd.S_slice HO299.out; (first | subst eo44 | cases eo44)))
                              go_loopg [105] k3 (fun kq v105 w' => ∃ (x16_4 : List (List Int)) (x105_4 : Int), v105 = .int .i64 x105_4 ∧ Aside0 (fastilaw32_RoundsMost.l2 kq l0 a1 t289 x16_4 (y297.length : Int) x105_4 = some r) ∧ Aside0 (kq ≤ k3) ∧ Aside0 (Kd.S (Kd.slice 3 (Kd.int .i64)) 22 w' w.heap.size (fun _ => True) (.slice Ao44 y297.length co44) x16_4) ∧ Aside0 (Below w.heap.size w w'))
                              case atStart => exact ⟨(y297), (0), (by first | rfl | (simp; done) | (simp [*]; done)), H', ⟨Nat.le_refl _⟩, ⟨by (with_reducible repeat (first | apply Kd.S_alloc | apply Kd.S_drewN | apply Kd.S_drew)); exact Kd.S_mono HO299.out (fun _ hk => trivial)⟩, ⟨by repeat (first | (with_reducible first | exact HB.out | apply below_alloc | apply pw_below_drewN | apply below_drew1) | exact HB.out)⟩⟩
                              case round =>
                                clear H'
                                try clear c1
                                try clear c2
                                try clear p2
                                try clear q2
                                try clear hx2
                                try clear c3
                                try clear c4
                                try clear c5
                                try clear p6
                                try clear c7
                                try clear c9
                                try clear c10
                                try clear c11
                                try clear c15
                                try clear c15b0
                                try clear c15b1
                                try clear c16
                                try clear c16b0
                                try clear c17
                                try clear c18
                                try clear c18b0
                                try clear c19
                                try clear c19b0
                                try clear c20
                                try clear c20b0
                                try clear c21
                                try clear c21b0
                                try clear c21b1
                                try clear c21b2
                                try clear c23
                                try clear c23b0
                                try clear c24
                                try clear c24b0
                                try clear c26
                                try clear c26b0
                                try clear c27
                                try clear c27b0
                                try clear c28
                                try clear c28b0
                                try clear c29
                                try clear p29
                                try clear q29
                                try clear hx29
                                try clear c31
                                try clear c32
                                try clear c34
                                try clear c34b0
                                try clear c36
                                try clear c36b0
                                try clear c39
                                try clear c39b0
                                try clear c39b1
                                try clear c40
                                try clear c40b0
                                try clear c40b1
                                try clear hx291_0
                                try clear hx292_0
                                try clear hx293_0
                                try clear p2
                                try clear p291
                                try clear p292
                                try clear p293
                                try clear p6
                                try clear q2
                                try clear q291
                                try clear q292
                                try clear q293
                                obtain ⟨x16_4, x105_4, rfl, HA, HK4, HO_16, HB⟩ := hrel
                                have hl16_4 := (Kd.S_reads' HO_16.out).1
                                rw [hl16_4] at HO_16
                                (try simp only [hl16_4])
                                cases gk with
                                | zero => exact absurd HA.out (by simp [fastilaw32_RoundsMost.l2])
                                | succ k4 =>
                                  have H := HA.out
                                  clear HA
                                  simp only [fastilaw32_RoundsMost.l2] at H
                                  by_cases c45 : x105_4 < (y297.length : Int)
                                  · rw [if_pos c45] at H
                                    have c45b0 : decide (x105_4 < (y297.length : Int)) = true := decide_eq_true c45
                                    have c45l0_hl16_4 := c45b0; (try rw [hl16_4] at c45l0_hl16_4)
                                    clear c45
                                    by_cases c46 : 0 ≤ (l0.length : Int)
                                    · rw [if_pos c46] at H
                                      have c46b0 := eq_true c46
                                      have c46b1 : decide (0 ≤ (l0.length : Int)) = true := decide_eq_true c46
                                      have c46l1_hl16_4 := c46b1; (try rw [hl16_4] at c46l1_hl16_4)
                                      clear c46
                                      by_cases c47 : ((l0.length : Int) : Int).toNat ≤ 35184372088832
                                      · rw [if_pos c47] at H
                                        have c47b0 := eq_true c47
                                        have c47b1 : decide (((l0.length : Int) : Int).toNat ≤ 35184372088832) = true := decide_eq_true c47
                                        have c47l1_hl16_4 := c47b1; (try rw [hl16_4] at c47l1_hl16_4)
                                        clear c47
                                        obtain ⟨y300, hy300⟩ : ∃ y_ : List Int, y_ = (List.replicate ((l0.length : Int) : Int).toNat 0) := ⟨_, rfl⟩
                                        replace H : (if 0 ≤ x105_4 then (if x105_4 < (x16_4.length : Int) then (fastilaw32_RoundsMost.l2 k4 l0 a1 t289 (x16_4.set (x105_4 : Int).toNat y300) (y297.length : Int) (wrap64 (x105_4 + 1))) else (none)) else (none)) = some r := by first | (rw [hy300]; with_reducible exact H) | (have H2_ := (Option.bind_some _ _).symm.trans H; rw [hy300]; with_reducible exact H2_) | (have H2_ := (Option.bind_some _ _).symm.trans H; with_reducible exact H2_) | with_reducible exact H | (rw [hy300]; exact H) | exact H
                                        have Ny300 := Aside0.mk hy300
                                        clear hy300
                                        by_cases c48 : 0 ≤ x105_4
                                        · rw [if_pos c48] at H
                                          have c48b0 : decide (0 ≤ x105_4) = true := decide_eq_true c48
                                          clear c48
                                          by_cases c49 : x105_4 < (x16_4.length : Int)
                                          · rw [if_pos c49] at H
                                            have c49b0 : decide (x105_4 < (x16_4.length : Int)) = true := decide_eq_true c49
                                            have c49l0_hl16_4 := c49b0; (try rw [hl16_4] at c49l0_hl16_4)
                                            clear c49
                                            obtain ⟨y303, hy303⟩ : ∃ y_ : List (List Int), y_ = (x16_4.set (x105_4 : Int).toNat y300) := ⟨_, rfl⟩
                                            replace H : (fastilaw32_RoundsMost.l2 k4 l0 a1 t289 y303 (y297.length : Int) (wrap64 (x105_4 + 1))) = some r := by first | (rw [hy303]; with_reducible exact H) | (have H2_ := (Option.bind_some _ _).symm.trans H; rw [hy303]; with_reducible exact H2_) | (have H2_ := (Option.bind_some _ _).symm.trans H; with_reducible exact H2_) | with_reducible exact H | (rw [hy303]; exact H) | exact H
                                            have Ny303 := Aside0.mk hy303
                                            clear hy303
                                            have H' := Aside0.mk H
                                            clear H
                                            go_wp2_with (first | ((with_reducible refine gate_dst (N := 112) rfl ?_); (try (refine gate_guard (by rfl) ?_; dsimp only)); refine Kd.R_make (Kd.int .i64) _ 3 rfl (N := 112) rfl 22 _ _ rfl (l0.length : Int) rfl rfl Try.underlying22 (.int .i64 0) 8 info3 rfl (by decide) (by omega) 0 (ok := fun _ => True) (okp := fun _ => True) rfl (fun _ hk => hk) trivial (of_decide_eq_true (by first | (with_reducible assumption) | assumption)) (Nat.le_trans (Nat.mul_le_mul_right _ (of_decide_eq_true (by first | (with_reducible assumption) | assumption) : (l0.length : Int).toNat ≤ 35184372088832)) (by omega)) (Below.refl _ _) (Nat.le_refl _) ?_; intro v301 w51 ho52 hb hg_ hnew_; obtain ⟨Av301_, nv301_, cv301_, hv301_⟩ : ∃ A n c, v301 = .slice A n c := (by obtain ⟨_, _, h_, _⟩ := ho52; obtain ⟨A, c, e⟩ := own_slice h_; exact ⟨A, _, c, e⟩); subst hv301_; clear hg_ hnew_; (first | rw [← Ny300.out] at ho52 | (simp only [Int.reduceToNat] at ho52; rw [← Ny300.out] at ho52)); have n0_ := Aside0.mk (Kd.S_elder' (by (with_reducible repeat (first | apply Kd.S_alloc | apply Kd.S_drewN | apply Kd.S_drew)); exact HO_16.out) (Kd.R_base ho52) hb); have n1_ := Aside0.mk (Kd.R_lower ho52 (below_size (by repeat (first | (with_reducible first | exact HB.out | apply below_alloc | apply pw_below_drewN | apply below_drew1) | exact HB.out)))); have n2_ := Aside0.mk (below_step (by repeat (first | (with_reducible first | exact HB.out | apply below_alloc | apply pw_below_drewN | apply below_drew1) | exact HB.out)) hb); clear HO_16; clear HB; have HO_16 := n0_; have HO302 := n1_; have HB := n2_; clear n0_ n1_ n2_; clear hb ho52; have p50 : 0 ≤ (x105_4 : Int) := of_decide_eq_true (by first | (with_reducible assumption) | assumption); have q50 : (x105_4 : Int) < ((x16_4.length : Int) : Int) := of_decide_eq_true (by first | (with_reducible assumption) | assumption); obtain ⟨go50, co50, eo50, gb50, gl50, cl50, HG50⟩ := Kd.S_form HO_16.out (by omega); (first | cases eo50 | (injection eo50 with ea_ en_ ec_; (first | subst ea_ | (injection ea_ with ea_; subst ea_)); subst ec_; clear en_)); have GB50 := Aside0.mk gb50; have GG50 := Aside0.mk HG50; clear gb50 gl50 HG50; obtain ⟨_, ce50, hcl50, hM50, hcc50, hfr50, _, _⟩ := Kd.S_elem HO_16.out [] (x105_4 : Int) p50 q50; obtain ⟨ve50_0, rfl, ge50_0⟩ := hM50; have hx50_0 := hcc50 0 _ rfl; have hf50_0 := hfr50 0; (try simp only [show ((Kd.slice 3 (Kd.int .i64))).sz = 1 from rfl, Nat.mul_one, Nat.add_zero] at hx50_0); (try simp only [show ((Kd.slice 3 (Kd.int .i64))).sz = 1 from rfl, Nat.mul_one, Nat.add_zero] at hf50_0); clear hcl50 hcc50 hfr50; (try clear hM50); replace p50 := eq_true p50; replace q50 := eq_true q50; have n_ := Aside0.mk (Kd.S_mono (ok' := (fun k_ => some k_ ≠ ((.slice Av301_ nv301_ cv301_ : Value) : Value).ownBlock)) HO_16.out (fun k_ hk => hk.2)); clear HO_16; have HO_16 := n_; clear n_; have HX53 := Aside0.mk (show Kd.S (Kd.slice 3 (Kd.int .i64)) 22 w51 w.heap.size (fun k_ => ((fun _ => True)) k_ ∧ ¬ ((fun k_ => some k_ = ((.slice Av301_ nv301_ cv301_ : Value) : Value).ownBlock)) k_) (.slice (some ⟨go50, 0, none⟩) x16_4.length co44) x16_4 from (by (with_reducible repeat (first | apply Kd.S_alloc | apply Kd.S_drewN | apply Kd.S_drew)); exact Kd.S_mono HO_16.out (fun k_ hk => ⟨trivial, fun e_ => hk e_⟩))); obtain ⟨oki53, ce53, hcl53, hM53, hcc53, hfr53, hoki53, hH53⟩ := Kd.S_elem HX53.out [] (x105_4 : Int) (of_decide_eq_true (by first | (with_reducible assumption) | assumption)) (by have h_ : (x105_4 : Int) < ((x16_4.length : Int) : Int) := of_decide_eq_true (by first | (with_reducible assumption) | assumption); first | exact h_ | (have e_ := (Kd.S_reads' HO_16.out).1; omega) | simpa using h_); obtain ⟨ve53_0, rfl, ge53_0⟩ := hM53; have HP53 := Kd.S_seg hH53 (of_decide_eq_true (by first | (with_reducible assumption) | assumption)) (by have h_ : (x105_4 : Int) < ((x16_4.length : Int) : Int) := of_decide_eq_true (by first | (with_reducible assumption) | assumption); first | exact h_ | (have e_ := (Kd.S_reads' HO_16.out).1; omega) | simpa using h_) (seg := [(.slice Av301_ nv301_ cv301_ : Value)]) (j := 0) (show 1 ≤ 1 from by decide) (x' := y300) (Kd.M_row (Kd.R_mono (Kd.R_tight rfl (Kd.R_mono (ok' := fun k_ => ((fun _ => True)) k_ ∧ k_ ≠ go50) (Kd.R_apart' (HO302.out) (Kd.S_typed HO_16.out) (by decide)) (fun k_ hk => ⟨trivial, fun e_ => (hk.2) (by rw [e_]; rfl)⟩))) (fun _ h_ => Or.inr (h_)))) (fun _ hk => hk) (fun k_ hk_ => ((Kd.R_mono (ok' := fun k_ => ((fun _ => True)) k_ ∧ k_ ≠ go50) (Kd.R_apart' (HO302.out) (Kd.S_typed HO_16.out) (by decide)) (fun k_ hk => ⟨trivial, fun e_ => (hk.2) (by rw [e_]; rfl)⟩))).1 k_ hk_.symm); have hx53_0 := hcc53 0 _ rfl; (try simp only [show ((Kd.slice 3 (Kd.int .i64))).sz = 1 from rfl, Nat.mul_one, Nat.add_zero] at hx53_0); have hf53_0 := hfr53 0; (try simp only [show ((Kd.slice 3 (Kd.int .i64))).sz = 1 from rfl, Nat.mul_one, Nat.add_zero] at hf53_0); clear hcl53 hcc53 hfr53 hoki53 hH53; (try clear hM53); (try simp only [show ((Kd.slice 3 (Kd.int .i64))).sz = 1 from rfl, Nat.mul_one, Nat.add_zero] at HP53)) | ((with_reducible refine gate_store (t := 22) (p := 113) rfl ?_); refine store_event (t := 22) (p := 113) (v := ?vo_w54) (w1 := (w51.setCell ⟨go50, (x105_4 : Int).toNat, none⟩ ((.slice Av301_ nv301_ cv301_ : Value)))) ?hg ?ho ?hn ?hr ?_; (case ho => rfl); (case hg => rfl); (case hn => rfl); (case hr => first | (go_simp; done) | (go_simp; rfl)); intro w54 hw; have hg : w51.grownBy w54 (some go50) := (by rw [hw]; exact HP53.2); have hp_ : Kd.S (Kd.slice 3 (Kd.int .i64)) 22 w54 w.heap.size (fun _ => True) (.slice (some ⟨go50, 0, none⟩) x16_4.length co44) y303 := (by rw [hw, Ny303.out]; exact HP53.1); clear HP53; have n0_ := Aside0.mk (hp_); have n1_ := Aside0.mk ((by rw [hw]; exact below_set (HB.out) GB50.out : Below w.heap.size w w54)); clear HO_16; clear HB; clear HO302; have HO_16 := n0_; have HB := n1_; clear n0_ n1_; clear hg hw hp_))
                                            (try simp only [← hl16_4])
                                            go_roundg k4
                                            case measure => have := HJ5.out; have := HJ12.out; have := HK3.out; have := HK4.out; omega
                                            case rel => exact ⟨(y303), (wrap64 (x105_4 + 1)), (by first | rfl | (simp; done) | (simp [*]; done)), H', ⟨by have := HJ5.out; have := HJ12.out; have := HK3.out; have := HK4.out; omega⟩, ⟨by (try simp only [hl16_4]); (with_reducible repeat (first | apply Kd.S_alloc | apply Kd.S_drewN | apply Kd.S_drew)); exact HO_16.out⟩, ⟨by repeat (first | (with_reducible first | exact HB.out | apply below_alloc | apply pw_below_drewN | apply below_drew1) | exact HB.out)⟩⟩
                                          · rw [if_neg c49] at H
                                            exact absurd H (by simp)
                                        · rw [if_neg c48] at H
                                          exact absurd H (by simp)
                                      · rw [if_neg c47] at H
                                        exact absurd H (by simp)
                                    · rw [if_neg c46] at H
                                      exact absurd H (by simp)
                                  · rw [if_neg c45] at H
                                    have c45b0 : decide (x105_4 < (y297.length : Int)) = false := decide_eq_false c45
                                    have c45l0_hl16_4 := c45b0; (try rw [hl16_4] at c45l0_hl16_4)
                                    clear c45
                                    replace H := Option.bind_eq_some_iff.mp H
                                    obtain ⟨⟨t304, t305, t306, t307⟩, A550, H⟩ := H
                                    replace H : (if 0 ≤ t289 then (if t289 ≤ (x16_4.length : Int) then ((rounds_Place.f l0 a1 (x16_4.take (t289 : Int).toNat)).bind fun bt314 => (if t307 = 0 then (if bt314.2.2.2 = 0 then (if t306 = true then (some false) else (if bt314.2.2.1 = true then (if bt314.2.1 = 0 then (some ((bt314.1.length : Int) == t289)) else (some false)) else (some false))) else (some false)) else (some false))) else (none)) else (none)) = some r := H
                                    have A55 := Aside0.mk A550
                                    clear A550
                                    by_cases c56 : 0 ≤ t289
                                    · rw [if_pos c56] at H
                                      have c56b0 := eq_true c56
                                      have c56b1 : decide (0 ≤ t289) = true := decide_eq_true c56
                                      clear c56
                                      by_cases c57 : t289 ≤ (x16_4.length : Int)
                                      · rw [if_pos c57] at H
                                        have c57b0 := eq_true c57
                                        have c57b1 : decide (t289 ≤ (x16_4.length : Int)) = true := decide_eq_true c57
                                        have c57l1_hl16_4 := c57b1; (try rw [hl16_4] at c57l1_hl16_4)
                                        clear c57
                                        obtain ⟨y310, hy310⟩ : ∃ y_ : List (List Int), y_ = (x16_4.take (t289 : Int).toNat) := ⟨_, rfl⟩
                                        replace H : ((rounds_Place.f l0 a1 y310).bind fun bt314 => (if t307 = 0 then (if bt314.2.2.2 = 0 then (if t306 = true then (some false) else (if bt314.2.2.1 = true then (if bt314.2.1 = 0 then (some ((bt314.1.length : Int) == t289)) else (some false)) else (some false))) else (some false)) else (some false))) = some r := by first | (rw [hy310]; with_reducible exact H) | (have H2_ := (Option.bind_some _ _).symm.trans H; rw [hy310]; with_reducible exact H2_) | (have H2_ := (Option.bind_some _ _).symm.trans H; with_reducible exact H2_) | with_reducible exact H | (rw [hy310]; exact H) | exact H
                                        have Ny310 := Aside0.mk hy310
                                        clear hy310
                                        replace H := Option.bind_eq_some_iff.mp H
                                        obtain ⟨⟨t314, t315, t316, t317⟩, A580, H⟩ := H
                                        replace H : (if t307 = 0 then (if t317 = 0 then (if t306 = true then (some false) else (if t316 = true then (if t315 = 0 then (some ((t314.length : Int) == t289)) else (some false)) else (some false))) else (some false)) else (some false)) = some r := H
                                        have A58 := Aside0.mk A580
                                        clear A580
                                        by_cases c59 : t307 = 0
                                        · rw [if_pos c59] at H
                                          have c59b0 : (t307 == 0) = true := beq_iff_eq.mpr c59
                                          have c59b1 : (t307 != 0) = false := bne_eq_false_iff_eq.mpr c59
                                          clear c59
                                          by_cases c60 : t317 = 0
                                          · rw [if_pos c60] at H
                                            have c60b0 : (t317 == 0) = true := beq_iff_eq.mpr c60
                                            have c60b1 : (t317 != 0) = false := bne_eq_false_iff_eq.mpr c60
                                            clear c60
                                            by_cases c61 : t306 = true
                                            · subst c61
                                              have H1 : (some false) = some r := by rw [if_pos rfl] at H; exact H
                                              clear H
                                              have H := H1
                                              clear H1
                                              obtain rfl := Option.some.inj H
                                              go_wp2_with (first | ((with_reducible refine gate_callee (f := 15) rfl ?_); refine goesL_ (some 119) rfl rfl Try.func15 (by kernel_rfl) rfl #[.slice A0 l0.length c0, .int .i64 a1, .slice Ao44 x16_4.length co44] rfl (by (try simp only [List.map_toArray, List.map_cons, List.map_nil]); first | done | rfl | (simp only [List.length_drop, List.length_take]; rfl)) ?_; (with_reducible refine (rounds_Place.calls _ _ l0 a1 _ _ x16_4 t304 t305 true t307 _ ?side1 ?side2 ?side3 ?side4 A55.out).mono ?_); (case side1 => repeat (first | exact (Kd.C_below HR0.out HB.out) | (with_reducible refine Kd.C_alloc ?_ _) | (with_reducible refine Kd.C_drewN ?_ _) | (with_reducible refine Kd.C_drew ?_))); (case side2 => exact HC0.out); (case side3 => repeat (first | exact (Kd.S_reads' HO_16.out).2.2 | (with_reducible refine Kd.C_alloc ?_ _) | (with_reducible refine Kd.C_drewN ?_ _) | (with_reducible refine Kd.C_drew ?_))); (case side4 => exact (Kd.S_reads' HO_16.out).2.1); rintro e w62 ⟨v308, rfl, ho0, hb⟩; obtain ⟨Av308_, nv308_, cv308_, hv308_⟩ : ∃ A n c, v308 = .slice A n c := (by obtain ⟨_, _, h_, _⟩ := ho0; obtain ⟨A, c, e⟩ := own_slice h_; exact ⟨A, _, c, e⟩); subst hv308_; refine ⟨_, rfl, ?_⟩; have n0_ := Aside0.mk (Kd.S_elder' (by (with_reducible repeat (first | apply Kd.S_alloc | apply Kd.S_drewN | apply Kd.S_drew)); exact HO_16.out) (Kd.R_base ho0) hb); have n1_ := Aside0.mk (Kd.R_lower ho0 (below_size (by repeat (first | (with_reducible first | exact HB.out | apply below_alloc | apply pw_below_drewN | apply below_drew1) | exact HB.out)))); have n2_ := Aside0.mk (below_step (by repeat (first | (with_reducible first | exact HB.out | apply below_alloc | apply pw_below_drewN | apply below_drew1) | exact HB.out)) hb); clear HO_16; clear HB; have HO_16 := n0_; have HO309 := n1_; have HB := n2_; clear n0_ n1_ n2_; (try clear hb); (try clear hb2); (try clear hk); (try clear hi); (try clear ho0); have q63 : (t289 : Int) ≤ ((x16_4.length : Int) : Int) := of_decide_eq_true (by first | (with_reducible assumption) | assumption); obtain ⟨i063, hi063, _, hsz63, _⟩ := info_parts info22; have hroom63 : x16_4.length ≤ co44 := (Kd.S_reads' HO_16.out).2.1; have hC63 : Kd.C (Kd.slice 3 (Kd.int .i64)) _ Ao44 x16_4.length x16_4 := (Kd.S_reads' HO_16.out).2.2; have hcut63 := cut_to (P := Try.prog) 29 22 .i64 Try.underlying29 hi063 Ao44 x16_4.length co44 t289 (of_decide_eq_true (by first | (with_reducible assumption) | assumption)) q63 hroom63; have hr63 := Kd.C_take (m := (t289 : Int).toNat) hC63 (by omega); have hy63 : y310.length = (t289 : Int).toNat := (by rw [Ny310.out, List.length_take]; omega); rw [← Ny310.out] at hr63; rw [← hy63] at hcut63; have HR313 := Aside0.mk hr63; have HC313 := Aside0.mk (show y310.length ≤ co44 from by omega); clear hr63 hC63 hroom63 hi063 hsz63; have KY63 := Aside0.mk hy63; clear hy63; have KL63 := Aside0.mk (show (t289 : Int).toNat ≤ x16_4.length from by omega); replace q63 := eq_true q63) | ((with_reducible refine gate_callee (f := 15) rfl ?_); refine goesL_ (some 130) rfl rfl Try.func15 (by kernel_rfl) rfl #[.slice A0 l0.length c0, .int .i64 a1, .slice Ao44 y310.length co44] rfl (by (try simp only [List.map_toArray, List.map_cons, List.map_nil]); first | done | rfl | (simp only [List.length_drop, List.length_take]; rfl)) ?_; (with_reducible refine (rounds_Place.calls _ _ l0 a1 _ _ y310 t314 t315 t316 t317 _ ?side1 ?side2 ?side3 ?side4 A58.out).mono ?_); (case side1 => repeat (first | exact (Kd.C_below HR0.out HB.out) | (with_reducible refine Kd.C_alloc ?_ _) | (with_reducible refine Kd.C_drewN ?_ _) | (with_reducible refine Kd.C_drew ?_))); (case side2 => exact HC0.out); (case side3 => repeat (first | exact (by repeat (first | (with_reducible exact HR313.out) | (with_reducible refine Kd.C_alloc ?_ _) | (with_reducible refine Kd.C_drewN ?_ _) | (with_reducible refine Kd.C_drew ?_) | exact HR313.out)) | (with_reducible refine Kd.C_alloc ?_ _) | (with_reducible refine Kd.C_drewN ?_ _) | (with_reducible refine Kd.C_drew ?_))); (case side4 => exact HC313.out); rintro e w64 ⟨v318, rfl, ho0, hb⟩; obtain ⟨Av318_, nv318_, cv318_, hv318_⟩ : ∃ A n c, v318 = .slice A n c := (by obtain ⟨_, _, h_, _⟩ := ho0; obtain ⟨A, c, e⟩ := own_slice h_; exact ⟨A, _, c, e⟩); subst hv318_; refine ⟨_, rfl, ?_⟩; have n0_ := Aside0.mk (Kd.S_elder' (by (with_reducible repeat (first | apply Kd.S_alloc | apply Kd.S_drewN | apply Kd.S_drew)); exact HO_16.out) (Kd.R_base ho0) hb); have n1_ := Aside0.mk (Kd.R_elder' (by (with_reducible repeat (first | apply Kd.R_alloc | apply Kd.R_drewN | apply Kd.R_drew)); exact HO309.out) (Kd.R_base ho0) hb); have n2_ := Aside0.mk (Kd.R_lower (Kd.R_new' ho0 (Kd.R_lt (by (with_reducible repeat (first | apply Kd.R_alloc | apply Kd.R_drewN | apply Kd.R_drew)); exact HO309.out))) (below_size (by repeat (first | (with_reducible first | exact HB.out | apply below_alloc | apply pw_below_drewN | apply below_drew1) | exact HB.out)))); have n3_ := Aside0.mk (Kd.C_below (by repeat (first | (with_reducible exact HR313.out) | (with_reducible refine Kd.C_alloc ?_ _) | (with_reducible refine Kd.C_drewN ?_ _) | (with_reducible refine Kd.C_drew ?_) | exact HR313.out)) hb); have n4_ := Aside0.mk (below_step (by repeat (first | (with_reducible first | exact HB.out | apply below_alloc | apply pw_below_drewN | apply below_drew1) | exact HB.out)) hb); clear HO_16; clear HO309; clear HR313; clear HB; have HO_16 := n0_; have HO309 := n1_; have HO319 := n2_; have HR313 := n3_; have HB := n4_; clear n0_ n1_ n2_ n3_ n4_; (try clear hb); (try clear hb2); (try clear hk); (try clear hi); (try clear ho0)))
                                              go_ret
                                              exact ⟨by first | rfl | (simp [errW_none, errW_some] <;> rfl) | (simp only [← hji38]; first | rfl | (simp [errW_none, errW_some] <;> rfl)) | (simp [*, errW_none, errW_some] <;> rfl), by repeat (first | (with_reducible first | exact HB.out | apply below_alloc | apply pw_below_drewN | apply below_drew1) | exact HB.out)⟩
                                            · replace c61 := Bool.eq_false_iff.mpr c61
                                              subst c61
                                              have H1 : (if t316 = true then (if t315 = 0 then (some ((t314.length : Int) == t289)) else (some false)) else (some false)) = some r := by rw [if_neg (show ¬ (false = true) by decide)] at H; exact H
                                              clear H
                                              have H := H1
                                              clear H1
                                              by_cases c65 : t316 = true
                                              · subst c65
                                                have H1 : (if t315 = 0 then (some ((t314.length : Int) == t289)) else (some false)) = some r := by rw [if_pos rfl] at H; exact H
                                                clear H
                                                have H := H1
                                                clear H1
                                                by_cases c66 : t315 = 0
                                                · rw [if_pos c66] at H
                                                  have c66b0 : (t315 == 0) = true := beq_iff_eq.mpr c66
                                                  have c66b1 : (t315 != 0) = false := bne_eq_false_iff_eq.mpr c66
                                                  clear c66
                                                  obtain rfl := Option.some.inj H
                                                  go_wp2_with (first | ((with_reducible refine gate_callee (f := 15) rfl ?_); refine goesL_ (some 119) rfl rfl Try.func15 (by kernel_rfl) rfl #[.slice A0 l0.length c0, .int .i64 a1, .slice Ao44 x16_4.length co44] rfl (by (try simp only [List.map_toArray, List.map_cons, List.map_nil]); first | done | rfl | (simp only [List.length_drop, List.length_take]; rfl)) ?_; (with_reducible refine (rounds_Place.calls _ _ l0 a1 _ _ x16_4 t304 t305 false t307 _ ?side1 ?side2 ?side3 ?side4 A55.out).mono ?_); (case side1 => repeat (first | exact (Kd.C_below HR0.out HB.out) | (with_reducible refine Kd.C_alloc ?_ _) | (with_reducible refine Kd.C_drewN ?_ _) | (with_reducible refine Kd.C_drew ?_))); (case side2 => exact HC0.out); (case side3 => repeat (first | exact (Kd.S_reads' HO_16.out).2.2 | (with_reducible refine Kd.C_alloc ?_ _) | (with_reducible refine Kd.C_drewN ?_ _) | (with_reducible refine Kd.C_drew ?_))); (case side4 => exact (Kd.S_reads' HO_16.out).2.1); rintro e w67 ⟨v308, rfl, ho0, hb⟩; obtain ⟨Av308_, nv308_, cv308_, hv308_⟩ : ∃ A n c, v308 = .slice A n c := (by obtain ⟨_, _, h_, _⟩ := ho0; obtain ⟨A, c, e⟩ := own_slice h_; exact ⟨A, _, c, e⟩); subst hv308_; refine ⟨_, rfl, ?_⟩; have n0_ := Aside0.mk (Kd.S_elder' (by (with_reducible repeat (first | apply Kd.S_alloc | apply Kd.S_drewN | apply Kd.S_drew)); exact HO_16.out) (Kd.R_base ho0) hb); have n1_ := Aside0.mk (Kd.R_lower ho0 (below_size (by repeat (first | (with_reducible first | exact HB.out | apply below_alloc | apply pw_below_drewN | apply below_drew1) | exact HB.out)))); have n2_ := Aside0.mk (below_step (by repeat (first | (with_reducible first | exact HB.out | apply below_alloc | apply pw_below_drewN | apply below_drew1) | exact HB.out)) hb); clear HO_16; clear HB; have HO_16 := n0_; have HO309 := n1_; have HB := n2_; clear n0_ n1_ n2_; (try clear hb); (try clear hb2); (try clear hk); (try clear hi); (try clear ho0); have q68 : (t289 : Int) ≤ ((x16_4.length : Int) : Int) := of_decide_eq_true (by first | (with_reducible assumption) | assumption); obtain ⟨i068, hi068, _, hsz68, _⟩ := info_parts info22; have hroom68 : x16_4.length ≤ co44 := (Kd.S_reads' HO_16.out).2.1; have hC68 : Kd.C (Kd.slice 3 (Kd.int .i64)) _ Ao44 x16_4.length x16_4 := (Kd.S_reads' HO_16.out).2.2; have hcut68 := cut_to (P := Try.prog) 29 22 .i64 Try.underlying29 hi068 Ao44 x16_4.length co44 t289 (of_decide_eq_true (by first | (with_reducible assumption) | assumption)) q68 hroom68; have hr68 := Kd.C_take (m := (t289 : Int).toNat) hC68 (by omega); have hy68 : y310.length = (t289 : Int).toNat := (by rw [Ny310.out, List.length_take]; omega); rw [← Ny310.out] at hr68; rw [← hy68] at hcut68; have HR313 := Aside0.mk hr68; have HC313 := Aside0.mk (show y310.length ≤ co44 from by omega); clear hr68 hC68 hroom68 hi068 hsz68; have KY68 := Aside0.mk hy68; clear hy68; have KL68 := Aside0.mk (show (t289 : Int).toNat ≤ x16_4.length from by omega); replace q68 := eq_true q68) | ((with_reducible refine gate_callee (f := 15) rfl ?_); refine goesL_ (some 130) rfl rfl Try.func15 (by kernel_rfl) rfl #[.slice A0 l0.length c0, .int .i64 a1, .slice Ao44 y310.length co44] rfl (by (try simp only [List.map_toArray, List.map_cons, List.map_nil]); first | done | rfl | (simp only [List.length_drop, List.length_take]; rfl)) ?_; (with_reducible refine (rounds_Place.calls _ _ l0 a1 _ _ y310 t314 t315 true t317 _ ?side1 ?side2 ?side3 ?side4 A58.out).mono ?_); (case side1 => repeat (first | exact (Kd.C_below HR0.out HB.out) | (with_reducible refine Kd.C_alloc ?_ _) | (with_reducible refine Kd.C_drewN ?_ _) | (with_reducible refine Kd.C_drew ?_))); (case side2 => exact HC0.out); (case side3 => repeat (first | exact (by repeat (first | (with_reducible exact HR313.out) | (with_reducible refine Kd.C_alloc ?_ _) | (with_reducible refine Kd.C_drewN ?_ _) | (with_reducible refine Kd.C_drew ?_) | exact HR313.out)) | (with_reducible refine Kd.C_alloc ?_ _) | (with_reducible refine Kd.C_drewN ?_ _) | (with_reducible refine Kd.C_drew ?_))); (case side4 => exact HC313.out); rintro e w69 ⟨v318, rfl, ho0, hb⟩; obtain ⟨Av318_, nv318_, cv318_, hv318_⟩ : ∃ A n c, v318 = .slice A n c := (by obtain ⟨_, _, h_, _⟩ := ho0; obtain ⟨A, c, e⟩ := own_slice h_; exact ⟨A, _, c, e⟩); subst hv318_; refine ⟨_, rfl, ?_⟩; have n0_ := Aside0.mk (Kd.S_elder' (by (with_reducible repeat (first | apply Kd.S_alloc | apply Kd.S_drewN | apply Kd.S_drew)); exact HO_16.out) (Kd.R_base ho0) hb); have n1_ := Aside0.mk (Kd.R_elder' (by (with_reducible repeat (first | apply Kd.R_alloc | apply Kd.R_drewN | apply Kd.R_drew)); exact HO309.out) (Kd.R_base ho0) hb); have n2_ := Aside0.mk (Kd.R_lower (Kd.R_new' ho0 (Kd.R_lt (by (with_reducible repeat (first | apply Kd.R_alloc | apply Kd.R_drewN | apply Kd.R_drew)); exact HO309.out))) (below_size (by repeat (first | (with_reducible first | exact HB.out | apply below_alloc | apply pw_below_drewN | apply below_drew1) | exact HB.out)))); have n3_ := Aside0.mk (Kd.C_below (by repeat (first | (with_reducible exact HR313.out) | (with_reducible refine Kd.C_alloc ?_ _) | (with_reducible refine Kd.C_drewN ?_ _) | (with_reducible refine Kd.C_drew ?_) | exact HR313.out)) hb); have n4_ := Aside0.mk (below_step (by repeat (first | (with_reducible first | exact HB.out | apply below_alloc | apply pw_below_drewN | apply below_drew1) | exact HB.out)) hb); clear HO_16; clear HO309; clear HR313; clear HB; have HO_16 := n0_; have HO309 := n1_; have HO319 := n2_; have HR313 := n3_; have HB := n4_; clear n0_ n1_ n2_ n3_ n4_; (try clear hb); (try clear hb2); (try clear hk); (try clear hi); (try clear ho0); obtain ⟨Ao70, co70, eo70⟩ := Kd.R_slice HO319.out; (first | subst eo70 | cases eo70)))
                                                  go_ret
                                                  exact ⟨by first | rfl | (simp [errW_none, errW_some] <;> rfl) | (simp only [← hji38]; first | rfl | (simp [errW_none, errW_some] <;> rfl)) | (simp [*, errW_none, errW_some] <;> rfl), by repeat (first | (with_reducible first | exact HB.out | apply below_alloc | apply pw_below_drewN | apply below_drew1) | exact HB.out)⟩
                                                · rw [if_neg c66] at H
                                                  have c66b0 : (t315 == 0) = false := beq_eq_false_iff_ne.mpr c66
                                                  have c66b1 : (t315 != 0) = true := bne_iff_ne.mpr c66
                                                  obtain rfl := Option.some.inj H
                                                  go_wp2_with (first | ((with_reducible refine gate_callee (f := 15) rfl ?_); refine goesL_ (some 119) rfl rfl Try.func15 (by kernel_rfl) rfl #[.slice A0 l0.length c0, .int .i64 a1, .slice Ao44 x16_4.length co44] rfl (by (try simp only [List.map_toArray, List.map_cons, List.map_nil]); first | done | rfl | (simp only [List.length_drop, List.length_take]; rfl)) ?_; (with_reducible refine (rounds_Place.calls _ _ l0 a1 _ _ x16_4 t304 t305 false t307 _ ?side1 ?side2 ?side3 ?side4 A55.out).mono ?_); (case side1 => repeat (first | exact (Kd.C_below HR0.out HB.out) | (with_reducible refine Kd.C_alloc ?_ _) | (with_reducible refine Kd.C_drewN ?_ _) | (with_reducible refine Kd.C_drew ?_))); (case side2 => exact HC0.out); (case side3 => repeat (first | exact (Kd.S_reads' HO_16.out).2.2 | (with_reducible refine Kd.C_alloc ?_ _) | (with_reducible refine Kd.C_drewN ?_ _) | (with_reducible refine Kd.C_drew ?_))); (case side4 => exact (Kd.S_reads' HO_16.out).2.1); rintro e w71 ⟨v308, rfl, ho0, hb⟩; obtain ⟨Av308_, nv308_, cv308_, hv308_⟩ : ∃ A n c, v308 = .slice A n c := (by obtain ⟨_, _, h_, _⟩ := ho0; obtain ⟨A, c, e⟩ := own_slice h_; exact ⟨A, _, c, e⟩); subst hv308_; refine ⟨_, rfl, ?_⟩; have n0_ := Aside0.mk (Kd.S_elder' (by (with_reducible repeat (first | apply Kd.S_alloc | apply Kd.S_drewN | apply Kd.S_drew)); exact HO_16.out) (Kd.R_base ho0) hb); have n1_ := Aside0.mk (Kd.R_lower ho0 (below_size (by repeat (first | (with_reducible first | exact HB.out | apply below_alloc | apply pw_below_drewN | apply below_drew1) | exact HB.out)))); have n2_ := Aside0.mk (below_step (by repeat (first | (with_reducible first | exact HB.out | apply below_alloc | apply pw_below_drewN | apply below_drew1) | exact HB.out)) hb); clear HO_16; clear HB; have HO_16 := n0_; have HO309 := n1_; have HB := n2_; clear n0_ n1_ n2_; (try clear hb); (try clear hb2); (try clear hk); (try clear hi); (try clear ho0); have q72 : (t289 : Int) ≤ ((x16_4.length : Int) : Int) := of_decide_eq_true (by first | (with_reducible assumption) | assumption); obtain ⟨i072, hi072, _, hsz72, _⟩ := info_parts info22; have hroom72 : x16_4.length ≤ co44 := (Kd.S_reads' HO_16.out).2.1; have hC72 : Kd.C (Kd.slice 3 (Kd.int .i64)) _ Ao44 x16_4.length x16_4 := (Kd.S_reads' HO_16.out).2.2; have hcut72 := cut_to (P := Try.prog) 29 22 .i64 Try.underlying29 hi072 Ao44 x16_4.length co44 t289 (of_decide_eq_true (by first | (with_reducible assumption) | assumption)) q72 hroom72; have hr72 := Kd.C_take (m := (t289 : Int).toNat) hC72 (by omega); have hy72 : y310.length = (t289 : Int).toNat := (by rw [Ny310.out, List.length_take]; omega); rw [← Ny310.out] at hr72; rw [← hy72] at hcut72; have HR313 := Aside0.mk hr72; have HC313 := Aside0.mk (show y310.length ≤ co44 from by omega); clear hr72 hC72 hroom72 hi072 hsz72; have KY72 := Aside0.mk hy72; clear hy72; have KL72 := Aside0.mk (show (t289 : Int).toNat ≤ x16_4.length from by omega); replace q72 := eq_true q72) | ((with_reducible refine gate_callee (f := 15) rfl ?_); refine goesL_ (some 130) rfl rfl Try.func15 (by kernel_rfl) rfl #[.slice A0 l0.length c0, .int .i64 a1, .slice Ao44 y310.length co44] rfl (by (try simp only [List.map_toArray, List.map_cons, List.map_nil]); first | done | rfl | (simp only [List.length_drop, List.length_take]; rfl)) ?_; (with_reducible refine (rounds_Place.calls _ _ l0 a1 _ _ y310 t314 t315 true t317 _ ?side1 ?side2 ?side3 ?side4 A58.out).mono ?_); (case side1 => repeat (first | exact (Kd.C_below HR0.out HB.out) | (with_reducible refine Kd.C_alloc ?_ _) | (with_reducible refine Kd.C_drewN ?_ _) | (with_reducible refine Kd.C_drew ?_))); (case side2 => exact HC0.out); (case side3 => repeat (first | exact (by repeat (first | (with_reducible exact HR313.out) | (with_reducible refine Kd.C_alloc ?_ _) | (with_reducible refine Kd.C_drewN ?_ _) | (with_reducible refine Kd.C_drew ?_) | exact HR313.out)) | (with_reducible refine Kd.C_alloc ?_ _) | (with_reducible refine Kd.C_drewN ?_ _) | (with_reducible refine Kd.C_drew ?_))); (case side4 => exact HC313.out); rintro e w73 ⟨v318, rfl, ho0, hb⟩; obtain ⟨Av318_, nv318_, cv318_, hv318_⟩ : ∃ A n c, v318 = .slice A n c := (by obtain ⟨_, _, h_, _⟩ := ho0; obtain ⟨A, c, e⟩ := own_slice h_; exact ⟨A, _, c, e⟩); subst hv318_; refine ⟨_, rfl, ?_⟩; have n0_ := Aside0.mk (Kd.S_elder' (by (with_reducible repeat (first | apply Kd.S_alloc | apply Kd.S_drewN | apply Kd.S_drew)); exact HO_16.out) (Kd.R_base ho0) hb); have n1_ := Aside0.mk (Kd.R_elder' (by (with_reducible repeat (first | apply Kd.R_alloc | apply Kd.R_drewN | apply Kd.R_drew)); exact HO309.out) (Kd.R_base ho0) hb); have n2_ := Aside0.mk (Kd.R_lower (Kd.R_new' ho0 (Kd.R_lt (by (with_reducible repeat (first | apply Kd.R_alloc | apply Kd.R_drewN | apply Kd.R_drew)); exact HO309.out))) (below_size (by repeat (first | (with_reducible first | exact HB.out | apply below_alloc | apply pw_below_drewN | apply below_drew1) | exact HB.out)))); have n3_ := Aside0.mk (Kd.C_below (by repeat (first | (with_reducible exact HR313.out) | (with_reducible refine Kd.C_alloc ?_ _) | (with_reducible refine Kd.C_drewN ?_ _) | (with_reducible refine Kd.C_drew ?_) | exact HR313.out)) hb); have n4_ := Aside0.mk (below_step (by repeat (first | (with_reducible first | exact HB.out | apply below_alloc | apply pw_below_drewN | apply below_drew1) | exact HB.out)) hb); clear HO_16; clear HO309; clear HR313; clear HB; have HO_16 := n0_; have HO309 := n1_; have HO319 := n2_; have HR313 := n3_; have HB := n4_; clear n0_ n1_ n2_ n3_ n4_; (try clear hb); (try clear hb2); (try clear hk); (try clear hi); (try clear ho0)))
                                                  go_ret
                                                  exact ⟨by first | rfl | (simp [errW_none, errW_some] <;> rfl) | (simp only [← hji38]; first | rfl | (simp [errW_none, errW_some] <;> rfl)) | (simp [*, errW_none, errW_some] <;> rfl), by repeat (first | (with_reducible first | exact HB.out | apply below_alloc | apply pw_below_drewN | apply below_drew1) | exact HB.out)⟩
                                              · replace c65 := Bool.eq_false_iff.mpr c65
                                                subst c65
                                                have H1 : (some false) = some r := by rw [if_neg (show ¬ (false = true) by decide)] at H; exact H
                                                clear H
                                                have H := H1
                                                clear H1
                                                obtain rfl := Option.some.inj H
                                                go_wp2_with (first | ((with_reducible refine gate_callee (f := 15) rfl ?_); refine goesL_ (some 119) rfl rfl Try.func15 (by kernel_rfl) rfl #[.slice A0 l0.length c0, .int .i64 a1, .slice Ao44 x16_4.length co44] rfl (by (try simp only [List.map_toArray, List.map_cons, List.map_nil]); first | done | rfl | (simp only [List.length_drop, List.length_take]; rfl)) ?_; (with_reducible refine (rounds_Place.calls _ _ l0 a1 _ _ x16_4 t304 t305 false t307 _ ?side1 ?side2 ?side3 ?side4 A55.out).mono ?_); (case side1 => repeat (first | exact (Kd.C_below HR0.out HB.out) | (with_reducible refine Kd.C_alloc ?_ _) | (with_reducible refine Kd.C_drewN ?_ _) | (with_reducible refine Kd.C_drew ?_))); (case side2 => exact HC0.out); (case side3 => repeat (first | exact (Kd.S_reads' HO_16.out).2.2 | (with_reducible refine Kd.C_alloc ?_ _) | (with_reducible refine Kd.C_drewN ?_ _) | (with_reducible refine Kd.C_drew ?_))); (case side4 => exact (Kd.S_reads' HO_16.out).2.1); rintro e w74 ⟨v308, rfl, ho0, hb⟩; obtain ⟨Av308_, nv308_, cv308_, hv308_⟩ : ∃ A n c, v308 = .slice A n c := (by obtain ⟨_, _, h_, _⟩ := ho0; obtain ⟨A, c, e⟩ := own_slice h_; exact ⟨A, _, c, e⟩); subst hv308_; refine ⟨_, rfl, ?_⟩; have n0_ := Aside0.mk (Kd.S_elder' (by (with_reducible repeat (first | apply Kd.S_alloc | apply Kd.S_drewN | apply Kd.S_drew)); exact HO_16.out) (Kd.R_base ho0) hb); have n1_ := Aside0.mk (Kd.R_lower ho0 (below_size (by repeat (first | (with_reducible first | exact HB.out | apply below_alloc | apply pw_below_drewN | apply below_drew1) | exact HB.out)))); have n2_ := Aside0.mk (below_step (by repeat (first | (with_reducible first | exact HB.out | apply below_alloc | apply pw_below_drewN | apply below_drew1) | exact HB.out)) hb); clear HO_16; clear HB; have HO_16 := n0_; have HO309 := n1_; have HB := n2_; clear n0_ n1_ n2_; (try clear hb); (try clear hb2); (try clear hk); (try clear hi); (try clear ho0); have q75 : (t289 : Int) ≤ ((x16_4.length : Int) : Int) := of_decide_eq_true (by first | (with_reducible assumption) | assumption); obtain ⟨i075, hi075, _, hsz75, _⟩ := info_parts info22; have hroom75 : x16_4.length ≤ co44 := (Kd.S_reads' HO_16.out).2.1; have hC75 : Kd.C (Kd.slice 3 (Kd.int .i64)) _ Ao44 x16_4.length x16_4 := (Kd.S_reads' HO_16.out).2.2; have hcut75 := cut_to (P := Try.prog) 29 22 .i64 Try.underlying29 hi075 Ao44 x16_4.length co44 t289 (of_decide_eq_true (by first | (with_reducible assumption) | assumption)) q75 hroom75; have hr75 := Kd.C_take (m := (t289 : Int).toNat) hC75 (by omega); have hy75 : y310.length = (t289 : Int).toNat := (by rw [Ny310.out, List.length_take]; omega); rw [← Ny310.out] at hr75; rw [← hy75] at hcut75; have HR313 := Aside0.mk hr75; have HC313 := Aside0.mk (show y310.length ≤ co44 from by omega); clear hr75 hC75 hroom75 hi075 hsz75; have KY75 := Aside0.mk hy75; clear hy75; have KL75 := Aside0.mk (show (t289 : Int).toNat ≤ x16_4.length from by omega); replace q75 := eq_true q75) | ((with_reducible refine gate_callee (f := 15) rfl ?_); refine goesL_ (some 130) rfl rfl Try.func15 (by kernel_rfl) rfl #[.slice A0 l0.length c0, .int .i64 a1, .slice Ao44 y310.length co44] rfl (by (try simp only [List.map_toArray, List.map_cons, List.map_nil]); first | done | rfl | (simp only [List.length_drop, List.length_take]; rfl)) ?_; (with_reducible refine (rounds_Place.calls _ _ l0 a1 _ _ y310 t314 t315 false t317 _ ?side1 ?side2 ?side3 ?side4 A58.out).mono ?_); (case side1 => repeat (first | exact (Kd.C_below HR0.out HB.out) | (with_reducible refine Kd.C_alloc ?_ _) | (with_reducible refine Kd.C_drewN ?_ _) | (with_reducible refine Kd.C_drew ?_))); (case side2 => exact HC0.out); (case side3 => repeat (first | exact (by repeat (first | (with_reducible exact HR313.out) | (with_reducible refine Kd.C_alloc ?_ _) | (with_reducible refine Kd.C_drewN ?_ _) | (with_reducible refine Kd.C_drew ?_) | exact HR313.out)) | (with_reducible refine Kd.C_alloc ?_ _) | (with_reducible refine Kd.C_drewN ?_ _) | (with_reducible refine Kd.C_drew ?_))); (case side4 => exact HC313.out); rintro e w76 ⟨v318, rfl, ho0, hb⟩; obtain ⟨Av318_, nv318_, cv318_, hv318_⟩ : ∃ A n c, v318 = .slice A n c := (by obtain ⟨_, _, h_, _⟩ := ho0; obtain ⟨A, c, e⟩ := own_slice h_; exact ⟨A, _, c, e⟩); subst hv318_; refine ⟨_, rfl, ?_⟩; have n0_ := Aside0.mk (Kd.S_elder' (by (with_reducible repeat (first | apply Kd.S_alloc | apply Kd.S_drewN | apply Kd.S_drew)); exact HO_16.out) (Kd.R_base ho0) hb); have n1_ := Aside0.mk (Kd.R_elder' (by (with_reducible repeat (first | apply Kd.R_alloc | apply Kd.R_drewN | apply Kd.R_drew)); exact HO309.out) (Kd.R_base ho0) hb); have n2_ := Aside0.mk (Kd.R_lower (Kd.R_new' ho0 (Kd.R_lt (by (with_reducible repeat (first | apply Kd.R_alloc | apply Kd.R_drewN | apply Kd.R_drew)); exact HO309.out))) (below_size (by repeat (first | (with_reducible first | exact HB.out | apply below_alloc | apply pw_below_drewN | apply below_drew1) | exact HB.out)))); have n3_ := Aside0.mk (Kd.C_below (by repeat (first | (with_reducible exact HR313.out) | (with_reducible refine Kd.C_alloc ?_ _) | (with_reducible refine Kd.C_drewN ?_ _) | (with_reducible refine Kd.C_drew ?_) | exact HR313.out)) hb); have n4_ := Aside0.mk (below_step (by repeat (first | (with_reducible first | exact HB.out | apply below_alloc | apply pw_below_drewN | apply below_drew1) | exact HB.out)) hb); clear HO_16; clear HO309; clear HR313; clear HB; have HO_16 := n0_; have HO309 := n1_; have HO319 := n2_; have HR313 := n3_; have HB := n4_; clear n0_ n1_ n2_ n3_ n4_; (try clear hb); (try clear hb2); (try clear hk); (try clear hi); (try clear ho0)))
                                                go_ret
                                                exact ⟨by first | rfl | (simp [errW_none, errW_some] <;> rfl) | (simp only [← hji38]; first | rfl | (simp [errW_none, errW_some] <;> rfl)) | (simp [*, errW_none, errW_some] <;> rfl), by repeat (first | (with_reducible first | exact HB.out | apply below_alloc | apply pw_below_drewN | apply below_drew1) | exact HB.out)⟩
                                          · rw [if_neg c60] at H
                                            have c60b0 : (t317 == 0) = false := beq_eq_false_iff_ne.mpr c60
                                            have c60b1 : (t317 != 0) = true := bne_iff_ne.mpr c60
                                            obtain rfl := Option.some.inj H
                                            go_wp2_with (first | ((with_reducible refine gate_callee (f := 15) rfl ?_); refine goesL_ (some 119) rfl rfl Try.func15 (by kernel_rfl) rfl #[.slice A0 l0.length c0, .int .i64 a1, .slice Ao44 x16_4.length co44] rfl (by (try simp only [List.map_toArray, List.map_cons, List.map_nil]); first | done | rfl | (simp only [List.length_drop, List.length_take]; rfl)) ?_; (with_reducible refine (rounds_Place.calls _ _ l0 a1 _ _ x16_4 t304 t305 t306 t307 _ ?side1 ?side2 ?side3 ?side4 A55.out).mono ?_); (case side1 => repeat (first | exact (Kd.C_below HR0.out HB.out) | (with_reducible refine Kd.C_alloc ?_ _) | (with_reducible refine Kd.C_drewN ?_ _) | (with_reducible refine Kd.C_drew ?_))); (case side2 => exact HC0.out); (case side3 => repeat (first | exact (Kd.S_reads' HO_16.out).2.2 | (with_reducible refine Kd.C_alloc ?_ _) | (with_reducible refine Kd.C_drewN ?_ _) | (with_reducible refine Kd.C_drew ?_))); (case side4 => exact (Kd.S_reads' HO_16.out).2.1); rintro e w77 ⟨v308, rfl, ho0, hb⟩; obtain ⟨Av308_, nv308_, cv308_, hv308_⟩ : ∃ A n c, v308 = .slice A n c := (by obtain ⟨_, _, h_, _⟩ := ho0; obtain ⟨A, c, e⟩ := own_slice h_; exact ⟨A, _, c, e⟩); subst hv308_; refine ⟨_, rfl, ?_⟩; have n0_ := Aside0.mk (Kd.S_elder' (by (with_reducible repeat (first | apply Kd.S_alloc | apply Kd.S_drewN | apply Kd.S_drew)); exact HO_16.out) (Kd.R_base ho0) hb); have n1_ := Aside0.mk (Kd.R_lower ho0 (below_size (by repeat (first | (with_reducible first | exact HB.out | apply below_alloc | apply pw_below_drewN | apply below_drew1) | exact HB.out)))); have n2_ := Aside0.mk (below_step (by repeat (first | (with_reducible first | exact HB.out | apply below_alloc | apply pw_below_drewN | apply below_drew1) | exact HB.out)) hb); clear HO_16; clear HB; have HO_16 := n0_; have HO309 := n1_; have HB := n2_; clear n0_ n1_ n2_; (try clear hb); (try clear hb2); (try clear hk); (try clear hi); (try clear ho0); have q78 : (t289 : Int) ≤ ((x16_4.length : Int) : Int) := of_decide_eq_true (by first | (with_reducible assumption) | assumption); obtain ⟨i078, hi078, _, hsz78, _⟩ := info_parts info22; have hroom78 : x16_4.length ≤ co44 := (Kd.S_reads' HO_16.out).2.1; have hC78 : Kd.C (Kd.slice 3 (Kd.int .i64)) _ Ao44 x16_4.length x16_4 := (Kd.S_reads' HO_16.out).2.2; have hcut78 := cut_to (P := Try.prog) 29 22 .i64 Try.underlying29 hi078 Ao44 x16_4.length co44 t289 (of_decide_eq_true (by first | (with_reducible assumption) | assumption)) q78 hroom78; have hr78 := Kd.C_take (m := (t289 : Int).toNat) hC78 (by omega); have hy78 : y310.length = (t289 : Int).toNat := (by rw [Ny310.out, List.length_take]; omega); rw [← Ny310.out] at hr78; rw [← hy78] at hcut78; have HR313 := Aside0.mk hr78; have HC313 := Aside0.mk (show y310.length ≤ co44 from by omega); clear hr78 hC78 hroom78 hi078 hsz78; have KY78 := Aside0.mk hy78; clear hy78; have KL78 := Aside0.mk (show (t289 : Int).toNat ≤ x16_4.length from by omega); replace q78 := eq_true q78) | ((with_reducible refine gate_callee (f := 15) rfl ?_); refine goesL_ (some 130) rfl rfl Try.func15 (by kernel_rfl) rfl #[.slice A0 l0.length c0, .int .i64 a1, .slice Ao44 y310.length co44] rfl (by (try simp only [List.map_toArray, List.map_cons, List.map_nil]); first | done | rfl | (simp only [List.length_drop, List.length_take]; rfl)) ?_; (with_reducible refine (rounds_Place.calls _ _ l0 a1 _ _ y310 t314 t315 t316 t317 _ ?side1 ?side2 ?side3 ?side4 A58.out).mono ?_); (case side1 => repeat (first | exact (Kd.C_below HR0.out HB.out) | (with_reducible refine Kd.C_alloc ?_ _) | (with_reducible refine Kd.C_drewN ?_ _) | (with_reducible refine Kd.C_drew ?_))); (case side2 => exact HC0.out); (case side3 => repeat (first | exact (by repeat (first | (with_reducible exact HR313.out) | (with_reducible refine Kd.C_alloc ?_ _) | (with_reducible refine Kd.C_drewN ?_ _) | (with_reducible refine Kd.C_drew ?_) | exact HR313.out)) | (with_reducible refine Kd.C_alloc ?_ _) | (with_reducible refine Kd.C_drewN ?_ _) | (with_reducible refine Kd.C_drew ?_))); (case side4 => exact HC313.out); rintro e w79 ⟨v318, rfl, ho0, hb⟩; obtain ⟨Av318_, nv318_, cv318_, hv318_⟩ : ∃ A n c, v318 = .slice A n c := (by obtain ⟨_, _, h_, _⟩ := ho0; obtain ⟨A, c, e⟩ := own_slice h_; exact ⟨A, _, c, e⟩); subst hv318_; refine ⟨_, rfl, ?_⟩; have n0_ := Aside0.mk (Kd.S_elder' (by (with_reducible repeat (first | apply Kd.S_alloc | apply Kd.S_drewN | apply Kd.S_drew)); exact HO_16.out) (Kd.R_base ho0) hb); have n1_ := Aside0.mk (Kd.R_elder' (by (with_reducible repeat (first | apply Kd.R_alloc | apply Kd.R_drewN | apply Kd.R_drew)); exact HO309.out) (Kd.R_base ho0) hb); have n2_ := Aside0.mk (Kd.R_lower (Kd.R_new' ho0 (Kd.R_lt (by (with_reducible repeat (first | apply Kd.R_alloc | apply Kd.R_drewN | apply Kd.R_drew)); exact HO309.out))) (below_size (by repeat (first | (with_reducible first | exact HB.out | apply below_alloc | apply pw_below_drewN | apply below_drew1) | exact HB.out)))); have n3_ := Aside0.mk (Kd.C_below (by repeat (first | (with_reducible exact HR313.out) | (with_reducible refine Kd.C_alloc ?_ _) | (with_reducible refine Kd.C_drewN ?_ _) | (with_reducible refine Kd.C_drew ?_) | exact HR313.out)) hb); have n4_ := Aside0.mk (below_step (by repeat (first | (with_reducible first | exact HB.out | apply below_alloc | apply pw_below_drewN | apply below_drew1) | exact HB.out)) hb); clear HO_16; clear HO309; clear HR313; clear HB; have HO_16 := n0_; have HO309 := n1_; have HO319 := n2_; have HR313 := n3_; have HB := n4_; clear n0_ n1_ n2_ n3_ n4_; (try clear hb); (try clear hb2); (try clear hk); (try clear hi); (try clear ho0)))
                                            go_ret
                                            exact ⟨by first | rfl | (simp [errW_none, errW_some] <;> rfl) | (simp only [← hji38]; first | rfl | (simp [errW_none, errW_some] <;> rfl)) | (simp [*, errW_none, errW_some] <;> rfl), by repeat (first | (with_reducible first | exact HB.out | apply below_alloc | apply pw_below_drewN | apply below_drew1) | exact HB.out)⟩
                                        · rw [if_neg c59] at H
                                          have c59b0 : (t307 == 0) = false := beq_eq_false_iff_ne.mpr c59
                                          have c59b1 : (t307 != 0) = true := bne_iff_ne.mpr c59
                                          obtain rfl := Option.some.inj H
                                          go_wp2_with (first | ((with_reducible refine gate_callee (f := 15) rfl ?_); refine goesL_ (some 119) rfl rfl Try.func15 (by kernel_rfl) rfl #[.slice A0 l0.length c0, .int .i64 a1, .slice Ao44 x16_4.length co44] rfl (by (try simp only [List.map_toArray, List.map_cons, List.map_nil]); first | done | rfl | (simp only [List.length_drop, List.length_take]; rfl)) ?_; (with_reducible refine (rounds_Place.calls _ _ l0 a1 _ _ x16_4 t304 t305 t306 t307 _ ?side1 ?side2 ?side3 ?side4 A55.out).mono ?_); (case side1 => repeat (first | exact (Kd.C_below HR0.out HB.out) | (with_reducible refine Kd.C_alloc ?_ _) | (with_reducible refine Kd.C_drewN ?_ _) | (with_reducible refine Kd.C_drew ?_))); (case side2 => exact HC0.out); (case side3 => repeat (first | exact (Kd.S_reads' HO_16.out).2.2 | (with_reducible refine Kd.C_alloc ?_ _) | (with_reducible refine Kd.C_drewN ?_ _) | (with_reducible refine Kd.C_drew ?_))); (case side4 => exact (Kd.S_reads' HO_16.out).2.1); rintro e w80 ⟨v308, rfl, ho0, hb⟩; obtain ⟨Av308_, nv308_, cv308_, hv308_⟩ : ∃ A n c, v308 = .slice A n c := (by obtain ⟨_, _, h_, _⟩ := ho0; obtain ⟨A, c, e⟩ := own_slice h_; exact ⟨A, _, c, e⟩); subst hv308_; refine ⟨_, rfl, ?_⟩; have n0_ := Aside0.mk (Kd.S_elder' (by (with_reducible repeat (first | apply Kd.S_alloc | apply Kd.S_drewN | apply Kd.S_drew)); exact HO_16.out) (Kd.R_base ho0) hb); have n1_ := Aside0.mk (Kd.R_lower ho0 (below_size (by repeat (first | (with_reducible first | exact HB.out | apply below_alloc | apply pw_below_drewN | apply below_drew1) | exact HB.out)))); have n2_ := Aside0.mk (below_step (by repeat (first | (with_reducible first | exact HB.out | apply below_alloc | apply pw_below_drewN | apply below_drew1) | exact HB.out)) hb); clear HO_16; clear HB; have HO_16 := n0_; have HO309 := n1_; have HB := n2_; clear n0_ n1_ n2_; (try clear hb); (try clear hb2); (try clear hk); (try clear hi); (try clear ho0); have q81 : (t289 : Int) ≤ ((x16_4.length : Int) : Int) := of_decide_eq_true (by first | (with_reducible assumption) | assumption); obtain ⟨i081, hi081, _, hsz81, _⟩ := info_parts info22; have hroom81 : x16_4.length ≤ co44 := (Kd.S_reads' HO_16.out).2.1; have hC81 : Kd.C (Kd.slice 3 (Kd.int .i64)) _ Ao44 x16_4.length x16_4 := (Kd.S_reads' HO_16.out).2.2; have hcut81 := cut_to (P := Try.prog) 29 22 .i64 Try.underlying29 hi081 Ao44 x16_4.length co44 t289 (of_decide_eq_true (by first | (with_reducible assumption) | assumption)) q81 hroom81; have hr81 := Kd.C_take (m := (t289 : Int).toNat) hC81 (by omega); have hy81 : y310.length = (t289 : Int).toNat := (by rw [Ny310.out, List.length_take]; omega); rw [← Ny310.out] at hr81; rw [← hy81] at hcut81; have HR313 := Aside0.mk hr81; have HC313 := Aside0.mk (show y310.length ≤ co44 from by omega); clear hr81 hC81 hroom81 hi081 hsz81; have KY81 := Aside0.mk hy81; clear hy81; have KL81 := Aside0.mk (show (t289 : Int).toNat ≤ x16_4.length from by omega); replace q81 := eq_true q81) | ((with_reducible refine gate_callee (f := 15) rfl ?_); refine goesL_ (some 130) rfl rfl Try.func15 (by kernel_rfl) rfl #[.slice A0 l0.length c0, .int .i64 a1, .slice Ao44 y310.length co44] rfl (by (try simp only [List.map_toArray, List.map_cons, List.map_nil]); first | done | rfl | (simp only [List.length_drop, List.length_take]; rfl)) ?_; (with_reducible refine (rounds_Place.calls _ _ l0 a1 _ _ y310 t314 t315 t316 t317 _ ?side1 ?side2 ?side3 ?side4 A58.out).mono ?_); (case side1 => repeat (first | exact (Kd.C_below HR0.out HB.out) | (with_reducible refine Kd.C_alloc ?_ _) | (with_reducible refine Kd.C_drewN ?_ _) | (with_reducible refine Kd.C_drew ?_))); (case side2 => exact HC0.out); (case side3 => repeat (first | exact (by repeat (first | (with_reducible exact HR313.out) | (with_reducible refine Kd.C_alloc ?_ _) | (with_reducible refine Kd.C_drewN ?_ _) | (with_reducible refine Kd.C_drew ?_) | exact HR313.out)) | (with_reducible refine Kd.C_alloc ?_ _) | (with_reducible refine Kd.C_drewN ?_ _) | (with_reducible refine Kd.C_drew ?_))); (case side4 => exact HC313.out); rintro e w82 ⟨v318, rfl, ho0, hb⟩; obtain ⟨Av318_, nv318_, cv318_, hv318_⟩ : ∃ A n c, v318 = .slice A n c := (by obtain ⟨_, _, h_, _⟩ := ho0; obtain ⟨A, c, e⟩ := own_slice h_; exact ⟨A, _, c, e⟩); subst hv318_; refine ⟨_, rfl, ?_⟩; have n0_ := Aside0.mk (Kd.S_elder' (by (with_reducible repeat (first | apply Kd.S_alloc | apply Kd.S_drewN | apply Kd.S_drew)); exact HO_16.out) (Kd.R_base ho0) hb); have n1_ := Aside0.mk (Kd.R_elder' (by (with_reducible repeat (first | apply Kd.R_alloc | apply Kd.R_drewN | apply Kd.R_drew)); exact HO309.out) (Kd.R_base ho0) hb); have n2_ := Aside0.mk (Kd.R_lower (Kd.R_new' ho0 (Kd.R_lt (by (with_reducible repeat (first | apply Kd.R_alloc | apply Kd.R_drewN | apply Kd.R_drew)); exact HO309.out))) (below_size (by repeat (first | (with_reducible first | exact HB.out | apply below_alloc | apply pw_below_drewN | apply below_drew1) | exact HB.out)))); have n3_ := Aside0.mk (Kd.C_below (by repeat (first | (with_reducible exact HR313.out) | (with_reducible refine Kd.C_alloc ?_ _) | (with_reducible refine Kd.C_drewN ?_ _) | (with_reducible refine Kd.C_drew ?_) | exact HR313.out)) hb); have n4_ := Aside0.mk (below_step (by repeat (first | (with_reducible first | exact HB.out | apply below_alloc | apply pw_below_drewN | apply below_drew1) | exact HB.out)) hb); clear HO_16; clear HO309; clear HR313; clear HB; have HO_16 := n0_; have HO309 := n1_; have HO319 := n2_; have HR313 := n3_; have HB := n4_; clear n0_ n1_ n2_ n3_ n4_; (try clear hb); (try clear hb2); (try clear hk); (try clear hi); (try clear ho0)))
                                          go_ret
                                          exact ⟨by first | rfl | (simp [errW_none, errW_some] <;> rfl) | (simp only [← hji38]; first | rfl | (simp [errW_none, errW_some] <;> rfl)) | (simp [*, errW_none, errW_some] <;> rfl), by repeat (first | (with_reducible first | exact HB.out | apply below_alloc | apply pw_below_drewN | apply below_drew1) | exact HB.out)⟩
                                      · rw [if_neg c57] at H
                                        exact absurd H (by simp)
                                    · rw [if_neg c56] at H
                                      exact absurd H (by simp)
                            · rw [if_neg c40] at H
                              exact absurd H (by simp)
                          · rw [if_neg c39] at H
                            exact absurd H (by simp)
  · replace c5 := Bool.eq_false_iff.mpr c5
    subst c5
    have H1 : (some false) = some r := by rw [if_neg (show ¬ (false = true) by decide)] at H; exact H
    clear H
    have H := H1
    clear H1
    obtain rfl := Option.some.inj H
    go_enter Try.func7, Try.ntmps7
    go_wp2_with (first | ((with_reducible refine gate_callee (f := 9) rfl ?_); refine goesL_ (some 26) rfl rfl Try.func9 (by kernel_rfl) rfl #[] rfl (by (try simp only [List.map_toArray, List.map_cons, List.map_nil]); first | done | rfl | (simp only [List.length_drop, List.length_take]; rfl)) ?_; (with_reducible refine (fastilaw32_sane.calls  false _ A4.out).mono ?_); rintro e w83 ⟨rfl, hb⟩; refine ⟨_, rfl, ?_⟩; have n0_ := Aside0.mk (below_step (by repeat (first | (with_reducible first | exact HB.out | apply below_alloc | apply pw_below_drewN | apply below_drew1) | exact HB.out)) hb); clear HB; have HB := n0_; clear n0_; (try clear hb); (try clear hb2); (try clear hk); (try clear hi)))
    go_ret
    exact ⟨by first | rfl | (simp [errW_none, errW_some] <;> rfl) | (simp [*, errW_none, errW_some] <;> rfl), by repeat (first | (with_reducible first | exact HB.out | apply below_alloc | apply pw_below_drewN | apply below_drew1) | exact HB.out)⟩

/-- THE ONE PURE STATEMENT of fastilaw32_RoundsMost: yours. -/
def fastilaw32_RoundsMost.Pure : Prop := ∀ (l0 : List Int) (a1 : Int) (l2 : List Int), l0.length ≤ maxLen → l0.length * 8 ≤ 140737488351232 → (∀ x ∈ l0, (Lit.int .i64 x).wf = true) → (Lit.int .i64 a1).wf = true → l2.length ≤ maxLen → l2.length * 2 ≤ 140737488351232 → (∀ x ∈ l2, (Lit.int .u16 x).wf = true) → ∃ k, fastilaw32_RoundsMost.f k l0 a1 l2 = some true
theorem fastilaw32_RoundsMost.walk (P : fastilaw32_RoundsMost.Pure) (a0 : Option Addr) (len0 cap0 : Nat) (z0 : List Int) (a1 : Int) (a2 : Option Addr) (len2 cap2 : Nat) (z2 : List Int) (w : World) (w0 : (a0 = none ∧ len0 = 0 ∧ cap0 = 0 ∧ z0 = []) ∨ ∃ x, a0 = some x ∧ len0 ≤ cap0 ∧ cap0 ≤ maxLen ∧ z0.length = cap0 ∧ (∀ i, i < z0.length → w.cell? (x.add i) = some (.int .i64 (z0.getD i 0))) ∧ ∀ n ∈ z0, (Lit.int .i64 n).wf = true) (y0 : len0 * 8 ≤ 140737488351232) (w1 : (Lit.int .i64 a1).wf = true) (w2 : (a2 = none ∧ len2 = 0 ∧ cap2 = 0 ∧ z2 = []) ∨ ∃ x, a2 = some x ∧ len2 ≤ cap2 ∧ cap2 ≤ maxLen ∧ z2.length = cap2 ∧ (∀ i, i < z2.length → w.cell? (x.add i) = some (.int .u16 (z2.getD i 0))) ∧ ∀ n ∈ z2, (Lit.int .u16 n).wf = true) (y2 : len2 * 2 ≤ 140737488351232) :
    Calls Try.prog 7 #[.slice a0 len0 cap0, .int .i64 a1, .slice a2 len2 cap2] w fun e w' => e = .returned (.bool true) ∧ Below w.heap.size w w' := by
  obtain ⟨l0, rfl, hr0, hm0, hw0, hc0⟩ := ReadsInt.ofRowC w0
  obtain ⟨l2, rfl, hr2, hm2, hw2, hc2⟩ := ReadsInt.ofRowC w2
  obtain ⟨k, h⟩ := P l0 a1 l2 hm0 y0 hw0 w1 hm2 y2 hw2
  refine (fastilaw32_RoundsMost.calls k _ _ l0 a1 _ _ l2 true w (Kd.C_of_reads (d := (0 : Int)) (h1 := fun _ => rfl) hr0) hc0 (Kd.C_of_reads (d := (0 : Int)) (h1 := fun _ => rfl) hr2) hc2 h).mono ?_
  rintro e w' ⟨rfl, hd⟩
  exact ⟨rfl, hd⟩

-- NOT PRINTED: function 8 (fastilaw32_RoundsPrices)

end Go.Proofs.Ytaagpnbnjdpjgaa.X
