/- Proved here: for functions of the program and of the reference, what each call returns (theorems '.calls'), under the conditions that each theorem names. Printed by this project's own driver over the kit's printer; parts marked EXT are written by hand. Lean checks it. -/
import Derived.Test.YtaagpnbnjdpjgaaX0
import Derived.Test.YtaagpnbnjdpjgaaX5
import Derived.Test.YtaagpnbnjdpjgaaX6
import Derived.Test.YtaagpnbnjdpjgaaX8
import Derived.Test.YtaagpnbnjdpjgaaX9
import Derived.Test.YtaagpnbnjdpjgaaX10
import Derived.Test.YtaagpnbnjdpjgaaX14
namespace Go.Proofs.Ytaagpnbnjdpjgaa.X
open Go.RowKit Go.Proofs.YtaagpnbnjdpjgaaW.PrintWords Go.Proofs.YtaagpnbnjdpjgaaW.PrintLast Go.Proofs.YtaagpnbnjdpjgaaW.PrintMore
attribute [local go_sem] max2_int min2_int max_two min_two max_three min_three max_four min_four   -- for this text's walks alone
set_option linter.unusedVariables false
set_option linter.unusedSimpArgs false

/-! ### fastilaw32_RoundsPossible: function 6 -/
mutual
def fastilaw32_RoundsPossible.j0 : Nat → List Int → Int → List (List Int) → List Int → Bool → Option (Bool)
  | 0, _, _, _, _, _ => none
  | k + 1, x0, x1, x2, x3, x36 => if x36 = true then (some true) else ((rounds_Earliest.f x0 x1 x2).bind fun bt267 => ((rounds_Place.f x0 x1 x2).bind fun bt271 => (if bt267.2 = 0 then (if bt271.2.2.2 = 0 then (if (bt267.1.length : Int) = (x2.length : Int) then (if bt271.2.2.1 = true then (fastilaw32_RoundsPossible.j1 k x0 x1 x2 x3 bt267.1 bt271.1 bt271.2.2.1 ((bt271.1.length : Int) != (x2.length : Int))) else (fastilaw32_RoundsPossible.j1 k x0 x1 x2 x3 bt267.1 bt271.1 bt271.2.2.1 false)) else (fastilaw32_RoundsPossible.j1 k x0 x1 x2 x3 bt267.1 bt271.1 bt271.2.2.1 true)) else (fastilaw32_RoundsPossible.j1 k x0 x1 x2 x3 bt267.1 bt271.1 bt271.2.2.1 true)) else (fastilaw32_RoundsPossible.j1 k x0 x1 x2 x3 bt267.1 bt271.1 bt271.2.2.1 true))))
def fastilaw32_RoundsPossible.j1 : Nat → List Int → Int → List (List Int) → List Int → List Int → List Int → Bool → Bool → Option (Bool)
  | 0, _, _, _, _, _, _, _, _ => none
  | k + 1, x0, x1, x2, x3, x9, x11, x13, x75 => if x75 = true then (some false) else (fastilaw32_RoundsPossible.l0 k x0 x1 x2 x3 x9 x11 x13 true x9 (x9.length : Int) 0)
def fastilaw32_RoundsPossible.l0 : Nat → List Int → Int → List (List Int) → List Int → List Int → List Int → Bool → Bool → List Int → Int → Int → Option (Bool)
  | 0, _, _, _, _, _, _, _, _, _, _, _ => none
  | k + 1, x0, x1, x2, x3, x9, x11, x13, x15, x76, x77, x78 => if x78 < x77 then (if 0 ≤ x78 then (if x78 < (x76.length : Int) then (if x15 = true then (if (rd x76 x78) < (-1) then (some false) else (if (rd x76 x78) ≥ (x0.length : Int) then (some false) else (if ((decide ((rd x76 x78) < 0)) == (decide ((rd x76 x78) ≥ 0))) = true then (some false) else (fastilaw32_RoundsPossible.l0 k x0 x1 x2 x3 x9 x11 x13 (decide ((rd x76 x78) ≥ 0)) x76 x77 (wrap64 (x78 + 1)))))) else (if (rd x76 x78) < (-1) then (some false) else (if (rd x76 x78) ≥ (x0.length : Int) then (some false) else (if ((decide ((rd x76 x78) < 0)) == false) = true then (some false) else (fastilaw32_RoundsPossible.l0 k x0 x1 x2 x3 x9 x11 x13 false x76 x77 (wrap64 (x78 + 1))))))) else (none)) else (none)) else ((fastiref32_Placed.f k x0 x1 x2 x9).bind fun bt278 => (if (bt278.2 != x15) = true then (fastilaw32_RoundsPossible.j3 k x0 x1 x2 x3 x9 x11 x13 true) else (fastilaw32_RoundsPossible.j3 k x0 x1 x2 x3 x9 x11 x13 (x13 != x15))))
def fastilaw32_RoundsPossible.j3 : Nat → List Int → Int → List (List Int) → List Int → List Int → List Int → Bool → Bool → Option (Bool)
  | 0, _, _, _, _, _, _, _, _ => none
  | k + 1, x0, x1, x2, x3, x9, x11, x13, x117 => if x117 = true then (some false) else ((fastiref32_Placed.f k x0 x1 x2 x3).bind fun bt280 => (fastilaw32_RoundsPossible.l1 k x3 x11 x13 bt280.2 x9 (x9.length : Int) 0))
def fastilaw32_RoundsPossible.l1 : Nat → List Int → List Int → Bool → Bool → List Int → Int → Int → Option (Bool)
  | 0, _, _, _, _, _, _, _ => none
  | k + 1, x3, x11, x13, x21, x126, x127, x128 => if x128 < x127 then (if 0 ≤ x128 then (if x128 < (x126.length : Int) then (if x13 = true then (if x128 < (x11.length : Int) then (if (rd x11 x128) < (rd x126 x128) then (some false) else (if x21 = true then (if x128 < (x3.length : Int) then (if (rd x3 x128) < (rd x126 x128) then (some false) else (fastilaw32_RoundsPossible.l1 k x3 x11 x13 x21 x126 x127 (wrap64 (x128 + 1)))) else (none)) else (fastilaw32_RoundsPossible.l1 k x3 x11 x13 x21 x126 x127 (wrap64 (x128 + 1))))) else (none)) else (if x21 = true then (if x128 < (x3.length : Int) then (if (rd x3 x128) < (rd x126 x128) then (some false) else (fastilaw32_RoundsPossible.l1 k x3 x11 x13 x21 x126 x127 (wrap64 (x128 + 1)))) else (none)) else (fastilaw32_RoundsPossible.l1 k x3 x11 x13 x21 x126 x127 (wrap64 (x128 + 1))))) else (none)) else (none)) else (if x21 = true then (some x13) else (some true))
end
def fastilaw32_RoundsPossible.f (k : Nat) (l0 : List Int) (a1 : Int) (l2 : List (List Int)) (l3 : List Int) : Option (Bool) := (fastilaw32_sane.f).bind fun t264 => (if t264 = true then ((fastiref32_Few.f k l0 l2).bind fun t265 => (if t265 = true then ((fastiref32_Check.f k l0 a1 l2).bind fun t266 => (fastilaw32_RoundsPossible.j0 k l0 a1 l2 l3 (t266 != 0))) else (fastilaw32_RoundsPossible.j0 k l0 a1 l2 l3 true))) else (some false))
theorem fastilaw32_RoundsPossible.mono_l : ∀ k, (∀ y0 y1 y2 y3 y4, LeO (fastilaw32_RoundsPossible.j0 k y0 y1 y2 y3 y4) (fastilaw32_RoundsPossible.j0 (k + 1) y0 y1 y2 y3 y4)) ∧ (∀ y0 y1 y2 y3 y4 y5 y6 y7, LeO (fastilaw32_RoundsPossible.j1 k y0 y1 y2 y3 y4 y5 y6 y7) (fastilaw32_RoundsPossible.j1 (k + 1) y0 y1 y2 y3 y4 y5 y6 y7)) ∧ (∀ y0 y1 y2 y3 y4 y5 y6 y7 y8 y9 y10, LeO (fastilaw32_RoundsPossible.l0 k y0 y1 y2 y3 y4 y5 y6 y7 y8 y9 y10) (fastilaw32_RoundsPossible.l0 (k + 1) y0 y1 y2 y3 y4 y5 y6 y7 y8 y9 y10)) ∧ (∀ y0 y1 y2 y3 y4 y5 y6 y7, LeO (fastilaw32_RoundsPossible.j3 k y0 y1 y2 y3 y4 y5 y6 y7) (fastilaw32_RoundsPossible.j3 (k + 1) y0 y1 y2 y3 y4 y5 y6 y7)) ∧ (∀ y0 y1 y2 y3 y4 y5 y6, LeO (fastilaw32_RoundsPossible.l1 k y0 y1 y2 y3 y4 y5 y6) (fastilaw32_RoundsPossible.l1 (k + 1) y0 y1 y2 y3 y4 y5 y6))
  | 0 => ⟨fun _ _ _ _ _ r h => by simp [fastilaw32_RoundsPossible.j0] at h, fun _ _ _ _ _ _ _ _ r h => by simp [fastilaw32_RoundsPossible.j1] at h, fun _ _ _ _ _ _ _ _ _ _ _ r h => by simp [fastilaw32_RoundsPossible.l0] at h, fun _ _ _ _ _ _ _ _ r h => by simp [fastilaw32_RoundsPossible.j3] at h, fun _ _ _ _ _ _ _ r h => by simp [fastilaw32_RoundsPossible.l1] at h⟩
  | k + 1 => by
    obtain ⟨ih0, ih1, ih2, ih3, ih4⟩ := fastilaw32_RoundsPossible.mono_l k
    refine ⟨?_, ?_, ?_, ?_, ?_⟩
    · intro y0 y1 y2 y3 y4
      unfold fastilaw32_RoundsPossible.j0
      repeat' first
      | (with_reducible exact ih0 _ _ _ _ _)
      | (with_reducible exact ih1 _ _ _ _ _ _ _ _)
      | (with_reducible exact ih2 _ _ _ _ _ _ _ _ _ _ _)
      | (with_reducible exact ih3 _ _ _ _ _ _ _ _)
      | (with_reducible exact ih4 _ _ _ _ _ _ _)
      | (with_reducible exact fastiref32_Check.mono _ _ _ _)
      | (with_reducible exact fastiref32_Few.mono _ _ _)
      | (with_reducible exact fastiref32_Placed.mono _ _ _ _ _)
      | (with_reducible exact LeO.refl _)
      | (with_reducible exact LeO.none _)
      | (with_reducible refine LeO.ite ?_ ?_)
      | (with_reducible refine LeO.bind ?_ (fun _ => ?_))
      | exact ih0 _ _ _ _ _
      | exact ih1 _ _ _ _ _ _ _ _
      | exact ih2 _ _ _ _ _ _ _ _ _ _ _
      | exact ih3 _ _ _ _ _ _ _ _
      | exact ih4 _ _ _ _ _ _ _
      | exact fastiref32_Check.mono _ _ _ _
      | exact fastiref32_Few.mono _ _ _
      | exact fastiref32_Placed.mono _ _ _ _ _
      | exact LeO.none _
      | refine LeO.ite ?_ ?_
      | refine LeO.bind ?_ (fun _ => ?_)
    · intro y0 y1 y2 y3 y4 y5 y6 y7
      unfold fastilaw32_RoundsPossible.j1
      repeat' first
      | (with_reducible exact ih0 _ _ _ _ _)
      | (with_reducible exact ih1 _ _ _ _ _ _ _ _)
      | (with_reducible exact ih2 _ _ _ _ _ _ _ _ _ _ _)
      | (with_reducible exact ih3 _ _ _ _ _ _ _ _)
      | (with_reducible exact ih4 _ _ _ _ _ _ _)
      | (with_reducible exact fastiref32_Check.mono _ _ _ _)
      | (with_reducible exact fastiref32_Few.mono _ _ _)
      | (with_reducible exact fastiref32_Placed.mono _ _ _ _ _)
      | (with_reducible exact LeO.refl _)
      | (with_reducible exact LeO.none _)
      | (with_reducible refine LeO.ite ?_ ?_)
      | (with_reducible refine LeO.bind ?_ (fun _ => ?_))
      | exact ih0 _ _ _ _ _
      | exact ih1 _ _ _ _ _ _ _ _
      | exact ih2 _ _ _ _ _ _ _ _ _ _ _
      | exact ih3 _ _ _ _ _ _ _ _
      | exact ih4 _ _ _ _ _ _ _
      | exact fastiref32_Check.mono _ _ _ _
      | exact fastiref32_Few.mono _ _ _
      | exact fastiref32_Placed.mono _ _ _ _ _
      | exact LeO.none _
      | refine LeO.ite ?_ ?_
      | refine LeO.bind ?_ (fun _ => ?_)
    · intro y0 y1 y2 y3 y4 y5 y6 y7 y8 y9 y10
      unfold fastilaw32_RoundsPossible.l0
      repeat' first
      | (with_reducible exact ih0 _ _ _ _ _)
      | (with_reducible exact ih1 _ _ _ _ _ _ _ _)
      | (with_reducible exact ih2 _ _ _ _ _ _ _ _ _ _ _)
      | (with_reducible exact ih3 _ _ _ _ _ _ _ _)
      | (with_reducible exact ih4 _ _ _ _ _ _ _)
      | (with_reducible exact fastiref32_Check.mono _ _ _ _)
      | (with_reducible exact fastiref32_Few.mono _ _ _)
      | (with_reducible exact fastiref32_Placed.mono _ _ _ _ _)
      | (with_reducible exact LeO.refl _)
      | (with_reducible exact LeO.none _)
      | (with_reducible refine LeO.ite ?_ ?_)
      | (with_reducible refine LeO.bind ?_ (fun _ => ?_))
      | exact ih0 _ _ _ _ _
      | exact ih1 _ _ _ _ _ _ _ _
      | exact ih2 _ _ _ _ _ _ _ _ _ _ _
      | exact ih3 _ _ _ _ _ _ _ _
      | exact ih4 _ _ _ _ _ _ _
      | exact fastiref32_Check.mono _ _ _ _
      | exact fastiref32_Few.mono _ _ _
      | exact fastiref32_Placed.mono _ _ _ _ _
      | exact LeO.none _
      | refine LeO.ite ?_ ?_
      | refine LeO.bind ?_ (fun _ => ?_)
    · intro y0 y1 y2 y3 y4 y5 y6 y7
      unfold fastilaw32_RoundsPossible.j3
      repeat' first
      | (with_reducible exact ih0 _ _ _ _ _)
      | (with_reducible exact ih1 _ _ _ _ _ _ _ _)
      | (with_reducible exact ih2 _ _ _ _ _ _ _ _ _ _ _)
      | (with_reducible exact ih3 _ _ _ _ _ _ _ _)
      | (with_reducible exact ih4 _ _ _ _ _ _ _)
      | (with_reducible exact fastiref32_Check.mono _ _ _ _)
      | (with_reducible exact fastiref32_Few.mono _ _ _)
      | (with_reducible exact fastiref32_Placed.mono _ _ _ _ _)
      | (with_reducible exact LeO.refl _)
      | (with_reducible exact LeO.none _)
      | (with_reducible refine LeO.ite ?_ ?_)
      | (with_reducible refine LeO.bind ?_ (fun _ => ?_))
      | exact ih0 _ _ _ _ _
      | exact ih1 _ _ _ _ _ _ _ _
      | exact ih2 _ _ _ _ _ _ _ _ _ _ _
      | exact ih3 _ _ _ _ _ _ _ _
      | exact ih4 _ _ _ _ _ _ _
      | exact fastiref32_Check.mono _ _ _ _
      | exact fastiref32_Few.mono _ _ _
      | exact fastiref32_Placed.mono _ _ _ _ _
      | exact LeO.none _
      | refine LeO.ite ?_ ?_
      | refine LeO.bind ?_ (fun _ => ?_)
    · intro y0 y1 y2 y3 y4 y5 y6
      unfold fastilaw32_RoundsPossible.l1
      repeat' first
      | (with_reducible exact ih0 _ _ _ _ _)
      | (with_reducible exact ih1 _ _ _ _ _ _ _ _)
      | (with_reducible exact ih2 _ _ _ _ _ _ _ _ _ _ _)
      | (with_reducible exact ih3 _ _ _ _ _ _ _ _)
      | (with_reducible exact ih4 _ _ _ _ _ _ _)
      | (with_reducible exact fastiref32_Check.mono _ _ _ _)
      | (with_reducible exact fastiref32_Few.mono _ _ _)
      | (with_reducible exact fastiref32_Placed.mono _ _ _ _ _)
      | (with_reducible exact LeO.refl _)
      | (with_reducible exact LeO.none _)
      | (with_reducible refine LeO.ite ?_ ?_)
      | (with_reducible refine LeO.bind ?_ (fun _ => ?_))
      | exact ih0 _ _ _ _ _
      | exact ih1 _ _ _ _ _ _ _ _
      | exact ih2 _ _ _ _ _ _ _ _ _ _ _
      | exact ih3 _ _ _ _ _ _ _ _
      | exact ih4 _ _ _ _ _ _ _
      | exact fastiref32_Check.mono _ _ _ _
      | exact fastiref32_Few.mono _ _ _
      | exact fastiref32_Placed.mono _ _ _ _ _
      | exact LeO.none _
      | refine LeO.ite ?_ ?_
      | refine LeO.bind ?_ (fun _ => ?_)
theorem fastilaw32_RoundsPossible.mono : ∀ a0 a1 a2 a3 k, LeO (fastilaw32_RoundsPossible.f k a0 a1 a2 a3) (fastilaw32_RoundsPossible.f (k + 1) a0 a1 a2 a3) := by
  intro a0 a1 a2 a3 k
  obtain ⟨ih0, ih1, ih2, ih3, ih4⟩ := fastilaw32_RoundsPossible.mono_l k
  unfold fastilaw32_RoundsPossible.f
  repeat' first
      | (with_reducible exact ih0 _ _ _ _ _)
      | (with_reducible exact ih1 _ _ _ _ _ _ _ _)
      | (with_reducible exact ih2 _ _ _ _ _ _ _ _ _ _ _)
      | (with_reducible exact ih3 _ _ _ _ _ _ _ _)
      | (with_reducible exact ih4 _ _ _ _ _ _ _)
      | (with_reducible exact fastiref32_Check.mono _ _ _ _)
      | (with_reducible exact fastiref32_Few.mono _ _ _)
      | (with_reducible exact fastiref32_Placed.mono _ _ _ _ _)
      | (with_reducible exact LeO.refl _)
      | (with_reducible exact LeO.none _)
      | (with_reducible refine LeO.ite ?_ ?_)
      | (with_reducible refine LeO.bind ?_ (fun _ => ?_))
      | exact ih0 _ _ _ _ _
      | exact ih1 _ _ _ _ _ _ _ _
      | exact ih2 _ _ _ _ _ _ _ _ _ _ _
      | exact ih3 _ _ _ _ _ _ _ _
      | exact ih4 _ _ _ _ _ _ _
      | exact fastiref32_Check.mono _ _ _ _
      | exact fastiref32_Few.mono _ _ _
      | exact fastiref32_Placed.mono _ _ _ _ _
      | exact LeO.none _
      | refine LeO.ite ?_ ?_
      | refine LeO.bind ?_ (fun _ => ?_)
set_option maxHeartbeats 8000000 in
set_option maxRecDepth 100000 in
theorem fastilaw32_RoundsPossible.calls (k : Nat) (A0 : Option Addr) (c0 : Nat) (l0 : List Int) (a1 : Int) (A2 : Option Addr) (c2 : Nat) (l2 : List (List Int)) (A3 : Option Addr) (c3 : Nat) (l3 : List Int) (r : Bool) (w : World) (hr0 : Kd.C (Kd.int .i64) w A0 l0.length l0) (hc0 : l0.length ≤ c0) (hr2 : Kd.C (Kd.slice 3 (Kd.int .i64)) w A2 l2.length l2) (hc2 : l2.length ≤ c2) (hr3 : Kd.C (Kd.int .i64) w A3 l3.length l3) (hc3 : l3.length ≤ c3) (h : fastilaw32_RoundsPossible.f k l0 a1 l2 l3 = some r) :
    Calls Try.prog 6 #[.slice A0 l0.length c0, .int .i64 a1, .slice A2 l2.length c2, .slice A3 l3.length c3] w fun e w' => e = .returned (.bool r) ∧ Below w.heap.size w w' := by
  have HR0 := Aside0.mk hr0
  have HC0 := Aside0.mk hc0
  clear hr0 hc0
  have HR2 := Aside0.mk hr2
  have HC2 := Aside0.mk hc2
  clear hr2 hc2
  have HR3 := Aside0.mk hr3
  have HC3 := Aside0.mk hc3
  clear hr3 hc3
  have HB := Aside0.mk (Below.refl w.heap.size w)
  have H : ((fastilaw32_sane.f).bind fun t264 => (if t264 = true then ((fastiref32_Few.f k l0 l2).bind fun t265 => (if t265 = true then ((fastiref32_Check.f k l0 a1 l2).bind fun t266 => (fastilaw32_RoundsPossible.j0 k l0 a1 l2 l3 (t266 != 0))) else (fastilaw32_RoundsPossible.j0 k l0 a1 l2 l3 true))) else (some false))) = some r := h
  clear h
  replace H := Option.bind_eq_some_iff.mp H
  obtain ⟨t264, A50, H⟩ := H
  replace H : (if t264 = true then ((fastiref32_Few.f k l0 l2).bind fun t265 => (if t265 = true then ((fastiref32_Check.f k l0 a1 l2).bind fun t266 => (fastilaw32_RoundsPossible.j0 k l0 a1 l2 l3 (t266 != 0))) else (fastilaw32_RoundsPossible.j0 k l0 a1 l2 l3 true))) else (some false)) = some r := H
  have A5 := Aside0.mk A50
  clear A50
  by_cases c6 : t264 = true
  · subst c6
    have H1 : ((fastiref32_Few.f k l0 l2).bind fun t265 => (if t265 = true then ((fastiref32_Check.f k l0 a1 l2).bind fun t266 => (fastilaw32_RoundsPossible.j0 k l0 a1 l2 l3 (t266 != 0))) else (fastilaw32_RoundsPossible.j0 k l0 a1 l2 l3 true))) = some r := by rw [if_pos rfl] at H; exact H
    clear H
    have H := H1
    clear H1
    have HC7 := Aside0.mk H
    clear H
    go_enter Try.func6, Try.ntmps6
    go_upto_region 3 with (first | ((with_reducible refine gate_callee (f := 9) rfl ?_); refine goesL_ (some 24) rfl rfl Try.func9 (by kernel_rfl) rfl #[] rfl (by (try simp only [List.map_toArray, List.map_cons, List.map_nil]); first | done | rfl | (simp only [List.length_drop, List.length_take]; rfl)) ?_; (with_reducible refine (fastilaw32_sane.calls  true _ A5.out).mono ?_); rintro e w8 ⟨rfl, hb⟩; refine ⟨_, rfl, ?_⟩; have n0_ := Aside0.mk (below_step (by repeat (first | (with_reducible first | exact HB.out | apply below_alloc | apply pw_below_drewN | apply below_drew1) | exact HB.out)) hb); clear HB; have HB := n0_; clear n0_; (try clear hb); (try clear hb2); (try clear hk); (try clear hi)))
    (try simp only [Act.put, List.setIfInBounds_toArray, List.set_cons_zero, List.set_cons_succ])
    go_cut [36] (fun v36 wc => ∃ (kq : Nat) (x36_6 : Bool), v36 = .bool x36_6 ∧ Aside0 (fastilaw32_RoundsPossible.j0 kq l0 a1 l2 l3 x36_6 = some r) ∧ Aside0 (kq ≤ k) ∧ Aside0 (Below w.heap.size w wc))
    case first =>
      have H := HC7.out
      clear HC7
      replace H := Option.bind_eq_some_iff.mp H
      obtain ⟨t265, A90, H⟩ := H
      replace H : (if t265 = true then ((fastiref32_Check.f k l0 a1 l2).bind fun t266 => (fastilaw32_RoundsPossible.j0 k l0 a1 l2 l3 (t266 != 0))) else (fastilaw32_RoundsPossible.j0 k l0 a1 l2 l3 true)) = some r := H
      have A9 := Aside0.mk A90
      clear A90
      by_cases c10 : t265 = true
      · subst c10
        have H1 : ((fastiref32_Check.f k l0 a1 l2).bind fun t266 => (fastilaw32_RoundsPossible.j0 k l0 a1 l2 l3 (t266 != 0))) = some r := by rw [if_pos rfl] at H; exact H
        clear H
        have H := H1
        clear H1
        replace H := Option.bind_eq_some_iff.mp H
        obtain ⟨t266, A110, H⟩ := H
        replace H : (fastilaw32_RoundsPossible.j0 k l0 a1 l2 l3 (t266 != 0)) = some r := H
        have A11 := Aside0.mk A110
        clear A110
        have H' := Aside0.mk H
        clear H
        go_wp2_with (first | ((with_reducible refine gate_callee (f := 10) rfl ?_); refine goesL_ (some 28) rfl rfl Try.func10 (by kernel_rfl) rfl #[.slice A0 l0.length c0, .slice A2 l2.length c2] rfl (by (try simp only [List.map_toArray, List.map_cons, List.map_nil]); first | done | rfl | (simp only [List.length_drop, List.length_take]; rfl)) ?_; (with_reducible refine (fastiref32_Few.calls k _ _ l0 _ _ l2 true _ ?side1 ?side2 ?side3 ?side4 A9.out).mono ?_); (case side1 => repeat (first | exact (Kd.C_below HR0.out HB.out) | (with_reducible refine Kd.C_alloc ?_ _) | (with_reducible refine Kd.C_drewN ?_ _) | (with_reducible refine Kd.C_drew ?_))); (case side2 => exact HC0.out); (case side3 => repeat (first | exact (Kd.C_below HR2.out HB.out) | (with_reducible refine Kd.C_alloc ?_ _) | (with_reducible refine Kd.C_drewN ?_ _) | (with_reducible refine Kd.C_drew ?_))); (case side4 => exact HC2.out); rintro e w' ⟨rfl, ⟨nd, rfl⟩⟩; refine ⟨_, rfl, ?_⟩) | (go_at_call 18; (with_reducible refine (fastiref32_Check.calls k _ _ l0 a1 _ _ l2 t266 _ ?side1 ?side2 ?side3 ?side4 A11.out).mono ?_); (case side1 => repeat (first | exact (Kd.C_below HR0.out (by repeat (first | (with_reducible first | exact HB.out | apply below_alloc | apply pw_below_drewN | apply below_drew1) | exact HB.out))) | (with_reducible refine Kd.C_alloc ?_ _) | (with_reducible refine Kd.C_drewN ?_ _) | (with_reducible refine Kd.C_drew ?_))); (case side2 => exact HC0.out); (case side3 => repeat (first | exact (Kd.C_below HR2.out (by repeat (first | (with_reducible first | exact HB.out | apply below_alloc | apply pw_below_drewN | apply below_drew1) | exact HB.out))) | (with_reducible refine Kd.C_alloc ?_ _) | (with_reducible refine Kd.C_drewN ?_ _) | (with_reducible refine Kd.C_drew ?_))); (case side4 => exact HC2.out); rintro e w' ⟨rfl, ⟨nd, rfl⟩⟩))
        go_meet
        case rel => exact ⟨_, ((t266 != 0)), (by first | rfl | (simp; done) | (simp [*]; done)), H', ⟨by first | omega | exact Nat.le_refl _⟩, ⟨by repeat (first | (with_reducible first | exact HB.out | apply below_alloc | apply pw_below_drewN | apply below_drew1) | exact HB.out)⟩⟩
      · replace c10 := Bool.eq_false_iff.mpr c10
        subst c10
        have H1 : (fastilaw32_RoundsPossible.j0 k l0 a1 l2 l3 true) = some r := by rw [if_neg (show ¬ (false = true) by decide)] at H; exact H
        clear H
        have H := H1
        clear H1
        have H' := Aside0.mk H
        clear H
        go_wp2_with (first | ((with_reducible refine gate_callee (f := 10) rfl ?_); refine goesL_ (some 28) rfl rfl Try.func10 (by kernel_rfl) rfl #[.slice A0 l0.length c0, .slice A2 l2.length c2] rfl (by (try simp only [List.map_toArray, List.map_cons, List.map_nil]); first | done | rfl | (simp only [List.length_drop, List.length_take]; rfl)) ?_; (with_reducible refine (fastiref32_Few.calls k _ _ l0 _ _ l2 false _ ?side1 ?side2 ?side3 ?side4 A9.out).mono ?_); (case side1 => repeat (first | exact (Kd.C_below HR0.out HB.out) | (with_reducible refine Kd.C_alloc ?_ _) | (with_reducible refine Kd.C_drewN ?_ _) | (with_reducible refine Kd.C_drew ?_))); (case side2 => exact HC0.out); (case side3 => repeat (first | exact (Kd.C_below HR2.out HB.out) | (with_reducible refine Kd.C_alloc ?_ _) | (with_reducible refine Kd.C_drewN ?_ _) | (with_reducible refine Kd.C_drew ?_))); (case side4 => exact HC2.out); rintro e w' ⟨rfl, ⟨nd, rfl⟩⟩; refine ⟨_, rfl, ?_⟩))
        go_meet
        case rel => exact ⟨_, (true), (by first | rfl | (simp; done) | (simp [*]; done)), H', ⟨by first | omega | exact Nat.le_refl _⟩, ⟨by repeat (first | (with_reducible first | exact HB.out | apply below_alloc | apply pw_below_drewN | apply below_drew1) | exact HB.out)⟩⟩
    case rest =>
      clear HC7
      try clear c1
      try clear c2
      try clear p2
      try clear c3
      try clear c6
      try clear c9
      try clear c10
      obtain ⟨kq, x36_6, rfl, HA, HJ6, HB⟩ := hcut
      cases kq with
      | zero => exact absurd HA.out (by simp [fastilaw32_RoundsPossible.j0])
      | succ kj6 =>
        have H := HA.out
        clear HA
        simp only [fastilaw32_RoundsPossible.j0] at H
        by_cases c12 : x36_6 = true
        · subst c12
          have H1 : (some true) = some r := by rw [if_pos rfl] at H; exact H
          clear H
          have H := H1
          clear H1
          obtain rfl := Option.some.inj H
          go_wp2
          go_ret
          exact ⟨by first | rfl | (simp [errW_none, errW_some] <;> rfl) | (simp [*, errW_none, errW_some] <;> rfl), by repeat (first | (with_reducible first | exact HB.out | apply below_alloc | apply pw_below_drewN | apply below_drew1) | exact HB.out)⟩
        · replace c12 := Bool.eq_false_iff.mpr c12
          subst c12
          have H1 : ((rounds_Earliest.f l0 a1 l2).bind fun bt267 => ((rounds_Place.f l0 a1 l2).bind fun bt271 => (if bt267.2 = 0 then (if bt271.2.2.2 = 0 then (if (bt267.1.length : Int) = (l2.length : Int) then (if bt271.2.2.1 = true then (fastilaw32_RoundsPossible.j1 kj6 l0 a1 l2 l3 bt267.1 bt271.1 bt271.2.2.1 ((bt271.1.length : Int) != (l2.length : Int))) else (fastilaw32_RoundsPossible.j1 kj6 l0 a1 l2 l3 bt267.1 bt271.1 bt271.2.2.1 false)) else (fastilaw32_RoundsPossible.j1 kj6 l0 a1 l2 l3 bt267.1 bt271.1 bt271.2.2.1 true)) else (fastilaw32_RoundsPossible.j1 kj6 l0 a1 l2 l3 bt267.1 bt271.1 bt271.2.2.1 true)) else (fastilaw32_RoundsPossible.j1 kj6 l0 a1 l2 l3 bt267.1 bt271.1 bt271.2.2.1 true)))) = some r := by rw [if_neg (show ¬ (false = true) by decide)] at H; exact H
          clear H
          have H := H1
          clear H1
          replace H := Option.bind_eq_some_iff.mp H
          obtain ⟨⟨t267, t268⟩, A130, H⟩ := H
          replace H : ((rounds_Place.f l0 a1 l2).bind fun bt271 => (if t268 = 0 then (if bt271.2.2.2 = 0 then (if (t267.length : Int) = (l2.length : Int) then (if bt271.2.2.1 = true then (fastilaw32_RoundsPossible.j1 kj6 l0 a1 l2 l3 t267 bt271.1 bt271.2.2.1 ((bt271.1.length : Int) != (l2.length : Int))) else (fastilaw32_RoundsPossible.j1 kj6 l0 a1 l2 l3 t267 bt271.1 bt271.2.2.1 false)) else (fastilaw32_RoundsPossible.j1 kj6 l0 a1 l2 l3 t267 bt271.1 bt271.2.2.1 true)) else (fastilaw32_RoundsPossible.j1 kj6 l0 a1 l2 l3 t267 bt271.1 bt271.2.2.1 true)) else (fastilaw32_RoundsPossible.j1 kj6 l0 a1 l2 l3 t267 bt271.1 bt271.2.2.1 true))) = some r := H
          have A13 := Aside0.mk A130
          clear A130
          replace H := Option.bind_eq_some_iff.mp H
          obtain ⟨⟨t271, t272, t273, t274⟩, A140, H⟩ := H
          replace H : (if t268 = 0 then (if t274 = 0 then (if (t267.length : Int) = (l2.length : Int) then (if t273 = true then (fastilaw32_RoundsPossible.j1 kj6 l0 a1 l2 l3 t267 t271 t273 ((t271.length : Int) != (l2.length : Int))) else (fastilaw32_RoundsPossible.j1 kj6 l0 a1 l2 l3 t267 t271 t273 false)) else (fastilaw32_RoundsPossible.j1 kj6 l0 a1 l2 l3 t267 t271 t273 true)) else (fastilaw32_RoundsPossible.j1 kj6 l0 a1 l2 l3 t267 t271 t273 true)) else (fastilaw32_RoundsPossible.j1 kj6 l0 a1 l2 l3 t267 t271 t273 true)) = some r := H
          have A14 := Aside0.mk A140
          clear A140
          have HC15 := Aside0.mk H
          clear H
          go_upto_region 7 with (first | ((with_reducible refine gate_callee (f := 13) rfl ?_); refine goesL_ (some 41) rfl rfl Try.func13 (by kernel_rfl) rfl #[.slice A0 l0.length c0, .int .i64 a1, .slice A2 l2.length c2] rfl (by (try simp only [List.map_toArray, List.map_cons, List.map_nil]); first | done | rfl | (simp only [List.length_drop, List.length_take]; rfl)) ?_; (with_reducible refine (rounds_Earliest.calls _ _ l0 a1 _ _ l2 t267 t268 _ ?side1 ?side2 ?side3 ?side4 A13.out).mono ?_); (case side1 => repeat (first | exact (Kd.C_below HR0.out HB.out) | (with_reducible refine Kd.C_alloc ?_ _) | (with_reducible refine Kd.C_drewN ?_ _) | (with_reducible refine Kd.C_drew ?_))); (case side2 => exact HC0.out); (case side3 => repeat (first | exact (Kd.C_below HR2.out HB.out) | (with_reducible refine Kd.C_alloc ?_ _) | (with_reducible refine Kd.C_drewN ?_ _) | (with_reducible refine Kd.C_drew ?_))); (case side4 => exact HC2.out); rintro e w16 ⟨v269, rfl, ho0, hb⟩; refine ⟨_, rfl, ?_⟩; have n0_ := Aside0.mk (Kd.R_lower ho0 (below_size (by repeat (first | (with_reducible first | exact HB.out | apply below_alloc | apply pw_below_drewN | apply below_drew1) | exact HB.out)))); have n1_ := Aside0.mk (below_step (by repeat (first | (with_reducible first | exact HB.out | apply below_alloc | apply pw_below_drewN | apply below_drew1) | exact HB.out)) hb); clear HB; have HO270 := n0_; have HB := n1_; clear n0_ n1_; (try clear hb); (try clear hb2); (try clear hk); (try clear hi); (try clear ho0)) | ((with_reducible refine gate_callee (f := 15) rfl ?_); refine goesL_ (some 48) rfl rfl Try.func15 (by kernel_rfl) rfl #[.slice A0 l0.length c0, .int .i64 a1, .slice A2 l2.length c2] rfl (by (try simp only [List.map_toArray, List.map_cons, List.map_nil]); first | done | rfl | (simp only [List.length_drop, List.length_take]; rfl)) ?_; (with_reducible refine (rounds_Place.calls _ _ l0 a1 _ _ l2 t271 t272 t273 t274 _ ?side1 ?side2 ?side3 ?side4 A14.out).mono ?_); (case side1 => repeat (first | exact (Kd.C_below HR0.out HB.out) | (with_reducible refine Kd.C_alloc ?_ _) | (with_reducible refine Kd.C_drewN ?_ _) | (with_reducible refine Kd.C_drew ?_))); (case side2 => exact HC0.out); (case side3 => repeat (first | exact (Kd.C_below HR2.out HB.out) | (with_reducible refine Kd.C_alloc ?_ _) | (with_reducible refine Kd.C_drewN ?_ _) | (with_reducible refine Kd.C_drew ?_))); (case side4 => exact HC2.out); rintro e w17 ⟨v275, rfl, ho0, hb⟩; refine ⟨_, rfl, ?_⟩; have n0_ := Aside0.mk (Kd.R_elder' (by (with_reducible repeat (first | apply Kd.R_alloc | apply Kd.R_drewN | apply Kd.R_drew)); exact HO270.out) (Kd.R_base ho0) hb); have n1_ := Aside0.mk (Kd.R_lower (Kd.R_new' ho0 (Kd.R_lt (by (with_reducible repeat (first | apply Kd.R_alloc | apply Kd.R_drewN | apply Kd.R_drew)); exact HO270.out))) (below_size (by repeat (first | (with_reducible first | exact HB.out | apply below_alloc | apply pw_below_drewN | apply below_drew1) | exact HB.out)))); have n2_ := Aside0.mk (below_step (by repeat (first | (with_reducible first | exact HB.out | apply below_alloc | apply pw_below_drewN | apply below_drew1) | exact HB.out)) hb); clear HO270; clear HB; have HO270 := n0_; have HO276 := n1_; have HB := n2_; clear n0_ n1_ n2_; (try clear hb); (try clear hb2); (try clear hk); (try clear hi); (try clear ho0)))
          (try simp only [Act.put, List.setIfInBounds_toArray, List.set_cons_zero, List.set_cons_succ])
          go_cut [75] (fun v75 wc => ∃ (kq : Nat) (x75_14 : Bool), v75 = .bool x75_14 ∧ Aside0 (fastilaw32_RoundsPossible.j1 kq l0 a1 l2 l3 t267 t271 t273 x75_14 = some r) ∧ Aside0 (kq ≤ kj6) ∧ Aside0 (Kd.R (Kd.int .i64) 3 wc w.heap.size (fun k_ => some k_ ≠ (v275 : Value).ownBlock) v269 t267) ∧ Aside0 (Kd.R (Kd.int .i64) 3 wc w.heap.size (fun k_ => some k_ ≠ (v269 : Value).ownBlock) v275 t271) ∧ Aside0 (Below w.heap.size w wc))
          case first =>
            have H := HC15.out
            clear HC15
            by_cases c18 : t268 = 0
            · rw [if_pos c18] at H
              have c18b0 : (t268 == 0) = true := beq_iff_eq.mpr c18
              have c18b1 : (t268 != 0) = false := bne_eq_false_iff_eq.mpr c18
              clear c18
              (first | rw [c18b0] | (simp only [i64_w, i32_w]; rw [c18b0]) | skip)
              by_cases c19 : t274 = 0
              · rw [if_pos c19] at H
                have c19b0 : (t274 == 0) = true := beq_iff_eq.mpr c19
                have c19b1 : (t274 != 0) = false := bne_eq_false_iff_eq.mpr c19
                clear c19
                by_cases c20 : (t267.length : Int) = (l2.length : Int)
                · rw [if_pos c20] at H
                  have c20b0 : ((t267.length : Int) == (l2.length : Int)) = true := beq_iff_eq.mpr c20
                  have c20b1 : ((t267.length : Int) != (l2.length : Int)) = false := bne_eq_false_iff_eq.mpr c20
                  have c20b2 : (t267.length == l2.length) = true := by first | simpa using c20 | (simp at c20 ⊢; omega)
                  clear c20
                  by_cases c21 : t273 = true
                  · subst c21
                    have H1 : (fastilaw32_RoundsPossible.j1 kj6 l0 a1 l2 l3 t267 t271 true ((t271.length : Int) != (l2.length : Int))) = some r := by rw [if_pos rfl] at H; exact H
                    clear H
                    have H := H1
                    clear H1
                    have H' := Aside0.mk H
                    clear H
                    obtain ⟨Ao22, co22, eo22⟩ := Kd.R_slice HO270.out
                    subst eo22
                    obtain ⟨Ao23, co23, eo23⟩ := Kd.R_slice HO276.out
                    subst eo23
                    go_wp2
                    go_meet
                    case rel => exact ⟨_, (((t271.length : Int) != (l2.length : Int))), (by first | rfl | (simp; done) | (simp [*]; done)), H', ⟨by have := HJ6.out; first | omega | exact Nat.le_refl _⟩, ⟨by (with_reducible repeat (first | apply Kd.R_alloc | apply Kd.R_drewN | apply Kd.R_drew)); exact Kd.R_mono HO270.out (fun _ hk => hk.2)⟩, ⟨by (with_reducible repeat (first | apply Kd.R_alloc | apply Kd.R_drewN | apply Kd.R_drew)); exact Kd.R_mono HO276.out (fun _ hk => hk.2)⟩, ⟨by repeat (first | (with_reducible first | exact HB.out | apply below_alloc | apply pw_below_drewN | apply below_drew1) | exact HB.out)⟩⟩
                  · replace c21 := Bool.eq_false_iff.mpr c21
                    subst c21
                    have H1 : (fastilaw32_RoundsPossible.j1 kj6 l0 a1 l2 l3 t267 t271 false false) = some r := by rw [if_neg (show ¬ (false = true) by decide)] at H; exact H
                    clear H
                    have H := H1
                    clear H1
                    have H' := Aside0.mk H
                    clear H
                    obtain ⟨Ao24, co24, eo24⟩ := Kd.R_slice HO270.out
                    subst eo24
                    go_wp2
                    go_meet
                    case rel => exact ⟨_, (false), (by first | rfl | (simp; done) | (simp [*]; done)), H', ⟨by have := HJ6.out; first | omega | exact Nat.le_refl _⟩, ⟨by (with_reducible repeat (first | apply Kd.R_alloc | apply Kd.R_drewN | apply Kd.R_drew)); exact Kd.R_mono HO270.out (fun _ hk => hk.2)⟩, ⟨by (with_reducible repeat (first | apply Kd.R_alloc | apply Kd.R_drewN | apply Kd.R_drew)); exact Kd.R_mono HO276.out (fun _ hk => hk.2)⟩, ⟨by repeat (first | (with_reducible first | exact HB.out | apply below_alloc | apply pw_below_drewN | apply below_drew1) | exact HB.out)⟩⟩
                · rw [if_neg c20] at H
                  have c20b0 : ((t267.length : Int) == (l2.length : Int)) = false := beq_eq_false_iff_ne.mpr c20
                  have c20b1 : ((t267.length : Int) != (l2.length : Int)) = true := bne_iff_ne.mpr c20
                  have c20b2 : (t267.length == l2.length) = false := by first | simpa using c20 | (simp at c20 ⊢; omega)
                  have H' := Aside0.mk H
                  clear H
                  obtain ⟨Ao25, co25, eo25⟩ := Kd.R_slice HO270.out
                  subst eo25
                  go_wp2
                  go_meet
                  case rel => exact ⟨_, (true), (by first | rfl | (simp; done) | (simp [*]; done)), H', ⟨by have := HJ6.out; first | omega | exact Nat.le_refl _⟩, ⟨by (with_reducible repeat (first | apply Kd.R_alloc | apply Kd.R_drewN | apply Kd.R_drew)); exact Kd.R_mono HO270.out (fun _ hk => hk.2)⟩, ⟨by (with_reducible repeat (first | apply Kd.R_alloc | apply Kd.R_drewN | apply Kd.R_drew)); exact Kd.R_mono HO276.out (fun _ hk => hk.2)⟩, ⟨by repeat (first | (with_reducible first | exact HB.out | apply below_alloc | apply pw_below_drewN | apply below_drew1) | exact HB.out)⟩⟩
              · rw [if_neg c19] at H
                have c19b0 : (t274 == 0) = false := beq_eq_false_iff_ne.mpr c19
                have c19b1 : (t274 != 0) = true := bne_iff_ne.mpr c19
                have H' := Aside0.mk H
                clear H
                go_wp2
                go_meet
                case rel => exact ⟨_, (true), (by first | rfl | (simp; done) | (simp [*]; done)), H', ⟨by have := HJ6.out; first | omega | exact Nat.le_refl _⟩, ⟨by (with_reducible repeat (first | apply Kd.R_alloc | apply Kd.R_drewN | apply Kd.R_drew)); exact Kd.R_mono HO270.out (fun _ hk => hk.2)⟩, ⟨by (with_reducible repeat (first | apply Kd.R_alloc | apply Kd.R_drewN | apply Kd.R_drew)); exact Kd.R_mono HO276.out (fun _ hk => hk.2)⟩, ⟨by repeat (first | (with_reducible first | exact HB.out | apply below_alloc | apply pw_below_drewN | apply below_drew1) | exact HB.out)⟩⟩
            · rw [if_neg c18] at H
              have c18b0 : (t268 == 0) = false := beq_eq_false_iff_ne.mpr c18
              have c18b1 : (t268 != 0) = true := bne_iff_ne.mpr c18
              (first | rw [c18b0] | (simp only [i64_w, i32_w]; rw [c18b0]) | skip)
              have H' := Aside0.mk H
              clear H
              go_wp2
              go_meet
              case rel => exact ⟨_, (true), (by first | rfl | (simp; done) | (simp [*]; done)), H', ⟨by have := HJ6.out; first | omega | exact Nat.le_refl _⟩, ⟨by (with_reducible repeat (first | apply Kd.R_alloc | apply Kd.R_drewN | apply Kd.R_drew)); exact Kd.R_mono HO270.out (fun _ hk => hk.2)⟩, ⟨by (with_reducible repeat (first | apply Kd.R_alloc | apply Kd.R_drewN | apply Kd.R_drew)); exact Kd.R_mono HO276.out (fun _ hk => hk.2)⟩, ⟨by repeat (first | (with_reducible first | exact HB.out | apply below_alloc | apply pw_below_drewN | apply below_drew1) | exact HB.out)⟩⟩
          case rest =>
            clear HC15
            try clear c1
            try clear c2
            try clear p2
            try clear c3
            try clear c6
            try clear c9
            try clear c10
            try clear c12
            try clear c13
            try clear c15
            try clear c18
            try clear c18b0
            try clear c18b1
            try clear c19
            try clear c19b0
            try clear c19b1
            try clear c20
            try clear c20b0
            try clear c20b1
            try clear c20b2
            try clear c21
            try clear p2
            obtain ⟨kq, x75_14, rfl, HA, HJ14, HO_9, HO_11, HB⟩ := hcut
            cases kq with
            | zero => exact absurd HA.out (by simp [fastilaw32_RoundsPossible.j1])
            | succ kj14 =>
              have H := HA.out
              clear HA
              simp only [fastilaw32_RoundsPossible.j1] at H
              by_cases c26 : x75_14 = true
              · subst c26
                have H1 : (some false) = some r := by rw [if_pos rfl] at H; exact H
                clear H
                have H := H1
                clear H1
                obtain rfl := Option.some.inj H
                go_wp2
                go_ret
                exact ⟨by first | rfl | (simp [errW_none, errW_some] <;> rfl) | (simp [*, errW_none, errW_some] <;> rfl), by repeat (first | (with_reducible first | exact HB.out | apply below_alloc | apply pw_below_drewN | apply below_drew1) | exact HB.out)⟩
              · replace c26 := Bool.eq_false_iff.mpr c26
                subst c26
                have H1 : (fastilaw32_RoundsPossible.l0 kj14 l0 a1 l2 l3 t267 t271 t273 true t267 (t267.length : Int) 0) = some r := by rw [if_neg (show ¬ (false = true) by decide)] at H; exact H
                clear H
                have H := H1
                clear H1
                have H' := Aside0.mk H
                clear H
                obtain ⟨Ao27, co27, eo27⟩ := Kd.R_slice HO_9.out
                subst eo27
                go_wp2
                go_loopg [15, 78] kj14 (fun kq v15 v78 w' => ∃ (x15_3 : Bool) (x78_3 : Int), v15 = .bool x15_3 ∧ v78 = .int .i64 x78_3 ∧ Aside0 (fastilaw32_RoundsPossible.l0 kq l0 a1 l2 l3 t267 t271 t273 x15_3 t267 (t267.length : Int) x78_3 = some r) ∧ Aside0 (kq ≤ kj14) ∧ Aside0 (Kd.R (Kd.int .i64) 3 w' w.heap.size (fun k_ => some k_ ≠ (v275 : Value).ownBlock) (.slice Ao27 t267.length co27) t267) ∧ Aside0 (Kd.R (Kd.int .i64) 3 w' w.heap.size (fun k_ => some k_ ≠ ((.slice Ao27 t267.length co27) : Value).ownBlock ∧ some k_ ≠ ((.slice Ao27 t267.length co27) : Value).ownBlock) v275 t271) ∧ Aside0 (Kd.R (Kd.int .i64) 3 w' w.heap.size (fun k_ => some k_ ≠ (v275 : Value).ownBlock) (.slice Ao27 t267.length co27) t267) ∧ Aside0 (Below w.heap.size w w'))
                case atStart => exact ⟨(true), (0), (by first | rfl | (simp; done) | (simp [*]; done)), (by first | rfl | (simp; done) | (simp [*]; done)), H', ⟨Nat.le_refl _⟩, ⟨by (with_reducible repeat (first | apply Kd.R_alloc | apply Kd.R_drewN | apply Kd.R_drew)); exact HO_9.out⟩, ⟨by (with_reducible repeat (first | apply Kd.R_alloc | apply Kd.R_drewN | apply Kd.R_drew)); exact Kd.R_mono HO_11.out (fun _ hk => ⟨hk, hk⟩)⟩, ⟨by (with_reducible repeat (first | apply Kd.R_alloc | apply Kd.R_drewN | apply Kd.R_drew)); exact HO_9.out⟩, ⟨by repeat (first | (with_reducible first | exact HB.out | apply below_alloc | apply pw_below_drewN | apply below_drew1) | exact HB.out)⟩⟩
                case round =>
                  clear H'
                  try clear c1
                  try clear c2
                  try clear p2
                  try clear c3
                  try clear c6
                  try clear c9
                  try clear c10
                  try clear c12
                  try clear c13
                  try clear c15
                  try clear c18
                  try clear c18b0
                  try clear c18b1
                  try clear c19
                  try clear c19b0
                  try clear c19b1
                  try clear c20
                  try clear c20b0
                  try clear c20b1
                  try clear c20b2
                  try clear c21
                  try clear c26
                  try clear p2
                  obtain ⟨x15_3, x78_3, rfl, rfl, HA, HK3, HO_9, HO_11, HO_76, HB⟩ := hrel
                  cases gk with
                  | zero => exact absurd HA.out (by simp [fastilaw32_RoundsPossible.l0])
                  | succ k3 =>
                    have H := HA.out
                    clear HA
                    simp only [fastilaw32_RoundsPossible.l0] at H
                    by_cases c28 : x78_3 < (t267.length : Int)
                    · rw [if_pos c28] at H
                      have c28b0 : decide (x78_3 < (t267.length : Int)) = true := decide_eq_true c28
                      clear c28
                      by_cases c29 : 0 ≤ x78_3
                      · rw [if_pos c29] at H
                        have c29b0 : decide (0 ≤ x78_3) = true := decide_eq_true c29
                        clear c29
                        by_cases c30 : x78_3 < (t267.length : Int)
                        · rw [if_pos c30] at H
                          have c30b0 : decide (x78_3 < (t267.length : Int)) = true := decide_eq_true c30
                          clear c30
                          by_cases c31 : x15_3 = true
                          · subst c31
                            have H1 : (if (rd t267 x78_3) < (-1) then (some false) else (if (rd t267 x78_3) ≥ (l0.length : Int) then (some false) else (if ((decide ((rd t267 x78_3) < 0)) == (decide ((rd t267 x78_3) ≥ 0))) = true then (some false) else (fastilaw32_RoundsPossible.l0 k3 l0 a1 l2 l3 t267 t271 t273 (decide ((rd t267 x78_3) ≥ 0)) t267 (t267.length : Int) (wrap64 (x78_3 + 1)))))) = some r := by rw [if_pos rfl] at H; exact H
                            clear H
                            have H := H1
                            clear H1
                            by_cases c32 : (rd t267 x78_3) < (-1)
                            · rw [if_pos c32] at H
                              have c32b0 : decide ((rd t267 x78_3) < (-1)) = true := decide_eq_true c32
                              clear c32
                              obtain rfl := Option.some.inj H
                              have p277 : 0 ≤ (x78_3 : Int) := of_decide_eq_true (by first | (with_reducible assumption) | assumption)
                              have q277 : x78_3 < (t267.length : Int) := of_decide_eq_true (by first | (with_reducible assumption) | assumption)
                              obtain ⟨ad277, e277, hx277_0⟩ := Kd.at_int (Kd.R_reads' HO_76.out).2.2 x78_3 p277 q277
                              cases e277
                              replace p277 := eq_true p277
                              replace q277 := eq_true q277
                              go_wp2
                              go_ret
                              exact ⟨by first | rfl | (simp [errW_none, errW_some] <;> rfl) | (simp [*, errW_none, errW_some] <;> rfl), by repeat (first | (with_reducible first | exact HB.out | apply below_alloc | apply pw_below_drewN | apply below_drew1) | exact HB.out)⟩
                            · rw [if_neg c32] at H
                              have c32b0 : decide ((rd t267 x78_3) < (-1)) = false := decide_eq_false c32
                              clear c32
                              by_cases c33 : (rd t267 x78_3) ≥ (l0.length : Int)
                              · rw [if_pos c33] at H
                                have c33b0 : decide ((l0.length : Int) ≤ (rd t267 x78_3)) = true := decide_eq_true c33
                                clear c33
                                obtain rfl := Option.some.inj H
                                have p277 : 0 ≤ (x78_3 : Int) := of_decide_eq_true (by first | (with_reducible assumption) | assumption)
                                have q277 : x78_3 < (t267.length : Int) := of_decide_eq_true (by first | (with_reducible assumption) | assumption)
                                obtain ⟨ad277, e277, hx277_0⟩ := Kd.at_int (Kd.R_reads' HO_76.out).2.2 x78_3 p277 q277
                                cases e277
                                replace p277 := eq_true p277
                                replace q277 := eq_true q277
                                go_wp2
                                go_ret
                                exact ⟨by first | rfl | (simp [errW_none, errW_some] <;> rfl) | (simp [*, errW_none, errW_some] <;> rfl), by repeat (first | (with_reducible first | exact HB.out | apply below_alloc | apply pw_below_drewN | apply below_drew1) | exact HB.out)⟩
                              · rw [if_neg c33] at H
                                have c33b0 : decide ((l0.length : Int) ≤ (rd t267 x78_3)) = false := decide_eq_false c33
                                clear c33
                                by_cases c34 : ((decide ((rd t267 x78_3) < 0)) == (decide ((rd t267 x78_3) ≥ 0))) = true
                                · rw [if_pos c34] at H
                                  have c34b0 : ((decide ((rd t267 x78_3) < 0)) == (decide ((rd t267 x78_3) ≥ 0))) = true := c34
                                  (try (have c34b1 : decide ((decide ((rd t267 x78_3) < 0)) = (decide ((rd t267 x78_3) ≥ 0))) = true := by simpa using c34))
                                  (try (have c34b2 : ((decide ((rd t267 x78_3) < 0)) == (decide ((rd t267 x78_3) ≥ 0))) = true := by simpa using c34))
                                  clear c34
                                  obtain rfl := Option.some.inj H
                                  have p277 : 0 ≤ (x78_3 : Int) := of_decide_eq_true (by first | (with_reducible assumption) | assumption)
                                  have q277 : x78_3 < (t267.length : Int) := of_decide_eq_true (by first | (with_reducible assumption) | assumption)
                                  obtain ⟨ad277, e277, hx277_0⟩ := Kd.at_int (Kd.R_reads' HO_76.out).2.2 x78_3 p277 q277
                                  cases e277
                                  replace p277 := eq_true p277
                                  replace q277 := eq_true q277
                                  go_wp2
                                  go_ret
                                  exact ⟨by first | rfl | (simp [errW_none, errW_some] <;> rfl) | (simp [*, errW_none, errW_some] <;> rfl), by repeat (first | (with_reducible first | exact HB.out | apply below_alloc | apply pw_below_drewN | apply below_drew1) | exact HB.out)⟩
                                · rw [if_neg c34] at H
                                  have c34b0 : ((decide ((rd t267 x78_3) < 0)) == (decide ((rd t267 x78_3) ≥ 0))) = false := by simpa using c34
                                  (try (have c34b1 : decide ((decide ((rd t267 x78_3) < 0)) = (decide ((rd t267 x78_3) ≥ 0))) = false := by simpa using c34))
                                  (try (have c34b2 : ((decide ((rd t267 x78_3) < 0)) == (decide ((rd t267 x78_3) ≥ 0))) = false := by simpa using c34))
                                  (try (have c34b3 : ¬ ((decide ((rd t267 x78_3) < 0)) = (decide ((rd t267 x78_3) ≥ 0))) := by simpa using c34))
                                  clear c34
                                  have H' := Aside0.mk H
                                  clear H
                                  have p277 : 0 ≤ (x78_3 : Int) := of_decide_eq_true (by first | (with_reducible assumption) | assumption)
                                  have q277 : x78_3 < (t267.length : Int) := of_decide_eq_true (by first | (with_reducible assumption) | assumption)
                                  obtain ⟨ad277, e277, hx277_0⟩ := Kd.at_int (Kd.R_reads' HO_76.out).2.2 x78_3 p277 q277
                                  cases e277
                                  replace p277 := eq_true p277
                                  replace q277 := eq_true q277
                                  go_wp2
                                  go_roundg k3
                                  case measure => have := HJ6.out; have := HJ14.out; have := HK3.out; omega
                                  case rel => exact ⟨(decide ((rd t267 x78_3) ≥ 0)), (wrap64 (x78_3 + 1)), (by first | rfl | (simp; done) | (simp [*]; done)), (by first | rfl | (simp; done) | (simp [*]; done)), H', ⟨by have := HJ6.out; have := HJ14.out; have := HK3.out; omega⟩, ⟨by (with_reducible repeat (first | apply Kd.R_alloc | apply Kd.R_drewN | apply Kd.R_drew)); exact HO_9.out⟩, ⟨by (with_reducible repeat (first | apply Kd.R_alloc | apply Kd.R_drewN | apply Kd.R_drew)); exact HO_11.out⟩, ⟨by (with_reducible repeat (first | apply Kd.R_alloc | apply Kd.R_drewN | apply Kd.R_drew)); exact HO_76.out⟩, ⟨by repeat (first | (with_reducible first | exact HB.out | apply below_alloc | apply pw_below_drewN | apply below_drew1) | exact HB.out)⟩⟩
                          · replace c31 := Bool.eq_false_iff.mpr c31
                            subst c31
                            have H1 : (if (rd t267 x78_3) < (-1) then (some false) else (if (rd t267 x78_3) ≥ (l0.length : Int) then (some false) else (if ((decide ((rd t267 x78_3) < 0)) == false) = true then (some false) else (fastilaw32_RoundsPossible.l0 k3 l0 a1 l2 l3 t267 t271 t273 false t267 (t267.length : Int) (wrap64 (x78_3 + 1)))))) = some r := by rw [if_neg (show ¬ (false = true) by decide)] at H; exact H
                            clear H
                            have H := H1
                            clear H1
                            by_cases c35 : (rd t267 x78_3) < (-1)
                            · rw [if_pos c35] at H
                              have c35b0 : decide ((rd t267 x78_3) < (-1)) = true := decide_eq_true c35
                              clear c35
                              obtain rfl := Option.some.inj H
                              have p277 : 0 ≤ (x78_3 : Int) := of_decide_eq_true (by first | (with_reducible assumption) | assumption)
                              have q277 : x78_3 < (t267.length : Int) := of_decide_eq_true (by first | (with_reducible assumption) | assumption)
                              obtain ⟨ad277, e277, hx277_0⟩ := Kd.at_int (Kd.R_reads' HO_76.out).2.2 x78_3 p277 q277
                              cases e277
                              replace p277 := eq_true p277
                              replace q277 := eq_true q277
                              go_wp2
                              go_ret
                              exact ⟨by first | rfl | (simp [errW_none, errW_some] <;> rfl) | (simp [*, errW_none, errW_some] <;> rfl), by repeat (first | (with_reducible first | exact HB.out | apply below_alloc | apply pw_below_drewN | apply below_drew1) | exact HB.out)⟩
                            · rw [if_neg c35] at H
                              have c35b0 : decide ((rd t267 x78_3) < (-1)) = false := decide_eq_false c35
                              clear c35
                              by_cases c36 : (rd t267 x78_3) ≥ (l0.length : Int)
                              · rw [if_pos c36] at H
                                have c36b0 : decide ((l0.length : Int) ≤ (rd t267 x78_3)) = true := decide_eq_true c36
                                clear c36
                                obtain rfl := Option.some.inj H
                                have p277 : 0 ≤ (x78_3 : Int) := of_decide_eq_true (by first | (with_reducible assumption) | assumption)
                                have q277 : x78_3 < (t267.length : Int) := of_decide_eq_true (by first | (with_reducible assumption) | assumption)
                                obtain ⟨ad277, e277, hx277_0⟩ := Kd.at_int (Kd.R_reads' HO_76.out).2.2 x78_3 p277 q277
                                cases e277
                                replace p277 := eq_true p277
                                replace q277 := eq_true q277
                                go_wp2
                                go_ret
                                exact ⟨by first | rfl | (simp [errW_none, errW_some] <;> rfl) | (simp [*, errW_none, errW_some] <;> rfl), by repeat (first | (with_reducible first | exact HB.out | apply below_alloc | apply pw_below_drewN | apply below_drew1) | exact HB.out)⟩
                              · rw [if_neg c36] at H
                                have c36b0 : decide ((l0.length : Int) ≤ (rd t267 x78_3)) = false := decide_eq_false c36
                                clear c36
                                by_cases c37 : ((decide ((rd t267 x78_3) < 0)) == false) = true
                                · rw [if_pos c37] at H
                                  have c37b0 : ((decide ((rd t267 x78_3) < 0)) == false) = true := c37
                                  (try (have c37b1 : decide ((decide ((rd t267 x78_3) < 0)) = false) = true := by simpa using c37))
                                  (try (have c37b2 : ((decide ((rd t267 x78_3) < 0)) == false) = true := by simpa using c37))
                                  clear c37
                                  obtain rfl := Option.some.inj H
                                  have p277 : 0 ≤ (x78_3 : Int) := of_decide_eq_true (by first | (with_reducible assumption) | assumption)
                                  have q277 : x78_3 < (t267.length : Int) := of_decide_eq_true (by first | (with_reducible assumption) | assumption)
                                  obtain ⟨ad277, e277, hx277_0⟩ := Kd.at_int (Kd.R_reads' HO_76.out).2.2 x78_3 p277 q277
                                  cases e277
                                  replace p277 := eq_true p277
                                  replace q277 := eq_true q277
                                  go_wp2
                                  go_ret
                                  exact ⟨by first | rfl | (simp [errW_none, errW_some] <;> rfl) | (simp [*, errW_none, errW_some] <;> rfl), by repeat (first | (with_reducible first | exact HB.out | apply below_alloc | apply pw_below_drewN | apply below_drew1) | exact HB.out)⟩
                                · rw [if_neg c37] at H
                                  have c37b0 : ((decide ((rd t267 x78_3) < 0)) == false) = false := by simpa using c37
                                  (try (have c37b1 : decide ((decide ((rd t267 x78_3) < 0)) = false) = false := by simpa using c37))
                                  (try (have c37b2 : ((decide ((rd t267 x78_3) < 0)) == false) = false := by simpa using c37))
                                  (try (have c37b3 : ¬ ((decide ((rd t267 x78_3) < 0)) = false) := by simpa using c37))
                                  clear c37
                                  have H' := Aside0.mk H
                                  clear H
                                  have p277 : 0 ≤ (x78_3 : Int) := of_decide_eq_true (by first | (with_reducible assumption) | assumption)
                                  have q277 : x78_3 < (t267.length : Int) := of_decide_eq_true (by first | (with_reducible assumption) | assumption)
                                  obtain ⟨ad277, e277, hx277_0⟩ := Kd.at_int (Kd.R_reads' HO_76.out).2.2 x78_3 p277 q277
                                  cases e277
                                  replace p277 := eq_true p277
                                  replace q277 := eq_true q277
                                  go_wp2
                                  go_roundg k3
                                  case measure => have := HJ6.out; have := HJ14.out; have := HK3.out; omega
                                  case rel => exact ⟨(false), (wrap64 (x78_3 + 1)), (by first | rfl | (simp; done) | (simp [*]; done)), (by first | rfl | (simp; done) | (simp [*]; done)), H', ⟨by have := HJ6.out; have := HJ14.out; have := HK3.out; omega⟩, ⟨by (with_reducible repeat (first | apply Kd.R_alloc | apply Kd.R_drewN | apply Kd.R_drew)); exact HO_9.out⟩, ⟨by (with_reducible repeat (first | apply Kd.R_alloc | apply Kd.R_drewN | apply Kd.R_drew)); exact HO_11.out⟩, ⟨by (with_reducible repeat (first | apply Kd.R_alloc | apply Kd.R_drewN | apply Kd.R_drew)); exact HO_76.out⟩, ⟨by repeat (first | (with_reducible first | exact HB.out | apply below_alloc | apply pw_below_drewN | apply below_drew1) | exact HB.out)⟩⟩
                        · rw [if_neg c30] at H
                          exact absurd H (by simp)
                      · rw [if_neg c29] at H
                        exact absurd H (by simp)
                    · rw [if_neg c28] at H
                      have c28b0 : decide (x78_3 < (t267.length : Int)) = false := decide_eq_false c28
                      clear c28
                      replace H := Option.bind_eq_some_iff.mp H
                      obtain ⟨⟨t278, t279⟩, A380, H⟩ := H
                      replace H : (if (t279 != x15_3) = true then (fastilaw32_RoundsPossible.j3 k3 l0 a1 l2 l3 t267 t271 t273 true) else (fastilaw32_RoundsPossible.j3 k3 l0 a1 l2 l3 t267 t271 t273 (t273 != x15_3))) = some r := H
                      have A38 := Aside0.mk A380
                      clear A380
                      have HC39 := Aside0.mk H
                      clear H
                      go_upto_region 18 with (first | ((with_reducible refine gate_callee (f := 19) rfl ?_); refine goesL_ (some 107) rfl rfl Try.func19 (by kernel_rfl) rfl #[.slice A0 l0.length c0, .int .i64 a1, .slice A2 l2.length c2, .slice Ao27 t267.length co27] rfl (by (try simp only [List.map_toArray, List.map_cons, List.map_nil]); first | done | rfl | (simp only [List.length_drop, List.length_take]; rfl)) ?_; (with_reducible refine (fastiref32_Placed.calls k3 _ _ l0 a1 _ _ l2 _ _ t267 t278 t279 _ ?side1 ?side2 ?side3 ?side4 ?side5 ?side6 A38.out).mono ?_); (case side1 => repeat (first | exact (Kd.C_below HR0.out HB.out) | (with_reducible refine Kd.C_alloc ?_ _) | (with_reducible refine Kd.C_drewN ?_ _) | (with_reducible refine Kd.C_drew ?_))); (case side2 => exact HC0.out); (case side3 => repeat (first | exact (Kd.C_below HR2.out HB.out) | (with_reducible refine Kd.C_alloc ?_ _) | (with_reducible refine Kd.C_drewN ?_ _) | (with_reducible refine Kd.C_drew ?_))); (case side4 => exact HC2.out); (case side5 => repeat (first | exact (Kd.R_reads' HO_9.out).2.2 | (with_reducible refine Kd.C_alloc ?_ _) | (with_reducible refine Kd.C_drewN ?_ _) | (with_reducible refine Kd.C_drew ?_))); (case side6 => exact (Kd.R_reads' HO_9.out).2.1); rintro e w' ⟨rfl, ⟨nd, rfl⟩⟩; refine ⟨_, rfl, ?_⟩))
                      (try simp only [Act.put, List.setIfInBounds_toArray, List.set_cons_zero, List.set_cons_succ])
                      go_cut [117] (fun v117 wc => ∃ (kq : Nat) (x117_38 : Bool), v117 = .bool x117_38 ∧ Aside0 (fastilaw32_RoundsPossible.j3 kq l0 a1 l2 l3 t267 t271 t273 x117_38 = some r) ∧ Aside0 (kq ≤ k3) ∧ Aside0 (Kd.R (Kd.int .i64) 3 wc w.heap.size (fun k_ => some k_ ≠ (v275 : Value).ownBlock) (.slice Ao27 t267.length co27) t267) ∧ Aside0 (Kd.R (Kd.int .i64) 3 wc w.heap.size (fun k_ => some k_ ≠ ((.slice Ao27 t267.length co27) : Value).ownBlock) v275 t271) ∧ Aside0 (Below w.heap.size w wc))
                      case first =>
                        have H := HC39.out
                        clear HC39
                        by_cases c40 : (t279 != x15_3) = true
                        · rw [if_pos c40] at H
                          have c40b0 : (t279 != x15_3) = true := c40
                          (try (have c40b1 : decide (t279 = x15_3) = false := by simpa using c40))
                          (try (have c40b2 : (t279 == x15_3) = false := by simpa using c40))
                          (try (have c40b3 : ¬ (t279 = x15_3) := by simpa using c40))
                          clear c40
                          (first | rw [c40b0] | (simp only [i64_w, i32_w]; rw [c40b0]) | skip)
                          have H' := Aside0.mk H
                          clear H
                          go_wp2
                          go_meet
                          case rel => exact ⟨_, (true), (by first | rfl | (simp; done) | (simp [*]; done)), H', ⟨by have := HJ6.out; have := HJ14.out; have := HK3.out; first | omega | exact Nat.le_refl _⟩, ⟨by (with_reducible repeat (first | apply Kd.R_alloc | apply Kd.R_drewN | apply Kd.R_drew)); exact HO_9.out⟩, ⟨by (with_reducible repeat (first | apply Kd.R_alloc | apply Kd.R_drewN | apply Kd.R_drew)); exact Kd.R_mono HO_11.out (fun _ hk => hk.1)⟩, ⟨by repeat (first | (with_reducible first | exact HB.out | apply below_alloc | apply pw_below_drewN | apply below_drew1) | exact HB.out)⟩⟩
                        · rw [if_neg c40] at H
                          have c40b0 : (t279 != x15_3) = false := by simpa using c40
                          (try (have c40b1 : decide (t279 = x15_3) = true := by simpa using c40))
                          (try (have c40b2 : (t279 == x15_3) = true := by simpa using c40))
                          clear c40
                          (first | rw [c40b0] | (simp only [i64_w, i32_w]; rw [c40b0]) | skip)
                          have H' := Aside0.mk H
                          clear H
                          go_wp2
                          go_meet
                          case rel => exact ⟨_, ((t273 != x15_3)), (by first | rfl | (simp; done) | (simp [*]; done)), H', ⟨by have := HJ6.out; have := HJ14.out; have := HK3.out; first | omega | exact Nat.le_refl _⟩, ⟨by (with_reducible repeat (first | apply Kd.R_alloc | apply Kd.R_drewN | apply Kd.R_drew)); exact HO_9.out⟩, ⟨by (with_reducible repeat (first | apply Kd.R_alloc | apply Kd.R_drewN | apply Kd.R_drew)); exact Kd.R_mono HO_11.out (fun _ hk => hk.1)⟩, ⟨by repeat (first | (with_reducible first | exact HB.out | apply below_alloc | apply pw_below_drewN | apply below_drew1) | exact HB.out)⟩⟩
                      case rest =>
                        clear HC39
                        try clear c1
                        try clear c2
                        try clear p2
                        try clear q2
                        try clear hx2
                        try clear c3
                        try clear c4
                        try clear c6
                        try clear p6
                        try clear c9
                        try clear c10
                        try clear c12
                        try clear c13
                        try clear c15
                        try clear c18
                        try clear c18b0
                        try clear c18b1
                        try clear c19
                        try clear c19b0
                        try clear c19b1
                        try clear c20
                        try clear c20b0
                        try clear c20b1
                        try clear c20b2
                        try clear c21
                        try clear c26
                        try clear p27
                        try clear q27
                        try clear hx27
                        try clear c28
                        try clear c28b0
                        try clear c29
                        try clear c29b0
                        try clear c30
                        try clear c30b0
                        try clear c31
                        try clear c32
                        try clear c32b0
                        try clear c33
                        try clear c33b0
                        try clear c34
                        try clear c34b0
                        try clear c34b1
                        try clear c34b2
                        try clear c35
                        try clear c35b0
                        try clear c36
                        try clear c36b0
                        try clear c37
                        try clear c37b0
                        try clear c37b1
                        try clear c37b2
                        try clear c40
                        try clear c40b0
                        try clear c40b1
                        try clear c40b2
                        try clear hx277_0
                        try clear p2
                        try clear p277
                        try clear q277
                        obtain ⟨kq, x117_38, rfl, HA, HJ38, HO_9, HO_11, HB⟩ := hcut
                        cases kq with
                        | zero => exact absurd HA.out (by simp [fastilaw32_RoundsPossible.j3])
                        | succ kj38 =>
                          have H := HA.out
                          clear HA
                          simp only [fastilaw32_RoundsPossible.j3] at H
                          by_cases c41 : x117_38 = true
                          · subst c41
                            have H1 : (some false) = some r := by rw [if_pos rfl] at H; exact H
                            clear H
                            have H := H1
                            clear H1
                            obtain rfl := Option.some.inj H
                            go_wp2
                            go_ret
                            exact ⟨by first | rfl | (simp [errW_none, errW_some] <;> rfl) | (simp [*, errW_none, errW_some] <;> rfl), by repeat (first | (with_reducible first | exact HB.out | apply below_alloc | apply pw_below_drewN | apply below_drew1) | exact HB.out)⟩
                          · replace c41 := Bool.eq_false_iff.mpr c41
                            subst c41
                            have H1 : ((fastiref32_Placed.f kj38 l0 a1 l2 l3).bind fun bt280 => (fastilaw32_RoundsPossible.l1 kj38 l3 t271 t273 bt280.2 t267 (t267.length : Int) 0)) = some r := by rw [if_neg (show ¬ (false = true) by decide)] at H; exact H
                            clear H
                            have H := H1
                            clear H1
                            replace H := Option.bind_eq_some_iff.mp H
                            obtain ⟨⟨t280, t281⟩, A420, H⟩ := H
                            replace H : (fastilaw32_RoundsPossible.l1 kj38 l3 t271 t273 t281 t267 (t267.length : Int) 0) = some r := H
                            have A42 := Aside0.mk A420
                            clear A420
                            have H' := Aside0.mk H
                            clear H
                            go_wp2_with (first | ((with_reducible refine gate_callee (f := 19) rfl ?_); refine goesL_ (some 123) rfl rfl Try.func19 (by kernel_rfl) rfl #[.slice A0 l0.length c0, .int .i64 a1, .slice A2 l2.length c2, .slice A3 l3.length c3] rfl (by (try simp only [List.map_toArray, List.map_cons, List.map_nil]); first | done | rfl | (simp only [List.length_drop, List.length_take]; rfl)) ?_; (with_reducible refine (fastiref32_Placed.calls kj38 _ _ l0 a1 _ _ l2 _ _ l3 t280 t281 _ ?side1 ?side2 ?side3 ?side4 ?side5 ?side6 A42.out).mono ?_); (case side1 => repeat (first | exact (Kd.C_below HR0.out HB.out) | (with_reducible refine Kd.C_alloc ?_ _) | (with_reducible refine Kd.C_drewN ?_ _) | (with_reducible refine Kd.C_drew ?_))); (case side2 => exact HC0.out); (case side3 => repeat (first | exact (Kd.C_below HR2.out HB.out) | (with_reducible refine Kd.C_alloc ?_ _) | (with_reducible refine Kd.C_drewN ?_ _) | (with_reducible refine Kd.C_drew ?_))); (case side4 => exact HC2.out); (case side5 => repeat (first | exact (Kd.C_below HR3.out HB.out) | (with_reducible refine Kd.C_alloc ?_ _) | (with_reducible refine Kd.C_drewN ?_ _) | (with_reducible refine Kd.C_drew ?_))); (case side6 => exact HC3.out); rintro e w' ⟨rfl, ⟨nd, rfl⟩⟩; refine ⟨_, rfl, ?_⟩))
                            go_loopg [128] kj38 (fun kq v128 w' => ∃ (x128_5 : Int), v128 = .int .i64 x128_5 ∧ Aside0 (fastilaw32_RoundsPossible.l1 kq l3 t271 t273 t281 t267 (t267.length : Int) x128_5 = some r) ∧ Aside0 (kq ≤ kj38) ∧ Aside0 (Kd.R (Kd.int .i64) 3 w' w.heap.size (fun k_ => some k_ ≠ ((.slice Ao27 t267.length co27) : Value).ownBlock) v275 t271) ∧ Aside0 (Kd.R (Kd.int .i64) 3 w' w.heap.size (fun k_ => some k_ ≠ (v275 : Value).ownBlock) (.slice Ao27 t267.length co27) t267) ∧ Aside0 (Below w.heap.size w w'))
                            case atStart => exact ⟨(0), (by first | rfl | (simp; done) | (simp [*]; done)), H', ⟨Nat.le_refl _⟩, ⟨by (with_reducible repeat (first | apply Kd.R_alloc | apply Kd.R_drewN | apply Kd.R_drew)); exact HO_11.out⟩, ⟨by (with_reducible repeat (first | apply Kd.R_alloc | apply Kd.R_drewN | apply Kd.R_drew)); exact HO_9.out⟩, ⟨by repeat (first | (with_reducible first | exact HB.out | apply below_alloc | apply pw_below_drewN | apply below_drew1) | exact HB.out)⟩⟩
                            case round =>
                              clear H'
                              try clear c1
                              try clear c2
                              try clear p2
                              try clear q2
                              try clear hx2
                              try clear c3
                              try clear c4
                              try clear c6
                              try clear p6
                              try clear c9
                              try clear c10
                              try clear c12
                              try clear c13
                              try clear c15
                              try clear c18
                              try clear c18b0
                              try clear c18b1
                              try clear c19
                              try clear c19b0
                              try clear c19b1
                              try clear c20
                              try clear c20b0
                              try clear c20b1
                              try clear c20b2
                              try clear c21
                              try clear c26
                              try clear p27
                              try clear q27
                              try clear hx27
                              try clear c28
                              try clear c28b0
                              try clear c29
                              try clear c29b0
                              try clear c30
                              try clear c30b0
                              try clear c31
                              try clear c32
                              try clear c32b0
                              try clear c33
                              try clear c33b0
                              try clear c34
                              try clear c34b0
                              try clear c34b1
                              try clear c34b2
                              try clear c35
                              try clear c35b0
                              try clear c36
                              try clear c36b0
                              try clear c37
                              try clear c37b0
                              try clear c37b1
                              try clear c37b2
                              try clear c40
                              try clear c40b0
                              try clear c40b1
                              try clear c40b2
                              try clear c41
                              try clear hx277_0
                              try clear p2
                              try clear p27
                              try clear p277
                              try clear p6
                              try clear q2
                              try clear q27
                              try clear q277
                              obtain ⟨x128_5, rfl, HA, HK5, HO_11, HO_126, HB⟩ := hrel
                              cases gk with
                              | zero => exact absurd HA.out (by simp [fastilaw32_RoundsPossible.l1])
                              | succ k5 =>
                                have H := HA.out
                                clear HA
                                simp only [fastilaw32_RoundsPossible.l1] at H
                                by_cases c43 : x128_5 < (t267.length : Int)
                                · rw [if_pos c43] at H
                                  have c43b0 : decide (x128_5 < (t267.length : Int)) = true := decide_eq_true c43
                                  clear c43
                                  by_cases c44 : 0 ≤ x128_5
                                  · rw [if_pos c44] at H
                                    have c44b0 : decide (0 ≤ x128_5) = true := decide_eq_true c44
                                    clear c44
                                    by_cases c45 : x128_5 < (t267.length : Int)
                                    · rw [if_pos c45] at H
                                      have c45b0 : decide (x128_5 < (t267.length : Int)) = true := decide_eq_true c45
                                      clear c45
                                      by_cases c46 : t273 = true
                                      · subst c46
                                        have H1 : (if x128_5 < (t271.length : Int) then (if (rd t271 x128_5) < (rd t267 x128_5) then (some false) else (if t281 = true then (if x128_5 < (l3.length : Int) then (if (rd l3 x128_5) < (rd t267 x128_5) then (some false) else (fastilaw32_RoundsPossible.l1 k5 l3 t271 true t281 t267 (t267.length : Int) (wrap64 (x128_5 + 1)))) else (none)) else (fastilaw32_RoundsPossible.l1 k5 l3 t271 true t281 t267 (t267.length : Int) (wrap64 (x128_5 + 1))))) else (none)) = some r := by rw [if_pos rfl] at H; exact H
                                        clear H
                                        have H := H1
                                        clear H1
                                        by_cases c47 : x128_5 < (t271.length : Int)
                                        · rw [if_pos c47] at H
                                          have c47b0 : decide (x128_5 < (t271.length : Int)) = true := decide_eq_true c47
                                          clear c47
                                          by_cases c48 : (rd t271 x128_5) < (rd t267 x128_5)
                                          · rw [if_pos c48] at H
                                            have c48b0 : decide ((rd t271 x128_5) < (rd t267 x128_5)) = true := decide_eq_true c48
                                            clear c48
                                            obtain rfl := Option.some.inj H
                                            have p282 : 0 ≤ (x128_5 : Int) := of_decide_eq_true (by first | (with_reducible assumption) | assumption)
                                            have q282 : x128_5 < (t267.length : Int) := of_decide_eq_true (by first | (with_reducible assumption) | assumption)
                                            obtain ⟨ad282, e282, hx282_0⟩ := Kd.at_int (Kd.R_reads' HO_126.out).2.2 x128_5 p282 q282
                                            cases e282
                                            replace p282 := eq_true p282
                                            replace q282 := eq_true q282
                                            obtain ⟨Ao49, co49, eo49⟩ := Kd.R_slice HO_11.out
                                            subst eo49
                                            have p283 : 0 ≤ (x128_5 : Int) := of_decide_eq_true (by first | (with_reducible assumption) | assumption)
                                            have q283 : x128_5 < (t271.length : Int) := of_decide_eq_true (by first | (with_reducible assumption) | assumption)
                                            obtain ⟨ad283, e283, hx283_0⟩ := Kd.at_int (Kd.R_reads' HO_11.out).2.2 x128_5 p283 q283
                                            cases e283
                                            replace p283 := eq_true p283
                                            replace q283 := eq_true q283
                                            go_wp2
                                            go_ret
                                            exact ⟨by first | rfl | (simp [errW_none, errW_some] <;> rfl) | (simp [*, errW_none, errW_some] <;> rfl), by repeat (first | (with_reducible first | exact HB.out | apply below_alloc | apply pw_below_drewN | apply below_drew1) | exact HB.out)⟩
                                          · rw [if_neg c48] at H
                                            have c48b0 : decide ((rd t271 x128_5) < (rd t267 x128_5)) = false := decide_eq_false c48
                                            clear c48
                                            by_cases c50 : t281 = true
                                            · subst c50
                                              have H1 : (if x128_5 < (l3.length : Int) then (if (rd l3 x128_5) < (rd t267 x128_5) then (some false) else (fastilaw32_RoundsPossible.l1 k5 l3 t271 true true t267 (t267.length : Int) (wrap64 (x128_5 + 1)))) else (none)) = some r := by rw [if_pos rfl] at H; exact H
                                              clear H
                                              have H := H1
                                              clear H1
                                              by_cases c51 : x128_5 < (l3.length : Int)
                                              · rw [if_pos c51] at H
                                                have c51b0 : decide (x128_5 < (l3.length : Int)) = true := decide_eq_true c51
                                                clear c51
                                                by_cases c52 : (rd l3 x128_5) < (rd t267 x128_5)
                                                · rw [if_pos c52] at H
                                                  have c52b0 : decide ((rd l3 x128_5) < (rd t267 x128_5)) = true := decide_eq_true c52
                                                  clear c52
                                                  obtain rfl := Option.some.inj H
                                                  have p282 : 0 ≤ (x128_5 : Int) := of_decide_eq_true (by first | (with_reducible assumption) | assumption)
                                                  have q282 : x128_5 < (t267.length : Int) := of_decide_eq_true (by first | (with_reducible assumption) | assumption)
                                                  obtain ⟨ad282, e282, hx282_0⟩ := Kd.at_int (Kd.R_reads' HO_126.out).2.2 x128_5 p282 q282
                                                  cases e282
                                                  replace p282 := eq_true p282
                                                  replace q282 := eq_true q282
                                                  obtain ⟨Ao53, co53, eo53⟩ := Kd.R_slice HO_11.out
                                                  subst eo53
                                                  have p283 : 0 ≤ (x128_5 : Int) := of_decide_eq_true (by first | (with_reducible assumption) | assumption)
                                                  have q283 : x128_5 < (t271.length : Int) := of_decide_eq_true (by first | (with_reducible assumption) | assumption)
                                                  obtain ⟨ad283, e283, hx283_0⟩ := Kd.at_int (Kd.R_reads' HO_11.out).2.2 x128_5 p283 q283
                                                  cases e283
                                                  replace p283 := eq_true p283
                                                  replace q283 := eq_true q283
                                                  have p284 : 0 ≤ (x128_5 : Int) := of_decide_eq_true (by first | (with_reducible assumption) | assumption)
                                                  have q284 : x128_5 < (l3.length : Int) := of_decide_eq_true (by first | (with_reducible assumption) | assumption)
                                                  obtain ⟨ad284, e284, hx284_0⟩ := Kd.at_int HR3.out x128_5 p284 q284
                                                  cases e284
                                                  replace hx284_0 := (HB.out.cell (World.block_lt_of_cell? w _ hx284_0)).trans hx284_0
                                                  replace p284 := eq_true p284
                                                  replace q284 := eq_true q284
                                                  go_wp2
                                                  go_ret
                                                  exact ⟨by first | rfl | (simp [errW_none, errW_some] <;> rfl) | (simp [*, errW_none, errW_some] <;> rfl), by repeat (first | (with_reducible first | exact HB.out | apply below_alloc | apply pw_below_drewN | apply below_drew1) | exact HB.out)⟩
                                                · rw [if_neg c52] at H
                                                  have c52b0 : decide ((rd l3 x128_5) < (rd t267 x128_5)) = false := decide_eq_false c52
                                                  clear c52
                                                  have H' := Aside0.mk H
                                                  clear H
                                                  have p282 : 0 ≤ (x128_5 : Int) := of_decide_eq_true (by first | (with_reducible assumption) | assumption)
                                                  have q282 : x128_5 < (t267.length : Int) := of_decide_eq_true (by first | (with_reducible assumption) | assumption)
                                                  obtain ⟨ad282, e282, hx282_0⟩ := Kd.at_int (Kd.R_reads' HO_126.out).2.2 x128_5 p282 q282
                                                  cases e282
                                                  replace p282 := eq_true p282
                                                  replace q282 := eq_true q282
                                                  obtain ⟨Ao54, co54, eo54⟩ := Kd.R_slice HO_11.out
                                                  subst eo54
                                                  have p283 : 0 ≤ (x128_5 : Int) := of_decide_eq_true (by first | (with_reducible assumption) | assumption)
                                                  have q283 : x128_5 < (t271.length : Int) := of_decide_eq_true (by first | (with_reducible assumption) | assumption)
                                                  obtain ⟨ad283, e283, hx283_0⟩ := Kd.at_int (Kd.R_reads' HO_11.out).2.2 x128_5 p283 q283
                                                  cases e283
                                                  replace p283 := eq_true p283
                                                  replace q283 := eq_true q283
                                                  have p284 : 0 ≤ (x128_5 : Int) := of_decide_eq_true (by first | (with_reducible assumption) | assumption)
                                                  have q284 : x128_5 < (l3.length : Int) := of_decide_eq_true (by first | (with_reducible assumption) | assumption)
                                                  obtain ⟨ad284, e284, hx284_0⟩ := Kd.at_int HR3.out x128_5 p284 q284
                                                  cases e284
                                                  replace hx284_0 := (HB.out.cell (World.block_lt_of_cell? w _ hx284_0)).trans hx284_0
                                                  replace p284 := eq_true p284
                                                  replace q284 := eq_true q284
                                                  go_wp2
                                                  go_roundg k5
                                                  case measure => have := HJ6.out; have := HJ14.out; have := HK3.out; have := HJ38.out; have := HK5.out; omega
                                                  case rel => exact ⟨(wrap64 (x128_5 + 1)), (by first | rfl | (simp; done) | (simp [*]; done)), H', ⟨by have := HJ6.out; have := HJ14.out; have := HK3.out; have := HJ38.out; have := HK5.out; omega⟩, ⟨by (with_reducible repeat (first | apply Kd.R_alloc | apply Kd.R_drewN | apply Kd.R_drew)); exact HO_11.out⟩, ⟨by (with_reducible repeat (first | apply Kd.R_alloc | apply Kd.R_drewN | apply Kd.R_drew)); exact HO_126.out⟩, ⟨by repeat (first | (with_reducible first | exact HB.out | apply below_alloc | apply pw_below_drewN | apply below_drew1) | exact HB.out)⟩⟩
                                              · rw [if_neg c51] at H
                                                exact absurd H (by simp)
                                            · replace c50 := Bool.eq_false_iff.mpr c50
                                              subst c50
                                              have H1 : (fastilaw32_RoundsPossible.l1 k5 l3 t271 true false t267 (t267.length : Int) (wrap64 (x128_5 + 1))) = some r := by rw [if_neg (show ¬ (false = true) by decide)] at H; exact H
                                              clear H
                                              have H := H1
                                              clear H1
                                              have H' := Aside0.mk H
                                              clear H
                                              have p282 : 0 ≤ (x128_5 : Int) := of_decide_eq_true (by first | (with_reducible assumption) | assumption)
                                              have q282 : x128_5 < (t267.length : Int) := of_decide_eq_true (by first | (with_reducible assumption) | assumption)
                                              obtain ⟨ad282, e282, hx282_0⟩ := Kd.at_int (Kd.R_reads' HO_126.out).2.2 x128_5 p282 q282
                                              cases e282
                                              replace p282 := eq_true p282
                                              replace q282 := eq_true q282
                                              obtain ⟨Ao55, co55, eo55⟩ := Kd.R_slice HO_11.out
                                              subst eo55
                                              have p283 : 0 ≤ (x128_5 : Int) := of_decide_eq_true (by first | (with_reducible assumption) | assumption)
                                              have q283 : x128_5 < (t271.length : Int) := of_decide_eq_true (by first | (with_reducible assumption) | assumption)
                                              obtain ⟨ad283, e283, hx283_0⟩ := Kd.at_int (Kd.R_reads' HO_11.out).2.2 x128_5 p283 q283
                                              cases e283
                                              replace p283 := eq_true p283
                                              replace q283 := eq_true q283
                                              go_wp2
                                              go_roundg k5
                                              case measure => have := HJ6.out; have := HJ14.out; have := HK3.out; have := HJ38.out; have := HK5.out; omega
                                              case rel => exact ⟨(wrap64 (x128_5 + 1)), (by first | rfl | (simp; done) | (simp [*]; done)), H', ⟨by have := HJ6.out; have := HJ14.out; have := HK3.out; have := HJ38.out; have := HK5.out; omega⟩, ⟨by (with_reducible repeat (first | apply Kd.R_alloc | apply Kd.R_drewN | apply Kd.R_drew)); exact HO_11.out⟩, ⟨by (with_reducible repeat (first | apply Kd.R_alloc | apply Kd.R_drewN | apply Kd.R_drew)); exact HO_126.out⟩, ⟨by repeat (first | (with_reducible first | exact HB.out | apply below_alloc | apply pw_below_drewN | apply below_drew1) | exact HB.out)⟩⟩
                                        · rw [if_neg c47] at H
                                          exact absurd H (by simp)
                                      · replace c46 := Bool.eq_false_iff.mpr c46
                                        subst c46
                                        have H1 : (if t281 = true then (if x128_5 < (l3.length : Int) then (if (rd l3 x128_5) < (rd t267 x128_5) then (some false) else (fastilaw32_RoundsPossible.l1 k5 l3 t271 false t281 t267 (t267.length : Int) (wrap64 (x128_5 + 1)))) else (none)) else (fastilaw32_RoundsPossible.l1 k5 l3 t271 false t281 t267 (t267.length : Int) (wrap64 (x128_5 + 1)))) = some r := by rw [if_neg (show ¬ (false = true) by decide)] at H; exact H
                                        clear H
                                        have H := H1
                                        clear H1
                                        by_cases c56 : t281 = true
                                        · subst c56
                                          have H1 : (if x128_5 < (l3.length : Int) then (if (rd l3 x128_5) < (rd t267 x128_5) then (some false) else (fastilaw32_RoundsPossible.l1 k5 l3 t271 false true t267 (t267.length : Int) (wrap64 (x128_5 + 1)))) else (none)) = some r := by rw [if_pos rfl] at H; exact H
                                          clear H
                                          have H := H1
                                          clear H1
                                          by_cases c57 : x128_5 < (l3.length : Int)
                                          · rw [if_pos c57] at H
                                            have c57b0 : decide (x128_5 < (l3.length : Int)) = true := decide_eq_true c57
                                            clear c57
                                            by_cases c58 : (rd l3 x128_5) < (rd t267 x128_5)
                                            · rw [if_pos c58] at H
                                              have c58b0 : decide ((rd l3 x128_5) < (rd t267 x128_5)) = true := decide_eq_true c58
                                              clear c58
                                              obtain rfl := Option.some.inj H
                                              have p282 : 0 ≤ (x128_5 : Int) := of_decide_eq_true (by first | (with_reducible assumption) | assumption)
                                              have q282 : x128_5 < (t267.length : Int) := of_decide_eq_true (by first | (with_reducible assumption) | assumption)
                                              obtain ⟨ad282, e282, hx282_0⟩ := Kd.at_int (Kd.R_reads' HO_126.out).2.2 x128_5 p282 q282
                                              cases e282
                                              replace p282 := eq_true p282
                                              replace q282 := eq_true q282
                                              have p285 : 0 ≤ (x128_5 : Int) := of_decide_eq_true (by first | (with_reducible assumption) | assumption)
                                              have q285 : x128_5 < (l3.length : Int) := of_decide_eq_true (by first | (with_reducible assumption) | assumption)
                                              obtain ⟨ad285, e285, hx285_0⟩ := Kd.at_int HR3.out x128_5 p285 q285
                                              cases e285
                                              replace hx285_0 := (HB.out.cell (World.block_lt_of_cell? w _ hx285_0)).trans hx285_0
                                              replace p285 := eq_true p285
                                              replace q285 := eq_true q285
                                              go_wp2
                                              go_ret
                                              exact ⟨by first | rfl | (simp [errW_none, errW_some] <;> rfl) | (simp [*, errW_none, errW_some] <;> rfl), by repeat (first | (with_reducible first | exact HB.out | apply below_alloc | apply pw_below_drewN | apply below_drew1) | exact HB.out)⟩
                                            · rw [if_neg c58] at H
                                              have c58b0 : decide ((rd l3 x128_5) < (rd t267 x128_5)) = false := decide_eq_false c58
                                              clear c58
                                              have H' := Aside0.mk H
                                              clear H
                                              have p282 : 0 ≤ (x128_5 : Int) := of_decide_eq_true (by first | (with_reducible assumption) | assumption)
                                              have q282 : x128_5 < (t267.length : Int) := of_decide_eq_true (by first | (with_reducible assumption) | assumption)
                                              obtain ⟨ad282, e282, hx282_0⟩ := Kd.at_int (Kd.R_reads' HO_126.out).2.2 x128_5 p282 q282
                                              cases e282
                                              replace p282 := eq_true p282
                                              replace q282 := eq_true q282
                                              have p285 : 0 ≤ (x128_5 : Int) := of_decide_eq_true (by first | (with_reducible assumption) | assumption)
                                              have q285 : x128_5 < (l3.length : Int) := of_decide_eq_true (by first | (with_reducible assumption) | assumption)
                                              obtain ⟨ad285, e285, hx285_0⟩ := Kd.at_int HR3.out x128_5 p285 q285
                                              cases e285
                                              replace hx285_0 := (HB.out.cell (World.block_lt_of_cell? w _ hx285_0)).trans hx285_0
                                              replace p285 := eq_true p285
                                              replace q285 := eq_true q285
                                              go_wp2
                                              go_roundg k5
                                              case measure => have := HJ6.out; have := HJ14.out; have := HK3.out; have := HJ38.out; have := HK5.out; omega
                                              case rel => exact ⟨(wrap64 (x128_5 + 1)), (by first | rfl | (simp; done) | (simp [*]; done)), H', ⟨by have := HJ6.out; have := HJ14.out; have := HK3.out; have := HJ38.out; have := HK5.out; omega⟩, ⟨by (with_reducible repeat (first | apply Kd.R_alloc | apply Kd.R_drewN | apply Kd.R_drew)); exact HO_11.out⟩, ⟨by (with_reducible repeat (first | apply Kd.R_alloc | apply Kd.R_drewN | apply Kd.R_drew)); exact HO_126.out⟩, ⟨by repeat (first | (with_reducible first | exact HB.out | apply below_alloc | apply pw_below_drewN | apply below_drew1) | exact HB.out)⟩⟩
                                          · rw [if_neg c57] at H
                                            exact absurd H (by simp)
                                        · replace c56 := Bool.eq_false_iff.mpr c56
                                          subst c56
                                          have H1 : (fastilaw32_RoundsPossible.l1 k5 l3 t271 false false t267 (t267.length : Int) (wrap64 (x128_5 + 1))) = some r := by rw [if_neg (show ¬ (false = true) by decide)] at H; exact H
                                          clear H
                                          have H := H1
                                          clear H1
                                          have H' := Aside0.mk H
                                          clear H
                                          have p282 : 0 ≤ (x128_5 : Int) := of_decide_eq_true (by first | (with_reducible assumption) | assumption)
                                          have q282 : x128_5 < (t267.length : Int) := of_decide_eq_true (by first | (with_reducible assumption) | assumption)
                                          obtain ⟨ad282, e282, hx282_0⟩ := Kd.at_int (Kd.R_reads' HO_126.out).2.2 x128_5 p282 q282
                                          cases e282
                                          replace p282 := eq_true p282
                                          replace q282 := eq_true q282
                                          go_wp2
                                          go_roundg k5
                                          case measure => have := HJ6.out; have := HJ14.out; have := HK3.out; have := HJ38.out; have := HK5.out; omega
                                          case rel => exact ⟨(wrap64 (x128_5 + 1)), (by first | rfl | (simp; done) | (simp [*]; done)), H', ⟨by have := HJ6.out; have := HJ14.out; have := HK3.out; have := HJ38.out; have := HK5.out; omega⟩, ⟨by (with_reducible repeat (first | apply Kd.R_alloc | apply Kd.R_drewN | apply Kd.R_drew)); exact HO_11.out⟩, ⟨by (with_reducible repeat (first | apply Kd.R_alloc | apply Kd.R_drewN | apply Kd.R_drew)); exact HO_126.out⟩, ⟨by repeat (first | (with_reducible first | exact HB.out | apply below_alloc | apply pw_below_drewN | apply below_drew1) | exact HB.out)⟩⟩
                                    · rw [if_neg c45] at H
                                      exact absurd H (by simp)
                                  · rw [if_neg c44] at H
                                    exact absurd H (by simp)
                                · rw [if_neg c43] at H
                                  have c43b0 : decide (x128_5 < (t267.length : Int)) = false := decide_eq_false c43
                                  clear c43
                                  by_cases c59 : t281 = true
                                  · subst c59
                                    have H1 : (some t273) = some r := by rw [if_pos rfl] at H; exact H
                                    clear H
                                    have H := H1
                                    clear H1
                                    obtain rfl := Option.some.inj H
                                    go_wp2
                                    go_ret
                                    exact ⟨by first | rfl | (simp [errW_none, errW_some] <;> rfl) | (simp [*, errW_none, errW_some] <;> rfl), by repeat (first | (with_reducible first | exact HB.out | apply below_alloc | apply pw_below_drewN | apply below_drew1) | exact HB.out)⟩
                                  · replace c59 := Bool.eq_false_iff.mpr c59
                                    subst c59
                                    have H1 : (some true) = some r := by rw [if_neg (show ¬ (false = true) by decide)] at H; exact H
                                    clear H
                                    have H := H1
                                    clear H1
                                    obtain rfl := Option.some.inj H
                                    go_wp2
                                    go_ret
                                    exact ⟨by first | rfl | (simp [errW_none, errW_some] <;> rfl) | (simp [*, errW_none, errW_some] <;> rfl), by repeat (first | (with_reducible first | exact HB.out | apply below_alloc | apply pw_below_drewN | apply below_drew1) | exact HB.out)⟩
  · replace c6 := Bool.eq_false_iff.mpr c6
    subst c6
    have H1 : (some false) = some r := by rw [if_neg (show ¬ (false = true) by decide)] at H; exact H
    clear H
    have H := H1
    clear H1
    obtain rfl := Option.some.inj H
    go_enter Try.func6, Try.ntmps6
    go_wp2_with (first | ((with_reducible refine gate_callee (f := 9) rfl ?_); refine goesL_ (some 24) rfl rfl Try.func9 (by kernel_rfl) rfl #[] rfl (by (try simp only [List.map_toArray, List.map_cons, List.map_nil]); first | done | rfl | (simp only [List.length_drop, List.length_take]; rfl)) ?_; (with_reducible refine (fastilaw32_sane.calls  false _ A5.out).mono ?_); rintro e w60 ⟨rfl, hb⟩; refine ⟨_, rfl, ?_⟩; have n0_ := Aside0.mk (below_step (by repeat (first | (with_reducible first | exact HB.out | apply below_alloc | apply pw_below_drewN | apply below_drew1) | exact HB.out)) hb); clear HB; have HB := n0_; clear n0_; (try clear hb); (try clear hb2); (try clear hk); (try clear hi)))
    go_ret
    exact ⟨by first | rfl | (simp [errW_none, errW_some] <;> rfl) | (simp [*, errW_none, errW_some] <;> rfl), by repeat (first | (with_reducible first | exact HB.out | apply below_alloc | apply pw_below_drewN | apply below_drew1) | exact HB.out)⟩

end Go.Proofs.Ytaagpnbnjdpjgaa.X
