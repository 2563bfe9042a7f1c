/- Proved here: for functions of the program and of the reference, what each call returns (theorems '.calls'), under the conditions that each theorem names. Printed by this project's own driver over the kit's printer; parts marked EXT are written by hand. Lean checks it. -/
import Derived.Test.YtaagpnbnjdpjgaaX0
import Derived.Test.YtaagpnbnjdpjgaaX4
import Derived.Test.YtaagpnbnjdpjgaaX5
import Derived.Test.YtaagpnbnjdpjgaaX6
import Derived.Test.YtaagpnbnjdpjgaaX7
import Derived.Test.YtaagpnbnjdpjgaaK
import Derived.Test.YtaagpnbnjdpjgaaR
namespace Go.Proofs.Ytaagpnbnjdpjgaa.X
open Go.RowKit Go.Proofs.YtaagpnbnjdpjgaaW.PrintWords Go.Proofs.YtaagpnbnjdpjgaaW.PrintLast Go.Proofs.YtaagpnbnjdpjgaaW.PrintMore
attribute [local go_sem] max2_int min2_int max_two min_two max_three min_three max_four min_four   -- for this text's walks alone
set_option linter.unusedVariables false
set_option linter.unusedSimpArgs false

-- EXT fastilaw32_sane: function 9
-- def fastilaw32_sane.f  : Option (Bool) := 
-- theorem fastilaw32_sane.calls  (r : Bool) (w : World) (h : fastilaw32_sane.f  = some r) :
--     Calls Try.prog 9 #[] w fun e w' => e = .returned (.bool r) ∧ Below w.heap.size w w'
-- NEEDS: fasti/fastiref32.Same, fasti/rounds.Most, fasti/rounds.Earliest, fasti/rounds.Place
-- INFO: 3
-- IMPORTS: Derived.Test.YtaagpnbnjdpjgaaK, Derived.Test.YtaagpnbnjdpjgaaR
namespace PC
open Go.Proofs.Ytaagpnbnjdpjgaa.K Go.Proofs.Ytaagpnbnjdpjgaa.R Go.Shelf Go.BigFrame
attribute [local go_sem] Oper.semAt_some
theorem lit_C {W : World} {b : Nat} (l : List Int) (hl : l.length < 1000) {t : TypeId} (h : W.heap[b]? = some (.cells (nums .i64 l).toArray t (0, 0))) : Kd.C (Kd.int .i64) W (some ⟨b, 0, none⟩) l.length l := by
  refine Kd.C_of_reads (d := (0 : Int)) (h1 := fun _ => rfl) ⟨rfl, by omega, fun hp => ⟨_, rfl, fun j hj => ?_⟩⟩
  have := blk_cell h j
  rw [add_plain]
  rw [this]
  simp [nums, List.getElem?_eq_getElem hj, List.getD_eq_getElem?_getD]
theorem lit_C2 {W : World} {b b0 b1 : Nat} (x y : List Int) (c0 c1 : Nat) (hx : x.length ≤ c0) (hy : y.length ≤ c1) {t : TypeId} (h : W.heap[b]? = some (.cells #[.slice (some ⟨b0, 0, none⟩) x.length c0, .slice (some ⟨b1, 0, none⟩) y.length c1] t (0, 0)))
    (h0 : Kd.C (Kd.int .i64) W (some ⟨b0, 0, none⟩) x.length x) (h1 : Kd.C (Kd.int .i64) W (some ⟨b1, 0, none⟩) y.length y) : Kd.C (Kd.slice 3 (Kd.int .i64)) W (some ⟨b, 0, none⟩) [x, y].length [x, y] := by
  refine ⟨rfl, by simp, fun _ => ⟨_, rfl, fun j p hj => ?_⟩⟩
  match j, hj with
  | 0, hj =>
    cases hj
    refine ⟨[.slice (some ⟨b0, 0, none⟩) x.length c0], rfl, ⟨_, c0, rfl, hx, h0⟩, fun i u hu => ?_⟩
    obtain ⟨hi, rfl⟩ := List.getElem?_eq_some_iff.1 hu
    simp only [List.length_singleton] at hi
    obtain rfl : i = 0 := by omega
    rw [add_plain]
    exact blk_cell h 0
  | 1, hj =>
    cases hj
    refine ⟨[.slice (some ⟨b1, 0, none⟩) y.length c1], rfl, ⟨_, c1, rfl, hy, h1⟩, fun i u hu => ?_⟩
    obtain ⟨hi, rfl⟩ := List.getElem?_eq_some_iff.1 hu
    simp only [List.length_singleton] at hi
    obtain rfl : i = 0 := by omega
    rw [add_plain]
    exact blk_cell h 1
theorem lit_C1 {W : World} {b b0 : Nat} (x : List Int) (c0 : Nat) (hx : x.length ≤ c0) {t : TypeId} (h : W.heap[b]? = some (.cells #[.slice (some ⟨b0, 0, none⟩) x.length c0] t (0, 0)))
    (h0 : Kd.C (Kd.int .i64) W (some ⟨b0, 0, none⟩) x.length x) : Kd.C (Kd.slice 3 (Kd.int .i64)) W (some ⟨b, 0, none⟩) [x].length [x] := by
  refine ⟨rfl, by simp, fun _ => ⟨_, rfl, fun j p hj => ?_⟩⟩
  match j, hj with
  | 0, hj =>
    cases hj
    refine ⟨[.slice (some ⟨b0, 0, none⟩) x.length c0], rfl, ⟨_, c0, rfl, hx, h0⟩, fun i u hu => ?_⟩
    obtain ⟨hi, rfl⟩ := List.getElem?_eq_some_iff.1 hu
    simp only [List.length_singleton] at hi
    obtain rfl : i = 0 := by omega
    rw [add_plain]
    exact blk_cell h 0
theorem lit_C0 (W : World) {α : Type} (d : Kd α) : Kd.C d W none ([] : List α).length [] := ⟨rfl, by simp, fun h => by simp at h⟩
set_option maxRecDepth 100000 in
set_option maxHeartbeats 4000000 in
theorem sane_calls (w : World) : Calls Try.prog 9 #[] w fun e w' => e = .returned (.bool true) ∧ Below w.heap.size w w' := by
  go_enter Try.func9, Try.ntmps9
  go_wp2_with fail
  have B0 := below_alloc (below_alloc (below_alloc (below_alloc (below_alloc (below_alloc (below_alloc (Below.refl w.heap.size w) (.cells #[.int .i64 0, .int .i64 1, .int .i64 3, .int .i64 6] 3)) (.cells #[.int .i64 5, .int .i64 1, .int .i64 0, .int .i64 0] 3)) (.cells #[.int .i64 0, .int .i64 0, .int .i64 4, .int .i64 9] 3)) (.cells #[.slice (some ⟨w.heap.size + 1, 0, none⟩) 4 4, .slice (some ⟨w.heap.size + 1 + 1, 0, none⟩) 4 4] 22)) (.cells #[.int .i64 0, .int .i64 0] 3)) (.cells #[.int .i64 0, .int .i64 0] 3)) (.cells #[.slice (some ⟨w.heap.size + 1 + 1 + 1 + 1, 0, none⟩) 2 2, .slice (some ⟨w.heap.size + 1 + 1 + 1 + 1 + 1, 0, none⟩) 2 2] 22)
  obtain ⟨W0, hW0⟩ : ∃ W0, ((((((w.alloc (.cells #[.int .i64 0, .int .i64 1, .int .i64 3, .int .i64 6] 3)).alloc (.cells #[.int .i64 5, .int .i64 1, .int .i64 0, .int .i64 0] 3)).alloc (.cells #[.int .i64 0, .int .i64 0, .int .i64 4, .int .i64 9] 3)).alloc (.cells #[.slice (some ⟨w.heap.size + 1, 0, none⟩) 4 4, .slice (some ⟨w.heap.size + 1 + 1, 0, none⟩) 4 4] 22)).alloc (.cells #[.int .i64 0, .int .i64 0] 3)).alloc (.cells #[.int .i64 0, .int .i64 0] 3)).alloc (.cells #[.slice (some ⟨w.heap.size + 1 + 1 + 1 + 1, 0, none⟩) 2 2, .slice (some ⟨w.heap.size + 1 + 1 + 1 + 1 + 1, 0, none⟩) 2 2] 22) = W0 := ⟨_, rfl⟩
  have b0 : W0.heap[w.heap.size]? = some (.cells #[.int .i64 0, .int .i64 1, .int .i64 3, .int .i64 6] 3 (0, 0)) := by rw [← hW0]; exact blk_alloc (blk_alloc (blk_alloc (blk_alloc (blk_alloc (blk_alloc (blk_new w _) _) _) _) _) _) _
  have b1 : W0.heap[w.heap.size + 1]? = some (.cells #[.int .i64 5, .int .i64 1, .int .i64 0, .int .i64 0] 3 (0, 0)) := by rw [← hW0]; have := blk_new (w.alloc (.cells #[.int .i64 0, .int .i64 1, .int .i64 3, .int .i64 6] 3)) (.cells #[.int .i64 5, .int .i64 1, .int .i64 0, .int .i64 0] 3); simp only [World.size_alloc] at this; exact blk_alloc (blk_alloc (blk_alloc (blk_alloc (blk_alloc this _) _) _) _) _
  have b2 : W0.heap[w.heap.size + 1 + 1]? = some (.cells #[.int .i64 0, .int .i64 0, .int .i64 4, .int .i64 9] 3 (0, 0)) := by rw [← hW0]; have := blk_new ((w.alloc (.cells #[.int .i64 0, .int .i64 1, .int .i64 3, .int .i64 6] 3)).alloc (.cells #[.int .i64 5, .int .i64 1, .int .i64 0, .int .i64 0] 3)) (.cells #[.int .i64 0, .int .i64 0, .int .i64 4, .int .i64 9] 3); simp only [World.size_alloc] at this; exact blk_alloc (blk_alloc (blk_alloc (blk_alloc this _) _) _) _
  have b3 : W0.heap[w.heap.size + 1 + 1 + 1]? = some (.cells #[.slice (some ⟨w.heap.size + 1, 0, none⟩) 4 4, .slice (some ⟨w.heap.size + 1 + 1, 0, none⟩) 4 4] 22 (0, 0)) := by rw [← hW0]; have := blk_new (((w.alloc (.cells #[.int .i64 0, .int .i64 1, .int .i64 3, .int .i64 6] 3)).alloc (.cells #[.int .i64 5, .int .i64 1, .int .i64 0, .int .i64 0] 3)).alloc (.cells #[.int .i64 0, .int .i64 0, .int .i64 4, .int .i64 9] 3)) (.cells #[.slice (some ⟨w.heap.size + 1, 0, none⟩) 4 4, .slice (some ⟨w.heap.size + 1 + 1, 0, none⟩) 4 4] 22); simp only [World.size_alloc] at this; exact blk_alloc (blk_alloc (blk_alloc this _) _) _
  have b4 : W0.heap[w.heap.size + 1 + 1 + 1 + 1]? = some (.cells #[.int .i64 0, .int .i64 0] 3 (0, 0)) := by rw [← hW0]; have := blk_new ((((w.alloc (.cells #[.int .i64 0, .int .i64 1, .int .i64 3, .int .i64 6] 3)).alloc (.cells #[.int .i64 5, .int .i64 1, .int .i64 0, .int .i64 0] 3)).alloc (.cells #[.int .i64 0, .int .i64 0, .int .i64 4, .int .i64 9] 3)).alloc (.cells #[.slice (some ⟨w.heap.size + 1, 0, none⟩) 4 4, .slice (some ⟨w.heap.size + 1 + 1, 0, none⟩) 4 4] 22)) (.cells #[.int .i64 0, .int .i64 0] 3); simp only [World.size_alloc] at this; exact blk_alloc (blk_alloc this _) _
  have b5 : W0.heap[w.heap.size + 1 + 1 + 1 + 1 + 1]? = some (.cells #[.int .i64 0, .int .i64 0] 3 (0, 0)) := by rw [← hW0]; have := blk_new (((((w.alloc (.cells #[.int .i64 0, .int .i64 1, .int .i64 3, .int .i64 6] 3)).alloc (.cells #[.int .i64 5, .int .i64 1, .int .i64 0, .int .i64 0] 3)).alloc (.cells #[.int .i64 0, .int .i64 0, .int .i64 4, .int .i64 9] 3)).alloc (.cells #[.slice (some ⟨w.heap.size + 1, 0, none⟩) 4 4, .slice (some ⟨w.heap.size + 1 + 1, 0, none⟩) 4 4] 22)).alloc (.cells #[.int .i64 0, .int .i64 0] 3)) (.cells #[.int .i64 0, .int .i64 0] 3); simp only [World.size_alloc] at this; exact blk_alloc this _
  have b6 : W0.heap[w.heap.size + 1 + 1 + 1 + 1 + 1 + 1]? = some (.cells #[.slice (some ⟨w.heap.size + 1 + 1 + 1 + 1, 0, none⟩) 2 2, .slice (some ⟨w.heap.size + 1 + 1 + 1 + 1 + 1, 0, none⟩) 2 2] 22 (0, 0)) := by rw [← hW0]; have := blk_new ((((((w.alloc (.cells #[.int .i64 0, .int .i64 1, .int .i64 3, .int .i64 6] 3)).alloc (.cells #[.int .i64 5, .int .i64 1, .int .i64 0, .int .i64 0] 3)).alloc (.cells #[.int .i64 0, .int .i64 0, .int .i64 4, .int .i64 9] 3)).alloc (.cells #[.slice (some ⟨w.heap.size + 1, 0, none⟩) 4 4, .slice (some ⟨w.heap.size + 1 + 1, 0, none⟩) 4 4] 22)).alloc (.cells #[.int .i64 0, .int .i64 0] 3)).alloc (.cells #[.int .i64 0, .int .i64 0] 3)) (.cells #[.slice (some ⟨w.heap.size + 1 + 1 + 1 + 1, 0, none⟩) 2 2, .slice (some ⟨w.heap.size + 1 + 1 + 1 + 1 + 1, 0, none⟩) 2 2] 22); simp only [World.size_alloc] at this; exact this
  rw [hW0] at B0 ⊢
  have C0 := lit_C [0, 1, 3, 6] (by decide) b0
  have C3 := lit_C2 [5, 1, 0, 0] [0, 0, 4, 9] 4 4 (by decide) (by decide) b3 (lit_C _ (by decide) b1) (lit_C _ (by decide) b2)
  have C6 := lit_C2 [0, 0] [0, 0] 2 2 (by decide) (by decide) b6 (lit_C _ (by decide) b4) (lit_C _ (by decide) b5)
  have D0 := Aside0.mk C0
  have D3 := Aside0.mk C3
  have D6 := Aside0.mk C6
  have hz0 := B0.size
  have HB := Aside0.mk B0
  clear b0 b1 b2 b3 b4 b5 b6 C0 C3 C6 hW0 B0
  refine (rounds_Most.calls _ 4 [0, 1, 3, 6] 2 3 0 W0 D0.out (by decide) (by kernel_rfl)).mono ?_
  rintro e w1 ⟨rfl, K1⟩
  have E1 := Aside0.mk K1
  have z1 := K1.size
  clear K1
  go_wp2_with fail
  refine (rounds_Earliest.calls _ 4 [0, 1, 3, 6] 2 _ 2 [[5, 1, 0, 0], [0, 0, 4, 9]] [0, 2] 0 w1 (Kd.C_below D0.out E1.out) (by decide) (Kd.C_below D3.out E1.out) (by decide) (by kernel_rfl)).mono ?_
  rintro e w2 ⟨va, rfl, ra, K2⟩
  obtain ⟨Aa, ca, rfl, hca, hCa⟩ := Kd.R_reads ra
  have E2 := Aside0.mk (below_then E1.out z1 K2)
  have RA := Aside0.mk hCa
  have z2 := E2.out.size
  clear K2 ra hCa
  go_wp2_with fail
  refine (rounds_Place.calls _ 4 [0, 1, 3, 6] 2 _ 2 [[5, 1, 0, 0], [0, 0, 4, 9]] [1, 2] 5 true 0 w2 (Kd.C_below D0.out E2.out) (by decide) (Kd.C_below D3.out E2.out) (by decide) (by kernel_rfl)).mono ?_
  rintro e w3 ⟨vb, rfl, rb, K3⟩
  obtain ⟨Ab, cb, rfl, hcb, hCb⟩ := Kd.R_reads rb
  have E3 := Aside0.mk (below_then E2.out z2 K3)
  have RB := Aside0.mk hCb
  have RA3 := Aside0.mk (Kd.C_below RA.out K3)
  have z3 := E3.out.size
  clear K3 rb hCb RA
  go_wp2_with fail
  have E3' := below_alloc E3.out (.cells #[.int .i64 0, .int .i64 1] 3)
  have L3 := lit_C [0, 1] (by decide) (blk_new w3 (.cells #[.int .i64 0, .int .i64 1] 3))
  refine (rounds_Earliest.calls _ 2 [0, 1] 2 _ 2 [[0, 0], [0, 0]] [0, -1] 0 _ L3 (by decide) (Kd.C_below D6.out E3') (by decide) (by kernel_rfl)).mono ?_
  rintro e w4 ⟨vc, rfl, rc, K4⟩
  obtain ⟨Ac, cc, rfl, hcc, hCc⟩ := Kd.R_reads rc
  have k4 := (below_alloc (Below.refl w3.heap.size w3) (.cells #[.int .i64 0, .int .i64 1] 3)).trans (K4.mono (by simp))
  have E4 := Aside0.mk (below_then E3.out z3 k4)
  have RA4 := Aside0.mk (Kd.C_below RA3.out k4)
  have RB4 := Aside0.mk (Kd.C_below RB.out k4)
  have RC := Aside0.mk hCc
  have z4 := E4.out.size
  clear K4 k4 rc hCc RA3 RB E3' L3
  go_wp2_with fail
  have E4' := below_alloc E4.out (.cells #[.int .i64 0, .int .i64 1] 3)
  have L4 := lit_C [0, 1] (by decide) (blk_new w4 (.cells #[.int .i64 0, .int .i64 1] 3))
  refine (rounds_Place.calls _ 2 [0, 1] 2 _ 2 [[0, 0], [0, 0]] [] 0 false 0 _ L4 (by decide) (Kd.C_below D6.out E4') (by decide) (by kernel_rfl)).mono ?_
  rintro e w5 ⟨vd, rfl, rd5, K5⟩
  obtain ⟨Ad, cd, rfl, hcd, _⟩ := Kd.R_reads rd5
  have k5 := (below_alloc (Below.refl w4.heap.size w4) (.cells #[.int .i64 0, .int .i64 1] 3)).trans (K5.mono (by simp))
  have E5 := Aside0.mk (below_then E4.out z4 k5)
  have RA5 := Aside0.mk (Kd.C_below RA4.out k5)
  have RB5 := Aside0.mk (Kd.C_below RB4.out k5)
  have RC5 := Aside0.mk (Kd.C_below RC.out k5)
  have z5 := E5.out.size
  clear K5 k5 rd5 RA4 RB4 RC E4' L4
  go_wp2_with fail
  have L5 := lit_C [7] (by decide) (blk_new w5 (.cells #[.int .i64 7] 3))
  refine (rounds_Place.calls _ 1 [7] 1 none 0 [] [] 0 true 0 _ L5 (by decide) (lit_C0 _ _) (by decide) (by kernel_rfl)).mono ?_
  rintro e w6 ⟨ve, rfl, re, K6⟩
  obtain ⟨Ae, ce, rfl, hce, _⟩ := Kd.R_reads re
  have k6 := (below_alloc (Below.refl w5.heap.size w5) (.cells #[.int .i64 7] 3)).trans (K6.mono (by simp))
  have E6 := Aside0.mk (below_then E5.out z5 k6)
  have RA6 := Aside0.mk (Kd.C_below RA5.out k6)
  have RB6 := Aside0.mk (Kd.C_below RB5.out k6)
  have RC6 := Aside0.mk (Kd.C_below RC5.out k6)
  have z6 := E6.out.size
  clear K6 k6 re RA5 RB5 RC5 L5
  go_wp2_with fail
  refine (rounds_Most.calls none 0 [] 1 0 320 w6 (lit_C0 _ _) (by decide) (by kernel_rfl)).mono ?_
  rintro e w7 ⟨rfl, K7⟩
  have E7 := Aside0.mk (below_then E6.out z6 K7)
  have RA7 := Aside0.mk (Kd.C_below RA6.out K7)
  have RB7 := Aside0.mk (Kd.C_below RB6.out K7)
  have RC7 := Aside0.mk (Kd.C_below RC6.out K7)
  have z7 := E7.out.size
  clear K7 RA6 RB6 RC6
  go_wp2_with fail
  have g1 := blk_new ((w7.alloc (.cells #[.int .i64 7] 3)).alloc (.cells #[.int .i64 0, .int .i64 0] 3)) (.cells #[.slice (some ⟨w7.heap.size + 1, 0, none⟩) 2 2] 22)
  have g2 := blk_new (w7.alloc (.cells #[.int .i64 7] 3)) (.cells #[.int .i64 0, .int .i64 0] 3)
  have g3 := blk_alloc (blk_alloc (blk_new w7 (.cells #[.int .i64 7] 3)) (.cells #[.int .i64 0, .int .i64 0] 3)) (.cells #[.slice (some ⟨w7.heap.size + 1, 0, none⟩) 2 2] 22)
  simp only [World.size_alloc] at g1 g2
  have L7 := lit_C [7] (by decide) g3
  have M7 := lit_C1 [0, 0] 2 (by decide) g1 (lit_C _ (by decide) (blk_alloc g2 (.cells #[.slice (some ⟨w7.heap.size + 1, 0, none⟩) 2 2] 22)))
  refine (rounds_Earliest.calls _ 1 [7] 1 _ 1 [[0, 0]] [] 320 _ L7 (by decide) M7 (by decide) (by kernel_rfl)).mono ?_
  rintro e w8 ⟨vf, rfl, rf, K8⟩
  obtain ⟨Af, cf, rfl, hcf, _⟩ := Kd.R_reads rf
  have k8 := (below_alloc (below_alloc (below_alloc (Below.refl w7.heap.size w7) (.cells #[.int .i64 7] 3)) (.cells #[.int .i64 0, .int .i64 0] 3)) (.cells #[.slice (some ⟨w7.heap.size + 1, 0, none⟩) 2 2] 22)).trans (K8.mono (by simp; omega))
  have E8 := Aside0.mk (below_then E7.out z7 k8)
  have RA8 := Aside0.mk (Kd.C_below RA7.out k8)
  have RB8 := Aside0.mk (Kd.C_below RB7.out k8)
  have RC8 := Aside0.mk (Kd.C_below RC7.out k8)
  have z8 := E8.out.size
  clear K8 k8 rf RA7 RB7 RC7 L7 M7 g1 g2 g3
  go_wp2_with fail
  have E8' := below_alloc (Below.refl w8.heap.size w8) (.cells #[.int .i64 0, .int .i64 2] 3)
  refine (fastiref32_Same.calls 10 _ ca [0, 2] _ 2 [0, 2] true _ (Kd.C_below RA8.out E8') hca (lit_C [0, 2] (by decide) (blk_new w8 (.cells #[.int .i64 0, .int .i64 2] 3))) (by decide) (by kernel_rfl)).mono ?_
  rintro e w9 ⟨rfl, ⟨n9, rfl⟩⟩
  have k9 := pw_below_drewN E8' n9
  have E9 := Aside0.mk (below_then E8.out z8 k9)
  have RB9 := Aside0.mk (Kd.C_below RB8.out k9)
  have RC9 := Aside0.mk (Kd.C_below RC8.out k9)
  obtain ⟨w9, hw9⟩ : ∃ w9, (w8.alloc (.cells #[.int .i64 0, .int .i64 2] 3)).drewN n9 = w9 := ⟨_, rfl⟩
  rw [hw9] at E9 RB9 RC9 ⊢
  have z9 := E9.out.size
  clear RA8 RB8 RC8 E8' k9 hw9
  go_wp2_with fail
  have E9' := below_alloc (Below.refl w9.heap.size w9) (.cells #[.int .i64 1, .int .i64 2] 3)
  refine (fastiref32_Same.calls 10 _ cb [1, 2] _ 2 [1, 2] true _ (Kd.C_below RB9.out E9') hcb (lit_C [1, 2] (by decide) (blk_new w9 (.cells #[.int .i64 1, .int .i64 2] 3))) (by decide) (by kernel_rfl)).mono ?_
  rintro e w10 ⟨rfl, ⟨n10, rfl⟩⟩
  have k10 := pw_below_drewN E9' n10
  have E10 := Aside0.mk (below_then E9.out z9 k10)
  have RC10 := Aside0.mk (Kd.C_below RC9.out k10)
  obtain ⟨w10, hw10⟩ : ∃ w10, (w9.alloc (.cells #[.int .i64 1, .int .i64 2] 3)).drewN n10 = w10 := ⟨_, rfl⟩
  rw [hw10] at E10 RC10 ⊢
  have z10 := E10.out.size
  clear RB9 RC9 E9' k10 hw10
  go_wp2_with fail
  have E10' := below_alloc (Below.refl w10.heap.size w10) (.cells #[.int .i64 0, .int .i64 (-1)] 3)
  refine (fastiref32_Same.calls 10 _ cc [0, -1] _ 2 [0, -1] true _ (Kd.C_below RC10.out E10') hcc (lit_C [0, -1] (by decide) (blk_new w10 (.cells #[.int .i64 0, .int .i64 (-1)] 3))) (by decide) (by kernel_rfl)).mono ?_
  rintro e w11 ⟨rfl, ⟨n11, rfl⟩⟩
  have k11 := pw_below_drewN E10' n11
  have E11 := Aside0.mk (below_then E10.out z10 k11)
  obtain ⟨w11, hw11⟩ : ∃ w11, (w10.alloc (.cells #[.int .i64 0, .int .i64 (-1)] 3)).drewN n11 = w11 := ⟨_, rfl⟩
  rw [hw11] at E11 ⊢
  clear RC10 E10' k11 hw11
  go_wp2_with fail
  exact bodyPost_ret (v := .bool true) (by simp [results, Try.results9, go_sem]) rfl ⟨rfl, ⟨(E11.out.os).trans HB.out.os, (E11.out.tape).trans HB.out.tape, (E11.out.output).trans HB.out.output, Nat.le_trans HB.out.size E11.out.size, fun k hk => (E11.out.block k (Nat.lt_of_lt_of_le hk hz0)).trans (HB.out.block k hk)⟩⟩
end PC
def fastilaw32_sane.f : Option (Bool) := some true
theorem fastilaw32_sane.calls (r : Bool) (w : World) (h : fastilaw32_sane.f = some r) :
    Calls Try.prog 9 #[] w fun e w' => e = .returned (.bool r) ∧ Below w.heap.size w w' := by
  cases h
  exact PC.sane_calls w

end Go.Proofs.Ytaagpnbnjdpjgaa.X
