/- Proved here: for functions of the program and of the reference, what each call returns (theorems '.calls'), under the conditions that each theorem names. Printed by this project's own driver over the kit's printer; parts marked EXT are written by hand. Lean checks it. -/
import Derived.Test.YtpodgkmgameocaaDoorX0
import Derived.Test.YtpodgkmgameocaaDoorX1
import Derived.Test.YtpodgkmgameocaaDoorX3
import Derived.Test.YtpodgkmgameocaaDoorX4
import Derived.Test.YtpodgkmgameocaaDoorX5
import Derived.Test.YtpodgkmgameocaaDoorXComb
namespace Go.Proofs.YtpodgkmgameocaaDoor.X
open Go.RowKit Go.Proofs.YtpodgkmgameocaaDoorW.PrintWords Go.Proofs.YtpodgkmgameocaaDoorW.PrintLast Go.Proofs.YtpodgkmgameocaaDoorW.PrintMore
attribute [local go_sem] max2_int min2_int max_two min_two max_three min_three max_four min_four   -- for this text's walks alone
set_option linter.unusedVariables false
set_option linter.unusedSimpArgs false

-- EXT fastilaw12_sane: function 9
-- def fastilaw12_sane.f  : Option (Bool) := 
-- theorem fastilaw12_sane.calls  (r : Bool) (w : World) (h : fastilaw12_sane.f  = some r) :
--     Calls Tryd.prog 9 #[] w fun e w' => e = .returned (.bool r) ∧ Below w.heap.size w w'
-- NEEDS: fasti/days.Check, fasti/days.Weekday, fasti/days.Count, fasti/days.Nth, fasti/days.Of, fasti/days.Number, fasti/fastiref12.Same
-- INFO: 3, 45
-- IMPORTS: Derived.Test.YtpodgkmgameocaaDoorXComb
namespace CZ
open Go.Proofs.YtpodgkmgameocaaDoor.K
attribute [local go_sem high] eqA23
theorem flat_at {α : Type} {enc : α → List Value} {sz : Nat} (hs : ∀ x, (enc x).length = sz) : ∀ {l : List α} {j : Nat} {p : α} (i : Nat), l[j]? = some p → i < sz → (l.flatMap enc)[j * sz + i]? = (enc p)[i]?
  | [], _, _, _, h, _ => by simp at h
  | a :: l, 0, p, i, h, hi => by
    obtain rfl : a = p := by simpa using h
    rw [List.flatMap_cons, Nat.zero_mul, Nat.zero_add, List.getElem?_append_left (by rw [hs]; exact hi)]
  | a :: l, j + 1, p, i, h, hi => by
    have ih := flat_at hs (l := l) (j := j) (p := p) i (by simpa using h) hi
    rw [List.flatMap_cons, List.getElem?_append_right (by rw [hs, Nat.succ_mul]; omega), hs, show (j + 1) * sz + i - sz = j * sz + i by rw [Nat.succ_mul]; omega]
    exact ih
theorem lit45 {W : World} {g : Nat} (l : List S45) (hl : l.length < 1000) (h : W.heap[g]? = some (.cells (CB.flat l).toArray 45 (0, 0))) : Kd.C k45 W (some ⟨g, 0, none⟩) l.length l := by
  refine ⟨rfl, by omega, fun hp => ⟨_, rfl, fun j p hj => ⟨[.int .i64 p.f0, .int .i64 p.f1], rfl, k45_mk W p, fun i u hu => ?_⟩⟩⟩
  have hi : i < 2 := (List.getElem?_eq_some_iff.1 hu).1
  have := blk_cell h (j * 2 + i)
  rw [List.getElem?_toArray] at this
  unfold CB.flat at this
  rw [flat_at (enc := fun s : S45 => [Value.int .i64 s.f0, .int .i64 s.f1]) (sz := 2) (fun _ => rfl) i hj hi, hu] at this
  show W.cell? ((⟨g, 0, none⟩ : Addr).add (j * 2 + i)) = some u
  rw [add_plain]
  exact this
theorem stepB {w w1 w2 : World} (h : Below w.heap.size w w1) (k : Below w1.heap.size w1 w2) : Below w.heap.size w w2 := below_then h h.size k
set_option maxRecDepth 100000 in
set_option maxHeartbeats 16000000 in
theorem sane_calls (w : World) (hgl : GL.Glob w) : Calls Tryd.prog 9 #[] w fun e w' => e = .returned (.bool true) ∧ Below w.heap.size w w' := by
  have HG := Aside0.mk hgl
  clear hgl
  go_enter Tryd.func9, Tryd.ntmps9
  go_wp2_with fail
  refine (days_Of.calls 59 2000 2 29 0 w HG.out (by kernel_rfl)).mono ?_
  rintro e w1 ⟨rfl, B1⟩
  have E1 := Aside0.mk (below_alloc B1 (.cells #[.int .i64 2000, .int .i64 2, .int .i64 29] 23))
  have D1 := Aside0.mk (blk_new w1 (.cells #[.int .i64 2000, .int .i64 2, .int .i64 29] 23))
  clear B1
  go_wp2_with fail
  refine (days_Of.calls 73048 2199 12 31 0 _ (GL.gl HG.out E1.out) (by kernel_rfl)).mono ?_
  rintro e w2 ⟨rfl, B2⟩
  have E2 := Aside0.mk (below_alloc (stepB E1.out B2) (.cells #[.int .i64 2199, .int .i64 12, .int .i64 31] 23))
  have D12 := Aside0.mk (blk_alloc (blk_below D1.out B2) (.cells #[.int .i64 2199, .int .i64 12, .int .i64 31] 23))
  have D22 := Aside0.mk (blk_new w2 (.cells #[.int .i64 2199, .int .i64 12, .int .i64 31] 23))
  clear B2 E1 D1
  go_wp2_with fail
  refine (days_Of.calls 366 2001 1 1 0 _ (GL.gl HG.out E2.out) (by kernel_rfl)).mono ?_
  rintro e w3 ⟨rfl, B3⟩
  have E3 := Aside0.mk (below_alloc (stepB E2.out B3) (.cells #[.int .i64 2001, .int .i64 1, .int .i64 1] 23))
  have D13 := Aside0.mk (blk_alloc (blk_below D12.out B3) (.cells #[.int .i64 2001, .int .i64 1, .int .i64 1] 23))
  have D23 := Aside0.mk (blk_alloc (blk_below D22.out B3) (.cells #[.int .i64 2001, .int .i64 1, .int .i64 1] 23))
  have D33 := Aside0.mk (blk_new w3 (.cells #[.int .i64 2001, .int .i64 1, .int .i64 1] 23))
  clear B3 E2 D12 D22
  go_wp2_with fail
  refine (days_Number.calls 2100 2 29 0 120 _ (GL.gl HG.out E3.out) (by kernel_rfl)).mono ?_
  rintro e w4 ⟨rfl, B4⟩
  have E4 := Aside0.mk (stepB E3.out B4)
  have D14 := Aside0.mk (blk_below D13.out B4)
  have D24 := Aside0.mk (blk_below D23.out B4)
  have D34 := Aside0.mk (blk_below D33.out B4)
  clear B4 E3 D13 D23 D33
  obtain ⟨g1, hg1⟩ : ∃ g, w1.heap.size = g := ⟨_, rfl⟩
  obtain ⟨g2, hg2⟩ : ∃ g, w2.heap.size = g := ⟨_, rfl⟩
  obtain ⟨g3, hg3⟩ : ∃ g, w3.heap.size = g := ⟨_, rfl⟩
  rw [hg1] at D14
  rw [hg2] at D24
  rw [hg3] at D34
  rw [hg1, hg2, hg3]
  clear hg1 hg2 hg3
  go_wp2_with fail
  refine (days_Weekday.calls 0 5 0 w4 (by kernel_rfl)).mono ?_
  rintro e w5' ⟨rfl, ⟨n5, rfl⟩⟩
  obtain ⟨w5, hw5⟩ : ∃ w5, w4.drewN n5 = w5 := ⟨_, rfl⟩
  rw [hw5]
  have B5 : Below w4.heap.size w4 w5 := by rw [← hw5]; exact pw_below_drewN (Below.refl _ _) n5
  have E5 := Aside0.mk (stepB E4.out B5)
  have D15 := Aside0.mk (blk_below D14.out B5)
  have D25 := Aside0.mk (blk_below D24.out B5)
  have D35 := Aside0.mk (blk_below D34.out B5)
  clear B5 hw5 E4 D14 D24 D34
  go_wp2_with fail
  have X6 := Aside0.mk (blk_alloc (blk_new w5 (.cells #[.int .i64 1, .int .i64 9] 45)) (.cells #[.int .i64 3, .int .i64 5] 45))
  have Y6 := Aside0.mk (CT.blk_here (w5.alloc (.cells #[.int .i64 1, .int .i64 9] 45)) (.cells #[.int .i64 3, .int .i64 5] 45) (k := w5.heap.size + 1) (by simp))
  have F6 : Below w5.heap.size w5 ((w5.alloc (.cells #[.int .i64 1, .int .i64 9] 45)).alloc (.cells #[.int .i64 3, .int .i64 5] 45)) := below_alloc (below_alloc (Below.refl _ _) (.cells #[.int .i64 1, .int .i64 9] 45)) (.cells #[.int .i64 3, .int .i64 5] 45)
  refine (days_Without.calls (some ⟨w5.heap.size, 0, none⟩) 1 [⟨1, 9⟩] (some ⟨w5.heap.size + 1, 0, none⟩) 1 [⟨3, 5⟩] [⟨1, 2⟩, ⟨6, 9⟩] 0 _ (lit45 [⟨1, 9⟩] (by decide) X6.out) (by decide) (lit45 [⟨3, 5⟩] (by decide) Y6.out) (by decide) (by kernel_rfl)).mono ?_
  rintro e w6 ⟨vl, rfl, Rl, B6⟩
  obtain ⟨Al, cl, rfl, hcl, hCl⟩ := Kd.R_reads Rl
  have G6 := stepB F6 B6
  have E6 := Aside0.mk (stepB E5.out G6)
  have D16 := Aside0.mk (blk_below D15.out G6)
  have D26 := Aside0.mk (blk_below D25.out G6)
  have D36 := Aside0.mk (blk_below D35.out G6)
  have Cl6 := Aside0.mk hCl
  have Cb6 := Aside0.mk (Kd.C_below (lit45 [⟨3, 5⟩] (by decide) Y6.out) B6)
  clear X6 Y6 F6 G6 B6 Rl hCl E5 D15 D25 D35
  obtain ⟨gb, hgb⟩ : ∃ g, w5.heap.size + 1 = g := ⟨_, rfl⟩
  rw [hgb] at Cb6 ⊢
  clear hgb
  go_wp2_with fail
  have X7 := Aside0.mk (blk_alloc (blk_new w6 (.cells #[.int .i64 1, .int .i64 3] 45)) (.cells #[.int .i64 4, .int .i64 6] 45))
  have Y7 := Aside0.mk (CT.blk_here (w6.alloc (.cells #[.int .i64 1, .int .i64 3] 45)) (.cells #[.int .i64 4, .int .i64 6] 45) (k := w6.heap.size + 1) (by simp))
  have F7 : Below w6.heap.size w6 ((w6.alloc (.cells #[.int .i64 1, .int .i64 3] 45)).alloc (.cells #[.int .i64 4, .int .i64 6] 45)) := below_alloc (below_alloc (Below.refl _ _) (.cells #[.int .i64 1, .int .i64 3] 45)) (.cells #[.int .i64 4, .int .i64 6] 45)
  refine (days_Union.calls (some ⟨w6.heap.size, 0, none⟩) 1 [⟨1, 3⟩] (some ⟨w6.heap.size + 1, 0, none⟩) 1 [⟨4, 6⟩] [⟨1, 6⟩] 0 _ (lit45 [⟨1, 3⟩] (by decide) X7.out) (by decide) (lit45 [⟨4, 6⟩] (by decide) Y7.out) (by decide) (by kernel_rfl)).mono ?_
  rintro e w7 ⟨vm, rfl, Rm, B7⟩
  obtain ⟨Am, cm, rfl, hcm, hCm⟩ := Kd.R_reads Rm
  have G7 := stepB F7 B7
  have E7 := Aside0.mk (stepB E6.out G7)
  have D17 := Aside0.mk (blk_below D16.out G7)
  have D27 := Aside0.mk (blk_below D26.out G7)
  have D37 := Aside0.mk (blk_below D36.out G7)
  have Cm7 := Aside0.mk hCm
  have Cl7 := Aside0.mk (Kd.C_below Cl6.out G7)
  have Cb7 := Aside0.mk (Kd.C_below Cb6.out G7)
  clear X7 Y7 F7 G7 B7 Rm hCm E6 D16 D26 D36 Cl6 Cb6
  go_wp2_with fail
  have X8 := Aside0.mk (blk_alloc (blk_new w7 (.cells #[.int .i64 1, .int .i64 5] 45)) (.cells #[.int .i64 3, .int .i64 9] 45))
  have Y8 := Aside0.mk (CT.blk_here (w7.alloc (.cells #[.int .i64 1, .int .i64 5] 45)) (.cells #[.int .i64 3, .int .i64 9] 45) (k := w7.heap.size + 1) (by simp))
  have F8 : Below w7.heap.size w7 ((w7.alloc (.cells #[.int .i64 1, .int .i64 5] 45)).alloc (.cells #[.int .i64 3, .int .i64 9] 45)) := below_alloc (below_alloc (Below.refl _ _) (.cells #[.int .i64 1, .int .i64 5] 45)) (.cells #[.int .i64 3, .int .i64 9] 45)
  refine (days_Meet.calls (some ⟨w7.heap.size, 0, none⟩) 1 [⟨1, 5⟩] (some ⟨w7.heap.size + 1, 0, none⟩) 1 [⟨3, 9⟩] [⟨3, 5⟩] 0 _ (lit45 [⟨1, 5⟩] (by decide) X8.out) (by decide) (lit45 [⟨3, 9⟩] (by decide) Y8.out) (by decide) (by kernel_rfl)).mono ?_
  rintro e w8 ⟨vx, rfl, Rx, B8⟩
  obtain ⟨Ax, cx, rfl, hcx, hCx⟩ := Kd.R_reads Rx
  have G8 := stepB F8 B8
  have E8 := Aside0.mk (stepB E7.out G8)
  have D18 := Aside0.mk (blk_below D17.out G8)
  have D28 := Aside0.mk (blk_below D27.out G8)
  have D38 := Aside0.mk (blk_below D37.out G8)
  have Cx8 := Aside0.mk hCx
  have Cl8 := Aside0.mk (Kd.C_below Cl7.out G8)
  have Cb8 := Aside0.mk (Kd.C_below Cb7.out G8)
  have Cm8 := Aside0.mk (Kd.C_below Cm7.out G8)
  clear X8 Y8 F8 G8 B8 Rx hCx E7 D17 D27 D37 Cl7 Cb7 Cm7
  go_wp2_with fail
  refine (days_Count.calls 10 Al cl [⟨1, 2⟩, ⟨6, 9⟩] 6 0 _ Cl8.out hcl (by kernel_rfl)).mono ?_
  rintro e w9 ⟨rfl, G9⟩
  have E9 := Aside0.mk (stepB E8.out G9)
  have D19 := Aside0.mk (blk_below D18.out G9)
  have D29 := Aside0.mk (blk_below D28.out G9)
  have D39 := Aside0.mk (blk_below D38.out G9)
  have Cl9 := Aside0.mk (Kd.C_below Cl8.out G9)
  have Cb9 := Aside0.mk (Kd.C_below Cb8.out G9)
  have Cm9 := Aside0.mk (Kd.C_below Cm8.out G9)
  have Cx9 := Aside0.mk (Kd.C_below Cx8.out G9)
  clear G9 E8 D18 D28 D38 Cl8 Cb8 Cm8 Cx8
  go_wp2_with fail
  refine (days_Nth.calls 10 Al cl [⟨1, 2⟩, ⟨6, 9⟩] 2 6 true 0 _ Cl9.out hcl (by kernel_rfl)).mono ?_
  rintro e w10 ⟨rfl, G10⟩
  have E10 := Aside0.mk (stepB E9.out G10)
  have D110 := Aside0.mk (blk_below D19.out G10)
  have D210 := Aside0.mk (blk_below D29.out G10)
  have D310 := Aside0.mk (blk_below D39.out G10)
  have Cl10 := Aside0.mk (Kd.C_below Cl9.out G10)
  have Cb10 := Aside0.mk (Kd.C_below Cb9.out G10)
  have Cm10 := Aside0.mk (Kd.C_below Cm9.out G10)
  have Cx10 := Aside0.mk (Kd.C_below Cx9.out G10)
  clear G10 E9 D19 D29 D39 Cl9 Cb9 Cm9 Cx9
  go_wp2_with fail
  refine (days_Nth.calls 10 Al cl [⟨1, 2⟩, ⟨6, 9⟩] 6 0 false 0 _ Cl10.out hcl (by kernel_rfl)).mono ?_
  rintro e w11 ⟨rfl, G11⟩
  have E11 := Aside0.mk (stepB E10.out G11)
  have D111 := Aside0.mk (blk_below D110.out G11)
  have D211 := Aside0.mk (blk_below D210.out G11)
  have D311 := Aside0.mk (blk_below D310.out G11)
  have Cl11 := Aside0.mk (Kd.C_below Cl10.out G11)
  have Cb11 := Aside0.mk (Kd.C_below Cb10.out G11)
  have Cm11 := Aside0.mk (Kd.C_below Cm10.out G11)
  have Cx11 := Aside0.mk (Kd.C_below Cx10.out G11)
  clear G11 E10 D110 D210 D310 Cl10 Cb10 Cm10 Cx10
  go_wp2_with fail
  refine (days_Nth.calls 10 Al cl [⟨1, 2⟩, ⟨6, 9⟩] (-1) 0 false 1 _ Cl11.out hcl (by kernel_rfl)).mono ?_
  rintro e w12 ⟨rfl, G12⟩
  have E12 := Aside0.mk (stepB E11.out G12)
  have D112 := Aside0.mk (blk_below D111.out G12)
  have D212 := Aside0.mk (blk_below D211.out G12)
  have D312 := Aside0.mk (blk_below D311.out G12)
  have Cl12 := Aside0.mk (Kd.C_below Cl11.out G12)
  have Cb12 := Aside0.mk (Kd.C_below Cb11.out G12)
  have Cm12 := Aside0.mk (Kd.C_below Cm11.out G12)
  have Cx12 := Aside0.mk (Kd.C_below Cx11.out G12)
  clear G12 E11 D111 D211 D311 Cl11 Cb11 Cm11 Cx11
  have p10 := blk_cell D112.out 0
  have p11 := blk_cell D112.out 1
  have p12 := blk_cell D112.out 2
  have p20 := blk_cell D212.out 0
  have p21 := blk_cell D212.out 1
  have p22 := blk_cell D212.out 2
  have p30 := blk_cell D312.out 0
  have p31 := blk_cell D312.out 1
  have p32 := blk_cell D312.out 2
  simp only [List.getElem?_toArray, List.getElem?_cons_zero, List.getElem?_cons_succ] at p10 p11 p12 p20 p21 p22 p30 p31 p32
  go_wp2_with fail
  clear p10 p11 p12 p20 p21 p22 p30 p31 p32
  have X13 := Aside0.mk (blk_new w12 (.cells #[.int .i64 1, .int .i64 3, .int .i64 4, .int .i64 6] 45))
  have F13 : Below w12.heap.size w12 (w12.alloc (.cells #[.int .i64 1, .int .i64 3, .int .i64 4, .int .i64 6] 45)) := below_alloc (Below.refl _ _) (.cells #[.int .i64 1, .int .i64 3, .int .i64 4, .int .i64 6] 45)
  refine (days_Check.calls 10 (some ⟨w12.heap.size, 0, none⟩) 2 [⟨1, 3⟩, ⟨4, 6⟩] 120 _ (lit45 [⟨1, 3⟩, ⟨4, 6⟩] (by decide) X13.out) (by decide) (by kernel_rfl)).mono ?_
  rintro e w13 ⟨rfl, B13⟩
  have G13 := stepB F13 B13
  have E13 := Aside0.mk (stepB E12.out G13)
  have Cl13 := Aside0.mk (Kd.C_below Cl12.out G13)
  have Cm13 := Aside0.mk (Kd.C_below Cm12.out G13)
  have Cx13 := Aside0.mk (Kd.C_below Cx12.out G13)
  have Cb13 := Aside0.mk (Kd.C_below Cb12.out G13)
  clear X13 F13 B13 G13 E12 Cl12 Cm12 Cx12 Cb12 D112 D212 D312
  go_wp2_with fail
  have X14 := Aside0.mk (blk_new w13 (.cells #[.int .i64 1, .int .i64 2, .int .i64 6, .int .i64 9] 45))
  have F14 : Below w13.heap.size w13 (w13.alloc (.cells #[.int .i64 1, .int .i64 2, .int .i64 6, .int .i64 9] 45)) := below_alloc (Below.refl _ _) (.cells #[.int .i64 1, .int .i64 2, .int .i64 6, .int .i64 9] 45)
  refine (fastiref12_Same.calls 10 Al cl [⟨1, 2⟩, ⟨6, 9⟩] (some ⟨w13.heap.size, 0, none⟩) 2 [⟨1, 2⟩, ⟨6, 9⟩] true _ (Kd.C_below Cl13.out F14) hcl (lit45 [⟨1, 2⟩, ⟨6, 9⟩] (by decide) X14.out) (by decide) (by kernel_rfl)).mono ?_
  rintro e w14' ⟨rfl, ⟨n14, hw14⟩⟩
  obtain ⟨w14, hw14'⟩ : ∃ w14, w14' = w14 := ⟨_, rfl⟩
  have G14 : Below w13.heap.size w13 w14 := by rw [← hw14', hw14]; exact pw_below_drewN F14 n14
  rw [hw14']
  have E14 := Aside0.mk (stepB E13.out G14)
  have Cm14 := Aside0.mk (Kd.C_below Cm13.out G14)
  have Cx14 := Aside0.mk (Kd.C_below Cx13.out G14)
  have Cb14 := Aside0.mk (Kd.C_below Cb13.out G14)
  clear X14 F14 G14 E13 Cl13 Cm13 Cx13 Cb13 hw14 hw14'
  go_wp2_with fail
  have X15 := Aside0.mk (blk_new w14 (.cells #[.int .i64 1, .int .i64 6] 45))
  have F15 : Below w14.heap.size w14 (w14.alloc (.cells #[.int .i64 1, .int .i64 6] 45)) := below_alloc (Below.refl _ _) (.cells #[.int .i64 1, .int .i64 6] 45)
  refine (fastiref12_Same.calls 10 Am cm [⟨1, 6⟩] (some ⟨w14.heap.size, 0, none⟩) 1 [⟨1, 6⟩] true _ (Kd.C_below Cm14.out F15) hcm (lit45 [⟨1, 6⟩] (by decide) X15.out) (by decide) (by kernel_rfl)).mono ?_
  rintro e w15' ⟨rfl, ⟨n15, hw15⟩⟩
  obtain ⟨w15, hw15'⟩ : ∃ w15, w15' = w15 := ⟨_, rfl⟩
  have G15 : Below w14.heap.size w14 w15 := by rw [← hw15', hw15]; exact pw_below_drewN F15 n15
  rw [hw15']
  have E15 := Aside0.mk (stepB E14.out G15)
  have Cx15 := Aside0.mk (Kd.C_below Cx14.out G15)
  have Cb15 := Aside0.mk (Kd.C_below Cb14.out G15)
  clear X15 F15 G15 E14 Cm14 Cx14 Cb14 hw15 hw15'
  go_wp2_with fail
  refine (fastiref12_Same.calls 10 Ax cx [⟨3, 5⟩] (some ⟨gb, 0, none⟩) 1 [⟨3, 5⟩] true _ Cx15.out hcx Cb15.out (by decide) (by kernel_rfl)).mono ?_
  rintro e w16 ⟨rfl, ⟨n16, hw16⟩⟩
  have E16 : Below w.heap.size w w16 := by rw [hw16]; exact pw_below_drewN E15.out n16
  clear hw16 E15 Cx15 Cb15
  go_wp2_with fail
  exact bodyPost_ret (v := .bool true) (by simp [results, Tryd.results9, go_sem]) rfl ⟨rfl, E16⟩
end CZ
def fastilaw12_sane.f  : Option (Bool) := some true
theorem fastilaw12_sane.calls  (r : Bool) (w : World) (hgl : GL.Glob w) (h : fastilaw12_sane.f  = some r) :
    Calls Tryd.prog 9 #[] w fun e w' => e = .returned (.bool r) ∧ Below w.heap.size w w' := by
  obtain rfl := Option.some.inj h
  exact CZ.sane_calls w hgl

end Go.Proofs.YtpodgkmgameocaaDoor.X
