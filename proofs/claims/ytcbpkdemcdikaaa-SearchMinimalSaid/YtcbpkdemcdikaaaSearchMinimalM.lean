/- Proved here: parts of the walk and of the plain law of SearchMinimal, put into one text (names and lines made short by a program). -/
import Derived.Test.YtcbpkdemcdikaaaSearchMinimalD
import Derived.Test.YtcbpkdemcdikaaaSearchMinimalJ
import Derived.Test.YtcbpkdemcdikaaaSearchMinimalL
namespace Go.Proofs.Ytcbpkdemcdikaaa.X
open Go.RowKit Go.Proofs.YtcbpkdemcdikaaaW.PrintWords Go.Proofs.YtcbpkdemcdikaaaW.PrintLast Go.Proofs.YtcbpkdemcdikaaaW.PrintMore
attribute [local go_sem] aJ aE aU aV aA aD aH aG   
set_option linter.unusedVariables false
set_option linter.unusedSimpArgs false
mutual
def fastilaw15_SearchMinimal.j0 : Nat → Int → List Int → Bool → Int → Bool → List (List Int) → List (S49) → Option (Bool)
 | 0, _, _, _, _, _, _, _ => none
 | k + 1, x1, x5, x6, x7, x32, dv, dm => if x32 = true then ((search_Solve.f k dv dm).bind fun iT => (if (x5.length : Int) = 0 then (if x6 = true then (some false) else (if x7 = iT.2.2 then (if x7 = 0 then (some iT.2.1) else (some true)) else (some false))) else (some false))) else (fastilaw15_SearchMinimal.l0 k x1 x5 0 dv dm)
def fastilaw15_SearchMinimal.l0 : Nat → Int → List Int → Int → List (List Int) → List (S49) → Option (Bool)
 | 0, _, _, _, _, _ => none
 | k + 1, x1, x5, x11, dv, dm => if x11 < (x5.length : Int) then (if 0 ≤ x11 then (if (rd x5 x11) < 0 then (some false) else (if (rd x5 x11) ≥ (dm.length : Int) then (some false) else (if x11 > 0 then (if 0 ≤ (wrap64 (x11 - 1)) then (if (wrap64 (x11 - 1)) < (x5.length : Int) then (if (rd x5 (wrap64 (x11 - 1))) ≥ (rd x5 x11) then (some false) else (fastilaw15_SearchMinimal.l0 k x1 x5 (wrap64 (x11 + 1)) dv dm)) else (none)) else (none)) else (fastilaw15_SearchMinimal.l0 k x1 x5 (wrap64 (x11 + 1)) dv dm)))) else (none)) else ((fastiref15_Some.f k dv dm x5).bind fun bt198 => ((search_Solve.f k bt198.1 bt198.2).bind fun bt204 => (if bt204.2.2 = 0 then (fastilaw15_SearchMinimal.j2 k x1 x5 bt204.2.1 dv dm) else (fastilaw15_SearchMinimal.j2 k x1 x5 true dv dm))))
def fastilaw15_SearchMinimal.j2 : Nat → Int → List Int → Bool → List (List Int) → List (S49) → Option (Bool)
 | 0, _, _, _, _, _ => none
 | k + 1, x1, x5, x107, dv, dm => if x107 = true then (some false) else (if (x5.length : Int) = 0 then (some false) else ((some (([] : List Int) : List Int)).bind fun y209 => (if 0 ≤ (Int.tmod (wrap64 (x1)) (x5.length : Int)) then (if (Int.tmod (wrap64 (x1)) (x5.length : Int)) ≤ (x5.length : Int) then ((some (x5.take ((Int.tmod (wrap64 (x1)) (x5.length : Int)) : Int).toNat : List Int)).bind fun y212 => (if y209.length + y212.length < 17592186044416 then ((some (y209 ++ y212 : List Int)).bind fun y217 => (if 0 ≤ (wrap64 ((Int.tmod (wrap64 (x1)) (x5.length : Int)) + 1)) then (if (wrap64 ((Int.tmod (wrap64 (x1)) (x5.length : Int)) + 1)) ≤ (x5.length : Int) then ((some (x5.drop ((wrap64 ((Int.tmod (wrap64 (x1)) (x5.length : Int)) + 1)) : Int).toNat : List Int)).bind fun y220 => (if y217.length + y220.length < 17592186044416 then ((fastiref15_Some.f k dv dm (y217 ++ y220)).bind fun cP => ((search_Solve.f k cP.1 cP.2).bind fun cw => (if cw.2.2 = 0 then (some cw.2.1) else (some false)))) else (none))) else (none)) else (none))) else (none))) else (none)) else (none))))
end
def fastilaw15_SearchMinimal.f (k : Nat) (ai : List (List Int)) (af : List (S49)) (a1 : Int) : Option (Bool) := (fastilaw15_sane.f).bind fun t182 => (if t182 = true then ((fastiref15_Few.f k ai af).bind fun t183 => (if t183 = true then ((search_Core.f k ai af).bind fun bz => (if bz.2.2 = 0 then (fastilaw15_SearchMinimal.j0 k a1 bz.1 bz.2.1 bz.2.2 (!bz.2.1) ai af) else (fastilaw15_SearchMinimal.j0 k a1 bz.1 bz.2.1 bz.2.2 true ai af))) else (some true))) else (some false))
def fastilaw15_SearchMinimal.T12 : Bool × List (List Nat × List Nat) := (true, [([], []), ([], []), ([0, 1], [0, 1]), ([2], [2]), ([3], [3]), ([4], [4]), ([5], [5]), ([5], [5]), ([6, 7, 5], [5, 6, 7]), ([8, 5], [5, 8]), ([5], [5]), ([10, 5], [5, 10]), ([11, 5], [5, 11]), ([9, 12, 5], [5, 9, 12]), ([5, 13], [5, 13]), ([14, 5], [14]), ([15], [15]), ([16, 15], [15, 16]), ([17, 15, 15], [15, 17]), ([18], [18]), ([18], [18]), ([20, 18], [18, 20]), ([19, 21, 18], [18, 19, 21]), ([22, 18], [18, 22]), ([18], [18]), ([18], [18]), ([24, 25, 18], [18, 24, 25]), ([26, 18], [18, 26]), ([23, 27, 18], [18, 23, 27]), ([18, 28, 15], [15, 18, 28]), ([15, 29], [15, 29])])
def fastilaw15_SearchMinimal.B12 : List Nat := [0, 0, 3, 7, 15, 31, 63, 63, 255, 511, 63, 1087, 3135, 8191, 16383, 32767, 65535, 131071, 262143, 524287, 524287, 1572863, 4194303, 8388607, 524287, 524287, 50855935, 117964799, 268435455, 536870911, 1073741823]
theorem fastilaw15_SearchMinimal.tab12 : dW .any (fl Try.f8 12) = fastilaw15_SearchMinimal.T12 := by kernel_rfl
theorem fastilaw15_SearchMinimal.bits12 : dX fastilaw15_SearchMinimal.T12.2 fastilaw15_SearchMinimal.B12 = true := by kernel_rfl
def fastilaw15_SearchMinimal.T20 : Bool × List (List Nat × List Nat) := (true, [([], []), ([], []), ([], []), ([], []), ([2, 3], [2, 3]), ([1, 4], [1, 4]), ([], []), ([], []), ([7], [7]), ([6, 8], [6, 8]), ([5, 9, 5], [5, 9]), ([0, 10, 10], [0, 10]), ([11, 11], [11]), ([12], [12]), ([13], [13]), ([13], [13]), ([13], [13]), ([15, 12, 0, 1, 2, 3, 4, 5, 6, 7, 8, 9, 10, 11, 12, 13, 14, 15], [15]), ([16, 17, 0, 1, 2, 3, 4, 5, 6, 7, 8, 9, 10, 11, 12, 13, 14, 15, 16, 17], [16])])
def fastilaw15_SearchMinimal.B20 : List Nat := [0, 0, 0, 0, 12, 30, 0, 0, 128, 448, 1022, 2047, 4095, 8191, 16383, 16383, 16383, 65535, 262143]
theorem fastilaw15_SearchMinimal.tab20 : dW .any (fl Try.f8 20) = fastilaw15_SearchMinimal.T20 := by kernel_rfl
theorem fastilaw15_SearchMinimal.bits20 : dX fastilaw15_SearchMinimal.T20.2 fastilaw15_SearchMinimal.B20 = true := by kernel_rfl
set_option maxHeartbeats 8000000 in
set_option maxRecDepth 100000 in
theorem fastilaw15_SearchMinimal.calls (k : Nat) (ay : Option Addr) (ax : Nat) (ai : List (List Int)) (az : Option Addr) (aw : Nat) (af : List (S49)) (a1 : Int) (r : Bool) (w : World) (bN : Kd.C (Kd.slice 3 (Kd.int .i64)) w ay ai.length ai) (ci : ai.length ≤ ax) (bJ : Kd.C k49 w az af.length af) (bK : af.length ≤ aw) (h : fastilaw15_SearchMinimal.f k ai af a1 = some r) :
  Calls Try.prog 8 #[.agg #[.slice ay ai.length ax, .slice az af.length aw], .int .u8 a1] w fun e w' => e = .returned (.bool r) ∧ Below w.heap.size w w' := by
 have hu25 := Try.underlying25
 have bv := Aside0.mk bN
 have bC := Aside0.mk ci
 clear bN ci
 have br := Aside0.mk bJ
 have bB := Aside0.mk bK
 clear bJ bK
 have HB := Aside0.mk (Below.refl w.heap.size w)
 have H : ((fastilaw15_sane.f).bind fun t182 => (if t182 = true then ((fastiref15_Few.f k ai af).bind fun t183 => (if t183 = true then ((search_Core.f k ai af).bind fun bz => (if bz.2.2 = 0 then (fastilaw15_SearchMinimal.j0 k a1 bz.1 bz.2.1 bz.2.2 (!bz.2.1) ai af) else (fastilaw15_SearchMinimal.j0 k a1 bz.1 bz.2.1 bz.2.2 true ai af))) else (some true))) else (some false))) = some r := h
 clear h
 replace H := Option.bind_eq_some_iff.mp H
 obtain ⟨t182, A30, H⟩ := H
 replace H : (if t182 = true then ((fastiref15_Few.f k ai af).bind fun t183 => (if t183 = true then ((search_Core.f k ai af).bind fun bz => (if bz.2.2 = 0 then (fastilaw15_SearchMinimal.j0 k a1 bz.1 bz.2.1 bz.2.2 (!bz.2.1) ai af) else (fastilaw15_SearchMinimal.j0 k a1 bz.1 bz.2.1 bz.2.2 true ai af))) else (some true))) else (some false)) = some r := H
 have A3 := Aside0.mk A30
 clear A30
 by_cases c4 : t182 = true
 ·subst c4
  have H1 : ((fastiref15_Few.f k ai af).bind fun t183 => (if t183 = true then ((search_Core.f k ai af).bind fun bz => (if bz.2.2 = 0 then (fastilaw15_SearchMinimal.j0 k a1 bz.1 bz.2.1 bz.2.2 (!bz.2.1) ai af) else (fastilaw15_SearchMinimal.j0 k a1 bz.1 bz.2.1 bz.2.2 true ai af))) else (some true))) = some r := by rw [if_pos rfl] at H; exact H
  clear H
  have H := H1
  clear H1
  replace H := Option.bind_eq_some_iff.mp H
  obtain ⟨t183, A50, H⟩ := H
  replace H : (if t183 = true then ((search_Core.f k ai af).bind fun bz => (if bz.2.2 = 0 then (fastilaw15_SearchMinimal.j0 k a1 bz.1 bz.2.1 bz.2.2 (!bz.2.1) ai af) else (fastilaw15_SearchMinimal.j0 k a1 bz.1 bz.2.1 bz.2.2 true ai af))) else (some true)) = some r := H
  have A5 := Aside0.mk A50
  clear A50
  by_cases c6 : t183 = true
  ·subst c6
   have H1 : ((search_Core.f k ai af).bind fun bz => (if bz.2.2 = 0 then (fastilaw15_SearchMinimal.j0 k a1 bz.1 bz.2.1 bz.2.2 (!bz.2.1) ai af) else (fastilaw15_SearchMinimal.j0 k a1 bz.1 bz.2.1 bz.2.2 true ai af))) = some r := by rw [if_pos rfl] at H; exact H
   clear H
   have H := H1
   clear H1
   replace H := Option.bind_eq_some_iff.mp H
   obtain ⟨⟨t184, t187, t188⟩, A70, H⟩ := H
   replace H : (if t188 = 0 then (fastilaw15_SearchMinimal.j0 k a1 t184 t187 t188 (!t187) ai af) else (fastilaw15_SearchMinimal.j0 k a1 t184 t187 t188 true ai af)) = some r := H
   have A7 := Aside0.mk A70
   clear A70
   have HC8 := Aside0.mk H
   clear H
   go_enter Try.func8, Try.ntmps8
   go_upto_region 6 with (first | ((with_reducible refine aI (N := 2) rfl ?_); (try (refine aW (by rfl) ?_; dsimp only)); refine aC ?hg (N := 2) ?hd (cs := #[.slice ay ai.length ax, .slice az af.length aw]) (t := 25) ?hr ?_; (case hd => rfl); (case hg => rfl); (case hr => first | (go_simp; done) | (go_simp; rfl)); intro aZ hg w9 hbox hb; have n0_ := Aside0.mk (aj (by repeat (first | (with_reducible first | exact HB.out | apply a6 | apply a4 | apply a5) | exact HB.out)) hb); have n1_ := Aside0.mk (hbox); have n2_ := Aside0.mk ((by rw [hg]; exact (ag (by repeat (first | (with_reducible first | exact HB.out | apply a6 | apply a4 | apply a5) | exact HB.out))) : w.heap.size ≤ aZ)); have n3_ := Aside0.mk ((by rw [hg]; exact (ag (by repeat (first | (with_reducible first | exact HB.out | apply a6 | apply a4 | apply a5) | exact HB.out))) : w.heap.size ≤ aZ)); clear HB; have HB := n0_; have ar := n1_; have fw := n2_; have bg := n3_; clear n0_ n1_ n2_ n3_; clear hb hbox hg) | ((with_reducible refine av (f := 11) rfl ?_); refine bm (some 16) rfl rfl Try.func11 (by kernel_rfl) rfl #[] rfl (by (try simp only [List.map_toArray, List.map_cons, List.map_nil]); first | done | rfl | (simp only [List.length_drop, List.length_take]; rfl)) ?_; (with_reducible refine (fastilaw15_sane.calls  true _ A3.out).mono ?_); rintro e w10 ⟨rfl, hb⟩; refine ⟨_, rfl, ?_⟩; have n0_ := Aside0.mk (ae (g := aZ) (o := .cells #[.slice ay ai.length ax, .slice az af.length aw] 25 (0, 0)) (by (with_reducible repeat (first | refine aa ?_ _ | refine ac ?_ | refine a8 ?_ _)); exact ar.out) hb); have n1_ := Aside0.mk (aj (by repeat (first | (with_reducible first | exact HB.out | apply a6 | apply a4 | apply a5 | refine a7 ?_ bg.out) | exact HB.out)) hb); clear ar; clear HB; have ar := n0_; have HB := n1_; clear n0_ n1_; (try clear hb); (try clear hb2); (try clear hk); (try clear hi); have bO : w10.cell? ⟨aZ, 0, none⟩ = some (.slice ay ai.length ax) := (a9 ar.out 0).trans rfl; have bP : w10.cell? ⟨aZ, 1, none⟩ = some (.slice az af.length aw) := (a9 ar.out 1).trans rfl; have bQ := ab ar.out 0; have bR := ab ar.out 1) | ((with_reducible refine av (f := 12) rfl ?_); refine bm (some 19) rfl rfl Try.func12 (by kernel_rfl) rfl #[.agg #[.slice ay ai.length ax, .slice az af.length aw]] rfl (by (try simp only [List.map_toArray, List.map_cons, List.map_nil]); first | done | rfl | (simp only [List.length_drop, List.length_take]; rfl)) ?_; (with_reducible refine (fastiref15_Few.calls k _ _ ai _ _ af true _ ?side1 ?side2 ?side3 ?side4 A5.out).mono ?_); (case side1 => repeat (first | exact (Kd.C_below bv.out HB.out) | (with_reducible refine Kd.C_alloc ?_ _) | (with_reducible refine Kd.C_drewN ?_ _) | (with_reducible refine Kd.C_drew ?_))); (case side2 => exact bC.out); (case side3 => repeat (first | exact (Kd.C_below br.out HB.out) | (with_reducible refine Kd.C_alloc ?_ _) | (with_reducible refine Kd.C_drewN ?_ _) | (with_reducible refine Kd.C_drew ?_))); (case side4 => exact bB.out); rintro e w12 ⟨rfl, hb⟩; refine ⟨_, rfl, ?_⟩; have n0_ := Aside0.mk (ae (g := aZ) (o := .cells #[.slice ay ai.length ax, .slice az af.length aw] 25 (0, 0)) (by (with_reducible repeat (first | refine aa ?_ _ | refine ac ?_ | refine a8 ?_ _)); exact ar.out) hb); have n1_ := Aside0.mk (aj (by repeat (first | (with_reducible first | exact HB.out | apply a6 | apply a4 | apply a5 | refine a7 ?_ bg.out) | exact HB.out)) hb); clear ar; clear HB; have ar := n0_; have HB := n1_; clear n0_ n1_; (try clear hb); (try clear hb2); (try clear hk); (try clear hi); have cT : w12.cell? ⟨aZ, 0, none⟩ = some (.slice ay ai.length ax) := (a9 ar.out 0).trans rfl; have cU : w12.cell? ⟨aZ, 1, none⟩ = some (.slice az af.length aw) := (a9 ar.out 1).trans rfl; have cV := ab ar.out 0; have cW := ab ar.out 1) | ((with_reducible refine av (f := 25) rfl ?_); refine bm (some 23) rfl rfl Try.func25 (by kernel_rfl) rfl #[.agg #[.slice ay ai.length ax, .slice az af.length aw]] rfl (by (try simp only [List.map_toArray, List.map_cons, List.map_nil]); first | done | rfl | (simp only [List.length_drop, List.length_take]; rfl)) ?_; (with_reducible refine (search_Core.calls k _ _ ai _ _ af t184 t187 t188 _ ?side1 ?side2 ?side3 ?side4 A7.out).mono ?_); (case side1 => repeat (first | exact (Kd.C_below bv.out HB.out) | (with_reducible refine Kd.C_alloc ?_ _) | (with_reducible refine Kd.C_drewN ?_ _) | (with_reducible refine Kd.C_drew ?_))); (case side2 => exact bC.out); (case side3 => repeat (first | exact (Kd.C_below br.out HB.out) | (with_reducible refine Kd.C_alloc ?_ _) | (with_reducible refine Kd.C_drewN ?_ _) | (with_reducible refine Kd.C_drew ?_))); (case side4 => exact bB.out); rintro e w14 ⟨v185, rfl, ho0, hb⟩; refine ⟨_, rfl, ?_⟩; have n0_ := Aside0.mk (Kd.R_lower ho0 (ag (by repeat (first | (with_reducible first | exact HB.out | apply a6 | apply a4 | apply a5 | refine a7 ?_ bg.out) | exact HB.out)))); have n1_ := Aside0.mk (ae (g := aZ) (o := .cells #[.slice ay ai.length ax, .slice az af.length aw] 25 (0, 0)) (by (with_reducible repeat (first | refine aa ?_ _ | refine ac ?_ | refine a8 ?_ _)); exact ar.out) hb); have n2_ := Aside0.mk (aj (by repeat (first | (with_reducible first | exact HB.out | apply a6 | apply a4 | apply a5 | refine a7 ?_ bg.out) | exact HB.out)) hb); clear ar; clear HB; have HO186 := n0_; have ar := n1_; have HB := n2_; clear n0_ n1_ n2_; (try clear hb); (try clear hb2); (try clear hk); (try clear hi); (try clear ho0)))
   (try simp only [Act.put, List.setIfInBounds_toArray, List.set_cons_zero, List.set_cons_succ])
   go_cut [32] (fun v32 wc => ∃ (kq : Nat) (x32_7 : Bool), v32 = .bool x32_7 ∧ Aside0 (fastilaw15_SearchMinimal.j0 kq a1 t184 t187 t188 x32_7 ai af = some r) ∧ Aside0 (kq ≤ k) ∧ Aside0 (Kd.R (Kd.int .i64) 3 wc w.heap.size (fun _ => True) v185 t184) ∧ Aside0 (wc.heap[aZ]? = some (.cells #[(.slice ay ai.length ax), (.slice az af.length aw)] 25 (0, 0))) ∧ Aside0 (Below w.heap.size w wc))
   case first =>
    have H := HC8.out
    clear HC8
    by_cases c15 : t188 = 0
    ·rw [if_pos c15] at H
     have fF : (t188 == 0) = true := beq_iff_eq.mpr c15
     have c15b1 : (t188 != 0) = false := bne_eq_false_iff_eq.mpr c15
     clear c15
     (first | rw [fF] | (simp only [al, ao]; rw [fF]) | skip)
     have H' := Aside0.mk H
     clear H
     go_wp2
     go_meet
     case rel => exact ⟨_, (!t187), (by first | rfl | (simp; done) | (simp [*]; done)), H', ⟨by first | omega | exact Nat.le_refl _⟩, ⟨by (with_reducible repeat (first | apply Kd.R_alloc | apply Kd.R_drewN | apply Kd.R_drew)); exact HO186.out⟩, ⟨by (with_reducible repeat (first | refine aa ?_ _ | refine ac ?_ | refine a8 ?_ _)); exact ar.out⟩, ⟨by repeat (first | (with_reducible first | exact HB.out | apply a6 | apply a4 | apply a5 | refine a7 ?_ bg.out) | exact HB.out)⟩⟩
    ·rw [if_neg c15] at H
     have fF : (t188 == 0) = false := beq_eq_false_iff_ne.mpr c15
     have c15b1 : (t188 != 0) = true := bne_iff_ne.mpr c15
     (first | rw [fF] | (simp only [al, ao]; rw [fF]) | skip)
     have H' := Aside0.mk H
     clear H
     go_wp2
     go_meet
     case rel => exact ⟨_, (true), (by first | rfl | (simp; done) | (simp [*]; done)), H', ⟨by first | omega | exact Nat.le_refl _⟩, ⟨by (with_reducible repeat (first | apply Kd.R_alloc | apply Kd.R_drewN | apply Kd.R_drew)); exact HO186.out⟩, ⟨by (with_reducible repeat (first | refine aa ?_ _ | refine ac ?_ | refine a8 ?_ _)); exact ar.out⟩, ⟨by repeat (first | (with_reducible first | exact HB.out | apply a6 | apply a4 | apply a5 | refine a7 ?_ bg.out) | exact HB.out)⟩⟩
   case rest =>
    clear HC8
    try clear c1; try clear c2; try clear p2; try clear c4; try clear c6; try clear c8; try clear c11; try clear c12; try clear c15; try clear fF; try clear c15b1; try clear bO; try clear bP; try clear cT; try clear cU; try clear bQ; try clear bR; try clear cV; try clear cW
    obtain ⟨kq, x32_7, rfl, HA, HJ7, bf, ar, HB⟩ := hcut
    cases kq with
    | zero => exact absurd HA.out (by simp [fastilaw15_SearchMinimal.j0])
    | succ kj7 =>
     have H := HA.out
     clear HA
     simp only [fastilaw15_SearchMinimal.j0] at H
     by_cases c16 : x32_7 = true
     ·subst c16
      have H1 : ((search_Solve.f kj7 ai af).bind fun iT => (if (t184.length : Int) = 0 then (if t187 = true then (some false) else (if t188 = iT.2.2 then (if t188 = 0 then (some iT.2.1) else (some true)) else (some false))) else (some false))) = some r := by rw [if_pos rfl] at H; exact H
      clear H
      have H := H1
      clear H1
      replace H := Option.bind_eq_some_iff.mp H
      obtain ⟨⟨t189, t192, t193⟩, A170, H⟩ := H
      replace H : (if (t184.length : Int) = 0 then (if t187 = true then (some false) else (if t188 = t193 then (if t188 = 0 then (some t192) else (some true)) else (some false))) else (some false)) = some r := H
      have A17 := Aside0.mk A170
      clear A170
      by_cases c18 : (t184.length : Int) = 0
      ·rw [if_pos c18] at H
       have c18b0 : ((t184.length : Int) == 0) = true := beq_iff_eq.mpr c18
       have c18b1 : ((t184.length : Int) != 0) = false := bne_eq_false_iff_eq.mpr c18
       clear c18
       by_cases c19 : t187 = true
       ·subst c19
        have H1 : (some false) = some r := by rw [if_pos rfl] at H; exact H
        clear H
        have H := H1
        clear H1
        obtain rfl := Option.some.inj H
        have fG : wc.cell? ⟨aZ, 0, none⟩ = some (.slice ay ai.length ax) := (a9 ar.out 0).trans rfl
        have fH : wc.cell? ⟨aZ, 1, none⟩ = some (.slice az af.length aw) := (a9 ar.out 1).trans rfl
        have fI := ab ar.out 0
        have fJ := ab ar.out 1
        go_wp2_with (first | ((with_reducible refine av (f := 15) rfl ?_); refine bm (some 35) rfl rfl Try.func15 (by kernel_rfl) rfl #[.agg #[.slice ay ai.length ax, .slice az af.length aw]] rfl (by (try simp only [List.map_toArray, List.map_cons, List.map_nil]); first | done | rfl | (simp only [List.length_drop, List.length_take]; rfl)) ?_; (with_reducible refine (search_Solve.calls kj7 _ _ ai _ _ af t189 t192 t193 _ ?side1 ?side2 ?side3 ?side4 A17.out).mono ?_); (case side1 => repeat (first | exact (Kd.C_below bv.out HB.out) | (with_reducible refine Kd.C_alloc ?_ _) | (with_reducible refine Kd.C_drewN ?_ _) | (with_reducible refine Kd.C_drew ?_))); (case side2 => exact bC.out); (case side3 => repeat (first | exact (Kd.C_below br.out HB.out) | (with_reducible refine Kd.C_alloc ?_ _) | (with_reducible refine Kd.C_drewN ?_ _) | (with_reducible refine Kd.C_drew ?_))); (case side4 => exact bB.out); rintro e w21 ⟨v190, rfl, ho0, hb⟩; refine ⟨_, rfl, ?_⟩; have n0_ := Aside0.mk (Kd.R_elder' (by (with_reducible repeat (first | apply Kd.R_alloc | apply Kd.R_drewN | apply Kd.R_drew)); exact bf.out) (Kd.R_base ho0) hb); have n1_ := Aside0.mk (Kd.R_lower (Kd.R_new' ho0 (Kd.R_lt (by (with_reducible repeat (first | apply Kd.R_alloc | apply Kd.R_drewN | apply Kd.R_drew)); exact bf.out))) (ag (by repeat (first | (with_reducible first | exact HB.out | apply a6 | apply a4 | apply a5 | refine a7 ?_ bg.out) | exact HB.out)))); have n2_ := Aside0.mk (ae (g := aZ) (o := .cells #[.slice ay ai.length ax, .slice az af.length aw] 25 (0, 0)) (by (with_reducible repeat (first | refine aa ?_ _ | refine ac ?_ | refine a8 ?_ _)); exact ar.out) hb); have n3_ := Aside0.mk (aj (by repeat (first | (with_reducible first | exact HB.out | apply a6 | apply a4 | apply a5 | refine a7 ?_ bg.out) | exact HB.out)) hb); clear bf; clear ar; clear HB; have bf := n0_; have HO191 := n1_; have ar := n2_; have HB := n3_; clear n0_ n1_ n2_ n3_; (try clear hb); (try clear hb2); (try clear hk); (try clear hi); (try clear ho0); obtain ⟨Ao22, co22, eo22⟩ := Kd.R_slice bf.out; subst eo22))
        go_ret
        exact ⟨by first | rfl | (simp [am, ap] <;> rfl) | (simp [*, am, ap] <;> rfl), by repeat (first | (with_reducible first | exact HB.out | apply a6 | apply a4 | apply a5 | refine a7 ?_ bg.out) | exact HB.out)⟩
       ·replace c19 := Bool.eq_false_iff.mpr c19
        subst c19
        have H1 : (if t188 = t193 then (if t188 = 0 then (some t192) else (some true)) else (some false)) = some r := by rw [if_neg (show ¬ (false = true) by decide)] at H; exact H
        clear H
        have H := H1
        clear H1
        by_cases c23 : t188 = t193
        ·rw [if_pos c23] at H
         have c23b0 : (t188 == t193) = true := beq_iff_eq.mpr c23
         have c23b1 : (t188 != t193) = false := bne_eq_false_iff_eq.mpr c23
         clear c23
         by_cases c24 : t188 = 0
         ·rw [if_pos c24] at H
          have c24b0 : (t188 == 0) = true := beq_iff_eq.mpr c24
          have c24b1 : (t188 != 0) = false := bne_eq_false_iff_eq.mpr c24
          clear c24
          obtain rfl := Option.some.inj H
          have fK : wc.cell? ⟨aZ, 0, none⟩ = some (.slice ay ai.length ax) := (a9 ar.out 0).trans rfl
          have fL : wc.cell? ⟨aZ, 1, none⟩ = some (.slice az af.length aw) := (a9 ar.out 1).trans rfl
          have fM := ab ar.out 0
          have fN := ab ar.out 1
          go_wp2_with (first | ((with_reducible refine av (f := 15) rfl ?_); refine bm (some 35) rfl rfl Try.func15 (by kernel_rfl) rfl #[.agg #[.slice ay ai.length ax, .slice az af.length aw]] rfl (by (try simp only [List.map_toArray, List.map_cons, List.map_nil]); first | done | rfl | (simp only [List.length_drop, List.length_take]; rfl)) ?_; (with_reducible refine (search_Solve.calls kj7 _ _ ai _ _ af t189 t192 t193 _ ?side1 ?side2 ?side3 ?side4 A17.out).mono ?_); (case side1 => repeat (first | exact (Kd.C_below bv.out HB.out) | (with_reducible refine Kd.C_alloc ?_ _) | (with_reducible refine Kd.C_drewN ?_ _) | (with_reducible refine Kd.C_drew ?_))); (case side2 => exact bC.out); (case side3 => repeat (first | exact (Kd.C_below br.out HB.out) | (with_reducible refine Kd.C_alloc ?_ _) | (with_reducible refine Kd.C_drewN ?_ _) | (with_reducible refine Kd.C_drew ?_))); (case side4 => exact bB.out); rintro e w26 ⟨v190, rfl, ho0, hb⟩; refine ⟨_, rfl, ?_⟩; have n0_ := Aside0.mk (Kd.R_elder' (by (with_reducible repeat (first | apply Kd.R_alloc | apply Kd.R_drewN | apply Kd.R_drew)); exact bf.out) (Kd.R_base ho0) hb); have n1_ := Aside0.mk (Kd.R_lower (Kd.R_new' ho0 (Kd.R_lt (by (with_reducible repeat (first | apply Kd.R_alloc | apply Kd.R_drewN | apply Kd.R_drew)); exact bf.out))) (ag (by repeat (first | (with_reducible first | exact HB.out | apply a6 | apply a4 | apply a5 | refine a7 ?_ bg.out) | exact HB.out)))); have n2_ := Aside0.mk (ae (g := aZ) (o := .cells #[.slice ay ai.length ax, .slice az af.length aw] 25 (0, 0)) (by (with_reducible repeat (first | refine aa ?_ _ | refine ac ?_ | refine a8 ?_ _)); exact ar.out) hb); have n3_ := Aside0.mk (aj (by repeat (first | (with_reducible first | exact HB.out | apply a6 | apply a4 | apply a5 | refine a7 ?_ bg.out) | exact HB.out)) hb); clear bf; clear ar; clear HB; have bf := n0_; have HO191 := n1_; have ar := n2_; have HB := n3_; clear n0_ n1_ n2_ n3_; (try clear hb); (try clear hb2); (try clear hk); (try clear hi); (try clear ho0); obtain ⟨Ao27, co27, eo27⟩ := Kd.R_slice bf.out; subst eo27))
          go_ret
          exact ⟨by first | rfl | (simp [am, ap] <;> rfl) | (simp [*, am, ap] <;> rfl), by repeat (first | (with_reducible first | exact HB.out | apply a6 | apply a4 | apply a5 | refine a7 ?_ bg.out) | exact HB.out)⟩
         ·rw [if_neg c24] at H
          have c24b0 : (t188 == 0) = false := beq_eq_false_iff_ne.mpr c24
          have c24b1 : (t188 != 0) = true := bne_iff_ne.mpr c24
          obtain rfl := Option.some.inj H
          have hcz28_0 : wc.cell? ⟨aZ, 0, none⟩ = some (.slice ay ai.length ax) := (a9 ar.out 0).trans rfl
          have hcz28_1 : wc.cell? ⟨aZ, 1, none⟩ = some (.slice az af.length aw) := (a9 ar.out 1).trans rfl
          have hfz28_0 := ab ar.out 0
          have hfz28_1 := ab ar.out 1
          go_wp2_with (first | ((with_reducible refine av (f := 15) rfl ?_); refine bm (some 35) rfl rfl Try.func15 (by kernel_rfl) rfl #[.agg #[.slice ay ai.length ax, .slice az af.length aw]] rfl (by (try simp only [List.map_toArray, List.map_cons, List.map_nil]); first | done | rfl | (simp only [List.length_drop, List.length_take]; rfl)) ?_; (with_reducible refine (search_Solve.calls kj7 _ _ ai _ _ af t189 t192 t193 _ ?side1 ?side2 ?side3 ?side4 A17.out).mono ?_); (case side1 => repeat (first | exact (Kd.C_below bv.out HB.out) | (with_reducible refine Kd.C_alloc ?_ _) | (with_reducible refine Kd.C_drewN ?_ _) | (with_reducible refine Kd.C_drew ?_))); (case side2 => exact bC.out); (case side3 => repeat (first | exact (Kd.C_below br.out HB.out) | (with_reducible refine Kd.C_alloc ?_ _) | (with_reducible refine Kd.C_drewN ?_ _) | (with_reducible refine Kd.C_drew ?_))); (case side4 => exact bB.out); rintro e w29 ⟨v190, rfl, ho0, hb⟩; refine ⟨_, rfl, ?_⟩; have n0_ := Aside0.mk (Kd.R_elder' (by (with_reducible repeat (first | apply Kd.R_alloc | apply Kd.R_drewN | apply Kd.R_drew)); exact bf.out) (Kd.R_base ho0) hb); have n1_ := Aside0.mk (Kd.R_lower (Kd.R_new' ho0 (Kd.R_lt (by (with_reducible repeat (first | apply Kd.R_alloc | apply Kd.R_drewN | apply Kd.R_drew)); exact bf.out))) (ag (by repeat (first | (with_reducible first | exact HB.out | apply a6 | apply a4 | apply a5 | refine a7 ?_ bg.out) | exact HB.out)))); have n2_ := Aside0.mk (ae (g := aZ) (o := .cells #[.slice ay ai.length ax, .slice az af.length aw] 25 (0, 0)) (by (with_reducible repeat (first | refine aa ?_ _ | refine ac ?_ | refine a8 ?_ _)); exact ar.out) hb); have n3_ := Aside0.mk (aj (by repeat (first | (with_reducible first | exact HB.out | apply a6 | apply a4 | apply a5 | refine a7 ?_ bg.out) | exact HB.out)) hb); clear bf; clear ar; clear HB; have bf := n0_; have HO191 := n1_; have ar := n2_; have HB := n3_; clear n0_ n1_ n2_ n3_; (try clear hb); (try clear hb2); (try clear hk); (try clear hi); (try clear ho0); obtain ⟨Ao30, co30, eo30⟩ := Kd.R_slice bf.out; subst eo30))
          go_ret
          exact ⟨by first | rfl | (simp [am, ap] <;> rfl) | (simp [*, am, ap] <;> rfl), by repeat (first | (with_reducible first | exact HB.out | apply a6 | apply a4 | apply a5 | refine a7 ?_ bg.out) | exact HB.out)⟩
        ·rw [if_neg c23] at H
         have c23b0 : (t188 == t193) = false := beq_eq_false_iff_ne.mpr c23
         have c23b1 : (t188 != t193) = true := bne_iff_ne.mpr c23
         obtain rfl := Option.some.inj H
         have hcz31_0 : wc.cell? ⟨aZ, 0, none⟩ = some (.slice ay ai.length ax) := (a9 ar.out 0).trans rfl
         have hcz31_1 : wc.cell? ⟨aZ, 1, none⟩ = some (.slice az af.length aw) := (a9 ar.out 1).trans rfl
         have hfz31_0 := ab ar.out 0
         have hfz31_1 := ab ar.out 1
         go_wp2_with (first | ((with_reducible refine av (f := 15) rfl ?_); refine bm (some 35) rfl rfl Try.func15 (by kernel_rfl) rfl #[.agg #[.slice ay ai.length ax, .slice az af.length aw]] rfl (by (try simp only [List.map_toArray, List.map_cons, List.map_nil]); first | done | rfl | (simp only [List.length_drop, List.length_take]; rfl)) ?_; (with_reducible refine (search_Solve.calls kj7 _ _ ai _ _ af t189 t192 t193 _ ?side1 ?side2 ?side3 ?side4 A17.out).mono ?_); (case side1 => repeat (first | exact (Kd.C_below bv.out HB.out) | (with_reducible refine Kd.C_alloc ?_ _) | (with_reducible refine Kd.C_drewN ?_ _) | (with_reducible refine Kd.C_drew ?_))); (case side2 => exact bC.out); (case side3 => repeat (first | exact (Kd.C_below br.out HB.out) | (with_reducible refine Kd.C_alloc ?_ _) | (with_reducible refine Kd.C_drewN ?_ _) | (with_reducible refine Kd.C_drew ?_))); (case side4 => exact bB.out); rintro e w32 ⟨v190, rfl, ho0, hb⟩; refine ⟨_, rfl, ?_⟩; have n0_ := Aside0.mk (Kd.R_elder' (by (with_reducible repeat (first | apply Kd.R_alloc | apply Kd.R_drewN | apply Kd.R_drew)); exact bf.out) (Kd.R_base ho0) hb); have n1_ := Aside0.mk (Kd.R_lower (Kd.R_new' ho0 (Kd.R_lt (by (with_reducible repeat (first | apply Kd.R_alloc | apply Kd.R_drewN | apply Kd.R_drew)); exact bf.out))) (ag (by repeat (first | (with_reducible first | exact HB.out | apply a6 | apply a4 | apply a5 | refine a7 ?_ bg.out) | exact HB.out)))); have n2_ := Aside0.mk (ae (g := aZ) (o := .cells #[.slice ay ai.length ax, .slice az af.length aw] 25 (0, 0)) (by (with_reducible repeat (first | refine aa ?_ _ | refine ac ?_ | refine a8 ?_ _)); exact ar.out) hb); have n3_ := Aside0.mk (aj (by repeat (first | (with_reducible first | exact HB.out | apply a6 | apply a4 | apply a5 | refine a7 ?_ bg.out) | exact HB.out)) hb); clear bf; clear ar; clear HB; have bf := n0_; have HO191 := n1_; have ar := n2_; have HB := n3_; clear n0_ n1_ n2_ n3_; (try clear hb); (try clear hb2); (try clear hk); (try clear hi); (try clear ho0); obtain ⟨Ao33, co33, eo33⟩ := Kd.R_slice bf.out; subst eo33))
         go_ret
         exact ⟨by first | rfl | (simp [am, ap] <;> rfl) | (simp [*, am, ap] <;> rfl), by repeat (first | (with_reducible first | exact HB.out | apply a6 | apply a4 | apply a5 | refine a7 ?_ bg.out) | exact HB.out)⟩
      ·rw [if_neg c18] at H
       have c18b0 : ((t184.length : Int) == 0) = false := beq_eq_false_iff_ne.mpr c18
       have c18b1 : ((t184.length : Int) != 0) = true := bne_iff_ne.mpr c18
       have c18b2 : ¬ (t184 = []) := fun h_ => c18 (by rw [h_]; rfl)
       obtain rfl := Option.some.inj H
       have hcz34_0 : wc.cell? ⟨aZ, 0, none⟩ = some (.slice ay ai.length ax) := (a9 ar.out 0).trans rfl
       have hcz34_1 : wc.cell? ⟨aZ, 1, none⟩ = some (.slice az af.length aw) := (a9 ar.out 1).trans rfl
       have hfz34_0 := ab ar.out 0
       have hfz34_1 := ab ar.out 1
       go_wp2_with (first | ((with_reducible refine av (f := 15) rfl ?_); refine bm (some 35) rfl rfl Try.func15 (by kernel_rfl) rfl #[.agg #[.slice ay ai.length ax, .slice az af.length aw]] rfl (by (try simp only [List.map_toArray, List.map_cons, List.map_nil]); first | done | rfl | (simp only [List.length_drop, List.length_take]; rfl)) ?_; (with_reducible refine (search_Solve.calls kj7 _ _ ai _ _ af t189 t192 t193 _ ?side1 ?side2 ?side3 ?side4 A17.out).mono ?_); (case side1 => repeat (first | exact (Kd.C_below bv.out HB.out) | (with_reducible refine Kd.C_alloc ?_ _) | (with_reducible refine Kd.C_drewN ?_ _) | (with_reducible refine Kd.C_drew ?_))); (case side2 => exact bC.out); (case side3 => repeat (first | exact (Kd.C_below br.out HB.out) | (with_reducible refine Kd.C_alloc ?_ _) | (with_reducible refine Kd.C_drewN ?_ _) | (with_reducible refine Kd.C_drew ?_))); (case side4 => exact bB.out); rintro e w35 ⟨v190, rfl, ho0, hb⟩; refine ⟨_, rfl, ?_⟩; have n0_ := Aside0.mk (Kd.R_elder' (by (with_reducible repeat (first | apply Kd.R_alloc | apply Kd.R_drewN | apply Kd.R_drew)); exact bf.out) (Kd.R_base ho0) hb); have n1_ := Aside0.mk (Kd.R_lower (Kd.R_new' ho0 (Kd.R_lt (by (with_reducible repeat (first | apply Kd.R_alloc | apply Kd.R_drewN | apply Kd.R_drew)); exact bf.out))) (ag (by repeat (first | (with_reducible first | exact HB.out | apply a6 | apply a4 | apply a5 | refine a7 ?_ bg.out) | exact HB.out)))); have n2_ := Aside0.mk (ae (g := aZ) (o := .cells #[.slice ay ai.length ax, .slice az af.length aw] 25 (0, 0)) (by (with_reducible repeat (first | refine aa ?_ _ | refine ac ?_ | refine a8 ?_ _)); exact ar.out) hb); have n3_ := Aside0.mk (aj (by repeat (first | (with_reducible first | exact HB.out | apply a6 | apply a4 | apply a5 | refine a7 ?_ bg.out) | exact HB.out)) hb); clear bf; clear ar; clear HB; have bf := n0_; have HO191 := n1_; have ar := n2_; have HB := n3_; clear n0_ n1_ n2_ n3_; (try clear hb); (try clear hb2); (try clear hk); (try clear hi); (try clear ho0); obtain ⟨Ao36, co36, eo36⟩ := Kd.R_slice bf.out; subst eo36))
       go_ret
       exact ⟨by first | rfl | (simp [am, ap] <;> rfl) | (simp [*, am, ap] <;> rfl), by repeat (first | (with_reducible first | exact HB.out | apply a6 | apply a4 | apply a5 | refine a7 ?_ bg.out) | exact HB.out)⟩
     ·replace c16 := Bool.eq_false_iff.mpr c16
      subst c16
      have H1 : (fastilaw15_SearchMinimal.l0 kj7 a1 t184 0 ai af) = some r := by rw [if_neg (show ¬ (false = true) by decide)] at H; exact H
      clear H
      have H := H1
      clear H1
      have H' := Aside0.mk H
      clear H
      go_wp2
      go_loopg [11] kj7 (fun kq v11 w' => ∃ (x11_2 : Int), v11 = .int .i64 x11_2 ∧ Aside0 (fastilaw15_SearchMinimal.l0 kq a1 t184 x11_2 ai af = some r) ∧ Aside0 (kq ≤ kj7) ∧ Aside0 (Kd.R (Kd.int .i64) 3 w' w.heap.size (fun _ => True) v185 t184) ∧ Aside0 (w'.heap[aZ]? = some (.cells #[(.slice ay ai.length ax), (.slice az af.length aw)] 25 (0, 0))) ∧ Aside0 (Below w.heap.size w w'))
      case atStart => exact ⟨(0), (by first | rfl | (simp; done) | (simp [*]; done)), H', ⟨Nat.le_refl _⟩, ⟨by (with_reducible repeat (first | apply Kd.R_alloc | apply Kd.R_drewN | apply Kd.R_drew)); exact bf.out⟩, ⟨by (with_reducible repeat (first | refine aa ?_ _ | refine ac ?_ | refine a8 ?_ _)); exact ar.out⟩, ⟨by repeat (first | (with_reducible first | exact HB.out | apply a6 | apply a4 | apply a5 | refine a7 ?_ bg.out) | exact HB.out)⟩⟩
      case round =>
       clear H'
       try clear c1; try clear c2; try clear p2; try clear c4; try clear c6; try clear c8; try clear c11; try clear c12; try clear c15; try clear fF; try clear c15b1; try clear c16; try clear c18; try clear c18b0; try clear c18b1; try clear c18b2; try clear c19; try clear c23; try clear c23b0; try clear c23b1; try clear c24; try clear c24b0; try clear c24b1; try clear c25; try clear bO; try clear bP; try clear cT; try clear cU; try clear fG; try clear fH; try clear fK; try clear fL; try clear hcz28_0; try clear hcz28_1; try clear hcz31_0; try clear hcz31_1; try clear hcz34_0; try clear hcz34_1; try clear bQ; try clear bR; try clear cV; try clear cW; try clear fI; try clear fJ; try clear fM; try clear fN; try clear hfz28_0; try clear hfz28_1; try clear hfz31_0; try clear hfz31_1; try clear hfz34_0; try clear hfz34_1
       obtain ⟨x11_2, rfl, HA, HK2, bf, ar, HB⟩ := hrel
       cases gk with
       | zero => exact absurd HA.out (by simp [fastilaw15_SearchMinimal.l0])
       | succ k2 =>
        have H := HA.out
        clear HA
        simp only [fastilaw15_SearchMinimal.l0] at H
        by_cases c37 : x11_2 < (t184.length : Int)
        ·rw [if_pos c37] at H
         have c37b0 : decide (x11_2 < (t184.length : Int)) = true := decide_eq_true c37
         clear c37
         by_cases c38 : 0 ≤ x11_2
         ·rw [if_pos c38] at H
          have c38b0 : decide (0 ≤ x11_2) = true := decide_eq_true c38
          clear c38
          by_cases c39 : (rd t184 x11_2) < 0
          ·rw [if_pos c39] at H
           have c39b0 : decide ((rd t184 x11_2) < 0) = true := decide_eq_true c39
           clear c39
           obtain rfl := Option.some.inj H
           obtain ⟨Ao40, co40, eo40⟩ := Kd.R_slice bf.out
           subst eo40
           try go_wp2
           have n0_ := Aside0.mk (Kd.R_drew bf.out)
           have n1_ := Aside0.mk (ac ar.out)
           have n2_ := Aside0.mk (a5 HB.out)
           clear bf
           clear ar
           clear HB
           have bf := n0_
           have ar := n1_
           have HB := n2_
           clear n0_ n1_ n2_
           have p194 : 0 ≤ (x11_2 : Int) := of_decide_eq_true (by first | (with_reducible assumption) | assumption)
           have q194 : x11_2 < (t184.length : Int) := of_decide_eq_true (by first | (with_reducible assumption) | assumption)
           obtain ⟨ad194, e194, cB⟩ := Kd.at_int (Kd.R_reads' bf.out).2.2 x11_2 p194 q194
           cases e194
           replace p194 := eq_true p194
           replace q194 := eq_true q194
           refine dg (n := 31) (S := fun w' => w'.cell? (ad194.add (x11_2).toNat) = some (.int .i64 (rd t184 x11_2))) (ds := []) #[false, false, false, false, false, false, false, false, false, false, false, false, false, false, false, false, false, false, false, false, false, false, false, false, false, false, false, false, false, false, false] (by kernel_rfl) rfl rfl (cB) (fun hHeld => ?_); refine cm fastilaw15_SearchMinimal.tab12 fastilaw15_SearchMinimal.bits12 (fun HT_ HW_ => ?_)
           generalize wr.drew = w41 at bf ar HB cB hHeld ⊢
           refine aq (i := 0) (N := some 64) (v := ?_) (a' := ?_) #[true, false, false, false, false, false, false, false, false, false, false, false, false, false, false, false, false, false, false, false, false, false, false, false, false, false, false, false, false, false, false] rfl rfl (ak HT_.out (by kernel_rfl)) (fun _ _ _ h => h) (Or.inl ⟨by rfl, ?_⟩) ?_ ?_
           rotate_left
           ·intro w'
            go_simp
            with_reducible rfl
           rotate_left
           ·simp only [Act.put, List.setIfInBounds_toArray, List.set_cons_zero, List.set_cons_succ, al, ao]
            rfl
           refine aq (i := 1) (N := some 65) (v := ?_) (a' := ?_) #[true, true, false, false, false, false, false, false, false, false, false, false, false, false, false, false, false, false, false, false, false, false, false, false, false, false, false, false, false, false, false] rfl rfl (ak HT_.out (by kernel_rfl)) (fun _ _ _ h => h) (Or.inl ⟨by rfl, ?_⟩) ?_ ?_
           rotate_left
           ·intro w'
            go_simp
            with_reducible rfl
           rotate_left
           ·simp only [Act.put, List.setIfInBounds_toArray, List.set_cons_zero, List.set_cons_succ, al, ao]
            rfl
           refine aq (i := 2) (N := some 66) (v := ?_) (a' := ?_) #[true, true, true, false, false, false, false, false, false, false, false, false, false, false, false, false, false, false, false, false, false, false, false, false, false, false, false, false, false, false, false] rfl rfl (ak HT_.out (by kernel_rfl)) (fun _ _ _ h => h) (Or.inl ⟨by rfl, ?_⟩) ?_ ?_
           rotate_left
           ·intro w'
            go_simp
            with_reducible rfl
           rotate_left
           ·simp only [Act.put, List.setIfInBounds_toArray, List.set_cons_zero, List.set_cons_succ, al, ao]
            rfl
           refine take_ (i := 3) (N := some 67) (v := ?_) (a' := ?_) #[true, true, true, true, false, false, false, false, false, false, false, false, false, false, false, false, false, false, false, false, false, false, false, false, false, false, false, false, false, false, false] rfl rfl (bc HT_.out HW_.out (by kernel_rfl)) (fun _ _ _ h => h) (Or.inl ⟨by rfl, ?_⟩) hHeld ?_ ?_
           rotate_left
           ·intro w' s0
            go_simp
            with_reducible rfl
           rotate_left
           ·simp only [Act.put, List.setIfInBounds_toArray, List.set_cons_zero, List.set_cons_succ, al, ao]
            rfl
           refine aq (i := 4) (N := some 68) (v := ?_) (a' := ?_) #[true, true, true, true, true, false, false, false, false, false, false, false, false, false, false, false, false, false, false, false, false, false, false, false, false, false, false, false, false, false, false] rfl rfl (ak HT_.out (by kernel_rfl)) (fun _ _ _ h => h) (Or.inl ⟨by rfl, ?_⟩) ?_ ?_
           rotate_left
           ·intro w'
            go_simp
            with_reducible rfl
           rotate_left
           ·simp only [Act.put, List.setIfInBounds_toArray, List.set_cons_zero, List.set_cons_succ, al, ao]
            rfl
           refine aq (i := 5) (N := some 69) (v := ?_) (a' := ?_) #[true, true, true, true, true, true, false, false, false, false, false, false, false, false, false, false, false, false, false, false, false, false, false, false, false, false, false, false, false, false, false] rfl rfl (ak HT_.out (by kernel_rfl)) (fun _ _ _ h => h) (Or.inl ⟨by rfl, ?_⟩) ?_ ?_
           rotate_left
           ·intro w'
            go_simp
            with_reducible rfl
           rotate_left
           ·simp only [Act.put, List.setIfInBounds_toArray, List.set_cons_zero, List.set_cons_succ, al, ao]
            rfl
           refine aq (i := 6) (N := some 70) (v := undef) (a' := ?_) #[true, true, true, true, true, true, true, false, false, false, false, false, false, false, false, false, false, false, false, false, false, false, false, false, false, false, false, false, false, false, false] rfl rfl (ak HT_.out (by kernel_rfl)) (fun _ _ _ h => h) (Or.inr ⟨by rfl, rfl⟩) ?_ ?_
           rotate_left
           ·simp only [Act.put, List.setIfInBounds_toArray, List.set_cons_zero, List.set_cons_succ, al, ao]
            rfl
           refine aq (i := 7) (N := some 71) (v := undef) (a' := ?_) #[true, true, true, true, true, true, true, true, false, false, false, false, false, false, false, false, false, false, false, false, false, false, false, false, false, false, false, false, false, false, false] rfl rfl (ak HT_.out (by kernel_rfl)) (fun _ _ _ h => h) (Or.inr ⟨by rfl, rfl⟩) ?_ ?_
           rotate_left
           ·simp only [Act.put, List.setIfInBounds_toArray, List.set_cons_zero, List.set_cons_succ, al, ao]
            rfl
           refine aq (i := 8) (N := some 72) (v := undef) (a' := ?_) #[true, true, true, true, true, true, true, true, true, false, false, false, false, false, false, false, false, false, false, false, false, false, false, false, false, false, false, false, false, false, false] rfl rfl (ak HT_.out (by kernel_rfl)) (fun _ _ _ h => h) (Or.inr ⟨by rfl, rfl⟩) ?_ ?_
           rotate_left
           ·simp only [Act.put, List.setIfInBounds_toArray, List.set_cons_zero, List.set_cons_succ, al, ao]
            rfl
           refine aq (i := 9) (N := some 73) (v := undef) (a' := ?_) #[true, true, true, true, true, true, true, true, true, true, false, false, false, false, false, false, false, false, false, false, false, false, false, false, false, false, false, false, false, false, false] rfl rfl (ak HT_.out (by kernel_rfl)) (fun _ _ _ h => h) (Or.inr ⟨by rfl, rfl⟩) ?_ ?_
           rotate_left
           ·simp only [Act.put, List.setIfInBounds_toArray, List.set_cons_zero, List.set_cons_succ, al, ao]
            rfl
           refine aq (i := 10) (N := some 74) (v := undef) (a' := ?_) #[true, true, true, true, true, true, true, true, true, true, true, false, false, false, false, false, false, false, false, false, false, false, false, false, false, false, false, false, false, false, false] rfl rfl (ak HT_.out (by kernel_rfl)) (fun _ _ _ h => h) (Or.inr ⟨by rfl, rfl⟩) ?_ ?_
           rotate_left
           ·simp only [Act.put, List.setIfInBounds_toArray, List.set_cons_zero, List.set_cons_succ, al, ao]
            rfl
           refine aq (i := 11) (N := some 75) (v := undef) (a' := ?_) #[true, true, true, true, true, true, true, true, true, true, true, true, false, false, false, false, false, false, false, false, false, false, false, false, false, false, false, false, false, false, false] rfl rfl (ak HT_.out (by kernel_rfl)) (fun _ _ _ h => h) (Or.inr ⟨by rfl, rfl⟩) ?_ ?_
           rotate_left
           ·simp only [Act.put, List.setIfInBounds_toArray, List.set_cons_zero, List.set_cons_succ, al, ao]
            rfl
           refine aq (i := 12) (N := some 76) (v := undef) (a' := ?_) #[true, true, true, true, true, true, true, true, true, true, true, true, true, false, false, false, false, false, false, false, false, false, false, false, false, false, false, false, false, false, false] rfl rfl (ak HT_.out (by kernel_rfl)) (fun _ _ _ h => h) (Or.inr ⟨by rfl, rfl⟩) ?_ ?_
           rotate_left
           ·simp only [Act.put, List.setIfInBounds_toArray, List.set_cons_zero, List.set_cons_succ, al, ao]
            rfl
           refine aq (i := 13) (N := some 77) (v := undef) (a' := ?_) #[true, true, true, true, true, true, true, true, true, true, true, true, true, true, false, false, false, false, false, false, false, false, false, false, false, false, false, false, false, false, false] rfl rfl (ak HT_.out (by kernel_rfl)) (fun _ _ _ h => h) (Or.inr ⟨by rfl, rfl⟩) ?_ ?_
           rotate_left
           ·simp only [Act.put, List.setIfInBounds_toArray, List.set_cons_zero, List.set_cons_succ, al, ao]
            rfl
           refine aq (i := 14) (N := some 78) (v := ?_) (a' := ?_) #[true, true, true, true, true, true, true, true, true, true, true, true, true, true, true, false, false, false, false, false, false, false, false, false, false, false, false, false, false, false, false] rfl rfl (ak HT_.out (by kernel_rfl)) (fun _ _ _ h => h) (Or.inl ⟨by rfl, ?_⟩) ?_ ?_
           rotate_left
           ·intro w'
            go_simp
            with_reducible rfl
           rotate_left
           ·simp only [Act.put, List.setIfInBounds_toArray, List.set_cons_zero, List.set_cons_succ, al, ao]
            rfl
           refine aq (i := 15) (N := some 79) (v := ?_) (a' := ?_) #[true, true, true, true, true, true, true, true, true, true, true, true, true, true, true, true, false, false, false, false, false, false, false, false, false, false, false, false, false, false, false] rfl rfl (ak HT_.out (by kernel_rfl)) (fun _ _ _ h => h) (Or.inl ⟨by rfl, ?_⟩) ?_ ?_
           rotate_left
           ·intro w'
            go_simp
            with_reducible rfl
           rotate_left
           ·simp only [Act.put, List.setIfInBounds_toArray, List.set_cons_zero, List.set_cons_succ, al, ao]
            rfl
           refine aq (i := 16) (N := some 80) (v := undef) (a' := ?_) #[true, true, true, true, true, true, true, true, true, true, true, true, true, true, true, true, true, false, false, false, false, false, false, false, false, false, false, false, false, false, false] rfl rfl (ak HT_.out (by kernel_rfl)) (fun _ _ _ h => h) (Or.inr ⟨by rfl, rfl⟩) ?_ ?_
           rotate_left
           ·simp only [Act.put, List.setIfInBounds_toArray, List.set_cons_zero, List.set_cons_succ, al, ao]
            rfl
           refine aq (i := 17) (N := some 81) (v := undef) (a' := ?_) #[true, true, true, true, true, true, true, true, true, true, true, true, true, true, true, true, true, true, false, false, false, false, false, false, false, false, false, false, false, false, false] rfl rfl (ak HT_.out (by kernel_rfl)) (fun _ _ _ h => h) (Or.inr ⟨by rfl, rfl⟩) ?_ ?_
           rotate_left
           ·simp only [Act.put, List.setIfInBounds_toArray, List.set_cons_zero, List.set_cons_succ, al, ao]
            rfl
           refine aq (i := 18) (N := some 82) (v := undef) (a' := ?_) #[true, true, true, true, true, true, true, true, true, true, true, true, true, true, true, true, true, true, true, false, false, false, false, false, false, false, false, false, false, false, false] rfl rfl (ak HT_.out (by kernel_rfl)) (fun _ _ _ h => h) (Or.inr ⟨by rfl, rfl⟩) ?_ ?_
           rotate_left
           ·simp only [Act.put, List.setIfInBounds_toArray, List.set_cons_zero, List.set_cons_succ, al, ao]
            rfl
           refine aq (i := 19) (N := some 83) (v := undef) (a' := ?_) #[true, true, true, true, true, true, true, true, true, true, true, true, true, true, true, true, true, true, true, true, false, false, false, false, false, false, false, false, false, false, false] rfl rfl (ak HT_.out (by kernel_rfl)) (fun _ _ _ h => h) (Or.inr ⟨by rfl, rfl⟩) ?_ ?_
           rotate_left
           ·simp only [Act.put, List.setIfInBounds_toArray, List.set_cons_zero, List.set_cons_succ, al, ao]
            rfl
           refine aq (i := 20) (N := some 84) (v := undef) (a' := ?_) #[true, true, true, true, true, true, true, true, true, true, true, true, true, true, true, true, true, true, true, true, true, false, false, false, false, false, false, false, false, false, false] rfl rfl (ak HT_.out (by kernel_rfl)) (fun _ _ _ h => h) (Or.inr ⟨by rfl, rfl⟩) ?_ ?_
           rotate_left
           ·simp only [Act.put, List.setIfInBounds_toArray, List.set_cons_zero, List.set_cons_succ, al, ao]
            rfl
           refine aq (i := 21) (N := some 85) (v := undef) (a' := ?_) #[true, true, true, true, true, true, true, true, true, true, true, true, true, true, true, true, true, true, true, true, true, true, false, false, false, false, false, false, false, false, false] rfl rfl (ak HT_.out (by kernel_rfl)) (fun _ _ _ h => h) (Or.inr ⟨by rfl, rfl⟩) ?_ ?_
           rotate_left
           ·simp only [Act.put, List.setIfInBounds_toArray, List.set_cons_zero, List.set_cons_succ, al, ao]
            rfl
           refine aq (i := 22) (N := some 86) (v := undef) (a' := ?_) #[true, true, true, true, true, true, true, true, true, true, true, true, true, true, true, true, true, true, true, true, true, true, true, false, false, false, false, false, false, false, false] rfl rfl (ak HT_.out (by kernel_rfl)) (fun _ _ _ h => h) (Or.inr ⟨by rfl, rfl⟩) ?_ ?_
           rotate_left
           ·simp only [Act.put, List.setIfInBounds_toArray, List.set_cons_zero, List.set_cons_succ, al, ao]
            rfl
           refine aq (i := 23) (N := some 87) (v := undef) (a' := ?_) #[true, true, true, true, true, true, true, true, true, true, true, true, true, true, true, true, true, true, true, true, true, true, true, true, false, false, false, false, false, false, false] rfl rfl (ak HT_.out (by kernel_rfl)) (fun _ _ _ h => h) (Or.inr ⟨by rfl, rfl⟩) ?_ ?_
           rotate_left
           ·simp only [Act.put, List.setIfInBounds_toArray, List.set_cons_zero, List.set_cons_succ, al, ao]
            rfl
           refine aq (i := 24) (N := some 88) (v := undef) (a' := ?_) #[true, true, true, true, true, true, true, true, true, true, true, true, true, true, true, true, true, true, true, true, true, true, true, true, true, false, false, false, false, false, false] rfl rfl (ak HT_.out (by kernel_rfl)) (fun _ _ _ h => h) (Or.inr ⟨by rfl, rfl⟩) ?_ ?_
           rotate_left
           ·simp only [Act.put, List.setIfInBounds_toArray, List.set_cons_zero, List.set_cons_succ, al, ao]
            rfl
           refine aq (i := 25) (N := some 89) (v := undef) (a' := ?_) #[true, true, true, true, true, true, true, true, true, true, true, true, true, true, true, true, true, true, true, true, true, true, true, true, true, true, false, false, false, false, false] rfl rfl (ak HT_.out (by kernel_rfl)) (fun _ _ _ h => h) (Or.inr ⟨by rfl, rfl⟩) ?_ ?_
           rotate_left
           ·simp only [Act.put, List.setIfInBounds_toArray, List.set_cons_zero, List.set_cons_succ, al, ao]
            rfl
           refine aq (i := 26) (N := some 90) (v := undef) (a' := ?_) #[true, true, true, true, true, true, true, true, true, true, true, true, true, true, true, true, true, true, true, true, true, true, true, true, true, true, true, false, false, false, false] rfl rfl (ak HT_.out (by kernel_rfl)) (fun _ _ _ h => h) (Or.inr ⟨by rfl, rfl⟩) ?_ ?_
           rotate_left
           ·simp only [Act.put, List.setIfInBounds_toArray, List.set_cons_zero, List.set_cons_succ, al, ao]
            rfl
           refine aq (i := 27) (N := some 91) (v := undef) (a' := ?_) #[true, true, true, true, true, true, true, true, true, true, true, true, true, true, true, true, true, true, true, true, true, true, true, true, true, true, true, true, false, false, false] rfl rfl (ak HT_.out (by kernel_rfl)) (fun _ _ _ h => h) (Or.inr ⟨by rfl, rfl⟩) ?_ ?_
           rotate_left
           ·simp only [Act.put, List.setIfInBounds_toArray, List.set_cons_zero, List.set_cons_succ, al, ao]
            rfl
           refine aq (i := 28) (N := some 92) (v := undef) (a' := ?_) #[true, true, true, true, true, true, true, true, true, true, true, true, true, true, true, true, true, true, true, true, true, true, true, true, true, true, true, true, true, false, false] rfl rfl (ak HT_.out (by kernel_rfl)) (fun _ _ _ h => h) (Or.inr ⟨by rfl, rfl⟩) ?_ ?_
           rotate_left
           ·simp only [Act.put, List.setIfInBounds_toArray, List.set_cons_zero, List.set_cons_succ, al, ao]
            rfl
           refine aq (i := 29) (N := some 93) (v := undef) (a' := ?_) #[true, true, true, true, true, true, true, true, true, true, true, true, true, true, true, true, true, true, true, true, true, true, true, true, true, true, true, true, true, true, false] rfl rfl (ak HT_.out (by kernel_rfl)) (fun _ _ _ h => h) (Or.inr ⟨by rfl, rfl⟩) ?_ ?_
           rotate_left
           ·simp only [Act.put, List.setIfInBounds_toArray, List.set_cons_zero, List.set_cons_succ, al, ao]
            rfl
           refine aq (i := 30) (N := some 94) (v := ?_) (a' := ?_) #[true, true, true, true, true, true, true, true, true, true, true, true, true, true, true, true, true, true, true, true, true, true, true, true, true, true, true, true, true, true, true] rfl rfl (ak HT_.out (by kernel_rfl)) (fun _ _ _ h => h) (Or.inl ⟨by rfl, ?_⟩) ?_ ?_
           rotate_left
           ·intro w'
            go_simp
            with_reducible rfl
           rotate_left
           ·simp only [Act.put, List.setIfInBounds_toArray, List.set_cons_zero, List.set_cons_succ, al, ao]
            rfl
           refine ew (cf HT_.out (by kernel_rfl)) ?_
           try go_wp2
           go_ret
           exact ⟨by first | rfl | (simp [am, ap] <;> rfl) | (simp [*, am, ap] <;> rfl), by repeat (first | (with_reducible first | exact HB.out | apply a6 | apply a4 | apply a5 | refine a7 ?_ bg.out) | exact HB.out)⟩
          ·rw [if_neg c39] at H
           have c39b0 : decide ((rd t184 x11_2) < 0) = false := decide_eq_false c39
           clear c39
           by_cases c42 : (rd t184 x11_2) ≥ (af.length : Int)
           ·rw [if_pos c42] at H
            have c42b0 : decide ((af.length : Int) ≤ (rd t184 x11_2)) = true := decide_eq_true c42
            clear c42
            obtain rfl := Option.some.inj H
            obtain ⟨Ao43, co43, eo43⟩ := Kd.R_slice bf.out
            subst eo43
            try go_wp2
            have n0_ := Aside0.mk (Kd.R_drew bf.out)
            have n1_ := Aside0.mk (ac ar.out)
            have n2_ := Aside0.mk (a5 HB.out)
            clear bf
            clear ar
            clear HB
            have bf := n0_
            have ar := n1_
            have HB := n2_
            clear n0_ n1_ n2_
            have p194 : 0 ≤ (x11_2 : Int) := of_decide_eq_true (by first | (with_reducible assumption) | assumption)
            have q194 : x11_2 < (t184.length : Int) := of_decide_eq_true (by first | (with_reducible assumption) | assumption)
            obtain ⟨ad194, e194, cB⟩ := Kd.at_int (Kd.R_reads' bf.out).2.2 x11_2 p194 q194
            cases e194
            replace p194 := eq_true p194
            replace q194 := eq_true q194
            have p195 : 0 ≤ (x11_2 : Int) := of_decide_eq_true (by first | (with_reducible assumption) | assumption)
            have q195 : x11_2 < (t184.length : Int) := of_decide_eq_true (by first | (with_reducible assumption) | assumption)
            obtain ⟨ad195, e195, da⟩ := Kd.at_int (Kd.R_reads' bf.out).2.2 x11_2 p195 q195
            obtain rfl : ad194 = ad195 := (by injection e195)
            replace p195 := eq_true p195
            replace q195 := eq_true q195
            refine dg (n := 31) (S := fun w' => w'.cell? ⟨aZ, 0, none⟩ = some (.slice ay ai.length ax) ∧ w'.cell? ⟨aZ, 1, none⟩ = some (.slice az af.length aw) ∧ w'.cell? (ad194.add (x11_2).toNat) = some (.int .i64 (rd t184 x11_2)) ∧ w'.cell? (ad194.add (x11_2).toNat) = some (.int .i64 (rd t184 x11_2))) (ds := []) #[false, false, false, false, false, false, false, false, false, false, false, false, false, false, false, false, false, false, false, false, false, false, false, false, false, false, false, false, false, false, false] (by kernel_rfl) rfl rfl ⟨(a9 ar.out 0).trans rfl, (a9 ar.out 1).trans rfl, cB, da⟩ (fun hHeld => ?_); refine cm fastilaw15_SearchMinimal.tab12 fastilaw15_SearchMinimal.bits12 (fun HT_ HW_ => ?_)
            generalize wr.drew = w44 at bf ar HB cB da hHeld ⊢
            refine aq (i := 0) (N := some 64) (v := ?_) (a' := ?_) #[true, false, false, false, false, false, false, false, false, false, false, false, false, false, false, false, false, false, false, false, false, false, false, false, false, false, false, false, false, false, false] rfl rfl (ak HT_.out (by kernel_rfl)) (fun _ _ _ h => h) (Or.inl ⟨by rfl, ?_⟩) ?_ ?_
            rotate_left
            ·intro w'
             go_simp
             with_reducible rfl
            rotate_left
            ·simp only [Act.put, List.setIfInBounds_toArray, List.set_cons_zero, List.set_cons_succ, al, ao]
             rfl
            refine aq (i := 1) (N := some 65) (v := ?_) (a' := ?_) #[true, true, false, false, false, false, false, false, false, false, false, false, false, false, false, false, false, false, false, false, false, false, false, false, false, false, false, false, false, false, false] rfl rfl (ak HT_.out (by kernel_rfl)) (fun _ _ _ h => h) (Or.inl ⟨by rfl, ?_⟩) ?_ ?_
            rotate_left
            ·intro w'
             go_simp
             with_reducible rfl
            rotate_left
            ·simp only [Act.put, List.setIfInBounds_toArray, List.set_cons_zero, List.set_cons_succ, al, ao]
             rfl
            refine aq (i := 2) (N := some 66) (v := ?_) (a' := ?_) #[true, true, true, false, false, false, false, false, false, false, false, false, false, false, false, false, false, false, false, false, false, false, false, false, false, false, false, false, false, false, false] rfl rfl (ak HT_.out (by kernel_rfl)) (fun _ _ _ h => h) (Or.inl ⟨by rfl, ?_⟩) ?_ ?_
            rotate_left
            ·intro w'
             go_simp
             with_reducible rfl
            rotate_left
            ·simp only [Act.put, List.setIfInBounds_toArray, List.set_cons_zero, List.set_cons_succ, al, ao]
             rfl
            refine take_ (i := 3) (N := some 67) (v := ?_) (a' := ?_) #[true, true, true, true, false, false, false, false, false, false, false, false, false, false, false, false, false, false, false, false, false, false, false, false, false, false, false, false, false, false, false] rfl rfl (bc HT_.out HW_.out (by kernel_rfl)) (fun _ _ _ h => h) (Or.inl ⟨by rfl, ?_⟩) hHeld ?_ ?_
            rotate_left
            ·rintro w' ⟨s0, s1, s2, s3⟩
             go_simp
             with_reducible rfl
            rotate_left
            ·simp only [Act.put, List.setIfInBounds_toArray, List.set_cons_zero, List.set_cons_succ, al, ao]
             rfl
            refine aq (i := 4) (N := some 68) (v := ?_) (a' := ?_) #[true, true, true, true, true, false, false, false, false, false, false, false, false, false, false, false, false, false, false, false, false, false, false, false, false, false, false, false, false, false, false] rfl rfl (ak HT_.out (by kernel_rfl)) (fun _ _ _ h => h) (Or.inl ⟨by rfl, ?_⟩) ?_ ?_
            rotate_left
            ·intro w'
             go_simp
             with_reducible rfl
            rotate_left
            ·simp only [Act.put, List.setIfInBounds_toArray, List.set_cons_zero, List.set_cons_succ, al, ao]
             rfl
            refine aq (i := 5) (N := some 69) (v := ?_) (a' := ?_) #[true, true, true, true, true, true, false, false, false, false, false, false, false, false, false, false, false, false, false, false, false, false, false, false, false, false, false, false, false, false, false] rfl rfl (ak HT_.out (by kernel_rfl)) (fun _ _ _ h => h) (Or.inl ⟨by rfl, ?_⟩) ?_ ?_
            rotate_left
            ·intro w'
             go_simp
             with_reducible rfl
            rotate_left
            ·simp only [Act.put, List.setIfInBounds_toArray, List.set_cons_zero, List.set_cons_succ, al, ao]
             rfl
            refine aq (i := 6) (N := some 70) (v := ?_) (a' := ?_) #[true, true, true, true, true, true, true, false, false, false, false, false, false, false, false, false, false, false, false, false, false, false, false, false, false, false, false, false, false, false, false] rfl rfl (ak HT_.out (by kernel_rfl)) (fun _ _ _ h => h) (Or.inl ⟨by rfl, ?_⟩) ?_ ?_
            rotate_left
            ·intro w'
             go_simp
             with_reducible rfl
            rotate_left
            ·simp only [Act.put, List.setIfInBounds_toArray, List.set_cons_zero, List.set_cons_succ, al, ao]
             rfl
            refine aq (i := 7) (N := some 71) (v := ?_) (a' := ?_) #[true, true, true, true, true, true, true, true, false, false, false, false, false, false, false, false, false, false, false, false, false, false, false, false, false, false, false, false, false, false, false] rfl rfl (ak HT_.out (by kernel_rfl)) (fun _ _ _ h => h) (Or.inl ⟨by rfl, ?_⟩) ?_ ?_
            rotate_left
            ·intro w'
             go_simp
             with_reducible rfl
            rotate_left
            ·simp only [Act.put, List.setIfInBounds_toArray, List.set_cons_zero, List.set_cons_succ, al, ao]
             rfl
            refine aq (i := 8) (N := some 72) (v := ?_) (a' := ?_) #[true, true, true, true, true, true, true, true, true, false, false, false, false, false, false, false, false, false, false, false, false, false, false, false, false, false, false, false, false, false, false] rfl rfl (ak HT_.out (by kernel_rfl)) (fun _ _ _ h => h) (Or.inl ⟨by rfl, ?_⟩) ?_ ?_
            rotate_left
            ·intro w'
             go_simp
             with_reducible rfl
            rotate_left
            ·simp only [Act.put, List.setIfInBounds_toArray, List.set_cons_zero, List.set_cons_succ, al, ao]
             rfl
            refine aq (i := 10) (N := some 74) (v := ?_) (a' := ?_) #[true, true, true, true, true, true, true, true, true, false, true, false, false, false, false, false, false, false, false, false, false, false, false, false, false, false, false, false, false, false, false] rfl rfl (ak HT_.out (by kernel_rfl)) (fun _ _ _ h => h) (Or.inl ⟨by rfl, ?_⟩) ?_ ?_
            rotate_left
            ·intro w'
             go_simp
             with_reducible rfl
            rotate_left
            ·simp only [Act.put, List.setIfInBounds_toArray, List.set_cons_zero, List.set_cons_succ, al, ao]
             rfl
            refine take_ (i := 9) (N := some 73) (v := ?_) (a' := ?_) #[true, true, true, true, true, true, true, true, true, true, true, false, false, false, false, false, false, false, false, false, false, false, false, false, false, false, false, false, false, false, false] rfl rfl (bc HT_.out HW_.out (by kernel_rfl)) (fun _ _ _ h => h) (Or.inl ⟨by rfl, ?_⟩) hHeld ?_ ?_
            rotate_left
            ·rintro w' ⟨s0, s1, s2, s3⟩
             go_simp
             with_reducible rfl
            rotate_left
            ·simp only [Act.put, List.setIfInBounds_toArray, List.set_cons_zero, List.set_cons_succ, al, ao]
             rfl
            refine take_ (i := 11) (N := some 75) (v := ?_) (a' := ?_) #[true, true, true, true, true, true, true, true, true, true, true, true, false, false, false, false, false, false, false, false, false, false, false, false, false, false, false, false, false, false, false] rfl rfl (bc HT_.out HW_.out (by kernel_rfl)) (fun _ _ _ h => h) (Or.inl ⟨by rfl, ?_⟩) hHeld ?_ ?_
            rotate_left
            ·rintro w' ⟨s0, s1, s2, s3⟩
             go_simp
             with_reducible rfl
            rotate_left
            ·simp only [Act.put, List.setIfInBounds_toArray, List.set_cons_zero, List.set_cons_succ, al, ao]
             rfl
            refine aq (i := 12) (N := some 76) (v := ?_) (a' := ?_) #[true, true, true, true, true, true, true, true, true, true, true, true, true, false, false, false, false, false, false, false, false, false, false, false, false, false, false, false, false, false, false] rfl rfl (ak HT_.out (by kernel_rfl)) (fun _ _ _ h => h) (Or.inl ⟨by rfl, ?_⟩) ?_ ?_
            rotate_left
            ·intro w'
             go_simp
             with_reducible rfl
            rotate_left
            ·simp only [Act.put, List.setIfInBounds_toArray, List.set_cons_zero, List.set_cons_succ, al, ao]
             rfl
            refine aq (i := 13) (N := some 77) (v := ?_) (a' := ?_) #[true, true, true, true, true, true, true, true, true, true, true, true, true, true, false, false, false, false, false, false, false, false, false, false, false, false, false, false, false, false, false] rfl rfl (ak HT_.out (by kernel_rfl)) (fun _ _ _ h => h) (Or.inl ⟨by rfl, ?_⟩) ?_ ?_
            rotate_left
            ·intro w'
             go_simp
             with_reducible rfl
            rotate_left
            ·simp only [Act.put, List.setIfInBounds_toArray, List.set_cons_zero, List.set_cons_succ, al, ao]
             rfl
            refine aq (i := 14) (N := some 78) (v := ?_) (a' := ?_) #[true, true, true, true, true, true, true, true, true, true, true, true, true, true, true, false, false, false, false, false, false, false, false, false, false, false, false, false, false, false, false] rfl rfl (ak HT_.out (by kernel_rfl)) (fun _ _ _ h => h) (Or.inl ⟨by rfl, ?_⟩) ?_ ?_
            rotate_left
            ·intro w'
             go_simp
             with_reducible rfl
            rotate_left
            ·simp only [Act.put, List.setIfInBounds_toArray, List.set_cons_zero, List.set_cons_succ, al, ao]
             rfl
            refine aq (i := 15) (N := some 79) (v := ?_) (a' := ?_) #[true, true, true, true, true, true, true, true, true, true, true, true, true, true, true, true, false, false, false, false, false, false, false, false, false, false, false, false, false, false, false] rfl rfl (ak HT_.out (by kernel_rfl)) (fun _ _ _ h => h) (Or.inl ⟨by rfl, ?_⟩) ?_ ?_
            rotate_left
            ·intro w'
             go_simp
             with_reducible rfl
            rotate_left
            ·simp only [Act.put, List.setIfInBounds_toArray, List.set_cons_zero, List.set_cons_succ, al, ao]
             rfl
            refine aq (i := 16) (N := some 80) (v := undef) (a' := ?_) #[true, true, true, true, true, true, true, true, true, true, true, true, true, true, true, true, true, false, false, false, false, false, false, false, false, false, false, false, false, false, false] rfl rfl (ak HT_.out (by kernel_rfl)) (fun _ _ _ h => h) (Or.inr ⟨by rfl, rfl⟩) ?_ ?_
            rotate_left
            ·simp only [Act.put, List.setIfInBounds_toArray, List.set_cons_zero, List.set_cons_succ, al, ao]
             rfl
            refine aq (i := 17) (N := some 81) (v := undef) (a' := ?_) #[true, true, true, true, true, true, true, true, true, true, true, true, true, true, true, true, true, true, false, false, false, false, false, false, false, false, false, false, false, false, false] rfl rfl (ak HT_.out (by kernel_rfl)) (fun _ _ _ h => h) (Or.inr ⟨by rfl, rfl⟩) ?_ ?_
            rotate_left
            ·simp only [Act.put, List.setIfInBounds_toArray, List.set_cons_zero, List.set_cons_succ, al, ao]
             rfl
            refine aq (i := 18) (N := some 82) (v := undef) (a' := ?_) #[true, true, true, true, true, true, true, true, true, true, true, true, true, true, true, true, true, true, true, false, false, false, false, false, false, false, false, false, false, false, false] rfl rfl (ak HT_.out (by kernel_rfl)) (fun _ _ _ h => h) (Or.inr ⟨by rfl, rfl⟩) ?_ ?_
            rotate_left
            ·simp only [Act.put, List.setIfInBounds_toArray, List.set_cons_zero, List.set_cons_succ, al, ao]
             rfl
            refine aq (i := 19) (N := some 83) (v := undef) (a' := ?_) #[true, true, true, true, true, true, true, true, true, true, true, true, true, true, true, true, true, true, true, true, false, false, false, false, false, false, false, false, false, false, false] rfl rfl (ak HT_.out (by kernel_rfl)) (fun _ _ _ h => h) (Or.inr ⟨by rfl, rfl⟩) ?_ ?_
            rotate_left
            ·simp only [Act.put, List.setIfInBounds_toArray, List.set_cons_zero, List.set_cons_succ, al, ao]
             rfl
            refine aq (i := 20) (N := some 84) (v := undef) (a' := ?_) #[true, true, true, true, true, true, true, true, true, true, true, true, true, true, true, true, true, true, true, true, true, false, false, false, false, false, false, false, false, false, false] rfl rfl (ak HT_.out (by kernel_rfl)) (fun _ _ _ h => h) (Or.inr ⟨by rfl, rfl⟩) ?_ ?_
            rotate_left
            ·simp only [Act.put, List.setIfInBounds_toArray, List.set_cons_zero, List.set_cons_succ, al, ao]
             rfl
            refine aq (i := 21) (N := some 85) (v := undef) (a' := ?_) #[true, true, true, true, true, true, true, true, true, true, true, true, true, true, true, true, true, true, true, true, true, true, false, false, false, false, false, false, false, false, false] rfl rfl (ak HT_.out (by kernel_rfl)) (fun _ _ _ h => h) (Or.inr ⟨by rfl, rfl⟩) ?_ ?_
            rotate_left
            ·simp only [Act.put, List.setIfInBounds_toArray, List.set_cons_zero, List.set_cons_succ, al, ao]
             rfl
            refine aq (i := 22) (N := some 86) (v := undef) (a' := ?_) #[true, true, true, true, true, true, true, true, true, true, true, true, true, true, true, true, true, true, true, true, true, true, true, false, false, false, false, false, false, false, false] rfl rfl (ak HT_.out (by kernel_rfl)) (fun _ _ _ h => h) (Or.inr ⟨by rfl, rfl⟩) ?_ ?_
            rotate_left
            ·simp only [Act.put, List.setIfInBounds_toArray, List.set_cons_zero, List.set_cons_succ, al, ao]
             rfl
            refine aq (i := 23) (N := some 87) (v := undef) (a' := ?_) #[true, true, true, true, true, true, true, true, true, true, true, true, true, true, true, true, true, true, true, true, true, true, true, true, false, false, false, false, false, false, false] rfl rfl (ak HT_.out (by kernel_rfl)) (fun _ _ _ h => h) (Or.inr ⟨by rfl, rfl⟩) ?_ ?_
            rotate_left
            ·simp only [Act.put, List.setIfInBounds_toArray, List.set_cons_zero, List.set_cons_succ, al, ao]
             rfl
            refine aq (i := 24) (N := some 88) (v := undef) (a' := ?_) #[true, true, true, true, true, true, true, true, true, true, true, true, true, true, true, true, true, true, true, true, true, true, true, true, true, false, false, false, false, false, false] rfl rfl (ak HT_.out (by kernel_rfl)) (fun _ _ _ h => h) (Or.inr ⟨by rfl, rfl⟩) ?_ ?_
            rotate_left
            ·simp only [Act.put, List.setIfInBounds_toArray, List.set_cons_zero, List.set_cons_succ, al, ao]
             rfl
            refine aq (i := 25) (N := some 89) (v := undef) (a' := ?_) #[true, true, true, true, true, true, true, true, true, true, true, true, true, true, true, true, true, true, true, true, true, true, true, true, true, true, false, false, false, false, false] rfl rfl (ak HT_.out (by kernel_rfl)) (fun _ _ _ h => h) (Or.inr ⟨by rfl, rfl⟩) ?_ ?_
            rotate_left
            ·simp only [Act.put, List.setIfInBounds_toArray, List.set_cons_zero, List.set_cons_succ, al, ao]
             rfl
            refine aq (i := 26) (N := some 90) (v := undef) (a' := ?_) #[true, true, true, true, true, true, true, true, true, true, true, true, true, true, true, true, true, true, true, true, true, true, true, true, true, true, true, false, false, false, false] rfl rfl (ak HT_.out (by kernel_rfl)) (fun _ _ _ h => h) (Or.inr ⟨by rfl, rfl⟩) ?_ ?_
            rotate_left
            ·simp only [Act.put, List.setIfInBounds_toArray, List.set_cons_zero, List.set_cons_succ, al, ao]
             rfl
            refine aq (i := 27) (N := some 91) (v := undef) (a' := ?_) #[true, true, true, true, true, true, true, true, true, true, true, true, true, true, true, true, true, true, true, true, true, true, true, true, true, true, true, true, false, false, false] rfl rfl (ak HT_.out (by kernel_rfl)) (fun _ _ _ h => h) (Or.inr ⟨by rfl, rfl⟩) ?_ ?_
            rotate_left
            ·simp only [Act.put, List.setIfInBounds_toArray, List.set_cons_zero, List.set_cons_succ, al, ao]
             rfl
            refine aq (i := 28) (N := some 92) (v := undef) (a' := ?_) #[true, true, true, true, true, true, true, true, true, true, true, true, true, true, true, true, true, true, true, true, true, true, true, true, true, true, true, true, true, false, false] rfl rfl (ak HT_.out (by kernel_rfl)) (fun _ _ _ h => h) (Or.inr ⟨by rfl, rfl⟩) ?_ ?_
            rotate_left
            ·simp only [Act.put, List.setIfInBounds_toArray, List.set_cons_zero, List.set_cons_succ, al, ao]
             rfl
            refine aq (i := 29) (N := some 93) (v := undef) (a' := ?_) #[true, true, true, true, true, true, true, true, true, true, true, true, true, true, true, true, true, true, true, true, true, true, true, true, true, true, true, true, true, true, false] rfl rfl (ak HT_.out (by kernel_rfl)) (fun _ _ _ h => h) (Or.inr ⟨by rfl, rfl⟩) ?_ ?_
            rotate_left
            ·simp only [Act.put, List.setIfInBounds_toArray, List.set_cons_zero, List.set_cons_succ, al, ao]
             rfl
            refine aq (i := 30) (N := some 94) (v := ?_) (a' := ?_) #[true, true, true, true, true, true, true, true, true, true, true, true, true, true, true, true, true, true, true, true, true, true, true, true, true, true, true, true, true, true, true] rfl rfl (ak HT_.out (by kernel_rfl)) (fun _ _ _ h => h) (Or.inl ⟨by rfl, ?_⟩) ?_ ?_
            rotate_left
            ·intro w'
             go_simp
             with_reducible rfl
            rotate_left
            ·simp only [Act.put, List.setIfInBounds_toArray, List.set_cons_zero, List.set_cons_succ, al, ao]
             rfl
            refine ew (cf HT_.out (by kernel_rfl)) ?_
            try go_wp2
            go_ret
            exact ⟨by first | rfl | (simp [am, ap] <;> rfl) | (simp [*, am, ap] <;> rfl), by repeat (first | (with_reducible first | exact HB.out | apply a6 | apply a4 | apply a5 | refine a7 ?_ bg.out) | exact HB.out)⟩
           ·rw [if_neg c42] at H
            have c42b0 : decide ((af.length : Int) ≤ (rd t184 x11_2)) = false := decide_eq_false c42
            clear c42
            by_cases c45 : x11_2 > 0
            ·rw [if_pos c45] at H
             have c45b0 : decide (0 < x11_2) = true := decide_eq_true c45
             clear c45
             obtain ⟨ji46, hji46⟩ : ∃ j_ : Int, (wrap64 (x11_2 - 1)) = j_ := ⟨_, rfl⟩
             replace H : (if 0 ≤ (ji46) then (if (ji46) < (t184.length : Int) then (if (rd t184 (ji46)) ≥ (rd t184 x11_2) then (some false) else (fastilaw15_SearchMinimal.l0 k2 a1 t184 (wrap64 (x11_2 + 1)) ai af)) else (none)) else (none)) = some r := by first | (rw [hji46] at H; exact H) | (simp only [hji46] at H ⊢; exact H)
             have hji46w : (IntKind.i64.wrap (x11_2 - 1)) = ji46 := (al _).trans hji46
             by_cases c47 : 0 ≤ (ji46)
             ·rw [if_pos c47] at H
              have c47b0 : decide (0 ≤ (ji46)) = true := decide_eq_true c47
              clear c47
              by_cases c48 : (ji46) < (t184.length : Int)
              ·rw [if_pos c48] at H
               have c48b0 : decide ((ji46) < (t184.length : Int)) = true := decide_eq_true c48
               clear c48
               by_cases c49 : (rd t184 (ji46)) ≥ (rd t184 x11_2)
               ·rw [if_pos c49] at H
                have c49b0 : decide ((rd t184 x11_2) ≤ (rd t184 (ji46))) = true := decide_eq_true c49
                clear c49
                obtain rfl := Option.some.inj H
                obtain ⟨Ao50, co50, eo50⟩ := Kd.R_slice bf.out
                subst eo50
                try go_wp2
                have n0_ := Aside0.mk (Kd.R_drew bf.out)
                have n1_ := Aside0.mk (ac ar.out)
                have n2_ := Aside0.mk (a5 HB.out)
                clear bf
                clear ar
                clear HB
                have bf := n0_
                have ar := n1_
                have HB := n2_
                clear n0_ n1_ n2_
                have p194 : 0 ≤ (x11_2 : Int) := of_decide_eq_true (by first | (with_reducible assumption) | assumption)
                have q194 : x11_2 < (t184.length : Int) := of_decide_eq_true (by first | (with_reducible assumption) | assumption)
                obtain ⟨ad194, e194, cB⟩ := Kd.at_int (Kd.R_reads' bf.out).2.2 x11_2 p194 q194
                cases e194
                replace p194 := eq_true p194
                replace q194 := eq_true q194
                have p195 : 0 ≤ (x11_2 : Int) := of_decide_eq_true (by first | (with_reducible assumption) | assumption)
                have q195 : x11_2 < (t184.length : Int) := of_decide_eq_true (by first | (with_reducible assumption) | assumption)
                obtain ⟨ad195, e195, da⟩ := Kd.at_int (Kd.R_reads' bf.out).2.2 x11_2 p195 q195
                obtain rfl : ad194 = ad195 := (by injection e195)
                replace p195 := eq_true p195
                replace q195 := eq_true q195
                have p196 : 0 ≤ ((ji46) : Int) := of_decide_eq_true (by first | (with_reducible assumption) | assumption)
                have q196 : (ji46) < (t184.length : Int) := of_decide_eq_true (by first | (with_reducible assumption) | assumption)
                obtain ⟨ad196, e196, fY⟩ := Kd.at_int (Kd.R_reads' bf.out).2.2 (ji46) p196 q196
                obtain rfl : ad194 = ad196 := (by injection e196)
                replace p196 := eq_true p196
                replace q196 := eq_true q196
                have p197 : 0 ≤ (x11_2 : Int) := of_decide_eq_true (by first | (with_reducible assumption) | assumption)
                have q197 : x11_2 < (t184.length : Int) := of_decide_eq_true (by first | (with_reducible assumption) | assumption)
                obtain ⟨ad197, e197, fZ⟩ := Kd.at_int (Kd.R_reads' bf.out).2.2 x11_2 p197 q197
                obtain rfl : ad194 = ad197 := (by injection e197)
                replace p197 := eq_true p197
                replace q197 := eq_true q197
                refine dg (n := 31) (S := fun w' => w'.cell? ⟨aZ, 0, none⟩ = some (.slice ay ai.length ax) ∧ w'.cell? ⟨aZ, 1, none⟩ = some (.slice az af.length aw) ∧ w'.cell? (ad194.add (x11_2).toNat) = some (.int .i64 (rd t184 x11_2)) ∧ w'.cell? (ad194.add (x11_2).toNat) = some (.int .i64 (rd t184 x11_2)) ∧ w'.cell? (ad194.add ((ji46)).toNat) = some (.int .i64 (rd t184 (ji46))) ∧ w'.cell? (ad194.add (x11_2).toNat) = some (.int .i64 (rd t184 x11_2))) (ds := []) #[false, false, false, false, false, false, false, false, false, false, false, false, false, false, false, false, false, false, false, false, false, false, false, false, false, false, false, false, false, false, false] (by kernel_rfl) rfl rfl ⟨(a9 ar.out 0).trans rfl, (a9 ar.out 1).trans rfl, cB, da, fY, fZ⟩ (fun hHeld => ?_); refine cm fastilaw15_SearchMinimal.tab12 fastilaw15_SearchMinimal.bits12 (fun HT_ HW_ => ?_)
                generalize wr.drew = w51 at bf ar HB cB da fY fZ hHeld ⊢
                refine aq (i := 0) (N := some 64) (v := ?_) (a' := ?_) #[true, false, false, false, false, false, false, false, false, false, false, false, false, false, false, false, false, false, false, false, false, false, false, false, false, false, false, false, false, false, false] rfl rfl (ak HT_.out (by kernel_rfl)) (fun _ _ _ h => h) (Or.inl ⟨by rfl, ?_⟩) ?_ ?_
                rotate_left
                ·intro w'
                 go_simp
                 with_reducible rfl
                rotate_left
                ·simp only [Act.put, List.setIfInBounds_toArray, List.set_cons_zero, List.set_cons_succ, al, ao]
                 rfl
                refine aq (i := 1) (N := some 65) (v := ?_) (a' := ?_) #[true, true, false, false, false, false, false, false, false, false, false, false, false, false, false, false, false, false, false, false, false, false, false, false, false, false, false, false, false, false, false] rfl rfl (ak HT_.out (by kernel_rfl)) (fun _ _ _ h => h) (Or.inl ⟨by rfl, ?_⟩) ?_ ?_
                rotate_left
                ·intro w'
                 go_simp
                 with_reducible rfl
                rotate_left
                ·simp only [Act.put, List.setIfInBounds_toArray, List.set_cons_zero, List.set_cons_succ, al, ao]
                 rfl
                refine aq (i := 2) (N := some 66) (v := ?_) (a' := ?_) #[true, true, true, false, false, false, false, false, false, false, false, false, false, false, false, false, false, false, false, false, false, false, false, false, false, false, false, false, false, false, false] rfl rfl (ak HT_.out (by kernel_rfl)) (fun _ _ _ h => h) (Or.inl ⟨by rfl, ?_⟩) ?_ ?_
                rotate_left
                ·intro w'
                 go_simp
                 with_reducible rfl
                rotate_left
                ·simp only [Act.put, List.setIfInBounds_toArray, List.set_cons_zero, List.set_cons_succ, al, ao]
                 rfl
                refine take_ (i := 3) (N := some 67) (v := ?_) (a' := ?_) #[true, true, true, true, false, false, false, false, false, false, false, false, false, false, false, false, false, false, false, false, false, false, false, false, false, false, false, false, false, false, false] rfl rfl (bc HT_.out HW_.out (by kernel_rfl)) (fun _ _ _ h => h) (Or.inl ⟨by rfl, ?_⟩) hHeld ?_ ?_
                rotate_left
                ·rintro w' ⟨s0, s1, s2, s3, s4, s5⟩
                 go_simp
                 with_reducible rfl
                rotate_left
                ·simp only [Act.put, List.setIfInBounds_toArray, List.set_cons_zero, List.set_cons_succ, al, ao]
                 rfl
                refine aq (i := 4) (N := some 68) (v := ?_) (a' := ?_) #[true, true, true, true, true, false, false, false, false, false, false, false, false, false, false, false, false, false, false, false, false, false, false, false, false, false, false, false, false, false, false] rfl rfl (ak HT_.out (by kernel_rfl)) (fun _ _ _ h => h) (Or.inl ⟨by rfl, ?_⟩) ?_ ?_
                rotate_left
                ·intro w'
                 go_simp
                 with_reducible rfl
                rotate_left
                ·simp only [Act.put, List.setIfInBounds_toArray, List.set_cons_zero, List.set_cons_succ, al, ao]
                 rfl
                refine aq (i := 5) (N := some 69) (v := ?_) (a' := ?_) #[true, true, true, true, true, true, false, false, false, false, false, false, false, false, false, false, false, false, false, false, false, false, false, false, false, false, false, false, false, false, false] rfl rfl (ak HT_.out (by kernel_rfl)) (fun _ _ _ h => h) (Or.inl ⟨by rfl, ?_⟩) ?_ ?_
                rotate_left
                ·intro w'
                 go_simp
                 with_reducible rfl
                rotate_left
                ·simp only [Act.put, List.setIfInBounds_toArray, List.set_cons_zero, List.set_cons_succ, al, ao]
                 rfl
                refine aq (i := 6) (N := some 70) (v := ?_) (a' := ?_) #[true, true, true, true, true, true, true, false, false, false, false, false, false, false, false, false, false, false, false, false, false, false, false, false, false, false, false, false, false, false, false] rfl rfl (ak HT_.out (by kernel_rfl)) (fun _ _ _ h => h) (Or.inl ⟨by rfl, ?_⟩) ?_ ?_
                rotate_left
                ·intro w'
                 go_simp
                 with_reducible rfl
                rotate_left
                ·simp only [Act.put, List.setIfInBounds_toArray, List.set_cons_zero, List.set_cons_succ, al, ao]
                 rfl
                refine aq (i := 7) (N := some 71) (v := ?_) (a' := ?_) #[true, true, true, true, true, true, true, true, false, false, false, false, false, false, false, false, false, false, false, false, false, false, false, false, false, false, false, false, false, false, false] rfl rfl (ak HT_.out (by kernel_rfl)) (fun _ _ _ h => h) (Or.inl ⟨by rfl, ?_⟩) ?_ ?_
                rotate_left
                ·intro w'
                 go_simp
                 with_reducible rfl
                rotate_left
                ·simp only [Act.put, List.setIfInBounds_toArray, List.set_cons_zero, List.set_cons_succ, al, ao]
                 rfl
                refine aq (i := 8) (N := some 72) (v := ?_) (a' := ?_) #[true, true, true, true, true, true, true, true, true, false, false, false, false, false, false, false, false, false, false, false, false, false, false, false, false, false, false, false, false, false, false] rfl rfl (ak HT_.out (by kernel_rfl)) (fun _ _ _ h => h) (Or.inl ⟨by rfl, ?_⟩) ?_ ?_
                rotate_left
                ·intro w'
                 go_simp
                 with_reducible rfl
                rotate_left
                ·simp only [Act.put, List.setIfInBounds_toArray, List.set_cons_zero, List.set_cons_succ, al, ao]
                 rfl
                refine aq (i := 10) (N := some 74) (v := ?_) (a' := ?_) #[true, true, true, true, true, true, true, true, true, false, true, false, false, false, false, false, false, false, false, false, false, false, false, false, false, false, false, false, false, false, false] rfl rfl (ak HT_.out (by kernel_rfl)) (fun _ _ _ h => h) (Or.inl ⟨by rfl, ?_⟩) ?_ ?_
                rotate_left
                ·intro w'
                 go_simp
                 with_reducible rfl
                rotate_left
                ·simp only [Act.put, List.setIfInBounds_toArray, List.set_cons_zero, List.set_cons_succ, al, ao]
                 rfl
                refine take_ (i := 9) (N := some 73) (v := ?_) (a' := ?_) #[true, true, true, true, true, true, true, true, true, true, true, false, false, false, false, false, false, false, false, false, false, false, false, false, false, false, false, false, false, false, false] rfl rfl (bc HT_.out HW_.out (by kernel_rfl)) (fun _ _ _ h => h) (Or.inl ⟨by rfl, ?_⟩) hHeld ?_ ?_
                rotate_left
                ·rintro w' ⟨s0, s1, s2, s3, s4, s5⟩
                 go_simp
                 with_reducible rfl
                rotate_left
                ·simp only [Act.put, List.setIfInBounds_toArray, List.set_cons_zero, List.set_cons_succ, al, ao]
                 rfl
                refine take_ (i := 11) (N := some 75) (v := ?_) (a' := ?_) #[true, true, true, true, true, true, true, true, true, true, true, true, false, false, false, false, false, false, false, false, false, false, false, false, false, false, false, false, false, false, false] rfl rfl (bc HT_.out HW_.out (by kernel_rfl)) (fun _ _ _ h => h) (Or.inl ⟨by rfl, ?_⟩) hHeld ?_ ?_
                rotate_left
                ·rintro w' ⟨s0, s1, s2, s3, s4, s5⟩
                 go_simp
                 with_reducible rfl
                rotate_left
                ·simp only [Act.put, List.setIfInBounds_toArray, List.set_cons_zero, List.set_cons_succ, al, ao]
                 rfl
                refine aq (i := 12) (N := some 76) (v := ?_) (a' := ?_) #[true, true, true, true, true, true, true, true, true, true, true, true, true, false, false, false, false, false, false, false, false, false, false, false, false, false, false, false, false, false, false] rfl rfl (ak HT_.out (by kernel_rfl)) (fun _ _ _ h => h) (Or.inl ⟨by rfl, ?_⟩) ?_ ?_
                rotate_left
                ·intro w'
                 go_simp
                 with_reducible rfl
                rotate_left
                ·simp only [Act.put, List.setIfInBounds_toArray, List.set_cons_zero, List.set_cons_succ, al, ao]
                 rfl
                refine aq (i := 13) (N := some 77) (v := ?_) (a' := ?_) #[true, true, true, true, true, true, true, true, true, true, true, true, true, true, false, false, false, false, false, false, false, false, false, false, false, false, false, false, false, false, false] rfl rfl (ak HT_.out (by kernel_rfl)) (fun _ _ _ h => h) (Or.inl ⟨by rfl, ?_⟩) ?_ ?_
                rotate_left
                ·intro w'
                 go_simp
                 with_reducible rfl
                rotate_left
                ·simp only [Act.put, List.setIfInBounds_toArray, List.set_cons_zero, List.set_cons_succ, al, ao]
                 rfl
                refine aq (i := 14) (N := some 78) (v := ?_) (a' := ?_) #[true, true, true, true, true, true, true, true, true, true, true, true, true, true, true, false, false, false, false, false, false, false, false, false, false, false, false, false, false, false, false] rfl rfl (ak HT_.out (by kernel_rfl)) (fun _ _ _ h => h) (Or.inl ⟨by rfl, ?_⟩) ?_ ?_
                rotate_left
                ·intro w'
                 go_simp
                 with_reducible rfl
                rotate_left
                ·simp only [Act.put, List.setIfInBounds_toArray, List.set_cons_zero, List.set_cons_succ, al, ao]
                 rfl
                refine aq (i := 15) (N := some 79) (v := ?_) (a' := ?_) #[true, true, true, true, true, true, true, true, true, true, true, true, true, true, true, true, false, false, false, false, false, false, false, false, false, false, false, false, false, false, false] rfl rfl (ak HT_.out (by kernel_rfl)) (fun _ _ _ h => h) (Or.inl ⟨by rfl, ?_⟩) ?_ ?_
                rotate_left
                ·intro w'
                 go_simp
                 with_reducible rfl
                rotate_left
                ·simp only [Act.put, List.setIfInBounds_toArray, List.set_cons_zero, List.set_cons_succ, al, ao]
                 rfl
                refine aq (i := 16) (N := some 80) (v := ?_) (a' := ?_) #[true, true, true, true, true, true, true, true, true, true, true, true, true, true, true, true, true, false, false, false, false, false, false, false, false, false, false, false, false, false, false] rfl rfl (ak HT_.out (by kernel_rfl)) (fun _ _ _ h => h) (Or.inl ⟨by rfl, ?_⟩) ?_ ?_
                rotate_left
                ·intro w'
                 go_simp
                 with_reducible rfl
                rotate_left
                ·simp only [Act.put, List.setIfInBounds_toArray, List.set_cons_zero, List.set_cons_succ, al, ao]
                 rfl
                refine aq (i := 17) (N := some 81) (v := ?_) (a' := ?_) #[true, true, true, true, true, true, true, true, true, true, true, true, true, true, true, true, true, true, false, false, false, false, false, false, false, false, false, false, false, false, false] rfl rfl (ak HT_.out (by kernel_rfl)) (fun _ _ _ h => h) (Or.inl ⟨by rfl, ?_⟩) ?_ ?_
                rotate_left
                ·intro w'
                 go_simp
                 with_reducible rfl
                rotate_left
                ·simp only [Act.put, List.setIfInBounds_toArray, List.set_cons_zero, List.set_cons_succ, al, ao]
                 rfl
                refine aq (i := 18) (N := some 82) (v := ?_) (a' := ?_) #[true, true, true, true, true, true, true, true, true, true, true, true, true, true, true, true, true, true, true, false, false, false, false, false, false, false, false, false, false, false, false] rfl rfl (ak HT_.out (by kernel_rfl)) (fun _ _ _ h => h) (Or.inl ⟨by rfl, ?_⟩) ?_ ?_
                rotate_left
                ·intro w'
                 go_simp
                 with_reducible rfl
                rotate_left
                ·simp only [Act.put, List.setIfInBounds_toArray, List.set_cons_zero, List.set_cons_succ, al, ao]
                 rfl
                refine aq (i := 19) (N := some 83) (v := ?_) (a' := ?_) #[true, true, true, true, true, true, true, true, true, true, true, true, true, true, true, true, true, true, true, true, false, false, false, false, false, false, false, false, false, false, false] rfl rfl (ak HT_.out (by kernel_rfl)) (fun _ _ _ h => h) (Or.inl ⟨by rfl, ?_⟩) ?_ ?_
                rotate_left
                ·intro w'
                 go_simp
                 with_reducible rfl
                rotate_left
                ·simp only [Act.put, List.setIfInBounds_toArray, List.set_cons_zero, List.set_cons_succ, al, ao]
                 rfl
                refine aq (i := 20) (N := some 84) (v := ?_) (a' := ?_) #[true, true, true, true, true, true, true, true, true, true, true, true, true, true, true, true, true, true, true, true, true, false, false, false, false, false, false, false, false, false, false] rfl rfl (ak HT_.out (by kernel_rfl)) (fun _ _ _ h => h) (Or.inl ⟨by rfl, ?_⟩) ?_ ?_
                rotate_left
                ·intro w'
                 go_simp
                 with_reducible rfl
                rotate_left
                ·simp only [Act.put, List.setIfInBounds_toArray, List.set_cons_zero, List.set_cons_succ, al, ao]
                 rfl
                refine aq (i := 21) (N := some 85) (v := ?_) (a' := ?_) #[true, true, true, true, true, true, true, true, true, true, true, true, true, true, true, true, true, true, true, true, true, true, false, false, false, false, false, false, false, false, false] rfl rfl (ak HT_.out (by kernel_rfl)) (fun _ _ _ h => h) (Or.inl ⟨by rfl, ?_⟩) ?_ ?_
                rotate_left
                ·intro w'
                 go_simp
                 with_reducible rfl
                rotate_left
                ·simp only [Act.put, List.setIfInBounds_toArray, List.set_cons_zero, List.set_cons_succ, al, ao]
                 rfl
                refine aq (i := 22) (N := some 86) (v := ?_) (a' := ?_) #[true, true, true, true, true, true, true, true, true, true, true, true, true, true, true, true, true, true, true, true, true, true, true, false, false, false, false, false, false, false, false] rfl rfl (ak HT_.out (by kernel_rfl)) (fun _ _ _ h => h) (Or.inl ⟨by rfl, ?_⟩) ?_ ?_
                rotate_left
                ·intro w'
                 go_simp
                 with_reducible rfl
                rotate_left
                ·simp only [Act.put, List.setIfInBounds_toArray, List.set_cons_zero, List.set_cons_succ, al, ao]
                 rfl
                refine aq (i := 24) (N := some 88) (v := ?_) (a' := ?_) #[true, true, true, true, true, true, true, true, true, true, true, true, true, true, true, true, true, true, true, true, true, true, true, false, true, false, false, false, false, false, false] rfl rfl (ak HT_.out (by kernel_rfl)) (fun _ _ _ h => h) (Or.inl ⟨by rfl, ?_⟩) ?_ ?_
                rotate_left
                ·intro w'
                 go_simp
                 with_reducible rfl
                rotate_left
                ·simp only [Act.put, List.setIfInBounds_toArray, List.set_cons_zero, List.set_cons_succ, al, ao]
                 rfl
                refine aq (i := 25) (N := some 89) (v := ?_) (a' := ?_) #[true, true, true, true, true, true, true, true, true, true, true, true, true, true, true, true, true, true, true, true, true, true, true, false, true, true, false, false, false, false, false] rfl rfl (ak HT_.out (by kernel_rfl)) (fun _ _ _ h => h) (Or.inl ⟨by rfl, ?_⟩) ?_ ?_
                rotate_left
                ·intro w'
                 go_simp
                 with_reducible rfl
                rotate_left
                ·simp only [Act.put, List.setIfInBounds_toArray, List.set_cons_zero, List.set_cons_succ, al, ao]
                 rfl
                refine aq (i := 26) (N := some 90) (v := ?_) (a' := ?_) #[true, true, true, true, true, true, true, true, true, true, true, true, true, true, true, true, true, true, true, true, true, true, true, false, true, true, true, false, false, false, false] rfl rfl (ak HT_.out (by kernel_rfl)) (fun _ _ _ h => h) (Or.inl ⟨by rfl, ?_⟩) ?_ ?_
                rotate_left
                ·intro w'
                 go_simp
                 with_reducible rfl
                rotate_left
                ·simp only [Act.put, List.setIfInBounds_toArray, List.set_cons_zero, List.set_cons_succ, al, ao]
                 rfl
                refine take_ (i := 23) (N := some 87) (v := ?_) (a' := ?_) #[true, true, true, true, true, true, true, true, true, true, true, true, true, true, true, true, true, true, true, true, true, true, true, true, true, true, true, false, false, false, false] rfl rfl (bc HT_.out HW_.out (by kernel_rfl)) (fun _ _ _ h => h) (Or.inl ⟨by rfl, ?_⟩) hHeld ?_ ?_
                rotate_left
                ·rintro w' ⟨s0, s1, s2, s3, s4, s5⟩
                 go_simp
                 with_reducible rfl
                rotate_left
                ·simp only [Act.put, List.setIfInBounds_toArray, List.set_cons_zero, List.set_cons_succ, al, ao]
                 rfl
                refine take_ (i := 27) (N := some 91) (v := ?_) (a' := ?_) #[true, true, true, true, true, true, true, true, true, true, true, true, true, true, true, true, true, true, true, true, true, true, true, true, true, true, true, true, false, false, false] rfl rfl (bc HT_.out HW_.out (by kernel_rfl)) (fun _ _ _ h => h) (Or.inl ⟨by rfl, ?_⟩) hHeld ?_ ?_
                rotate_left
                ·rintro w' ⟨s0, s1, s2, s3, s4, s5⟩
                 go_simp
                 with_reducible rfl
                rotate_left
                ·simp only [Act.put, List.setIfInBounds_toArray, List.set_cons_zero, List.set_cons_succ, al, ao]
                 rfl
                refine aq (i := 28) (N := some 92) (v := ?_) (a' := ?_) #[true, true, true, true, true, true, true, true, true, true, true, true, true, true, true, true, true, true, true, true, true, true, true, true, true, true, true, true, true, false, false] rfl rfl (ak HT_.out (by kernel_rfl)) (fun _ _ _ h => h) (Or.inl ⟨by rfl, ?_⟩) ?_ ?_
                rotate_left
                ·intro w'
                 go_simp
                 with_reducible rfl
                rotate_left
                ·simp only [Act.put, List.setIfInBounds_toArray, List.set_cons_zero, List.set_cons_succ, al, ao]
                 rfl
                refine aq (i := 29) (N := some 93) (v := ?_) (a' := ?_) #[true, true, true, true, true, true, true, true, true, true, true, true, true, true, true, true, true, true, true, true, true, true, true, true, true, true, true, true, true, true, false] rfl rfl (ak HT_.out (by kernel_rfl)) (fun _ _ _ h => h) (Or.inl ⟨by rfl, ?_⟩) ?_ ?_
                rotate_left
                ·intro w'
                 go_simp
                 with_reducible rfl
                rotate_left
                ·simp only [Act.put, List.setIfInBounds_toArray, List.set_cons_zero, List.set_cons_succ, al, ao]
                 rfl
                refine aq (i := 30) (N := some 94) (v := ?_) (a' := ?_) #[true, true, true, true, true, true, true, true, true, true, true, true, true, true, true, true, true, true, true, true, true, true, true, true, true, true, true, true, true, true, true] rfl rfl (ak HT_.out (by kernel_rfl)) (fun _ _ _ h => h) (Or.inl ⟨by rfl, ?_⟩) ?_ ?_
                rotate_left
                ·intro w'
                 go_simp
                 with_reducible rfl
                rotate_left
                ·simp only [Act.put, List.setIfInBounds_toArray, List.set_cons_zero, List.set_cons_succ, al, ao]
                 rfl
                refine ew (cf HT_.out (by kernel_rfl)) ?_
                try go_wp2
                go_ret
                exact ⟨by first | rfl | (simp [am, ap] <;> rfl) | (simp only [← hji46]; first | rfl | (simp [am, ap] <;> rfl)) | (simp [*, am, ap] <;> rfl), by repeat (first | (with_reducible first | exact HB.out | apply a6 | apply a4 | apply a5 | refine a7 ?_ bg.out) | exact HB.out)⟩
               ·rw [if_neg c49] at H
                have c49b0 : decide ((rd t184 x11_2) ≤ (rd t184 (ji46))) = false := decide_eq_false c49
                clear c49
                have H' := Aside0.mk H
                clear H
                obtain ⟨Ao52, co52, eo52⟩ := Kd.R_slice bf.out
                subst eo52
                try go_wp2
                have n0_ := Aside0.mk (Kd.R_drew bf.out)
                have n1_ := Aside0.mk (ac ar.out)
                have n2_ := Aside0.mk (a5 HB.out)
                clear bf
                clear ar
                clear HB
                have bf := n0_
                have ar := n1_
                have HB := n2_
                clear n0_ n1_ n2_
                have p194 : 0 ≤ (x11_2 : Int) := of_decide_eq_true (by first | (with_reducible assumption) | assumption)
                have q194 : x11_2 < (t184.length : Int) := of_decide_eq_true (by first | (with_reducible assumption) | assumption)
                obtain ⟨ad194, e194, cB⟩ := Kd.at_int (Kd.R_reads' bf.out).2.2 x11_2 p194 q194
                cases e194
                replace p194 := eq_true p194
                replace q194 := eq_true q194
                have p195 : 0 ≤ (x11_2 : Int) := of_decide_eq_true (by first | (with_reducible assumption) | assumption)
                have q195 : x11_2 < (t184.length : Int) := of_decide_eq_true (by first | (with_reducible assumption) | assumption)
                obtain ⟨ad195, e195, da⟩ := Kd.at_int (Kd.R_reads' bf.out).2.2 x11_2 p195 q195
                obtain rfl : ad194 = ad195 := (by injection e195)
                replace p195 := eq_true p195
                replace q195 := eq_true q195
                have p196 : 0 ≤ ((ji46) : Int) := of_decide_eq_true (by first | (with_reducible assumption) | assumption)
                have q196 : (ji46) < (t184.length : Int) := of_decide_eq_true (by first | (with_reducible assumption) | assumption)
                obtain ⟨ad196, e196, fY⟩ := Kd.at_int (Kd.R_reads' bf.out).2.2 (ji46) p196 q196
                obtain rfl : ad194 = ad196 := (by injection e196)
                replace p196 := eq_true p196
                replace q196 := eq_true q196
                have p197 : 0 ≤ (x11_2 : Int) := of_decide_eq_true (by first | (with_reducible assumption) | assumption)
                have q197 : x11_2 < (t184.length : Int) := of_decide_eq_true (by first | (with_reducible assumption) | assumption)
                obtain ⟨ad197, e197, fZ⟩ := Kd.at_int (Kd.R_reads' bf.out).2.2 x11_2 p197 q197
                obtain rfl : ad194 = ad197 := (by injection e197)
                replace p197 := eq_true p197
                replace q197 := eq_true q197
                refine dg (n := 31) (S := fun w' => w'.cell? ⟨aZ, 0, none⟩ = some (.slice ay ai.length ax) ∧ w'.cell? ⟨aZ, 1, none⟩ = some (.slice az af.length aw) ∧ w'.cell? (ad194.add (x11_2).toNat) = some (.int .i64 (rd t184 x11_2)) ∧ w'.cell? (ad194.add (x11_2).toNat) = some (.int .i64 (rd t184 x11_2)) ∧ w'.cell? (ad194.add ((ji46)).toNat) = some (.int .i64 (rd t184 (ji46))) ∧ w'.cell? (ad194.add (x11_2).toNat) = some (.int .i64 (rd t184 x11_2))) (ds := []) #[false, false, false, false, false, false, false, false, false, false, false, false, false, false, false, false, false, false, false, false, false, false, false, false, false, false, false, false, false, false, false] (by kernel_rfl) rfl rfl ⟨(a9 ar.out 0).trans rfl, (a9 ar.out 1).trans rfl, cB, da, fY, fZ⟩ (fun hHeld => ?_); refine cm fastilaw15_SearchMinimal.tab12 fastilaw15_SearchMinimal.bits12 (fun HT_ HW_ => ?_)
                generalize wr.drew = w53 at bf ar HB cB da fY fZ hHeld ⊢
                refine aq (i := 0) (N := some 64) (v := ?_) (a' := ?_) #[true, false, false, false, false, false, false, false, false, false, false, false, false, false, false, false, false, false, false, false, false, false, false, false, false, false, false, false, false, false, false] rfl rfl (ak HT_.out (by kernel_rfl)) (fun _ _ _ h => h) (Or.inl ⟨by rfl, ?_⟩) ?_ ?_
                rotate_left
                ·intro w'
                 go_simp
                 with_reducible rfl
                rotate_left
                ·simp only [Act.put, List.setIfInBounds_toArray, List.set_cons_zero, List.set_cons_succ, al, ao]
                 rfl
                refine aq (i := 1) (N := some 65) (v := ?_) (a' := ?_) #[true, true, false, false, false, false, false, false, false, false, false, false, false, false, false, false, false, false, false, false, false, false, false, false, false, false, false, false, false, false, false] rfl rfl (ak HT_.out (by kernel_rfl)) (fun _ _ _ h => h) (Or.inl ⟨by rfl, ?_⟩) ?_ ?_
                rotate_left
                ·intro w'
                 go_simp
                 with_reducible rfl
                rotate_left
                ·simp only [Act.put, List.setIfInBounds_toArray, List.set_cons_zero, List.set_cons_succ, al, ao]
                 rfl
                refine aq (i := 2) (N := some 66) (v := ?_) (a' := ?_) #[true, true, true, false, false, false, false, false, false, false, false, false, false, false, false, false, false, false, false, false, false, false, false, false, false, false, false, false, false, false, false] rfl rfl (ak HT_.out (by kernel_rfl)) (fun _ _ _ h => h) (Or.inl ⟨by rfl, ?_⟩) ?_ ?_
                rotate_left
                ·intro w'
                 go_simp
                 with_reducible rfl
                rotate_left
                ·simp only [Act.put, List.setIfInBounds_toArray, List.set_cons_zero, List.set_cons_succ, al, ao]
                 rfl
                refine take_ (i := 3) (N := some 67) (v := ?_) (a' := ?_) #[true, true, true, true, false, false, false, false, false, false, false, false, false, false, false, false, false, false, false, false, false, false, false, false, false, false, false, false, false, false, false] rfl rfl (bc HT_.out HW_.out (by kernel_rfl)) (fun _ _ _ h => h) (Or.inl ⟨by rfl, ?_⟩) hHeld ?_ ?_
                rotate_left
                ·rintro w' ⟨s0, s1, s2, s3, s4, s5⟩
                 go_simp
                 with_reducible rfl
                rotate_left
                ·simp only [Act.put, List.setIfInBounds_toArray, List.set_cons_zero, List.set_cons_succ, al, ao]
                 rfl
                refine aq (i := 4) (N := some 68) (v := ?_) (a' := ?_) #[true, true, true, true, true, false, false, false, false, false, false, false, false, false, false, false, false, false, false, false, false, false, false, false, false, false, false, false, false, false, false] rfl rfl (ak HT_.out (by kernel_rfl)) (fun _ _ _ h => h) (Or.inl ⟨by rfl, ?_⟩) ?_ ?_
                rotate_left
                ·intro w'
                 go_simp
                 with_reducible rfl
                rotate_left
                ·simp only [Act.put, List.setIfInBounds_toArray, List.set_cons_zero, List.set_cons_succ, al, ao]
                 rfl
                refine aq (i := 5) (N := some 69) (v := ?_) (a' := ?_) #[true, true, true, true, true, true, false, false, false, false, false, false, false, false, false, false, false, false, false, false, false, false, false, false, false, false, false, false, false, false, false] rfl rfl (ak HT_.out (by kernel_rfl)) (fun _ _ _ h => h) (Or.inl ⟨by rfl, ?_⟩) ?_ ?_
                rotate_left
                ·intro w'
                 go_simp
                 with_reducible rfl
                rotate_left
                ·simp only [Act.put, List.setIfInBounds_toArray, List.set_cons_zero, List.set_cons_succ, al, ao]
                 rfl
                refine aq (i := 6) (N := some 70) (v := ?_) (a' := ?_) #[true, true, true, true, true, true, true, false, false, false, false, false, false, false, false, false, false, false, false, false, false, false, false, false, false, false, false, false, false, false, false] rfl rfl (ak HT_.out (by kernel_rfl)) (fun _ _ _ h => h) (Or.inl ⟨by rfl, ?_⟩) ?_ ?_
                rotate_left
                ·intro w'
                 go_simp
                 with_reducible rfl
                rotate_left
                ·simp only [Act.put, List.setIfInBounds_toArray, List.set_cons_zero, List.set_cons_succ, al, ao]
                 rfl
                refine aq (i := 7) (N := some 71) (v := ?_) (a' := ?_) #[true, true, true, true, true, true, true, true, false, false, false, false, false, false, false, false, false, false, false, false, false, false, false, false, false, false, false, false, false, false, false] rfl rfl (ak HT_.out (by kernel_rfl)) (fun _ _ _ h => h) (Or.inl ⟨by rfl, ?_⟩) ?_ ?_
                rotate_left
                ·intro w'
                 go_simp
                 with_reducible rfl
                rotate_left
                ·simp only [Act.put, List.setIfInBounds_toArray, List.set_cons_zero, List.set_cons_succ, al, ao]
                 rfl
                refine aq (i := 8) (N := some 72) (v := ?_) (a' := ?_) #[true, true, true, true, true, true, true, true, true, false, false, false, false, false, false, false, false, false, false, false, false, false, false, false, false, false, false, false, false, false, false] rfl rfl (ak HT_.out (by kernel_rfl)) (fun _ _ _ h => h) (Or.inl ⟨by rfl, ?_⟩) ?_ ?_
                rotate_left
                ·intro w'
                 go_simp
                 with_reducible rfl
                rotate_left
                ·simp only [Act.put, List.setIfInBounds_toArray, List.set_cons_zero, List.set_cons_succ, al, ao]
                 rfl
                refine aq (i := 10) (N := some 74) (v := ?_) (a' := ?_) #[true, true, true, true, true, true, true, true, true, false, true, false, false, false, false, false, false, false, false, false, false, false, false, false, false, false, false, false, false, false, false] rfl rfl (ak HT_.out (by kernel_rfl)) (fun _ _ _ h => h) (Or.inl ⟨by rfl, ?_⟩) ?_ ?_
                rotate_left
                ·intro w'
                 go_simp
                 with_reducible rfl
                rotate_left
                ·simp only [Act.put, List.setIfInBounds_toArray, List.set_cons_zero, List.set_cons_succ, al, ao]
                 rfl
                refine take_ (i := 9) (N := some 73) (v := ?_) (a' := ?_) #[true, true, true, true, true, true, true, true, true, true, true, false, false, false, false, false, false, false, false, false, false, false, false, false, false, false, false, false, false, false, false] rfl rfl (bc HT_.out HW_.out (by kernel_rfl)) (fun _ _ _ h => h) (Or.inl ⟨by rfl, ?_⟩) hHeld ?_ ?_
                rotate_left
                ·rintro w' ⟨s0, s1, s2, s3, s4, s5⟩
                 go_simp
                 with_reducible rfl
                rotate_left
                ·simp only [Act.put, List.setIfInBounds_toArray, List.set_cons_zero, List.set_cons_succ, al, ao]
                 rfl
                refine take_ (i := 11) (N := some 75) (v := ?_) (a' := ?_) #[true, true, true, true, true, true, true, true, true, true, true, true, false, false, false, false, false, false, false, false, false, false, false, false, false, false, false, false, false, false, false] rfl rfl (bc HT_.out HW_.out (by kernel_rfl)) (fun _ _ _ h => h) (Or.inl ⟨by rfl, ?_⟩) hHeld ?_ ?_
                rotate_left
                ·rintro w' ⟨s0, s1, s2, s3, s4, s5⟩
                 go_simp
                 with_reducible rfl
                rotate_left
                ·simp only [Act.put, List.setIfInBounds_toArray, List.set_cons_zero, List.set_cons_succ, al, ao]
                 rfl
                refine aq (i := 12) (N := some 76) (v := ?_) (a' := ?_) #[true, true, true, true, true, true, true, true, true, true, true, true, true, false, false, false, false, false, false, false, false, false, false, false, false, false, false, false, false, false, false] rfl rfl (ak HT_.out (by kernel_rfl)) (fun _ _ _ h => h) (Or.inl ⟨by rfl, ?_⟩) ?_ ?_
                rotate_left
                ·intro w'
                 go_simp
                 with_reducible rfl
                rotate_left
                ·simp only [Act.put, List.setIfInBounds_toArray, List.set_cons_zero, List.set_cons_succ, al, ao]
                 rfl
                refine aq (i := 13) (N := some 77) (v := ?_) (a' := ?_) #[true, true, true, true, true, true, true, true, true, true, true, true, true, true, false, false, false, false, false, false, false, false, false, false, false, false, false, false, false, false, false] rfl rfl (ak HT_.out (by kernel_rfl)) (fun _ _ _ h => h) (Or.inl ⟨by rfl, ?_⟩) ?_ ?_
                rotate_left
                ·intro w'
                 go_simp
                 with_reducible rfl
                rotate_left
                ·simp only [Act.put, List.setIfInBounds_toArray, List.set_cons_zero, List.set_cons_succ, al, ao]
                 rfl
                refine aq (i := 14) (N := some 78) (v := ?_) (a' := ?_) #[true, true, true, true, true, true, true, true, true, true, true, true, true, true, true, false, false, false, false, false, false, false, false, false, false, false, false, false, false, false, false] rfl rfl (ak HT_.out (by kernel_rfl)) (fun _ _ _ h => h) (Or.inl ⟨by rfl, ?_⟩) ?_ ?_
                rotate_left
                ·intro w'
                 go_simp
                 with_reducible rfl
                rotate_left
                ·simp only [Act.put, List.setIfInBounds_toArray, List.set_cons_zero, List.set_cons_succ, al, ao]
                 rfl
                refine aq (i := 15) (N := some 79) (v := ?_) (a' := ?_) #[true, true, true, true, true, true, true, true, true, true, true, true, true, true, true, true, false, false, false, false, false, false, false, false, false, false, false, false, false, false, false] rfl rfl (ak HT_.out (by kernel_rfl)) (fun _ _ _ h => h) (Or.inl ⟨by rfl, ?_⟩) ?_ ?_
                rotate_left
                ·intro w'
                 go_simp
                 with_reducible rfl
                rotate_left
                ·simp only [Act.put, List.setIfInBounds_toArray, List.set_cons_zero, List.set_cons_succ, al, ao]
                 rfl
                refine aq (i := 16) (N := some 80) (v := ?_) (a' := ?_) #[true, true, true, true, true, true, true, true, true, true, true, true, true, true, true, true, true, false, false, false, false, false, false, false, false, false, false, false, false, false, false] rfl rfl (ak HT_.out (by kernel_rfl)) (fun _ _ _ h => h) (Or.inl ⟨by rfl, ?_⟩) ?_ ?_
                rotate_left
                ·intro w'
                 go_simp
                 with_reducible rfl
                rotate_left
                ·simp only [Act.put, List.setIfInBounds_toArray, List.set_cons_zero, List.set_cons_succ, al, ao]
                 rfl
                refine aq (i := 17) (N := some 81) (v := ?_) (a' := ?_) #[true, true, true, true, true, true, true, true, true, true, true, true, true, true, true, true, true, true, false, false, false, false, false, false, false, false, false, false, false, false, false] rfl rfl (ak HT_.out (by kernel_rfl)) (fun _ _ _ h => h) (Or.inl ⟨by rfl, ?_⟩) ?_ ?_
                rotate_left
                ·intro w'
                 go_simp
                 with_reducible rfl
                rotate_left
                ·simp only [Act.put, List.setIfInBounds_toArray, List.set_cons_zero, List.set_cons_succ, al, ao]
                 rfl
                refine aq (i := 18) (N := some 82) (v := ?_) (a' := ?_) #[true, true, true, true, true, true, true, true, true, true, true, true, true, true, true, true, true, true, true, false, false, false, false, false, false, false, false, false, false, false, false] rfl rfl (ak HT_.out (by kernel_rfl)) (fun _ _ _ h => h) (Or.inl ⟨by rfl, ?_⟩) ?_ ?_
                rotate_left
                ·intro w'
                 go_simp
                 with_reducible rfl
                rotate_left
                ·simp only [Act.put, List.setIfInBounds_toArray, List.set_cons_zero, List.set_cons_succ, al, ao]
                 rfl
                refine aq (i := 19) (N := some 83) (v := ?_) (a' := ?_) #[true, true, true, true, true, true, true, true, true, true, true, true, true, true, true, true, true, true, true, true, false, false, false, false, false, false, false, false, false, false, false] rfl rfl (ak HT_.out (by kernel_rfl)) (fun _ _ _ h => h) (Or.inl ⟨by rfl, ?_⟩) ?_ ?_
                rotate_left
                ·intro w'
                 go_simp
                 with_reducible rfl
                rotate_left
                ·simp only [Act.put, List.setIfInBounds_toArray, List.set_cons_zero, List.set_cons_succ, al, ao]
                 rfl
                refine aq (i := 20) (N := some 84) (v := ?_) (a' := ?_) #[true, true, true, true, true, true, true, true, true, true, true, true, true, true, true, true, true, true, true, true, true, false, false, false, false, false, false, false, false, false, false] rfl rfl (ak HT_.out (by kernel_rfl)) (fun _ _ _ h => h) (Or.inl ⟨by rfl, ?_⟩) ?_ ?_
                rotate_left
                ·intro w'
                 go_simp
                 with_reducible rfl
                rotate_left
                ·simp only [Act.put, List.setIfInBounds_toArray, List.set_cons_zero, List.set_cons_succ, al, ao]
                 rfl
                refine aq (i := 21) (N := some 85) (v := ?_) (a' := ?_) #[true, true, true, true, true, true, true, true, true, true, true, true, true, true, true, true, true, true, true, true, true, true, false, false, false, false, false, false, false, false, false] rfl rfl (ak HT_.out (by kernel_rfl)) (fun _ _ _ h => h) (Or.inl ⟨by rfl, ?_⟩) ?_ ?_
                rotate_left
                ·intro w'
                 go_simp
                 with_reducible rfl
                rotate_left
                ·simp only [Act.put, List.setIfInBounds_toArray, List.set_cons_zero, List.set_cons_succ, al, ao]
                 rfl
                refine aq (i := 22) (N := some 86) (v := ?_) (a' := ?_) #[true, true, true, true, true, true, true, true, true, true, true, true, true, true, true, true, true, true, true, true, true, true, true, false, false, false, false, false, false, false, false] rfl rfl (ak HT_.out (by kernel_rfl)) (fun _ _ _ h => h) (Or.inl ⟨by rfl, ?_⟩) ?_ ?_
                rotate_left
                ·intro w'
                 go_simp
                 with_reducible rfl
                rotate_left
                ·simp only [Act.put, List.setIfInBounds_toArray, List.set_cons_zero, List.set_cons_succ, al, ao]
                 rfl
                refine aq (i := 24) (N := some 88) (v := ?_) (a' := ?_) #[true, true, true, true, true, true, true, true, true, true, true, true, true, true, true, true, true, true, true, true, true, true, true, false, true, false, false, false, false, false, false] rfl rfl (ak HT_.out (by kernel_rfl)) (fun _ _ _ h => h) (Or.inl ⟨by rfl, ?_⟩) ?_ ?_
                rotate_left
                ·intro w'
                 go_simp
                 with_reducible rfl
                rotate_left
                ·simp only [Act.put, List.setIfInBounds_toArray, List.set_cons_zero, List.set_cons_succ, al, ao]
                 rfl
                refine aq (i := 25) (N := some 89) (v := ?_) (a' := ?_) #[true, true, true, true, true, true, true, true, true, true, true, true, true, true, true, true, true, true, true, true, true, true, true, false, true, true, false, false, false, false, false] rfl rfl (ak HT_.out (by kernel_rfl)) (fun _ _ _ h => h) (Or.inl ⟨by rfl, ?_⟩) ?_ ?_
                rotate_left
                ·intro w'
                 go_simp
                 with_reducible rfl
                rotate_left
                ·simp only [Act.put, List.setIfInBounds_toArray, List.set_cons_zero, List.set_cons_succ, al, ao]
                 rfl
                refine aq (i := 26) (N := some 90) (v := ?_) (a' := ?_) #[true, true, true, true, true, true, true, true, true, true, true, true, true, true, true, true, true, true, true, true, true, true, true, false, true, true, true, false, false, false, false] rfl rfl (ak HT_.out (by kernel_rfl)) (fun _ _ _ h => h) (Or.inl ⟨by rfl, ?_⟩) ?_ ?_
                rotate_left
                ·intro w'
                 go_simp
                 with_reducible rfl
                rotate_left
                ·simp only [Act.put, List.setIfInBounds_toArray, List.set_cons_zero, List.set_cons_succ, al, ao]
                 rfl
                refine take_ (i := 23) (N := some 87) (v := ?_) (a' := ?_) #[true, true, true, true, true, true, true, true, true, true, true, true, true, true, true, true, true, true, true, true, true, true, true, true, true, true, true, false, false, false, false] rfl rfl (bc HT_.out HW_.out (by kernel_rfl)) (fun _ _ _ h => h) (Or.inl ⟨by rfl, ?_⟩) hHeld ?_ ?_
                rotate_left
                ·rintro w' ⟨s0, s1, s2, s3, s4, s5⟩
                 go_simp
                 with_reducible rfl
                rotate_left
                ·simp only [Act.put, List.setIfInBounds_toArray, List.set_cons_zero, List.set_cons_succ, al, ao]
                 rfl
                refine take_ (i := 27) (N := some 91) (v := ?_) (a' := ?_) #[true, true, true, true, true, true, true, true, true, true, true, true, true, true, true, true, true, true, true, true, true, true, true, true, true, true, true, true, false, false, false] rfl rfl (bc HT_.out HW_.out (by kernel_rfl)) (fun _ _ _ h => h) (Or.inl ⟨by rfl, ?_⟩) hHeld ?_ ?_
                rotate_left
                ·rintro w' ⟨s0, s1, s2, s3, s4, s5⟩
                 go_simp
                 with_reducible rfl
                rotate_left
                ·simp only [Act.put, List.setIfInBounds_toArray, List.set_cons_zero, List.set_cons_succ, al, ao]
                 rfl
                refine aq (i := 28) (N := some 92) (v := ?_) (a' := ?_) #[true, true, true, true, true, true, true, true, true, true, true, true, true, true, true, true, true, true, true, true, true, true, true, true, true, true, true, true, true, false, false] rfl rfl (ak HT_.out (by kernel_rfl)) (fun _ _ _ h => h) (Or.inl ⟨by rfl, ?_⟩) ?_ ?_
                rotate_left
                ·intro w'
                 go_simp
                 with_reducible rfl
                rotate_left
                ·simp only [Act.put, List.setIfInBounds_toArray, List.set_cons_zero, List.set_cons_succ, al, ao]
                 rfl
                refine aq (i := 29) (N := some 93) (v := ?_) (a' := ?_) #[true, true, true, true, true, true, true, true, true, true, true, true, true, true, true, true, true, true, true, true, true, true, true, true, true, true, true, true, true, true, false] rfl rfl (ak HT_.out (by kernel_rfl)) (fun _ _ _ h => h) (Or.inl ⟨by rfl, ?_⟩) ?_ ?_
                rotate_left
                ·intro w'
                 go_simp
                 with_reducible rfl
                rotate_left
                ·simp only [Act.put, List.setIfInBounds_toArray, List.set_cons_zero, List.set_cons_succ, al, ao]
                 rfl
                refine aq (i := 30) (N := some 94) (v := ?_) (a' := ?_) #[true, true, true, true, true, true, true, true, true, true, true, true, true, true, true, true, true, true, true, true, true, true, true, true, true, true, true, true, true, true, true] rfl rfl (ak HT_.out (by kernel_rfl)) (fun _ _ _ h => h) (Or.inl ⟨by rfl, ?_⟩) ?_ ?_
                rotate_left
                ·intro w'
                 go_simp
                 with_reducible rfl
                rotate_left
                ·simp only [Act.put, List.setIfInBounds_toArray, List.set_cons_zero, List.set_cons_succ, al, ao]
                 rfl
                refine ew (cf HT_.out (by kernel_rfl)) ?_
                try go_wp2
                go_roundg k2
                case measure => have := HJ7.out; have := HK2.out; omega
                case rel => exact ⟨(wrap64 (x11_2 + 1)), (by first | rfl | (simp; done) | (simp [*]; done)), H', ⟨by have := HJ7.out; have := HK2.out; omega⟩, ⟨by (with_reducible repeat (first | apply Kd.R_alloc | apply Kd.R_drewN | apply Kd.R_drew)); exact bf.out⟩, ⟨by (with_reducible repeat (first | refine aa ?_ _ | refine ac ?_ | refine a8 ?_ _)); exact ar.out⟩, ⟨by repeat (first | (with_reducible first | exact HB.out | apply a6 | apply a4 | apply a5 | refine a7 ?_ bg.out) | exact HB.out)⟩⟩
              ·rw [if_neg c48] at H
               exact absurd H (by simp)
             ·rw [if_neg c47] at H
              exact absurd H (by simp)
            ·rw [if_neg c45] at H
             have c45b0 : decide (0 < x11_2) = false := decide_eq_false c45
             clear c45
             have H' := Aside0.mk H
             clear H
             obtain ⟨Ao54, co54, eo54⟩ := Kd.R_slice bf.out
             subst eo54
             try go_wp2
             have n0_ := Aside0.mk (Kd.R_drew bf.out)
             have n1_ := Aside0.mk (ac ar.out)
             have n2_ := Aside0.mk (a5 HB.out)
             clear bf
             clear ar
             clear HB
             have bf := n0_
             have ar := n1_
             have HB := n2_
             clear n0_ n1_ n2_
             have p194 : 0 ≤ (x11_2 : Int) := of_decide_eq_true (by first | (with_reducible assumption) | assumption)
             have q194 : x11_2 < (t184.length : Int) := of_decide_eq_true (by first | (with_reducible assumption) | assumption)
             obtain ⟨ad194, e194, cB⟩ := Kd.at_int (Kd.R_reads' bf.out).2.2 x11_2 p194 q194
             cases e194
             replace p194 := eq_true p194
             replace q194 := eq_true q194
             have p195 : 0 ≤ (x11_2 : Int) := of_decide_eq_true (by first | (with_reducible assumption) | assumption)
             have q195 : x11_2 < (t184.length : Int) := of_decide_eq_true (by first | (with_reducible assumption) | assumption)
             obtain ⟨ad195, e195, da⟩ := Kd.at_int (Kd.R_reads' bf.out).2.2 x11_2 p195 q195
             obtain rfl : ad194 = ad195 := (by injection e195)
             replace p195 := eq_true p195
             replace q195 := eq_true q195
             refine dg (n := 31) (S := fun w' => w'.cell? ⟨aZ, 0, none⟩ = some (.slice ay ai.length ax) ∧ w'.cell? ⟨aZ, 1, none⟩ = some (.slice az af.length aw) ∧ w'.cell? (ad194.add (x11_2).toNat) = some (.int .i64 (rd t184 x11_2)) ∧ w'.cell? (ad194.add (x11_2).toNat) = some (.int .i64 (rd t184 x11_2))) (ds := []) #[false, false, false, false, false, false, false, false, false, false, false, false, false, false, false, false, false, false, false, false, false, false, false, false, false, false, false, false, false, false, false] (by kernel_rfl) rfl rfl ⟨(a9 ar.out 0).trans rfl, (a9 ar.out 1).trans rfl, cB, da⟩ (fun hHeld => ?_); refine cm fastilaw15_SearchMinimal.tab12 fastilaw15_SearchMinimal.bits12 (fun HT_ HW_ => ?_)
             generalize wr.drew = w55 at bf ar HB cB da hHeld ⊢
             refine aq (i := 0) (N := some 64) (v := ?_) (a' := ?_) #[true, false, false, false, false, false, false, false, false, false, false, false, false, false, false, false, false, false, false, false, false, false, false, false, false, false, false, false, false, false, false] rfl rfl (ak HT_.out (by kernel_rfl)) (fun _ _ _ h => h) (Or.inl ⟨by rfl, ?_⟩) ?_ ?_
             rotate_left
             ·intro w'
              go_simp
              with_reducible rfl
             rotate_left
             ·simp only [Act.put, List.setIfInBounds_toArray, List.set_cons_zero, List.set_cons_succ, al, ao]
              rfl
             refine aq (i := 1) (N := some 65) (v := ?_) (a' := ?_) #[true, true, false, false, false, false, false, false, false, false, false, false, false, false, false, false, false, false, false, false, false, false, false, false, false, false, false, false, false, false, false] rfl rfl (ak HT_.out (by kernel_rfl)) (fun _ _ _ h => h) (Or.inl ⟨by rfl, ?_⟩) ?_ ?_
             rotate_left
             ·intro w'
              go_simp
              with_reducible rfl
             rotate_left
             ·simp only [Act.put, List.setIfInBounds_toArray, List.set_cons_zero, List.set_cons_succ, al, ao]
              rfl
             refine aq (i := 2) (N := some 66) (v := ?_) (a' := ?_) #[true, true, true, false, false, false, false, false, false, false, false, false, false, false, false, false, false, false, false, false, false, false, false, false, false, false, false, false, false, false, false] rfl rfl (ak HT_.out (by kernel_rfl)) (fun _ _ _ h => h) (Or.inl ⟨by rfl, ?_⟩) ?_ ?_
             rotate_left
             ·intro w'
              go_simp
              with_reducible rfl
             rotate_left
             ·simp only [Act.put, List.setIfInBounds_toArray, List.set_cons_zero, List.set_cons_succ, al, ao]
              rfl
             refine take_ (i := 3) (N := some 67) (v := ?_) (a' := ?_) #[true, true, true, true, false, false, false, false, false, false, false, false, false, false, false, false, false, false, false, false, false, false, false, false, false, false, false, false, false, false, false] rfl rfl (bc HT_.out HW_.out (by kernel_rfl)) (fun _ _ _ h => h) (Or.inl ⟨by rfl, ?_⟩) hHeld ?_ ?_
             rotate_left
             ·rintro w' ⟨s0, s1, s2, s3⟩
              go_simp
              with_reducible rfl
             rotate_left
             ·simp only [Act.put, List.setIfInBounds_toArray, List.set_cons_zero, List.set_cons_succ, al, ao]
              rfl
             refine aq (i := 4) (N := some 68) (v := ?_) (a' := ?_) #[true, true, true, true, true, false, false, false, false, false, false, false, false, false, false, false, false, false, false, false, false, false, false, false, false, false, false, false, false, false, false] rfl rfl (ak HT_.out (by kernel_rfl)) (fun _ _ _ h => h) (Or.inl ⟨by rfl, ?_⟩) ?_ ?_
             rotate_left
             ·intro w'
              go_simp
              with_reducible rfl
             rotate_left
             ·simp only [Act.put, List.setIfInBounds_toArray, List.set_cons_zero, List.set_cons_succ, al, ao]
              rfl
             refine aq (i := 5) (N := some 69) (v := ?_) (a' := ?_) #[true, true, true, true, true, true, false, false, false, false, false, false, false, false, false, false, false, false, false, false, false, false, false, false, false, false, false, false, false, false, false] rfl rfl (ak HT_.out (by kernel_rfl)) (fun _ _ _ h => h) (Or.inl ⟨by rfl, ?_⟩) ?_ ?_
             rotate_left
             ·intro w'
              go_simp
              with_reducible rfl
             rotate_left
             ·simp only [Act.put, List.setIfInBounds_toArray, List.set_cons_zero, List.set_cons_succ, al, ao]
              rfl
             refine aq (i := 6) (N := some 70) (v := ?_) (a' := ?_) #[true, true, true, true, true, true, true, false, false, false, false, false, false, false, false, false, false, false, false, false, false, false, false, false, false, false, false, false, false, false, false] rfl rfl (ak HT_.out (by kernel_rfl)) (fun _ _ _ h => h) (Or.inl ⟨by rfl, ?_⟩) ?_ ?_
             rotate_left
             ·intro w'
              go_simp
              with_reducible rfl
             rotate_left
             ·simp only [Act.put, List.setIfInBounds_toArray, List.set_cons_zero, List.set_cons_succ, al, ao]
              rfl
             refine aq (i := 7) (N := some 71) (v := ?_) (a' := ?_) #[true, true, true, true, true, true, true, true, false, false, false, false, false, false, false, false, false, false, false, false, false, false, false, false, false, false, false, false, false, false, false] rfl rfl (ak HT_.out (by kernel_rfl)) (fun _ _ _ h => h) (Or.inl ⟨by rfl, ?_⟩) ?_ ?_
             rotate_left
             ·intro w'
              go_simp
              with_reducible rfl
             rotate_left
             ·simp only [Act.put, List.setIfInBounds_toArray, List.set_cons_zero, List.set_cons_succ, al, ao]
              rfl
             refine aq (i := 8) (N := some 72) (v := ?_) (a' := ?_) #[true, true, true, true, true, true, true, true, true, false, false, false, false, false, false, false, false, false, false, false, false, false, false, false, false, false, false, false, false, false, false] rfl rfl (ak HT_.out (by kernel_rfl)) (fun _ _ _ h => h) (Or.inl ⟨by rfl, ?_⟩) ?_ ?_
             rotate_left
             ·intro w'
              go_simp
              with_reducible rfl
             rotate_left
             ·simp only [Act.put, List.setIfInBounds_toArray, List.set_cons_zero, List.set_cons_succ, al, ao]
              rfl
             refine aq (i := 10) (N := some 74) (v := ?_) (a' := ?_) #[true, true, true, true, true, true, true, true, true, false, true, false, false, false, false, false, false, false, false, false, false, false, false, false, false, false, false, false, false, false, false] rfl rfl (ak HT_.out (by kernel_rfl)) (fun _ _ _ h => h) (Or.inl ⟨by rfl, ?_⟩) ?_ ?_
             rotate_left
             ·intro w'
              go_simp
              with_reducible rfl
             rotate_left
             ·simp only [Act.put, List.setIfInBounds_toArray, List.set_cons_zero, List.set_cons_succ, al, ao]
              rfl
             refine take_ (i := 9) (N := some 73) (v := ?_) (a' := ?_) #[true, true, true, true, true, true, true, true, true, true, true, false, false, false, false, false, false, false, false, false, false, false, false, false, false, false, false, false, false, false, false] rfl rfl (bc HT_.out HW_.out (by kernel_rfl)) (fun _ _ _ h => h) (Or.inl ⟨by rfl, ?_⟩) hHeld ?_ ?_
             rotate_left
             ·rintro w' ⟨s0, s1, s2, s3⟩
              go_simp
              with_reducible rfl
             rotate_left
             ·simp only [Act.put, List.setIfInBounds_toArray, List.set_cons_zero, List.set_cons_succ, al, ao]
              rfl
             refine take_ (i := 11) (N := some 75) (v := ?_) (a' := ?_) #[true, true, true, true, true, true, true, true, true, true, true, true, false, false, false, false, false, false, false, false, false, false, false, false, false, false, false, false, false, false, false] rfl rfl (bc HT_.out HW_.out (by kernel_rfl)) (fun _ _ _ h => h) (Or.inl ⟨by rfl, ?_⟩) hHeld ?_ ?_
             rotate_left
             ·rintro w' ⟨s0, s1, s2, s3⟩
              go_simp
              with_reducible rfl
             rotate_left
             ·simp only [Act.put, List.setIfInBounds_toArray, List.set_cons_zero, List.set_cons_succ, al, ao]
              rfl
             refine aq (i := 12) (N := some 76) (v := ?_) (a' := ?_) #[true, true, true, true, true, true, true, true, true, true, true, true, true, false, false, false, false, false, false, false, false, false, false, false, false, false, false, false, false, false, false] rfl rfl (ak HT_.out (by kernel_rfl)) (fun _ _ _ h => h) (Or.inl ⟨by rfl, ?_⟩) ?_ ?_
             rotate_left
             ·intro w'
              go_simp
              with_reducible rfl
             rotate_left
             ·simp only [Act.put, List.setIfInBounds_toArray, List.set_cons_zero, List.set_cons_succ, al, ao]
              rfl
             refine aq (i := 13) (N := some 77) (v := ?_) (a' := ?_) #[true, true, true, true, true, true, true, true, true, true, true, true, true, true, false, false, false, false, false, false, false, false, false, false, false, false, false, false, false, false, false] rfl rfl (ak HT_.out (by kernel_rfl)) (fun _ _ _ h => h) (Or.inl ⟨by rfl, ?_⟩) ?_ ?_
             rotate_left
             ·intro w'
              go_simp
              with_reducible rfl
             rotate_left
             ·simp only [Act.put, List.setIfInBounds_toArray, List.set_cons_zero, List.set_cons_succ, al, ao]
              rfl
             refine aq (i := 14) (N := some 78) (v := ?_) (a' := ?_) #[true, true, true, true, true, true, true, true, true, true, true, true, true, true, true, false, false, false, false, false, false, false, false, false, false, false, false, false, false, false, false] rfl rfl (ak HT_.out (by kernel_rfl)) (fun _ _ _ h => h) (Or.inl ⟨by rfl, ?_⟩) ?_ ?_
             rotate_left
             ·intro w'
              go_simp
              with_reducible rfl
             rotate_left
             ·simp only [Act.put, List.setIfInBounds_toArray, List.set_cons_zero, List.set_cons_succ, al, ao]
              rfl
             refine aq (i := 15) (N := some 79) (v := ?_) (a' := ?_) #[true, true, true, true, true, true, true, true, true, true, true, true, true, true, true, true, false, false, false, false, false, false, false, false, false, false, false, false, false, false, false] rfl rfl (ak HT_.out (by kernel_rfl)) (fun _ _ _ h => h) (Or.inl ⟨by rfl, ?_⟩) ?_ ?_
             rotate_left
             ·intro w'
              go_simp
              with_reducible rfl
             rotate_left
             ·simp only [Act.put, List.setIfInBounds_toArray, List.set_cons_zero, List.set_cons_succ, al, ao]
              rfl
             refine aq (i := 16) (N := some 80) (v := ?_) (a' := ?_) #[true, true, true, true, true, true, true, true, true, true, true, true, true, true, true, true, true, false, false, false, false, false, false, false, false, false, false, false, false, false, false] rfl rfl (ak HT_.out (by kernel_rfl)) (fun _ _ _ h => h) (Or.inl ⟨by rfl, ?_⟩) ?_ ?_
             rotate_left
             ·intro w'
              go_simp
              with_reducible rfl
             rotate_left
             ·simp only [Act.put, List.setIfInBounds_toArray, List.set_cons_zero, List.set_cons_succ, al, ao]
              rfl
             refine aq (i := 17) (N := some 81) (v := ?_) (a' := ?_) #[true, true, true, true, true, true, true, true, true, true, true, true, true, true, true, true, true, true, false, false, false, false, false, false, false, false, false, false, false, false, false] rfl rfl (ak HT_.out (by kernel_rfl)) (fun _ _ _ h => h) (Or.inl ⟨by rfl, ?_⟩) ?_ ?_
             rotate_left
             ·intro w'
              go_simp
              with_reducible rfl
             rotate_left
             ·simp only [Act.put, List.setIfInBounds_toArray, List.set_cons_zero, List.set_cons_succ, al, ao]
              rfl
             refine aq (i := 18) (N := some 82) (v := ?_) (a' := ?_) #[true, true, true, true, true, true, true, true, true, true, true, true, true, true, true, true, true, true, true, false, false, false, false, false, false, false, false, false, false, false, false] rfl rfl (ak HT_.out (by kernel_rfl)) (fun _ _ _ h => h) (Or.inl ⟨by rfl, ?_⟩) ?_ ?_
             rotate_left
             ·intro w'
              go_simp
              with_reducible rfl
             rotate_left
             ·simp only [Act.put, List.setIfInBounds_toArray, List.set_cons_zero, List.set_cons_succ, al, ao]
              rfl
             refine aq (i := 19) (N := some 83) (v := undef) (a' := ?_) #[true, true, true, true, true, true, true, true, true, true, true, true, true, true, true, true, true, true, true, true, false, false, false, false, false, false, false, false, false, false, false] rfl rfl (ak HT_.out (by kernel_rfl)) (fun _ _ _ h => h) (Or.inr ⟨by rfl, rfl⟩) ?_ ?_
             rotate_left
             ·simp only [Act.put, List.setIfInBounds_toArray, List.set_cons_zero, List.set_cons_succ, al, ao]
              rfl
             refine aq (i := 20) (N := some 84) (v := undef) (a' := ?_) #[true, true, true, true, true, true, true, true, true, true, true, true, true, true, true, true, true, true, true, true, true, false, false, false, false, false, false, false, false, false, false] rfl rfl (ak HT_.out (by kernel_rfl)) (fun _ _ _ h => h) (Or.inr ⟨by rfl, rfl⟩) ?_ ?_
             rotate_left
             ·simp only [Act.put, List.setIfInBounds_toArray, List.set_cons_zero, List.set_cons_succ, al, ao]
              rfl
             refine aq (i := 21) (N := some 85) (v := undef) (a' := ?_) #[true, true, true, true, true, true, true, true, true, true, true, true, true, true, true, true, true, true, true, true, true, true, false, false, false, false, false, false, false, false, false] rfl rfl (ak HT_.out (by kernel_rfl)) (fun _ _ _ h => h) (Or.inr ⟨by rfl, rfl⟩) ?_ ?_
             rotate_left
             ·simp only [Act.put, List.setIfInBounds_toArray, List.set_cons_zero, List.set_cons_succ, al, ao]
              rfl
             refine aq (i := 22) (N := some 86) (v := undef) (a' := ?_) #[true, true, true, true, true, true, true, true, true, true, true, true, true, true, true, true, true, true, true, true, true, true, true, false, false, false, false, false, false, false, false] rfl rfl (ak HT_.out (by kernel_rfl)) (fun _ _ _ h => h) (Or.inr ⟨by rfl, rfl⟩) ?_ ?_
             rotate_left
             ·simp only [Act.put, List.setIfInBounds_toArray, List.set_cons_zero, List.set_cons_succ, al, ao]
              rfl
             refine aq (i := 23) (N := some 87) (v := undef) (a' := ?_) #[true, true, true, true, true, true, true, true, true, true, true, true, true, true, true, true, true, true, true, true, true, true, true, true, false, false, false, false, false, false, false] rfl rfl (ak HT_.out (by kernel_rfl)) (fun _ _ _ h => h) (Or.inr ⟨by rfl, rfl⟩) ?_ ?_
             rotate_left
             ·simp only [Act.put, List.setIfInBounds_toArray, List.set_cons_zero, List.set_cons_succ, al, ao]
              rfl
             refine aq (i := 24) (N := some 88) (v := undef) (a' := ?_) #[true, true, true, true, true, true, true, true, true, true, true, true, true, true, true, true, true, true, true, true, true, true, true, true, true, false, false, false, false, false, false] rfl rfl (ak HT_.out (by kernel_rfl)) (fun _ _ _ h => h) (Or.inr ⟨by rfl, rfl⟩) ?_ ?_
             rotate_left
             ·simp only [Act.put, List.setIfInBounds_toArray, List.set_cons_zero, List.set_cons_succ, al, ao]
              rfl
             refine aq (i := 25) (N := some 89) (v := undef) (a' := ?_) #[true, true, true, true, true, true, true, true, true, true, true, true, true, true, true, true, true, true, true, true, true, true, true, true, true, true, false, false, false, false, false] rfl rfl (ak HT_.out (by kernel_rfl)) (fun _ _ _ h => h) (Or.inr ⟨by rfl, rfl⟩) ?_ ?_
             rotate_left
             ·simp only [Act.put, List.setIfInBounds_toArray, List.set_cons_zero, List.set_cons_succ, al, ao]
              rfl
             refine aq (i := 26) (N := some 90) (v := undef) (a' := ?_) #[true, true, true, true, true, true, true, true, true, true, true, true, true, true, true, true, true, true, true, true, true, true, true, true, true, true, true, false, false, false, false] rfl rfl (ak HT_.out (by kernel_rfl)) (fun _ _ _ h => h) (Or.inr ⟨by rfl, rfl⟩) ?_ ?_
             rotate_left
             ·simp only [Act.put, List.setIfInBounds_toArray, List.set_cons_zero, List.set_cons_succ, al, ao]
              rfl
             refine aq (i := 27) (N := some 91) (v := undef) (a' := ?_) #[true, true, true, true, true, true, true, true, true, true, true, true, true, true, true, true, true, true, true, true, true, true, true, true, true, true, true, true, false, false, false] rfl rfl (ak HT_.out (by kernel_rfl)) (fun _ _ _ h => h) (Or.inr ⟨by rfl, rfl⟩) ?_ ?_
             rotate_left
             ·simp only [Act.put, List.setIfInBounds_toArray, List.set_cons_zero, List.set_cons_succ, al, ao]
              rfl
             refine aq (i := 28) (N := some 92) (v := undef) (a' := ?_) #[true, true, true, true, true, true, true, true, true, true, true, true, true, true, true, true, true, true, true, true, true, true, true, true, true, true, true, true, true, false, false] rfl rfl (ak HT_.out (by kernel_rfl)) (fun _ _ _ h => h) (Or.inr ⟨by rfl, rfl⟩) ?_ ?_
             rotate_left
             ·simp only [Act.put, List.setIfInBounds_toArray, List.set_cons_zero, List.set_cons_succ, al, ao]
              rfl
             refine aq (i := 29) (N := some 93) (v := ?_) (a' := ?_) #[true, true, true, true, true, true, true, true, true, true, true, true, true, true, true, true, true, true, true, true, true, true, true, true, true, true, true, true, true, true, false] rfl rfl (ak HT_.out (by kernel_rfl)) (fun _ _ _ h => h) (Or.inl ⟨by rfl, ?_⟩) ?_ ?_
             rotate_left
             ·intro w'
              go_simp
              with_reducible rfl
             rotate_left
             ·simp only [Act.put, List.setIfInBounds_toArray, List.set_cons_zero, List.set_cons_succ, al, ao]
              rfl
             refine aq (i := 30) (N := some 94) (v := ?_) (a' := ?_) #[true, true, true, true, true, true, true, true, true, true, true, true, true, true, true, true, true, true, true, true, true, true, true, true, true, true, true, true, true, true, true] rfl rfl (ak HT_.out (by kernel_rfl)) (fun _ _ _ h => h) (Or.inl ⟨by rfl, ?_⟩) ?_ ?_
             rotate_left
             ·intro w'
              go_simp
              with_reducible rfl
             rotate_left
             ·simp only [Act.put, List.setIfInBounds_toArray, List.set_cons_zero, List.set_cons_succ, al, ao]
              rfl
             refine ew (cf HT_.out (by kernel_rfl)) ?_
             try go_wp2
             go_roundg k2
             case measure => have := HJ7.out; have := HK2.out; omega
             case rel => exact ⟨(wrap64 (x11_2 + 1)), (by first | rfl | (simp; done) | (simp [*]; done)), H', ⟨by have := HJ7.out; have := HK2.out; omega⟩, ⟨by (with_reducible repeat (first | apply Kd.R_alloc | apply Kd.R_drewN | apply Kd.R_drew)); exact bf.out⟩, ⟨by (with_reducible repeat (first | refine aa ?_ _ | refine ac ?_ | refine a8 ?_ _)); exact ar.out⟩, ⟨by repeat (first | (with_reducible first | exact HB.out | apply a6 | apply a4 | apply a5 | refine a7 ?_ bg.out) | exact HB.out)⟩⟩
         ·rw [if_neg c38] at H
          exact absurd H (by simp)
        ·rw [if_neg c37] at H
         have c37b0 : decide (x11_2 < (t184.length : Int)) = false := decide_eq_false c37
         clear c37
         replace H := Option.bind_eq_some_iff.mp H
         obtain ⟨⟨t198, t201⟩, A560, H⟩ := H
         replace H : ((search_Solve.f k2 t198 t201).bind fun bt204 => (if bt204.2.2 = 0 then (fastilaw15_SearchMinimal.j2 k2 a1 t184 bt204.2.1 ai af) else (fastilaw15_SearchMinimal.j2 k2 a1 t184 true ai af))) = some r := H
         have A56 := Aside0.mk A560
         clear A560
         replace H := Option.bind_eq_some_iff.mp H
         obtain ⟨⟨t204, t207, t208⟩, A570, H⟩ := H
         replace H : (if t208 = 0 then (fastilaw15_SearchMinimal.j2 k2 a1 t184 t207 ai af) else (fastilaw15_SearchMinimal.j2 k2 a1 t184 true ai af)) = some r := H
         have A57 := Aside0.mk A570
         clear A570
         have HC58 := Aside0.mk H
         clear H
         obtain ⟨Ao59, fc, eo59⟩ := Kd.R_slice bf.out
         subst eo59
         have hcz60_0 : wr.cell? ⟨aZ, 0, none⟩ = some (.slice ay ai.length ax) := (a9 ar.out 0).trans rfl
         have hcz60_1 : wr.cell? ⟨aZ, 1, none⟩ = some (.slice az af.length aw) := (a9 ar.out 1).trans rfl
         have hfz60_0 := ab ar.out 0
         have hfz60_1 := ab ar.out 1
         go_upto_region 15 with (first | ((with_reducible refine av (f := 28) rfl ?_); refine bm (some 98) rfl rfl Try.func28 (by kernel_rfl) rfl #[.agg #[.slice ay ai.length ax, .slice az af.length aw], .slice Ao59 t184.length fc] rfl (by (try simp only [List.map_toArray, List.map_cons, List.map_nil]); first | done | rfl | (simp only [List.length_drop, List.length_take]; rfl)) ?_; (with_reducible refine (fastiref15_Some.calls k2 (fun k_ => k_ < w.heap.size) _ _ ai (fun k_ => k_ < w.heap.size) _ _ af _ _ t184 t198 t201 _ ?side1 ?side2 ?side3 ?side4 A56.out).mono ?_); (case side1 => exact Kd.V_mk bC.out (Kd.F_below (Kd.C_F (Kd.heap_slice 3 (Kd.heap_int .i64)) bv.out) (by repeat (first | (with_reducible first | exact HB.out | apply a6 | apply a4 | apply a5 | refine a7 ?_ bg.out) | exact HB.out)))); (case side2 => exact Kd.V_mk bB.out (Kd.F_below (Kd.C_F gz br.out) (by repeat (first | (with_reducible first | exact HB.out | apply a6 | apply a4 | apply a5 | refine a7 ?_ bg.out) | exact HB.out)))); (case side3 => repeat (first | exact (Kd.R_reads' bf.out).2.2 | (with_reducible refine Kd.C_alloc ?_ _) | (with_reducible refine Kd.C_drewN ?_ _) | (with_reducible refine Kd.C_drew ?_))); (case side4 => exact (Kd.R_reads' bf.out).2.1); rintro e w61 ⟨v199, v202, rfl, ho0, ho1, hb⟩; refine ⟨_, rfl, ?_⟩; have n0_ := Aside0.mk (Kd.R_below (by (with_reducible repeat (first | apply Kd.R_alloc | apply Kd.R_drewN | apply Kd.R_drew)); exact bf.out) hb); have n1_ := Aside0.mk (Kd.V_lower (Kd.V_mono (ok' := fun k_ => some k_ ≠ (v202 : Value).ownBlock ∧ some k_ ≠ (.slice Ao59 t184.length fc : Value).ownBlock ∧ k_ ≠ aZ) ho0 (fun k_ hk_ => ⟨hk_.2, Or.elim hk_.1 (fun hs_ => Or.elim hs_ (fun hs_ => fun e_ => Nat.not_le.2 hs_ (Kd.R_base bf.out k_ e_.symm)) (fun hs_ => fun e_ => Nat.not_le.2 hs_ (Kd.R_base bf.out k_ e_.symm))) (fun hn_ => (Kd.fresh' (Kd.R_lt (by (with_reducible repeat (first | apply Kd.R_alloc | apply Kd.R_drewN | apply Kd.R_drew)); exact bf.out)) k_ hn_)), Or.elim hk_.1 (fun hs_ => Or.elim hs_ (fun hs_ => fun e_ => Nat.not_le.2 hs_ (by rw [e_]; exact fw.out)) (fun hs_ => fun e_ => Nat.not_le.2 hs_ (by rw [e_]; exact fw.out))) (fun hn_ => (Kd.freshB (g := aZ) (o := .cells #[.slice ay ai.length ax, .slice az af.length aw] 25 (0, 0)) (by (with_reducible repeat (first | refine aa ?_ _ | refine ac ?_ | refine a8 ?_ _)); exact ar.out) k_ hn_))⟩)) (ag (by repeat (first | (with_reducible first | exact HB.out | apply a6 | apply a4 | apply a5 | refine a7 ?_ bg.out) | exact HB.out)))); have n2_ := Aside0.mk (Kd.N_lower (Kd.N_mono (ok' := fun k_ => some k_ ≠ (.slice Ao59 t184.length fc : Value).ownBlock ∧ k_ ≠ aZ) ho1 (fun k_ hk_ => ⟨Or.elim hk_ (fun hs_ => Or.elim hs_ (fun hs_ => fun e_ => Nat.not_le.2 hs_ (Kd.R_base bf.out k_ e_.symm)) (fun hs_ => fun e_ => Nat.not_le.2 hs_ (Kd.R_base bf.out k_ e_.symm))) (fun hn_ => (Kd.fresh' (Kd.R_lt (by (with_reducible repeat (first | apply Kd.R_alloc | apply Kd.R_drewN | apply Kd.R_drew)); exact bf.out)) k_ hn_)), Or.elim hk_ (fun hs_ => Or.elim hs_ (fun hs_ => fun e_ => Nat.not_le.2 hs_ (by rw [e_]; exact fw.out)) (fun hs_ => fun e_ => Nat.not_le.2 hs_ (by rw [e_]; exact fw.out))) (fun hn_ => (Kd.freshB (g := aZ) (o := .cells #[.slice ay ai.length ax, .slice az af.length aw] 25 (0, 0)) (by (with_reducible repeat (first | refine aa ?_ _ | refine ac ?_ | refine a8 ?_ _)); exact ar.out) k_ hn_))⟩)) (ag (by repeat (first | (with_reducible first | exact HB.out | apply a6 | apply a4 | apply a5 | refine a7 ?_ bg.out) | exact HB.out)))); have n3_ := Aside0.mk (ae (g := aZ) (o := .cells #[.slice ay ai.length ax, .slice az af.length aw] 25 (0, 0)) (by (with_reducible repeat (first | refine aa ?_ _ | refine ac ?_ | refine a8 ?_ _)); exact ar.out) hb); have n4_ := Aside0.mk (aj (by repeat (first | (with_reducible first | exact HB.out | apply a6 | apply a4 | apply a5 | refine a7 ?_ bg.out) | exact HB.out)) hb); clear bf; clear ar; clear HB; have bf := n0_; have HO200 := n1_; have HO203 := n2_; have ar := n3_; have HB := n4_; clear n0_ n1_ n2_ n3_ n4_; (try clear hb); (try clear hb2); (try clear hk); (try clear hi); (try clear ho0); (try clear ho1); obtain ⟨Ao62, co62, eo62⟩ := Kd.V_slice HO200.out; subst eo62; obtain ⟨Ao63, co63, eo63⟩ := Kd.N_slice HO203.out; subst eo63) | ((with_reducible refine av (f := 15) rfl ?_); refine bm (some 99) rfl rfl Try.func15 (by kernel_rfl) rfl #[.agg #[.slice Ao62 t198.length co62, .slice Ao63 t201.length co63]] rfl (by (try simp only [List.map_toArray, List.map_cons, List.map_nil]); first | done | rfl | (simp only [List.length_drop, List.length_take]; rfl)) ?_; (with_reducible refine (search_Solve.calls k2 _ _ t198 _ _ t201 t204 t207 t208 _ ?side1 ?side2 ?side3 ?side4 A57.out).mono ?_); (case side1 => repeat (first | exact (Kd.V_reads' HO200.out).2.2 | (with_reducible refine Kd.C_alloc ?_ _) | (with_reducible refine Kd.C_drewN ?_ _) | (with_reducible refine Kd.C_drew ?_))); (case side2 => exact (Kd.V_reads' HO200.out).2.1); (case side3 => repeat (first | exact (Kd.N_reads' HO203.out).2.2 | (with_reducible refine Kd.C_alloc ?_ _) | (with_reducible refine Kd.C_drewN ?_ _) | (with_reducible refine Kd.C_drew ?_))); (case side4 => exact (Kd.N_reads' HO203.out).2.1); rintro e w64 ⟨v205, rfl, ho0, hb⟩; refine ⟨_, rfl, ?_⟩; have n0_ := Aside0.mk (Kd.R_elder' (by (with_reducible repeat (first | apply Kd.R_alloc | apply Kd.R_drewN | apply Kd.R_drew)); exact bf.out) (Kd.R_base ho0) hb); have n1_ := Aside0.mk (Kd.V_elder' (by (with_reducible repeat (first | apply Kd.V_alloc | apply Kd.V_drewN | apply Kd.V_drew)); exact HO200.out) (Kd.R_base ho0) hb); have n2_ := Aside0.mk (Kd.N_elder' (by (with_reducible repeat (first | apply Kd.N_alloc | apply Kd.N_drewN | apply Kd.N_drew)); exact HO203.out) (Kd.R_base ho0) hb); have n3_ := Aside0.mk (Kd.R_lower (Kd.R_new' ho0 (Kd.R_lt (by (with_reducible repeat (first | apply Kd.R_alloc | apply Kd.R_drewN | apply Kd.R_drew)); exact bf.out))) (ag (by repeat (first | (with_reducible first | exact HB.out | apply a6 | apply a4 | apply a5 | refine a7 ?_ bg.out) | exact HB.out)))); have n4_ := Aside0.mk (ae (g := aZ) (o := .cells #[.slice ay ai.length ax, .slice az af.length aw] 25 (0, 0)) (by (with_reducible repeat (first | refine aa ?_ _ | refine ac ?_ | refine a8 ?_ _)); exact ar.out) hb); have n5_ := Aside0.mk (aj (by repeat (first | (with_reducible first | exact HB.out | apply a6 | apply a4 | apply a5 | refine a7 ?_ bg.out) | exact HB.out)) hb); clear bf; clear HO200; clear HO203; clear ar; clear HB; have bf := n0_; have HO200 := n1_; have HO203 := n2_; have HO206 := n3_; have ar := n4_; have HB := n5_; clear n0_ n1_ n2_ n3_ n4_ n5_; (try clear hb); (try clear hb2); (try clear hk); (try clear hi); (try clear ho0)))
         (try simp only [Act.put, List.setIfInBounds_toArray, List.set_cons_zero, List.set_cons_succ])
         go_cut [107] (fun v107 wc => ∃ (kq : Nat) (x107_57 : Bool), v107 = .bool x107_57 ∧ Aside0 (fastilaw15_SearchMinimal.j2 kq a1 t184 x107_57 ai af = some r) ∧ Aside0 (kq ≤ k2) ∧ Aside0 (Kd.R (Kd.int .i64) 3 wc w.heap.size (fun _ => True) (.slice Ao59 t184.length fc) t184) ∧ Aside0 (wc.heap[aZ]? = some (.cells #[(.slice ay ai.length ax), (.slice az af.length aw)] 25 (0, 0))) ∧ Aside0 (Below w.heap.size w wc))
         case first =>
          have H := HC58.out
          clear HC58
          by_cases c65 : t208 = 0
          ·rw [if_pos c65] at H
           have c65b0 : (t208 == 0) = true := beq_iff_eq.mpr c65
           have c65b1 : (t208 != 0) = false := bne_eq_false_iff_eq.mpr c65
           clear c65
           (first | rw [c65b0] | (simp only [al, ao]; rw [c65b0]) | skip)
           have H' := Aside0.mk H
           clear H
           go_wp2
           go_meet
           case rel => exact ⟨_, (t207), (by first | rfl | (simp; done) | (simp [*]; done)), H', ⟨by have := HJ7.out; have := HK2.out; first | omega | exact Nat.le_refl _⟩, ⟨by (with_reducible repeat (first | apply Kd.R_alloc | apply Kd.R_drewN | apply Kd.R_drew)); exact Kd.R_mono bf.out (fun _ hk => trivial)⟩, ⟨by (with_reducible repeat (first | refine aa ?_ _ | refine ac ?_ | refine a8 ?_ _)); exact ar.out⟩, ⟨by repeat (first | (with_reducible first | exact HB.out | apply a6 | apply a4 | apply a5 | refine a7 ?_ bg.out) | exact HB.out)⟩⟩
          ·rw [if_neg c65] at H
           have c65b0 : (t208 == 0) = false := beq_eq_false_iff_ne.mpr c65
           have c65b1 : (t208 != 0) = true := bne_iff_ne.mpr c65
           (first | rw [c65b0] | (simp only [al, ao]; rw [c65b0]) | skip)
           have H' := Aside0.mk H
           clear H
           go_wp2
           go_meet
           case rel => exact ⟨_, (true), (by first | rfl | (simp; done) | (simp [*]; done)), H', ⟨by have := HJ7.out; have := HK2.out; first | omega | exact Nat.le_refl _⟩, ⟨by (with_reducible repeat (first | apply Kd.R_alloc | apply Kd.R_drewN | apply Kd.R_drew)); exact Kd.R_mono bf.out (fun _ hk => trivial)⟩, ⟨by (with_reducible repeat (first | refine aa ?_ _ | refine ac ?_ | refine a8 ?_ _)); exact ar.out⟩, ⟨by repeat (first | (with_reducible first | exact HB.out | apply a6 | apply a4 | apply a5 | refine a7 ?_ bg.out) | exact HB.out)⟩⟩
         case rest =>
          clear HC58
          try clear c1; try clear p1; try clear q1; try clear hx1; try clear c2; try clear p2; try clear c3; try clear c4; try clear c6; try clear p6; try clear c15; try clear p19; try clear q19; try clear hx19; try clear c28; try clear c37; try clear c37b0; try clear c38; try clear c45; try clear c45b0; try clear c47; try clear c48; try clear c49; try clear c49b0; try clear p64; try clear c65; try clear c65b0; try clear c65b1; try clear hcz60_0; try clear hcz60_1; try clear hfz60_0; try clear hfz60_1; try clear cB; try clear da; try clear fY; try clear fZ; try clear p194; try clear p195; try clear p196; try clear p197; try clear q194; try clear q195; try clear q196; try clear q197
          obtain ⟨kq, x107_57, rfl, HA, HJ57, bf, ar, HB⟩ := hcut
          cases kq with
          | zero => exact absurd HA.out (by simp [fastilaw15_SearchMinimal.j2])
          | succ kj57 =>
           have H := HA.out
           clear HA
           simp only [fastilaw15_SearchMinimal.j2] at H
           by_cases c66 : x107_57 = true
           ·subst c66
            have H1 : (some false) = some r := by rw [if_pos rfl] at H; exact H
            clear H
            have H := H1
            clear H1
            obtain rfl := Option.some.inj H
            go_wp2
            go_ret
            exact ⟨by first | rfl | (simp [am, ap] <;> rfl) | (simp [*, am, ap] <;> rfl), by repeat (first | (with_reducible first | exact HB.out | apply a6 | apply a4 | apply a5 | refine a7 ?_ bg.out) | exact HB.out)⟩
           ·replace c66 := Bool.eq_false_iff.mpr c66
            subst c66
            have H1 : (if (t184.length : Int) = 0 then (some false) else ((some (([] : List Int) : List Int)).bind fun y209 => (if 0 ≤ (Int.tmod (wrap64 (a1)) (t184.length : Int)) then (if (Int.tmod (wrap64 (a1)) (t184.length : Int)) ≤ (t184.length : Int) then ((some (t184.take ((Int.tmod (wrap64 (a1)) (t184.length : Int)) : Int).toNat : List Int)).bind fun y212 => (if y209.length + y212.length < 17592186044416 then ((some (y209 ++ y212 : List Int)).bind fun y217 => (if 0 ≤ (wrap64 ((Int.tmod (wrap64 (a1)) (t184.length : Int)) + 1)) then (if (wrap64 ((Int.tmod (wrap64 (a1)) (t184.length : Int)) + 1)) ≤ (t184.length : Int) then ((some (t184.drop ((wrap64 ((Int.tmod (wrap64 (a1)) (t184.length : Int)) + 1)) : Int).toNat : List Int)).bind fun y220 => (if y217.length + y220.length < 17592186044416 then ((fastiref15_Some.f kj57 ai af (y217 ++ y220)).bind fun cP => ((search_Solve.f kj57 cP.1 cP.2).bind fun cw => (if cw.2.2 = 0 then (some cw.2.1) else (some false)))) else (none))) else (none)) else (none))) else (none))) else (none)) else (none)))) = some r := by rw [if_neg (show ¬ (false = true) by decide)] at H; exact H
            clear H
            have H := H1
            clear H1
            by_cases c67 : (t184.length : Int) = 0
            ·rw [if_pos c67] at H
             have c67b0 : ((t184.length : Int) == 0) = true := beq_iff_eq.mpr c67
             have c67b1 : ((t184.length : Int) != 0) = false := bne_eq_false_iff_eq.mpr c67
             clear c67
             obtain rfl := Option.some.inj H
             go_wp2
             go_ret
             exact ⟨by first | rfl | (simp [am, ap] <;> rfl) | (simp [*, am, ap] <;> rfl), by repeat (first | (with_reducible first | exact HB.out | apply a6 | apply a4 | apply a5 | refine a7 ?_ bg.out) | exact HB.out)⟩
            ·rw [if_neg c67] at H
             have c67b0 : ((t184.length : Int) == 0) = false := beq_eq_false_iff_ne.mpr c67
             have c67b1 : ((t184.length : Int) != 0) = true := bne_iff_ne.mpr c67
             have c67b2 : ¬ (t184 = []) := fun h_ => c67 (by rw [h_]; rfl)
             obtain ⟨y209, hy209⟩ : ∃ y_ : List Int, y_ = (([] : List Int)) := ⟨_, rfl⟩
             replace H : (if 0 ≤ (Int.tmod (wrap64 (a1)) (t184.length : Int)) then (if (Int.tmod (wrap64 (a1)) (t184.length : Int)) ≤ (t184.length : Int) then ((some (t184.take ((Int.tmod (wrap64 (a1)) (t184.length : Int)) : Int).toNat : List Int)).bind fun y212 => (if y209.length + y212.length < 17592186044416 then ((some (y209 ++ y212 : List Int)).bind fun y217 => (if 0 ≤ (wrap64 ((Int.tmod (wrap64 (a1)) (t184.length : Int)) + 1)) then (if (wrap64 ((Int.tmod (wrap64 (a1)) (t184.length : Int)) + 1)) ≤ (t184.length : Int) then ((some (t184.drop ((wrap64 ((Int.tmod (wrap64 (a1)) (t184.length : Int)) + 1)) : Int).toNat : List Int)).bind fun y220 => (if y217.length + y220.length < 17592186044416 then ((fastiref15_Some.f kj57 ai af (y217 ++ y220)).bind fun cP => ((search_Solve.f kj57 cP.1 cP.2).bind fun cw => (if cw.2.2 = 0 then (some cw.2.1) else (some false)))) else (none))) else (none)) else (none))) else (none))) else (none)) else (none)) = some r := by first | (rw [hy209]; with_reducible exact H) | (have H2_ := (Option.bind_some _ _).symm.trans H; rw [hy209]; with_reducible exact H2_) | (have H2_ := (Option.bind_some _ _).symm.trans H; with_reducible exact H2_) | with_reducible exact H | (rw [hy209]; exact H) | exact H
             have Ny209 := Aside0.mk hy209
             clear hy209
             obtain ⟨ji68, hji68⟩ : ∃ j_ : Int, (Int.tmod (wrap64 (a1)) (t184.length : Int)) = j_ := ⟨_, rfl⟩
             replace H : (if 0 ≤ (ji68) then (if (ji68) ≤ (t184.length : Int) then ((some (t184.take ((ji68) : Int).toNat : List Int)).bind fun y212 => (if y209.length + y212.length < 17592186044416 then ((some (y209 ++ y212 : List Int)).bind fun y217 => (if 0 ≤ (wrap64 ((ji68) + 1)) then (if (wrap64 ((ji68) + 1)) ≤ (t184.length : Int) then ((some (t184.drop ((wrap64 ((ji68) + 1)) : Int).toNat : List Int)).bind fun y220 => (if y217.length + y220.length < 17592186044416 then ((fastiref15_Some.f kj57 ai af (y217 ++ y220)).bind fun cP => ((search_Solve.f kj57 cP.1 cP.2).bind fun cw => (if cw.2.2 = 0 then (some cw.2.1) else (some false)))) else (none))) else (none)) else (none))) else (none))) else (none)) else (none)) = some r := by first | (rw [hji68] at H; exact H) | (simp only [hji68] at H ⊢; exact H)
             by_cases c69 : 0 ≤ (ji68)
             ·rw [if_pos c69] at H
              have c69b0 := eq_true c69
              have c69b1 : decide (0 ≤ (ji68)) = true := decide_eq_true c69
              clear c69
              by_cases c70 : (ji68) ≤ (t184.length : Int)
              ·rw [if_pos c70] at H
               have c70b0 := eq_true c70
               have c70b1 : decide ((ji68) ≤ (t184.length : Int)) = true := decide_eq_true c70
               clear c70
               obtain ⟨y212, hy212⟩ : ∃ y_ : List Int, y_ = (t184.take ((ji68) : Int).toNat) := ⟨_, rfl⟩
               replace H : (if y209.length + y212.length < 17592186044416 then ((some (y209 ++ y212 : List Int)).bind fun y217 => (if 0 ≤ (wrap64 ((ji68) + 1)) then (if (wrap64 ((ji68) + 1)) ≤ (t184.length : Int) then ((some (t184.drop ((wrap64 ((ji68) + 1)) : Int).toNat : List Int)).bind fun y220 => (if y217.length + y220.length < 17592186044416 then ((fastiref15_Some.f kj57 ai af (y217 ++ y220)).bind fun cP => ((search_Solve.f kj57 cP.1 cP.2).bind fun cw => (if cw.2.2 = 0 then (some cw.2.1) else (some false)))) else (none))) else (none)) else (none))) else (none)) = some r := by first | (rw [hy212]; with_reducible exact H) | (have H2_ := (Option.bind_some _ _).symm.trans H; rw [hy212]; with_reducible exact H2_) | (have H2_ := (Option.bind_some _ _).symm.trans H; with_reducible exact H2_) | with_reducible exact H | (rw [hy212]; exact H) | exact H
               have Ny212 := Aside0.mk hy212
               clear hy212
               by_cases c71 : y209.length + y212.length < 17592186044416
               ·rw [if_pos c71] at H
                have LMc71 := Aside0.mk c71
                clear c71
                obtain ⟨y217, hy217⟩ : ∃ y_ : List Int, y_ = (y209 ++ y212) := ⟨_, rfl⟩
                replace H : (if 0 ≤ (wrap64 ((ji68) + 1)) then (if (wrap64 ((ji68) + 1)) ≤ (t184.length : Int) then ((some (t184.drop ((wrap64 ((ji68) + 1)) : Int).toNat : List Int)).bind fun y220 => (if y217.length + y220.length < 17592186044416 then ((fastiref15_Some.f kj57 ai af (y217 ++ y220)).bind fun cP => ((search_Solve.f kj57 cP.1 cP.2).bind fun cw => (if cw.2.2 = 0 then (some cw.2.1) else (some false)))) else (none))) else (none)) else (none)) = some r := by first | (rw [hy217]; with_reducible exact H) | (have H2_ := (Option.bind_some _ _).symm.trans H; rw [hy217]; with_reducible exact H2_) | (have H2_ := (Option.bind_some _ _).symm.trans H; with_reducible exact H2_) | with_reducible exact H | (rw [hy217]; exact H) | exact H
                have Ny217 := Aside0.mk hy217
                clear hy217
                obtain ⟨ji72, hji72⟩ : ∃ j_ : Int, (wrap64 ((ji68) + 1)) = j_ := ⟨_, rfl⟩
                replace H : (if 0 ≤ (ji72) then (if (ji72) ≤ (t184.length : Int) then ((some (t184.drop ((ji72) : Int).toNat : List Int)).bind fun y220 => (if y217.length + y220.length < 17592186044416 then ((fastiref15_Some.f kj57 ai af (y217 ++ y220)).bind fun cP => ((search_Solve.f kj57 cP.1 cP.2).bind fun cw => (if cw.2.2 = 0 then (some cw.2.1) else (some false)))) else (none))) else (none)) else (none)) = some r := by first | (rw [hji72] at H; exact H) | (simp only [hji72] at H ⊢; exact H)
                have hji72w : (IntKind.i64.wrap ((ji68) + 1)) = ji72 := (al _).trans hji72
                by_cases c73 : 0 ≤ (ji72)
                ·rw [if_pos c73] at H
                 have c73b0 := eq_true c73
                 have c73b1 : decide (0 ≤ (ji72)) = true := decide_eq_true c73
                 clear c73
                 by_cases c74 : (ji72) ≤ (t184.length : Int)
                 ·rw [if_pos c74] at H
                  have c74b0 := eq_true c74
                  have c74b1 : decide ((ji72) ≤ (t184.length : Int)) = true := decide_eq_true c74
                  clear c74
                  obtain ⟨y220, hy220⟩ : ∃ y_ : List Int, y_ = (t184.drop ((ji72) : Int).toNat) := ⟨_, rfl⟩
                  replace H : (if y217.length + y220.length < 17592186044416 then ((fastiref15_Some.f kj57 ai af (y217 ++ y220)).bind fun cP => ((search_Solve.f kj57 cP.1 cP.2).bind fun cw => (if cw.2.2 = 0 then (some cw.2.1) else (some false)))) else (none)) = some r := by first | (rw [hy220]; with_reducible exact H) | (have H2_ := (Option.bind_some _ _).symm.trans H; rw [hy220]; with_reducible exact H2_) | (have H2_ := (Option.bind_some _ _).symm.trans H; with_reducible exact H2_) | with_reducible exact H | (rw [hy220]; exact H) | exact H
                  have Ny220 := Aside0.mk hy220
                  clear hy220
                  by_cases c75 : y217.length + y220.length < 17592186044416
                  ·rw [if_pos c75] at H
                   have LMc75 := Aside0.mk c75
                   clear c75
                   obtain ⟨y225, hy225⟩ : ∃ y_ : List Int, y_ = (y217 ++ y220) := ⟨_, rfl⟩
                   replace H : ((fastiref15_Some.f kj57 ai af y225).bind fun cP => ((search_Solve.f kj57 cP.1 cP.2).bind fun cw => (if cw.2.2 = 0 then (some cw.2.1) else (some false)))) = some r := by first | (rw [hy225]; with_reducible exact H) | (have H2_ := (Option.bind_some _ _).symm.trans H; rw [hy225]; with_reducible exact H2_) | (have H2_ := (Option.bind_some _ _).symm.trans H; with_reducible exact H2_) | with_reducible exact H | (rw [hy225]; exact H) | exact H
                   have Ny225 := Aside0.mk hy225
                   clear hy225
                   replace H := Option.bind_eq_some_iff.mp H
                   obtain ⟨⟨t228, t231⟩, A760, H⟩ := H
                   replace H : ((search_Solve.f kj57 t228 t231).bind fun cw => (if cw.2.2 = 0 then (some cw.2.1) else (some false))) = some r := H
                   have A76 := Aside0.mk A760
                   clear A760
                   replace H := Option.bind_eq_some_iff.mp H
                   obtain ⟨⟨t234, t237, t238⟩, A770, H⟩ := H
                   replace H : (if t238 = 0 then (some t237) else (some false)) = some r := H
                   have A77 := Aside0.mk A770
                   clear A770
                   by_cases c78 : t238 = 0
                   ·rw [if_pos c78] at H
                    have c78b0 : (t238 == 0) = true := beq_iff_eq.mpr c78
                    have c78b1 : (t238 != 0) = false := bne_eq_false_iff_eq.mpr c78
                    clear c78
                    obtain rfl := Option.some.inj H
                    try go_wp2
                    have n0_ := Aside0.mk (Kd.R_drew bf.out)
                    have n1_ := Aside0.mk (ac ar.out)
                    have n2_ := Aside0.mk (a5 HB.out)
                    clear bf
                    clear ar
                    clear HB
                    have bf := n0_
                    have ar := n1_
                    have HB := n2_
                    clear n0_ n1_ n2_
                    have q80 : ((ji68) : Int) ≤ ((t184.length : Int) : Int) := of_decide_eq_true (by first | (with_reducible assumption) | assumption)
                    obtain ⟨i080, hi080, _, hsz80, _⟩ := info_parts info3
                    have hroom80 : t184.length ≤ fc := (Kd.R_reads' bf.out).2.1
                    have hC80 : Kd.F (Kd.int .i64) _ _ Ao59 t184.length t184 := (Kd.V_at (base := w.heap.size) (Kd.R_V (Kd.R_types (bf.out) ar.out (by decide)))).2.2
                    have hcut80 := cut_to (P := Try.prog) 26 3 .i64 Try.underlying26 hi080 Ao59 t184.length fc (ji68) (of_decide_eq_true (by first | (with_reducible assumption) | assumption)) q80 hroom80
                    have hr80 := Kd.F_take (m := ((ji68) : Int).toNat) hC80 (by omega)
                    have hy80 : y212.length = ((ji68) : Int).toNat := (by rw [Ny212.out, List.length_take]; omega)
                    rw [← Ny212.out] at hr80
                    rw [← hy80] at hcut80
                    have bZ := Aside0.mk (show Kd.V (Kd.int .i64) 3 _ w.heap.size _ (.slice Ao59 y212.length fc) y212 from Kd.V_mk (by omega) hr80)
                    have HC216 := Aside0.mk (show y212.length ≤ fc from by omega)
                    clear hr80 hC80 hroom80 hi080 hsz80
                    have KY80 := Aside0.mk hy80
                    clear hy80
                    replace q80 := eq_true q80
                    have q81 : ((ji72) : Int) ≤ ((t184.length : Int) : Int) := of_decide_eq_true (by first | (with_reducible assumption) | assumption)
                    obtain ⟨i081, hi081, _, hsz81, _⟩ := info_parts info3
                    have hroom81 : t184.length ≤ fc := (Kd.R_reads' bf.out).2.1
                    have hC81 : Kd.F (Kd.int .i64) _ _ Ao59 t184.length t184 := (Kd.V_at (base := w.heap.size) (Kd.R_V (Kd.R_types (bf.out) ar.out (by decide)))).2.2
                    have q081 : (0 : Int) ≤ ((ji72) : Int) := of_decide_eq_true (by first | (with_reducible assumption) | assumption)
                    have hcut81 := cut_from (P := Try.prog) 26 3 .i64 Try.underlying26 hi081 1 hsz81 Ao59 t184.length fc (ji72) q081 q81
                    have hr81 := Kd.F_cut (m := ((ji72) : Int).toNat) (c := fc) hC81 (by omega) hroom81
                    obtain ⟨A81, hA81⟩ : ∃ A1, A1 = (if fc = ((ji72) : Int).toNat then Ao59 else (Ao59 : Option Addr).map (·.add (((ji72) : Int).toNat * 1))) := ⟨_, rfl⟩
                    obtain ⟨c81, hc81⟩ : ∃ c1, c1 = fc - ((ji72) : Int).toNat := ⟨_, rfl⟩
                    have hy81 : y220.length = t184.length - ((ji72) : Int).toNat := (by rw [Ny220.out, List.length_drop] <;> omega)
                    rw [show (t184).drop ((ji72) : Int).toNat = y220 from Ny220.out.symm] at hr81
                    replace hr81 : Kd.F (Kd.int .i64) _ _ A81 y220.length y220 := (by rw [hA81]; exact hr81)
                    rw [← hy81, ← hA81, ← hc81] at hcut81
                    have ca := Aside0.mk (show Kd.V (Kd.int .i64) 3 _ w.heap.size _ (.slice A81 y220.length c81) y220 from Kd.V_mk (by rw [hy81, hc81]; exact Nat.sub_le_sub_right hroom81 _) hr81)
                    have HC224 := Aside0.mk (show y220.length ≤ c81 from by rw [hy81, hc81]; exact Nat.sub_le_sub_right hroom81 _)
                    clear hr81 hC81 hroom81 hi081 hsz81 hc81
                    have KY81 := Aside0.mk hy81
                    have KA81 := Aside0.mk hA81
                    clear hy81 hA81
                    replace q81 := eq_true q81
                    refine dg (n := 19) (S := fun w' => w'.cell? ⟨aZ, 0, none⟩ = some (.slice ay ai.length ax) ∧ w'.cell? ⟨aZ, 1, none⟩ = some (.slice az af.length aw)) (ds := []) #[false, false, false, false, false, false, false, false, false, false, false, false, false, false, false, false, false, false, false] (by kernel_rfl) rfl rfl ⟨(a9 ar.out 0).trans rfl, (a9 ar.out 1).trans rfl⟩ (fun hHeld => ?_); refine cm fastilaw15_SearchMinimal.tab20 fastilaw15_SearchMinimal.bits20 (fun HT_ HW_ => ?_)
                    generalize wc.drew = w79 at bf ar HB bZ ca hHeld ⊢
                    refine aq (i := 2) (N := some 119) (v := ?_) (a' := ?_) #[false, false, true, false, false, false, false, false, false, false, false, false, false, false, false, false, false, false, false] rfl rfl (ak HT_.out (by kernel_rfl)) (fun _ _ _ h => h) (Or.inl ⟨by rfl, ?_⟩) ?_ ?_
                    rotate_left
                    ·intro w'
                     go_simp
                     with_reducible rfl
                    rotate_left
                    ·simp only [Act.put, List.setIfInBounds_toArray, List.set_cons_zero, List.set_cons_succ, al, ao]
                     rfl
                    refine aq (i := 3) (N := some 120) (v := ?_) (a' := ?_) #[false, false, true, true, false, false, false, false, false, false, false, false, false, false, false, false, false, false, false] rfl rfl (ak HT_.out (by kernel_rfl)) (fun _ _ _ h => h) (Or.inl ⟨by rfl, ?_⟩) ?_ ?_
                    rotate_left
                    ·intro w'
                     go_simp
                     with_reducible rfl
                    rotate_left
                    ·simp only [Act.put, List.setIfInBounds_toArray, List.set_cons_zero, List.set_cons_succ, al, ao]
                     rfl
                    refine aq (i := 4) (N := some 121) (v := ?_) (a' := ?_) #[false, false, true, true, true, false, false, false, false, false, false, false, false, false, false, false, false, false, false] rfl rfl (ak HT_.out (by kernel_rfl)) (fun _ _ _ h => h) (Or.inl ⟨by rfl, ?_⟩) ?_ ?_
                    rotate_left
                    ·intro w'
                     go_simp
                     with_reducible rfl
                    rotate_left
                    ·simp only [Act.put, List.setIfInBounds_toArray, List.set_cons_zero, List.set_cons_succ, al, ao]
                     rfl
                    refine aq (i := 6) (N := some 123) (v := ?_) (a' := ?_) #[false, false, true, true, true, false, true, false, false, false, false, false, false, false, false, false, false, false, false] rfl rfl (ak HT_.out (by kernel_rfl)) (fun _ _ _ h => h) (Or.inl ⟨by rfl, ?_⟩) ?_ ?_
                    rotate_left
                    ·intro w'
                     go_simp
                     with_reducible rfl
                    rotate_left
                    ·simp only [Act.put, List.setIfInBounds_toArray, List.set_cons_zero, List.set_cons_succ, al, ao]
                     rfl
                    refine aq (i := 7) (N := some 124) (v := ?_) (a' := ?_) #[false, false, true, true, true, false, true, true, false, false, false, false, false, false, false, false, false, false, false] rfl rfl (ak HT_.out (by kernel_rfl)) (fun _ _ _ h => h) (Or.inl ⟨by rfl, ?_⟩) ?_ ?_
                    rotate_left
                    ·intro w'
                     go_simp
                     with_reducible rfl
                    rotate_left
                    ·simp only [Act.put, List.setIfInBounds_toArray, List.set_cons_zero, List.set_cons_succ, al, ao]
                     rfl
                    refine aq (i := 8) (N := some 125) (v := ?_) (a' := ?_) #[false, false, true, true, true, false, true, true, true, false, false, false, false, false, false, false, false, false, false] rfl rfl (ak HT_.out (by kernel_rfl)) (fun _ _ _ h => h) (Or.inl ⟨by rfl, ?_⟩) ?_ ?_
                    rotate_left
                    ·intro w'
                     go_simp
                     with_reducible rfl
                    rotate_left
                    ·simp only [Act.put, List.setIfInBounds_toArray, List.set_cons_zero, List.set_cons_succ, al, ao]
                     rfl
                    refine aq (i := 9) (N := some 126) (v := ?_) (a' := ?_) #[false, false, true, true, true, false, true, true, true, true, false, false, false, false, false, false, false, false, false] rfl rfl (ak HT_.out (by kernel_rfl)) (fun _ _ _ h => h) (Or.inl ⟨by rfl, ?_⟩) ?_ ?_
                    rotate_left
                    ·intro w'
                     go_simp
                     with_reducible rfl
                    rotate_left
                    ·simp only [Act.put, List.setIfInBounds_toArray, List.set_cons_zero, List.set_cons_succ, al, ao]
                     rfl
                    refine take_ (i := 0) (N := some 117) (v := ?_) (a' := ?_) #[true, false, true, true, true, false, true, true, true, true, false, false, false, false, false, false, false, false, false] rfl rfl (bc HT_.out HW_.out (by kernel_rfl)) (fun _ _ _ h => h) (Or.inl ⟨by rfl, ?_⟩) hHeld ?_ ?_
                    rotate_left
                    ·rintro w' ⟨s0, s1⟩
                     go_simp
                     with_reducible rfl
                    rotate_left
                    ·simp only [Act.put, List.setIfInBounds_toArray, List.set_cons_zero, List.set_cons_succ, al, ao]
                     rfl
                    refine gl (i := 1) (N := some 118) #[true, true, true, true, true, false, true, true, true, true, false, false, false, false, false, false, false, false, false] rfl rfl (bH HT_.out (by kernel_rfl)) (by decide) (fun K hK => ?_)
                    refine Kd.R_lit_step (Kd.int .i64) _ 3 ?hg (N := 118) ?hd (xs := ([] : List Int)) (inner := []) (ok := fun _ => True) (okp := fun _ => True) ?hr ?hp (fun _ hk => hk) trivial (Below.refl _ _) (Nat.le_refl _) (by simp) ?_; (case hd => rfl); (case hg => rfl); (case hr => first | (go_simp; done) | (go_simp; rfl)); (case hp => exact (Reps.none _ _))
                    intro v210 w82 ho83 hb hg_ hnew_
                    clear hg_ hnew_
                    (first | rw [← Ny209.out] at ho83 | (simp only [Int.reduceToNat] at ho83; rw [← Ny209.out] at ho83))
                    have n0_ := Aside0.mk (Kd.R_elder' (by (with_reducible repeat (first | apply Kd.R_alloc | apply Kd.R_drewN | apply Kd.R_drew)); exact bf.out) (Kd.R_base ho83) hb)
                    have n1_ := Aside0.mk (Kd.V_elder' (by (with_reducible repeat (first | apply Kd.V_alloc | apply Kd.V_drewN | apply Kd.V_drew)); exact bZ.out) (Kd.R_base ho83) hb)
                    have n2_ := Aside0.mk (Kd.V_elder' (by (with_reducible repeat (first | apply Kd.V_alloc | apply Kd.V_drewN | apply Kd.V_drew)); exact ca.out) (Kd.R_base ho83) hb)
                    have n3_ := Aside0.mk (Kd.R_lower (Kd.R_new' ho83 (Kd.R_lt (by (with_reducible repeat (first | apply Kd.R_alloc | apply Kd.R_drewN | apply Kd.R_drew)); exact bf.out))) (ag (by repeat (first | (with_reducible first | exact HB.out | apply a6 | apply a4 | apply a5 | refine a7 ?_ bg.out) | exact HB.out))))
                    have n4_ := Aside0.mk (ae (g := aZ) (o := .cells #[.slice ay ai.length ax, .slice az af.length aw] 25 (0, 0)) (by (with_reducible repeat (first | refine aa ?_ _ | refine ac ?_ | refine a8 ?_ _)); exact ar.out) hb)
                    have n5_ := Aside0.mk (aj (by repeat (first | (with_reducible first | exact HB.out | apply a6 | apply a4 | apply a5 | refine a7 ?_ bg.out) | exact HB.out)) hb)
                    clear bf
                    clear bZ
                    clear ca
                    clear ar
                    clear HB
                    have bf := n0_
                    have bZ := n1_
                    have ca := n2_
                    have HO211 := n3_
                    have ar := n4_
                    have HB := n5_
                    clear n0_ n1_ n2_ n3_ n4_ n5_
                    clear hb ho83
                    refine hK.out _ _ ⟨(a9 ar.out 0).trans rfl, (a9 ar.out 1).trans rfl⟩ (fun hHeld => ?_)
                    clear hK K
                    refine cS (a' := ?_) ?_ ?_
                    rotate_left
                    ·show Act.put _ (some 118) _ = _
                     simp only [Act.put, List.setIfInBounds_toArray, List.set_cons_zero, List.set_cons_succ, al, ao]
                     rfl
                    refine gl (i := 5) (N := some 122) #[true, true, true, true, true, true, true, true, true, true, false, false, false, false, false, false, false, false, false] rfl rfl (bH HT_.out (by kernel_rfl)) (by decide) (fun K hK => ?_)
                    refine Kd.R_append_rows_step (Kd.int .i64) (w0 := w) w.heap.size (by rfl) (.tmp 118) (.tmp 121) 26 3 (.int .i64 0) 8 rfl Try.underlying26 info3 rfl (by decide) (by omega) v210 y209 y212 _ _ _ (fun k_ => some k_ ≠ (.slice Ao59 t184.length fc : Value).ownBlock) (fun _ => False) rfl rfl ?aO ?aR (fun _ _ h => h) (fun _ h => h.elim) ?aF ?aB ?aS ?aL ?_
                    (case aR => repeat (first | exact (Kd.V_reads' bZ.out).2.2 | (with_reducible refine Kd.C_alloc ?_ _) | (with_reducible refine Kd.C_drewN ?_ _) | (with_reducible refine Kd.C_drew ?_)))
                    (case aB => exact (by repeat (first | (with_reducible first | exact HB.out | apply a6 | apply a4 | apply a5 | refine a7 ?_ bg.out) | exact HB.out)))
                    (case aF => exact (fun k_ hk => Kd.fresh' (Kd.R_lt (by (with_reducible repeat (first | apply Kd.R_alloc | apply Kd.R_drewN | apply Kd.R_drew)); exact bf.out)) k_ hk))
                    (case aO => exact (by (with_reducible repeat (first | apply Kd.R_alloc | apply Kd.R_drewN | apply Kd.R_drew)); exact Kd.R_mono HO211.out (fun _ hk => hk.2)))
                    (case aS => exact (ag (by repeat (first | (with_reducible first | exact HB.out | apply a6 | apply a4 | apply a5 | refine a7 ?_ bg.out) | exact HB.out))))
                    (case aL => have := LMc71.out; omega)
                    intro v218 w84 ho hb hg hat
                    rw [← Ny217.out] at ho
                    have n0_ := Aside0.mk (Kd.R_after (ok := (fun _ => True)) (by (with_reducible repeat (first | apply Kd.R_alloc | apply Kd.R_drewN | apply Kd.R_drew)); exact bf.out) hg hat)
                    have n1_ := Aside0.mk (cJ (g := aZ) (o := .cells #[.slice ay ai.length ax, .slice az af.length aw] 25 (0, 0)) (by (with_reducible repeat (first | refine aa ?_ _ | refine ac ?_ | refine a8 ?_ _)); exact ar.out) hg (Kd.R_ne HO211.out ar.out (by decide)))
                    have n2_ := Aside0.mk (Kd.V_afterv (ok := (fun k_ => k_ ≠ aZ)) (by (with_reducible repeat (first | apply Kd.V_alloc | apply Kd.V_drewN | apply Kd.V_drew)); exact Kd.V_mono bZ.out (fun _ hk => ⟨hk.1.2, hk.2⟩)) hg hat)
                    have n3_ := Aside0.mk (Kd.V_afterv (ok := (fun k_ => k_ ≠ aZ)) (by (with_reducible repeat (first | apply Kd.V_alloc | apply Kd.V_drewN | apply Kd.V_drew)); exact Kd.V_mono ca.out (fun _ hk => ⟨hk.1.2, hk.2⟩)) hg hat)
                    have n4_ := Aside0.mk (hb)
                    have n5_ := Aside0.mk (ho)
                    clear bf
                    clear ar
                    clear bZ
                    clear ca
                    clear HB
                    clear HO211
                    have bf := n0_
                    have ar := n1_
                    have bZ := n2_
                    have ca := n3_
                    have HB := n4_
                    have HO219 := n5_
                    clear n0_ n1_ n2_ n3_ n4_ n5_
                    clear ho hb hg hat
                    refine hK.out _ _ ⟨(a9 ar.out 0).trans rfl, (a9 ar.out 1).trans rfl⟩ (fun hHeld => ?_)
                    clear hK K
                    refine cS (a' := ?_) ?_ ?_
                    rotate_left
                    ·show Act.put _ (some 122) _ = _
                     simp only [Act.put, List.setIfInBounds_toArray, List.set_cons_zero, List.set_cons_succ, al, ao]
                     rfl
                    refine gl (i := 10) (N := some 127) #[true, true, true, true, true, true, true, true, true, true, true, false, false, false, false, false, false, false, false] rfl rfl (bH HT_.out (by kernel_rfl)) (by decide) (fun K hK => ?_)
                    refine Kd.R_append_rows_step (Kd.int .i64) (w0 := w) w.heap.size (by rfl) (.tmp 122) (.tmp 126) 26 3 (.int .i64 0) 8 rfl Try.underlying26 info3 rfl (by decide) (by omega) v218 y217 y220 _ _ _ (fun k_ => some k_ ≠ (.slice Ao59 t184.length fc : Value).ownBlock) (fun _ => False) rfl rfl ?aO ?aR (fun _ _ h => h) (fun _ h => h.elim) ?aF ?aB ?aS ?aL ?_
                    (case aR => repeat (first | exact (Kd.V_reads' ca.out).2.2 | (with_reducible refine Kd.C_alloc ?_ _) | (with_reducible refine Kd.C_drewN ?_ _) | (with_reducible refine Kd.C_drew ?_)))
                    (case aB => exact (by repeat (first | (with_reducible first | exact HB.out | apply a6 | apply a4 | apply a5 | refine a7 ?_ bg.out) | exact HB.out)))
                    (case aF => exact (fun k_ hk => Kd.fresh' (Kd.R_lt (by (with_reducible repeat (first | apply Kd.R_alloc | apply Kd.R_drewN | apply Kd.R_drew)); exact bf.out)) k_ hk))
                    (case aO => exact (by (with_reducible repeat (first | apply Kd.R_alloc | apply Kd.R_drewN | apply Kd.R_drew)); exact HO219.out))
                    (case aS => exact (ag (by repeat (first | (with_reducible first | exact HB.out | apply a6 | apply a4 | apply a5 | refine a7 ?_ bg.out) | exact HB.out))))
                    (case aL => have := LMc75.out; omega)
                    intro v226 w85 ho hb hg hat
                    rw [← Ny225.out] at ho
                    have n0_ := Aside0.mk (Kd.R_after (ok := (fun _ => True)) (by (with_reducible repeat (first | apply Kd.R_alloc | apply Kd.R_drewN | apply Kd.R_drew)); exact bf.out) hg hat)
                    have n1_ := Aside0.mk (cJ (g := aZ) (o := .cells #[.slice ay ai.length ax, .slice az af.length aw] 25 (0, 0)) (by (with_reducible repeat (first | refine aa ?_ _ | refine ac ?_ | refine a8 ?_ _)); exact ar.out) hg (Kd.R_ne HO219.out ar.out (by decide)))
                    have n2_ := Aside0.mk (Kd.V_afterv (ok := (fun k_ => k_ ≠ aZ)) (by (with_reducible repeat (first | apply Kd.V_alloc | apply Kd.V_drewN | apply Kd.V_drew)); exact bZ.out) hg hat)
                    have n3_ := Aside0.mk (Kd.V_afterv (ok := (fun k_ => k_ ≠ aZ)) (by (with_reducible repeat (first | apply Kd.V_alloc | apply Kd.V_drewN | apply Kd.V_drew)); exact ca.out) hg hat)
                    have n4_ := Aside0.mk (hb)
                    have n5_ := Aside0.mk (ho)
                    clear bf
                    clear ar
                    clear bZ
                    clear ca
                    clear HB
                    clear HO219
                    have bf := n0_
                    have ar := n1_
                    have bZ := n2_
                    have ca := n3_
                    have HB := n4_
                    have cj := n5_
                    clear n0_ n1_ n2_ n3_ n4_ n5_
                    clear ho hb hg hat
                    obtain ⟨Ao86, co86, eo86⟩ := Kd.R_slice cj.out
                    (first | subst eo86 | (injection eo86 with f1_ f2_ f3_; have f4_ := f1_.symm; have f5_ := f3_.symm; clear f1_ f2_ f3_; subst f4_; subst f5_))
                    refine hK.out _ _ ⟨(a9 ar.out 0).trans rfl, (a9 ar.out 1).trans rfl⟩ (fun hHeld => ?_)
                    clear hK K
                    refine cS (a' := ?_) ?_ ?_
                    rotate_left
                    ·show Act.put _ (some 127) _ = _
                     simp only [Act.put, List.setIfInBounds_toArray, List.set_cons_zero, List.set_cons_succ, al, ao]
                     rfl
                    refine gl (i := 11) (N := some 128) #[true, true, true, true, true, true, true, true, true, true, true, true, false, false, false, false, false, false, false] rfl rfl (bH HT_.out (by kernel_rfl)) (by decide) (fun K hK => ?_)
                    refine goes_ Try.func28 (by kernel_rfl) rfl #[.agg #[.slice ay ai.length ax, .slice az af.length aw], .slice Ao86 y225.length co86] (by rfl) rfl rfl (by (try simp only [List.map_toArray, List.map_cons, List.map_nil]); first | done | rfl | (simp only [List.length_drop, List.length_take]; rfl)) ?_
                    with_reducible refine (fastiref15_Some.calls kj57 (fun k_ => k_ < w.heap.size) _ _ ai (fun k_ => k_ < w.heap.size) _ _ af _ _ y225 t228 t231 _ ?side1 ?side2 ?side3 ?side4 A76.out).mono ?_
                    (case side1 => exact Kd.V_mk bC.out (Kd.F_below (Kd.C_F (Kd.heap_slice 3 (Kd.heap_int .i64)) bv.out) (by repeat (first | (with_reducible first | exact HB.out | apply a6 | apply a4 | apply a5 | refine a7 ?_ bg.out) | exact HB.out))))
                    (case side2 => exact Kd.V_mk bB.out (Kd.F_below (Kd.C_F gz br.out) (by repeat (first | (with_reducible first | exact HB.out | apply a6 | apply a4 | apply a5 | refine a7 ?_ bg.out) | exact HB.out))))
                    (case side3 => repeat (first | exact (Kd.R_reads' cj.out).2.2 | (with_reducible refine Kd.C_alloc ?_ _) | (with_reducible refine Kd.C_drewN ?_ _) | (with_reducible refine Kd.C_drew ?_)))
                    (case side4 => exact (Kd.R_reads' cj.out).2.1)
                    rintro e w87 ⟨v229, v232, rfl, ho0, ho1, hb⟩
                    refine ⟨_, rfl, ?_⟩
                    have n0_ := Aside0.mk (Kd.R_below (by (with_reducible repeat (first | apply Kd.R_alloc | apply Kd.R_drewN | apply Kd.R_drew)); exact bf.out) hb)
                    have n1_ := Aside0.mk (Kd.V_elder' (by (with_reducible repeat (first | apply Kd.V_alloc | apply Kd.V_drewN | apply Kd.V_drew)); exact bZ.out) (Kd.N_base ho1) hb)
                    have n2_ := Aside0.mk (Kd.V_elder' (by (with_reducible repeat (first | apply Kd.V_alloc | apply Kd.V_drewN | apply Kd.V_drew)); exact ca.out) (Kd.N_base ho1) hb)
                    have n3_ := Aside0.mk (Kd.R_below (by (with_reducible repeat (first | apply Kd.R_alloc | apply Kd.R_drewN | apply Kd.R_drew)); exact cj.out) hb)
                    have n4_ := Aside0.mk (Kd.V_lower (Kd.V_mono (ok' := fun k_ => some k_ ≠ (v232 : Value).ownBlock ∧ some k_ ≠ (.slice Ao59 t184.length fc : Value).ownBlock ∧ some k_ ≠ (.slice Ao86 y225.length co86 : Value).ownBlock ∧ k_ ≠ aZ) ho0 (fun k_ hk_ => ⟨hk_.2, Or.elim hk_.1 (fun hs_ => Or.elim hs_ (fun hs_ => fun e_ => Nat.not_le.2 hs_ (Kd.R_base bf.out k_ e_.symm)) (fun hs_ => fun e_ => Nat.not_le.2 hs_ (Kd.R_base bf.out k_ e_.symm))) (fun hn_ => (Kd.fresh' (Kd.R_lt (by (with_reducible repeat (first | apply Kd.R_alloc | apply Kd.R_drewN | apply Kd.R_drew)); exact bf.out)) k_ hn_)), Or.elim hk_.1 (fun hs_ => Or.elim hs_ (fun hs_ => fun e_ => Nat.not_le.2 hs_ (Kd.R_base cj.out k_ e_.symm)) (fun hs_ => fun e_ => Nat.not_le.2 hs_ (Kd.R_base cj.out k_ e_.symm))) (fun hn_ => (Kd.fresh' (Kd.R_lt (by (with_reducible repeat (first | apply Kd.R_alloc | apply Kd.R_drewN | apply Kd.R_drew)); exact cj.out)) k_ hn_)), Or.elim hk_.1 (fun hs_ => Or.elim hs_ (fun hs_ => fun e_ => Nat.not_le.2 hs_ (by rw [e_]; exact fw.out)) (fun hs_ => fun e_ => Nat.not_le.2 hs_ (by rw [e_]; exact fw.out))) (fun hn_ => (Kd.freshB (g := aZ) (o := .cells #[.slice ay ai.length ax, .slice az af.length aw] 25 (0, 0)) (by (with_reducible repeat (first | refine aa ?_ _ | refine ac ?_ | refine a8 ?_ _)); exact ar.out) k_ hn_))⟩)) (ag (by repeat (first | (with_reducible first | exact HB.out | apply a6 | apply a4 | apply a5 | refine a7 ?_ bg.out) | exact HB.out))))
                    have n5_ := Aside0.mk (Kd.N_lower (Kd.N_mono (ok' := fun k_ => some k_ ≠ (.slice Ao59 t184.length fc : Value).ownBlock ∧ some k_ ≠ (.slice Ao86 y225.length co86 : Value).ownBlock ∧ k_ ≠ aZ) ho1 (fun k_ hk_ => ⟨Or.elim hk_ (fun hs_ => Or.elim hs_ (fun hs_ => fun e_ => Nat.not_le.2 hs_ (Kd.R_base bf.out k_ e_.symm)) (fun hs_ => fun e_ => Nat.not_le.2 hs_ (Kd.R_base bf.out k_ e_.symm))) (fun hn_ => (Kd.fresh' (Kd.R_lt (by (with_reducible repeat (first | apply Kd.R_alloc | apply Kd.R_drewN | apply Kd.R_drew)); exact bf.out)) k_ hn_)), Or.elim hk_ (fun hs_ => Or.elim hs_ (fun hs_ => fun e_ => Nat.not_le.2 hs_ (Kd.R_base cj.out k_ e_.symm)) (fun hs_ => fun e_ => Nat.not_le.2 hs_ (Kd.R_base cj.out k_ e_.symm))) (fun hn_ => (Kd.fresh' (Kd.R_lt (by (with_reducible repeat (first | apply Kd.R_alloc | apply Kd.R_drewN | apply Kd.R_drew)); exact cj.out)) k_ hn_)), Or.elim hk_ (fun hs_ => Or.elim hs_ (fun hs_ => fun e_ => Nat.not_le.2 hs_ (by rw [e_]; exact fw.out)) (fun hs_ => fun e_ => Nat.not_le.2 hs_ (by rw [e_]; exact fw.out))) (fun hn_ => (Kd.freshB (g := aZ) (o := .cells #[.slice ay ai.length ax, .slice az af.length aw] 25 (0, 0)) (by (with_reducible repeat (first | refine aa ?_ _ | refine ac ?_ | refine a8 ?_ _)); exact ar.out) k_ hn_))⟩)) (ag (by repeat (first | (with_reducible first | exact HB.out | apply a6 | apply a4 | apply a5 | refine a7 ?_ bg.out) | exact HB.out))))
                    have n6_ := Aside0.mk (ae (g := aZ) (o := .cells #[.slice ay ai.length ax, .slice az af.length aw] 25 (0, 0)) (by (with_reducible repeat (first | refine aa ?_ _ | refine ac ?_ | refine a8 ?_ _)); exact ar.out) hb)
                    have n7_ := Aside0.mk (aj (by repeat (first | (with_reducible first | exact HB.out | apply a6 | apply a4 | apply a5 | refine a7 ?_ bg.out) | exact HB.out)) hb)
                    clear bf
                    clear bZ
                    clear ca
                    clear cj
                    clear ar
                    clear HB
                    have bf := n0_
                    have bZ := n1_
                    have ca := n2_
                    have cj := n3_
                    have g8 := n4_
                    have g9 := n5_
                    have ar := n6_
                    have HB := n7_
                    clear n0_ n1_ n2_ n3_ n4_ n5_ n6_ n7_
                    (try clear hb)
                    (try clear hb2)
                    (try clear hk)
                    (try clear hi)
                    (try clear ho0)
                    (try clear ho1)
                    obtain ⟨Ao88, co88, eo88⟩ := Kd.V_slice g8.out
                    (first | subst eo88 | (injection eo88 with f1_ f2_ f3_; have f4_ := f1_.symm; have f5_ := f3_.symm; clear f1_ f2_ f3_; subst f4_; subst f5_))
                    obtain ⟨Ao89, co89, eo89⟩ := Kd.N_slice g9.out
                    (first | subst eo89 | (injection eo89 with f1_ f2_ f3_; have f4_ := f1_.symm; have f5_ := f3_.symm; clear f1_ f2_ f3_; subst f4_; subst f5_))
                    refine hK.out _ _ ⟨(a9 ar.out 0).trans rfl, (a9 ar.out 1).trans rfl⟩ (fun hHeld => ?_)
                    clear hK K
                    refine cS (a' := ?_) ?_ ?_
                    rotate_left
                    ·show Act.put _ (some 128) _ = _
                     simp only [Act.put, List.setIfInBounds_toArray, List.set_cons_zero, List.set_cons_succ, al, ao]
                     rfl
                    refine gl (i := 12) (N := some 129) #[true, true, true, true, true, true, true, true, true, true, true, true, true, false, false, false, false, false, false] rfl rfl (bH HT_.out (by kernel_rfl)) (by decide) (fun K hK => ?_)
                    refine goes_ Try.func15 (by kernel_rfl) rfl #[.agg #[.slice Ao88 t228.length co88, .slice Ao89 t231.length co89]] (by rfl) rfl rfl (by (try simp only [List.map_toArray, List.map_cons, List.map_nil]); first | done | rfl | (simp only [List.length_drop, List.length_take]; rfl)) ?_
                    with_reducible refine (search_Solve.calls kj57 _ _ t228 _ _ t231 t234 t237 t238 _ ?side1 ?side2 ?side3 ?side4 A77.out).mono ?_
                    (case side1 => repeat (first | exact (Kd.V_reads' g8.out).2.2 | (with_reducible refine Kd.C_alloc ?_ _) | (with_reducible refine Kd.C_drewN ?_ _) | (with_reducible refine Kd.C_drew ?_)))
                    (case side2 => exact (Kd.V_reads' g8.out).2.1)
                    (case side3 => repeat (first | exact (Kd.N_reads' g9.out).2.2 | (with_reducible refine Kd.C_alloc ?_ _) | (with_reducible refine Kd.C_drewN ?_ _) | (with_reducible refine Kd.C_drew ?_)))
                    (case side4 => exact (Kd.N_reads' g9.out).2.1)
                    rintro e w90 ⟨v235, rfl, ho0, hb⟩
                    refine ⟨_, rfl, ?_⟩
                    have n0_ := Aside0.mk (Kd.R_elder' (by (with_reducible repeat (first | apply Kd.R_alloc | apply Kd.R_drewN | apply Kd.R_drew)); exact bf.out) (Kd.R_base ho0) hb)
                    have n1_ := Aside0.mk (Kd.V_elder' (by (with_reducible repeat (first | apply Kd.V_alloc | apply Kd.V_drewN | apply Kd.V_drew)); exact bZ.out) (Kd.R_base ho0) hb)
                    have n2_ := Aside0.mk (Kd.V_elder' (by (with_reducible repeat (first | apply Kd.V_alloc | apply Kd.V_drewN | apply Kd.V_drew)); exact ca.out) (Kd.R_base ho0) hb)
                    have n3_ := Aside0.mk (Kd.R_elder' (by (with_reducible repeat (first | apply Kd.R_alloc | apply Kd.R_drewN | apply Kd.R_drew)); exact cj.out) (Kd.R_base ho0) hb)
                    have n4_ := Aside0.mk (Kd.V_elder' (by (with_reducible repeat (first | apply Kd.V_alloc | apply Kd.V_drewN | apply Kd.V_drew)); exact g8.out) (Kd.R_base ho0) hb)
                    have n5_ := Aside0.mk (Kd.N_elder' (by (with_reducible repeat (first | apply Kd.N_alloc | apply Kd.N_drewN | apply Kd.N_drew)); exact g9.out) (Kd.R_base ho0) hb)
                    have n6_ := Aside0.mk (Kd.R_lower (Kd.R_new' (Kd.R_new' ho0 (Kd.R_lt (by (with_reducible repeat (first | apply Kd.R_alloc | apply Kd.R_drewN | apply Kd.R_drew)); exact bf.out))) (Kd.R_lt (by (with_reducible repeat (first | apply Kd.R_alloc | apply Kd.R_drewN | apply Kd.R_drew)); exact cj.out))) (ag (by repeat (first | (with_reducible first | exact HB.out | apply a6 | apply a4 | apply a5 | refine a7 ?_ bg.out) | exact HB.out))))
                    have n7_ := Aside0.mk (ae (g := aZ) (o := .cells #[.slice ay ai.length ax, .slice az af.length aw] 25 (0, 0)) (by (with_reducible repeat (first | refine aa ?_ _ | refine ac ?_ | refine a8 ?_ _)); exact ar.out) hb)
                    have n8_ := Aside0.mk (aj (by repeat (first | (with_reducible first | exact HB.out | apply a6 | apply a4 | apply a5 | refine a7 ?_ bg.out) | exact HB.out)) hb)
                    clear bf
                    clear bZ
                    clear ca
                    clear cj
                    clear g8
                    clear g9
                    clear ar
                    clear HB
                    have bf := n0_
                    have bZ := n1_
                    have ca := n2_
                    have cj := n3_
                    have g8 := n4_
                    have g9 := n5_
                    have HO236 := n6_
                    have ar := n7_
                    have HB := n8_
                    clear n0_ n1_ n2_ n3_ n4_ n5_ n6_ n7_ n8_
                    (try clear hb)
                    (try clear hb2)
                    (try clear hk)
                    (try clear hi)
                    (try clear ho0)
                    refine hK.out _ _ ⟨(a9 ar.out 0).trans rfl, (a9 ar.out 1).trans rfl⟩ (fun hHeld => ?_)
                    clear hK K
                    refine cS (a' := ?_) ?_ ?_
                    rotate_left
                    ·show Act.put _ (some 129) _ = _
                     simp only [Act.put, List.setIfInBounds_toArray, List.set_cons_zero, List.set_cons_succ, al, ao]
                     rfl
                    refine aq (i := 13) (N := some 116) (v := ?_) (a' := ?_) #[true, true, true, true, true, true, true, true, true, true, true, true, true, true, false, false, false, false, false] rfl rfl (ak HT_.out (by kernel_rfl)) (fun _ _ _ h => h) (Or.inl ⟨by rfl, ?_⟩) ?_ ?_
                    rotate_left
                    ·intro w'
                     go_simp
                     with_reducible rfl
                    rotate_left
                    ·simp only [Act.put, List.setIfInBounds_toArray, List.set_cons_zero, List.set_cons_succ, al, ao]
                     rfl
                    refine aq (i := 14) (N := some 130) (v := ?_) (a' := ?_) #[true, true, true, true, true, true, true, true, true, true, true, true, true, true, true, false, false, false, false] rfl rfl (ak HT_.out (by kernel_rfl)) (fun _ _ _ h => h) (Or.inl ⟨by rfl, ?_⟩) ?_ ?_
                    rotate_left
                    ·intro w'
                     go_simp
                     with_reducible rfl
                    rotate_left
                    ·simp only [Act.put, List.setIfInBounds_toArray, List.set_cons_zero, List.set_cons_succ, al, ao]
                     rfl
                    refine aq (i := 15) (N := some 131) (v := ?_) (a' := ?_) #[true, true, true, true, true, true, true, true, true, true, true, true, true, true, true, true, false, false, false] rfl rfl (ak HT_.out (by kernel_rfl)) (fun _ _ _ h => h) (Or.inl ⟨by rfl, ?_⟩) ?_ ?_
                    rotate_left
                    ·intro w'
                     go_simp
                     with_reducible rfl
                    rotate_left
                    ·simp only [Act.put, List.setIfInBounds_toArray, List.set_cons_zero, List.set_cons_succ, al, ao]
                     rfl
                    refine aq (i := 16) (N := some 132) (v := ?_) (a' := ?_) #[true, true, true, true, true, true, true, true, true, true, true, true, true, true, true, true, true, false, false] rfl rfl (ak HT_.out (by kernel_rfl)) (fun _ _ _ h => h) (Or.inl ⟨by rfl, ?_⟩) ?_ ?_
                    rotate_left
                    ·intro w'
                     go_simp
                     with_reducible rfl
                    rotate_left
                    ·simp only [Act.put, List.setIfInBounds_toArray, List.set_cons_zero, List.set_cons_succ, al, ao]
                     rfl
                    refine aq (i := 17) (N := some 13) (v := ?_) (a' := ?_) #[true, true, true, true, true, true, true, true, true, true, true, true, true, true, true, true, true, true, false] rfl rfl (ak HT_.out (by kernel_rfl)) (fun _ _ _ h => h) (Or.inl ⟨by rfl, ?_⟩) ?_ ?_
                    rotate_left
                    ·intro w'
                     go_simp
                     with_reducible rfl
                    rotate_left
                    ·simp only [Act.put, List.setIfInBounds_toArray, List.set_cons_zero, List.set_cons_succ, al, ao]
                     rfl
                    refine aq (i := 18) (N := some 14) (v := ?_) (a' := ?_) #[true, true, true, true, true, true, true, true, true, true, true, true, true, true, true, true, true, true, true] rfl rfl (ak HT_.out (by kernel_rfl)) (fun _ _ _ h => h) (Or.inl ⟨by rfl, ?_⟩) ?_ ?_
                    rotate_left
                    ·intro w'
                     go_simp
                     with_reducible rfl
                    rotate_left
                    ·simp only [Act.put, List.setIfInBounds_toArray, List.set_cons_zero, List.set_cons_succ, al, ao]
                     rfl
                    refine ew (cf HT_.out (by kernel_rfl)) ?_
                    try go_wp2
                    go_ret
                    exact ⟨by first | rfl | (simp [am, ap] <;> rfl) | (simp only [← hji68, ← hji72]; first | rfl | (simp [am, ap] <;> rfl)) | (simp [*, am, ap] <;> rfl), by repeat (first | (with_reducible first | exact HB.out | apply a6 | apply a4 | apply a5 | refine a7 ?_ bg.out) | exact HB.out)⟩
                   ·rw [if_neg c78] at H
                    have c78b0 : (t238 == 0) = false := beq_eq_false_iff_ne.mpr c78
                    have c78b1 : (t238 != 0) = true := bne_iff_ne.mpr c78
                    obtain rfl := Option.some.inj H
                    try go_wp2
                    have n0_ := Aside0.mk (Kd.R_drew bf.out)
                    have n1_ := Aside0.mk (ac ar.out)
                    have n2_ := Aside0.mk (a5 HB.out)
                    clear bf
                    clear ar
                    clear HB
                    have bf := n0_
                    have ar := n1_
                    have HB := n2_
                    clear n0_ n1_ n2_
                    have q92 : ((ji68) : Int) ≤ ((t184.length : Int) : Int) := of_decide_eq_true (by first | (with_reducible assumption) | assumption)
                    obtain ⟨i092, hi092, _, hsz92, _⟩ := info_parts info3
                    have hroom92 : t184.length ≤ fc := (Kd.R_reads' bf.out).2.1
                    have hC92 : Kd.F (Kd.int .i64) _ _ Ao59 t184.length t184 := (Kd.V_at (base := w.heap.size) (Kd.R_V (Kd.R_types (bf.out) ar.out (by decide)))).2.2
                    have hcut92 := cut_to (P := Try.prog) 26 3 .i64 Try.underlying26 hi092 Ao59 t184.length fc (ji68) (of_decide_eq_true (by first | (with_reducible assumption) | assumption)) q92 hroom92
                    have hr92 := Kd.F_take (m := ((ji68) : Int).toNat) hC92 (by omega)
                    have hy92 : y212.length = ((ji68) : Int).toNat := (by rw [Ny212.out, List.length_take]; omega)
                    rw [← Ny212.out] at hr92
                    rw [← hy92] at hcut92
                    have bZ := Aside0.mk (show Kd.V (Kd.int .i64) 3 _ w.heap.size _ (.slice Ao59 y212.length fc) y212 from Kd.V_mk (by omega) hr92)
                    have HC216 := Aside0.mk (show y212.length ≤ fc from by omega)
                    clear hr92 hC92 hroom92 hi092 hsz92
                    have KY92 := Aside0.mk hy92
                    clear hy92
                    replace q92 := eq_true q92
                    have q93 : ((ji72) : Int) ≤ ((t184.length : Int) : Int) := of_decide_eq_true (by first | (with_reducible assumption) | assumption)
                    obtain ⟨i093, hi093, _, hsz93, _⟩ := info_parts info3
                    have hroom93 : t184.length ≤ fc := (Kd.R_reads' bf.out).2.1
                    have hC93 : Kd.F (Kd.int .i64) _ _ Ao59 t184.length t184 := (Kd.V_at (base := w.heap.size) (Kd.R_V (Kd.R_types (bf.out) ar.out (by decide)))).2.2
                    have q093 : (0 : Int) ≤ ((ji72) : Int) := of_decide_eq_true (by first | (with_reducible assumption) | assumption)
                    have hcut93 := cut_from (P := Try.prog) 26 3 .i64 Try.underlying26 hi093 1 hsz93 Ao59 t184.length fc (ji72) q093 q93
                    have hr93 := Kd.F_cut (m := ((ji72) : Int).toNat) (c := fc) hC93 (by omega) hroom93
                    obtain ⟨A93, hA93⟩ : ∃ A1, A1 = (if fc = ((ji72) : Int).toNat then Ao59 else (Ao59 : Option Addr).map (·.add (((ji72) : Int).toNat * 1))) := ⟨_, rfl⟩
                    obtain ⟨c93, hc93⟩ : ∃ c1, c1 = fc - ((ji72) : Int).toNat := ⟨_, rfl⟩
                    have hy93 : y220.length = t184.length - ((ji72) : Int).toNat := (by rw [Ny220.out, List.length_drop] <;> omega)
                    rw [show (t184).drop ((ji72) : Int).toNat = y220 from Ny220.out.symm] at hr93
                    replace hr93 : Kd.F (Kd.int .i64) _ _ A93 y220.length y220 := (by rw [hA93]; exact hr93)
                    rw [← hy93, ← hA93, ← hc93] at hcut93
                    have ca := Aside0.mk (show Kd.V (Kd.int .i64) 3 _ w.heap.size _ (.slice A93 y220.length c93) y220 from Kd.V_mk (by rw [hy93, hc93]; exact Nat.sub_le_sub_right hroom93 _) hr93)
                    have HC224 := Aside0.mk (show y220.length ≤ c93 from by rw [hy93, hc93]; exact Nat.sub_le_sub_right hroom93 _)
                    clear hr93 hC93 hroom93 hi093 hsz93 hc93
                    have KY93 := Aside0.mk hy93
                    have KA93 := Aside0.mk hA93
                    clear hy93 hA93
                    replace q93 := eq_true q93
                    refine dg (n := 19) (S := fun w' => w'.cell? ⟨aZ, 0, none⟩ = some (.slice ay ai.length ax) ∧ w'.cell? ⟨aZ, 1, none⟩ = some (.slice az af.length aw)) (ds := []) #[false, false, false, false, false, false, false, false, false, false, false, false, false, false, false, false, false, false, false] (by kernel_rfl) rfl rfl ⟨(a9 ar.out 0).trans rfl, (a9 ar.out 1).trans rfl⟩ (fun hHeld => ?_); refine cm fastilaw15_SearchMinimal.tab20 fastilaw15_SearchMinimal.bits20 (fun HT_ HW_ => ?_)
                    generalize wc.drew = w91 at bf ar HB bZ ca hHeld ⊢
                    refine aq (i := 2) (N := some 119) (v := ?_) (a' := ?_) #[false, false, true, false, false, false, false, false, false, false, false, false, false, false, false, false, false, false, false] rfl rfl (ak HT_.out (by kernel_rfl)) (fun _ _ _ h => h) (Or.inl ⟨by rfl, ?_⟩) ?_ ?_
                    rotate_left
                    ·intro w'
                     go_simp
                     with_reducible rfl
                    rotate_left
                    ·simp only [Act.put, List.setIfInBounds_toArray, List.set_cons_zero, List.set_cons_succ, al, ao]
                     rfl
                    refine aq (i := 3) (N := some 120) (v := ?_) (a' := ?_) #[false, false, true, true, false, false, false, false, false, false, false, false, false, false, false, false, false, false, false] rfl rfl (ak HT_.out (by kernel_rfl)) (fun _ _ _ h => h) (Or.inl ⟨by rfl, ?_⟩) ?_ ?_
                    rotate_left
                    ·intro w'
                     go_simp
                     with_reducible rfl
                    rotate_left
                    ·simp only [Act.put, List.setIfInBounds_toArray, List.set_cons_zero, List.set_cons_succ, al, ao]
                     rfl
                    refine aq (i := 4) (N := some 121) (v := ?_) (a' := ?_) #[false, false, true, true, true, false, false, false, false, false, false, false, false, false, false, false, false, false, false] rfl rfl (ak HT_.out (by kernel_rfl)) (fun _ _ _ h => h) (Or.inl ⟨by rfl, ?_⟩) ?_ ?_
                    rotate_left
                    ·intro w'
                     go_simp
                     with_reducible rfl
                    rotate_left
                    ·simp only [Act.put, List.setIfInBounds_toArray, List.set_cons_zero, List.set_cons_succ, al, ao]
                     rfl
                    refine aq (i := 6) (N := some 123) (v := ?_) (a' := ?_) #[false, false, true, true, true, false, true, false, false, false, false, false, false, false, false, false, false, false, false] rfl rfl (ak HT_.out (by kernel_rfl)) (fun _ _ _ h => h) (Or.inl ⟨by rfl, ?_⟩) ?_ ?_
                    rotate_left
                    ·intro w'
                     go_simp
                     with_reducible rfl
                    rotate_left
                    ·simp only [Act.put, List.setIfInBounds_toArray, List.set_cons_zero, List.set_cons_succ, al, ao]
                     rfl
                    refine aq (i := 7) (N := some 124) (v := ?_) (a' := ?_) #[false, false, true, true, true, false, true, true, false, false, false, false, false, false, false, false, false, false, false] rfl rfl (ak HT_.out (by kernel_rfl)) (fun _ _ _ h => h) (Or.inl ⟨by rfl, ?_⟩) ?_ ?_
                    rotate_left
                    ·intro w'
                     go_simp
                     with_reducible rfl
                    rotate_left
                    ·simp only [Act.put, List.setIfInBounds_toArray, List.set_cons_zero, List.set_cons_succ, al, ao]
                     rfl
                    refine aq (i := 8) (N := some 125) (v := ?_) (a' := ?_) #[false, false, true, true, true, false, true, true, true, false, false, false, false, false, false, false, false, false, false] rfl rfl (ak HT_.out (by kernel_rfl)) (fun _ _ _ h => h) (Or.inl ⟨by rfl, ?_⟩) ?_ ?_
                    rotate_left
                    ·intro w'
                     go_simp
                     with_reducible rfl
                    rotate_left
                    ·simp only [Act.put, List.setIfInBounds_toArray, List.set_cons_zero, List.set_cons_succ, al, ao]
                     rfl
                    refine aq (i := 9) (N := some 126) (v := ?_) (a' := ?_) #[false, false, true, true, true, false, true, true, true, true, false, false, false, false, false, false, false, false, false] rfl rfl (ak HT_.out (by kernel_rfl)) (fun _ _ _ h => h) (Or.inl ⟨by rfl, ?_⟩) ?_ ?_
                    rotate_left
                    ·intro w'
                     go_simp
                     with_reducible rfl
                    rotate_left
                    ·simp only [Act.put, List.setIfInBounds_toArray, List.set_cons_zero, List.set_cons_succ, al, ao]
                     rfl
                    refine take_ (i := 0) (N := some 117) (v := ?_) (a' := ?_) #[true, false, true, true, true, false, true, true, true, true, false, false, false, false, false, false, false, false, false] rfl rfl (bc HT_.out HW_.out (by kernel_rfl)) (fun _ _ _ h => h) (Or.inl ⟨by rfl, ?_⟩) hHeld ?_ ?_
                    rotate_left
                    ·rintro w' ⟨s0, s1⟩
                     go_simp
                     with_reducible rfl
                    rotate_left
                    ·simp only [Act.put, List.setIfInBounds_toArray, List.set_cons_zero, List.set_cons_succ, al, ao]
                     rfl
                    refine gl (i := 1) (N := some 118) #[true, true, true, true, true, false, true, true, true, true, false, false, false, false, false, false, false, false, false] rfl rfl (bH HT_.out (by kernel_rfl)) (by decide) (fun K hK => ?_)
                    refine Kd.R_lit_step (Kd.int .i64) _ 3 ?hg (N := 118) ?hd (xs := ([] : List Int)) (inner := []) (ok := fun _ => True) (okp := fun _ => True) ?hr ?hp (fun _ hk => hk) trivial (Below.refl _ _) (Nat.le_refl _) (by simp) ?_; (case hd => rfl); (case hg => rfl); (case hr => first | (go_simp; done) | (go_simp; rfl)); (case hp => exact (Reps.none _ _))
                    intro v210 w94 ho95 hb hg_ hnew_
                    clear hg_ hnew_
                    (first | rw [← Ny209.out] at ho95 | (simp only [Int.reduceToNat] at ho95; rw [← Ny209.out] at ho95))
                    have n0_ := Aside0.mk (Kd.R_elder' (by (with_reducible repeat (first | apply Kd.R_alloc | apply Kd.R_drewN | apply Kd.R_drew)); exact bf.out) (Kd.R_base ho95) hb)
                    have n1_ := Aside0.mk (Kd.V_elder' (by (with_reducible repeat (first | apply Kd.V_alloc | apply Kd.V_drewN | apply Kd.V_drew)); exact bZ.out) (Kd.R_base ho95) hb)
                    have n2_ := Aside0.mk (Kd.V_elder' (by (with_reducible repeat (first | apply Kd.V_alloc | apply Kd.V_drewN | apply Kd.V_drew)); exact ca.out) (Kd.R_base ho95) hb)
                    have n3_ := Aside0.mk (Kd.R_lower (Kd.R_new' ho95 (Kd.R_lt (by (with_reducible repeat (first | apply Kd.R_alloc | apply Kd.R_drewN | apply Kd.R_drew)); exact bf.out))) (ag (by repeat (first | (with_reducible first | exact HB.out | apply a6 | apply a4 | apply a5 | refine a7 ?_ bg.out) | exact HB.out))))
                    have n4_ := Aside0.mk (ae (g := aZ) (o := .cells #[.slice ay ai.length ax, .slice az af.length aw] 25 (0, 0)) (by (with_reducible repeat (first | refine aa ?_ _ | refine ac ?_ | refine a8 ?_ _)); exact ar.out) hb)
                    have n5_ := Aside0.mk (aj (by repeat (first | (with_reducible first | exact HB.out | apply a6 | apply a4 | apply a5 | refine a7 ?_ bg.out) | exact HB.out)) hb)
                    clear bf
                    clear bZ
                    clear ca
                    clear ar
                    clear HB
                    have bf := n0_
                    have bZ := n1_
                    have ca := n2_
                    have HO211 := n3_
                    have ar := n4_
                    have HB := n5_
                    clear n0_ n1_ n2_ n3_ n4_ n5_
                    clear hb ho95
                    refine hK.out _ _ ⟨(a9 ar.out 0).trans rfl, (a9 ar.out 1).trans rfl⟩ (fun hHeld => ?_)
                    clear hK K
                    refine cS (a' := ?_) ?_ ?_
                    rotate_left
                    ·show Act.put _ (some 118) _ = _
                     simp only [Act.put, List.setIfInBounds_toArray, List.set_cons_zero, List.set_cons_succ, al, ao]
                     rfl
                    refine gl (i := 5) (N := some 122) #[true, true, true, true, true, true, true, true, true, true, false, false, false, false, false, false, false, false, false] rfl rfl (bH HT_.out (by kernel_rfl)) (by decide) (fun K hK => ?_)
                    refine Kd.R_append_rows_step (Kd.int .i64) (w0 := w) w.heap.size (by rfl) (.tmp 118) (.tmp 121) 26 3 (.int .i64 0) 8 rfl Try.underlying26 info3 rfl (by decide) (by omega) v210 y209 y212 _ _ _ (fun k_ => some k_ ≠ (.slice Ao59 t184.length fc : Value).ownBlock) (fun _ => False) rfl rfl ?aO ?aR (fun _ _ h => h) (fun _ h => h.elim) ?aF ?aB ?aS ?aL ?_
                    (case aR => repeat (first | exact (Kd.V_reads' bZ.out).2.2 | (with_reducible refine Kd.C_alloc ?_ _) | (with_reducible refine Kd.C_drewN ?_ _) | (with_reducible refine Kd.C_drew ?_)))
                    (case aB => exact (by repeat (first | (with_reducible first | exact HB.out | apply a6 | apply a4 | apply a5 | refine a7 ?_ bg.out) | exact HB.out)))
                    (case aF => exact (fun k_ hk => Kd.fresh' (Kd.R_lt (by (with_reducible repeat (first | apply Kd.R_alloc | apply Kd.R_drewN | apply Kd.R_drew)); exact bf.out)) k_ hk))
                    (case aO => exact (by (with_reducible repeat (first | apply Kd.R_alloc | apply Kd.R_drewN | apply Kd.R_drew)); exact Kd.R_mono HO211.out (fun _ hk => hk.2)))
                    (case aS => exact (ag (by repeat (first | (with_reducible first | exact HB.out | apply a6 | apply a4 | apply a5 | refine a7 ?_ bg.out) | exact HB.out))))
                    (case aL => have := LMc71.out; omega)
                    intro v218 w96 ho hb hg hat
                    rw [← Ny217.out] at ho
                    have n0_ := Aside0.mk (Kd.R_after (ok := (fun _ => True)) (by (with_reducible repeat (first | apply Kd.R_alloc | apply Kd.R_drewN | apply Kd.R_drew)); exact bf.out) hg hat)
                    have n1_ := Aside0.mk (cJ (g := aZ) (o := .cells #[.slice ay ai.length ax, .slice az af.length aw] 25 (0, 0)) (by (with_reducible repeat (first | refine aa ?_ _ | refine ac ?_ | refine a8 ?_ _)); exact ar.out) hg (Kd.R_ne HO211.out ar.out (by decide)))
                    have n2_ := Aside0.mk (Kd.V_afterv (ok := (fun k_ => k_ ≠ aZ)) (by (with_reducible repeat (first | apply Kd.V_alloc | apply Kd.V_drewN | apply Kd.V_drew)); exact Kd.V_mono bZ.out (fun _ hk => ⟨hk.1.2, hk.2⟩)) hg hat)
                    have n3_ := Aside0.mk (Kd.V_afterv (ok := (fun k_ => k_ ≠ aZ)) (by (with_reducible repeat (first | apply Kd.V_alloc | apply Kd.V_drewN | apply Kd.V_drew)); exact Kd.V_mono ca.out (fun _ hk => ⟨hk.1.2, hk.2⟩)) hg hat)
                    have n4_ := Aside0.mk (hb)
                    have n5_ := Aside0.mk (ho)
                    clear bf
                    clear ar
                    clear bZ
                    clear ca
                    clear HB
                    clear HO211
                    have bf := n0_
                    have ar := n1_
                    have bZ := n2_
                    have ca := n3_
                    have HB := n4_
                    have HO219 := n5_
                    clear n0_ n1_ n2_ n3_ n4_ n5_
                    clear ho hb hg hat
                    refine hK.out _ _ ⟨(a9 ar.out 0).trans rfl, (a9 ar.out 1).trans rfl⟩ (fun hHeld => ?_)
                    clear hK K
                    refine cS (a' := ?_) ?_ ?_
                    rotate_left
                    ·show Act.put _ (some 122) _ = _
                     simp only [Act.put, List.setIfInBounds_toArray, List.set_cons_zero, List.set_cons_succ, al, ao]
                     rfl
                    refine gl (i := 10) (N := some 127) #[true, true, true, true, true, true, true, true, true, true, true, false, false, false, false, false, false, false, false] rfl rfl (bH HT_.out (by kernel_rfl)) (by decide) (fun K hK => ?_)
                    refine Kd.R_append_rows_step (Kd.int .i64) (w0 := w) w.heap.size (by rfl) (.tmp 122) (.tmp 126) 26 3 (.int .i64 0) 8 rfl Try.underlying26 info3 rfl (by decide) (by omega) v218 y217 y220 _ _ _ (fun k_ => some k_ ≠ (.slice Ao59 t184.length fc : Value).ownBlock) (fun _ => False) rfl rfl ?aO ?aR (fun _ _ h => h) (fun _ h => h.elim) ?aF ?aB ?aS ?aL ?_
                    (case aR => repeat (first | exact (Kd.V_reads' ca.out).2.2 | (with_reducible refine Kd.C_alloc ?_ _) | (with_reducible refine Kd.C_drewN ?_ _) | (with_reducible refine Kd.C_drew ?_)))
                    (case aB => exact (by repeat (first | (with_reducible first | exact HB.out | apply a6 | apply a4 | apply a5 | refine a7 ?_ bg.out) | exact HB.out)))
                    (case aF => exact (fun k_ hk => Kd.fresh' (Kd.R_lt (by (with_reducible repeat (first | apply Kd.R_alloc | apply Kd.R_drewN | apply Kd.R_drew)); exact bf.out)) k_ hk))
                    (case aO => exact (by (with_reducible repeat (first | apply Kd.R_alloc | apply Kd.R_drewN | apply Kd.R_drew)); exact HO219.out))
                    (case aS => exact (ag (by repeat (first | (with_reducible first | exact HB.out | apply a6 | apply a4 | apply a5 | refine a7 ?_ bg.out) | exact HB.out))))
                    (case aL => have := LMc75.out; omega)
                    intro v226 w97 ho hb hg hat
                    rw [← Ny225.out] at ho
                    have n0_ := Aside0.mk (Kd.R_after (ok := (fun _ => True)) (by (with_reducible repeat (first | apply Kd.R_alloc | apply Kd.R_drewN | apply Kd.R_drew)); exact bf.out) hg hat)
                    have n1_ := Aside0.mk (cJ (g := aZ) (o := .cells #[.slice ay ai.length ax, .slice az af.length aw] 25 (0, 0)) (by (with_reducible repeat (first | refine aa ?_ _ | refine ac ?_ | refine a8 ?_ _)); exact ar.out) hg (Kd.R_ne HO219.out ar.out (by decide)))
                    have n2_ := Aside0.mk (Kd.V_afterv (ok := (fun k_ => k_ ≠ aZ)) (by (with_reducible repeat (first | apply Kd.V_alloc | apply Kd.V_drewN | apply Kd.V_drew)); exact bZ.out) hg hat)
                    have n3_ := Aside0.mk (Kd.V_afterv (ok := (fun k_ => k_ ≠ aZ)) (by (with_reducible repeat (first | apply Kd.V_alloc | apply Kd.V_drewN | apply Kd.V_drew)); exact ca.out) hg hat)
                    have n4_ := Aside0.mk (hb)
                    have n5_ := Aside0.mk (ho)
                    clear bf
                    clear ar
                    clear bZ
                    clear ca
                    clear HB
                    clear HO219
                    have bf := n0_
                    have ar := n1_
                    have bZ := n2_
                    have ca := n3_
                    have HB := n4_
                    have cj := n5_
                    clear n0_ n1_ n2_ n3_ n4_ n5_
                    clear ho hb hg hat
                    obtain ⟨Ao98, co98, eo98⟩ := Kd.R_slice cj.out
                    (first | subst eo98 | (injection eo98 with f1_ f2_ f3_; have f4_ := f1_.symm; have f5_ := f3_.symm; clear f1_ f2_ f3_; subst f4_; subst f5_))
                    refine hK.out _ _ ⟨(a9 ar.out 0).trans rfl, (a9 ar.out 1).trans rfl⟩ (fun hHeld => ?_)
                    clear hK K
                    refine cS (a' := ?_) ?_ ?_
                    rotate_left
                    ·show Act.put _ (some 127) _ = _
                     simp only [Act.put, List.setIfInBounds_toArray, List.set_cons_zero, List.set_cons_succ, al, ao]
                     rfl
                    refine gl (i := 11) (N := some 128) #[true, true, true, true, true, true, true, true, true, true, true, true, false, false, false, false, false, false, false] rfl rfl (bH HT_.out (by kernel_rfl)) (by decide) (fun K hK => ?_)
                    refine goes_ Try.func28 (by kernel_rfl) rfl #[.agg #[.slice ay ai.length ax, .slice az af.length aw], .slice Ao98 y225.length co98] (by rfl) rfl rfl (by (try simp only [List.map_toArray, List.map_cons, List.map_nil]); first | done | rfl | (simp only [List.length_drop, List.length_take]; rfl)) ?_
                    with_reducible refine (fastiref15_Some.calls kj57 (fun k_ => k_ < w.heap.size) _ _ ai (fun k_ => k_ < w.heap.size) _ _ af _ _ y225 t228 t231 _ ?side1 ?side2 ?side3 ?side4 A76.out).mono ?_
                    (case side1 => exact Kd.V_mk bC.out (Kd.F_below (Kd.C_F (Kd.heap_slice 3 (Kd.heap_int .i64)) bv.out) (by repeat (first | (with_reducible first | exact HB.out | apply a6 | apply a4 | apply a5 | refine a7 ?_ bg.out) | exact HB.out))))
                    (case side2 => exact Kd.V_mk bB.out (Kd.F_below (Kd.C_F gz br.out) (by repeat (first | (with_reducible first | exact HB.out | apply a6 | apply a4 | apply a5 | refine a7 ?_ bg.out) | exact HB.out))))
                    (case side3 => repeat (first | exact (Kd.R_reads' cj.out).2.2 | (with_reducible refine Kd.C_alloc ?_ _) | (with_reducible refine Kd.C_drewN ?_ _) | (with_reducible refine Kd.C_drew ?_)))
                    (case side4 => exact (Kd.R_reads' cj.out).2.1)
                    rintro e w99 ⟨v229, v232, rfl, ho0, ho1, hb⟩
                    refine ⟨_, rfl, ?_⟩
                    have n0_ := Aside0.mk (Kd.R_below (by (with_reducible repeat (first | apply Kd.R_alloc | apply Kd.R_drewN | apply Kd.R_drew)); exact bf.out) hb)
                    have n1_ := Aside0.mk (Kd.V_elder' (by (with_reducible repeat (first | apply Kd.V_alloc | apply Kd.V_drewN | apply Kd.V_drew)); exact bZ.out) (Kd.N_base ho1) hb)
                    have n2_ := Aside0.mk (Kd.V_elder' (by (with_reducible repeat (first | apply Kd.V_alloc | apply Kd.V_drewN | apply Kd.V_drew)); exact ca.out) (Kd.N_base ho1) hb)
                    have n3_ := Aside0.mk (Kd.R_below (by (with_reducible repeat (first | apply Kd.R_alloc | apply Kd.R_drewN | apply Kd.R_drew)); exact cj.out) hb)
                    have n4_ := Aside0.mk (Kd.V_lower (Kd.V_mono (ok' := fun k_ => some k_ ≠ (v232 : Value).ownBlock ∧ some k_ ≠ (.slice Ao59 t184.length fc : Value).ownBlock ∧ some k_ ≠ (.slice Ao98 y225.length co98 : Value).ownBlock ∧ k_ ≠ aZ) ho0 (fun k_ hk_ => ⟨hk_.2, Or.elim hk_.1 (fun hs_ => Or.elim hs_ (fun hs_ => fun e_ => Nat.not_le.2 hs_ (Kd.R_base bf.out k_ e_.symm)) (fun hs_ => fun e_ => Nat.not_le.2 hs_ (Kd.R_base bf.out k_ e_.symm))) (fun hn_ => (Kd.fresh' (Kd.R_lt (by (with_reducible repeat (first | apply Kd.R_alloc | apply Kd.R_drewN | apply Kd.R_drew)); exact bf.out)) k_ hn_)), Or.elim hk_.1 (fun hs_ => Or.elim hs_ (fun hs_ => fun e_ => Nat.not_le.2 hs_ (Kd.R_base cj.out k_ e_.symm)) (fun hs_ => fun e_ => Nat.not_le.2 hs_ (Kd.R_base cj.out k_ e_.symm))) (fun hn_ => (Kd.fresh' (Kd.R_lt (by (with_reducible repeat (first | apply Kd.R_alloc | apply Kd.R_drewN | apply Kd.R_drew)); exact cj.out)) k_ hn_)), Or.elim hk_.1 (fun hs_ => Or.elim hs_ (fun hs_ => fun e_ => Nat.not_le.2 hs_ (by rw [e_]; exact fw.out)) (fun hs_ => fun e_ => Nat.not_le.2 hs_ (by rw [e_]; exact fw.out))) (fun hn_ => (Kd.freshB (g := aZ) (o := .cells #[.slice ay ai.length ax, .slice az af.length aw] 25 (0, 0)) (by (with_reducible repeat (first | refine aa ?_ _ | refine ac ?_ | refine a8 ?_ _)); exact ar.out) k_ hn_))⟩)) (ag (by repeat (first | (with_reducible first | exact HB.out | apply a6 | apply a4 | apply a5 | refine a7 ?_ bg.out) | exact HB.out))))
                    have n5_ := Aside0.mk (Kd.N_lower (Kd.N_mono (ok' := fun k_ => some k_ ≠ (.slice Ao59 t184.length fc : Value).ownBlock ∧ some k_ ≠ (.slice Ao98 y225.length co98 : Value).ownBlock ∧ k_ ≠ aZ) ho1 (fun k_ hk_ => ⟨Or.elim hk_ (fun hs_ => Or.elim hs_ (fun hs_ => fun e_ => Nat.not_le.2 hs_ (Kd.R_base bf.out k_ e_.symm)) (fun hs_ => fun e_ => Nat.not_le.2 hs_ (Kd.R_base bf.out k_ e_.symm))) (fun hn_ => (Kd.fresh' (Kd.R_lt (by (with_reducible repeat (first | apply Kd.R_alloc | apply Kd.R_drewN | apply Kd.R_drew)); exact bf.out)) k_ hn_)), Or.elim hk_ (fun hs_ => Or.elim hs_ (fun hs_ => fun e_ => Nat.not_le.2 hs_ (Kd.R_base cj.out k_ e_.symm)) (fun hs_ => fun e_ => Nat.not_le.2 hs_ (Kd.R_base cj.out k_ e_.symm))) (fun hn_ => (Kd.fresh' (Kd.R_lt (by (with_reducible repeat (first | apply Kd.R_alloc | apply Kd.R_drewN | apply Kd.R_drew)); exact cj.out)) k_ hn_)), Or.elim hk_ (fun hs_ => Or.elim hs_ (fun hs_ => fun e_ => Nat.not_le.2 hs_ (by rw [e_]; exact fw.out)) (fun hs_ => fun e_ => Nat.not_le.2 hs_ (by rw [e_]; exact fw.out))) (fun hn_ => (Kd.freshB (g := aZ) (o := .cells #[.slice ay ai.length ax, .slice az af.length aw] 25 (0, 0)) (by (with_reducible repeat (first | refine aa ?_ _ | refine ac ?_ | refine a8 ?_ _)); exact ar.out) k_ hn_))⟩)) (ag (by repeat (first | (with_reducible first | exact HB.out | apply a6 | apply a4 | apply a5 | refine a7 ?_ bg.out) | exact HB.out))))
                    have n6_ := Aside0.mk (ae (g := aZ) (o := .cells #[.slice ay ai.length ax, .slice az af.length aw] 25 (0, 0)) (by (with_reducible repeat (first | refine aa ?_ _ | refine ac ?_ | refine a8 ?_ _)); exact ar.out) hb)
                    have n7_ := Aside0.mk (aj (by repeat (first | (with_reducible first | exact HB.out | apply a6 | apply a4 | apply a5 | refine a7 ?_ bg.out) | exact HB.out)) hb)
                    clear bf
                    clear bZ
                    clear ca
                    clear cj
                    clear ar
                    clear HB
                    have bf := n0_
                    have bZ := n1_
                    have ca := n2_
                    have cj := n3_
                    have g8 := n4_
                    have g9 := n5_
                    have ar := n6_
                    have HB := n7_
                    clear n0_ n1_ n2_ n3_ n4_ n5_ n6_ n7_
                    (try clear hb)
                    (try clear hb2)
                    (try clear hk)
                    (try clear hi)
                    (try clear ho0)
                    (try clear ho1)
                    obtain ⟨Ao100, co100, eo100⟩ := Kd.V_slice g8.out
                    (first | subst eo100 | (injection eo100 with f1_ f2_ f3_; have f4_ := f1_.symm; have f5_ := f3_.symm; clear f1_ f2_ f3_; subst f4_; subst f5_))
                    obtain ⟨Ao101, co101, eo101⟩ := Kd.N_slice g9.out
                    (first | subst eo101 | (injection eo101 with f1_ f2_ f3_; have f4_ := f1_.symm; have f5_ := f3_.symm; clear f1_ f2_ f3_; subst f4_; subst f5_))
                    refine hK.out _ _ ⟨(a9 ar.out 0).trans rfl, (a9 ar.out 1).trans rfl⟩ (fun hHeld => ?_)
                    clear hK K
                    refine cS (a' := ?_) ?_ ?_
                    rotate_left
                    ·show Act.put _ (some 128) _ = _
                     simp only [Act.put, List.setIfInBounds_toArray, List.set_cons_zero, List.set_cons_succ, al, ao]
                     rfl
                    refine gl (i := 12) (N := some 129) #[true, true, true, true, true, true, true, true, true, true, true, true, true, false, false, false, false, false, false] rfl rfl (bH HT_.out (by kernel_rfl)) (by decide) (fun K hK => ?_)
                    refine goes_ Try.func15 (by kernel_rfl) rfl #[.agg #[.slice Ao100 t228.length co100, .slice Ao101 t231.length co101]] (by rfl) rfl rfl (by (try simp only [List.map_toArray, List.map_cons, List.map_nil]); first | done | rfl | (simp only [List.length_drop, List.length_take]; rfl)) ?_
                    with_reducible refine (search_Solve.calls kj57 _ _ t228 _ _ t231 t234 t237 t238 _ ?side1 ?side2 ?side3 ?side4 A77.out).mono ?_
                    (case side1 => repeat (first | exact (Kd.V_reads' g8.out).2.2 | (with_reducible refine Kd.C_alloc ?_ _) | (with_reducible refine Kd.C_drewN ?_ _) | (with_reducible refine Kd.C_drew ?_)))
                    (case side2 => exact (Kd.V_reads' g8.out).2.1)
                    (case side3 => repeat (first | exact (Kd.N_reads' g9.out).2.2 | (with_reducible refine Kd.C_alloc ?_ _) | (with_reducible refine Kd.C_drewN ?_ _) | (with_reducible refine Kd.C_drew ?_)))
                    (case side4 => exact (Kd.N_reads' g9.out).2.1)
                    rintro e w102 ⟨v235, rfl, ho0, hb⟩
                    refine ⟨_, rfl, ?_⟩
                    have n0_ := Aside0.mk (Kd.R_elder' (by (with_reducible repeat (first | apply Kd.R_alloc | apply Kd.R_drewN | apply Kd.R_drew)); exact bf.out) (Kd.R_base ho0) hb)
                    have n1_ := Aside0.mk (Kd.V_elder' (by (with_reducible repeat (first | apply Kd.V_alloc | apply Kd.V_drewN | apply Kd.V_drew)); exact bZ.out) (Kd.R_base ho0) hb)
                    have n2_ := Aside0.mk (Kd.V_elder' (by (with_reducible repeat (first | apply Kd.V_alloc | apply Kd.V_drewN | apply Kd.V_drew)); exact ca.out) (Kd.R_base ho0) hb)
                    have n3_ := Aside0.mk (Kd.R_elder' (by (with_reducible repeat (first | apply Kd.R_alloc | apply Kd.R_drewN | apply Kd.R_drew)); exact cj.out) (Kd.R_base ho0) hb)
                    have n4_ := Aside0.mk (Kd.V_elder' (by (with_reducible repeat (first | apply Kd.V_alloc | apply Kd.V_drewN | apply Kd.V_drew)); exact g8.out) (Kd.R_base ho0) hb)
                    have n5_ := Aside0.mk (Kd.N_elder' (by (with_reducible repeat (first | apply Kd.N_alloc | apply Kd.N_drewN | apply Kd.N_drew)); exact g9.out) (Kd.R_base ho0) hb)
                    have n6_ := Aside0.mk (Kd.R_lower (Kd.R_new' (Kd.R_new' ho0 (Kd.R_lt (by (with_reducible repeat (first | apply Kd.R_alloc | apply Kd.R_drewN | apply Kd.R_drew)); exact bf.out))) (Kd.R_lt (by (with_reducible repeat (first | apply Kd.R_alloc | apply Kd.R_drewN | apply Kd.R_drew)); exact cj.out))) (ag (by repeat (first | (with_reducible first | exact HB.out | apply a6 | apply a4 | apply a5 | refine a7 ?_ bg.out) | exact HB.out))))
                    have n7_ := Aside0.mk (ae (g := aZ) (o := .cells #[.slice ay ai.length ax, .slice az af.length aw] 25 (0, 0)) (by (with_reducible repeat (first | refine aa ?_ _ | refine ac ?_ | refine a8 ?_ _)); exact ar.out) hb)
                    have n8_ := Aside0.mk (aj (by repeat (first | (with_reducible first | exact HB.out | apply a6 | apply a4 | apply a5 | refine a7 ?_ bg.out) | exact HB.out)) hb)
                    clear bf
                    clear bZ
                    clear ca
                    clear cj
                    clear g8
                    clear g9
                    clear ar
                    clear HB
                    have bf := n0_
                    have bZ := n1_
                    have ca := n2_
                    have cj := n3_
                    have g8 := n4_
                    have g9 := n5_
                    have HO236 := n6_
                    have ar := n7_
                    have HB := n8_
                    clear n0_ n1_ n2_ n3_ n4_ n5_ n6_ n7_ n8_
                    (try clear hb)
                    (try clear hb2)
                    (try clear hk)
                    (try clear hi)
                    (try clear ho0)
                    refine hK.out _ _ ⟨(a9 ar.out 0).trans rfl, (a9 ar.out 1).trans rfl⟩ (fun hHeld => ?_)
                    clear hK K
                    refine cS (a' := ?_) ?_ ?_
                    rotate_left
                    ·show Act.put _ (some 129) _ = _
                     simp only [Act.put, List.setIfInBounds_toArray, List.set_cons_zero, List.set_cons_succ, al, ao]
                     rfl
                    refine aq (i := 13) (N := some 116) (v := ?_) (a' := ?_) #[true, true, true, true, true, true, true, true, true, true, true, true, true, true, false, false, false, false, false] rfl rfl (ak HT_.out (by kernel_rfl)) (fun _ _ _ h => h) (Or.inl ⟨by rfl, ?_⟩) ?_ ?_
                    rotate_left
                    ·intro w'
                     go_simp
                     with_reducible rfl
                    rotate_left
                    ·simp only [Act.put, List.setIfInBounds_toArray, List.set_cons_zero, List.set_cons_succ, al, ao]
                     rfl
                    refine aq (i := 14) (N := some 130) (v := ?_) (a' := ?_) #[true, true, true, true, true, true, true, true, true, true, true, true, true, true, true, false, false, false, false] rfl rfl (ak HT_.out (by kernel_rfl)) (fun _ _ _ h => h) (Or.inl ⟨by rfl, ?_⟩) ?_ ?_
                    rotate_left
                    ·intro w'
                     go_simp
                     with_reducible rfl
                    rotate_left
                    ·simp only [Act.put, List.setIfInBounds_toArray, List.set_cons_zero, List.set_cons_succ, al, ao]
                     rfl
                    refine aq (i := 15) (N := some 131) (v := ?_) (a' := ?_) #[true, true, true, true, true, true, true, true, true, true, true, true, true, true, true, true, false, false, false] rfl rfl (ak HT_.out (by kernel_rfl)) (fun _ _ _ h => h) (Or.inl ⟨by rfl, ?_⟩) ?_ ?_
                    rotate_left
                    ·intro w'
                     go_simp
                     with_reducible rfl
                    rotate_left
                    ·simp only [Act.put, List.setIfInBounds_toArray, List.set_cons_zero, List.set_cons_succ, al, ao]
                     rfl
                    refine aq (i := 16) (N := some 132) (v := ?_) (a' := ?_) #[true, true, true, true, true, true, true, true, true, true, true, true, true, true, true, true, true, false, false] rfl rfl (ak HT_.out (by kernel_rfl)) (fun _ _ _ h => h) (Or.inl ⟨by rfl, ?_⟩) ?_ ?_
                    rotate_left
                    ·intro w'
                     go_simp
                     with_reducible rfl
                    rotate_left
                    ·simp only [Act.put, List.setIfInBounds_toArray, List.set_cons_zero, List.set_cons_succ, al, ao]
                     rfl
                    refine aq (i := 17) (N := some 13) (v := ?_) (a' := ?_) #[true, true, true, true, true, true, true, true, true, true, true, true, true, true, true, true, true, true, false] rfl rfl (ak HT_.out (by kernel_rfl)) (fun _ _ _ h => h) (Or.inl ⟨by rfl, ?_⟩) ?_ ?_
                    rotate_left
                    ·intro w'
                     go_simp
                     with_reducible rfl
                    rotate_left
                    ·simp only [Act.put, List.setIfInBounds_toArray, List.set_cons_zero, List.set_cons_succ, al, ao]
                     rfl
                    refine aq (i := 18) (N := some 14) (v := ?_) (a' := ?_) #[true, true, true, true, true, true, true, true, true, true, true, true, true, true, true, true, true, true, true] rfl rfl (ak HT_.out (by kernel_rfl)) (fun _ _ _ h => h) (Or.inl ⟨by rfl, ?_⟩) ?_ ?_
                    rotate_left
                    ·intro w'
                     go_simp
                     with_reducible rfl
                    rotate_left
                    ·simp only [Act.put, List.setIfInBounds_toArray, List.set_cons_zero, List.set_cons_succ, al, ao]
                     rfl
                    refine ew (cf HT_.out (by kernel_rfl)) ?_
                    try go_wp2
                    go_ret
                    exact ⟨by first | rfl | (simp [am, ap] <;> rfl) | (simp only [← hji68, ← hji72]; first | rfl | (simp [am, ap] <;> rfl)) | (simp [*, am, ap] <;> rfl), by repeat (first | (with_reducible first | exact HB.out | apply a6 | apply a4 | apply a5 | refine a7 ?_ bg.out) | exact HB.out)⟩
                  ·rw [if_neg c75] at H
                   exact absurd H (by simp)
                 ·rw [if_neg c74] at H
                  exact absurd H (by simp)
                ·rw [if_neg c73] at H
                 exact absurd H (by simp)
               ·rw [if_neg c71] at H
                exact absurd H (by simp)
              ·rw [if_neg c70] at H
               exact absurd H (by simp)
             ·rw [if_neg c69] at H
              exact absurd H (by simp)
  ·replace c6 := Bool.eq_false_iff.mpr c6
   subst c6
   have H1 : (some true) = some r := by rw [if_neg (show ¬ (false = true) by decide)] at H; exact H
   clear H
   have H := H1
   clear H1
   obtain rfl := Option.some.inj H
   go_enter Try.func8, Try.ntmps8
   go_wp2_with (first | ((with_reducible refine aI (N := 2) rfl ?_); (try (refine aW (by rfl) ?_; dsimp only)); refine aC ?hg (N := 2) ?hd (cs := #[.slice ay ai.length ax, .slice az af.length aw]) (t := 25) ?hr ?_; (case hd => rfl); (case hg => rfl); (case hr => first | (go_simp; done) | (go_simp; rfl)); intro aZ hg w103 hbox hb; have n0_ := Aside0.mk (aj (by repeat (first | (with_reducible first | exact HB.out | apply a6 | apply a4 | apply a5) | exact HB.out)) hb); have n1_ := Aside0.mk (hbox); have n2_ := Aside0.mk ((by rw [hg]; exact (ag (by repeat (first | (with_reducible first | exact HB.out | apply a6 | apply a4 | apply a5) | exact HB.out))) : w.heap.size ≤ aZ)); have n3_ := Aside0.mk ((by rw [hg]; exact (ag (by repeat (first | (with_reducible first | exact HB.out | apply a6 | apply a4 | apply a5) | exact HB.out))) : w.heap.size ≤ aZ)); clear HB; have HB := n0_; have ar := n1_; have fw := n2_; have bg := n3_; clear n0_ n1_ n2_ n3_; clear hb hbox hg) | ((with_reducible refine av (f := 11) rfl ?_); refine bm (some 16) rfl rfl Try.func11 (by kernel_rfl) rfl #[] rfl (by (try simp only [List.map_toArray, List.map_cons, List.map_nil]); first | done | rfl | (simp only [List.length_drop, List.length_take]; rfl)) ?_; (with_reducible refine (fastilaw15_sane.calls  true _ A3.out).mono ?_); rintro e w104 ⟨rfl, hb⟩; refine ⟨_, rfl, ?_⟩; have n0_ := Aside0.mk (ae (g := aZ) (o := .cells #[.slice ay ai.length ax, .slice az af.length aw] 25 (0, 0)) (by (with_reducible repeat (first | refine aa ?_ _ | refine ac ?_ | refine a8 ?_ _)); exact ar.out) hb); have n1_ := Aside0.mk (aj (by repeat (first | (with_reducible first | exact HB.out | apply a6 | apply a4 | apply a5 | refine a7 ?_ bg.out) | exact HB.out)) hb); clear ar; clear HB; have ar := n0_; have HB := n1_; clear n0_ n1_; (try clear hb); (try clear hb2); (try clear hk); (try clear hi); have hcz105_0 : w104.cell? ⟨aZ, 0, none⟩ = some (.slice ay ai.length ax) := (a9 ar.out 0).trans rfl; have hcz105_1 : w104.cell? ⟨aZ, 1, none⟩ = some (.slice az af.length aw) := (a9 ar.out 1).trans rfl; have hfz105_0 := ab ar.out 0; have hfz105_1 := ab ar.out 1) | ((with_reducible refine av (f := 12) rfl ?_); refine bm (some 19) rfl rfl Try.func12 (by kernel_rfl) rfl #[.agg #[.slice ay ai.length ax, .slice az af.length aw]] rfl (by (try simp only [List.map_toArray, List.map_cons, List.map_nil]); first | done | rfl | (simp only [List.length_drop, List.length_take]; rfl)) ?_; (with_reducible refine (fastiref15_Few.calls k _ _ ai _ _ af false _ ?side1 ?side2 ?side3 ?side4 A5.out).mono ?_); (case side1 => repeat (first | exact (Kd.C_below bv.out HB.out) | (with_reducible refine Kd.C_alloc ?_ _) | (with_reducible refine Kd.C_drewN ?_ _) | (with_reducible refine Kd.C_drew ?_))); (case side2 => exact bC.out); (case side3 => repeat (first | exact (Kd.C_below br.out HB.out) | (with_reducible refine Kd.C_alloc ?_ _) | (with_reducible refine Kd.C_drewN ?_ _) | (with_reducible refine Kd.C_drew ?_))); (case side4 => exact bB.out); rintro e w106 ⟨rfl, hb⟩; refine ⟨_, rfl, ?_⟩; have n0_ := Aside0.mk (ae (g := aZ) (o := .cells #[.slice ay ai.length ax, .slice az af.length aw] 25 (0, 0)) (by (with_reducible repeat (first | refine aa ?_ _ | refine ac ?_ | refine a8 ?_ _)); exact ar.out) hb); have n1_ := Aside0.mk (aj (by repeat (first | (with_reducible first | exact HB.out | apply a6 | apply a4 | apply a5 | refine a7 ?_ bg.out) | exact HB.out)) hb); clear ar; clear HB; have ar := n0_; have HB := n1_; clear n0_ n1_; (try clear hb); (try clear hb2); (try clear hk); (try clear hi)))
   go_ret
   exact ⟨by first | rfl | (simp [am, ap] <;> rfl) | (simp [*, am, ap] <;> rfl), by repeat (first | (with_reducible first | exact HB.out | apply a6 | apply a4 | apply a5 | refine a7 ?_ bg.out) | exact HB.out)⟩
 ·replace c4 := Bool.eq_false_iff.mpr c4
  subst c4
  have H1 : (some false) = some r := by rw [if_neg (show ¬ (false = true) by decide)] at H; exact H
  clear H
  have H := H1
  clear H1
  obtain rfl := Option.some.inj H
  go_enter Try.func8, Try.ntmps8
  go_wp2_with (first | ((with_reducible refine aI (N := 2) rfl ?_); (try (refine aW (by rfl) ?_; dsimp only)); refine aC ?hg (N := 2) ?hd (cs := #[.slice ay ai.length ax, .slice az af.length aw]) (t := 25) ?hr ?_; (case hd => rfl); (case hg => rfl); (case hr => first | (go_simp; done) | (go_simp; rfl)); intro aZ hg w107 hbox hb; have n0_ := Aside0.mk (aj (by repeat (first | (with_reducible first | exact HB.out | apply a6 | apply a4 | apply a5) | exact HB.out)) hb); have n1_ := Aside0.mk (hbox); have n2_ := Aside0.mk ((by rw [hg]; exact (ag (by repeat (first | (with_reducible first | exact HB.out | apply a6 | apply a4 | apply a5) | exact HB.out))) : w.heap.size ≤ aZ)); have n3_ := Aside0.mk ((by rw [hg]; exact (ag (by repeat (first | (with_reducible first | exact HB.out | apply a6 | apply a4 | apply a5) | exact HB.out))) : w.heap.size ≤ aZ)); clear HB; have HB := n0_; have ar := n1_; have fw := n2_; have bg := n3_; clear n0_ n1_ n2_ n3_; clear hb hbox hg) | ((with_reducible refine av (f := 11) rfl ?_); refine bm (some 16) rfl rfl Try.func11 (by kernel_rfl) rfl #[] rfl (by (try simp only [List.map_toArray, List.map_cons, List.map_nil]); first | done | rfl | (simp only [List.length_drop, List.length_take]; rfl)) ?_; (with_reducible refine (fastilaw15_sane.calls  false _ A3.out).mono ?_); rintro e w108 ⟨rfl, hb⟩; refine ⟨_, rfl, ?_⟩; have n0_ := Aside0.mk (ae (g := aZ) (o := .cells #[.slice ay ai.length ax, .slice az af.length aw] 25 (0, 0)) (by (with_reducible repeat (first | refine aa ?_ _ | refine ac ?_ | refine a8 ?_ _)); exact ar.out) hb); have n1_ := Aside0.mk (aj (by repeat (first | (with_reducible first | exact HB.out | apply a6 | apply a4 | apply a5 | refine a7 ?_ bg.out) | exact HB.out)) hb); clear ar; clear HB; have ar := n0_; have HB := n1_; clear n0_ n1_; (try clear hb); (try clear hb2); (try clear hk); (try clear hi)))
  go_ret
  exact ⟨by first | rfl | (simp [am, ap] <;> rfl) | (simp [*, am, ap] <;> rfl), by repeat (first | (with_reducible first | exact HB.out | apply a6 | apply a4 | apply a5 | refine a7 ?_ bg.out) | exact HB.out)⟩
end Go.Proofs.Ytcbpkdemcdikaaa.X
namespace Go.Proofs.Ytcbpkdemcdikaaa.X
open Go.RowKit Go.Proofs.YtcbpkdemcdikaaaW.PrintWords Go.Proofs.YtcbpkdemcdikaaaW.PrintLast Go.Proofs.YtcbpkdemcdikaaaW.PrintMore
attribute [local go_sem] aJ aE aU aV aA aD aH aG   
set_option linter.unusedVariables false
set_option linter.unusedSimpArgs false
end Go.Proofs.Ytcbpkdemcdikaaa.X
namespace Go.Proofs.Ytcbpkdemcdikaaa.QR
open Go.RowKit Go.Proofs.Ytcbpkdemcdikaaa.X Go.Proofs.Ytcbpkdemcdikaaa.X.SF Go.Proofs.Ytcbpkdemcdikaaa.X.DF Go.Proofs.Ytcbpkdemcdikaaa.K Go.Proofs.YtcbpkdemcdikaaaW.PrintWords Go.Proofs.Ytcbpkdemcdikaaa.QB Go.Proofs.Ytcbpkdemcdikaaa.QC Go.Proofs.Ytcbpkdemcdikaaa.QP Go.Proofs.Ytcbpkdemcdikaaa.QK Go.Proofs.Ytcbpkdemcdikaaa.QS Go.Proofs.Ytcbpkdemcdikaaa.QX
set_option linter.unusedVariables false
set_option linter.unusedSimpArgs false
theorem chk_sub {ds : M} {rs rs' : List S49} (h : chk ds rs = 0) (hm : ∀ r ∈ rs', r ∈ rs) (hl : rs'.length ≤ 64) : chk ds rs' = 0 := by
  have hk := chk_ok h
  unfold chk at h ⊢
  have hs : longB ds rs = false := by
    cases hq : longB ds rs with
    | false => rfl
    | true => rw [hq, if_pos rfl] at h; omega
  have hs' : longB ds rs' = false := by
    unfold longB at hs ⊢
    simp only [Bool.or_eq_false_iff, decide_eq_false_iff_not, List.any_eq_false] at hs ⊢
    exact ⟨⟨⟨hs.1.1.1, by omega⟩, hs.1.2⟩, fun r hr => hs.2 r (hm r hr)⟩
  rw [hs] at h
  rw [hs']
  simp only [Bool.false_eq_true, if_false] at h ⊢
  rw [if_neg (by have := hk.pos; omega), if_pos (List.all_eq_true.2 hk.dom)] at h ⊢
  rw [if_pos (List.all_eq_true.2 hk.val)] at h
  rw [if_pos (List.all_eq_true.2 fun r hr => hk.val r (hm r hr))]
  exact h
theorem some_ref (ds : M) (rs : List S49) (l : List Int) (hl : l.length ≤ 4096) (hv : ∀ v ∈ l, 0 ≤ v ∧ v < (rs.length : Int)) : Ev (fun k => fastiref15_Some.f k ds rs l) (ds, l.map (ah rs)) := by
  have H : ∀ m i, i + m = l.length → Ev (fun k => fastiref15_Some.l0 k l (i : Int) ds rs ds ((l.take i).map (ah rs))) (ds, l.map (ah rs)) := by
    intro m
    induction m with
    | zero =>
      intro i hi
      refine Ev.eq fun k => ?_
      simp only [fastiref15_Some.l0]
      rw [if_neg (by omega), List.take_of_length_le (by omega)]
    | succ m ih =>
      intro i hi
      have hil : i < l.length := by omega
      have hr := hv _ (List.getElem_mem hil)
      have N := ih (i + 1) (by omega)
      refine Ev.step (f := fun k => fastiref15_Some.l0 k l (wrap64 ((i : Int) + 1)) ds rs ds ((l.take i).map (ah rs) ++ [ah rs l[i]])) (fun k => ?_) ?_
      · simp only [fastiref15_Some.l0, rd_lt hil]
        rw [if_pos (by omega), if_pos (by omega), if_pos hr.1, if_pos hr.2, if_pos (by simp; omega)]
      · rw [w64s i (by omega)]
        rw [take_get hil, List.map_append] at N
        exact N
  exact H l.length 0 (by omega)
theorem num_mem (rs : List S49) {i : Nat} {p : Int × S49} (hp : p ∈ (numbered rs).drop i) : p.2 = ah rs p.1 ∧ (i : Int) ≤ p.1 ∧ p.1 < (rs.length : Int) := by
  obtain ⟨j, hj, rfl⟩ := List.mem_iff_getElem.1 hp
  have hl : (numbered rs).length = rs.length := by simp [numbered]
  rw [List.length_drop, hl] at hj
  simp only [List.getElem_drop, numbered, List.getElem_map, List.getElem_range, T49n, true_and]
  omega
theorem snd_map (rs : List S49) (l : List (Int × S49)) (h : ∀ p ∈ l, p.2 = ah rs p.1) : (l.map (·.1)).map (ah rs) = l.map (·.2) := by
  rw [List.map_map]
  exact List.map_congr_left fun p hp => (h p hp).symm
theorem T49_mem {rs : List S49} {v : Int} (h0 : 0 ≤ v) (h1 : v < (rs.length : Int)) : ah rs v ∈ rs := by
  obtain ⟨n, rfl⟩ : ∃ n : Nat, v = (n : Int) := ⟨v.toNat, by omega⟩
  rw [T49n, fA (by omega : n < rs.length)]
  exact List.getElem_mem _
def corR (ds : M) (rs : List S49) : List Int × Bool × Int := if (solR ds rs).2.2 ≠ 0 ∨ (solR ds rs).2.1 = true then ([], false, (solR ds rs).2.2) else (coreR ds [] (numbered rs), true, 0)
theorem solR_zero {ds : M} {rs : List S49} (h : (solR ds rs).2.2 = 0) : chk ds rs = 0 := by
  unfold solR at h
  split at h
  · assumption
  · exact h
theorem Core_prog (ds : M) (rs : List S49) : Ev (fun k => search_Core.f k ds rs) (corR ds rs) := by
  unfold search_Core.f corR
  refine Ev.bind1 (f := fun _ (s : List Int × Bool × Int) => if s.2.2 ≠ 0 ∨ s.2.1 = true then some ([], false, s.2.2) else if rs.all SF.okB && decide (0 < ds.length) && decide (ds.length ≤ 1000) && decide (rs.length ≤ 200) then some (DF.coreR ds [] (DF.numbered rs), true, 0) else none) (dx ds rs) ?_
  by_cases h : (solR ds rs).2.2 ≠ 0 ∨ (solR ds rs).2.1 = true
  · simp only [if_pos h]
    exact Ev.now _
  · simp only [if_neg h]
    have h0 : (solR ds rs).2.2 = 0 := Decidable.byContradiction fun hh => h (.inl hh)
    have hk := chk_ok (solR_zero h0)
    rw [ok_guard hk, decide_eq_true hk.pos, decide_eq_true (show ds.length ≤ 1000 by have := hk.len; omega), decide_eq_true (show rs.length ≤ 200 by have := hk.rl; omega)]
    exact Ev.now _
def fg (ds : M) : List (Int × S49) → List (Int × S49) → List (Int × S49)
  | kept, [] => kept
  | kept, r :: rest => if (sol (badB (kept.map (·.2) ++ rest.map (·.2))) ds []).isSome then fg ds (kept ++ [r]) rest else fg ds kept rest
theorem coreR_L (ds : M) : ∀ (rest kept : List (Int × S49)), coreR ds kept rest = (fg ds kept rest).map (·.1)
  | [], kept => rfl
  | r :: rest, kept => by
    rw [coreR, fg]
    split
    · exact coreR_L ds rest _
    · exact coreR_L ds rest _
theorem gN (ds : M) : ∀ (rest kept : List (Int × S49)), (fg ds kept rest).Sublist (kept ++ rest)
  | [], kept => by rw [fg, List.append_nil]; exact List.Sublist.refl _
  | r :: rest, kept => by
    rw [fg]
    split
    · have := gN ds rest (kept ++ [r])
      rwa [List.append_assoc] at this
    · exact (gN ds rest kept).trans (List.Sublist.append_left (List.sublist_cons_self r rest) kept)
theorem badB_sub {rs rs' : List S49} (hm : ∀ r ∈ rs', r ∈ rs) {x : List Int} (h : badB rs x = false) : badB rs' x = false := by
  unfold badB at h ⊢
  rw [List.any_eq_false] at h ⊢
  exact fun r hr => h r (hm r hr)
theorem sol_mono {ds : M} {rs rs' : List S49} (hd : ∀ d ∈ ds, domB d = true) (hp : Pos rs') (hm : ∀ x, badB rs x = false → badB rs' x = false) (hn : badB rs [] = false) {x : List Int} (h : sol (badB rs) ds [] = some x) :
    ∃ y, sol (badB rs') ds [] = some y ∧ bef x y = false := by
  obtain ⟨h1, h2⟩ := gT (badB rs) ds [] x h hn
  exact sol_least rs' hp ds [] x (fun d hd' => dom_asc (hd d hd')) h1 (hm x h2)
theorem fB (ds : M) : ∀ (rest kept : List (Int × S49)), sol (badB ((kept ++ rest).map (·.2))) ds [] = none → sol (badB ((fg ds kept rest).map (·.2))) ds [] = none
  | [], kept, h => by rw [fg]; rwa [List.append_nil] at h
  | r :: rest, kept, h => by
    rw [fg]
    split
    · exact fB ds rest _ (by rw [List.append_assoc]; exact h)
    · rename_i hs
      refine fB ds rest _ ?_
      rw [List.map_append]
      simpa using hs
theorem gL {ds : M} {rs : List S49} (h : Ok ds rs) : ∀ (rest kept : List (Int × S49)), (∀ p ∈ kept ++ rest, p.2 ∈ rs) →
    (∀ a e b, kept = a ++ e :: b → (sol (badB ((a ++ b ++ rest).map (·.2))) ds []).isSome = true) → ∀ a e b, fg ds kept rest = a ++ e :: b → (sol (badB ((a ++ b).map (·.2))) ds []).isSome = true
  | [], kept, _, hi, a, e, b, he => by
    rw [fg] at he
    have := hi a e b he
    rwa [List.append_nil] at this
  | r :: rest, kept, hm, hi, a, e, b, he => by
    rw [fg] at he
    split at he
    · rename_i hs
      refine gL h rest (kept ++ [r]) (fun p hp => hm p (by rw [List.append_assoc] at hp; exact hp)) (fun a' e' b' he' => ?_) a e b he
      rcases List.eq_nil_or_concat b' with rfl | ⟨b'', q, rfl⟩
      · have h1 := List.append_inj' he' rfl
        obtain ⟨rfl, h2⟩ := h1
        rw [List.append_nil, List.map_append]
        exact hs
      · rw [List.concat_eq_append, ← List.cons_append, ← List.append_assoc] at he'
        have h1 := List.append_inj' he' rfl
        obtain ⟨rfl, h2⟩ := h1
        obtain rfl : r = q := by simpa using h2
        have := hi a' e' b'' rfl
        rw [List.concat_eq_append, show a' ++ (b'' ++ [r]) ++ rest = a' ++ b'' ++ r :: rest by simp]
        exact this
    · refine gL h rest kept (fun p hp => hm p (List.Sublist.subset (List.Sublist.append_left (List.sublist_cons_self r rest) kept) hp)) (fun a' e' b' he' => ?_) a e b he
      have h1 := hi a' e' b' he'
      obtain ⟨x, hx⟩ := Option.isSome_iff_exists.1 h1
      have hin : ∀ q ∈ (a' ++ b' ++ r :: rest).map (·.2), q ∈ rs := fun q hq => by
        obtain ⟨p, hp, rfl⟩ := List.mem_map.1 hq
        refine hm p ?_
        rw [he']
        simp only [List.mem_append, List.mem_cons] at hp ⊢
        rcases hp with (hp | hp) | hp | hp <;> simp [hp]
      have hsub : ∀ q ∈ (a' ++ b' ++ rest).map (·.2), q ∈ (a' ++ b' ++ r :: rest).map (·.2) := fun q hq => by
        obtain ⟨p, hp, rfl⟩ := List.mem_map.1 hq
        refine List.mem_map.2 ⟨p, ?_, rfl⟩
        simp only [List.mem_append, List.mem_cons] at hp ⊢
        rcases hp with (hp | hp) | hp <;> simp [hp]
      obtain ⟨y, hy, _⟩ := sol_mono (rs' := (a' ++ b' ++ rest).map (·.2)) h.dom (fun q hq => ok_pos h q (hin q (hsub q hq))) (fun x hx => badB_sub hsub hx) (badB_sub hin (bad_nil h)) hx
      rw [hy]; rfl
end Go.Proofs.Ytcbpkdemcdikaaa.QR
namespace Go.Proofs.Ytcbpkdemcdikaaa.Pure
open Go.RowKit Go.Proofs.Ytcbpkdemcdikaaa.X Go.Proofs.Ytcbpkdemcdikaaa.X.SF Go.Proofs.Ytcbpkdemcdikaaa.X.DF Go.Proofs.Ytcbpkdemcdikaaa.K Go.Proofs.YtcbpkdemcdikaaaW.PrintWords Go.Proofs.Ytcbpkdemcdikaaa.QB Go.Proofs.Ytcbpkdemcdikaaa.QC Go.Proofs.Ytcbpkdemcdikaaa.QP Go.Proofs.Ytcbpkdemcdikaaa.QK Go.Proofs.Ytcbpkdemcdikaaa.QS Go.Proofs.Ytcbpkdemcdikaaa.QX Go.Proofs.Ytcbpkdemcdikaaa.QR
set_option linter.unusedVariables false
set_option linter.unusedSimpArgs false
theorem sol_free (bad : List Int → Bool) (hb : ∀ x, bad x = false) : ∀ (ds : M) (x : List Int), (∀ d ∈ ds, 0 < d.length) → (sol bad ds x).isSome = true
  | [], _, _ => rfl
  | [] :: _, _, h => absurd (h [] (by simp)) (by simp)
  | (v :: d) :: ds, x, h => by
    rw [sol, List.findSome?_cons, hb]
    simp only [Bool.false_eq_true, if_false]
    have := sol_free bad hb ds (x ++ [v]) (fun d hd => h d (by simp [hd]))
    cases hs : sol bad ds (x ++ [v]) with
    | none => rw [hs] at this; cases this
    | some y => rfl
theorem tmod_nat (a : Int) (n : Nat) (h0 : 0 ≤ a) (h1 : a ≤ 255) (hn : 0 < n) : ∃ j : Nat, j < n ∧ Int.tmod (wrap64 a) (n : Int) = (j : Int) := by
  rw [w64 (by omega) (by omega), Int.tmod_eq_emod_of_nonneg h0]
  have h2 := Int.emod_nonneg a (show (n : Int) ≠ 0 by omega)
  have h3 := Int.emod_lt_of_pos a (show (0 : Int) < (n : Int) by omega)
  exact ⟨(a % (n : Int)).toNat, by omega, by omega⟩
theorem min_l0 (a1 : Int) (l : List Int) (ds : M) (rs : List S49) (hl : l.length ≤ 64) (hv : ∀ v ∈ l, 0 ≤ v ∧ v < (rs.length : Int)) (hs : ∀ i, (hi : i + 1 < l.length) → l[i] < l[i + 1]) (r : Bool)
    (h : Ev (fun k => (fastiref15_Some.f k ds rs l).bind fun bt198 => ((search_Solve.f k bt198.1 bt198.2).bind fun bt204 => (if bt204.2.2 = 0 then (fastilaw15_SearchMinimal.j2 k a1 l bt204.2.1 ds rs) else (fastilaw15_SearchMinimal.j2 k a1 l true ds rs)))) r) :
    Ev (fun k => fastilaw15_SearchMinimal.l0 k a1 l 0 ds rs) r := by
  have H : ∀ m i, i + m = l.length → Ev (fun k => fastilaw15_SearchMinimal.l0 k a1 l (i : Int) ds rs) r := by
    intro m
    induction m with
    | zero =>
      intro i hi
      refine Ev.step (fun k => ?_) h
      simp only [fastilaw15_SearchMinimal.l0]
      rw [if_neg (by omega)]
    | succ m ih =>
      intro i hi
      have hil : i < l.length := by omega
      have N := ih (i + 1) (by omega)
      have hvi := hv _ (List.getElem_mem hil)
      refine Ev.step (f := fun k => fastilaw15_SearchMinimal.l0 k a1 l (wrap64 ((i : Int) + 1)) ds rs) (fun k => ?_) (by rw [w64s i (by omega)]; exact N)
      simp only [fastilaw15_SearchMinimal.l0, rd_lt hil]
      rw [if_pos (by omega), if_pos (by omega), if_neg (by omega), if_neg (by omega)]
      cases i with
      | zero => rw [if_neg (by omega)]
      | succ i =>
        have h1 := hs i (by omega)
        rw [if_pos (by omega), w64p (i + 1) (by omega) (by omega), if_pos (by omega), if_pos (by omega), show i + 1 - 1 = i by omega, rd_lt (by omega : i < l.length), if_neg (by omega)]
  exact H l.length 0 (by omega)
theorem SearchMinimal (ai : List (List Int)) (af : List S49) (a1 : Int) (hw : (Lit.int .u8 a1).wf = true) : ∃ k, fastilaw15_SearchMinimal.f k ai af a1 = some true := by
  have ha : 0 ≤ a1 ∧ a1 ≤ 255 := by
    have := hw
    simp [Lit.wf] at this
    have a : IntKind.u8.min = 0 := by decide
    have b : IntKind.u8.max = 255 := by decide
    omega
  refine Ev.rounds ?_
  unfold fastilaw15_SearchMinimal.f
  refine Ev.bind (f := fun k t331 => _) (a := true) (Ev.now _) ?_
  simp only [if_true]
  obtain ⟨b, hb⟩ := few_ref ai af
  refine Ev.bind hb ?_
  cases b
  · exact Ev.now _
  · simp only [if_true]
    refine Ev.bind (Core_prog ai af) ?_
    by_cases hc : chk ai af = 0
    · have h := chk_ok hc
      cases hs : sol (badB af) ai [] with
      | some y =>
        have eS : solR ai af = (y, true, 0) := by unfold solR; rw [if_pos hc, hs]; rfl
        have eC : corR ai af = ([], false, 0) := by unfold corR; rw [eS]; rfl
        simp only [eC, if_true, Bool.not_false]
        refine Ev.step (f := fun k => (search_Solve.f k ai af).bind fun iT => (if (([] : List Int).length : Int) = 0 then (if false = true then (some false) else (if 0 = iT.2.2 then (if (0 : Int) = 0 then (some iT.2.1) else (some true)) else (some false))) else (some false))) (fun k => by simp only [fastilaw15_SearchMinimal.j0, if_true]) ?_
        refine Ev.bind (dx ai af) ?_
        simp only [eS, List.length_nil, Int.natCast_zero, if_true, Bool.false_eq_true, if_false]
        exact Ev.now _
      | none =>
        have eS : solR ai af = ([], false, 0) := by unfold solR; rw [if_pos hc, hs]; rfl
        obtain ⟨C, hC⟩ : ∃ C, C = fg ai [] (numbered af) := ⟨_, rfl⟩
        have eC : corR ai af = (C.map (·.1), true, 0) := by unfold corR; rw [eS, hC, coreR_L]; rfl
        have hsub : C.Sublist (numbered af) := by rw [hC]; exact gN ai (numbered af) []
        have hmem : ∀ p ∈ C, p.2 = ah af p.1 ∧ 0 ≤ p.1 ∧ p.1 < (af.length : Int) := fun p hp => by
          have := num_mem (i := 0) af (by rw [List.drop_zero]; exact hsub.subset hp)
          exact this
        have hlen : C.length ≤ 64 := by
          have h1 := hsub.length_le
          have e : (numbered af).length = af.length := by simp [numbered]
          have := h.rl
          omega
        have hnum : (numbered af).map (·.2) = af := by
          have e : (numbered af).map (·.2) = (List.range af.length).map fun i => af.getD i z49 := by simp [numbered, Function.comp_def]
          rw [e]
          refine List.ext_getElem (by simp) fun i h1 h2 => ?_
          simp [List.getElem?_eq_getElem h2]
        have hnone : sol (badB (C.map (·.2))) ai [] = none := by
          rw [hC]
          exact fB ai (numbered af) [] (by rw [List.nil_append, hnum]; exact hs)
        have hin : ∀ p ∈ C, p.2 ∈ af := fun p hp => by rw [(hmem p hp).1]; exact T49_mem (hmem p hp).2.1 (hmem p hp).2.2
        have hsome : ∀ a e b, C = a ++ e :: b → (sol (badB ((a ++ b).map (·.2))) ai []).isSome = true := by
          rw [hC]
          refine gL h (numbered af) [] (fun p hp => ?_) (fun a e b he => absurd he (by simp))
          have := num_mem (i := 0) af (by rw [List.drop_zero]; exact hp)
          rw [this.1]
          exact T49_mem this.2.1 this.2.2
        have hpos : 0 < C.length := by
          rcases Nat.eq_zero_or_pos C.length with h0 | h0
          · rw [List.eq_nil_of_length_eq_zero h0] at hnone
            have := sol_free (badB ([] : List S49)) (fun _ => rfl) ai [] (fun d hd => dom_pos (h.dom d hd))
            simp only [List.map_nil] at hnone
            rw [hnone] at this; cases this
          · exact h0
        have hasc : ∀ i, (hi : i + 1 < (C.map (·.1)).length) → (C.map (·.1))[i] < (C.map (·.1))[i + 1] := fun i hi => by
          have hp : ((numbered af).map (·.1)).Pairwise (· < ·) := by
            have e : (numbered af).map (·.1) = (List.range af.length).map fun i : Nat => (i : Int) := by simp [numbered, Function.comp_def]
            rw [e, List.pairwise_map]
            exact List.pairwise_lt_range.imp (fun h => by omega)
          exact List.pairwise_iff_getElem.1 (hp.sublist (hsub.map _)) i (i + 1) (by omega) hi (by omega)
        have hv : ∀ v ∈ C.map (·.1), 0 ≤ v ∧ v < (af.length : Int) := fun v hv => by
          obtain ⟨p, hp, rfl⟩ := List.mem_map.1 hv
          exact (hmem p hp).2
        simp only [eC, if_true, Bool.not_true]
        refine Ev.step (f := fun k => fastilaw15_SearchMinimal.l0 k a1 (C.map (·.1)) 0 ai af) (fun k => by simp only [fastilaw15_SearchMinimal.j0, Bool.false_eq_true, if_false]) ?_
        refine min_l0 a1 _ _ _ (by rw [List.length_map]; exact hlen) hv hasc true ?_
        have S1 := some_ref ai af (C.map (·.1)) (by rw [List.length_map]; omega) hv
        rw [snd_map af C (fun p hp => (hmem p hp).1)] at S1
        refine Ev.bind S1 (Ev.bind (dx _ _) ?_)
        have hc2 : chk ai (C.map (·.2)) = 0 := chk_sub hc (fun r hr => by obtain ⟨p, hp, rfl⟩ := List.mem_map.1 hr; exact hin p hp) (by rw [List.length_map]; exact hlen)
        have eS2 : solR ai (C.map (·.2)) = ([], false, 0) := by unfold solR; rw [if_pos hc2, hnone]; rfl
        simp only [eS2, if_true]
        obtain ⟨j, hj, ej⟩ := tmod_nat a1 (C.map (·.1)).length ha.1 ha.2 (by rw [List.length_map]; exact hpos)
        have hjC : j < C.length := by rw [List.length_map] at hj; exact hj
        have hl64 : (C.map (·.1)).length ≤ 64 := by rw [List.length_map]; exact hlen
        have e1 : (([] : List Int) ++ (C.map (·.1)).take j) ++ (C.map (·.1)).drop (j + 1) = (C.take j ++ C.drop (j + 1)).map (·.1) := by
          rw [List.nil_append, List.map_append, List.map_take, List.map_drop]
        have hcut : ∀ p ∈ C.take j ++ C.drop (j + 1), p ∈ C := fun p hp => by
          rcases List.mem_append.1 hp with hp | hp
          · exact List.mem_of_mem_take hp
          · exact List.mem_of_mem_drop hp
        have hcl : (C.take j ++ C.drop (j + 1)).length ≤ 64 := by rw [List.length_append, List.length_take, List.length_drop]; omega
        refine Ev.step (f := fun k => (fastiref15_Some.f k ai af ((C.take j ++ C.drop (j + 1)).map (·.1))).bind fun cP => ((search_Solve.f k cP.1 cP.2).bind fun cw => (if cw.2.2 = 0 then (some cw.2.1) else (some false)))) (fun k => ?_) ?_
        · simp only [fastilaw15_SearchMinimal.j2, Bool.false_eq_true, if_false, ej, Option.bind_some, w64s j (by omega), Int.toNat_natCast]
          rw [if_neg (by omega), if_pos (by omega), if_pos (by omega), if_pos (by rw [List.length_nil, List.length_take]; omega), if_pos (by omega), if_pos (by omega), if_pos (by rw [List.nil_append, List.length_take, List.length_drop]; omega), e1]
        · have S3 := some_ref ai af ((C.take j ++ C.drop (j + 1)).map (·.1)) (by rw [List.length_map]; omega) (fun v hv => by
            obtain ⟨p, hp, rfl⟩ := List.mem_map.1 hv
            exact (hmem p (hcut p hp)).2)
          rw [snd_map af _ (fun p hp => (hmem p (hcut p hp)).1)] at S3
          refine Ev.bind S3 (Ev.bind (dx _ _) ?_)
          have hc3 : chk ai ((C.take j ++ C.drop (j + 1)).map (·.2)) = 0 := chk_sub hc (fun r hr => by obtain ⟨p, hp, rfl⟩ := List.mem_map.1 hr; exact hin p (hcut p hp)) (by rw [List.length_map]; exact hcl)
          have hy := hsome (C.take j) C[j] (C.drop (j + 1)) (by rw [← drop_get hjC, List.take_append_drop])
          have eS3 : (solR ai ((C.take j ++ C.drop (j + 1)).map (·.2))).2 = (true, 0) := by unfold solR; rw [if_pos hc3, hy]
          simp only [eS3, if_true]
          exact Ev.now _
    · have eS : solR ai af = ([], false, chk ai af) := by unfold solR; rw [if_neg hc]
      have eC : corR ai af = ([], false, chk ai af) := by unfold corR; rw [eS, if_pos (.inl hc)]
      simp only [eC, if_neg hc]
      refine Ev.step (f := fun k => (search_Solve.f k ai af).bind fun iT => (if (([] : List Int).length : Int) = 0 then (if false = true then (some false) else (if chk ai af = iT.2.2 then (if chk ai af = 0 then (some iT.2.1) else (some true)) else (some false))) else (some false))) (fun k => by simp only [fastilaw15_SearchMinimal.j0, if_true]) ?_
      refine Ev.bind (dx ai af) ?_
      simp only [eS, List.length_nil, Int.natCast_zero, if_true, Bool.false_eq_true, if_false, if_neg hc]
      exact Ev.now _
end Go.Proofs.Ytcbpkdemcdikaaa.Pure
