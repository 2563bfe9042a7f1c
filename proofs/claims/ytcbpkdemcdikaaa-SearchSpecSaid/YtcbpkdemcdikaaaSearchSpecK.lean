/- Proved here: parts of the walk and of the plain law of SearchSpec, put into one text (names and lines made short by a program). -/
import Derived.Test.YtcbpkdemcdikaaaSearchSpecD
import Derived.Test.YtcbpkdemcdikaaaSearchSpecJ
import Derived.Test.YtcbpkdemcdikaaaSearchSpecC
import Derived.Test.YtcbpkdemcdikaaaSearchSpecF
namespace Go.Proofs.Ytcbpkdemcdikaaa.X
open Go.RowKit Go.Proofs.YtcbpkdemcdikaaaW.PrintWords Go.Proofs.YtcbpkdemcdikaaaW.PrintLast Go.Proofs.YtcbpkdemcdikaaaW.PrintMore
attribute [local go_sem] aT aM aZ bc aE aG aU aN   
set_option linter.unusedVariables false
set_option linter.unusedSimpArgs false
def fastiref15_Breaks.l0 : Nat → List Int → List Int → Int → Int → Int → List Int → List (List Int) → Option (Bool)
 | 0, _, _, _, _, _, _, _ => none
 | k + 1, x1, x5, x6, x197000, x197001, gm, x197003 => if x6 < (gm.length : Int) then (if 0 ≤ x6 then (if (rd gm x6) ≥ (x1.length : Int) then (some false) else (if 0 ≤ (rd gm x6) then (if (rd gm x6) < (x1.length : Int) then (if x5.length < 17592186044416 then (fastiref15_Breaks.l0 k x1 (x5 ++ [rd x1 (rd gm x6)]) (wrap64 (x6 + 1)) x197000 x197001 gm x197003) else (none)) else (none)) else (none))) else (none)) else ((fastiref15_fulfilled.f x197000 x197001 gm x197003 x5).bind fun t203 => (some (!t203)))
def fastiref15_Breaks.f (k : Nat) (bg : Int) (bT : Int) (bv : List Int) (bI : List (List Int)) (l1 : List Int) : Option (Bool) := fastiref15_Breaks.l0 k l1 ([] : List Int) 0 bg bT bv bI
set_option maxHeartbeats 8000000 in
set_option maxRecDepth 100000 in
theorem fastiref15_Breaks.calls (k : Nat) (bg : Int) (bT : Int) (dg : Option Addr) (dd : Nat) (bv : List Int) (de : Option Addr) (df : Nat) (bI : List (List Int)) (A1 : Option Addr) (c1 : Nat) (l1 : List Int) (r : Bool) (w : World) (hr0_2 : Kd.C (Kd.int .i64) w dg bv.length bv) (hc0_2 : bv.length ≤ dd) (jC : Kd.C (Kd.slice 3 (Kd.int .i64)) w de bI.length bI) (hc0_3 : bI.length ≤ df) (hr1 : Kd.C (Kd.int .i64) w A1 l1.length l1) (hc1 : l1.length ≤ c1) (h : fastiref15_Breaks.f k bg bT bv bI l1 = some r) :
  Calls Try.prog 34 #[.agg #[.int .i64 bg, .int .i64 bT, .slice dg bv.length dd, .slice de bI.length df], .slice A1 l1.length c1] w fun e w' => e = .returned (.bool r) ∧ Below w.heap.size w w' := by
 have hu49 := Try.underlying49
 have gP := Aside0.mk hr0_2
 have jD := Aside0.mk hc0_2
 clear hr0_2 hc0_2
 have HR0_3 := Aside0.mk jC
 have HC0_3 := Aside0.mk hc0_3
 clear jC hc0_3
 have HR1 := Aside0.mk hr1
 have HC1 := Aside0.mk hc1
 clear hr1 hc1
 have HB := Aside0.mk (Below.refl w.heap.size w)
 have H : (fastiref15_Breaks.l0 k l1 ([] : List Int) 0 bg bT bv bI) = some r := h
 clear h
 have H' := Aside0.mk H
 clear H
 go_enter Try.func34, Try.ntmps34
 go_wp2_with (first | ((with_reducible refine az (N := 2) rfl ?_); refine ap ?hg (N := 2) ?hd (cs := #[.int .i64 bg, .int .i64 bT, .slice dg bv.length dd, .slice de bI.length df]) (t := 49) ?hr ?_; (case hd => rfl); (case hg => rfl); (case hr => first | (go_simp; done) | (go_simp; rfl)); intro fd hg w3 hbox hb; have n0_ := Aside0.mk (ah (by repeat (first | (with_reducible first | exact HB.out | apply a6 | apply a4 | apply a5) | exact HB.out)) hb); have n1_ := Aside0.mk (hbox); have n2_ := Aside0.mk ((by rw [hg]; exact (ae (by repeat (first | (with_reducible first | exact HB.out | apply a6 | apply a4 | apply a5) | exact HB.out))) : w.heap.size ≤ fd)); have n3_ := Aside0.mk ((by rw [hg]; exact (ae (by repeat (first | (with_reducible first | exact HB.out | apply a6 | apply a4 | apply a5) | exact HB.out))) : w.heap.size ≤ fd)); clear HB; have HB := n0_; have cI := n1_; have GW196 := n2_; have GE196 := n3_; clear n0_ n1_ n2_ n3_; clear hb hbox hg))
 go_loopg [5, 6] k (fun kq v5 v6 w' => ∃ (x5_1 : List Int) (x6_1 : Int), v6 = .int .i64 x6_1 ∧ Aside0 (fastiref15_Breaks.l0 kq l1 x5_1 x6_1 bg bT bv bI = some r) ∧ Aside0 (kq ≤ k) ∧ Aside0 (Kd.R (Kd.int .i64) 3 w' w.heap.size (fun _ => True) v5 x5_1) ∧ Aside0 (w'.heap[fd]? = some (.cells #[.int .i64 bg, .int .i64 bT, (.slice dg bv.length dd), (.slice de bI.length df)] 49 (0, 0))) ∧ Aside0 (Below w.heap.size w w'))
 case atStart => exact ⟨(([] : List Int)), (0), (by first | rfl | (simp; done) | (simp [*]; done)), H', ⟨Nat.le_refl _⟩, ⟨by first | exact Kd.R_nil _ _ _ _ _ | exact Kd.N_nil _ _ _ _ _ | exact Kd.V_nil _ _ _ _ _ | exact Kd.Q_nil _ _ _ _ _ | exact Kd.S_nil _ _ _ _ _⟩, ⟨by (with_reducible repeat (first | refine ab ?_ _ | refine ac ?_ | refine aa ?_ _)); exact cI.out⟩, ⟨by repeat (first | (with_reducible first | exact HB.out | apply a6 | apply a4 | apply a5 | refine a9 ?_ GE196.out) | exact HB.out)⟩⟩
 case round =>
  clear H'
  try clear c1; try clear p2; try clear c3
  obtain ⟨x5_1, x6_1, rfl, HA, HK1, HO_5, cI, HB⟩ := hrel
  cases gk with
  | zero => exact absurd HA.out (by simp [fastiref15_Breaks.l0])
  | succ k1 =>
   have H := HA.out
   clear HA
   simp only [fastiref15_Breaks.l0] at H
   by_cases c4 : x6_1 < (bv.length : Int)
   ·rw [if_pos c4] at H
    have el : decide (x6_1 < (bv.length : Int)) = true := decide_eq_true c4
    clear c4
    by_cases c5 : 0 ≤ x6_1
    ·rw [if_pos c5] at H
     have c5b0 : decide (0 ≤ x6_1) = true := decide_eq_true c5
     clear c5
     by_cases c6 : (rd bv x6_1) ≥ (l1.length : Int)
     ·rw [if_pos c6] at H
      have c6b0 : decide ((l1.length : Int) ≤ (rd bv x6_1)) = true := decide_eq_true c6
      clear c6
      obtain rfl := Option.some.inj H
      have gL : wr.cell? ⟨fd, 0, none⟩ = some (.int .i64 bg) := (a7 cI.out 0).trans rfl
      have gM : wr.cell? ⟨fd, 1, none⟩ = some (.int .i64 bT) := (a7 cI.out 1).trans rfl
      have hcz7_2 : wr.cell? ⟨fd, 2, none⟩ = some (.slice dg bv.length dd) := (a7 cI.out 2).trans rfl
      have hcz7_3 : wr.cell? ⟨fd, 3, none⟩ = some (.slice de bI.length df) := (a7 cI.out 3).trans rfl
      have gN := a8 cI.out 0
      have gO := a8 cI.out 1
      have hfz7_2 := a8 cI.out 2
      have hfz7_3 := a8 cI.out 3
      have p197 : 0 ≤ (x6_1 : Int) := of_decide_eq_true (by first | (with_reducible assumption) | assumption)
      have q197 : x6_1 < (bv.length : Int) := of_decide_eq_true (by first | (with_reducible assumption) | assumption)
      obtain ⟨ad197, e197, gn⟩ := Kd.at_int gP.out x6_1 p197 q197
      cases e197
      replace gn := (HB.out.cell (World.block_lt_of_cell? w _ gn)).trans gn
      replace p197 := eq_true p197
      replace q197 := eq_true q197
      go_wp2
      go_ret
      exact ⟨by first | rfl | (simp [al, ak] <;> rfl) | (simp [*, al, ak] <;> rfl), by repeat (first | (with_reducible first | exact HB.out | apply a6 | apply a4 | apply a5 | refine a9 ?_ GE196.out) | exact HB.out)⟩
     ·rw [if_neg c6] at H
      have c6b0 : decide ((l1.length : Int) ≤ (rd bv x6_1)) = false := decide_eq_false c6
      clear c6
      by_cases c8 : 0 ≤ (rd bv x6_1)
      ·rw [if_pos c8] at H
       have c8b0 : decide (0 ≤ (rd bv x6_1)) = true := decide_eq_true c8
       clear c8
       by_cases c9 : (rd bv x6_1) < (l1.length : Int)
       ·rw [if_pos c9] at H
        have c9b0 : decide ((rd bv x6_1) < (l1.length : Int)) = true := decide_eq_true c9
        clear c9
        by_cases c10 : x5_1.length < 17592186044416
        ·rw [if_pos c10] at H
         have LMc10 := Aside0.mk c10
         clear c10
         obtain ⟨y200, hy200⟩ : ∃ y_ : List Int, y_ = (x5_1 ++ [rd l1 (rd bv x6_1)]) := ⟨_, rfl⟩
         replace H : (fastiref15_Breaks.l0 k1 l1 y200 (wrap64 (x6_1 + 1)) bg bT bv bI) = some r := by first | (rw [hy200]; with_reducible exact H) | (have H2_ := (Option.bind_some _ _).symm.trans H; rw [hy200]; with_reducible exact H2_) | (have H2_ := (Option.bind_some _ _).symm.trans H; with_reducible exact H2_) | with_reducible exact H | (rw [hy200]; exact H) | exact H
         have Ny200 := Aside0.mk hy200
         clear hy200
         have H' := Aside0.mk H
         clear H
         have bV : wr.cell? ⟨fd, 0, none⟩ = some (.int .i64 bg) := (a7 cI.out 0).trans rfl
         have bW : wr.cell? ⟨fd, 1, none⟩ = some (.int .i64 bT) := (a7 cI.out 1).trans rfl
         have hcz11_2 : wr.cell? ⟨fd, 2, none⟩ = some (.slice dg bv.length dd) := (a7 cI.out 2).trans rfl
         have hcz11_3 : wr.cell? ⟨fd, 3, none⟩ = some (.slice de bI.length df) := (a7 cI.out 3).trans rfl
         have bX := a8 cI.out 0
         have bY := a8 cI.out 1
         have hfz11_2 := a8 cI.out 2
         have hfz11_3 := a8 cI.out 3
         have p197 : 0 ≤ (x6_1 : Int) := of_decide_eq_true (by first | (with_reducible assumption) | assumption)
         have q197 : x6_1 < (bv.length : Int) := of_decide_eq_true (by first | (with_reducible assumption) | assumption)
         obtain ⟨ad197, e197, gn⟩ := Kd.at_int gP.out x6_1 p197 q197
         cases e197
         replace gn := (HB.out.cell (World.block_lt_of_cell? w _ gn)).trans gn
         replace p197 := eq_true p197
         replace q197 := eq_true q197
         have p198 : 0 ≤ (x6_1 : Int) := of_decide_eq_true (by first | (with_reducible assumption) | assumption)
         have q198 : x6_1 < (bv.length : Int) := of_decide_eq_true (by first | (with_reducible assumption) | assumption)
         obtain ⟨ad198, e198, hx198_0⟩ := Kd.at_int gP.out x6_1 p198 q198
         obtain rfl : ad197 = ad198 := (by injection e198)
         replace hx198_0 := (HB.out.cell (World.block_lt_of_cell? w _ hx198_0)).trans hx198_0
         replace p198 := eq_true p198
         replace q198 := eq_true q198
         have p199 : 0 ≤ ((rd bv x6_1) : Int) := of_decide_eq_true (by first | (with_reducible assumption) | assumption)
         have q199 : (rd bv x6_1) < (l1.length : Int) := of_decide_eq_true (by first | (with_reducible assumption) | assumption)
         obtain ⟨ad199, e199, hx199_0⟩ := Kd.at_int HR1.out (rd bv x6_1) p199 q199
         cases e199
         replace hx199_0 := (HB.out.cell (World.block_lt_of_cell? w _ hx199_0)).trans hx199_0
         replace p199 := eq_true p199
         replace q199 := eq_true q199
         go_wp2_with (first | ((with_reducible refine cw (b := .append) (xs := #[.tmp 22, .tmp 31]) rfl ?_); at_builtin; refine Kd.R_append (Kd.int .i64) (w0 := w) w.heap.size rfl (.tmp 22) (.tmp 31) 26 3 (.int .i64 0) 8 rfl Try.underlying26 iT rfl (by decide) (by omega) u5 x5_1 (rd l1 (rd bv x6_1)) [.int .i64 (rd l1 (rd bv x6_1))] (fun _ => True) (fun _ => False) rfl rfl ?aP (fun _ hk => hk.elim) ?aF ?aO ?aB ?aS ?aL ?_; (case aP => exact rfl); (case aB => exact (by repeat (first | (with_reducible first | exact HB.out | apply a6 | apply a4 | apply a5 | refine a9 ?_ GE196.out) | exact HB.out))); (case aF => exact (fun _ _ => trivial)); (case aO => exact (by (with_reducible repeat (first | apply Kd.R_alloc | apply Kd.R_drewN | apply Kd.R_drew)); exact HO_5.out)); (case aS => exact (ae (by repeat (first | (with_reducible first | exact HB.out | apply a6 | apply a4 | apply a5 | refine a9 ?_ GE196.out) | exact HB.out)))); (case aL => have := LMc10.out; omega); intro v201 w12 ho hb hg hat; rw [← Ny200.out] at ho; have n0_ := Aside0.mk (cj (g := fd) (o := .cells #[.int .i64 bg, .int .i64 bT, .slice (some ad197) bv.length dd, .slice de bI.length df] 49 (0, 0)) (by (with_reducible repeat (first | refine ab ?_ _ | refine ac ?_ | refine aa ?_ _)); exact cI.out) hg (Kd.R_ne HO_5.out cI.out (by decide))); have n1_ := Aside0.mk (hb); have n2_ := Aside0.mk (ho); clear cI; clear HB; clear HO_5; have cI := n0_; have HB := n1_; have HO202 := n2_; clear n0_ n1_ n2_; clear ho hb hg hat))
         go_roundg k1
         case measure => have := HK1.out; omega
         case rel => exact ⟨(y200), (wrap64 (x6_1 + 1)), (by first | rfl | (simp; done) | (simp [*]; done)), H', ⟨by have := HK1.out; omega⟩, ⟨by (with_reducible repeat (first | apply Kd.R_alloc | apply Kd.R_drewN | apply Kd.R_drew)); exact HO202.out⟩, ⟨by (with_reducible repeat (first | refine ab ?_ _ | refine ac ?_ | refine aa ?_ _)); exact cI.out⟩, ⟨by repeat (first | (with_reducible first | exact HB.out | apply a6 | apply a4 | apply a5 | refine a9 ?_ GE196.out) | exact HB.out)⟩⟩
        ·rw [if_neg c10] at H
         exact absurd H (by simp)
       ·rw [if_neg c9] at H
        exact absurd H (by simp)
      ·rw [if_neg c8] at H
       exact absurd H (by simp)
    ·rw [if_neg c5] at H
     exact absurd H (by simp)
   ·rw [if_neg c4] at H
    have el : decide (x6_1 < (bv.length : Int)) = false := decide_eq_false c4
    clear c4
    replace H := Option.bind_eq_some_iff.mp H
    obtain ⟨t203, A130, H⟩ := H
    replace H : (some (!t203)) = some r := H
    have A13 := Aside0.mk A130
    clear A130
    obtain rfl := Option.some.inj H
    have jQ : wr.cell? ⟨fd, 0, none⟩ = some (.int .i64 bg) := (a7 cI.out 0).trans rfl
    have jR : wr.cell? ⟨fd, 1, none⟩ = some (.int .i64 bT) := (a7 cI.out 1).trans rfl
    have hcz14_2 : wr.cell? ⟨fd, 2, none⟩ = some (.slice dg bv.length dd) := (a7 cI.out 2).trans rfl
    have hcz14_3 : wr.cell? ⟨fd, 3, none⟩ = some (.slice de bI.length df) := (a7 cI.out 3).trans rfl
    have jS := a8 cI.out 0
    have jT := a8 cI.out 1
    have hfz14_2 := a8 cI.out 2
    have hfz14_3 := a8 cI.out 3
    obtain ⟨Ao15, co15, eo15⟩ := Kd.R_slice HO_5.out
    subst eo15
    go_wp2_with (first | ((with_reducible refine am (f := 52) rfl ?_); refine aY (some 35) rfl rfl Try.func52 (by kernel_rfl) rfl #[.agg #[.int .i64 bg, .int .i64 bT, .slice dg bv.length dd, .slice de bI.length df], .slice Ao15 x5_1.length co15] rfl (by (try simp only [List.map_toArray, List.map_cons, List.map_nil]); first | done | rfl | (simp only [List.length_drop, List.length_take]; rfl)) ?_; (with_reducible refine (fastiref15_fulfilled.calls bg bT _ _ bv _ _ bI _ _ x5_1 t203 _ ?side1 ?side2 ?side3 ?side4 ?side5 ?side6 A13.out).mono ?_); (case side1 => repeat (first | exact (Kd.C_below gP.out HB.out) | (with_reducible refine Kd.C_alloc ?_ _) | (with_reducible refine Kd.C_drewN ?_ _) | (with_reducible refine Kd.C_drew ?_))); (case side2 => exact jD.out); (case side3 => repeat (first | exact (Kd.C_below HR0_3.out HB.out) | (with_reducible refine Kd.C_alloc ?_ _) | (with_reducible refine Kd.C_drewN ?_ _) | (with_reducible refine Kd.C_drew ?_))); (case side4 => exact HC0_3.out); (case side5 => repeat (first | exact (Kd.R_reads' HO_5.out).2.2 | (with_reducible refine Kd.C_alloc ?_ _) | (with_reducible refine Kd.C_drewN ?_ _) | (with_reducible refine Kd.C_drew ?_))); (case side6 => exact (Kd.R_reads' HO_5.out).2.1); rintro e w16 ⟨rfl, hb⟩; refine ⟨_, rfl, ?_⟩; have n0_ := Aside0.mk (Kd.R_below (by (with_reducible repeat (first | apply Kd.R_alloc | apply Kd.R_drewN | apply Kd.R_drew)); exact HO_5.out) hb); have n1_ := Aside0.mk (ag (g := fd) (o := .cells #[.int .i64 bg, .int .i64 bT, .slice dg bv.length dd, .slice de bI.length df] 49 (0, 0)) (by (with_reducible repeat (first | refine ab ?_ _ | refine ac ?_ | refine aa ?_ _)); exact cI.out) hb); have n2_ := Aside0.mk (ah (by repeat (first | (with_reducible first | exact HB.out | apply a6 | apply a4 | apply a5 | refine a9 ?_ GE196.out) | exact HB.out)) hb); clear HO_5; clear cI; clear HB; have HO_5 := n0_; have cI := n1_; have HB := n2_; clear n0_ n1_ n2_; (try clear hb); (try clear hb2); (try clear hk); (try clear hi)))
    go_ret
    exact ⟨by first | rfl | (simp [al, ak] <;> rfl) | (simp [*, al, ak] <;> rfl), by repeat (first | (with_reducible first | exact HB.out | apply a6 | apply a4 | apply a5 | refine a9 ?_ GE196.out) | exact HB.out)⟩
def fastiref15_Broken.l0 : Nat → List Int → List Int → Int → List (List Int) → List (S49) → Option (List Int × Int)
 | 0, _, _, _, _, _ => none
 | k + 1, x1, x7, x8, x205000, gp => if x8 < (gp.length : Int) then (if 0 ≤ x8 then ((fastiref15_Breaks.f k ((aj gp x8).f0) ((aj gp x8).f1) ((aj gp x8).f2) ((aj gp x8).f3) x1).bind fun t208 => (if t208 = true then (if x7.length < 17592186044416 then (fastiref15_Broken.l0 k x1 (x7 ++ [x8]) (wrap64 (x8 + 1)) x205000 gp) else (none)) else (fastiref15_Broken.l0 k x1 x7 (wrap64 (x8 + 1)) x205000 gp))) else (none)) else (some (x7, 0))
def fastiref15_Broken.f (k : Nat) (ai : List (List Int)) (af : List (S49)) (l1 : List Int) : Option (List Int × Int) := (fastiref15_Check.f k ai af).bind fun t205 => (if t205 = 0 then ((fastiref15_assignment.f k ai af l1).bind fun t206 => (if t206 = true then (fastiref15_Broken.l0 k l1 ([] : List Int) 0 ai af) else (some (([] : List Int), 1)))) else (some (([] : List Int), t205)))
set_option maxHeartbeats 8000000 in
set_option maxRecDepth 100000 in
theorem fastiref15_Broken.calls (k : Nat) (au : Option Addr) (aq : Nat) (ai : List (List Int)) (aw : Option Addr) (ao : Nat) (af : List (S49)) (A1 : Option Addr) (c1 : Nat) (l1 : List Int) (r1 : List Int) (r2 : Int) (w : World) (bG : Kd.C (Kd.slice 3 (Kd.int .i64)) w au ai.length ai) (bO : ai.length ≤ aq) (bB : Kd.C k49 w aw af.length af) (bF : af.length ≤ ao) (hr1 : Kd.C (Kd.int .i64) w A1 l1.length l1) (hc1 : l1.length ≤ c1) (h : fastiref15_Broken.f k ai af l1 = some (r1, r2)) :
  Calls Try.prog 14 #[.agg #[.slice au ai.length aq, .slice aw af.length ao], .slice A1 l1.length c1] w fun e w' => ∃ v0_ : Value, e = .returned (.tuple #[v0_, .int .i64 r2]) ∧ Kd.R (Kd.int .i64) 3 w' w.heap.size (fun _ => True) v0_ r1 ∧ Below w.heap.size w w' := by
 have hu25 := Try.underlying25
 have hu49 := Try.underlying49
 have bf := Aside0.mk bG
 have bo := Aside0.mk bO
 clear bG bO
 have bd := Aside0.mk bB
 have bn := Aside0.mk bF
 clear bB bF
 have HR1 := Aside0.mk hr1
 have HC1 := Aside0.mk hc1
 clear hr1 hc1
 have HB := Aside0.mk (Below.refl w.heap.size w)
 have H : ((fastiref15_Check.f k ai af).bind fun t205 => (if t205 = 0 then ((fastiref15_assignment.f k ai af l1).bind fun t206 => (if t206 = true then (fastiref15_Broken.l0 k l1 ([] : List Int) 0 ai af) else (some (([] : List Int), 1)))) else (some (([] : List Int), t205)))) = some (r1, r2) := h
 clear h
 replace H := Option.bind_eq_some_iff.mp H
 obtain ⟨t205, A30, H⟩ := H
 replace H : (if t205 = 0 then ((fastiref15_assignment.f k ai af l1).bind fun t206 => (if t206 = true then (fastiref15_Broken.l0 k l1 ([] : List Int) 0 ai af) else (some (([] : List Int), 1)))) else (some (([] : List Int), t205))) = some (r1, r2) := H
 have A3 := Aside0.mk A30
 clear A30
 by_cases c4 : t205 = 0
 ·rw [if_pos c4] at H
  have el : (t205 == 0) = true := beq_iff_eq.mpr c4
  have c4b1 : (t205 != 0) = false := bne_eq_false_iff_eq.mpr c4
  clear c4
  replace H := Option.bind_eq_some_iff.mp H
  obtain ⟨t206, A50, H⟩ := H
  replace H : (if t206 = true then (fastiref15_Broken.l0 k l1 ([] : List Int) 0 ai af) else (some (([] : List Int), 1))) = some (r1, r2) := H
  have A5 := Aside0.mk A50
  clear A50
  by_cases c6 : t206 = true
  ·subst c6
   have H1 : (fastiref15_Broken.l0 k l1 ([] : List Int) 0 ai af) = some (r1, r2) := by rw [if_pos rfl] at H; exact H
   clear H
   have H := H1
   clear H1
   have H' := Aside0.mk H
   clear H
   go_enter Try.func14, Try.ntmps14
   go_wp2_with (first | ((with_reducible refine az (N := 2) rfl ?_); refine ap ?hg (N := 2) ?hd (cs := #[.slice au ai.length aq, .slice aw af.length ao]) (t := 25) ?hr ?_; (case hd => rfl); (case hg => rfl); (case hr => first | (go_simp; done) | (go_simp; rfl)); intro cN hg w7 hbox hb; have n0_ := Aside0.mk (ah (by repeat (first | (with_reducible first | exact HB.out | apply a6 | apply a4 | apply a5) | exact HB.out)) hb); have n1_ := Aside0.mk (hbox); have n2_ := Aside0.mk ((by rw [hg]; exact (ae (by repeat (first | (with_reducible first | exact HB.out | apply a6 | apply a4 | apply a5) | exact HB.out))) : w.heap.size ≤ cN)); have n3_ := Aside0.mk ((by rw [hg]; exact (ae (by repeat (first | (with_reducible first | exact HB.out | apply a6 | apply a4 | apply a5) | exact HB.out))) : w.heap.size ≤ cN)); clear HB; have HB := n0_; have bz := n1_; have GW204 := n2_; have fe := n3_; clear n0_ n1_ n2_ n3_; clear hb hbox hg; have dX : w7.cell? ⟨cN, 0, none⟩ = some (.slice au ai.length aq) := (a7 bz.out 0).trans rfl; have dY : w7.cell? ⟨cN, 1, none⟩ = some (.slice aw af.length ao) := (a7 bz.out 1).trans rfl; have dZ := a8 bz.out 0; have e6 := a8 bz.out 1) | ((with_reducible refine am (f := 18) rfl ?_); refine aY (some 10) rfl rfl Try.func18 (by kernel_rfl) rfl #[.agg #[.slice au ai.length aq, .slice aw af.length ao]] rfl (by (try simp only [List.map_toArray, List.map_cons, List.map_nil]); first | done | rfl | (simp only [List.length_drop, List.length_take]; rfl)) ?_; (with_reducible refine (fastiref15_Check.calls k _ _ ai _ _ af t205 _ ?side1 ?side2 ?side3 ?side4 A3.out).mono ?_); (case side1 => repeat (first | exact (Kd.C_below bf.out HB.out) | (with_reducible refine Kd.C_alloc ?_ _) | (with_reducible refine Kd.C_drewN ?_ _) | (with_reducible refine Kd.C_drew ?_))); (case side2 => exact bo.out); (case side3 => repeat (first | exact (Kd.C_below bd.out HB.out) | (with_reducible refine Kd.C_alloc ?_ _) | (with_reducible refine Kd.C_drewN ?_ _) | (with_reducible refine Kd.C_drew ?_))); (case side4 => exact bn.out); rintro e w9 ⟨rfl, hb⟩; refine ⟨_, rfl, ?_⟩; have n0_ := Aside0.mk (ag (g := cN) (o := .cells #[.slice au ai.length aq, .slice aw af.length ao] 25 (0, 0)) (by (with_reducible repeat (first | refine ab ?_ _ | refine ac ?_ | refine aa ?_ _)); exact bz.out) hb); have n1_ := Aside0.mk (ah (by repeat (first | (with_reducible first | exact HB.out | apply a6 | apply a4 | apply a5 | refine a9 ?_ fe.out) | exact HB.out)) hb); clear bz; clear HB; have bz := n0_; have HB := n1_; clear n0_ n1_; (try clear hb); (try clear hb2); (try clear hk); (try clear hi); have eX : w9.cell? ⟨cN, 0, none⟩ = some (.slice au ai.length aq) := (a7 bz.out 0).trans rfl; have eY : w9.cell? ⟨cN, 1, none⟩ = some (.slice aw af.length ao) := (a7 bz.out 1).trans rfl; have eZ := a8 bz.out 0; have f4 := a8 bz.out 1) | ((with_reducible refine am (f := 33) rfl ?_); refine aY (some 16) rfl rfl Try.func33 (by kernel_rfl) rfl #[.agg #[.slice au ai.length aq, .slice aw af.length ao], .slice A1 l1.length c1] rfl (by (try simp only [List.map_toArray, List.map_cons, List.map_nil]); first | done | rfl | (simp only [List.length_drop, List.length_take]; rfl)) ?_; (with_reducible refine (fastiref15_assignment.calls k _ _ ai _ _ af _ _ l1 true _ ?side1 ?side2 ?side3 ?side4 ?side5 ?side6 A5.out).mono ?_); (case side1 => repeat (first | exact (Kd.C_below bf.out HB.out) | (with_reducible refine Kd.C_alloc ?_ _) | (with_reducible refine Kd.C_drewN ?_ _) | (with_reducible refine Kd.C_drew ?_))); (case side2 => exact bo.out); (case side3 => repeat (first | exact (Kd.C_below bd.out HB.out) | (with_reducible refine Kd.C_alloc ?_ _) | (with_reducible refine Kd.C_drewN ?_ _) | (with_reducible refine Kd.C_drew ?_))); (case side4 => exact bn.out); (case side5 => repeat (first | exact (Kd.C_below HR1.out HB.out) | (with_reducible refine Kd.C_alloc ?_ _) | (with_reducible refine Kd.C_drewN ?_ _) | (with_reducible refine Kd.C_drew ?_))); (case side6 => exact HC1.out); rintro e w11 ⟨rfl, hb⟩; refine ⟨_, rfl, ?_⟩; have n0_ := Aside0.mk (ag (g := cN) (o := .cells #[.slice au ai.length aq, .slice aw af.length ao] 25 (0, 0)) (by (with_reducible repeat (first | refine ab ?_ _ | refine ac ?_ | refine aa ?_ _)); exact bz.out) hb); have n1_ := Aside0.mk (ah (by repeat (first | (with_reducible first | exact HB.out | apply a6 | apply a4 | apply a5 | refine a9 ?_ fe.out) | exact HB.out)) hb); clear bz; clear HB; have bz := n0_; have HB := n1_; clear n0_ n1_; (try clear hb); (try clear hb2); (try clear hk); (try clear hi)))
   go_loopg [7, 8] k (fun kq v7 v8 w' => ∃ (x7_1 : List Int) (x8_1 : Int), v8 = .int .i64 x8_1 ∧ Aside0 (fastiref15_Broken.l0 kq l1 x7_1 x8_1 ai af = some (r1, r2)) ∧ Aside0 (kq ≤ k) ∧ Aside0 (Kd.R (Kd.int .i64) 3 w' w.heap.size (fun _ => True) v7 x7_1) ∧ Aside0 (w'.heap[cN]? = some (.cells #[(.slice au ai.length aq), (.slice aw af.length ao)] 25 (0, 0))) ∧ Aside0 (Below w.heap.size w w'))
   case atStart => exact ⟨(([] : List Int)), (0), (by first | rfl | (simp; done) | (simp [*]; done)), H', ⟨Nat.le_refl _⟩, ⟨by first | exact Kd.R_nil _ _ _ _ _ | exact Kd.N_nil _ _ _ _ _ | exact Kd.V_nil _ _ _ _ _ | exact Kd.Q_nil _ _ _ _ _ | exact Kd.S_nil _ _ _ _ _⟩, ⟨by (with_reducible repeat (first | refine ab ?_ _ | refine ac ?_ | refine aa ?_ _)); exact bz.out⟩, ⟨by repeat (first | (with_reducible first | exact HB.out | apply a6 | apply a4 | apply a5 | refine a9 ?_ fe.out) | exact HB.out)⟩⟩
   case round =>
    clear H'
    try clear c1; try clear p2; try clear c3; try clear c4; try clear el; try clear c4b1; try clear c6; try clear eX; try clear eY; try clear dX; try clear dY; try clear eZ; try clear f4; try clear dZ; try clear e6
    obtain ⟨x7_1, x8_1, rfl, HA, HK1, HO_7, bz, HB⟩ := hrel
    cases gk with
    | zero => exact absurd HA.out (by simp [fastiref15_Broken.l0])
    | succ k1 =>
     have H := HA.out
     clear HA
     simp only [fastiref15_Broken.l0] at H
     by_cases c12 : x8_1 < (af.length : Int)
     ·rw [if_pos c12] at H
      have c12b0 : decide (x8_1 < (af.length : Int)) = true := decide_eq_true c12
      clear c12
      by_cases c13 : 0 ≤ x8_1
      ·rw [if_pos c13] at H
       have jx : decide (0 ≤ x8_1) = true := decide_eq_true c13
       clear c13
       replace H := Option.bind_eq_some_iff.mp H
       obtain ⟨t208, A140, H⟩ := H
       replace H : (if t208 = true then (if x7_1.length < 17592186044416 then (fastiref15_Broken.l0 k1 l1 (x7_1 ++ [x8_1]) (wrap64 (x8_1 + 1)) ai af) else (none)) else (fastiref15_Broken.l0 k1 l1 x7_1 (wrap64 (x8_1 + 1)) ai af)) = some (r1, r2) := H
       have A14 := Aside0.mk A140
       clear A140
       by_cases c15 : t208 = true
       ·subst c15
        have H1 : (if x7_1.length < 17592186044416 then (fastiref15_Broken.l0 k1 l1 (x7_1 ++ [x8_1]) (wrap64 (x8_1 + 1)) ai af) else (none)) = some (r1, r2) := by rw [if_pos rfl] at H; exact H
        clear H
        have H := H1
        clear H1
        by_cases c16 : x7_1.length < 17592186044416
        ·rw [if_pos c16] at H
         have LMc16 := Aside0.mk c16
         clear c16
         obtain ⟨y209, hy209⟩ : ∃ y_ : List Int, y_ = (x7_1 ++ [x8_1]) := ⟨_, rfl⟩
         replace H : (fastiref15_Broken.l0 k1 l1 y209 (wrap64 (x8_1 + 1)) ai af) = some (r1, r2) := by first | (rw [hy209]; with_reducible exact H) | (have H2_ := (Option.bind_some _ _).symm.trans H; rw [hy209]; with_reducible exact H2_) | (have H2_ := (Option.bind_some _ _).symm.trans H; with_reducible exact H2_) | with_reducible exact H | (rw [hy209]; exact H) | exact H
         have Ny209 := Aside0.mk hy209
         clear hy209
         have H' := Aside0.mk H
         clear H
         have eT : wr.cell? ⟨cN, 0, none⟩ = some (.slice au ai.length aq) := (a7 bz.out 0).trans rfl
         have eU : wr.cell? ⟨cN, 1, none⟩ = some (.slice aw af.length ao) := (a7 bz.out 1).trans rfl
         have eV := a8 bz.out 0
         have eW := a8 bz.out 1
         have p207 : 0 ≤ (x8_1 : Int) := of_decide_eq_true (by first | (with_reducible assumption) | assumption)
         have q207 : x8_1 < (af.length : Int) := of_decide_eq_true (by first | (with_reducible assumption) | assumption)
         obtain ⟨ad207, A207_2, c207_2, A207_3, c207_3, e207, gq, gr, gt, gu, kx, ky, kz, kA⟩ := dv bd.out x8_1 p207 q207
         cases e207
         replace gq := (HB.out.cell (World.block_lt_of_cell? w _ gq)).trans gq
         replace gr := (HB.out.cell (World.block_lt_of_cell? w _ gr)).trans gr
         replace gt := (HB.out.cell (World.block_lt_of_cell? w _ gt)).trans gt
         replace gu := (HB.out.cell (World.block_lt_of_cell? w _ gu)).trans gu
         have HR207_2 := Aside0.mk ky
         have HC207_2 := Aside0.mk kx
         clear ky kx
         have HR207_3 := Aside0.mk kA
         have HC207_3 := Aside0.mk kz
         clear kA kz
         replace p207 := eq_true p207
         replace q207 := eq_true q207
         go_wp2_with (first | ((with_reducible refine am (f := 34) rfl ?_); refine aY (some 31) rfl rfl Try.func34 (by kernel_rfl) rfl #[.agg #[.int .i64 ((aj af x8_1).f0), .int .i64 ((aj af x8_1).f1), .slice A207_2 ((aj af x8_1).f2).length c207_2, .slice A207_3 ((aj af x8_1).f3).length c207_3], .slice A1 l1.length c1] rfl (by (try simp only [List.map_toArray, List.map_cons, List.map_nil]); first | done | rfl | (simp only [List.length_drop, List.length_take]; rfl)) ?_; (with_reducible refine (fastiref15_Breaks.calls k1 ((aj af x8_1).f0) ((aj af x8_1).f1) _ _ ((aj af x8_1).f2) _ _ ((aj af x8_1).f3) _ _ l1 true _ ?side1 ?side2 ?side3 ?side4 ?side5 ?side6 A14.out).mono ?_); (case side1 => repeat (first | exact (Kd.C_below HR207_2.out HB.out) | (with_reducible refine Kd.C_alloc ?_ _) | (with_reducible refine Kd.C_drewN ?_ _) | (with_reducible refine Kd.C_drew ?_))); (case side2 => exact HC207_2.out); (case side3 => repeat (first | exact (Kd.C_below HR207_3.out HB.out) | (with_reducible refine Kd.C_alloc ?_ _) | (with_reducible refine Kd.C_drewN ?_ _) | (with_reducible refine Kd.C_drew ?_))); (case side4 => exact HC207_3.out); (case side5 => repeat (first | exact (Kd.C_below HR1.out HB.out) | (with_reducible refine Kd.C_alloc ?_ _) | (with_reducible refine Kd.C_drewN ?_ _) | (with_reducible refine Kd.C_drew ?_))); (case side6 => exact HC1.out); rintro e w18 ⟨rfl, hb⟩; refine ⟨_, rfl, ?_⟩; have n0_ := Aside0.mk (Kd.R_below (by (with_reducible repeat (first | apply Kd.R_alloc | apply Kd.R_drewN | apply Kd.R_drew)); exact HO_7.out) hb); have n1_ := Aside0.mk (ag (g := cN) (o := .cells #[.slice au ai.length aq, .slice (some ad207) af.length ao] 25 (0, 0)) (by (with_reducible repeat (first | refine ab ?_ _ | refine ac ?_ | refine aa ?_ _)); exact bz.out) hb); have n2_ := Aside0.mk (ah (by repeat (first | (with_reducible first | exact HB.out | apply a6 | apply a4 | apply a5 | refine a9 ?_ fe.out) | exact HB.out)) hb); clear HO_7; clear bz; clear HB; have HO_7 := n0_; have bz := n1_; have HB := n2_; clear n0_ n1_ n2_; (try clear hb); (try clear hb2); (try clear hk); (try clear hi)) | ((with_reducible refine cw (b := .append) (xs := #[.tmp 32, .tmp 34]) rfl ?_); at_builtin; refine Kd.R_append (Kd.int .i64) (w0 := w) w.heap.size rfl (.tmp 32) (.tmp 34) 26 3 (.int .i64 0) 8 rfl Try.underlying26 iT rfl (by decide) (by omega) u7 x7_1 x8_1 [.int .i64 x8_1] (fun _ => True) (fun _ => False) rfl rfl ?aP (fun _ hk => hk.elim) ?aF ?aO ?aB ?aS ?aL ?_; (case aP => exact rfl); (case aB => exact (by repeat (first | (with_reducible first | exact HB.out | apply a6 | apply a4 | apply a5 | refine a9 ?_ fe.out) | exact HB.out))); (case aF => exact (fun _ _ => trivial)); (case aO => exact (by (with_reducible repeat (first | apply Kd.R_alloc | apply Kd.R_drewN | apply Kd.R_drew)); exact HO_7.out)); (case aS => exact (ae (by repeat (first | (with_reducible first | exact HB.out | apply a6 | apply a4 | apply a5 | refine a9 ?_ fe.out) | exact HB.out)))); (case aL => have := LMc16.out; omega); intro v210 w19 ho hb hg hat; rw [← Ny209.out] at ho; have n0_ := Aside0.mk (cj (g := cN) (o := .cells #[.slice au ai.length aq, .slice (some ad207) af.length ao] 25 (0, 0)) (by (with_reducible repeat (first | refine ab ?_ _ | refine ac ?_ | refine aa ?_ _)); exact bz.out) hg (Kd.R_ne HO_7.out bz.out (by decide))); have n1_ := Aside0.mk (hb); have n2_ := Aside0.mk (ho); clear bz; clear HB; clear HO_7; have bz := n0_; have HB := n1_; have HO211 := n2_; clear n0_ n1_ n2_; clear ho hb hg hat))
         go_roundg k1
         case measure => have := HK1.out; omega
         case rel => exact ⟨(y209), (wrap64 (x8_1 + 1)), (by first | rfl | (simp; done) | (simp [*]; done)), H', ⟨by have := HK1.out; omega⟩, ⟨by (with_reducible repeat (first | apply Kd.R_alloc | apply Kd.R_drewN | apply Kd.R_drew)); exact HO211.out⟩, ⟨by (with_reducible repeat (first | refine ab ?_ _ | refine ac ?_ | refine aa ?_ _)); exact bz.out⟩, ⟨by repeat (first | (with_reducible first | exact HB.out | apply a6 | apply a4 | apply a5 | refine a9 ?_ fe.out) | exact HB.out)⟩⟩
        ·rw [if_neg c16] at H
         exact absurd H (by simp)
       ·replace c15 := Bool.eq_false_iff.mpr c15
        subst c15
        have H1 : (fastiref15_Broken.l0 k1 l1 x7_1 (wrap64 (x8_1 + 1)) ai af) = some (r1, r2) := by rw [if_neg (show ¬ (false = true) by decide)] at H; exact H
        clear H
        have H := H1
        clear H1
        have H' := Aside0.mk H
        clear H
        have i2 : wr.cell? ⟨cN, 0, none⟩ = some (.slice au ai.length aq) := (a7 bz.out 0).trans rfl
        have i4 : wr.cell? ⟨cN, 1, none⟩ = some (.slice aw af.length ao) := (a7 bz.out 1).trans rfl
        have i5 := a8 bz.out 0
        have i7 := a8 bz.out 1
        have p207 : 0 ≤ (x8_1 : Int) := of_decide_eq_true (by first | (with_reducible assumption) | assumption)
        have q207 : x8_1 < (af.length : Int) := of_decide_eq_true (by first | (with_reducible assumption) | assumption)
        obtain ⟨ad207, A207_2, c207_2, A207_3, c207_3, e207, gq, gr, gt, gu, kx, ky, kz, kA⟩ := dv bd.out x8_1 p207 q207
        cases e207
        replace gq := (HB.out.cell (World.block_lt_of_cell? w _ gq)).trans gq
        replace gr := (HB.out.cell (World.block_lt_of_cell? w _ gr)).trans gr
        replace gt := (HB.out.cell (World.block_lt_of_cell? w _ gt)).trans gt
        replace gu := (HB.out.cell (World.block_lt_of_cell? w _ gu)).trans gu
        have HR207_2 := Aside0.mk ky
        have HC207_2 := Aside0.mk kx
        clear ky kx
        have HR207_3 := Aside0.mk kA
        have HC207_3 := Aside0.mk kz
        clear kA kz
        replace p207 := eq_true p207
        replace q207 := eq_true q207
        go_wp2_with (first | ((with_reducible refine am (f := 34) rfl ?_); refine aY (some 31) rfl rfl Try.func34 (by kernel_rfl) rfl #[.agg #[.int .i64 ((aj af x8_1).f0), .int .i64 ((aj af x8_1).f1), .slice A207_2 ((aj af x8_1).f2).length c207_2, .slice A207_3 ((aj af x8_1).f3).length c207_3], .slice A1 l1.length c1] rfl (by (try simp only [List.map_toArray, List.map_cons, List.map_nil]); first | done | rfl | (simp only [List.length_drop, List.length_take]; rfl)) ?_; (with_reducible refine (fastiref15_Breaks.calls k1 ((aj af x8_1).f0) ((aj af x8_1).f1) _ _ ((aj af x8_1).f2) _ _ ((aj af x8_1).f3) _ _ l1 false _ ?side1 ?side2 ?side3 ?side4 ?side5 ?side6 A14.out).mono ?_); (case side1 => repeat (first | exact (Kd.C_below HR207_2.out HB.out) | (with_reducible refine Kd.C_alloc ?_ _) | (with_reducible refine Kd.C_drewN ?_ _) | (with_reducible refine Kd.C_drew ?_))); (case side2 => exact HC207_2.out); (case side3 => repeat (first | exact (Kd.C_below HR207_3.out HB.out) | (with_reducible refine Kd.C_alloc ?_ _) | (with_reducible refine Kd.C_drewN ?_ _) | (with_reducible refine Kd.C_drew ?_))); (case side4 => exact HC207_3.out); (case side5 => repeat (first | exact (Kd.C_below HR1.out HB.out) | (with_reducible refine Kd.C_alloc ?_ _) | (with_reducible refine Kd.C_drewN ?_ _) | (with_reducible refine Kd.C_drew ?_))); (case side6 => exact HC1.out); rintro e w21 ⟨rfl, hb⟩; refine ⟨_, rfl, ?_⟩; have n0_ := Aside0.mk (Kd.R_below (by (with_reducible repeat (first | apply Kd.R_alloc | apply Kd.R_drewN | apply Kd.R_drew)); exact HO_7.out) hb); have n1_ := Aside0.mk (ag (g := cN) (o := .cells #[.slice au ai.length aq, .slice (some ad207) af.length ao] 25 (0, 0)) (by (with_reducible repeat (first | refine ab ?_ _ | refine ac ?_ | refine aa ?_ _)); exact bz.out) hb); have n2_ := Aside0.mk (ah (by repeat (first | (with_reducible first | exact HB.out | apply a6 | apply a4 | apply a5 | refine a9 ?_ fe.out) | exact HB.out)) hb); clear HO_7; clear bz; clear HB; have HO_7 := n0_; have bz := n1_; have HB := n2_; clear n0_ n1_ n2_; (try clear hb); (try clear hb2); (try clear hk); (try clear hi)))
        go_roundg k1
        case measure => have := HK1.out; omega
        case rel => exact ⟨(x7_1), (wrap64 (x8_1 + 1)), (by first | rfl | (simp; done) | (simp [*]; done)), H', ⟨by have := HK1.out; omega⟩, ⟨by (with_reducible repeat (first | apply Kd.R_alloc | apply Kd.R_drewN | apply Kd.R_drew)); exact HO_7.out⟩, ⟨by (with_reducible repeat (first | refine ab ?_ _ | refine ac ?_ | refine aa ?_ _)); exact bz.out⟩, ⟨by repeat (first | (with_reducible first | exact HB.out | apply a6 | apply a4 | apply a5 | refine a9 ?_ fe.out) | exact HB.out)⟩⟩
      ·rw [if_neg c13] at H
       exact absurd H (by simp)
     ·rw [if_neg c12] at H
      have c12b0 : decide (x8_1 < (af.length : Int)) = false := decide_eq_false c12
      clear c12
      simp only [Option.some.injEq, Prod.mk.injEq] at H
      obtain ⟨rfl, rfl⟩ := H
      have hcz22_0 : wr.cell? ⟨cN, 0, none⟩ = some (.slice au ai.length aq) := (a7 bz.out 0).trans rfl
      have hcz22_1 : wr.cell? ⟨cN, 1, none⟩ = some (.slice aw af.length ao) := (a7 bz.out 1).trans rfl
      have hfz22_0 := a8 bz.out 0
      have hfz22_1 := a8 bz.out 1
      go_wp2
      go_ret2
      exact ⟨_, by first | rfl | (simp [al, ak] <;> rfl) | (simp [*, al, ak] <;> rfl), by (with_reducible repeat (first | apply Kd.R_alloc | apply Kd.R_drewN | apply Kd.R_drew)); exact HO_7.out, by repeat (first | (with_reducible first | exact HB.out | apply a6 | apply a4 | apply a5 | refine a9 ?_ fe.out) | exact HB.out)⟩
  ·replace c6 := Bool.eq_false_iff.mpr c6
   subst c6
   have H1 : (some (([] : List Int), 1)) = some (r1, r2) := by rw [if_neg (show ¬ (false = true) by decide)] at H; exact H
   clear H
   have H := H1
   clear H1
   simp only [Option.some.injEq, Prod.mk.injEq] at H
   obtain ⟨rfl, rfl⟩ := H
   go_enter Try.func14, Try.ntmps14
   go_wp2_with (first | ((with_reducible refine az (N := 2) rfl ?_); refine ap ?hg (N := 2) ?hd (cs := #[.slice au ai.length aq, .slice aw af.length ao]) (t := 25) ?hr ?_; (case hd => rfl); (case hg => rfl); (case hr => first | (go_simp; done) | (go_simp; rfl)); intro cN hg w23 hbox hb; have n0_ := Aside0.mk (ah (by repeat (first | (with_reducible first | exact HB.out | apply a6 | apply a4 | apply a5) | exact HB.out)) hb); have n1_ := Aside0.mk (hbox); have n2_ := Aside0.mk ((by rw [hg]; exact (ae (by repeat (first | (with_reducible first | exact HB.out | apply a6 | apply a4 | apply a5) | exact HB.out))) : w.heap.size ≤ cN)); have n3_ := Aside0.mk ((by rw [hg]; exact (ae (by repeat (first | (with_reducible first | exact HB.out | apply a6 | apply a4 | apply a5) | exact HB.out))) : w.heap.size ≤ cN)); clear HB; have HB := n0_; have bz := n1_; have GW204 := n2_; have fe := n3_; clear n0_ n1_ n2_ n3_; clear hb hbox hg; have hcz24_0 : w23.cell? ⟨cN, 0, none⟩ = some (.slice au ai.length aq) := (a7 bz.out 0).trans rfl; have hcz24_1 : w23.cell? ⟨cN, 1, none⟩ = some (.slice aw af.length ao) := (a7 bz.out 1).trans rfl; have hfz24_0 := a8 bz.out 0; have hfz24_1 := a8 bz.out 1) | ((with_reducible refine am (f := 18) rfl ?_); refine aY (some 10) rfl rfl Try.func18 (by kernel_rfl) rfl #[.agg #[.slice au ai.length aq, .slice aw af.length ao]] rfl (by (try simp only [List.map_toArray, List.map_cons, List.map_nil]); first | done | rfl | (simp only [List.length_drop, List.length_take]; rfl)) ?_; (with_reducible refine (fastiref15_Check.calls k _ _ ai _ _ af t205 _ ?side1 ?side2 ?side3 ?side4 A3.out).mono ?_); (case side1 => repeat (first | exact (Kd.C_below bf.out HB.out) | (with_reducible refine Kd.C_alloc ?_ _) | (with_reducible refine Kd.C_drewN ?_ _) | (with_reducible refine Kd.C_drew ?_))); (case side2 => exact bo.out); (case side3 => repeat (first | exact (Kd.C_below bd.out HB.out) | (with_reducible refine Kd.C_alloc ?_ _) | (with_reducible refine Kd.C_drewN ?_ _) | (with_reducible refine Kd.C_drew ?_))); (case side4 => exact bn.out); rintro e w25 ⟨rfl, hb⟩; refine ⟨_, rfl, ?_⟩; have n0_ := Aside0.mk (ag (g := cN) (o := .cells #[.slice au ai.length aq, .slice aw af.length ao] 25 (0, 0)) (by (with_reducible repeat (first | refine ab ?_ _ | refine ac ?_ | refine aa ?_ _)); exact bz.out) hb); have n1_ := Aside0.mk (ah (by repeat (first | (with_reducible first | exact HB.out | apply a6 | apply a4 | apply a5 | refine a9 ?_ fe.out) | exact HB.out)) hb); clear bz; clear HB; have bz := n0_; have HB := n1_; clear n0_ n1_; (try clear hb); (try clear hb2); (try clear hk); (try clear hi); have hcz26_0 : w25.cell? ⟨cN, 0, none⟩ = some (.slice au ai.length aq) := (a7 bz.out 0).trans rfl; have hcz26_1 : w25.cell? ⟨cN, 1, none⟩ = some (.slice aw af.length ao) := (a7 bz.out 1).trans rfl; have hfz26_0 := a8 bz.out 0; have hfz26_1 := a8 bz.out 1) | ((with_reducible refine am (f := 33) rfl ?_); refine aY (some 16) rfl rfl Try.func33 (by kernel_rfl) rfl #[.agg #[.slice au ai.length aq, .slice aw af.length ao], .slice A1 l1.length c1] rfl (by (try simp only [List.map_toArray, List.map_cons, List.map_nil]); first | done | rfl | (simp only [List.length_drop, List.length_take]; rfl)) ?_; (with_reducible refine (fastiref15_assignment.calls k _ _ ai _ _ af _ _ l1 false _ ?side1 ?side2 ?side3 ?side4 ?side5 ?side6 A5.out).mono ?_); (case side1 => repeat (first | exact (Kd.C_below bf.out HB.out) | (with_reducible refine Kd.C_alloc ?_ _) | (with_reducible refine Kd.C_drewN ?_ _) | (with_reducible refine Kd.C_drew ?_))); (case side2 => exact bo.out); (case side3 => repeat (first | exact (Kd.C_below bd.out HB.out) | (with_reducible refine Kd.C_alloc ?_ _) | (with_reducible refine Kd.C_drewN ?_ _) | (with_reducible refine Kd.C_drew ?_))); (case side4 => exact bn.out); (case side5 => repeat (first | exact (Kd.C_below HR1.out HB.out) | (with_reducible refine Kd.C_alloc ?_ _) | (with_reducible refine Kd.C_drewN ?_ _) | (with_reducible refine Kd.C_drew ?_))); (case side6 => exact HC1.out); rintro e w27 ⟨rfl, hb⟩; refine ⟨_, rfl, ?_⟩; have n0_ := Aside0.mk (ag (g := cN) (o := .cells #[.slice au ai.length aq, .slice aw af.length ao] 25 (0, 0)) (by (with_reducible repeat (first | refine ab ?_ _ | refine ac ?_ | refine aa ?_ _)); exact bz.out) hb); have n1_ := Aside0.mk (ah (by repeat (first | (with_reducible first | exact HB.out | apply a6 | apply a4 | apply a5 | refine a9 ?_ fe.out) | exact HB.out)) hb); clear bz; clear HB; have bz := n0_; have HB := n1_; clear n0_ n1_; (try clear hb); (try clear hb2); (try clear hk); (try clear hi)))
   go_ret2
   exact ⟨_, by first | rfl | (simp [al, ak] <;> rfl) | (simp [*, al, ak] <;> rfl), by first | exact Kd.R_nil _ _ _ _ _ | exact Kd.N_nil _ _ _ _ _ | exact Kd.V_nil _ _ _ _ _ | exact Kd.Q_nil _ _ _ _ _ | exact Kd.S_nil _ _ _ _ _, by repeat (first | (with_reducible first | exact HB.out | apply a6 | apply a4 | apply a5 | refine a9 ?_ fe.out) | exact HB.out)⟩
 ·rw [if_neg c4] at H
  have el : (t205 == 0) = false := beq_eq_false_iff_ne.mpr c4
  have c4b1 : (t205 != 0) = true := bne_iff_ne.mpr c4
  simp only [Option.some.injEq, Prod.mk.injEq] at H
  obtain ⟨rfl, rfl⟩ := H
  go_enter Try.func14, Try.ntmps14
  go_wp2_with (first | ((with_reducible refine az (N := 2) rfl ?_); refine ap ?hg (N := 2) ?hd (cs := #[.slice au ai.length aq, .slice aw af.length ao]) (t := 25) ?hr ?_; (case hd => rfl); (case hg => rfl); (case hr => first | (go_simp; done) | (go_simp; rfl)); intro cN hg w28 hbox hb; have n0_ := Aside0.mk (ah (by repeat (first | (with_reducible first | exact HB.out | apply a6 | apply a4 | apply a5) | exact HB.out)) hb); have n1_ := Aside0.mk (hbox); have n2_ := Aside0.mk ((by rw [hg]; exact (ae (by repeat (first | (with_reducible first | exact HB.out | apply a6 | apply a4 | apply a5) | exact HB.out))) : w.heap.size ≤ cN)); have n3_ := Aside0.mk ((by rw [hg]; exact (ae (by repeat (first | (with_reducible first | exact HB.out | apply a6 | apply a4 | apply a5) | exact HB.out))) : w.heap.size ≤ cN)); clear HB; have HB := n0_; have bz := n1_; have GW204 := n2_; have fe := n3_; clear n0_ n1_ n2_ n3_; clear hb hbox hg; have hcz29_0 : w28.cell? ⟨cN, 0, none⟩ = some (.slice au ai.length aq) := (a7 bz.out 0).trans rfl; have hcz29_1 : w28.cell? ⟨cN, 1, none⟩ = some (.slice aw af.length ao) := (a7 bz.out 1).trans rfl; have hfz29_0 := a8 bz.out 0; have hfz29_1 := a8 bz.out 1) | ((with_reducible refine am (f := 18) rfl ?_); refine aY (some 10) rfl rfl Try.func18 (by kernel_rfl) rfl #[.agg #[.slice au ai.length aq, .slice aw af.length ao]] rfl (by (try simp only [List.map_toArray, List.map_cons, List.map_nil]); first | done | rfl | (simp only [List.length_drop, List.length_take]; rfl)) ?_; (with_reducible refine (fastiref15_Check.calls k _ _ ai _ _ af t205 _ ?side1 ?side2 ?side3 ?side4 A3.out).mono ?_); (case side1 => repeat (first | exact (Kd.C_below bf.out HB.out) | (with_reducible refine Kd.C_alloc ?_ _) | (with_reducible refine Kd.C_drewN ?_ _) | (with_reducible refine Kd.C_drew ?_))); (case side2 => exact bo.out); (case side3 => repeat (first | exact (Kd.C_below bd.out HB.out) | (with_reducible refine Kd.C_alloc ?_ _) | (with_reducible refine Kd.C_drewN ?_ _) | (with_reducible refine Kd.C_drew ?_))); (case side4 => exact bn.out); rintro e w30 ⟨rfl, hb⟩; refine ⟨_, rfl, ?_⟩; have n0_ := Aside0.mk (ag (g := cN) (o := .cells #[.slice au ai.length aq, .slice aw af.length ao] 25 (0, 0)) (by (with_reducible repeat (first | refine ab ?_ _ | refine ac ?_ | refine aa ?_ _)); exact bz.out) hb); have n1_ := Aside0.mk (ah (by repeat (first | (with_reducible first | exact HB.out | apply a6 | apply a4 | apply a5 | refine a9 ?_ fe.out) | exact HB.out)) hb); clear bz; clear HB; have bz := n0_; have HB := n1_; clear n0_ n1_; (try clear hb); (try clear hb2); (try clear hk); (try clear hi)))
  go_ret2
  exact ⟨_, by first | rfl | (simp [al, ak] <;> rfl) | (simp [*, al, ak] <;> rfl), by first | exact Kd.R_nil _ _ _ _ _ | exact Kd.N_nil _ _ _ _ _ | exact Kd.V_nil _ _ _ _ _ | exact Kd.Q_nil _ _ _ _ _ | exact Kd.S_nil _ _ _ _ _, by repeat (first | (with_reducible first | exact HB.out | apply a6 | apply a4 | apply a5 | refine a9 ?_ fe.out) | exact HB.out)⟩
def fastiref15_first.l0 : Nat → List Int → Int → List (List Int) → List (S49) → Option (Int)
 | 0, _, _, _, _ => none
 | k + 1, x1, x5, x213000, it => if x5 < (it.length : Int) then (if 0 ≤ x5 then ((fastiref15_Breaks.f k ((aj it x5).f0) ((aj it x5).f1) ((aj it x5).f2) ((aj it x5).f3) x1).bind fun t214 => (if t214 = true then (some x5) else (fastiref15_first.l0 k x1 (wrap64 (x5 + 1)) x213000 it))) else (none)) else (some (-1))
def fastiref15_first.f (k : Nat) (ai : List (List Int)) (af : List (S49)) (l1 : List Int) : Option (Int) := fastiref15_first.l0 k l1 0 ai af
set_option maxHeartbeats 8000000 in
set_option maxRecDepth 100000 in
theorem fastiref15_first.calls (k : Nat) (au : Option Addr) (aq : Nat) (ai : List (List Int)) (aw : Option Addr) (ao : Nat) (af : List (S49)) (A1 : Option Addr) (c1 : Nat) (l1 : List Int) (r : Int) (w : World) (bG : Kd.C (Kd.slice 3 (Kd.int .i64)) w au ai.length ai) (bO : ai.length ≤ aq) (bB : Kd.C k49 w aw af.length af) (bF : af.length ≤ ao) (hr1 : Kd.C (Kd.int .i64) w A1 l1.length l1) (hc1 : l1.length ≤ c1) (h : fastiref15_first.f k ai af l1 = some r) :
  Calls Try.prog 54 #[.agg #[.slice au ai.length aq, .slice aw af.length ao], .slice A1 l1.length c1] w fun e w' => e = .returned (.int .i64 r) ∧ Below w.heap.size w w' := by
 have hu25 := Try.underlying25
 have hu49 := Try.underlying49
 have bf := Aside0.mk bG
 have bo := Aside0.mk bO
 clear bG bO
 have bd := Aside0.mk bB
 have bn := Aside0.mk bF
 clear bB bF
 have HR1 := Aside0.mk hr1
 have HC1 := Aside0.mk hc1
 clear hr1 hc1
 have HB := Aside0.mk (Below.refl w.heap.size w)
 have H : (fastiref15_first.l0 k l1 0 ai af) = some r := h
 clear h
 have H' := Aside0.mk H
 clear H
 go_enter Try.func54, Try.ntmps54
 go_wp2_with (first | ((with_reducible refine az (N := 2) rfl ?_); refine ap ?hg (N := 2) ?hd (cs := #[.slice au ai.length aq, .slice aw af.length ao]) (t := 25) ?hr ?_; (case hd => rfl); (case hg => rfl); (case hr => first | (go_simp; done) | (go_simp; rfl)); intro kB hg w3 hbox hb; have n0_ := Aside0.mk (ah (by repeat (first | (with_reducible first | exact HB.out | apply a6 | apply a4 | apply a5) | exact HB.out)) hb); have n1_ := Aside0.mk (hbox); have n2_ := Aside0.mk ((by rw [hg]; exact (ae (by repeat (first | (with_reducible first | exact HB.out | apply a6 | apply a4 | apply a5) | exact HB.out))) : w.heap.size ≤ kB)); have n3_ := Aside0.mk ((by rw [hg]; exact (ae (by repeat (first | (with_reducible first | exact HB.out | apply a6 | apply a4 | apply a5) | exact HB.out))) : w.heap.size ≤ kB)); clear HB; have HB := n0_; have ee := n1_; have GW212 := n2_; have GE212 := n3_; clear n0_ n1_ n2_ n3_; clear hb hbox hg))
 go_loopg [5] k (fun kq v5 w' => ∃ (x5_1 : Int), v5 = .int .i64 x5_1 ∧ Aside0 (fastiref15_first.l0 kq l1 x5_1 ai af = some r) ∧ Aside0 (kq ≤ k) ∧ Aside0 (w'.heap[kB]? = some (.cells #[(.slice au ai.length aq), (.slice aw af.length ao)] 25 (0, 0))) ∧ Aside0 (Below w.heap.size w w'))
 case atStart => exact ⟨(0), (by first | rfl | (simp; done) | (simp [*]; done)), H', ⟨Nat.le_refl _⟩, ⟨by (with_reducible repeat (first | refine ab ?_ _ | refine ac ?_ | refine aa ?_ _)); exact ee.out⟩, ⟨by repeat (first | (with_reducible first | exact HB.out | apply a6 | apply a4 | apply a5 | refine a9 ?_ GE212.out) | exact HB.out)⟩⟩
 case round =>
  clear H'
  try clear c1; try clear p2
  obtain ⟨x5_1, rfl, HA, HK1, ee, HB⟩ := hrel
  cases gk with
  | zero => exact absurd HA.out (by simp [fastiref15_first.l0])
  | succ k1 =>
   have H := HA.out
   clear HA
   simp only [fastiref15_first.l0] at H
   by_cases c4 : x5_1 < (af.length : Int)
   ·rw [if_pos c4] at H
    have el : decide (x5_1 < (af.length : Int)) = true := decide_eq_true c4
    clear c4
    by_cases c5 : 0 ≤ x5_1
    ·rw [if_pos c5] at H
     have c5b0 : decide (0 ≤ x5_1) = true := decide_eq_true c5
     clear c5
     replace H := Option.bind_eq_some_iff.mp H
     obtain ⟨t214, A60, H⟩ := H
     replace H : (if t214 = true then (some x5_1) else (fastiref15_first.l0 k1 l1 (wrap64 (x5_1 + 1)) ai af)) = some r := H
     have A6 := Aside0.mk A60
     clear A60
     by_cases c7 : t214 = true
     ·subst c7
      have H1 : (some x5_1) = some r := by rw [if_pos rfl] at H; exact H
      clear H
      have H := H1
      clear H1
      obtain rfl := Option.some.inj H
      have dX : wr.cell? ⟨kB, 0, none⟩ = some (.slice au ai.length aq) := (a7 ee.out 0).trans rfl
      have dY : wr.cell? ⟨kB, 1, none⟩ = some (.slice aw af.length ao) := (a7 ee.out 1).trans rfl
      have dZ := a8 ee.out 0
      have e6 := a8 ee.out 1
      have p213 : 0 ≤ (x5_1 : Int) := of_decide_eq_true (by first | (with_reducible assumption) | assumption)
      have q213 : x5_1 < (af.length : Int) := of_decide_eq_true (by first | (with_reducible assumption) | assumption)
      obtain ⟨ad213, A213_2, c213_2, A213_3, c213_3, e213, gv, gw, gy, gz, kC, kD, kE, kF⟩ := dv bd.out x5_1 p213 q213
      cases e213
      replace gv := (HB.out.cell (World.block_lt_of_cell? w _ gv)).trans gv
      replace gw := (HB.out.cell (World.block_lt_of_cell? w _ gw)).trans gw
      replace gy := (HB.out.cell (World.block_lt_of_cell? w _ gy)).trans gy
      replace gz := (HB.out.cell (World.block_lt_of_cell? w _ gz)).trans gz
      have HR213_2 := Aside0.mk kD
      have HC213_2 := Aside0.mk kC
      clear kD kC
      have HR213_3 := Aside0.mk kF
      have HC213_3 := Aside0.mk kE
      clear kF kE
      replace p213 := eq_true p213
      replace q213 := eq_true q213
      go_wp2_with (first | ((with_reducible refine am (f := 34) rfl ?_); refine aY (some 19) rfl rfl Try.func34 (by kernel_rfl) rfl #[.agg #[.int .i64 ((aj af x5_1).f0), .int .i64 ((aj af x5_1).f1), .slice A213_2 ((aj af x5_1).f2).length c213_2, .slice A213_3 ((aj af x5_1).f3).length c213_3], .slice A1 l1.length c1] rfl (by (try simp only [List.map_toArray, List.map_cons, List.map_nil]); first | done | rfl | (simp only [List.length_drop, List.length_take]; rfl)) ?_; (with_reducible refine (fastiref15_Breaks.calls k1 ((aj af x5_1).f0) ((aj af x5_1).f1) _ _ ((aj af x5_1).f2) _ _ ((aj af x5_1).f3) _ _ l1 true _ ?side1 ?side2 ?side3 ?side4 ?side5 ?side6 A6.out).mono ?_); (case side1 => repeat (first | exact (Kd.C_below HR213_2.out HB.out) | (with_reducible refine Kd.C_alloc ?_ _) | (with_reducible refine Kd.C_drewN ?_ _) | (with_reducible refine Kd.C_drew ?_))); (case side2 => exact HC213_2.out); (case side3 => repeat (first | exact (Kd.C_below HR213_3.out HB.out) | (with_reducible refine Kd.C_alloc ?_ _) | (with_reducible refine Kd.C_drewN ?_ _) | (with_reducible refine Kd.C_drew ?_))); (case side4 => exact HC213_3.out); (case side5 => repeat (first | exact (Kd.C_below HR1.out HB.out) | (with_reducible refine Kd.C_alloc ?_ _) | (with_reducible refine Kd.C_drewN ?_ _) | (with_reducible refine Kd.C_drew ?_))); (case side6 => exact HC1.out); rintro e w9 ⟨rfl, hb⟩; refine ⟨_, rfl, ?_⟩; have n0_ := Aside0.mk (ag (g := kB) (o := .cells #[.slice au ai.length aq, .slice (some ad213) af.length ao] 25 (0, 0)) (by (with_reducible repeat (first | refine ab ?_ _ | refine ac ?_ | refine aa ?_ _)); exact ee.out) hb); have n1_ := Aside0.mk (ah (by repeat (first | (with_reducible first | exact HB.out | apply a6 | apply a4 | apply a5 | refine a9 ?_ GE212.out) | exact HB.out)) hb); clear ee; clear HB; have ee := n0_; have HB := n1_; clear n0_ n1_; (try clear hb); (try clear hb2); (try clear hk); (try clear hi)))
      go_ret
      exact ⟨by first | rfl | (simp [al, ak] <;> rfl) | (simp [*, al, ak] <;> rfl), by repeat (first | (with_reducible first | exact HB.out | apply a6 | apply a4 | apply a5 | refine a9 ?_ GE212.out) | exact HB.out)⟩
     ·replace c7 := Bool.eq_false_iff.mpr c7
      subst c7
      have H1 : (fastiref15_first.l0 k1 l1 (wrap64 (x5_1 + 1)) ai af) = some r := by rw [if_neg (show ¬ (false = true) by decide)] at H; exact H
      clear H
      have H := H1
      clear H1
      have H' := Aside0.mk H
      clear H
      have eX : wr.cell? ⟨kB, 0, none⟩ = some (.slice au ai.length aq) := (a7 ee.out 0).trans rfl
      have eY : wr.cell? ⟨kB, 1, none⟩ = some (.slice aw af.length ao) := (a7 ee.out 1).trans rfl
      have eZ := a8 ee.out 0
      have f4 := a8 ee.out 1
      have p213 : 0 ≤ (x5_1 : Int) := of_decide_eq_true (by first | (with_reducible assumption) | assumption)
      have q213 : x5_1 < (af.length : Int) := of_decide_eq_true (by first | (with_reducible assumption) | assumption)
      obtain ⟨ad213, A213_2, c213_2, A213_3, c213_3, e213, gv, gw, gy, gz, kC, kD, kE, kF⟩ := dv bd.out x5_1 p213 q213
      cases e213
      replace gv := (HB.out.cell (World.block_lt_of_cell? w _ gv)).trans gv
      replace gw := (HB.out.cell (World.block_lt_of_cell? w _ gw)).trans gw
      replace gy := (HB.out.cell (World.block_lt_of_cell? w _ gy)).trans gy
      replace gz := (HB.out.cell (World.block_lt_of_cell? w _ gz)).trans gz
      have HR213_2 := Aside0.mk kD
      have HC213_2 := Aside0.mk kC
      clear kD kC
      have HR213_3 := Aside0.mk kF
      have HC213_3 := Aside0.mk kE
      clear kF kE
      replace p213 := eq_true p213
      replace q213 := eq_true q213
      go_wp2_with (first | ((with_reducible refine am (f := 34) rfl ?_); refine aY (some 19) rfl rfl Try.func34 (by kernel_rfl) rfl #[.agg #[.int .i64 ((aj af x5_1).f0), .int .i64 ((aj af x5_1).f1), .slice A213_2 ((aj af x5_1).f2).length c213_2, .slice A213_3 ((aj af x5_1).f3).length c213_3], .slice A1 l1.length c1] rfl (by (try simp only [List.map_toArray, List.map_cons, List.map_nil]); first | done | rfl | (simp only [List.length_drop, List.length_take]; rfl)) ?_; (with_reducible refine (fastiref15_Breaks.calls k1 ((aj af x5_1).f0) ((aj af x5_1).f1) _ _ ((aj af x5_1).f2) _ _ ((aj af x5_1).f3) _ _ l1 false _ ?side1 ?side2 ?side3 ?side4 ?side5 ?side6 A6.out).mono ?_); (case side1 => repeat (first | exact (Kd.C_below HR213_2.out HB.out) | (with_reducible refine Kd.C_alloc ?_ _) | (with_reducible refine Kd.C_drewN ?_ _) | (with_reducible refine Kd.C_drew ?_))); (case side2 => exact HC213_2.out); (case side3 => repeat (first | exact (Kd.C_below HR213_3.out HB.out) | (with_reducible refine Kd.C_alloc ?_ _) | (with_reducible refine Kd.C_drewN ?_ _) | (with_reducible refine Kd.C_drew ?_))); (case side4 => exact HC213_3.out); (case side5 => repeat (first | exact (Kd.C_below HR1.out HB.out) | (with_reducible refine Kd.C_alloc ?_ _) | (with_reducible refine Kd.C_drewN ?_ _) | (with_reducible refine Kd.C_drew ?_))); (case side6 => exact HC1.out); rintro e w11 ⟨rfl, hb⟩; refine ⟨_, rfl, ?_⟩; have n0_ := Aside0.mk (ag (g := kB) (o := .cells #[.slice au ai.length aq, .slice (some ad213) af.length ao] 25 (0, 0)) (by (with_reducible repeat (first | refine ab ?_ _ | refine ac ?_ | refine aa ?_ _)); exact ee.out) hb); have n1_ := Aside0.mk (ah (by repeat (first | (with_reducible first | exact HB.out | apply a6 | apply a4 | apply a5 | refine a9 ?_ GE212.out) | exact HB.out)) hb); clear ee; clear HB; have ee := n0_; have HB := n1_; clear n0_ n1_; (try clear hb); (try clear hb2); (try clear hk); (try clear hi)))
      go_roundg k1
      case measure => have := HK1.out; omega
      case rel => exact ⟨(wrap64 (x5_1 + 1)), (by first | rfl | (simp; done) | (simp [*]; done)), H', ⟨by have := HK1.out; omega⟩, ⟨by (with_reducible repeat (first | refine ab ?_ _ | refine ac ?_ | refine aa ?_ _)); exact ee.out⟩, ⟨by repeat (first | (with_reducible first | exact HB.out | apply a6 | apply a4 | apply a5 | refine a9 ?_ GE212.out) | exact HB.out)⟩⟩
    ·rw [if_neg c5] at H
     exact absurd H (by simp)
   ·rw [if_neg c4] at H
    have el : decide (x5_1 < (af.length : Int)) = false := decide_eq_false c4
    clear c4
    obtain rfl := Option.some.inj H
    have cJ : wr.cell? ⟨kB, 0, none⟩ = some (.slice au ai.length aq) := (a7 ee.out 0).trans rfl
    have cK : wr.cell? ⟨kB, 1, none⟩ = some (.slice aw af.length ao) := (a7 ee.out 1).trans rfl
    have cL := a8 ee.out 0
    have cM := a8 ee.out 1
    go_wp2
    go_ret
    exact ⟨by first | rfl | (simp [al, ak] <;> rfl) | (simp [*, al, ak] <;> rfl), by repeat (first | (with_reducible first | exact HB.out | apply a6 | apply a4 | apply a5 | refine a9 ?_ GE212.out) | exact HB.out)⟩
end Go.Proofs.Ytcbpkdemcdikaaa.X
namespace Go.Proofs.Ytcbpkdemcdikaaa.X
open Go.RowKit Go.Proofs.YtcbpkdemcdikaaaW.PrintWords Go.Proofs.YtcbpkdemcdikaaaW.PrintLast Go.Proofs.YtcbpkdemcdikaaaW.PrintMore
attribute [local go_sem] aT aM aZ bc aE aG aU aN   
set_option linter.unusedVariables false
set_option linter.unusedSimpArgs false
theorem rowS {w w2 : World} {S : Nat → Prop} {ad : Addr} {xs : List (List Int)} (h : ∀ W_, Kept w W_ S → Kd.C (Kd.slice 3 (Kd.int .i64)) W_ (some ad) xs.length xs) (hk : Kept w w2 S) (i : Int) (p0 : 0 ≤ i) (q0 : i < xs.length) {B : Option Addr} {m c : Nat} (hx : w2.cell? (ad.add i.toNat) = some (.slice B m c)) :
  ∀ W_, Kept w W_ S → Kd.C (Kd.int .i64) W_ B (ax xs i).length (ax xs i) := fun W_ hW => by
 have hn : 0 < xs.length := by omega
 have hs : ¬ S ad.block := Kd.foot_neS h hn (by decide)
 have hl : ad.block < w.heap.size := Kd.foot_ltS h hn (by decide)
 obtain ⟨ad', B', c', e', hx', _, hc'⟩ := dD (h W_ hW) i p0 q0
 cases e'
 obtain ⟨ad0, B0, c0, e0, hx0, _, _⟩ := dD (h w (Kept.refl w S)) i p0 q0
 cases e0
 have h2 := Go.Proofs.YtcbpkdemcdikaaaW.PrintWords.cell_kept hx0 hk (by rw [Go.Proofs.YtcbpkdemcdikaaaW.PrintWords.add_block]; exact hs)
 have h3 := Go.Proofs.YtcbpkdemcdikaaaW.PrintWords.cell_kept hx0 hW (by rw [Go.Proofs.YtcbpkdemcdikaaaW.PrintWords.add_block]; exact hs)
 rw [h2] at hx
 rw [h3] at hx'
 have a1 := Option.some.inj hx
 have a2 := Option.some.inj hx'
 injection a1 with b1 _ _
 injection a2 with b2 _ _
 rw [← b1, b2]
 exact hc'
mutual
def fastiref15_solve.l0 : Nat → List Int → List Int → Int → List (List Int) → List (S49) → Option (List Int × Bool)
 | 0, _, _, _, _, _ => none
 | k + 1, x1, x6, x7, x216000, x216001 => if x7 < (x6.length : Int) then ((some (([] : List Int) : List Int)).bind fun y218 => (if y218.length + x1.length < 17592186044416 then ((some (y218 ++ x1 : List Int)).bind fun y221 => (if 0 ≤ x7 then ((some (([rd x6 x7] : List Int) : List Int)).bind fun y225 => (if y221.length + y225.length < 17592186044416 then ((fastiref15_solve.f k x216000 x216001 (y221 ++ y225)).bind fun gT => (if gT.2 = true then (some (gT.1, true)) else (fastiref15_solve.l0 k x1 x6 (wrap64 (x7 + 1)) x216000 x216001))) else (none))) else (none))) else (none))) else (some (([] : List Int), false))
def fastiref15_solve.f : Nat → List (List Int) → List (S49) → List Int → Option (List Int × Bool)
 | 0, _, _, _ => none
 | k + 1, ai, af, l1 => (fastiref15_first.f k ai af l1).bind fun t216 => (if t216 ≥ 0 then (some (([] : List Int), false)) else (if (l1.length : Int) = (ai.length : Int) then (some (l1, true)) else (if 0 ≤ (l1.length : Int) then (if (l1.length : Int) < (ai.length : Int) then (fastiref15_solve.l0 k l1 (ax ai (l1.length : Int)) 0 ai af) else (none)) else (none))))
end
def fastiref15_solve.T9 : Bool × List (List Nat × List Nat) := (true, [([], []), ([], []), ([], []), ([1, 2], [1, 2]), ([], []), ([], []), ([4, 5], [4, 5]), ([6], [6]), ([7], [7]), ([3, 8, 3], [3, 8]), ([0, 9, 9], [0, 9]), ([10], [10]), ([11], [11]), ([11], [11]), ([12, 10, 0, 1, 2, 3, 4, 5, 6, 7, 8, 9, 10, 11, 12], [12]), ([13, 14, 0, 1, 2, 3, 4, 5, 6, 7, 8, 9, 10, 11, 12, 13, 14], [13])])
def fastiref15_solve.B9 : List Nat := [0, 0, 0, 6, 0, 0, 48, 112, 240, 510, 1023, 2047, 4095, 4095, 8191, 32767]
theorem fastiref15_solve.tab9 : eK .any (gA Try.f36 9) = fastiref15_solve.T9 := by kernel_rfl
theorem fastiref15_solve.bits9 : eR fastiref15_solve.T9.2 fastiref15_solve.B9 = true := by kernel_rfl
set_option maxHeartbeats 8000000 in
set_option maxRecDepth 100000 in
theorem fastiref15_solve.calls (k : Nat) : ∀ (au : Option Addr) (aq : Nat) (ai : List (List Int)) (aw : Option Addr) (ao : Nat) (af : List (S49)) (P1_ : Nat → Prop) (u9000_ : Value) (l1 : List Int) (r1 : List Int) (r2 : Bool) (w0 w : World) (hB : Below w0.heap.size w0 w) (bG : ∀ W_, Kept w W_ (fun k_ => P1_ k_) → Kd.C (Kd.slice 3 (Kd.int .i64)) W_ au ai.length ai) (bO : ai.length ≤ aq) (bB : ∀ W_, Kept w W_ (fun k_ => P1_ k_) → Kd.C k49 W_ aw af.length af) (bF : af.length ≤ ao) (ho1 : Kd.R (Kd.int .i64) 3 w w0.heap.size P1_ u9000_ l1) (h : fastiref15_solve.f k ai af l1 = some (r1, r2)),
  Calls Try.prog 36 #[.agg #[.slice au ai.length aq, .slice aw af.length ao], u9000_] w fun e w' => ∃ v0_ : Value, e = .returned (.tuple #[v0_, .bool r2]) ∧ Kd.R (Kd.int .i64) 3 w' w0.heap.size (fun k_ => (P1_ k_ ∨ w.heap.size ≤ k_)) v0_ r1 ∧ Below w0.heap.size w0 w' ∧ Kept w w' (fun k_ => P1_ k_) := by
 induction k using Nat.strongRecOn with
 | _ k ih =>
 intro au aq ai aw ao af P1_ u9000_ l1 r1 r2 w0 w hB bG bO bB bF ho1 h
 cases k with
 | zero => exact absurd h (by simp [fastiref15_solve.f])
 | succ k =>
 simp only [fastiref15_solve.f] at h
 have hu25 := Try.underlying25
 have bf := Aside0.mk bG
 have bo := Aside0.mk bO
 clear bG bO
 have bd := Aside0.mk bB
 have bn := Aside0.mk bF
 clear bB bF
 have HO1 := Aside0.mk (show Kd.R (Kd.int .i64) 3 w w0.heap.size (fun k_ => (P1_ k_ ∨ w.heap.size ≤ k_)) u9000_ l1 from Kd.R_mono ho1 (fun k_ hk => (.inl hk)))
 have HK := Aside0.mk (Kept.refl w (fun k_ => P1_ k_))
 have HW0 := Aside0.mk hB.size
 have HB := Aside0.mk hB
 clear hB
 have H : ((fastiref15_first.f k ai af l1).bind fun t216 => (if t216 ≥ 0 then (some (([] : List Int), false)) else (if (l1.length : Int) = (ai.length : Int) then (some (l1, true)) else (if 0 ≤ (l1.length : Int) then (if (l1.length : Int) < (ai.length : Int) then (fastiref15_solve.l0 k l1 (ax ai (l1.length : Int)) 0 ai af) else (none)) else (none))))) = some (r1, r2) := h
 clear h
 replace H := Option.bind_eq_some_iff.mp H
 obtain ⟨t216, A30, H⟩ := H
 replace H : (if t216 ≥ 0 then (some (([] : List Int), false)) else (if (l1.length : Int) = (ai.length : Int) then (some (l1, true)) else (if 0 ≤ (l1.length : Int) then (if (l1.length : Int) < (ai.length : Int) then (fastiref15_solve.l0 k l1 (ax ai (l1.length : Int)) 0 ai af) else (none)) else (none)))) = some (r1, r2) := H
 have A3 := Aside0.mk A30
 clear A30
 by_cases c4 : t216 ≥ 0
 ·rw [if_pos c4] at H
  have el : decide (0 ≤ t216) = true := decide_eq_true c4
  clear c4
  simp only [Option.some.injEq, Prod.mk.injEq] at H
  obtain ⟨rfl, rfl⟩ := H
  go_enter Try.func36, Try.ntmps36
  go_wp2_with (first | ((with_reducible refine az (N := 2) rfl ?_); refine ap ?hg (N := 2) ?hd (cs := #[.slice au ai.length aq, .slice aw af.length ao]) (t := 25) ?hr ?_; (case hd => rfl); (case hg => rfl); (case hr => first | (go_simp; done) | (go_simp; rfl)); intro bH hg w5 hbox hb; have n0_ := Aside0.mk (Kd.R_below (by (with_reducible repeat (first | apply Kd.R_alloc | apply Kd.R_drewN | apply Kd.R_drew)); exact HO1.out) hb); have n1_ := Aside0.mk (Kept.below (S := (fun k_ => P1_ k_)) (by repeat (first | (with_reducible first | exact HK.out | apply Kept.alloc | apply Kept.drewN | apply Kept.drew) | exact HK.out)) hb); have n2_ := Aside0.mk (ah (by repeat (first | (with_reducible first | exact HB.out | apply a6 | apply a4 | apply a5) | exact HB.out)) hb); have n3_ := Aside0.mk (hbox); have n4_ := Aside0.mk ((by rw [hg]; exact (by first | exact HK.out.1 | exact (show Kept w _ (fun k_ => P1_ k_) from by repeat (first | (with_reducible first | exact HK.out | apply Kept.alloc | apply Kept.drewN | apply Kept.drew) | exact HK.out)).1) : w.heap.size ≤ bH)); have n5_ := Aside0.mk ((by rw [hg]; exact (ae (by repeat (first | (with_reducible first | exact HB.out | apply a6 | apply a4 | apply a5) | exact HB.out))) : w0.heap.size ≤ bH)); clear HO1; clear HK; clear HB; have HO1 := n0_; have HK := n1_; have HB := n2_; have aC := n3_; have bu := n4_; have bJ := n5_; clear n0_ n1_ n2_ n3_ n4_ n5_; clear hb hbox hg; have dG : w5.cell? ⟨bH, 0, none⟩ = some (.slice au ai.length aq) := (a7 aC.out 0).trans rfl; have dH : w5.cell? ⟨bH, 1, none⟩ = some (.slice aw af.length ao) := (a7 aC.out 1).trans rfl; have dI := a8 aC.out 0; have dJ := a8 aC.out 1; obtain ⟨Ao7, co7, eo7⟩ := Kd.R_slice HO1.out; subst eo7) | ((with_reducible refine am (f := 54) rfl ?_); refine aY (some 12) rfl rfl Try.func54 (by kernel_rfl) rfl #[.agg #[.slice au ai.length aq, .slice aw af.length ao], .slice Ao7 l1.length co7] rfl (by (try simp only [List.map_toArray, List.map_cons, List.map_nil]); first | done | rfl | (simp only [List.length_drop, List.length_take]; rfl)) ?_; (with_reducible refine (fastiref15_first.calls k _ _ ai _ _ af _ _ l1 t216 _ ?side1 ?side2 ?side3 ?side4 ?side5 ?side6 A3.out).mono ?_); (case side1 => exact Kd.C_kept_now bf.out (by repeat (first | (with_reducible first | exact HK.out | apply Kept.alloc | apply Kept.drewN | apply Kept.drew | refine Kept.setCell ?_ (.inr bu.out) _) | exact HK.out))); (case side2 => exact bo.out); (case side3 => exact Kd.C_kept_now bd.out (by repeat (first | (with_reducible first | exact HK.out | apply Kept.alloc | apply Kept.drewN | apply Kept.drew | refine Kept.setCell ?_ (.inr bu.out) _) | exact HK.out))); (case side4 => exact bn.out); (case side5 => repeat (first | exact (Kd.R_reads' HO1.out).2.2 | (with_reducible refine Kd.C_alloc ?_ _) | (with_reducible refine Kd.C_drewN ?_ _) | (with_reducible refine Kd.C_drew ?_))); (case side6 => exact (Kd.R_reads' HO1.out).2.1); rintro e w8 ⟨rfl, hb⟩; refine ⟨_, rfl, ?_⟩; have n0_ := Aside0.mk (Kd.R_below (by (with_reducible repeat (first | apply Kd.R_alloc | apply Kd.R_drewN | apply Kd.R_drew)); exact HO1.out) hb); have n1_ := Aside0.mk (ag (g := bH) (o := .cells #[.slice au ai.length aq, .slice aw af.length ao] 25 (0, 0)) (by (with_reducible repeat (first | refine ab ?_ _ | refine ac ?_ | refine aa ?_ _)); exact aC.out) hb); have n2_ := Aside0.mk (Kept.below (S := (fun k_ => P1_ k_)) (by repeat (first | (with_reducible first | exact HK.out | apply Kept.alloc | apply Kept.drewN | apply Kept.drew | refine Kept.setCell ?_ (.inr bu.out) _) | exact HK.out)) hb); have n3_ := Aside0.mk (ah (by repeat (first | (with_reducible first | exact HB.out | apply a6 | apply a4 | apply a5 | refine a9 ?_ bJ.out) | exact HB.out)) hb); clear HO1; clear aC; clear HK; clear HB; have HO1 := n0_; have aC := n1_; have HK := n2_; have HB := n3_; clear n0_ n1_ n2_ n3_; (try clear hb); (try clear hb2); (try clear hk); (try clear hi)))
  go_ret2
  exact ⟨_, by first | rfl | (simp [al, ak] <;> rfl) | (simp [*, al, ak] <;> rfl), by first | exact Kd.R_nil _ _ _ _ _ | exact Kd.N_nil _ _ _ _ _ | exact Kd.V_nil _ _ _ _ _ | exact Kd.Q_nil _ _ _ _ _ | exact Kd.S_nil _ _ _ _ _, by repeat (first | (with_reducible first | exact HB.out | apply a6 | apply a4 | apply a5 | refine a9 ?_ bJ.out) | exact HB.out), by repeat (first | (with_reducible first | exact HK.out | apply Kept.alloc | apply Kept.drewN | apply Kept.drew | refine Kept.setCell ?_ (.inr bu.out) _) | exact HK.out)⟩
 ·rw [if_neg c4] at H
  have el : decide (0 ≤ t216) = false := decide_eq_false c4
  clear c4
  by_cases c9 : (l1.length : Int) = (ai.length : Int)
  ·rw [if_pos c9] at H
   have c9b0 : ((l1.length : Int) == (ai.length : Int)) = true := beq_iff_eq.mpr c9
   have c9b1 : ((l1.length : Int) != (ai.length : Int)) = false := bne_eq_false_iff_eq.mpr c9
   have c9b2 : (l1.length == ai.length) = true := by first | simpa using c9 | (simp at c9 ⊢; omega)
   clear c9
   simp only [Option.some.injEq, Prod.mk.injEq] at H
   obtain ⟨rfl, rfl⟩ := H
   go_enter Try.func36, Try.ntmps36
   go_wp2_with (first | ((with_reducible refine az (N := 2) rfl ?_); refine ap ?hg (N := 2) ?hd (cs := #[.slice au ai.length aq, .slice aw af.length ao]) (t := 25) ?hr ?_; (case hd => rfl); (case hg => rfl); (case hr => first | (go_simp; done) | (go_simp; rfl)); intro bH hg w10 hbox hb; have n0_ := Aside0.mk (Kd.R_below (by (with_reducible repeat (first | apply Kd.R_alloc | apply Kd.R_drewN | apply Kd.R_drew)); exact HO1.out) hb); have n1_ := Aside0.mk (Kept.below (S := (fun k_ => P1_ k_)) (by repeat (first | (with_reducible first | exact HK.out | apply Kept.alloc | apply Kept.drewN | apply Kept.drew) | exact HK.out)) hb); have n2_ := Aside0.mk (ah (by repeat (first | (with_reducible first | exact HB.out | apply a6 | apply a4 | apply a5) | exact HB.out)) hb); have n3_ := Aside0.mk (hbox); have n4_ := Aside0.mk ((by rw [hg]; exact (by first | exact HK.out.1 | exact (show Kept w _ (fun k_ => P1_ k_) from by repeat (first | (with_reducible first | exact HK.out | apply Kept.alloc | apply Kept.drewN | apply Kept.drew) | exact HK.out)).1) : w.heap.size ≤ bH)); have n5_ := Aside0.mk ((by rw [hg]; exact (ae (by repeat (first | (with_reducible first | exact HB.out | apply a6 | apply a4 | apply a5) | exact HB.out))) : w0.heap.size ≤ bH)); clear HO1; clear HK; clear HB; have HO1 := n0_; have HK := n1_; have HB := n2_; have aC := n3_; have bu := n4_; have bJ := n5_; clear n0_ n1_ n2_ n3_ n4_ n5_; clear hb hbox hg; have bV : w10.cell? ⟨bH, 0, none⟩ = some (.slice au ai.length aq) := (a7 aC.out 0).trans rfl; have bW : w10.cell? ⟨bH, 1, none⟩ = some (.slice aw af.length ao) := (a7 aC.out 1).trans rfl; have bX := a8 aC.out 0; have bY := a8 aC.out 1; obtain ⟨Ao12, co12, eo12⟩ := Kd.R_slice HO1.out; subst eo12) | ((with_reducible refine am (f := 54) rfl ?_); refine aY (some 12) rfl rfl Try.func54 (by kernel_rfl) rfl #[.agg #[.slice au ai.length aq, .slice aw af.length ao], .slice Ao12 l1.length co12] rfl (by (try simp only [List.map_toArray, List.map_cons, List.map_nil]); first | done | rfl | (simp only [List.length_drop, List.length_take]; rfl)) ?_; (with_reducible refine (fastiref15_first.calls k _ _ ai _ _ af _ _ l1 t216 _ ?side1 ?side2 ?side3 ?side4 ?side5 ?side6 A3.out).mono ?_); (case side1 => exact Kd.C_kept_now bf.out (by repeat (first | (with_reducible first | exact HK.out | apply Kept.alloc | apply Kept.drewN | apply Kept.drew | refine Kept.setCell ?_ (.inr bu.out) _) | exact HK.out))); (case side2 => exact bo.out); (case side3 => exact Kd.C_kept_now bd.out (by repeat (first | (with_reducible first | exact HK.out | apply Kept.alloc | apply Kept.drewN | apply Kept.drew | refine Kept.setCell ?_ (.inr bu.out) _) | exact HK.out))); (case side4 => exact bn.out); (case side5 => repeat (first | exact (Kd.R_reads' HO1.out).2.2 | (with_reducible refine Kd.C_alloc ?_ _) | (with_reducible refine Kd.C_drewN ?_ _) | (with_reducible refine Kd.C_drew ?_))); (case side6 => exact (Kd.R_reads' HO1.out).2.1); rintro e w13 ⟨rfl, hb⟩; refine ⟨_, rfl, ?_⟩; have n0_ := Aside0.mk (Kd.R_below (by (with_reducible repeat (first | apply Kd.R_alloc | apply Kd.R_drewN | apply Kd.R_drew)); exact HO1.out) hb); have n1_ := Aside0.mk (ag (g := bH) (o := .cells #[.slice au ai.length aq, .slice aw af.length ao] 25 (0, 0)) (by (with_reducible repeat (first | refine ab ?_ _ | refine ac ?_ | refine aa ?_ _)); exact aC.out) hb); have n2_ := Aside0.mk (Kept.below (S := (fun k_ => P1_ k_)) (by repeat (first | (with_reducible first | exact HK.out | apply Kept.alloc | apply Kept.drewN | apply Kept.drew | refine Kept.setCell ?_ (.inr bu.out) _) | exact HK.out)) hb); have n3_ := Aside0.mk (ah (by repeat (first | (with_reducible first | exact HB.out | apply a6 | apply a4 | apply a5 | refine a9 ?_ bJ.out) | exact HB.out)) hb); clear HO1; clear aC; clear HK; clear HB; have HO1 := n0_; have aC := n1_; have HK := n2_; have HB := n3_; clear n0_ n1_ n2_ n3_; (try clear hb); (try clear hb2); (try clear hk); (try clear hi); have jQ : w13.cell? ⟨bH, 0, none⟩ = some (.slice au ai.length aq) := (a7 aC.out 0).trans rfl; have jR : w13.cell? ⟨bH, 1, none⟩ = some (.slice aw af.length ao) := (a7 aC.out 1).trans rfl; have jS := a8 aC.out 0; have jT := a8 aC.out 1))
   go_ret2
   exact ⟨_, by first | rfl | (simp [al, ak] <;> rfl) | (simp [*, al, ak] <;> rfl), by (with_reducible repeat (first | apply Kd.R_alloc | apply Kd.R_drewN | apply Kd.R_drew)); exact HO1.out, by repeat (first | (with_reducible first | exact HB.out | apply a6 | apply a4 | apply a5 | refine a9 ?_ bJ.out) | exact HB.out), by repeat (first | (with_reducible first | exact HK.out | apply Kept.alloc | apply Kept.drewN | apply Kept.drew | refine Kept.setCell ?_ (.inr bu.out) _) | exact HK.out)⟩
  ·rw [if_neg c9] at H
   have c9b0 : ((l1.length : Int) == (ai.length : Int)) = false := beq_eq_false_iff_ne.mpr c9
   have c9b1 : ((l1.length : Int) != (ai.length : Int)) = true := bne_iff_ne.mpr c9
   have c9b2 : (l1.length == ai.length) = false := by first | simpa using c9 | (simp at c9 ⊢; omega)
   by_cases c15 : 0 ≤ (l1.length : Int)
   ·rw [if_pos c15] at H
    have c15b0 : decide (0 ≤ (l1.length : Int)) = true := decide_eq_true c15
    have c15b1 : decide (0 ≤ l1.length) = true := decide_eq_true (by omega)
    clear c15
    by_cases c16 : (l1.length : Int) < (ai.length : Int)
    ·rw [if_pos c16] at H
     have c16b0 : decide ((l1.length : Int) < (ai.length : Int)) = true := decide_eq_true c16
     have c16b1 : decide (l1.length < ai.length) = true := decide_eq_true (Int.ofNat_lt.mp c16)
     clear c16
     have H' := Aside0.mk H
     clear H
     go_enter Try.func36, Try.ntmps36
     go_wp2_with (first | ((with_reducible refine az (N := 2) rfl ?_); refine ap ?hg (N := 2) ?hd (cs := #[.slice au ai.length aq, .slice aw af.length ao]) (t := 25) ?hr ?_; (case hd => rfl); (case hg => rfl); (case hr => first | (go_simp; done) | (go_simp; rfl)); intro bH hg w17 hbox hb; have n0_ := Aside0.mk (Kd.R_below (by (with_reducible repeat (first | apply Kd.R_alloc | apply Kd.R_drewN | apply Kd.R_drew)); exact HO1.out) hb); have n1_ := Aside0.mk (Kept.below (S := (fun k_ => P1_ k_)) (by repeat (first | (with_reducible first | exact HK.out | apply Kept.alloc | apply Kept.drewN | apply Kept.drew) | exact HK.out)) hb); have n2_ := Aside0.mk (ah (by repeat (first | (with_reducible first | exact HB.out | apply a6 | apply a4 | apply a5) | exact HB.out)) hb); have n3_ := Aside0.mk (hbox); have n4_ := Aside0.mk ((by rw [hg]; exact (by first | exact HK.out.1 | exact (show Kept w _ (fun k_ => P1_ k_) from by repeat (first | (with_reducible first | exact HK.out | apply Kept.alloc | apply Kept.drewN | apply Kept.drew) | exact HK.out)).1) : w.heap.size ≤ bH)); have n5_ := Aside0.mk ((by rw [hg]; exact (ae (by repeat (first | (with_reducible first | exact HB.out | apply a6 | apply a4 | apply a5) | exact HB.out))) : w0.heap.size ≤ bH)); clear HO1; clear HK; clear HB; have HO1 := n0_; have HK := n1_; have HB := n2_; have aC := n3_; have bu := n4_; have bJ := n5_; clear n0_ n1_ n2_ n3_ n4_ n5_; clear hb hbox hg; have hcz18_0 : w17.cell? ⟨bH, 0, none⟩ = some (.slice au ai.length aq) := (a7 aC.out 0).trans rfl; have hcz18_1 : w17.cell? ⟨bH, 1, none⟩ = some (.slice aw af.length ao) := (a7 aC.out 1).trans rfl; have hfz18_0 := a8 aC.out 0; have hfz18_1 := a8 aC.out 1; obtain ⟨Ao19, fB, eo19⟩ := Kd.R_slice HO1.out; subst eo19) | ((with_reducible refine am (f := 54) rfl ?_); refine aY (some 12) rfl rfl Try.func54 (by kernel_rfl) rfl #[.agg #[.slice au ai.length aq, .slice aw af.length ao], .slice Ao19 l1.length fB] rfl (by (try simp only [List.map_toArray, List.map_cons, List.map_nil]); first | done | rfl | (simp only [List.length_drop, List.length_take]; rfl)) ?_; (with_reducible refine (fastiref15_first.calls k _ _ ai _ _ af _ _ l1 t216 _ ?side1 ?side2 ?side3 ?side4 ?side5 ?side6 A3.out).mono ?_); (case side1 => exact Kd.C_kept_now bf.out (by repeat (first | (with_reducible first | exact HK.out | apply Kept.alloc | apply Kept.drewN | apply Kept.drew | refine Kept.setCell ?_ (.inr bu.out) _) | exact HK.out))); (case side2 => exact bo.out); (case side3 => exact Kd.C_kept_now bd.out (by repeat (first | (with_reducible first | exact HK.out | apply Kept.alloc | apply Kept.drewN | apply Kept.drew | refine Kept.setCell ?_ (.inr bu.out) _) | exact HK.out))); (case side4 => exact bn.out); (case side5 => repeat (first | exact (Kd.R_reads' HO1.out).2.2 | (with_reducible refine Kd.C_alloc ?_ _) | (with_reducible refine Kd.C_drewN ?_ _) | (with_reducible refine Kd.C_drew ?_))); (case side6 => exact (Kd.R_reads' HO1.out).2.1); rintro e w20 ⟨rfl, hb⟩; refine ⟨_, rfl, ?_⟩; have n0_ := Aside0.mk (Kd.R_below (by (with_reducible repeat (first | apply Kd.R_alloc | apply Kd.R_drewN | apply Kd.R_drew)); exact HO1.out) hb); have n1_ := Aside0.mk (ag (g := bH) (o := .cells #[.slice au ai.length aq, .slice aw af.length ao] 25 (0, 0)) (by (with_reducible repeat (first | refine ab ?_ _ | refine ac ?_ | refine aa ?_ _)); exact aC.out) hb); have n2_ := Aside0.mk (Kept.below (S := (fun k_ => P1_ k_)) (by repeat (first | (with_reducible first | exact HK.out | apply Kept.alloc | apply Kept.drewN | apply Kept.drew | refine Kept.setCell ?_ (.inr bu.out) _) | exact HK.out)) hb); have n3_ := Aside0.mk (ah (by repeat (first | (with_reducible first | exact HB.out | apply a6 | apply a4 | apply a5 | refine a9 ?_ bJ.out) | exact HB.out)) hb); clear HO1; clear aC; clear HK; clear HB; have HO1 := n0_; have aC := n1_; have HK := n2_; have HB := n3_; clear n0_ n1_ n2_ n3_; (try clear hb); (try clear hb2); (try clear hk); (try clear hi); have hcz21_0 : w20.cell? ⟨bH, 0, none⟩ = some (.slice au ai.length aq) := (a7 aC.out 0).trans rfl; have hcz21_1 : w20.cell? ⟨bH, 1, none⟩ = some (.slice aw af.length ao) := (a7 aC.out 1).trans rfl; have hfz21_0 := a8 aC.out 0; have hfz21_1 := a8 aC.out 1; have p217 : 0 ≤ ((l1.length : Int) : Int) := of_decide_eq_true (by first | (with_reducible assumption) | assumption); have q217 : (l1.length : Int) < (ai.length : Int) := of_decide_eq_true (by first | (with_reducible assumption) | assumption); obtain ⟨ad217, A217_0, c217_0, e217, hx217_0, hl217_0, hi217_0⟩ := dD (Kd.C_kept_now bf.out HK.out) (l1.length : Int) p217 q217; cases e217; have HR217_0 := Aside0.mk hi217_0; have HS217_0 := Aside0.mk (rowS bf.out HK.out _ p217 q217 hx217_0); have HC217_0 := Aside0.mk hl217_0; clear hi217_0 hl217_0; (try simp only [Go.IntWalk.toNatUp] at hx217_0); replace p217 := eq_true p217; replace q217 := eq_true q217))
     go_loopg [7] k (fun kq v7 w' => ∃ (x7_1 : Int), v7 = .int .i64 x7_1 ∧ Aside0 (fastiref15_solve.l0 kq l1 (ax ai (l1.length : Int)) x7_1 ai af = some (r1, r2)) ∧ Aside0 (kq ≤ k) ∧ Aside0 (Kd.R (Kd.int .i64) 3 w' w0.heap.size (fun k_ => (P1_ k_ ∨ w.heap.size ≤ k_)) (.slice Ao19 l1.length fB) l1) ∧ Aside0 (w'.heap[bH]? = some (.cells #[(.slice (some ad217) ai.length aq), (.slice aw af.length ao)] 25 (0, 0))) ∧ Aside0 (Kept w w' (fun k_ => P1_ k_)) ∧ Aside0 (Below w0.heap.size w0 w'))
     case atStart => exact ⟨(0), (by first | rfl | (simp; done) | (simp [*]; done)), H', ⟨Nat.le_refl _⟩, ⟨by (with_reducible repeat (first | apply Kd.R_alloc | apply Kd.R_drewN | apply Kd.R_drew)); exact HO1.out⟩, ⟨by (with_reducible repeat (first | refine ab ?_ _ | refine ac ?_ | refine aa ?_ _)); exact aC.out⟩, ⟨by repeat (first | (with_reducible first | exact HK.out | apply Kept.alloc | apply Kept.drewN | apply Kept.drew | refine Kept.setCell ?_ (.inr bu.out) _) | exact HK.out)⟩, ⟨by repeat (first | (with_reducible first | exact HB.out | apply a6 | apply a4 | apply a5 | refine a9 ?_ bJ.out) | exact HB.out)⟩⟩
     case round =>
      clear H'
      try clear c1; try clear c2; try clear p2; try clear q2; try clear hx2; try clear c3; try clear c4; try clear el; try clear c5; try clear c9; try clear c9b0; try clear c9b1; try clear c9b2; try clear c15; try clear c15b0; try clear c15b1; try clear c16; try clear c16b0; try clear c16b1; try clear c21; try clear p21; try clear q21; try clear hx21; try clear bV; try clear bW; try clear jQ; try clear jR; try clear hcz18_0; try clear hcz18_1; try clear hcz21_0; try clear hcz21_1; try clear dG; try clear dH; try clear bX; try clear bY; try clear jS; try clear jT; try clear hfz18_0; try clear hfz18_1; try clear hfz21_0; try clear hfz21_1; try clear dI; try clear dJ; try clear hx217_0; try clear p217; try clear q217
      obtain ⟨x7_1, rfl, HA, HK1, bN, aC, HK, HB⟩ := hrel
      cases gk with
      | zero => exact absurd HA.out (by simp [fastiref15_solve.l0])
      | succ k1 =>
       have H := HA.out
       clear HA
       simp only [fastiref15_solve.l0] at H
       by_cases c22 : x7_1 < ((ax ai (l1.length : Int)).length : Int)
       ·rw [if_pos c22] at H
        have c22b0 : decide (x7_1 < ((ax ai (l1.length : Int)).length : Int)) = true := decide_eq_true c22
        clear c22
        obtain ⟨y218, hy218⟩ : ∃ y_ : List Int, y_ = (([] : List Int)) := ⟨_, rfl⟩
        replace H : (if y218.length + l1.length < 17592186044416 then ((some (y218 ++ l1 : List Int)).bind fun y221 => (if 0 ≤ x7_1 then ((some (([rd (ax ai (l1.length : Int)) x7_1] : List Int) : List Int)).bind fun y225 => (if y221.length + y225.length < 17592186044416 then ((fastiref15_solve.f k1 ai af (y221 ++ y225)).bind fun gT => (if gT.2 = true then (some (gT.1, true)) else (fastiref15_solve.l0 k1 l1 (ax ai (l1.length : Int)) (wrap64 (x7_1 + 1)) ai af))) else (none))) else (none))) else (none)) = some (r1, r2) := by first | (rw [hy218]; with_reducible exact H) | (have H2_ := (Option.bind_some _ _).symm.trans H; rw [hy218]; with_reducible exact H2_) | (have H2_ := (Option.bind_some _ _).symm.trans H; with_reducible exact H2_) | with_reducible exact H | (rw [hy218]; exact H) | exact H
        have Ny218 := Aside0.mk hy218
        clear hy218
        by_cases c23 : y218.length + l1.length < 17592186044416
        ·rw [if_pos c23] at H
         have LMc23 := Aside0.mk c23
         clear c23
         obtain ⟨y221, hy221⟩ : ∃ y_ : List Int, y_ = (y218 ++ l1) := ⟨_, rfl⟩
         replace H : (if 0 ≤ x7_1 then ((some (([rd (ax ai (l1.length : Int)) x7_1] : List Int) : List Int)).bind fun y225 => (if y221.length + y225.length < 17592186044416 then ((fastiref15_solve.f k1 ai af (y221 ++ y225)).bind fun gT => (if gT.2 = true then (some (gT.1, true)) else (fastiref15_solve.l0 k1 l1 (ax ai (l1.length : Int)) (wrap64 (x7_1 + 1)) ai af))) else (none))) else (none)) = some (r1, r2) := by first | (rw [hy221]; with_reducible exact H) | (have H2_ := (Option.bind_some _ _).symm.trans H; rw [hy221]; with_reducible exact H2_) | (have H2_ := (Option.bind_some _ _).symm.trans H; with_reducible exact H2_) | with_reducible exact H | (rw [hy221]; exact H) | exact H
         have Ny221 := Aside0.mk hy221
         clear hy221
         by_cases c24 : 0 ≤ x7_1
         ·rw [if_pos c24] at H
          have c24b0 : decide (0 ≤ x7_1) = true := decide_eq_true c24
          clear c24
          obtain ⟨y225, hy225⟩ : ∃ y_ : List Int, y_ = (([rd (ax ai (l1.length : Int)) x7_1] : List Int)) := ⟨_, rfl⟩
          replace H : (if y221.length + y225.length < 17592186044416 then ((fastiref15_solve.f k1 ai af (y221 ++ y225)).bind fun gT => (if gT.2 = true then (some (gT.1, true)) else (fastiref15_solve.l0 k1 l1 (ax ai (l1.length : Int)) (wrap64 (x7_1 + 1)) ai af))) else (none)) = some (r1, r2) := by first | (rw [hy225]; with_reducible exact H) | (have H2_ := (Option.bind_some _ _).symm.trans H; rw [hy225]; with_reducible exact H2_) | (have H2_ := (Option.bind_some _ _).symm.trans H; with_reducible exact H2_) | with_reducible exact H | (rw [hy225]; exact H) | exact H
          have Ny225 := Aside0.mk hy225
          clear hy225
          by_cases c25 : y221.length + y225.length < 17592186044416
          ·rw [if_pos c25] at H
           have LMc25 := Aside0.mk c25
           clear c25
           obtain ⟨y228, hy228⟩ : ∃ y_ : List Int, y_ = (y221 ++ y225) := ⟨_, rfl⟩
           replace H : ((fastiref15_solve.f k1 ai af y228).bind fun gT => (if gT.2 = true then (some (gT.1, true)) else (fastiref15_solve.l0 k1 l1 (ax ai (l1.length : Int)) (wrap64 (x7_1 + 1)) ai af))) = some (r1, r2) := by first | (rw [hy228]; with_reducible exact H) | (have H2_ := (Option.bind_some _ _).symm.trans H; rw [hy228]; with_reducible exact H2_) | (have H2_ := (Option.bind_some _ _).symm.trans H; with_reducible exact H2_) | with_reducible exact H | (rw [hy228]; exact H) | exact H
           have Ny228 := Aside0.mk hy228
           clear hy228
           replace H := Option.bind_eq_some_iff.mp H
           obtain ⟨⟨t231, t234⟩, A260, H⟩ := H
           replace H : (if t234 = true then (some (t231, true)) else (fastiref15_solve.l0 k1 l1 (ax ai (l1.length : Int)) (wrap64 (x7_1 + 1)) ai af)) = some (r1, r2) := H
           have A26 := Aside0.mk A260
           clear A260
           by_cases c27 : t234 = true
           ·subst c27
            have H1 : (some (t231, true)) = some (r1, r2) := by rw [if_pos rfl] at H; exact H
            clear H
            have H := H1
            clear H1
            simp only [Option.some.injEq, Prod.mk.injEq] at H
            obtain ⟨rfl, rfl⟩ := H
            try go_wp2
            have n0_ := Aside0.mk (Kd.R_drew bN.out)
            have n1_ := Aside0.mk (ac aC.out)
            have n2_ := Aside0.mk (Kept.drew HK.out)
            have n3_ := Aside0.mk (a5 HB.out)
            clear bN
            clear aC
            clear HK
            clear HB
            have bN := n0_
            have aC := n1_
            have HK := n2_
            have HB := n3_
            clear n0_ n1_ n2_ n3_
            have p224 : 0 ≤ (x7_1 : Int) := of_decide_eq_true (by first | (with_reducible assumption) | assumption)
            have q224 : x7_1 < ((ax ai (l1.length : Int)).length : Int) := of_decide_eq_true (by first | (with_reducible assumption) | assumption)
            obtain ⟨ad224, e224, kG⟩ := Kd.at_int (HS217_0.out _ HK.out) x7_1 p224 q224
            have hw224_0 := kG
            cases e224
            have hf224 := Aside0.mk (fun (W_ : World) (hk_ : Kept w W_ (fun k_ => P1_ k_)) => (by obtain ⟨ad_, e_, hx_⟩ := Kd.at_int (HS217_0.out W_ hk_) x7_1 p224 q224; cases e_; exact hx_ : W_.cell? (ad224.add (x7_1).toNat) = some _))
            replace p224 := eq_true p224
            replace q224 := eq_true q224
            refine eJ (n := 16) (S := fun w' => w'.cell? ⟨bH, 0, none⟩ = some (.slice (some ad217) ai.length aq) ∧ w'.cell? ⟨bH, 1, none⟩ = some (.slice aw af.length ao) ∧ w'.cell? (ad224.add (x7_1).toNat) = some (.int .i64 (rd (ax ai (l1.length : Int)) x7_1))) (ds := []) #[false, false, false, false, false, false, false, false, false, false, false, false, false, false, false, false] (by kernel_rfl) rfl rfl ⟨(a7 aC.out 0).trans rfl, (a7 aC.out 1).trans rfl, (hf224.out _ HK.out)⟩ (fun hHeld => ?_); refine dF fastiref15_solve.tab9 fastiref15_solve.bits9 (fun HT_ HW_ => ?_)
            generalize wr.drew = w28 at bN aC HK HB kG hHeld ⊢
            refine aK (i := 2) (N := some 36) (v := ?_) (a' := ?_) #[false, false, true, false, false, false, false, false, false, false, false, false, false, false, false, false] rfl rfl (aA HT_.out (by kernel_rfl)) (fun _ _ _ h => h) (Or.inl ⟨by rfl, ?_⟩) ?_ ?_
            rotate_left
            ·intro w'
             go_simp
             with_reducible rfl
            rotate_left
            ·simp only [Act.put, List.setIfInBounds_toArray, List.set_cons_zero, List.set_cons_succ, ar, av]
             rfl
            refine aK (i := 4) (N := some 38) (v := ?_) (a' := ?_) #[false, false, true, false, true, false, false, false, false, false, false, false, false, false, false, false] rfl rfl (aA HT_.out (by kernel_rfl)) (fun _ _ _ h => h) (Or.inl ⟨by rfl, ?_⟩) ?_ ?_
            rotate_left
            ·intro w'
             go_simp
             with_reducible rfl
            rotate_left
            ·simp only [Act.put, List.setIfInBounds_toArray, List.set_cons_zero, List.set_cons_succ, ar, av]
             rfl
            refine aK (i := 5) (N := some 39) (v := ?_) (a' := ?_) #[false, false, true, false, true, true, false, false, false, false, false, false, false, false, false, false] rfl rfl (aA HT_.out (by kernel_rfl)) (fun _ _ _ h => h) (Or.inl ⟨by rfl, ?_⟩) ?_ ?_
            rotate_left
            ·intro w'
             go_simp
             with_reducible rfl
            rotate_left
            ·simp only [Act.put, List.setIfInBounds_toArray, List.set_cons_zero, List.set_cons_succ, ar, av]
             rfl
            refine aK (i := 6) (N := some 40) (v := ?_) (a' := ?_) #[false, false, true, false, true, true, true, false, false, false, false, false, false, false, false, false] rfl rfl (aA HT_.out (by kernel_rfl)) (fun _ _ _ h => h) (Or.inl ⟨by rfl, ?_⟩) ?_ ?_
            rotate_left
            ·intro w'
             go_simp
             with_reducible rfl
            rotate_left
            ·simp only [Act.put, List.setIfInBounds_toArray, List.set_cons_zero, List.set_cons_succ, ar, av]
             rfl
            refine take_ (i := 0) (N := some 34) (v := ?_) (a' := ?_) #[true, false, true, false, true, true, true, false, false, false, false, false, false, false, false, false] rfl rfl (bQ HT_.out HW_.out (by kernel_rfl)) (fun _ _ _ h => h) (Or.inl ⟨by rfl, ?_⟩) hHeld ?_ ?_
            rotate_left
            ·rintro w' ⟨s0, s1, s2⟩
             go_simp
             with_reducible rfl
            rotate_left
            ·simp only [Act.put, List.setIfInBounds_toArray, List.set_cons_zero, List.set_cons_succ, ar, av]
             rfl
            refine take_ (i := 7) (N := some 41) (v := ?_) (a' := ?_) #[true, false, true, false, true, true, true, true, false, false, false, false, false, false, false, false] rfl rfl (bQ HT_.out HW_.out (by kernel_rfl)) (fun _ _ _ h => h) (Or.inl ⟨by rfl, ?_⟩) hHeld ?_ ?_
            rotate_left
            ·rintro w' ⟨s0, s1, s2⟩
             go_simp
             with_reducible rfl
            rotate_left
            ·simp only [Act.put, List.setIfInBounds_toArray, List.set_cons_zero, List.set_cons_succ, ar, av]
             rfl
            refine join_ (σ := Value × Value × Value) 7 #[true, true, true, true, true, true, true, true, true, false, false, false, false, false, false, false] (fun s_ => [(35, s_.1), (37, s_.2.1), (42, s_.2.2)]) (fun s_ w' => (w'.cell? ⟨bH, 0, none⟩ = some (.slice (some ad217) ai.length aq) ∧ w'.cell? ⟨bH, 1, none⟩ = some (.slice aw af.length ao) ∧ w'.cell? (ad224.add (x7_1).toNat) = some (.int .i64 (rd (ax ai (l1.length : Int)) x7_1))) ∧ (Kd.R (Kd.int .i64) 3 w' w0.heap.size (fun k_ => (P1_ k_ ∨ w.heap.size ≤ k_) ∧ some k_ ≠ (s_.2.2 : Value).ownBlock ∧ some k_ ≠ (.slice Ao19 l1.length fB : Value).ownBlock) s_.2.1 y221) ∧ (Kd.R (Kd.int .i64) 3 w' w0.heap.size (fun k_ => (P1_ k_ ∨ w.heap.size ≤ k_) ∧ some k_ ≠ (s_.2.1 : Value).ownBlock ∧ some k_ ≠ (.slice Ao19 l1.length fB : Value).ownBlock) s_.2.2 y225) ∧ (Kd.R (Kd.int .i64) 3 w' w0.heap.size (fun k_ => (P1_ k_ ∨ w.heap.size ≤ k_) ∧ some k_ ≠ (s_.2.1 : Value).ownBlock ∧ some k_ ≠ (s_.2.2 : Value).ownBlock) (.slice Ao19 l1.length fB) l1) ∧ (w'.heap[bH]? = some (.cells #[.slice (some ad217) ai.length aq, .slice aw af.length ao] 25 (0, 0))) ∧ (Kept w w' (fun k_ => P1_ k_)) ∧ (Below w0.heap.size w0 w')) ?_ ?_
            rotate_left
            ·intro hCont
             refine two_ (i := 1) (j := 8) (Ni := some 35) (Nj := some 42) #[true, true, true, false, true, true, true, true, false, false, false, false, false, false, false, false] #[true, false, true, false, true, true, true, true, true, false, false, false, false, false, false, false] rfl rfl rfl rfl (two_of HT_.out (by kernel_rfl)) (by decide) (by decide) (fun K hK => ?_) (fun K hK => ?_)
             ·skip
              refine Kd.R_lit_step (Kd.int .i64) _ 3 ?hg (N := 35) ?hd (xs := ([] : List Int)) (inner := []) (ok := fun _ => True) (okp := fun _ => True) ?hr ?hp (fun _ hk => hk) trivial (Below.refl _ _) (Nat.le_refl _) (by simp) ?_; (case hd => rfl); (case hg => rfl); (case hr => first | (go_simp; done) | (go_simp; rfl)); (case hp => exact (Reps.none _ _))
              intro v219 w29 ho30 hb hg_ hnew_
              clear hg_ hnew_
              (first | rw [← Ny218.out] at ho30 | (simp only [Int.reduceToNat] at ho30; rw [← Ny218.out] at ho30))
              have n0_ := Aside0.mk (Kd.R_elder' (by (with_reducible repeat (first | apply Kd.R_alloc | apply Kd.R_drewN | apply Kd.R_drew)); exact bN.out) (Kd.R_base ho30) hb)
              have n1_ := Aside0.mk (Kd.R_lower (Kd.R_new' (Kd.R_newM (M := fun k_ => (P1_ k_ ∨ w.heap.size ≤ k_)) ho30 (by first | exact HK.out.1 | exact (show Kept w _ (fun k_ => P1_ k_) from by repeat (first | (with_reducible first | exact HK.out | apply Kept.alloc | apply Kept.drewN | apply Kept.drew | refine Kept.setCell ?_ (.inr bu.out) _) | exact HK.out)).1) (fun k_ h_ => .inr h_)) (Kd.R_lt (by (with_reducible repeat (first | apply Kd.R_alloc | apply Kd.R_drewN | apply Kd.R_drew)); exact bN.out))) (ae (by repeat (first | (with_reducible first | exact HB.out | apply a6 | apply a4 | apply a5 | refine a9 ?_ bJ.out) | exact HB.out))))
              have n2_ := Aside0.mk (ag (g := bH) (o := .cells #[.slice (some ad217) ai.length aq, .slice aw af.length ao] 25 (0, 0)) (by (with_reducible repeat (first | refine ab ?_ _ | refine ac ?_ | refine aa ?_ _)); exact aC.out) hb)
              have n3_ := Aside0.mk (Kept.below (S := (fun k_ => P1_ k_)) (by repeat (first | (with_reducible first | exact HK.out | apply Kept.alloc | apply Kept.drewN | apply Kept.drew | refine Kept.setCell ?_ (.inr bu.out) _) | exact HK.out)) hb)
              have n4_ := Aside0.mk (ah (by repeat (first | (with_reducible first | exact HB.out | apply a6 | apply a4 | apply a5 | refine a9 ?_ bJ.out) | exact HB.out)) hb)
              clear bN
              clear aC
              clear HK
              clear HB
              have bN := n0_
              have cC := n1_
              have aC := n2_
              have HK := n3_
              have HB := n4_
              clear n0_ n1_ n2_ n3_ n4_
              clear hb ho30
              refine hK.out _ _ ⟨(a7 aC.out 0).trans rfl, (a7 aC.out 1).trans rfl, (hf224.out _ HK.out)⟩ (fun hHeld => ?_)
              clear hK K
              refine bR (a' := ?_) ?_ ?_
              rotate_left
              ·show Act.put _ (some 35) _ = _
               simp only [Act.put, List.setIfInBounds_toArray, List.set_cons_zero, List.set_cons_succ, ar, av]
               rfl
              refine two_ (i := 3) (j := 8) (Ni := some 37) (Nj := some 42) #[true, true, true, true, true, true, true, true, false, false, false, false, false, false, false, false] #[true, true, true, false, true, true, true, true, true, false, false, false, false, false, false, false] rfl rfl rfl rfl (two_of HT_.out (by kernel_rfl)) (by decide) (by decide) (fun K hK => ?_) (fun K hK => ?_)
              ·skip
               refine Kd.R_append_rows_step (Kd.int .i64) (w0 := w0) w0.heap.size (by rfl) (.tmp 35) (.tmp 36) 26 3 (.int .i64 0) 8 rfl Try.underlying26 iT rfl (by decide) (by omega) v219 y218 l1 _ _ _ (fun k_ => (P1_ k_ ∨ w.heap.size ≤ k_) ∧ some k_ ≠ (.slice Ao19 l1.length fB : Value).ownBlock) (fun _ => False) rfl rfl ?aO ?aR (fun _ _ h => h) (fun _ h => h.elim) ?aF ?aB ?aS ?aL ?_
               (case aR => repeat (first | exact (Kd.R_reads' bN.out).2.2 | (with_reducible refine Kd.C_alloc ?_ _) | (with_reducible refine Kd.C_drewN ?_ _) | (with_reducible refine Kd.C_drew ?_)))
               (case aB => exact (by repeat (first | (with_reducible first | exact HB.out | apply a6 | apply a4 | apply a5 | refine a9 ?_ bJ.out) | exact HB.out)))
               (case aF => exact (fun k_ hk => ⟨(.inr (Nat.le_trans (by first | exact HK.out.1 | exact (show Kept w _ (fun k_ => P1_ k_) from by repeat (first | (with_reducible first | exact HK.out | apply Kept.alloc | apply Kept.drewN | apply Kept.drew | refine Kept.setCell ?_ (.inr bu.out) _) | exact HK.out)).1) hk)), Kd.fresh' (Kd.R_lt (by (with_reducible repeat (first | apply Kd.R_alloc | apply Kd.R_drewN | apply Kd.R_drew)); exact bN.out)) k_ hk⟩))
               (case aO => exact (by (with_reducible repeat (first | apply Kd.R_alloc | apply Kd.R_drewN | apply Kd.R_drew)); exact Kd.R_mono cC.out (fun _ hk => ⟨hk.1.1, hk.2⟩)))
               (case aS => exact (ae (by repeat (first | (with_reducible first | exact HB.out | apply a6 | apply a4 | apply a5 | refine a9 ?_ bJ.out) | exact HB.out))))
               (case aL => have := LMc23.out; omega)
               intro v222 w31 ho hb hg hat
               rw [← Ny221.out] at ho
               have n0_ := Aside0.mk (Kd.R_after (ok := (fun k_ => (P1_ k_ ∨ w.heap.size ≤ k_))) (by (with_reducible repeat (first | apply Kd.R_alloc | apply Kd.R_drewN | apply Kd.R_drew)); exact bN.out) hg hat)
               have n1_ := Aside0.mk (cj (g := bH) (o := .cells #[.slice (some ad217) ai.length aq, .slice aw af.length ao] 25 (0, 0)) (by (with_reducible repeat (first | refine ab ?_ _ | refine ac ?_ | refine aa ?_ _)); exact aC.out) hg (Kd.R_ne cC.out aC.out (by decide)))
               have n2_ := Aside0.mk (hb)
               have n3_ := Aside0.mk (Kept.of_grown (S := (fun k_ => P1_ k_)) hg (by repeat (first | (with_reducible first | exact HK.out | apply Kept.alloc | apply Kept.drewN | apply Kept.drew | refine Kept.setCell ?_ (.inr bu.out) _) | exact HK.out)) (fun k_ e_ => (cC.out.1 k_ e_).1.1))
               have n4_ := Aside0.mk (ho)
               clear bN
               clear aC
               clear HB
               clear HK
               clear cC
               have bN := n0_
               have aC := n1_
               have HB := n2_
               have HK := n3_
               have d4 := n4_
               clear n0_ n1_ n2_ n3_ n4_
               clear ho hb hg hat
               refine hK.out _ _ ⟨(a7 aC.out 0).trans rfl, (a7 aC.out 1).trans rfl, (hf224.out _ HK.out)⟩ (fun hHeld => ?_)
               clear hK K
               refine bR (a' := ?_) ?_ ?_
               rotate_left
               ·show Act.put _ (some 37) _ = _
                simp only [Act.put, List.setIfInBounds_toArray, List.set_cons_zero, List.set_cons_succ, ar, av]
                rfl
               refine ft (i := 8) (N := some 42) #[true, true, true, true, true, true, true, true, true, false, false, false, false, false, false, false] rfl rfl (bP HT_.out (by kernel_rfl)) (by decide) (fun K hK => ?_)
               refine Kd.R_lit_step (Kd.int .i64) _ 3 ?hg (N := 42) ?hd (xs := ([rd (ax ai (l1.length : Int)) x7_1] : List Int)) (inner := [.int .i64 (rd (ax ai (l1.length : Int)) x7_1)]) (ok := fun _ => True) (okp := fun _ => True) ?hr ?hp (fun _ hk => hk) trivial (Below.refl _ _) (Nat.le_refl _) (by simp) ?_; (case hd => rfl); (case hg => rfl); (case hr => first | (go_simp; done) | (go_simp; rfl)); (case hp => exact (Reps.one (show Kd.M (Kd.int .i64) _ _ _ (rd (ax ai (l1.length : Int)) x7_1) [.int .i64 (rd (ax ai (l1.length : Int)) x7_1)] from rfl) (Reps.none _ _)))
               intro v226 w32 ho33 hb hg_ hnew_
               clear hg_ hnew_
               (first | rw [← Ny225.out] at ho33 | (simp only [Int.reduceToNat] at ho33; rw [← Ny225.out] at ho33))
               have n0_ := Aside0.mk (Kd.R_elder' (by (with_reducible repeat (first | apply Kd.R_alloc | apply Kd.R_drewN | apply Kd.R_drew)); exact bN.out) (Kd.R_base ho33) hb)
               have n1_ := Aside0.mk (Kd.R_elder' (by (with_reducible repeat (first | apply Kd.R_alloc | apply Kd.R_drewN | apply Kd.R_drew)); exact d4.out) (Kd.R_base ho33) hb)
               have n2_ := Aside0.mk (Kd.R_lower (Kd.R_new' (Kd.R_new' (Kd.R_newM (M := fun k_ => (P1_ k_ ∨ w.heap.size ≤ k_)) ho33 (by first | exact HK.out.1 | exact (show Kept w _ (fun k_ => P1_ k_) from by repeat (first | (with_reducible first | exact HK.out | apply Kept.alloc | apply Kept.drewN | apply Kept.drew | refine Kept.setCell ?_ (.inr bu.out) _) | exact HK.out)).1) (fun k_ h_ => .inr h_)) (Kd.R_lt (by (with_reducible repeat (first | apply Kd.R_alloc | apply Kd.R_drewN | apply Kd.R_drew)); exact bN.out))) (Kd.R_lt (by (with_reducible repeat (first | apply Kd.R_alloc | apply Kd.R_drewN | apply Kd.R_drew)); exact d4.out))) (ae (by repeat (first | (with_reducible first | exact HB.out | apply a6 | apply a4 | apply a5 | refine a9 ?_ bJ.out) | exact HB.out))))
               have n3_ := Aside0.mk (ag (g := bH) (o := .cells #[.slice (some ad217) ai.length aq, .slice aw af.length ao] 25 (0, 0)) (by (with_reducible repeat (first | refine ab ?_ _ | refine ac ?_ | refine aa ?_ _)); exact aC.out) hb)
               have n4_ := Aside0.mk (Kept.below (S := (fun k_ => P1_ k_)) (by repeat (first | (with_reducible first | exact HK.out | apply Kept.alloc | apply Kept.drewN | apply Kept.drew | refine Kept.setCell ?_ (.inr bu.out) _) | exact HK.out)) hb)
               have n5_ := Aside0.mk (ah (by repeat (first | (with_reducible first | exact HB.out | apply a6 | apply a4 | apply a5 | refine a9 ?_ bJ.out) | exact HB.out)) hb)
               clear bN
               clear d4
               clear aC
               clear HK
               clear HB
               have bN := n0_
               have d4 := n1_
               have bD := n2_
               have aC := n3_
               have HK := n4_
               have HB := n5_
               clear n0_ n1_ n2_ n3_ n4_ n5_
               clear hb ho33
               refine hK.out _ _ ⟨(a7 aC.out 0).trans rfl, (a7 aC.out 1).trans rfl, (hf224.out _ HK.out)⟩ (fun hHeld => ?_)
               clear hK K
               refine bR (a' := ?_) ?_ ?_
               rotate_left
               ·show Act.put _ (some 42) _ = _
                simp only [Act.put, List.setIfInBounds_toArray, List.set_cons_zero, List.set_cons_succ, ar, av]
                rfl
               exact bR (by simp only [eQ, Act.put, List.setIfInBounds_toArray, List.set_cons_zero, List.set_cons_succ]) (hCont (v219, v222, v226) _ ⟨hHeld, (by (with_reducible repeat (first | apply Kd.R_alloc | apply Kd.R_drewN | apply Kd.R_drew)); exact Kd.R_mono d4.out (fun _ hk => ⟨hk.1.1, ⟨hk.2, hk.1.2⟩⟩)), (by (with_reducible repeat (first | apply Kd.R_alloc | apply Kd.R_drewN | apply Kd.R_drew)); exact Kd.R_mono bD.out (fun _ hk => ⟨hk.1.1.1, ⟨hk.2, hk.1.2⟩⟩)), (by (with_reducible repeat (first | apply Kd.R_alloc | apply Kd.R_drewN | apply Kd.R_drew)); exact Kd.R_mono bN.out (fun _ hk => ⟨hk.1.1, ⟨hk.1.2, hk.2⟩⟩)), (by (with_reducible repeat (first | refine ab ?_ _ | refine ac ?_ | refine aa ?_ _)); exact aC.out), (by repeat (first | (with_reducible first | exact HK.out | apply Kept.alloc | apply Kept.drewN | apply Kept.drew | refine Kept.setCell ?_ (.inr bu.out) _) | exact HK.out)), (by repeat (first | (with_reducible first | exact HB.out | apply a6 | apply a4 | apply a5 | refine a9 ?_ bJ.out) | exact HB.out))⟩)
              ·skip
               refine Kd.R_lit_step (Kd.int .i64) _ 3 ?hg (N := 42) ?hd (xs := ([rd (ax ai (l1.length : Int)) x7_1] : List Int)) (inner := [.int .i64 (rd (ax ai (l1.length : Int)) x7_1)]) (ok := fun _ => True) (okp := fun _ => True) ?hr ?hp (fun _ hk => hk) trivial (Below.refl _ _) (Nat.le_refl _) (by simp) ?_; (case hd => rfl); (case hg => rfl); (case hr => first | (go_simp; done) | (go_simp; rfl)); (case hp => exact (Reps.one (show Kd.M (Kd.int .i64) _ _ _ (rd (ax ai (l1.length : Int)) x7_1) [.int .i64 (rd (ax ai (l1.length : Int)) x7_1)] from rfl) (Reps.none _ _)))
               intro v226 w31 ho32 hb hg_ hnew_
               clear hg_ hnew_
               (first | rw [← Ny225.out] at ho32 | (simp only [Int.reduceToNat] at ho32; rw [← Ny225.out] at ho32))
               have n0_ := Aside0.mk (Kd.R_elder' (by (with_reducible repeat (first | apply Kd.R_alloc | apply Kd.R_drewN | apply Kd.R_drew)); exact bN.out) (Kd.R_base ho32) hb)
               have n1_ := Aside0.mk (Kd.R_elder' (by (with_reducible repeat (first | apply Kd.R_alloc | apply Kd.R_drewN | apply Kd.R_drew)); exact cC.out) (Kd.R_base ho32) hb)
               have n2_ := Aside0.mk (Kd.R_lower (Kd.R_new' (Kd.R_new' (Kd.R_newM (M := fun k_ => (P1_ k_ ∨ w.heap.size ≤ k_)) ho32 (by first | exact HK.out.1 | exact (show Kept w _ (fun k_ => P1_ k_) from by repeat (first | (with_reducible first | exact HK.out | apply Kept.alloc | apply Kept.drewN | apply Kept.drew | refine Kept.setCell ?_ (.inr bu.out) _) | exact HK.out)).1) (fun k_ h_ => .inr h_)) (Kd.R_lt (by (with_reducible repeat (first | apply Kd.R_alloc | apply Kd.R_drewN | apply Kd.R_drew)); exact bN.out))) (Kd.R_lt (by (with_reducible repeat (first | apply Kd.R_alloc | apply Kd.R_drewN | apply Kd.R_drew)); exact cC.out))) (ae (by repeat (first | (with_reducible first | exact HB.out | apply a6 | apply a4 | apply a5 | refine a9 ?_ bJ.out) | exact HB.out))))
               have n3_ := Aside0.mk (ag (g := bH) (o := .cells #[.slice (some ad217) ai.length aq, .slice aw af.length ao] 25 (0, 0)) (by (with_reducible repeat (first | refine ab ?_ _ | refine ac ?_ | refine aa ?_ _)); exact aC.out) hb)
               have n4_ := Aside0.mk (Kept.below (S := (fun k_ => P1_ k_)) (by repeat (first | (with_reducible first | exact HK.out | apply Kept.alloc | apply Kept.drewN | apply Kept.drew | refine Kept.setCell ?_ (.inr bu.out) _) | exact HK.out)) hb)
               have n5_ := Aside0.mk (ah (by repeat (first | (with_reducible first | exact HB.out | apply a6 | apply a4 | apply a5 | refine a9 ?_ bJ.out) | exact HB.out)) hb)
               clear bN
               clear cC
               clear aC
               clear HK
               clear HB
               have bN := n0_
               have cC := n1_
               have bD := n2_
               have aC := n3_
               have HK := n4_
               have HB := n5_
               clear n0_ n1_ n2_ n3_ n4_ n5_
               clear hb ho32
               refine hK.out _ _ ⟨(a7 aC.out 0).trans rfl, (a7 aC.out 1).trans rfl, (hf224.out _ HK.out)⟩ (fun hHeld => ?_)
               clear hK K
               refine bR (a' := ?_) ?_ ?_
               rotate_left
               ·show Act.put _ (some 42) _ = _
                simp only [Act.put, List.setIfInBounds_toArray, List.set_cons_zero, List.set_cons_succ, ar, av]
                rfl
               refine ft (i := 3) (N := some 37) #[true, true, true, true, true, true, true, true, true, false, false, false, false, false, false, false] rfl rfl (bP HT_.out (by kernel_rfl)) (by decide) (fun K hK => ?_)
               refine Kd.R_append_rows_step (Kd.int .i64) (w0 := w0) w0.heap.size (by rfl) (.tmp 35) (.tmp 36) 26 3 (.int .i64 0) 8 rfl Try.underlying26 iT rfl (by decide) (by omega) v219 y218 l1 _ _ _ (fun k_ => (P1_ k_ ∨ w.heap.size ≤ k_) ∧ some k_ ≠ (.slice Ao19 l1.length fB : Value).ownBlock ∧ some k_ ≠ (v226 : Value).ownBlock) (fun _ => False) rfl rfl ?aO ?aR (fun _ _ h => h) (fun _ h => h.elim) ?aF ?aB ?aS ?aL ?_
               (case aR => repeat (first | exact (Kd.R_reads' bN.out).2.2 | (with_reducible refine Kd.C_alloc ?_ _) | (with_reducible refine Kd.C_drewN ?_ _) | (with_reducible refine Kd.C_drew ?_)))
               (case aB => exact (by repeat (first | (with_reducible first | exact HB.out | apply a6 | apply a4 | apply a5 | refine a9 ?_ bJ.out) | exact HB.out)))
               (case aF => exact (fun k_ hk => ⟨(.inr (Nat.le_trans (by first | exact HK.out.1 | exact (show Kept w _ (fun k_ => P1_ k_) from by repeat (first | (with_reducible first | exact HK.out | apply Kept.alloc | apply Kept.drewN | apply Kept.drew | refine Kept.setCell ?_ (.inr bu.out) _) | exact HK.out)).1) hk)), Kd.fresh' (Kd.R_lt (by (with_reducible repeat (first | apply Kd.R_alloc | apply Kd.R_drewN | apply Kd.R_drew)); exact bN.out)) k_ hk, Kd.fresh' (Kd.R_lt (by (with_reducible repeat (first | apply Kd.R_alloc | apply Kd.R_drewN | apply Kd.R_drew)); exact bD.out)) k_ hk⟩))
               (case aO => exact (by (with_reducible repeat (first | apply Kd.R_alloc | apply Kd.R_drewN | apply Kd.R_drew)); exact Kd.R_mono cC.out (fun _ hk => ⟨hk.1.1.1, ⟨hk.1.2, hk.2⟩⟩)))
               (case aS => exact (ae (by repeat (first | (with_reducible first | exact HB.out | apply a6 | apply a4 | apply a5 | refine a9 ?_ bJ.out) | exact HB.out))))
               (case aL => have := LMc23.out; omega)
               intro v222 w33 ho hb hg hat
               rw [← Ny221.out] at ho
               have n0_ := Aside0.mk (Kd.R_after (ok := (fun k_ => (P1_ k_ ∨ w.heap.size ≤ k_) ∧ some k_ ≠ (v226 : Value).ownBlock)) (by (with_reducible repeat (first | apply Kd.R_alloc | apply Kd.R_drewN | apply Kd.R_drew)); exact Kd.R_mono bN.out (fun _ hk => ⟨⟨hk.1.1, hk.2⟩, hk.1.2⟩)) hg hat)
               have n1_ := Aside0.mk (cj (g := bH) (o := .cells #[.slice (some ad217) ai.length aq, .slice aw af.length ao] 25 (0, 0)) (by (with_reducible repeat (first | refine ab ?_ _ | refine ac ?_ | refine aa ?_ _)); exact aC.out) hg (Kd.R_ne cC.out aC.out (by decide)))
               have n2_ := Aside0.mk (Kd.R_after (ok := (fun k_ => (P1_ k_ ∨ w.heap.size ≤ k_) ∧ some k_ ≠ (.slice Ao19 l1.length fB : Value).ownBlock)) (by (with_reducible repeat (first | apply Kd.R_alloc | apply Kd.R_drewN | apply Kd.R_drew)); exact Kd.R_mono bD.out (fun _ hk => ⟨⟨hk.1.1.1, hk.1.2⟩, hk.2⟩)) hg hat)
               have n3_ := Aside0.mk (hb)
               have n4_ := Aside0.mk (Kept.of_grown (S := (fun k_ => P1_ k_)) hg (by repeat (first | (with_reducible first | exact HK.out | apply Kept.alloc | apply Kept.drewN | apply Kept.drew | refine Kept.setCell ?_ (.inr bu.out) _) | exact HK.out)) (fun k_ e_ => (cC.out.1 k_ e_).1.1.1))
               have n5_ := Aside0.mk (ho)
               clear bN
               clear aC
               clear bD
               clear HB
               clear HK
               clear cC
               have bN := n0_
               have aC := n1_
               have bD := n2_
               have HB := n3_
               have HK := n4_
               have d4 := n5_
               clear n0_ n1_ n2_ n3_ n4_ n5_
               clear ho hb hg hat
               refine hK.out _ _ ⟨(a7 aC.out 0).trans rfl, (a7 aC.out 1).trans rfl, (hf224.out _ HK.out)⟩ (fun hHeld => ?_)
               clear hK K
               refine bR (a' := ?_) ?_ ?_
               rotate_left
               ·show Act.put _ (some 37) _ = _
                simp only [Act.put, List.setIfInBounds_toArray, List.set_cons_zero, List.set_cons_succ, ar, av]
                rfl
               exact bR (by simp only [eQ, Act.put, List.setIfInBounds_toArray, List.set_cons_zero, List.set_cons_succ]) (hCont (v219, v222, v226) _ ⟨hHeld, (by (with_reducible repeat (first | apply Kd.R_alloc | apply Kd.R_drewN | apply Kd.R_drew)); exact Kd.R_mono d4.out (fun _ hk => ⟨hk.1, ⟨hk.2.2, hk.2.1⟩⟩)), (by (with_reducible repeat (first | apply Kd.R_alloc | apply Kd.R_drewN | apply Kd.R_drew)); exact Kd.R_mono bD.out (fun _ hk => ⟨hk.1.1, ⟨hk.2, hk.1.2⟩⟩)), (by (with_reducible repeat (first | apply Kd.R_alloc | apply Kd.R_drewN | apply Kd.R_drew)); exact Kd.R_mono bN.out (fun _ hk => ⟨hk.1.1, ⟨hk.2, hk.1.2⟩⟩)), (by (with_reducible repeat (first | refine ab ?_ _ | refine ac ?_ | refine aa ?_ _)); exact aC.out), (by repeat (first | (with_reducible first | exact HK.out | apply Kept.alloc | apply Kept.drewN | apply Kept.drew | refine Kept.setCell ?_ (.inr bu.out) _) | exact HK.out)), (by repeat (first | (with_reducible first | exact HB.out | apply a6 | apply a4 | apply a5 | refine a9 ?_ bJ.out) | exact HB.out))⟩)
             ·skip
              refine Kd.R_lit_step (Kd.int .i64) _ 3 ?hg (N := 42) ?hd (xs := ([rd (ax ai (l1.length : Int)) x7_1] : List Int)) (inner := [.int .i64 (rd (ax ai (l1.length : Int)) x7_1)]) (ok := fun _ => True) (okp := fun _ => True) ?hr ?hp (fun _ hk => hk) trivial (Below.refl _ _) (Nat.le_refl _) (by simp) ?_; (case hd => rfl); (case hg => rfl); (case hr => first | (go_simp; done) | (go_simp; rfl)); (case hp => exact (Reps.one (show Kd.M (Kd.int .i64) _ _ _ (rd (ax ai (l1.length : Int)) x7_1) [.int .i64 (rd (ax ai (l1.length : Int)) x7_1)] from rfl) (Reps.none _ _)))
              intro v226 w29 ho30 hb hg_ hnew_
              clear hg_ hnew_
              (first | rw [← Ny225.out] at ho30 | (simp only [Int.reduceToNat] at ho30; rw [← Ny225.out] at ho30))
              have n0_ := Aside0.mk (Kd.R_elder' (by (with_reducible repeat (first | apply Kd.R_alloc | apply Kd.R_drewN | apply Kd.R_drew)); exact bN.out) (Kd.R_base ho30) hb)
              have n1_ := Aside0.mk (Kd.R_lower (Kd.R_new' (Kd.R_newM (M := fun k_ => (P1_ k_ ∨ w.heap.size ≤ k_)) ho30 (by first | exact HK.out.1 | exact (show Kept w _ (fun k_ => P1_ k_) from by repeat (first | (with_reducible first | exact HK.out | apply Kept.alloc | apply Kept.drewN | apply Kept.drew | refine Kept.setCell ?_ (.inr bu.out) _) | exact HK.out)).1) (fun k_ h_ => .inr h_)) (Kd.R_lt (by (with_reducible repeat (first | apply Kd.R_alloc | apply Kd.R_drewN | apply Kd.R_drew)); exact bN.out))) (ae (by repeat (first | (with_reducible first | exact HB.out | apply a6 | apply a4 | apply a5 | refine a9 ?_ bJ.out) | exact HB.out))))
              have n2_ := Aside0.mk (ag (g := bH) (o := .cells #[.slice (some ad217) ai.length aq, .slice aw af.length ao] 25 (0, 0)) (by (with_reducible repeat (first | refine ab ?_ _ | refine ac ?_ | refine aa ?_ _)); exact aC.out) hb)
              have n3_ := Aside0.mk (Kept.below (S := (fun k_ => P1_ k_)) (by repeat (first | (with_reducible first | exact HK.out | apply Kept.alloc | apply Kept.drewN | apply Kept.drew | refine Kept.setCell ?_ (.inr bu.out) _) | exact HK.out)) hb)
              have n4_ := Aside0.mk (ah (by repeat (first | (with_reducible first | exact HB.out | apply a6 | apply a4 | apply a5 | refine a9 ?_ bJ.out) | exact HB.out)) hb)
              clear bN
              clear aC
              clear HK
              clear HB
              have bN := n0_
              have bD := n1_
              have aC := n2_
              have HK := n3_
              have HB := n4_
              clear n0_ n1_ n2_ n3_ n4_
              clear hb ho30
              refine hK.out _ _ ⟨(a7 aC.out 0).trans rfl, (a7 aC.out 1).trans rfl, (hf224.out _ HK.out)⟩ (fun hHeld => ?_)
              clear hK K
              refine bR (a' := ?_) ?_ ?_
              rotate_left
              ·show Act.put _ (some 42) _ = _
               simp only [Act.put, List.setIfInBounds_toArray, List.set_cons_zero, List.set_cons_succ, ar, av]
               rfl
              refine ft (i := 1) (N := some 35) #[true, true, true, false, true, true, true, true, true, false, false, false, false, false, false, false] rfl rfl (bP HT_.out (by kernel_rfl)) (by decide) (fun K hK => ?_)
              refine Kd.R_lit_step (Kd.int .i64) _ 3 ?hg (N := 35) ?hd (xs := ([] : List Int)) (inner := []) (ok := fun _ => True) (okp := fun _ => True) ?hr ?hp (fun _ hk => hk) trivial (Below.refl _ _) (Nat.le_refl _) (by simp) ?_; (case hd => rfl); (case hg => rfl); (case hr => first | (go_simp; done) | (go_simp; rfl)); (case hp => exact (Reps.none _ _))
              intro v219 w31 ho32 hb hg_ hnew_
              clear hg_ hnew_
              (first | rw [← Ny218.out] at ho32 | (simp only [Int.reduceToNat] at ho32; rw [← Ny218.out] at ho32))
              have n0_ := Aside0.mk (Kd.R_elder' (by (with_reducible repeat (first | apply Kd.R_alloc | apply Kd.R_drewN | apply Kd.R_drew)); exact bN.out) (Kd.R_base ho32) hb)
              have n1_ := Aside0.mk (Kd.R_elder' (by (with_reducible repeat (first | apply Kd.R_alloc | apply Kd.R_drewN | apply Kd.R_drew)); exact bD.out) (Kd.R_base ho32) hb)
              have n2_ := Aside0.mk (Kd.R_lower (Kd.R_new' (Kd.R_new' (Kd.R_newM (M := fun k_ => (P1_ k_ ∨ w.heap.size ≤ k_)) ho32 (by first | exact HK.out.1 | exact (show Kept w _ (fun k_ => P1_ k_) from by repeat (first | (with_reducible first | exact HK.out | apply Kept.alloc | apply Kept.drewN | apply Kept.drew | refine Kept.setCell ?_ (.inr bu.out) _) | exact HK.out)).1) (fun k_ h_ => .inr h_)) (Kd.R_lt (by (with_reducible repeat (first | apply Kd.R_alloc | apply Kd.R_drewN | apply Kd.R_drew)); exact bN.out))) (Kd.R_lt (by (with_reducible repeat (first | apply Kd.R_alloc | apply Kd.R_drewN | apply Kd.R_drew)); exact bD.out))) (ae (by repeat (first | (with_reducible first | exact HB.out | apply a6 | apply a4 | apply a5 | refine a9 ?_ bJ.out) | exact HB.out))))
              have n3_ := Aside0.mk (ag (g := bH) (o := .cells #[.slice (some ad217) ai.length aq, .slice aw af.length ao] 25 (0, 0)) (by (with_reducible repeat (first | refine ab ?_ _ | refine ac ?_ | refine aa ?_ _)); exact aC.out) hb)
              have n4_ := Aside0.mk (Kept.below (S := (fun k_ => P1_ k_)) (by repeat (first | (with_reducible first | exact HK.out | apply Kept.alloc | apply Kept.drewN | apply Kept.drew | refine Kept.setCell ?_ (.inr bu.out) _) | exact HK.out)) hb)
              have n5_ := Aside0.mk (ah (by repeat (first | (with_reducible first | exact HB.out | apply a6 | apply a4 | apply a5 | refine a9 ?_ bJ.out) | exact HB.out)) hb)
              clear bN
              clear bD
              clear aC
              clear HK
              clear HB
              have bN := n0_
              have bD := n1_
              have cC := n2_
              have aC := n3_
              have HK := n4_
              have HB := n5_
              clear n0_ n1_ n2_ n3_ n4_ n5_
              clear hb ho32
              refine hK.out _ _ ⟨(a7 aC.out 0).trans rfl, (a7 aC.out 1).trans rfl, (hf224.out _ HK.out)⟩ (fun hHeld => ?_)
              clear hK K
              refine bR (a' := ?_) ?_ ?_
              rotate_left
              ·show Act.put _ (some 35) _ = _
               simp only [Act.put, List.setIfInBounds_toArray, List.set_cons_zero, List.set_cons_succ, ar, av]
               rfl
              refine ft (i := 3) (N := some 37) #[true, true, true, true, true, true, true, true, true, false, false, false, false, false, false, false] rfl rfl (bP HT_.out (by kernel_rfl)) (by decide) (fun K hK => ?_)
              refine Kd.R_append_rows_step (Kd.int .i64) (w0 := w0) w0.heap.size (by rfl) (.tmp 35) (.tmp 36) 26 3 (.int .i64 0) 8 rfl Try.underlying26 iT rfl (by decide) (by omega) v219 y218 l1 _ _ _ (fun k_ => (P1_ k_ ∨ w.heap.size ≤ k_) ∧ some k_ ≠ (.slice Ao19 l1.length fB : Value).ownBlock ∧ some k_ ≠ (v226 : Value).ownBlock) (fun _ => False) rfl rfl ?aO ?aR (fun _ _ h => h) (fun _ h => h.elim) ?aF ?aB ?aS ?aL ?_
              (case aR => repeat (first | exact (Kd.R_reads' bN.out).2.2 | (with_reducible refine Kd.C_alloc ?_ _) | (with_reducible refine Kd.C_drewN ?_ _) | (with_reducible refine Kd.C_drew ?_)))
              (case aB => exact (by repeat (first | (with_reducible first | exact HB.out | apply a6 | apply a4 | apply a5 | refine a9 ?_ bJ.out) | exact HB.out)))
              (case aF => exact (fun k_ hk => ⟨(.inr (Nat.le_trans (by first | exact HK.out.1 | exact (show Kept w _ (fun k_ => P1_ k_) from by repeat (first | (with_reducible first | exact HK.out | apply Kept.alloc | apply Kept.drewN | apply Kept.drew | refine Kept.setCell ?_ (.inr bu.out) _) | exact HK.out)).1) hk)), Kd.fresh' (Kd.R_lt (by (with_reducible repeat (first | apply Kd.R_alloc | apply Kd.R_drewN | apply Kd.R_drew)); exact bN.out)) k_ hk, Kd.fresh' (Kd.R_lt (by (with_reducible repeat (first | apply Kd.R_alloc | apply Kd.R_drewN | apply Kd.R_drew)); exact bD.out)) k_ hk⟩))
              (case aO => exact (by (with_reducible repeat (first | apply Kd.R_alloc | apply Kd.R_drewN | apply Kd.R_drew)); exact Kd.R_mono cC.out (fun _ hk => ⟨hk.1.1.1, ⟨hk.1.2, hk.2⟩⟩)))
              (case aS => exact (ae (by repeat (first | (with_reducible first | exact HB.out | apply a6 | apply a4 | apply a5 | refine a9 ?_ bJ.out) | exact HB.out))))
              (case aL => have := LMc23.out; omega)
              intro v222 w33 ho hb hg hat
              rw [← Ny221.out] at ho
              have n0_ := Aside0.mk (Kd.R_after (ok := (fun k_ => (P1_ k_ ∨ w.heap.size ≤ k_) ∧ some k_ ≠ (v226 : Value).ownBlock)) (by (with_reducible repeat (first | apply Kd.R_alloc | apply Kd.R_drewN | apply Kd.R_drew)); exact bN.out) hg hat)
              have n1_ := Aside0.mk (cj (g := bH) (o := .cells #[.slice (some ad217) ai.length aq, .slice aw af.length ao] 25 (0, 0)) (by (with_reducible repeat (first | refine ab ?_ _ | refine ac ?_ | refine aa ?_ _)); exact aC.out) hg (Kd.R_ne cC.out aC.out (by decide)))
              have n2_ := Aside0.mk (Kd.R_after (ok := (fun k_ => (P1_ k_ ∨ w.heap.size ≤ k_) ∧ some k_ ≠ (.slice Ao19 l1.length fB : Value).ownBlock)) (by (with_reducible repeat (first | apply Kd.R_alloc | apply Kd.R_drewN | apply Kd.R_drew)); exact Kd.R_mono bD.out (fun _ hk => ⟨⟨hk.1.1.1, hk.1.2⟩, hk.2⟩)) hg hat)
              have n3_ := Aside0.mk (hb)
              have n4_ := Aside0.mk (Kept.of_grown (S := (fun k_ => P1_ k_)) hg (by repeat (first | (with_reducible first | exact HK.out | apply Kept.alloc | apply Kept.drewN | apply Kept.drew | refine Kept.setCell ?_ (.inr bu.out) _) | exact HK.out)) (fun k_ e_ => (cC.out.1 k_ e_).1.1.1))
              have n5_ := Aside0.mk (ho)
              clear bN
              clear aC
              clear bD
              clear HB
              clear HK
              clear cC
              have bN := n0_
              have aC := n1_
              have bD := n2_
              have HB := n3_
              have HK := n4_
              have d4 := n5_
              clear n0_ n1_ n2_ n3_ n4_ n5_
              clear ho hb hg hat
              refine hK.out _ _ ⟨(a7 aC.out 0).trans rfl, (a7 aC.out 1).trans rfl, (hf224.out _ HK.out)⟩ (fun hHeld => ?_)
              clear hK K
              refine bR (a' := ?_) ?_ ?_
              rotate_left
              ·show Act.put _ (some 37) _ = _
               simp only [Act.put, List.setIfInBounds_toArray, List.set_cons_zero, List.set_cons_succ, ar, av]
               rfl
              exact bR (by simp only [eQ, Act.put, List.setIfInBounds_toArray, List.set_cons_zero, List.set_cons_succ]) (hCont (v219, v222, v226) _ ⟨hHeld, (by (with_reducible repeat (first | apply Kd.R_alloc | apply Kd.R_drewN | apply Kd.R_drew)); exact Kd.R_mono d4.out (fun _ hk => ⟨hk.1, ⟨hk.2.2, hk.2.1⟩⟩)), (by (with_reducible repeat (first | apply Kd.R_alloc | apply Kd.R_drewN | apply Kd.R_drew)); exact Kd.R_mono bD.out (fun _ hk => ⟨hk.1.1, ⟨hk.2, hk.1.2⟩⟩)), (by (with_reducible repeat (first | apply Kd.R_alloc | apply Kd.R_drewN | apply Kd.R_drew)); exact Kd.R_mono bN.out (fun _ hk => ⟨hk.1.1, ⟨hk.2, hk.1.2⟩⟩)), (by (with_reducible repeat (first | refine ab ?_ _ | refine ac ?_ | refine aa ?_ _)); exact aC.out), (by repeat (first | (with_reducible first | exact HK.out | apply Kept.alloc | apply Kept.drewN | apply Kept.drew | refine Kept.setCell ?_ (.inr bu.out) _) | exact HK.out)), (by repeat (first | (with_reducible first | exact HB.out | apply a6 | apply a4 | apply a5 | refine a9 ?_ bJ.out) | exact HB.out))⟩)
            rintro ⟨v219, v222, v226⟩ w34 ⟨hS_, h0_, h1_, h2_, h3_, h4_, h5_⟩
            have n0_ : Aside0 (Kd.R (Kd.int .i64) 3 w34 w0.heap.size (fun k_ => (P1_ k_ ∨ w.heap.size ≤ k_) ∧ some k_ ≠ (v226 : Value).ownBlock ∧ some k_ ≠ (.slice Ao19 l1.length fB : Value).ownBlock) v222 y221) := ⟨h0_⟩
            have n1_ : Aside0 (Kd.R (Kd.int .i64) 3 w34 w0.heap.size (fun k_ => (P1_ k_ ∨ w.heap.size ≤ k_) ∧ some k_ ≠ (v222 : Value).ownBlock ∧ some k_ ≠ (.slice Ao19 l1.length fB : Value).ownBlock) v226 y225) := ⟨h1_⟩
            have n2_ : Aside0 (Kd.R (Kd.int .i64) 3 w34 w0.heap.size (fun k_ => (P1_ k_ ∨ w.heap.size ≤ k_) ∧ some k_ ≠ (v222 : Value).ownBlock ∧ some k_ ≠ (v226 : Value).ownBlock) (.slice Ao19 l1.length fB) l1) := ⟨h2_⟩
            have n3_ : Aside0 (w34.heap[bH]? = some (.cells #[.slice (some ad217) ai.length aq, .slice aw af.length ao] 25 (0, 0))) := ⟨h3_⟩
            have n4_ : Aside0 (Kept w w34 (fun k_ => P1_ k_)) := ⟨h4_⟩
            have n5_ : Aside0 (Below w0.heap.size w0 w34) := ⟨h5_⟩
            clear bN
            clear aC
            clear HK
            clear HB
            clear h0_ h1_ h2_ h3_ h4_ h5_
            have d4 := n0_
            have bD := n1_
            have bN := n2_
            have aC := n3_
            have HK := n4_
            have HB := n5_
            clear n0_ n1_ n2_ n3_ n4_ n5_
            have hHeld : w34.cell? ⟨bH, 0, none⟩ = some (.slice (some ad217) ai.length aq) ∧ w34.cell? ⟨bH, 1, none⟩ = some (.slice aw af.length ao) ∧ w34.cell? (ad224.add (x7_1).toNat) = some (.int .i64 (rd (ax ai (l1.length : Int)) x7_1)) := hS_
            obtain ⟨Ao36, co36, eo36⟩ := Kd.R_slice bD.out
            (first | subst eo36 | (injection eo36 with f1_ f2_ f3_; have f4_ := f1_.symm; have f5_ := f3_.symm; clear f1_ f2_ f3_; subst f4_; subst f5_))
            refine bR (a' := ?_) ?_ ?_
            rotate_left
            ·simp only [eQ, Act.put, List.setIfInBounds_toArray, List.set_cons_zero, List.set_cons_succ]
             rfl
            refine ft (i := 9) (N := some 43) #[true, true, true, true, true, true, true, true, true, true, false, false, false, false, false, false] rfl rfl (bP HT_.out (by kernel_rfl)) (by decide) (fun K hK => ?_)
            refine Kd.R_append_rows_step (Kd.int .i64) (w0 := w0) w0.heap.size (by rfl) (.tmp 37) (.tmp 42) 26 3 (.int .i64 0) 8 rfl Try.underlying26 iT rfl (by decide) (by omega) v222 y221 y225 _ _ _ (fun k_ => (P1_ k_ ∨ w.heap.size ≤ k_) ∧ some k_ ≠ (.slice Ao19 l1.length fB : Value).ownBlock ∧ some k_ ≠ (.slice Ao36 y225.length co36 : Value).ownBlock) (fun _ => False) rfl rfl ?aO ?aR (fun _ _ h => h) (fun _ h => h.elim) ?aF ?aB ?aS ?aL ?_
            (case aR => repeat (first | exact (Kd.R_reads' bD.out).2.2 | (with_reducible refine Kd.C_alloc ?_ _) | (with_reducible refine Kd.C_drewN ?_ _) | (with_reducible refine Kd.C_drew ?_)))
            (case aB => exact (by repeat (first | (with_reducible first | exact HB.out | apply a6 | apply a4 | apply a5 | refine a9 ?_ bJ.out) | exact HB.out)))
            (case aF => exact (fun k_ hk => ⟨(.inr (Nat.le_trans (by first | exact HK.out.1 | exact (show Kept w _ (fun k_ => P1_ k_) from by repeat (first | (with_reducible first | exact HK.out | apply Kept.alloc | apply Kept.drewN | apply Kept.drew | refine Kept.setCell ?_ (.inr bu.out) _) | exact HK.out)).1) hk)), Kd.fresh' (Kd.R_lt (by (with_reducible repeat (first | apply Kd.R_alloc | apply Kd.R_drewN | apply Kd.R_drew)); exact bN.out)) k_ hk, Kd.fresh' (Kd.R_lt (by (with_reducible repeat (first | apply Kd.R_alloc | apply Kd.R_drewN | apply Kd.R_drew)); exact bD.out)) k_ hk⟩))
            (case aO => exact (by (with_reducible repeat (first | apply Kd.R_alloc | apply Kd.R_drewN | apply Kd.R_drew)); exact Kd.R_mono d4.out (fun _ hk => ⟨hk.1, ⟨hk.2.2, hk.2.1⟩⟩)))
            (case aS => exact (ae (by repeat (first | (with_reducible first | exact HB.out | apply a6 | apply a4 | apply a5 | refine a9 ?_ bJ.out) | exact HB.out))))
            (case aL => have := LMc25.out; omega)
            intro v229 w35 ho hb hg hat
            rw [← Ny228.out] at ho
            have n0_ := Aside0.mk (Kd.R_after (ok := (fun k_ => (P1_ k_ ∨ w.heap.size ≤ k_) ∧ some k_ ≠ (.slice Ao36 y225.length co36 : Value).ownBlock)) (by (with_reducible repeat (first | apply Kd.R_alloc | apply Kd.R_drewN | apply Kd.R_drew)); exact Kd.R_mono bN.out (fun _ hk => ⟨⟨hk.1, hk.2.2⟩, hk.2.1⟩)) hg hat)
            have n1_ := Aside0.mk (cj (g := bH) (o := .cells #[.slice (some ad217) ai.length aq, .slice aw af.length ao] 25 (0, 0)) (by (with_reducible repeat (first | refine ab ?_ _ | refine ac ?_ | refine aa ?_ _)); exact aC.out) hg (Kd.R_ne d4.out aC.out (by decide)))
            have n2_ := Aside0.mk (Kd.R_after (ok := (fun k_ => (P1_ k_ ∨ w.heap.size ≤ k_) ∧ some k_ ≠ (.slice Ao19 l1.length fB : Value).ownBlock)) (by (with_reducible repeat (first | apply Kd.R_alloc | apply Kd.R_drewN | apply Kd.R_drew)); exact Kd.R_mono bD.out (fun _ hk => ⟨⟨hk.1, hk.2.2⟩, hk.2.1⟩)) hg hat)
            have n3_ := Aside0.mk (hb)
            have n4_ := Aside0.mk (Kept.of_grown (S := (fun k_ => P1_ k_)) hg (by repeat (first | (with_reducible first | exact HK.out | apply Kept.alloc | apply Kept.drewN | apply Kept.drew | refine Kept.setCell ?_ (.inr bu.out) _) | exact HK.out)) (fun k_ e_ => (d4.out.1 k_ e_).1))
            have n5_ := Aside0.mk (ho)
            clear bN
            clear aC
            clear bD
            clear HB
            clear HK
            clear d4
            have bN := n0_
            have aC := n1_
            have bD := n2_
            have HB := n3_
            have HK := n4_
            have ff := n5_
            clear n0_ n1_ n2_ n3_ n4_ n5_
            clear ho hb hg hat
            obtain ⟨Ao37, co37, eo37⟩ := Kd.R_slice ff.out
            (first | subst eo37 | (injection eo37 with f1_ f2_ f3_; have f4_ := f1_.symm; have f5_ := f3_.symm; clear f1_ f2_ f3_; subst f4_; subst f5_))
            refine hK.out _ _ ⟨(a7 aC.out 0).trans rfl, (a7 aC.out 1).trans rfl, (hf224.out _ HK.out)⟩ (fun hHeld => ?_)
            clear hK K
            refine bR (a' := ?_) ?_ ?_
            rotate_left
            ·show Act.put _ (some 43) _ = _
             simp only [Act.put, List.setIfInBounds_toArray, List.set_cons_zero, List.set_cons_succ, ar, av]
             rfl
            refine ft (i := 10) (N := some 44) #[true, true, true, true, true, true, true, true, true, true, true, false, false, false, false, false] rfl rfl (bP HT_.out (by kernel_rfl)) (by decide) (fun K hK => ?_)
            refine hU Try.func36 (by kernel_rfl) rfl #[.agg #[.slice (some ad217) ai.length aq, .slice aw af.length ao], .slice Ao37 y228.length co37] (by rfl) rfl rfl (by (try simp only [List.map_toArray, List.map_cons, List.map_nil]); first | done | rfl | (simp only [List.length_drop, List.length_take]; rfl)) ?_
            with_reducible refine (ih k1 (by have := HK1.out; omega) _ _ ai _ _ af (fun k_ => some k_ = (.slice Ao37 y228.length co37 : Value).ownBlock) (.slice Ao37 y228.length co37) y228 t231 true w0 _ ?side1 ?side2 ?side3 ?side4 ?side5 ?side6 A26.out).mono ?_
            (case side1 => repeat (first | (with_reducible first | exact HB.out | apply a6 | apply a4 | apply a5 | refine a9 ?_ bJ.out) | exact HB.out))
            (case side2 => exact Kd.C_kept_call bf.out (by repeat (first | (with_reducible first | exact HK.out | apply Kept.alloc | apply Kept.drewN | apply Kept.drew | refine Kept.setCell ?_ (.inr bu.out) _) | exact HK.out)) (fun k_ hs_ => (fun e_ => (ff.out.1 k_ e_.symm).1) hs_))
            (case side3 => exact bo.out)
            (case side4 => exact Kd.C_kept_call bd.out (by repeat (first | (with_reducible first | exact HK.out | apply Kept.alloc | apply Kept.drewN | apply Kept.drew | refine Kept.setCell ?_ (.inr bu.out) _) | exact HK.out)) (fun k_ hs_ => (fun e_ => (ff.out.1 k_ e_.symm).1) hs_))
            (case side5 => exact bn.out)
            (case side6 => exact Kd.R_tight rfl ff.out)
            rintro e w38 ⟨v232, rfl, ho0, hb, hkp⟩
            refine ⟨_, rfl, ?_⟩
            have n0_ := Aside0.mk (Kd.R_mono (ok' := fun k_ => (P1_ k_ ∨ w.heap.size ≤ k_) ∧ some k_ ≠ (.slice Ao36 y225.length co36 : Value).ownBlock ∧ some k_ ≠ (v232 : Value).ownBlock) (Kd.R_keptB (bN.out) hkp (fun k_ hk_ hs_ => (hk_.2) hs_)) (fun k_ hk_ => ⟨hk_.1.1.1, hk_.1.1.2, fun e_ => Or.elim (ho0.1 k_ e_.symm) (fun hs_ => hk_.2.1 hs_) (fun hn_ => Nat.not_le.2 hk_.2.2 hn_)⟩))
            have n1_ := Aside0.mk (blk_kept (by (with_reducible repeat (first | refine ab ?_ _ | refine ac ?_ | refine aa ?_ _)); exact aC.out) hkp (fun hs_ => (fun e_ => (Kd.R_ne ff.out aC.out (by decide)) e_) hs_))
            have n2_ := Aside0.mk (Kd.R_mono (ok' := fun k_ => (P1_ k_ ∨ w.heap.size ≤ k_) ∧ some k_ ≠ (.slice Ao19 l1.length fB : Value).ownBlock ∧ some k_ ≠ (v232 : Value).ownBlock) (Kd.R_keptB (bD.out) hkp (fun k_ hk_ hs_ => (hk_.2) hs_)) (fun k_ hk_ => ⟨hk_.1.1.1, hk_.1.1.2, fun e_ => Or.elim (ho0.1 k_ e_.symm) (fun hs_ => hk_.2.1 hs_) (fun hn_ => Nat.not_le.2 hk_.2.2 hn_)⟩))
            have n3_ := Aside0.mk (Kd.R_mono (ok' := fun k_ => (P1_ k_ ∨ w.heap.size ≤ k_) ∧ some k_ ≠ (.slice Ao19 l1.length fB : Value).ownBlock ∧ some k_ ≠ (.slice Ao36 y225.length co36 : Value).ownBlock) ho0 (fun k_ hk_ => ⟨Or.elim hk_ (fun hs_ => (ff.out.1 k_ (hs_).symm).1) (fun hn_ => (.inr (Nat.le_trans (by first | exact HK.out.1 | exact (show Kept w _ (fun k_ => P1_ k_) from by repeat (first | (with_reducible first | exact HK.out | apply Kept.alloc | apply Kept.drewN | apply Kept.drew | refine Kept.setCell ?_ (.inr bu.out) _) | exact HK.out)).1) hn_))), Or.elim hk_ (fun hs_ => fun e_ => (((bN.out).1 k_ e_.symm).2) hs_) (fun hn_ => (Kd.fresh' (Kd.R_lt (by (with_reducible repeat (first | apply Kd.R_alloc | apply Kd.R_drewN | apply Kd.R_drew)); exact bN.out)) k_ hn_)), Or.elim hk_ (fun hs_ => fun e_ => (((bD.out).1 k_ e_.symm).2) hs_) (fun hn_ => (Kd.fresh' (Kd.R_lt (by (with_reducible repeat (first | apply Kd.R_alloc | apply Kd.R_drewN | apply Kd.R_drew)); exact bD.out)) k_ hn_))⟩))
            have n4_ := Aside0.mk (Kept.then_ (S := (fun k_ => P1_ k_)) (by repeat (first | (with_reducible first | exact HK.out | apply Kept.alloc | apply Kept.drewN | apply Kept.drew | refine Kept.setCell ?_ (.inr bu.out) _) | exact HK.out)) hkp (fun k_ hs_ => (fun e_ => (ff.out.1 k_ e_.symm).1) hs_))
            have n5_ := Aside0.mk (hb)
            clear bN
            clear aC
            clear bD
            clear HK
            clear HB
            clear ff
            have bN := n0_
            have aC := n1_
            have bD := n2_
            have HO233 := n3_
            have HK := n4_
            have HB := n5_
            clear n0_ n1_ n2_ n3_ n4_ n5_
            (try clear hb)
            (try clear hkp)
            (try clear ho0)
            refine hK.out _ _ ⟨(a7 aC.out 0).trans rfl, (a7 aC.out 1).trans rfl, (hf224.out _ HK.out)⟩ (fun hHeld => ?_)
            clear hK K
            refine bR (a' := ?_) ?_ ?_
            rotate_left
            ·show Act.put _ (some 44) _ = _
             simp only [Act.put, List.setIfInBounds_toArray, List.set_cons_zero, List.set_cons_succ, ar, av]
             rfl
            refine aK (i := 11) (N := some 33) (v := ?_) (a' := ?_) #[true, true, true, true, true, true, true, true, true, true, true, true, false, false, false, false] rfl rfl (aA HT_.out (by kernel_rfl)) (fun _ _ _ h => h) (Or.inl ⟨by rfl, ?_⟩) ?_ ?_
            rotate_left
            ·intro w'
             go_simp
             with_reducible rfl
            rotate_left
            ·simp only [Act.put, List.setIfInBounds_toArray, List.set_cons_zero, List.set_cons_succ, ar, av]
             rfl
            refine aK (i := 12) (N := some 45) (v := ?_) (a' := ?_) #[true, true, true, true, true, true, true, true, true, true, true, true, true, false, false, false] rfl rfl (aA HT_.out (by kernel_rfl)) (fun _ _ _ h => h) (Or.inl ⟨by rfl, ?_⟩) ?_ ?_
            rotate_left
            ·intro w'
             go_simp
             with_reducible rfl
            rotate_left
            ·simp only [Act.put, List.setIfInBounds_toArray, List.set_cons_zero, List.set_cons_succ, ar, av]
             rfl
            refine aK (i := 13) (N := some 46) (v := ?_) (a' := ?_) #[true, true, true, true, true, true, true, true, true, true, true, true, true, true, false, false] rfl rfl (aA HT_.out (by kernel_rfl)) (fun _ _ _ h => h) (Or.inl ⟨by rfl, ?_⟩) ?_ ?_
            rotate_left
            ·intro w'
             go_simp
             with_reducible rfl
            rotate_left
            ·simp only [Act.put, List.setIfInBounds_toArray, List.set_cons_zero, List.set_cons_succ, ar, av]
             rfl
            refine aK (i := 14) (N := some 8) (v := ?_) (a' := ?_) #[true, true, true, true, true, true, true, true, true, true, true, true, true, true, true, false] rfl rfl (aA HT_.out (by kernel_rfl)) (fun _ _ _ h => h) (Or.inl ⟨by rfl, ?_⟩) ?_ ?_
            rotate_left
            ·intro w'
             go_simp
             with_reducible rfl
            rotate_left
            ·simp only [Act.put, List.setIfInBounds_toArray, List.set_cons_zero, List.set_cons_succ, ar, av]
             rfl
            refine aK (i := 15) (N := some 9) (v := ?_) (a' := ?_) #[true, true, true, true, true, true, true, true, true, true, true, true, true, true, true, true] rfl rfl (aA HT_.out (by kernel_rfl)) (fun _ _ _ h => h) (Or.inl ⟨by rfl, ?_⟩) ?_ ?_
            rotate_left
            ·intro w'
             go_simp
             with_reducible rfl
            rotate_left
            ·simp only [Act.put, List.setIfInBounds_toArray, List.set_cons_zero, List.set_cons_succ, ar, av]
             rfl
            refine gZ (d8 HT_.out (by kernel_rfl)) ?_
            try go_wp2
            go_ret2
            exact ⟨_, by first | rfl | (simp [al, ak] <;> rfl) | (simp [*, al, ak] <;> rfl), by (with_reducible repeat (first | apply Kd.R_alloc | apply Kd.R_drewN | apply Kd.R_drew)); exact Kd.R_mono HO233.out (fun _ hk => hk.1), by repeat (first | (with_reducible first | exact HB.out | apply a6 | apply a4 | apply a5 | refine a9 ?_ bJ.out) | exact HB.out), by repeat (first | (with_reducible first | exact HK.out | apply Kept.alloc | apply Kept.drewN | apply Kept.drew | refine Kept.setCell ?_ (.inr bu.out) _) | exact HK.out)⟩
           ·replace c27 := Bool.eq_false_iff.mpr c27
            subst c27
            have H1 : (fastiref15_solve.l0 k1 l1 (ax ai (l1.length : Int)) (wrap64 (x7_1 + 1)) ai af) = some (r1, r2) := by rw [if_neg (show ¬ (false = true) by decide)] at H; exact H
            clear H
            have H := H1
            clear H1
            have H' := Aside0.mk H
            clear H
            try go_wp2
            have n0_ := Aside0.mk (Kd.R_drew bN.out)
            have n1_ := Aside0.mk (ac aC.out)
            have n2_ := Aside0.mk (Kept.drew HK.out)
            have n3_ := Aside0.mk (a5 HB.out)
            clear bN
            clear aC
            clear HK
            clear HB
            have bN := n0_
            have aC := n1_
            have HK := n2_
            have HB := n3_
            clear n0_ n1_ n2_ n3_
            have p224 : 0 ≤ (x7_1 : Int) := of_decide_eq_true (by first | (with_reducible assumption) | assumption)
            have q224 : x7_1 < ((ax ai (l1.length : Int)).length : Int) := of_decide_eq_true (by first | (with_reducible assumption) | assumption)
            obtain ⟨ad224, e224, kG⟩ := Kd.at_int (HS217_0.out _ HK.out) x7_1 p224 q224
            have hw224_0 := kG
            cases e224
            have hf224 := Aside0.mk (fun (W_ : World) (hk_ : Kept w W_ (fun k_ => P1_ k_)) => (by obtain ⟨ad_, e_, hx_⟩ := Kd.at_int (HS217_0.out W_ hk_) x7_1 p224 q224; cases e_; exact hx_ : W_.cell? (ad224.add (x7_1).toNat) = some _))
            replace p224 := eq_true p224
            replace q224 := eq_true q224
            refine eJ (n := 16) (S := fun w' => w'.cell? ⟨bH, 0, none⟩ = some (.slice (some ad217) ai.length aq) ∧ w'.cell? ⟨bH, 1, none⟩ = some (.slice aw af.length ao) ∧ w'.cell? (ad224.add (x7_1).toNat) = some (.int .i64 (rd (ax ai (l1.length : Int)) x7_1))) (ds := []) #[false, false, false, false, false, false, false, false, false, false, false, false, false, false, false, false] (by kernel_rfl) rfl rfl ⟨(a7 aC.out 0).trans rfl, (a7 aC.out 1).trans rfl, (hf224.out _ HK.out)⟩ (fun hHeld => ?_); refine dF fastiref15_solve.tab9 fastiref15_solve.bits9 (fun HT_ HW_ => ?_)
            generalize wr.drew = w39 at bN aC HK HB kG hHeld ⊢
            refine aK (i := 2) (N := some 36) (v := ?_) (a' := ?_) #[false, false, true, false, false, false, false, false, false, false, false, false, false, false, false, false] rfl rfl (aA HT_.out (by kernel_rfl)) (fun _ _ _ h => h) (Or.inl ⟨by rfl, ?_⟩) ?_ ?_
            rotate_left
            ·intro w'
             go_simp
             with_reducible rfl
            rotate_left
            ·simp only [Act.put, List.setIfInBounds_toArray, List.set_cons_zero, List.set_cons_succ, ar, av]
             rfl
            refine aK (i := 4) (N := some 38) (v := ?_) (a' := ?_) #[false, false, true, false, true, false, false, false, false, false, false, false, false, false, false, false] rfl rfl (aA HT_.out (by kernel_rfl)) (fun _ _ _ h => h) (Or.inl ⟨by rfl, ?_⟩) ?_ ?_
            rotate_left
            ·intro w'
             go_simp
             with_reducible rfl
            rotate_left
            ·simp only [Act.put, List.setIfInBounds_toArray, List.set_cons_zero, List.set_cons_succ, ar, av]
             rfl
            refine aK (i := 5) (N := some 39) (v := ?_) (a' := ?_) #[false, false, true, false, true, true, false, false, false, false, false, false, false, false, false, false] rfl rfl (aA HT_.out (by kernel_rfl)) (fun _ _ _ h => h) (Or.inl ⟨by rfl, ?_⟩) ?_ ?_
            rotate_left
            ·intro w'
             go_simp
             with_reducible rfl
            rotate_left
            ·simp only [Act.put, List.setIfInBounds_toArray, List.set_cons_zero, List.set_cons_succ, ar, av]
             rfl
            refine aK (i := 6) (N := some 40) (v := ?_) (a' := ?_) #[false, false, true, false, true, true, true, false, false, false, false, false, false, false, false, false] rfl rfl (aA HT_.out (by kernel_rfl)) (fun _ _ _ h => h) (Or.inl ⟨by rfl, ?_⟩) ?_ ?_
            rotate_left
            ·intro w'
             go_simp
             with_reducible rfl
            rotate_left
            ·simp only [Act.put, List.setIfInBounds_toArray, List.set_cons_zero, List.set_cons_succ, ar, av]
             rfl
            refine take_ (i := 0) (N := some 34) (v := ?_) (a' := ?_) #[true, false, true, false, true, true, true, false, false, false, false, false, false, false, false, false] rfl rfl (bQ HT_.out HW_.out (by kernel_rfl)) (fun _ _ _ h => h) (Or.inl ⟨by rfl, ?_⟩) hHeld ?_ ?_
            rotate_left
            ·rintro w' ⟨s0, s1, s2⟩
             go_simp
             with_reducible rfl
            rotate_left
            ·simp only [Act.put, List.setIfInBounds_toArray, List.set_cons_zero, List.set_cons_succ, ar, av]
             rfl
            refine take_ (i := 7) (N := some 41) (v := ?_) (a' := ?_) #[true, false, true, false, true, true, true, true, false, false, false, false, false, false, false, false] rfl rfl (bQ HT_.out HW_.out (by kernel_rfl)) (fun _ _ _ h => h) (Or.inl ⟨by rfl, ?_⟩) hHeld ?_ ?_
            rotate_left
            ·rintro w' ⟨s0, s1, s2⟩
             go_simp
             with_reducible rfl
            rotate_left
            ·simp only [Act.put, List.setIfInBounds_toArray, List.set_cons_zero, List.set_cons_succ, ar, av]
             rfl
            refine join_ (σ := Value × Value × Value) 7 #[true, true, true, true, true, true, true, true, true, false, false, false, false, false, false, false] (fun s_ => [(35, s_.1), (37, s_.2.1), (42, s_.2.2)]) (fun s_ w' => (w'.cell? ⟨bH, 0, none⟩ = some (.slice (some ad217) ai.length aq) ∧ w'.cell? ⟨bH, 1, none⟩ = some (.slice aw af.length ao) ∧ w'.cell? (ad224.add (x7_1).toNat) = some (.int .i64 (rd (ax ai (l1.length : Int)) x7_1))) ∧ (Kd.R (Kd.int .i64) 3 w' w0.heap.size (fun k_ => (P1_ k_ ∨ w.heap.size ≤ k_) ∧ some k_ ≠ (s_.2.2 : Value).ownBlock ∧ some k_ ≠ (.slice Ao19 l1.length fB : Value).ownBlock) s_.2.1 y221) ∧ (Kd.R (Kd.int .i64) 3 w' w0.heap.size (fun k_ => (P1_ k_ ∨ w.heap.size ≤ k_) ∧ some k_ ≠ (s_.2.1 : Value).ownBlock ∧ some k_ ≠ (.slice Ao19 l1.length fB : Value).ownBlock) s_.2.2 y225) ∧ (Kd.R (Kd.int .i64) 3 w' w0.heap.size (fun k_ => (P1_ k_ ∨ w.heap.size ≤ k_) ∧ some k_ ≠ (s_.2.1 : Value).ownBlock ∧ some k_ ≠ (s_.2.2 : Value).ownBlock) (.slice Ao19 l1.length fB) l1) ∧ (w'.heap[bH]? = some (.cells #[.slice (some ad217) ai.length aq, .slice aw af.length ao] 25 (0, 0))) ∧ (Kept w w' (fun k_ => P1_ k_)) ∧ (Below w0.heap.size w0 w')) ?_ ?_
            rotate_left
            ·intro hCont
             refine two_ (i := 1) (j := 8) (Ni := some 35) (Nj := some 42) #[true, true, true, false, true, true, true, true, false, false, false, false, false, false, false, false] #[true, false, true, false, true, true, true, true, true, false, false, false, false, false, false, false] rfl rfl rfl rfl (two_of HT_.out (by kernel_rfl)) (by decide) (by decide) (fun K hK => ?_) (fun K hK => ?_)
             ·skip
              refine Kd.R_lit_step (Kd.int .i64) _ 3 ?hg (N := 35) ?hd (xs := ([] : List Int)) (inner := []) (ok := fun _ => True) (okp := fun _ => True) ?hr ?hp (fun _ hk => hk) trivial (Below.refl _ _) (Nat.le_refl _) (by simp) ?_; (case hd => rfl); (case hg => rfl); (case hr => first | (go_simp; done) | (go_simp; rfl)); (case hp => exact (Reps.none _ _))
              intro v219 w40 ho41 hb hg_ hnew_
              clear hg_ hnew_
              (first | rw [← Ny218.out] at ho41 | (simp only [Int.reduceToNat] at ho41; rw [← Ny218.out] at ho41))
              have n0_ := Aside0.mk (Kd.R_elder' (by (with_reducible repeat (first | apply Kd.R_alloc | apply Kd.R_drewN | apply Kd.R_drew)); exact bN.out) (Kd.R_base ho41) hb)
              have n1_ := Aside0.mk (Kd.R_lower (Kd.R_new' (Kd.R_newM (M := fun k_ => (P1_ k_ ∨ w.heap.size ≤ k_)) ho41 (by first | exact HK.out.1 | exact (show Kept w _ (fun k_ => P1_ k_) from by repeat (first | (with_reducible first | exact HK.out | apply Kept.alloc | apply Kept.drewN | apply Kept.drew | refine Kept.setCell ?_ (.inr bu.out) _) | exact HK.out)).1) (fun k_ h_ => .inr h_)) (Kd.R_lt (by (with_reducible repeat (first | apply Kd.R_alloc | apply Kd.R_drewN | apply Kd.R_drew)); exact bN.out))) (ae (by repeat (first | (with_reducible first | exact HB.out | apply a6 | apply a4 | apply a5 | refine a9 ?_ bJ.out) | exact HB.out))))
              have n2_ := Aside0.mk (ag (g := bH) (o := .cells #[.slice (some ad217) ai.length aq, .slice aw af.length ao] 25 (0, 0)) (by (with_reducible repeat (first | refine ab ?_ _ | refine ac ?_ | refine aa ?_ _)); exact aC.out) hb)
              have n3_ := Aside0.mk (Kept.below (S := (fun k_ => P1_ k_)) (by repeat (first | (with_reducible first | exact HK.out | apply Kept.alloc | apply Kept.drewN | apply Kept.drew | refine Kept.setCell ?_ (.inr bu.out) _) | exact HK.out)) hb)
              have n4_ := Aside0.mk (ah (by repeat (first | (with_reducible first | exact HB.out | apply a6 | apply a4 | apply a5 | refine a9 ?_ bJ.out) | exact HB.out)) hb)
              clear bN
              clear aC
              clear HK
              clear HB
              have bN := n0_
              have cC := n1_
              have aC := n2_
              have HK := n3_
              have HB := n4_
              clear n0_ n1_ n2_ n3_ n4_
              clear hb ho41
              refine hK.out _ _ ⟨(a7 aC.out 0).trans rfl, (a7 aC.out 1).trans rfl, (hf224.out _ HK.out)⟩ (fun hHeld => ?_)
              clear hK K
              refine bR (a' := ?_) ?_ ?_
              rotate_left
              ·show Act.put _ (some 35) _ = _
               simp only [Act.put, List.setIfInBounds_toArray, List.set_cons_zero, List.set_cons_succ, ar, av]
               rfl
              refine two_ (i := 3) (j := 8) (Ni := some 37) (Nj := some 42) #[true, true, true, true, true, true, true, true, false, false, false, false, false, false, false, false] #[true, true, true, false, true, true, true, true, true, false, false, false, false, false, false, false] rfl rfl rfl rfl (two_of HT_.out (by kernel_rfl)) (by decide) (by decide) (fun K hK => ?_) (fun K hK => ?_)
              ·skip
               refine Kd.R_append_rows_step (Kd.int .i64) (w0 := w0) w0.heap.size (by rfl) (.tmp 35) (.tmp 36) 26 3 (.int .i64 0) 8 rfl Try.underlying26 iT rfl (by decide) (by omega) v219 y218 l1 _ _ _ (fun k_ => (P1_ k_ ∨ w.heap.size ≤ k_) ∧ some k_ ≠ (.slice Ao19 l1.length fB : Value).ownBlock) (fun _ => False) rfl rfl ?aO ?aR (fun _ _ h => h) (fun _ h => h.elim) ?aF ?aB ?aS ?aL ?_
               (case aR => repeat (first | exact (Kd.R_reads' bN.out).2.2 | (with_reducible refine Kd.C_alloc ?_ _) | (with_reducible refine Kd.C_drewN ?_ _) | (with_reducible refine Kd.C_drew ?_)))
               (case aB => exact (by repeat (first | (with_reducible first | exact HB.out | apply a6 | apply a4 | apply a5 | refine a9 ?_ bJ.out) | exact HB.out)))
               (case aF => exact (fun k_ hk => ⟨(.inr (Nat.le_trans (by first | exact HK.out.1 | exact (show Kept w _ (fun k_ => P1_ k_) from by repeat (first | (with_reducible first | exact HK.out | apply Kept.alloc | apply Kept.drewN | apply Kept.drew | refine Kept.setCell ?_ (.inr bu.out) _) | exact HK.out)).1) hk)), Kd.fresh' (Kd.R_lt (by (with_reducible repeat (first | apply Kd.R_alloc | apply Kd.R_drewN | apply Kd.R_drew)); exact bN.out)) k_ hk⟩))
               (case aO => exact (by (with_reducible repeat (first | apply Kd.R_alloc | apply Kd.R_drewN | apply Kd.R_drew)); exact Kd.R_mono cC.out (fun _ hk => ⟨hk.1.1, hk.2⟩)))
               (case aS => exact (ae (by repeat (first | (with_reducible first | exact HB.out | apply a6 | apply a4 | apply a5 | refine a9 ?_ bJ.out) | exact HB.out))))
               (case aL => have := LMc23.out; omega)
               intro v222 w42 ho hb hg hat
               rw [← Ny221.out] at ho
               have n0_ := Aside0.mk (Kd.R_after (ok := (fun k_ => (P1_ k_ ∨ w.heap.size ≤ k_))) (by (with_reducible repeat (first | apply Kd.R_alloc | apply Kd.R_drewN | apply Kd.R_drew)); exact bN.out) hg hat)
               have n1_ := Aside0.mk (cj (g := bH) (o := .cells #[.slice (some ad217) ai.length aq, .slice aw af.length ao] 25 (0, 0)) (by (with_reducible repeat (first | refine ab ?_ _ | refine ac ?_ | refine aa ?_ _)); exact aC.out) hg (Kd.R_ne cC.out aC.out (by decide)))
               have n2_ := Aside0.mk (hb)
               have n3_ := Aside0.mk (Kept.of_grown (S := (fun k_ => P1_ k_)) hg (by repeat (first | (with_reducible first | exact HK.out | apply Kept.alloc | apply Kept.drewN | apply Kept.drew | refine Kept.setCell ?_ (.inr bu.out) _) | exact HK.out)) (fun k_ e_ => (cC.out.1 k_ e_).1.1))
               have n4_ := Aside0.mk (ho)
               clear bN
               clear aC
               clear HB
               clear HK
               clear cC
               have bN := n0_
               have aC := n1_
               have HB := n2_
               have HK := n3_
               have d4 := n4_
               clear n0_ n1_ n2_ n3_ n4_
               clear ho hb hg hat
               refine hK.out _ _ ⟨(a7 aC.out 0).trans rfl, (a7 aC.out 1).trans rfl, (hf224.out _ HK.out)⟩ (fun hHeld => ?_)
               clear hK K
               refine bR (a' := ?_) ?_ ?_
               rotate_left
               ·show Act.put _ (some 37) _ = _
                simp only [Act.put, List.setIfInBounds_toArray, List.set_cons_zero, List.set_cons_succ, ar, av]
                rfl
               refine ft (i := 8) (N := some 42) #[true, true, true, true, true, true, true, true, true, false, false, false, false, false, false, false] rfl rfl (bP HT_.out (by kernel_rfl)) (by decide) (fun K hK => ?_)
               refine Kd.R_lit_step (Kd.int .i64) _ 3 ?hg (N := 42) ?hd (xs := ([rd (ax ai (l1.length : Int)) x7_1] : List Int)) (inner := [.int .i64 (rd (ax ai (l1.length : Int)) x7_1)]) (ok := fun _ => True) (okp := fun _ => True) ?hr ?hp (fun _ hk => hk) trivial (Below.refl _ _) (Nat.le_refl _) (by simp) ?_; (case hd => rfl); (case hg => rfl); (case hr => first | (go_simp; done) | (go_simp; rfl)); (case hp => exact (Reps.one (show Kd.M (Kd.int .i64) _ _ _ (rd (ax ai (l1.length : Int)) x7_1) [.int .i64 (rd (ax ai (l1.length : Int)) x7_1)] from rfl) (Reps.none _ _)))
               intro v226 w43 ho44 hb hg_ hnew_
               clear hg_ hnew_
               (first | rw [← Ny225.out] at ho44 | (simp only [Int.reduceToNat] at ho44; rw [← Ny225.out] at ho44))
               have n0_ := Aside0.mk (Kd.R_elder' (by (with_reducible repeat (first | apply Kd.R_alloc | apply Kd.R_drewN | apply Kd.R_drew)); exact bN.out) (Kd.R_base ho44) hb)
               have n1_ := Aside0.mk (Kd.R_elder' (by (with_reducible repeat (first | apply Kd.R_alloc | apply Kd.R_drewN | apply Kd.R_drew)); exact d4.out) (Kd.R_base ho44) hb)
               have n2_ := Aside0.mk (Kd.R_lower (Kd.R_new' (Kd.R_new' (Kd.R_newM (M := fun k_ => (P1_ k_ ∨ w.heap.size ≤ k_)) ho44 (by first | exact HK.out.1 | exact (show Kept w _ (fun k_ => P1_ k_) from by repeat (first | (with_reducible first | exact HK.out | apply Kept.alloc | apply Kept.drewN | apply Kept.drew | refine Kept.setCell ?_ (.inr bu.out) _) | exact HK.out)).1) (fun k_ h_ => .inr h_)) (Kd.R_lt (by (with_reducible repeat (first | apply Kd.R_alloc | apply Kd.R_drewN | apply Kd.R_drew)); exact bN.out))) (Kd.R_lt (by (with_reducible repeat (first | apply Kd.R_alloc | apply Kd.R_drewN | apply Kd.R_drew)); exact d4.out))) (ae (by repeat (first | (with_reducible first | exact HB.out | apply a6 | apply a4 | apply a5 | refine a9 ?_ bJ.out) | exact HB.out))))
               have n3_ := Aside0.mk (ag (g := bH) (o := .cells #[.slice (some ad217) ai.length aq, .slice aw af.length ao] 25 (0, 0)) (by (with_reducible repeat (first | refine ab ?_ _ | refine ac ?_ | refine aa ?_ _)); exact aC.out) hb)
               have n4_ := Aside0.mk (Kept.below (S := (fun k_ => P1_ k_)) (by repeat (first | (with_reducible first | exact HK.out | apply Kept.alloc | apply Kept.drewN | apply Kept.drew | refine Kept.setCell ?_ (.inr bu.out) _) | exact HK.out)) hb)
               have n5_ := Aside0.mk (ah (by repeat (first | (with_reducible first | exact HB.out | apply a6 | apply a4 | apply a5 | refine a9 ?_ bJ.out) | exact HB.out)) hb)
               clear bN
               clear d4
               clear aC
               clear HK
               clear HB
               have bN := n0_
               have d4 := n1_
               have bD := n2_
               have aC := n3_
               have HK := n4_
               have HB := n5_
               clear n0_ n1_ n2_ n3_ n4_ n5_
               clear hb ho44
               refine hK.out _ _ ⟨(a7 aC.out 0).trans rfl, (a7 aC.out 1).trans rfl, (hf224.out _ HK.out)⟩ (fun hHeld => ?_)
               clear hK K
               refine bR (a' := ?_) ?_ ?_
               rotate_left
               ·show Act.put _ (some 42) _ = _
                simp only [Act.put, List.setIfInBounds_toArray, List.set_cons_zero, List.set_cons_succ, ar, av]
                rfl
               exact bR (by simp only [eQ, Act.put, List.setIfInBounds_toArray, List.set_cons_zero, List.set_cons_succ]) (hCont (v219, v222, v226) _ ⟨hHeld, (by (with_reducible repeat (first | apply Kd.R_alloc | apply Kd.R_drewN | apply Kd.R_drew)); exact Kd.R_mono d4.out (fun _ hk => ⟨hk.1.1, ⟨hk.2, hk.1.2⟩⟩)), (by (with_reducible repeat (first | apply Kd.R_alloc | apply Kd.R_drewN | apply Kd.R_drew)); exact Kd.R_mono bD.out (fun _ hk => ⟨hk.1.1.1, ⟨hk.2, hk.1.2⟩⟩)), (by (with_reducible repeat (first | apply Kd.R_alloc | apply Kd.R_drewN | apply Kd.R_drew)); exact Kd.R_mono bN.out (fun _ hk => ⟨hk.1.1, ⟨hk.1.2, hk.2⟩⟩)), (by (with_reducible repeat (first | refine ab ?_ _ | refine ac ?_ | refine aa ?_ _)); exact aC.out), (by repeat (first | (with_reducible first | exact HK.out | apply Kept.alloc | apply Kept.drewN | apply Kept.drew | refine Kept.setCell ?_ (.inr bu.out) _) | exact HK.out)), (by repeat (first | (with_reducible first | exact HB.out | apply a6 | apply a4 | apply a5 | refine a9 ?_ bJ.out) | exact HB.out))⟩)
              ·skip
               refine Kd.R_lit_step (Kd.int .i64) _ 3 ?hg (N := 42) ?hd (xs := ([rd (ax ai (l1.length : Int)) x7_1] : List Int)) (inner := [.int .i64 (rd (ax ai (l1.length : Int)) x7_1)]) (ok := fun _ => True) (okp := fun _ => True) ?hr ?hp (fun _ hk => hk) trivial (Below.refl _ _) (Nat.le_refl _) (by simp) ?_; (case hd => rfl); (case hg => rfl); (case hr => first | (go_simp; done) | (go_simp; rfl)); (case hp => exact (Reps.one (show Kd.M (Kd.int .i64) _ _ _ (rd (ax ai (l1.length : Int)) x7_1) [.int .i64 (rd (ax ai (l1.length : Int)) x7_1)] from rfl) (Reps.none _ _)))
               intro v226 w42 ho43 hb hg_ hnew_
               clear hg_ hnew_
               (first | rw [← Ny225.out] at ho43 | (simp only [Int.reduceToNat] at ho43; rw [← Ny225.out] at ho43))
               have n0_ := Aside0.mk (Kd.R_elder' (by (with_reducible repeat (first | apply Kd.R_alloc | apply Kd.R_drewN | apply Kd.R_drew)); exact bN.out) (Kd.R_base ho43) hb)
               have n1_ := Aside0.mk (Kd.R_elder' (by (with_reducible repeat (first | apply Kd.R_alloc | apply Kd.R_drewN | apply Kd.R_drew)); exact cC.out) (Kd.R_base ho43) hb)
               have n2_ := Aside0.mk (Kd.R_lower (Kd.R_new' (Kd.R_new' (Kd.R_newM (M := fun k_ => (P1_ k_ ∨ w.heap.size ≤ k_)) ho43 (by first | exact HK.out.1 | exact (show Kept w _ (fun k_ => P1_ k_) from by repeat (first | (with_reducible first | exact HK.out | apply Kept.alloc | apply Kept.drewN | apply Kept.drew | refine Kept.setCell ?_ (.inr bu.out) _) | exact HK.out)).1) (fun k_ h_ => .inr h_)) (Kd.R_lt (by (with_reducible repeat (first | apply Kd.R_alloc | apply Kd.R_drewN | apply Kd.R_drew)); exact bN.out))) (Kd.R_lt (by (with_reducible repeat (first | apply Kd.R_alloc | apply Kd.R_drewN | apply Kd.R_drew)); exact cC.out))) (ae (by repeat (first | (with_reducible first | exact HB.out | apply a6 | apply a4 | apply a5 | refine a9 ?_ bJ.out) | exact HB.out))))
               have n3_ := Aside0.mk (ag (g := bH) (o := .cells #[.slice (some ad217) ai.length aq, .slice aw af.length ao] 25 (0, 0)) (by (with_reducible repeat (first | refine ab ?_ _ | refine ac ?_ | refine aa ?_ _)); exact aC.out) hb)
               have n4_ := Aside0.mk (Kept.below (S := (fun k_ => P1_ k_)) (by repeat (first | (with_reducible first | exact HK.out | apply Kept.alloc | apply Kept.drewN | apply Kept.drew | refine Kept.setCell ?_ (.inr bu.out) _) | exact HK.out)) hb)
               have n5_ := Aside0.mk (ah (by repeat (first | (with_reducible first | exact HB.out | apply a6 | apply a4 | apply a5 | refine a9 ?_ bJ.out) | exact HB.out)) hb)
               clear bN
               clear cC
               clear aC
               clear HK
               clear HB
               have bN := n0_
               have cC := n1_
               have bD := n2_
               have aC := n3_
               have HK := n4_
               have HB := n5_
               clear n0_ n1_ n2_ n3_ n4_ n5_
               clear hb ho43
               refine hK.out _ _ ⟨(a7 aC.out 0).trans rfl, (a7 aC.out 1).trans rfl, (hf224.out _ HK.out)⟩ (fun hHeld => ?_)
               clear hK K
               refine bR (a' := ?_) ?_ ?_
               rotate_left
               ·show Act.put _ (some 42) _ = _
                simp only [Act.put, List.setIfInBounds_toArray, List.set_cons_zero, List.set_cons_succ, ar, av]
                rfl
               refine ft (i := 3) (N := some 37) #[true, true, true, true, true, true, true, true, true, false, false, false, false, false, false, false] rfl rfl (bP HT_.out (by kernel_rfl)) (by decide) (fun K hK => ?_)
               refine Kd.R_append_rows_step (Kd.int .i64) (w0 := w0) w0.heap.size (by rfl) (.tmp 35) (.tmp 36) 26 3 (.int .i64 0) 8 rfl Try.underlying26 iT rfl (by decide) (by omega) v219 y218 l1 _ _ _ (fun k_ => (P1_ k_ ∨ w.heap.size ≤ k_) ∧ some k_ ≠ (.slice Ao19 l1.length fB : Value).ownBlock ∧ some k_ ≠ (v226 : Value).ownBlock) (fun _ => False) rfl rfl ?aO ?aR (fun _ _ h => h) (fun _ h => h.elim) ?aF ?aB ?aS ?aL ?_
               (case aR => repeat (first | exact (Kd.R_reads' bN.out).2.2 | (with_reducible refine Kd.C_alloc ?_ _) | (with_reducible refine Kd.C_drewN ?_ _) | (with_reducible refine Kd.C_drew ?_)))
               (case aB => exact (by repeat (first | (with_reducible first | exact HB.out | apply a6 | apply a4 | apply a5 | refine a9 ?_ bJ.out) | exact HB.out)))
               (case aF => exact (fun k_ hk => ⟨(.inr (Nat.le_trans (by first | exact HK.out.1 | exact (show Kept w _ (fun k_ => P1_ k_) from by repeat (first | (with_reducible first | exact HK.out | apply Kept.alloc | apply Kept.drewN | apply Kept.drew | refine Kept.setCell ?_ (.inr bu.out) _) | exact HK.out)).1) hk)), Kd.fresh' (Kd.R_lt (by (with_reducible repeat (first | apply Kd.R_alloc | apply Kd.R_drewN | apply Kd.R_drew)); exact bN.out)) k_ hk, Kd.fresh' (Kd.R_lt (by (with_reducible repeat (first | apply Kd.R_alloc | apply Kd.R_drewN | apply Kd.R_drew)); exact bD.out)) k_ hk⟩))
               (case aO => exact (by (with_reducible repeat (first | apply Kd.R_alloc | apply Kd.R_drewN | apply Kd.R_drew)); exact Kd.R_mono cC.out (fun _ hk => ⟨hk.1.1.1, ⟨hk.1.2, hk.2⟩⟩)))
               (case aS => exact (ae (by repeat (first | (with_reducible first | exact HB.out | apply a6 | apply a4 | apply a5 | refine a9 ?_ bJ.out) | exact HB.out))))
               (case aL => have := LMc23.out; omega)
               intro v222 w44 ho hb hg hat
               rw [← Ny221.out] at ho
               have n0_ := Aside0.mk (Kd.R_after (ok := (fun k_ => (P1_ k_ ∨ w.heap.size ≤ k_) ∧ some k_ ≠ (v226 : Value).ownBlock)) (by (with_reducible repeat (first | apply Kd.R_alloc | apply Kd.R_drewN | apply Kd.R_drew)); exact Kd.R_mono bN.out (fun _ hk => ⟨⟨hk.1.1, hk.2⟩, hk.1.2⟩)) hg hat)
               have n1_ := Aside0.mk (cj (g := bH) (o := .cells #[.slice (some ad217) ai.length aq, .slice aw af.length ao] 25 (0, 0)) (by (with_reducible repeat (first | refine ab ?_ _ | refine ac ?_ | refine aa ?_ _)); exact aC.out) hg (Kd.R_ne cC.out aC.out (by decide)))
               have n2_ := Aside0.mk (Kd.R_after (ok := (fun k_ => (P1_ k_ ∨ w.heap.size ≤ k_) ∧ some k_ ≠ (.slice Ao19 l1.length fB : Value).ownBlock)) (by (with_reducible repeat (first | apply Kd.R_alloc | apply Kd.R_drewN | apply Kd.R_drew)); exact Kd.R_mono bD.out (fun _ hk => ⟨⟨hk.1.1.1, hk.1.2⟩, hk.2⟩)) hg hat)
               have n3_ := Aside0.mk (hb)
               have n4_ := Aside0.mk (Kept.of_grown (S := (fun k_ => P1_ k_)) hg (by repeat (first | (with_reducible first | exact HK.out | apply Kept.alloc | apply Kept.drewN | apply Kept.drew | refine Kept.setCell ?_ (.inr bu.out) _) | exact HK.out)) (fun k_ e_ => (cC.out.1 k_ e_).1.1.1))
               have n5_ := Aside0.mk (ho)
               clear bN
               clear aC
               clear bD
               clear HB
               clear HK
               clear cC
               have bN := n0_
               have aC := n1_
               have bD := n2_
               have HB := n3_
               have HK := n4_
               have d4 := n5_
               clear n0_ n1_ n2_ n3_ n4_ n5_
               clear ho hb hg hat
               refine hK.out _ _ ⟨(a7 aC.out 0).trans rfl, (a7 aC.out 1).trans rfl, (hf224.out _ HK.out)⟩ (fun hHeld => ?_)
               clear hK K
               refine bR (a' := ?_) ?_ ?_
               rotate_left
               ·show Act.put _ (some 37) _ = _
                simp only [Act.put, List.setIfInBounds_toArray, List.set_cons_zero, List.set_cons_succ, ar, av]
                rfl
               exact bR (by simp only [eQ, Act.put, List.setIfInBounds_toArray, List.set_cons_zero, List.set_cons_succ]) (hCont (v219, v222, v226) _ ⟨hHeld, (by (with_reducible repeat (first | apply Kd.R_alloc | apply Kd.R_drewN | apply Kd.R_drew)); exact Kd.R_mono d4.out (fun _ hk => ⟨hk.1, ⟨hk.2.2, hk.2.1⟩⟩)), (by (with_reducible repeat (first | apply Kd.R_alloc | apply Kd.R_drewN | apply Kd.R_drew)); exact Kd.R_mono bD.out (fun _ hk => ⟨hk.1.1, ⟨hk.2, hk.1.2⟩⟩)), (by (with_reducible repeat (first | apply Kd.R_alloc | apply Kd.R_drewN | apply Kd.R_drew)); exact Kd.R_mono bN.out (fun _ hk => ⟨hk.1.1, ⟨hk.2, hk.1.2⟩⟩)), (by (with_reducible repeat (first | refine ab ?_ _ | refine ac ?_ | refine aa ?_ _)); exact aC.out), (by repeat (first | (with_reducible first | exact HK.out | apply Kept.alloc | apply Kept.drewN | apply Kept.drew | refine Kept.setCell ?_ (.inr bu.out) _) | exact HK.out)), (by repeat (first | (with_reducible first | exact HB.out | apply a6 | apply a4 | apply a5 | refine a9 ?_ bJ.out) | exact HB.out))⟩)
             ·skip
              refine Kd.R_lit_step (Kd.int .i64) _ 3 ?hg (N := 42) ?hd (xs := ([rd (ax ai (l1.length : Int)) x7_1] : List Int)) (inner := [.int .i64 (rd (ax ai (l1.length : Int)) x7_1)]) (ok := fun _ => True) (okp := fun _ => True) ?hr ?hp (fun _ hk => hk) trivial (Below.refl _ _) (Nat.le_refl _) (by simp) ?_; (case hd => rfl); (case hg => rfl); (case hr => first | (go_simp; done) | (go_simp; rfl)); (case hp => exact (Reps.one (show Kd.M (Kd.int .i64) _ _ _ (rd (ax ai (l1.length : Int)) x7_1) [.int .i64 (rd (ax ai (l1.length : Int)) x7_1)] from rfl) (Reps.none _ _)))
              intro v226 w40 ho41 hb hg_ hnew_
              clear hg_ hnew_
              (first | rw [← Ny225.out] at ho41 | (simp only [Int.reduceToNat] at ho41; rw [← Ny225.out] at ho41))
              have n0_ := Aside0.mk (Kd.R_elder' (by (with_reducible repeat (first | apply Kd.R_alloc | apply Kd.R_drewN | apply Kd.R_drew)); exact bN.out) (Kd.R_base ho41) hb)
              have n1_ := Aside0.mk (Kd.R_lower (Kd.R_new' (Kd.R_newM (M := fun k_ => (P1_ k_ ∨ w.heap.size ≤ k_)) ho41 (by first | exact HK.out.1 | exact (show Kept w _ (fun k_ => P1_ k_) from by repeat (first | (with_reducible first | exact HK.out | apply Kept.alloc | apply Kept.drewN | apply Kept.drew | refine Kept.setCell ?_ (.inr bu.out) _) | exact HK.out)).1) (fun k_ h_ => .inr h_)) (Kd.R_lt (by (with_reducible repeat (first | apply Kd.R_alloc | apply Kd.R_drewN | apply Kd.R_drew)); exact bN.out))) (ae (by repeat (first | (with_reducible first | exact HB.out | apply a6 | apply a4 | apply a5 | refine a9 ?_ bJ.out) | exact HB.out))))
              have n2_ := Aside0.mk (ag (g := bH) (o := .cells #[.slice (some ad217) ai.length aq, .slice aw af.length ao] 25 (0, 0)) (by (with_reducible repeat (first | refine ab ?_ _ | refine ac ?_ | refine aa ?_ _)); exact aC.out) hb)
              have n3_ := Aside0.mk (Kept.below (S := (fun k_ => P1_ k_)) (by repeat (first | (with_reducible first | exact HK.out | apply Kept.alloc | apply Kept.drewN | apply Kept.drew | refine Kept.setCell ?_ (.inr bu.out) _) | exact HK.out)) hb)
              have n4_ := Aside0.mk (ah (by repeat (first | (with_reducible first | exact HB.out | apply a6 | apply a4 | apply a5 | refine a9 ?_ bJ.out) | exact HB.out)) hb)
              clear bN
              clear aC
              clear HK
              clear HB
              have bN := n0_
              have bD := n1_
              have aC := n2_
              have HK := n3_
              have HB := n4_
              clear n0_ n1_ n2_ n3_ n4_
              clear hb ho41
              refine hK.out _ _ ⟨(a7 aC.out 0).trans rfl, (a7 aC.out 1).trans rfl, (hf224.out _ HK.out)⟩ (fun hHeld => ?_)
              clear hK K
              refine bR (a' := ?_) ?_ ?_
              rotate_left
              ·show Act.put _ (some 42) _ = _
               simp only [Act.put, List.setIfInBounds_toArray, List.set_cons_zero, List.set_cons_succ, ar, av]
               rfl
              refine ft (i := 1) (N := some 35) #[true, true, true, false, true, true, true, true, true, false, false, false, false, false, false, false] rfl rfl (bP HT_.out (by kernel_rfl)) (by decide) (fun K hK => ?_)
              refine Kd.R_lit_step (Kd.int .i64) _ 3 ?hg (N := 35) ?hd (xs := ([] : List Int)) (inner := []) (ok := fun _ => True) (okp := fun _ => True) ?hr ?hp (fun _ hk => hk) trivial (Below.refl _ _) (Nat.le_refl _) (by simp) ?_; (case hd => rfl); (case hg => rfl); (case hr => first | (go_simp; done) | (go_simp; rfl)); (case hp => exact (Reps.none _ _))
              intro v219 w42 ho43 hb hg_ hnew_
              clear hg_ hnew_
              (first | rw [← Ny218.out] at ho43 | (simp only [Int.reduceToNat] at ho43; rw [← Ny218.out] at ho43))
              have n0_ := Aside0.mk (Kd.R_elder' (by (with_reducible repeat (first | apply Kd.R_alloc | apply Kd.R_drewN | apply Kd.R_drew)); exact bN.out) (Kd.R_base ho43) hb)
              have n1_ := Aside0.mk (Kd.R_elder' (by (with_reducible repeat (first | apply Kd.R_alloc | apply Kd.R_drewN | apply Kd.R_drew)); exact bD.out) (Kd.R_base ho43) hb)
              have n2_ := Aside0.mk (Kd.R_lower (Kd.R_new' (Kd.R_new' (Kd.R_newM (M := fun k_ => (P1_ k_ ∨ w.heap.size ≤ k_)) ho43 (by first | exact HK.out.1 | exact (show Kept w _ (fun k_ => P1_ k_) from by repeat (first | (with_reducible first | exact HK.out | apply Kept.alloc | apply Kept.drewN | apply Kept.drew | refine Kept.setCell ?_ (.inr bu.out) _) | exact HK.out)).1) (fun k_ h_ => .inr h_)) (Kd.R_lt (by (with_reducible repeat (first | apply Kd.R_alloc | apply Kd.R_drewN | apply Kd.R_drew)); exact bN.out))) (Kd.R_lt (by (with_reducible repeat (first | apply Kd.R_alloc | apply Kd.R_drewN | apply Kd.R_drew)); exact bD.out))) (ae (by repeat (first | (with_reducible first | exact HB.out | apply a6 | apply a4 | apply a5 | refine a9 ?_ bJ.out) | exact HB.out))))
              have n3_ := Aside0.mk (ag (g := bH) (o := .cells #[.slice (some ad217) ai.length aq, .slice aw af.length ao] 25 (0, 0)) (by (with_reducible repeat (first | refine ab ?_ _ | refine ac ?_ | refine aa ?_ _)); exact aC.out) hb)
              have n4_ := Aside0.mk (Kept.below (S := (fun k_ => P1_ k_)) (by repeat (first | (with_reducible first | exact HK.out | apply Kept.alloc | apply Kept.drewN | apply Kept.drew | refine Kept.setCell ?_ (.inr bu.out) _) | exact HK.out)) hb)
              have n5_ := Aside0.mk (ah (by repeat (first | (with_reducible first | exact HB.out | apply a6 | apply a4 | apply a5 | refine a9 ?_ bJ.out) | exact HB.out)) hb)
              clear bN
              clear bD
              clear aC
              clear HK
              clear HB
              have bN := n0_
              have bD := n1_
              have cC := n2_
              have aC := n3_
              have HK := n4_
              have HB := n5_
              clear n0_ n1_ n2_ n3_ n4_ n5_
              clear hb ho43
              refine hK.out _ _ ⟨(a7 aC.out 0).trans rfl, (a7 aC.out 1).trans rfl, (hf224.out _ HK.out)⟩ (fun hHeld => ?_)
              clear hK K
              refine bR (a' := ?_) ?_ ?_
              rotate_left
              ·show Act.put _ (some 35) _ = _
               simp only [Act.put, List.setIfInBounds_toArray, List.set_cons_zero, List.set_cons_succ, ar, av]
               rfl
              refine ft (i := 3) (N := some 37) #[true, true, true, true, true, true, true, true, true, false, false, false, false, false, false, false] rfl rfl (bP HT_.out (by kernel_rfl)) (by decide) (fun K hK => ?_)
              refine Kd.R_append_rows_step (Kd.int .i64) (w0 := w0) w0.heap.size (by rfl) (.tmp 35) (.tmp 36) 26 3 (.int .i64 0) 8 rfl Try.underlying26 iT rfl (by decide) (by omega) v219 y218 l1 _ _ _ (fun k_ => (P1_ k_ ∨ w.heap.size ≤ k_) ∧ some k_ ≠ (.slice Ao19 l1.length fB : Value).ownBlock ∧ some k_ ≠ (v226 : Value).ownBlock) (fun _ => False) rfl rfl ?aO ?aR (fun _ _ h => h) (fun _ h => h.elim) ?aF ?aB ?aS ?aL ?_
              (case aR => repeat (first | exact (Kd.R_reads' bN.out).2.2 | (with_reducible refine Kd.C_alloc ?_ _) | (with_reducible refine Kd.C_drewN ?_ _) | (with_reducible refine Kd.C_drew ?_)))
              (case aB => exact (by repeat (first | (with_reducible first | exact HB.out | apply a6 | apply a4 | apply a5 | refine a9 ?_ bJ.out) | exact HB.out)))
              (case aF => exact (fun k_ hk => ⟨(.inr (Nat.le_trans (by first | exact HK.out.1 | exact (show Kept w _ (fun k_ => P1_ k_) from by repeat (first | (with_reducible first | exact HK.out | apply Kept.alloc | apply Kept.drewN | apply Kept.drew | refine Kept.setCell ?_ (.inr bu.out) _) | exact HK.out)).1) hk)), Kd.fresh' (Kd.R_lt (by (with_reducible repeat (first | apply Kd.R_alloc | apply Kd.R_drewN | apply Kd.R_drew)); exact bN.out)) k_ hk, Kd.fresh' (Kd.R_lt (by (with_reducible repeat (first | apply Kd.R_alloc | apply Kd.R_drewN | apply Kd.R_drew)); exact bD.out)) k_ hk⟩))
              (case aO => exact (by (with_reducible repeat (first | apply Kd.R_alloc | apply Kd.R_drewN | apply Kd.R_drew)); exact Kd.R_mono cC.out (fun _ hk => ⟨hk.1.1.1, ⟨hk.1.2, hk.2⟩⟩)))
              (case aS => exact (ae (by repeat (first | (with_reducible first | exact HB.out | apply a6 | apply a4 | apply a5 | refine a9 ?_ bJ.out) | exact HB.out))))
              (case aL => have := LMc23.out; omega)
              intro v222 w44 ho hb hg hat
              rw [← Ny221.out] at ho
              have n0_ := Aside0.mk (Kd.R_after (ok := (fun k_ => (P1_ k_ ∨ w.heap.size ≤ k_) ∧ some k_ ≠ (v226 : Value).ownBlock)) (by (with_reducible repeat (first | apply Kd.R_alloc | apply Kd.R_drewN | apply Kd.R_drew)); exact bN.out) hg hat)
              have n1_ := Aside0.mk (cj (g := bH) (o := .cells #[.slice (some ad217) ai.length aq, .slice aw af.length ao] 25 (0, 0)) (by (with_reducible repeat (first | refine ab ?_ _ | refine ac ?_ | refine aa ?_ _)); exact aC.out) hg (Kd.R_ne cC.out aC.out (by decide)))
              have n2_ := Aside0.mk (Kd.R_after (ok := (fun k_ => (P1_ k_ ∨ w.heap.size ≤ k_) ∧ some k_ ≠ (.slice Ao19 l1.length fB : Value).ownBlock)) (by (with_reducible repeat (first | apply Kd.R_alloc | apply Kd.R_drewN | apply Kd.R_drew)); exact Kd.R_mono bD.out (fun _ hk => ⟨⟨hk.1.1.1, hk.1.2⟩, hk.2⟩)) hg hat)
              have n3_ := Aside0.mk (hb)
              have n4_ := Aside0.mk (Kept.of_grown (S := (fun k_ => P1_ k_)) hg (by repeat (first | (with_reducible first | exact HK.out | apply Kept.alloc | apply Kept.drewN | apply Kept.drew | refine Kept.setCell ?_ (.inr bu.out) _) | exact HK.out)) (fun k_ e_ => (cC.out.1 k_ e_).1.1.1))
              have n5_ := Aside0.mk (ho)
              clear bN
              clear aC
              clear bD
              clear HB
              clear HK
              clear cC
              have bN := n0_
              have aC := n1_
              have bD := n2_
              have HB := n3_
              have HK := n4_
              have d4 := n5_
              clear n0_ n1_ n2_ n3_ n4_ n5_
              clear ho hb hg hat
              refine hK.out _ _ ⟨(a7 aC.out 0).trans rfl, (a7 aC.out 1).trans rfl, (hf224.out _ HK.out)⟩ (fun hHeld => ?_)
              clear hK K
              refine bR (a' := ?_) ?_ ?_
              rotate_left
              ·show Act.put _ (some 37) _ = _
               simp only [Act.put, List.setIfInBounds_toArray, List.set_cons_zero, List.set_cons_succ, ar, av]
               rfl
              exact bR (by simp only [eQ, Act.put, List.setIfInBounds_toArray, List.set_cons_zero, List.set_cons_succ]) (hCont (v219, v222, v226) _ ⟨hHeld, (by (with_reducible repeat (first | apply Kd.R_alloc | apply Kd.R_drewN | apply Kd.R_drew)); exact Kd.R_mono d4.out (fun _ hk => ⟨hk.1, ⟨hk.2.2, hk.2.1⟩⟩)), (by (with_reducible repeat (first | apply Kd.R_alloc | apply Kd.R_drewN | apply Kd.R_drew)); exact Kd.R_mono bD.out (fun _ hk => ⟨hk.1.1, ⟨hk.2, hk.1.2⟩⟩)), (by (with_reducible repeat (first | apply Kd.R_alloc | apply Kd.R_drewN | apply Kd.R_drew)); exact Kd.R_mono bN.out (fun _ hk => ⟨hk.1.1, ⟨hk.2, hk.1.2⟩⟩)), (by (with_reducible repeat (first | refine ab ?_ _ | refine ac ?_ | refine aa ?_ _)); exact aC.out), (by repeat (first | (with_reducible first | exact HK.out | apply Kept.alloc | apply Kept.drewN | apply Kept.drew | refine Kept.setCell ?_ (.inr bu.out) _) | exact HK.out)), (by repeat (first | (with_reducible first | exact HB.out | apply a6 | apply a4 | apply a5 | refine a9 ?_ bJ.out) | exact HB.out))⟩)
            rintro ⟨v219, v222, v226⟩ w45 ⟨hS_, h0_, h1_, h2_, h3_, h4_, h5_⟩
            have n0_ : Aside0 (Kd.R (Kd.int .i64) 3 w45 w0.heap.size (fun k_ => (P1_ k_ ∨ w.heap.size ≤ k_) ∧ some k_ ≠ (v226 : Value).ownBlock ∧ some k_ ≠ (.slice Ao19 l1.length fB : Value).ownBlock) v222 y221) := ⟨h0_⟩
            have n1_ : Aside0 (Kd.R (Kd.int .i64) 3 w45 w0.heap.size (fun k_ => (P1_ k_ ∨ w.heap.size ≤ k_) ∧ some k_ ≠ (v222 : Value).ownBlock ∧ some k_ ≠ (.slice Ao19 l1.length fB : Value).ownBlock) v226 y225) := ⟨h1_⟩
            have n2_ : Aside0 (Kd.R (Kd.int .i64) 3 w45 w0.heap.size (fun k_ => (P1_ k_ ∨ w.heap.size ≤ k_) ∧ some k_ ≠ (v222 : Value).ownBlock ∧ some k_ ≠ (v226 : Value).ownBlock) (.slice Ao19 l1.length fB) l1) := ⟨h2_⟩
            have n3_ : Aside0 (w45.heap[bH]? = some (.cells #[.slice (some ad217) ai.length aq, .slice aw af.length ao] 25 (0, 0))) := ⟨h3_⟩
            have n4_ : Aside0 (Kept w w45 (fun k_ => P1_ k_)) := ⟨h4_⟩
            have n5_ : Aside0 (Below w0.heap.size w0 w45) := ⟨h5_⟩
            clear bN
            clear aC
            clear HK
            clear HB
            clear h0_ h1_ h2_ h3_ h4_ h5_
            have d4 := n0_
            have bD := n1_
            have bN := n2_
            have aC := n3_
            have HK := n4_
            have HB := n5_
            clear n0_ n1_ n2_ n3_ n4_ n5_
            have hHeld : w45.cell? ⟨bH, 0, none⟩ = some (.slice (some ad217) ai.length aq) ∧ w45.cell? ⟨bH, 1, none⟩ = some (.slice aw af.length ao) ∧ w45.cell? (ad224.add (x7_1).toNat) = some (.int .i64 (rd (ax ai (l1.length : Int)) x7_1)) := hS_
            obtain ⟨Ao47, co47, eo47⟩ := Kd.R_slice bD.out
            (first | subst eo47 | (injection eo47 with f1_ f2_ f3_; have f4_ := f1_.symm; have f5_ := f3_.symm; clear f1_ f2_ f3_; subst f4_; subst f5_))
            refine bR (a' := ?_) ?_ ?_
            rotate_left
            ·simp only [eQ, Act.put, List.setIfInBounds_toArray, List.set_cons_zero, List.set_cons_succ]
             rfl
            refine ft (i := 9) (N := some 43) #[true, true, true, true, true, true, true, true, true, true, false, false, false, false, false, false] rfl rfl (bP HT_.out (by kernel_rfl)) (by decide) (fun K hK => ?_)
            refine Kd.R_append_rows_step (Kd.int .i64) (w0 := w0) w0.heap.size (by rfl) (.tmp 37) (.tmp 42) 26 3 (.int .i64 0) 8 rfl Try.underlying26 iT rfl (by decide) (by omega) v222 y221 y225 _ _ _ (fun k_ => (P1_ k_ ∨ w.heap.size ≤ k_) ∧ some k_ ≠ (.slice Ao19 l1.length fB : Value).ownBlock ∧ some k_ ≠ (.slice Ao47 y225.length co47 : Value).ownBlock) (fun _ => False) rfl rfl ?aO ?aR (fun _ _ h => h) (fun _ h => h.elim) ?aF ?aB ?aS ?aL ?_
            (case aR => repeat (first | exact (Kd.R_reads' bD.out).2.2 | (with_reducible refine Kd.C_alloc ?_ _) | (with_reducible refine Kd.C_drewN ?_ _) | (with_reducible refine Kd.C_drew ?_)))
            (case aB => exact (by repeat (first | (with_reducible first | exact HB.out | apply a6 | apply a4 | apply a5 | refine a9 ?_ bJ.out) | exact HB.out)))
            (case aF => exact (fun k_ hk => ⟨(.inr (Nat.le_trans (by first | exact HK.out.1 | exact (show Kept w _ (fun k_ => P1_ k_) from by repeat (first | (with_reducible first | exact HK.out | apply Kept.alloc | apply Kept.drewN | apply Kept.drew | refine Kept.setCell ?_ (.inr bu.out) _) | exact HK.out)).1) hk)), Kd.fresh' (Kd.R_lt (by (with_reducible repeat (first | apply Kd.R_alloc | apply Kd.R_drewN | apply Kd.R_drew)); exact bN.out)) k_ hk, Kd.fresh' (Kd.R_lt (by (with_reducible repeat (first | apply Kd.R_alloc | apply Kd.R_drewN | apply Kd.R_drew)); exact bD.out)) k_ hk⟩))
            (case aO => exact (by (with_reducible repeat (first | apply Kd.R_alloc | apply Kd.R_drewN | apply Kd.R_drew)); exact Kd.R_mono d4.out (fun _ hk => ⟨hk.1, ⟨hk.2.2, hk.2.1⟩⟩)))
            (case aS => exact (ae (by repeat (first | (with_reducible first | exact HB.out | apply a6 | apply a4 | apply a5 | refine a9 ?_ bJ.out) | exact HB.out))))
            (case aL => have := LMc25.out; omega)
            intro v229 w46 ho hb hg hat
            rw [← Ny228.out] at ho
            have n0_ := Aside0.mk (Kd.R_after (ok := (fun k_ => (P1_ k_ ∨ w.heap.size ≤ k_) ∧ some k_ ≠ (.slice Ao47 y225.length co47 : Value).ownBlock)) (by (with_reducible repeat (first | apply Kd.R_alloc | apply Kd.R_drewN | apply Kd.R_drew)); exact Kd.R_mono bN.out (fun _ hk => ⟨⟨hk.1, hk.2.2⟩, hk.2.1⟩)) hg hat)
            have n1_ := Aside0.mk (cj (g := bH) (o := .cells #[.slice (some ad217) ai.length aq, .slice aw af.length ao] 25 (0, 0)) (by (with_reducible repeat (first | refine ab ?_ _ | refine ac ?_ | refine aa ?_ _)); exact aC.out) hg (Kd.R_ne d4.out aC.out (by decide)))
            have n2_ := Aside0.mk (Kd.R_after (ok := (fun k_ => (P1_ k_ ∨ w.heap.size ≤ k_) ∧ some k_ ≠ (.slice Ao19 l1.length fB : Value).ownBlock)) (by (with_reducible repeat (first | apply Kd.R_alloc | apply Kd.R_drewN | apply Kd.R_drew)); exact Kd.R_mono bD.out (fun _ hk => ⟨⟨hk.1, hk.2.2⟩, hk.2.1⟩)) hg hat)
            have n3_ := Aside0.mk (hb)
            have n4_ := Aside0.mk (Kept.of_grown (S := (fun k_ => P1_ k_)) hg (by repeat (first | (with_reducible first | exact HK.out | apply Kept.alloc | apply Kept.drewN | apply Kept.drew | refine Kept.setCell ?_ (.inr bu.out) _) | exact HK.out)) (fun k_ e_ => (d4.out.1 k_ e_).1))
            have n5_ := Aside0.mk (ho)
            clear bN
            clear aC
            clear bD
            clear HB
            clear HK
            clear d4
            have bN := n0_
            have aC := n1_
            have bD := n2_
            have HB := n3_
            have HK := n4_
            have ff := n5_
            clear n0_ n1_ n2_ n3_ n4_ n5_
            clear ho hb hg hat
            obtain ⟨Ao48, co48, eo48⟩ := Kd.R_slice ff.out
            (first | subst eo48 | (injection eo48 with f1_ f2_ f3_; have f4_ := f1_.symm; have f5_ := f3_.symm; clear f1_ f2_ f3_; subst f4_; subst f5_))
            refine hK.out _ _ ⟨(a7 aC.out 0).trans rfl, (a7 aC.out 1).trans rfl, (hf224.out _ HK.out)⟩ (fun hHeld => ?_)
            clear hK K
            refine bR (a' := ?_) ?_ ?_
            rotate_left
            ·show Act.put _ (some 43) _ = _
             simp only [Act.put, List.setIfInBounds_toArray, List.set_cons_zero, List.set_cons_succ, ar, av]
             rfl
            refine ft (i := 10) (N := some 44) #[true, true, true, true, true, true, true, true, true, true, true, false, false, false, false, false] rfl rfl (bP HT_.out (by kernel_rfl)) (by decide) (fun K hK => ?_)
            refine hU Try.func36 (by kernel_rfl) rfl #[.agg #[.slice (some ad217) ai.length aq, .slice aw af.length ao], .slice Ao48 y228.length co48] (by rfl) rfl rfl (by (try simp only [List.map_toArray, List.map_cons, List.map_nil]); first | done | rfl | (simp only [List.length_drop, List.length_take]; rfl)) ?_
            with_reducible refine (ih k1 (by have := HK1.out; omega) _ _ ai _ _ af (fun k_ => some k_ = (.slice Ao48 y228.length co48 : Value).ownBlock) (.slice Ao48 y228.length co48) y228 t231 false w0 _ ?side1 ?side2 ?side3 ?side4 ?side5 ?side6 A26.out).mono ?_
            (case side1 => repeat (first | (with_reducible first | exact HB.out | apply a6 | apply a4 | apply a5 | refine a9 ?_ bJ.out) | exact HB.out))
            (case side2 => exact Kd.C_kept_call bf.out (by repeat (first | (with_reducible first | exact HK.out | apply Kept.alloc | apply Kept.drewN | apply Kept.drew | refine Kept.setCell ?_ (.inr bu.out) _) | exact HK.out)) (fun k_ hs_ => (fun e_ => (ff.out.1 k_ e_.symm).1) hs_))
            (case side3 => exact bo.out)
            (case side4 => exact Kd.C_kept_call bd.out (by repeat (first | (with_reducible first | exact HK.out | apply Kept.alloc | apply Kept.drewN | apply Kept.drew | refine Kept.setCell ?_ (.inr bu.out) _) | exact HK.out)) (fun k_ hs_ => (fun e_ => (ff.out.1 k_ e_.symm).1) hs_))
            (case side5 => exact bn.out)
            (case side6 => exact Kd.R_tight rfl ff.out)
            rintro e w49 ⟨v232, rfl, ho0, hb, hkp⟩
            refine ⟨_, rfl, ?_⟩
            have n0_ := Aside0.mk (Kd.R_mono (ok' := fun k_ => (P1_ k_ ∨ w.heap.size ≤ k_) ∧ some k_ ≠ (.slice Ao47 y225.length co47 : Value).ownBlock ∧ some k_ ≠ (v232 : Value).ownBlock) (Kd.R_keptB (bN.out) hkp (fun k_ hk_ hs_ => (hk_.2) hs_)) (fun k_ hk_ => ⟨hk_.1.1.1, hk_.1.1.2, fun e_ => Or.elim (ho0.1 k_ e_.symm) (fun hs_ => hk_.2.1 hs_) (fun hn_ => Nat.not_le.2 hk_.2.2 hn_)⟩))
            have n1_ := Aside0.mk (blk_kept (by (with_reducible repeat (first | refine ab ?_ _ | refine ac ?_ | refine aa ?_ _)); exact aC.out) hkp (fun hs_ => (fun e_ => (Kd.R_ne ff.out aC.out (by decide)) e_) hs_))
            have n2_ := Aside0.mk (Kd.R_mono (ok' := fun k_ => (P1_ k_ ∨ w.heap.size ≤ k_) ∧ some k_ ≠ (.slice Ao19 l1.length fB : Value).ownBlock ∧ some k_ ≠ (v232 : Value).ownBlock) (Kd.R_keptB (bD.out) hkp (fun k_ hk_ hs_ => (hk_.2) hs_)) (fun k_ hk_ => ⟨hk_.1.1.1, hk_.1.1.2, fun e_ => Or.elim (ho0.1 k_ e_.symm) (fun hs_ => hk_.2.1 hs_) (fun hn_ => Nat.not_le.2 hk_.2.2 hn_)⟩))
            have n3_ := Aside0.mk (Kd.R_mono (ok' := fun k_ => (P1_ k_ ∨ w.heap.size ≤ k_) ∧ some k_ ≠ (.slice Ao19 l1.length fB : Value).ownBlock ∧ some k_ ≠ (.slice Ao47 y225.length co47 : Value).ownBlock) ho0 (fun k_ hk_ => ⟨Or.elim hk_ (fun hs_ => (ff.out.1 k_ (hs_).symm).1) (fun hn_ => (.inr (Nat.le_trans (by first | exact HK.out.1 | exact (show Kept w _ (fun k_ => P1_ k_) from by repeat (first | (with_reducible first | exact HK.out | apply Kept.alloc | apply Kept.drewN | apply Kept.drew | refine Kept.setCell ?_ (.inr bu.out) _) | exact HK.out)).1) hn_))), Or.elim hk_ (fun hs_ => fun e_ => (((bN.out).1 k_ e_.symm).2) hs_) (fun hn_ => (Kd.fresh' (Kd.R_lt (by (with_reducible repeat (first | apply Kd.R_alloc | apply Kd.R_drewN | apply Kd.R_drew)); exact bN.out)) k_ hn_)), Or.elim hk_ (fun hs_ => fun e_ => (((bD.out).1 k_ e_.symm).2) hs_) (fun hn_ => (Kd.fresh' (Kd.R_lt (by (with_reducible repeat (first | apply Kd.R_alloc | apply Kd.R_drewN | apply Kd.R_drew)); exact bD.out)) k_ hn_))⟩))
            have n4_ := Aside0.mk (Kept.then_ (S := (fun k_ => P1_ k_)) (by repeat (first | (with_reducible first | exact HK.out | apply Kept.alloc | apply Kept.drewN | apply Kept.drew | refine Kept.setCell ?_ (.inr bu.out) _) | exact HK.out)) hkp (fun k_ hs_ => (fun e_ => (ff.out.1 k_ e_.symm).1) hs_))
            have n5_ := Aside0.mk (hb)
            clear bN
            clear aC
            clear bD
            clear HK
            clear HB
            clear ff
            have bN := n0_
            have aC := n1_
            have bD := n2_
            have HO233 := n3_
            have HK := n4_
            have HB := n5_
            clear n0_ n1_ n2_ n3_ n4_ n5_
            (try clear hb)
            (try clear hkp)
            (try clear ho0)
            refine hK.out _ _ ⟨(a7 aC.out 0).trans rfl, (a7 aC.out 1).trans rfl, (hf224.out _ HK.out)⟩ (fun hHeld => ?_)
            clear hK K
            refine bR (a' := ?_) ?_ ?_
            rotate_left
            ·show Act.put _ (some 44) _ = _
             simp only [Act.put, List.setIfInBounds_toArray, List.set_cons_zero, List.set_cons_succ, ar, av]
             rfl
            refine aK (i := 11) (N := some 33) (v := ?_) (a' := ?_) #[true, true, true, true, true, true, true, true, true, true, true, true, false, false, false, false] rfl rfl (aA HT_.out (by kernel_rfl)) (fun _ _ _ h => h) (Or.inl ⟨by rfl, ?_⟩) ?_ ?_
            rotate_left
            ·intro w'
             go_simp
             with_reducible rfl
            rotate_left
            ·simp only [Act.put, List.setIfInBounds_toArray, List.set_cons_zero, List.set_cons_succ, ar, av]
             rfl
            refine aK (i := 12) (N := some 45) (v := ?_) (a' := ?_) #[true, true, true, true, true, true, true, true, true, true, true, true, true, false, false, false] rfl rfl (aA HT_.out (by kernel_rfl)) (fun _ _ _ h => h) (Or.inl ⟨by rfl, ?_⟩) ?_ ?_
            rotate_left
            ·intro w'
             go_simp
             with_reducible rfl
            rotate_left
            ·simp only [Act.put, List.setIfInBounds_toArray, List.set_cons_zero, List.set_cons_succ, ar, av]
             rfl
            refine aK (i := 13) (N := some 46) (v := ?_) (a' := ?_) #[true, true, true, true, true, true, true, true, true, true, true, true, true, true, false, false] rfl rfl (aA HT_.out (by kernel_rfl)) (fun _ _ _ h => h) (Or.inl ⟨by rfl, ?_⟩) ?_ ?_
            rotate_left
            ·intro w'
             go_simp
             with_reducible rfl
            rotate_left
            ·simp only [Act.put, List.setIfInBounds_toArray, List.set_cons_zero, List.set_cons_succ, ar, av]
             rfl
            refine aK (i := 14) (N := some 8) (v := ?_) (a' := ?_) #[true, true, true, true, true, true, true, true, true, true, true, true, true, true, true, false] rfl rfl (aA HT_.out (by kernel_rfl)) (fun _ _ _ h => h) (Or.inl ⟨by rfl, ?_⟩) ?_ ?_
            rotate_left
            ·intro w'
             go_simp
             with_reducible rfl
            rotate_left
            ·simp only [Act.put, List.setIfInBounds_toArray, List.set_cons_zero, List.set_cons_succ, ar, av]
             rfl
            refine aK (i := 15) (N := some 9) (v := ?_) (a' := ?_) #[true, true, true, true, true, true, true, true, true, true, true, true, true, true, true, true] rfl rfl (aA HT_.out (by kernel_rfl)) (fun _ _ _ h => h) (Or.inl ⟨by rfl, ?_⟩) ?_ ?_
            rotate_left
            ·intro w'
             go_simp
             with_reducible rfl
            rotate_left
            ·simp only [Act.put, List.setIfInBounds_toArray, List.set_cons_zero, List.set_cons_succ, ar, av]
             rfl
            refine gZ (d8 HT_.out (by kernel_rfl)) ?_
            try go_wp2
            go_roundg k1
            case measure => have := HK1.out; omega
            case rel => exact ⟨(wrap64 (x7_1 + 1)), (by first | rfl | (simp; done) | (simp [*]; done)), H', ⟨by have := HK1.out; omega⟩, ⟨by (with_reducible repeat (first | apply Kd.R_alloc | apply Kd.R_drewN | apply Kd.R_drew)); exact Kd.R_mono bN.out (fun _ hk => hk.1)⟩, ⟨by (with_reducible repeat (first | refine ab ?_ _ | refine ac ?_ | refine aa ?_ _)); exact aC.out⟩, ⟨by repeat (first | (with_reducible first | exact HK.out | apply Kept.alloc | apply Kept.drewN | apply Kept.drew | refine Kept.setCell ?_ (.inr bu.out) _) | exact HK.out)⟩, ⟨by repeat (first | (with_reducible first | exact HB.out | apply a6 | apply a4 | apply a5 | refine a9 ?_ bJ.out) | exact HB.out)⟩⟩
          ·rw [if_neg c25] at H
           exact absurd H (by simp)
         ·rw [if_neg c24] at H
          exact absurd H (by simp)
        ·rw [if_neg c23] at H
         exact absurd H (by simp)
       ·rw [if_neg c22] at H
        have c22b0 : decide (x7_1 < ((ax ai (l1.length : Int)).length : Int)) = false := decide_eq_false c22
        clear c22
        simp only [Option.some.injEq, Prod.mk.injEq] at H
        obtain ⟨rfl, rfl⟩ := H
        go_wp2
        go_ret2
        exact ⟨_, by first | rfl | (simp [al, ak] <;> rfl) | (simp [*, al, ak] <;> rfl), by first | exact Kd.R_nil _ _ _ _ _ | exact Kd.N_nil _ _ _ _ _ | exact Kd.V_nil _ _ _ _ _ | exact Kd.Q_nil _ _ _ _ _ | exact Kd.S_nil _ _ _ _ _, by repeat (first | (with_reducible first | exact HB.out | apply a6 | apply a4 | apply a5 | refine a9 ?_ bJ.out) | exact HB.out), by repeat (first | (with_reducible first | exact HK.out | apply Kept.alloc | apply Kept.drewN | apply Kept.drew | refine Kept.setCell ?_ (.inr bu.out) _) | exact HK.out)⟩
    ·rw [if_neg c16] at H
     exact absurd H (by simp)
   ·rw [if_neg c15] at H
    exact absurd H (by simp)
end Go.Proofs.Ytcbpkdemcdikaaa.X
namespace Go.Proofs.Ytcbpkdemcdikaaa.X
open Go.RowKit Go.Proofs.YtcbpkdemcdikaaaW.PrintWords Go.Proofs.YtcbpkdemcdikaaaW.PrintLast Go.Proofs.YtcbpkdemcdikaaaW.PrintMore
attribute [local go_sem] aT aM aZ bc aE aG aU aN   
set_option linter.unusedVariables false
set_option linter.unusedSimpArgs false
def fastiref15_Solve.f (k : Nat) (ai : List (List Int)) (af : List (S49)) : Option (List Int × Bool × Int) := (fastiref15_Check.f k ai af).bind fun t236 => (if t236 = 0 then ((fastiref15_solve.f k ai af ([] : List Int)).bind fun bt237 => (some (bt237.1, bt237.2, 0))) else (some (([] : List Int), false, t236)))
set_option maxHeartbeats 8000000 in
set_option maxRecDepth 100000 in
theorem fastiref15_Solve.calls (k : Nat) (au : Option Addr) (aq : Nat) (ai : List (List Int)) (aw : Option Addr) (ao : Nat) (af : List (S49)) (r1 : List Int) (r2 : Bool) (r3 : Int) (w : World) (bG : Kd.C (Kd.slice 3 (Kd.int .i64)) w au ai.length ai) (bO : ai.length ≤ aq) (bB : Kd.C k49 w aw af.length af) (bF : af.length ≤ ao) (h : fastiref15_Solve.f k ai af = some (r1, r2, r3)) :
  Calls Try.prog 16 #[.agg #[.slice au ai.length aq, .slice aw af.length ao]] w fun e w' => ∃ v0_ : Value, e = .returned (.tuple #[v0_, .bool r2, .int .i64 r3]) ∧ Kd.R (Kd.int .i64) 3 w' w.heap.size (fun _ => True) v0_ r1 ∧ Below w.heap.size w w' := by
 have hu25 := Try.underlying25
 have bf := Aside0.mk bG
 have bo := Aside0.mk bO
 clear bG bO
 have bd := Aside0.mk bB
 have bn := Aside0.mk bF
 clear bB bF
 have HB := Aside0.mk (Below.refl w.heap.size w)
 have H : ((fastiref15_Check.f k ai af).bind fun t236 => (if t236 = 0 then ((fastiref15_solve.f k ai af ([] : List Int)).bind fun bt237 => (some (bt237.1, bt237.2, 0))) else (some (([] : List Int), false, t236)))) = some (r1, r2, r3) := h
 clear h
 replace H := Option.bind_eq_some_iff.mp H
 obtain ⟨t236, A20, H⟩ := H
 replace H : (if t236 = 0 then ((fastiref15_solve.f k ai af ([] : List Int)).bind fun bt237 => (some (bt237.1, bt237.2, 0))) else (some (([] : List Int), false, t236))) = some (r1, r2, r3) := H
 have A2 := Aside0.mk A20
 clear A20
 by_cases c3 : t236 = 0
 ·rw [if_pos c3] at H
  have iE : (t236 == 0) = true := beq_iff_eq.mpr c3
  have c3b1 : (t236 != 0) = false := bne_eq_false_iff_eq.mpr c3
  clear c3
  replace H := Option.bind_eq_some_iff.mp H
  obtain ⟨⟨t237, t240⟩, A40, H⟩ := H
  replace H : (some (t237, t240, 0)) = some (r1, r2, r3) := H
  have A4 := Aside0.mk A40
  clear A40
  simp only [Option.some.injEq, Prod.mk.injEq] at H
  obtain ⟨rfl, rfl, rfl⟩ := H
  go_enter Try.func16, Try.ntmps16
  go_wp2_with (first | ((with_reducible refine az (N := 1) rfl ?_); refine ap ?hg (N := 1) ?hd (cs := #[.slice au ai.length aq, .slice aw af.length ao]) (t := 25) ?hr ?_; (case hd => rfl); (case hg => rfl); (case hr => first | (go_simp; done) | (go_simp; rfl)); intro iu hg w5 hbox hb; have n0_ := Aside0.mk (ah (by repeat (first | (with_reducible first | exact HB.out | apply a6 | apply a4 | apply a5) | exact HB.out)) hb); have n1_ := Aside0.mk (hbox); have n2_ := Aside0.mk ((by rw [hg]; exact (ae (by repeat (first | (with_reducible first | exact HB.out | apply a6 | apply a4 | apply a5) | exact HB.out))) : w.heap.size ≤ iu)); have n3_ := Aside0.mk ((by rw [hg]; exact (ae (by repeat (first | (with_reducible first | exact HB.out | apply a6 | apply a4 | apply a5) | exact HB.out))) : w.heap.size ≤ iu)); clear HB; have HB := n0_; have dV := n1_; have GW235 := n2_; have GE235 := n3_; clear n0_ n1_ n2_ n3_; clear hb hbox hg; have dG : w5.cell? ⟨iu, 0, none⟩ = some (.slice au ai.length aq) := (a7 dV.out 0).trans rfl; have dH : w5.cell? ⟨iu, 1, none⟩ = some (.slice aw af.length ao) := (a7 dV.out 1).trans rfl; have dI := a8 dV.out 0; have dJ := a8 dV.out 1) | ((with_reducible refine am (f := 18) rfl ?_); refine aY (some 9) rfl rfl Try.func18 (by kernel_rfl) rfl #[.agg #[.slice au ai.length aq, .slice aw af.length ao]] rfl (by (try simp only [List.map_toArray, List.map_cons, List.map_nil]); first | done | rfl | (simp only [List.length_drop, List.length_take]; rfl)) ?_; (with_reducible refine (fastiref15_Check.calls k _ _ ai _ _ af t236 _ ?side1 ?side2 ?side3 ?side4 A2.out).mono ?_); (case side1 => repeat (first | exact (Kd.C_below bf.out HB.out) | (with_reducible refine Kd.C_alloc ?_ _) | (with_reducible refine Kd.C_drewN ?_ _) | (with_reducible refine Kd.C_drew ?_))); (case side2 => exact bo.out); (case side3 => repeat (first | exact (Kd.C_below bd.out HB.out) | (with_reducible refine Kd.C_alloc ?_ _) | (with_reducible refine Kd.C_drewN ?_ _) | (with_reducible refine Kd.C_drew ?_))); (case side4 => exact bn.out); rintro e w7 ⟨rfl, hb⟩; refine ⟨_, rfl, ?_⟩; have n0_ := Aside0.mk (ag (g := iu) (o := .cells #[.slice au ai.length aq, .slice aw af.length ao] 25 (0, 0)) (by (with_reducible repeat (first | refine ab ?_ _ | refine ac ?_ | refine aa ?_ _)); exact dV.out) hb); have n1_ := Aside0.mk (ah (by repeat (first | (with_reducible first | exact HB.out | apply a6 | apply a4 | apply a5 | refine a9 ?_ GE235.out) | exact HB.out)) hb); clear dV; clear HB; have dV := n0_; have HB := n1_; clear n0_ n1_; (try clear hb); (try clear hb2); (try clear hk); (try clear hi); have dX : w7.cell? ⟨iu, 0, none⟩ = some (.slice au ai.length aq) := (a7 dV.out 0).trans rfl; have dY : w7.cell? ⟨iu, 1, none⟩ = some (.slice aw af.length ao) := (a7 dV.out 1).trans rfl; have dZ := a8 dV.out 0; have e6 := a8 dV.out 1) | ((with_reducible refine am (f := 36) rfl ?_); refine aY (some 15) rfl rfl Try.func36 (by kernel_rfl) rfl #[.agg #[.slice au ai.length aq, .slice aw af.length ao], .slice none 0 0] rfl (by (try simp only [List.map_toArray, List.map_cons, List.map_nil]); first | done | rfl | (simp only [List.length_drop, List.length_take]; rfl)) ?_; (refine (fastiref15_solve.calls k _ _ ai _ _ af (fun k_ => some k_ = (.slice none 0 0 : Value).ownBlock) (.slice none 0 0) ([] : List Int) t237 t240 w _ ?side1 ?side2 ?side3 ?side4 ?side5 ?side6 A4.out).mono ?_); (case side1 => repeat (first | (with_reducible first | exact HB.out | apply a6 | apply a4 | apply a5 | refine a9 ?_ GE235.out) | exact HB.out)); (case side2 => exact Kd.C_kept_came (Kd.heap_slice 3 (Kd.heap_int .i64)) bf.out (by repeat (first | (with_reducible first | exact HB.out | apply a6 | apply a4 | apply a5 | refine a9 ?_ GE235.out) | exact HB.out)) (fun k_ hs_ => (fun e_ => by simp [Value.ownBlock] at e_) hs_)); (case side3 => exact bo.out); (case side4 => exact Kd.C_kept_came k49_heap bd.out (by repeat (first | (with_reducible first | exact HB.out | apply a6 | apply a4 | apply a5 | refine a9 ?_ GE235.out) | exact HB.out)) (fun k_ hs_ => (fun e_ => by simp [Value.ownBlock] at e_) hs_)); (case side5 => exact bn.out); (case side6 => exact Kd.R_nil _ _ _ _ _); rintro e w9 ⟨v238, rfl, ho0, hb, hkp⟩; refine ⟨_, rfl, ?_⟩; have n0_ := Aside0.mk (blk_kept (by (with_reducible repeat (first | refine ab ?_ _ | refine ac ?_ | refine aa ?_ _)); exact dV.out) hkp (fun hs_ => (fun e_ => by simp [Value.ownBlock] at e_) hs_)); have n1_ := Aside0.mk (Kd.R_mono (ok' := fun k_ => True) ho0 (fun k_ hk_ => trivial)); have n2_ := Aside0.mk (hb); clear dV; clear HB; have dV := n0_; have HO239 := n1_; have HB := n2_; clear n0_ n1_ n2_; (try clear hb); (try clear hkp); (try clear ho0)))
  go_ret3
  exact ⟨_, by first | rfl | (simp [al, ak] <;> rfl) | (simp [*, al, ak] <;> rfl), by (with_reducible repeat (first | apply Kd.R_alloc | apply Kd.R_drewN | apply Kd.R_drew)); exact HO239.out, by repeat (first | (with_reducible first | exact HB.out | apply a6 | apply a4 | apply a5 | refine a9 ?_ GE235.out) | exact HB.out)⟩
 ·rw [if_neg c3] at H
  have iE : (t236 == 0) = false := beq_eq_false_iff_ne.mpr c3
  have c3b1 : (t236 != 0) = true := bne_iff_ne.mpr c3
  simp only [Option.some.injEq, Prod.mk.injEq] at H
  obtain ⟨rfl, rfl, rfl⟩ := H
  go_enter Try.func16, Try.ntmps16
  go_wp2_with (first | ((with_reducible refine az (N := 1) rfl ?_); refine ap ?hg (N := 1) ?hd (cs := #[.slice au ai.length aq, .slice aw af.length ao]) (t := 25) ?hr ?_; (case hd => rfl); (case hg => rfl); (case hr => first | (go_simp; done) | (go_simp; rfl)); intro iu hg w10 hbox hb; have n0_ := Aside0.mk (ah (by repeat (first | (with_reducible first | exact HB.out | apply a6 | apply a4 | apply a5) | exact HB.out)) hb); have n1_ := Aside0.mk (hbox); have n2_ := Aside0.mk ((by rw [hg]; exact (ae (by repeat (first | (with_reducible first | exact HB.out | apply a6 | apply a4 | apply a5) | exact HB.out))) : w.heap.size ≤ iu)); have n3_ := Aside0.mk ((by rw [hg]; exact (ae (by repeat (first | (with_reducible first | exact HB.out | apply a6 | apply a4 | apply a5) | exact HB.out))) : w.heap.size ≤ iu)); clear HB; have HB := n0_; have dV := n1_; have GW235 := n2_; have GE235 := n3_; clear n0_ n1_ n2_ n3_; clear hb hbox hg; have bV : w10.cell? ⟨iu, 0, none⟩ = some (.slice au ai.length aq) := (a7 dV.out 0).trans rfl; have bW : w10.cell? ⟨iu, 1, none⟩ = some (.slice aw af.length ao) := (a7 dV.out 1).trans rfl; have bX := a8 dV.out 0; have bY := a8 dV.out 1) | ((with_reducible refine am (f := 18) rfl ?_); refine aY (some 9) rfl rfl Try.func18 (by kernel_rfl) rfl #[.agg #[.slice au ai.length aq, .slice aw af.length ao]] rfl (by (try simp only [List.map_toArray, List.map_cons, List.map_nil]); first | done | rfl | (simp only [List.length_drop, List.length_take]; rfl)) ?_; (with_reducible refine (fastiref15_Check.calls k _ _ ai _ _ af t236 _ ?side1 ?side2 ?side3 ?side4 A2.out).mono ?_); (case side1 => repeat (first | exact (Kd.C_below bf.out HB.out) | (with_reducible refine Kd.C_alloc ?_ _) | (with_reducible refine Kd.C_drewN ?_ _) | (with_reducible refine Kd.C_drew ?_))); (case side2 => exact bo.out); (case side3 => repeat (first | exact (Kd.C_below bd.out HB.out) | (with_reducible refine Kd.C_alloc ?_ _) | (with_reducible refine Kd.C_drewN ?_ _) | (with_reducible refine Kd.C_drew ?_))); (case side4 => exact bn.out); rintro e w12 ⟨rfl, hb⟩; refine ⟨_, rfl, ?_⟩; have n0_ := Aside0.mk (ag (g := iu) (o := .cells #[.slice au ai.length aq, .slice aw af.length ao] 25 (0, 0)) (by (with_reducible repeat (first | refine ab ?_ _ | refine ac ?_ | refine aa ?_ _)); exact dV.out) hb); have n1_ := Aside0.mk (ah (by repeat (first | (with_reducible first | exact HB.out | apply a6 | apply a4 | apply a5 | refine a9 ?_ GE235.out) | exact HB.out)) hb); clear dV; clear HB; have dV := n0_; have HB := n1_; clear n0_ n1_; (try clear hb); (try clear hb2); (try clear hk); (try clear hi)))
  go_ret3
  exact ⟨_, by first | rfl | (simp [al, ak] <;> rfl) | (simp [*, al, ak] <;> rfl), by first | exact Kd.R_nil _ _ _ _ _ | exact Kd.N_nil _ _ _ _ _ | exact Kd.V_nil _ _ _ _ _ | exact Kd.Q_nil _ _ _ _ _ | exact Kd.S_nil _ _ _ _ _, by repeat (first | (with_reducible first | exact HB.out | apply a6 | apply a4 | apply a5 | refine a9 ?_ GE235.out) | exact HB.out)⟩
end Go.Proofs.Ytcbpkdemcdikaaa.X
namespace Go.Proofs.Ytcbpkdemcdikaaa.QB
open Go.RowKit Go.Proofs.Ytcbpkdemcdikaaa.X Go.Proofs.Ytcbpkdemcdikaaa.X.SF Go.Proofs.Ytcbpkdemcdikaaa.X.DF Go.Proofs.Ytcbpkdemcdikaaa.K Go.Proofs.YtcbpkdemcdikaaaW.PrintWords
set_option linter.unusedVariables false
set_option linter.unusedSimpArgs false
abbrev M := List (List Int)
theorem ce {β : Type} (g : Nat → Nat → Option β) (P : Nat → Bool) (n : Nat) (y z : β) (hy : ∀ i, i < n → P i = true → ∀ r, Ev (fun k => g k (i + 1)) r → Ev (fun k => g k i) r)
    (hz : ∀ i, i < n → P i = false → Ev (fun k => g k i) z) (he : (∀ i, i < n → P i = true) → Ev (fun k => g k n) y) : Ev (fun k => g k 0) (if (List.range n).all P then y else z) := by
  have H : ∀ m i, i + m = n → (∀ j, j < i → P j = true) → Ev (fun k => g k i) (if (List.range n).all P then y else z) := by
    intro m
    induction m with
    | zero =>
      intro i hi hP
      obtain rfl : i = n := by omega
      rw [if_pos (List.all_eq_true.2 fun j hj => hP j (List.mem_range.1 hj))]
      exact he hP
    | succ m ih =>
      intro i hi hP
      cases h : P i
      · rw [if_neg]
        · exact hz i (by omega) h
        · intro ha
          rw [List.all_eq_true.1 ha i (List.mem_range.2 (by omega))] at h
          cases h
      · refine hy i (by omega) h _ (ih (i + 1) (by omega) fun j hj => ?_)
        rcases Nat.lt_or_ge j i with hj' | hj'
        · exact hP j hj'
        · obtain rfl : j = i := by omega
          exact h
  exact H n 0 (by omega) fun j hj => by omega
theorem L1n (l : M) (i : Nat) : ax l (i : Int) = l.getD i [] := by simp [ax]
theorem T49n (l : List S49) (i : Nat) : aj l (i : Int) = l.getD i z49 := by simp [aj]
theorem db {α : Type} (l : List α) (d : α) (p : α → Bool) : (List.range l.length).all (fun i => p (l.getD i d)) = l.all p := by
  rw [Bool.eq_iff_iff, List.all_eq_true, List.all_eq_true]
  constructor
  · intro h x hx
    obtain ⟨i, hi, rfl⟩ := List.mem_iff_getElem.1 hx
    have := h i (List.mem_range.2 hi)
    rwa [bL hi] at this
  · intro h i hi
    rw [bL (List.mem_range.1 hi)]
    exact h _ (List.getElem_mem _)
theorem ite_tf (b : Bool) : (if b = true then true else false) = b := by cases b <;> rfl
theorem short_l2 (x4 : Int) (ds : M) (rs : List S49) (a b : Int) (v : List Int) (t : M) (ht : t.length ≤ 256) (r : Bool) (h : (∀ row ∈ t, row.length ≤ 12) → Ev (fun k => fastiref15_short.l1 k (wrap64 (x4 + 1)) ds rs) r) :
    Ev (fun k => fastiref15_short.l2 k x4 0 ds rs a b v t) (if t.all (fun row => decide (row.length ≤ 12)) then r else false) := by
  have := ce (fun k i => fastiref15_short.l2 k x4 (i : Int) ds rs a b v t) (fun i => decide ((t.getD i []).length ≤ 12)) t.length r false ?_ ?_ ?_
  · rw [db t [] (fun row => decide (row.length ≤ 12))] at this
    exact this
  · intro i hi hP r' h'
    have hw := gV i (by omega)
    have hP := of_decide_eq_true hP
    refine Ev.step (f := fun k => fastiref15_short.l2 k x4 (wrap64 ((i : Int) + 1)) ds rs a b v t) (fun k => ?_) (by rw [hw]; exact h')
    simp only [fastiref15_short.l2]
    rw [if_pos (by omega), if_pos (by omega), L1n, if_neg (by omega)]
  · intro i hi hP
    have hP := of_decide_eq_false hP
    refine Ev.eq fun k => ?_
    simp only [fastiref15_short.l2]
    rw [if_pos (by omega), if_pos (by omega), L1n, if_pos (by omega)]
  · intro hP
    refine Ev.step (f := fun k => fastiref15_short.l1 k (wrap64 (x4 + 1)) ds rs) (fun k => ?_) (h fun row hr => ?_)
    · simp only [fastiref15_short.l2]
      rw [if_neg (by omega)]
    · obtain ⟨i, hi, rfl⟩ := List.mem_iff_getElem.1 hr
      have := of_decide_eq_true (hP i hi)
      rwa [bL hi] at this
theorem short_l1 (ds : M) (rs : List S49) (hr : rs.length ≤ 64) : Ev (fun k => fastiref15_short.l1 k 0 ds rs) (rs.all fun r => !e7 r) := by
  have := ce (fun k i => fastiref15_short.l1 k (i : Int) ds rs) (fun i => !e7 (rs.getD i z49)) rs.length true false ?_ ?_ ?_
  · rw [db rs z49 (fun r => !e7 r)] at this
    rw [ite_tf] at this
    exact this
  · intro i hi hP r' h'
    have hw := gV i (by omega)
    simp only [e7, Bool.not_eq_true', Bool.or_eq_false_iff, decide_eq_false_iff_not] at hP
    obtain ⟨⟨h1, h2⟩, h3⟩ := hP
    have e3 : (rs.getD i z49).f3.all (fun row => decide (row.length ≤ 12)) = true := by
      rw [List.all_eq_true]
      intro row hrow
      have := List.any_eq_false.1 h3 row hrow
      simp at this ⊢
      omega
    refine Ev.step (f := fun k => fastiref15_short.j3 k (i : Int) false ds rs (rs.getD i z49).f0 (rs.getD i z49).f1 (rs.getD i z49).f2 (rs.getD i z49).f3) (fun k => ?_) ?_
    · simp only [fastiref15_short.l1]
      rw [if_pos (by omega), if_pos (by omega), T49n, if_neg (by omega), decide_eq_false (by omega)]
    · refine Ev.step (f := fun k => fastiref15_short.l2 k (i : Int) 0 ds rs (rs.getD i z49).f0 (rs.getD i z49).f1 (rs.getD i z49).f2 (rs.getD i z49).f3) (fun k => rfl) ?_
      have := short_l2 (i : Int) ds rs (rs.getD i z49).f0 (rs.getD i z49).f1 (rs.getD i z49).f2 (rs.getD i z49).f3 (by omega) r' (fun _ => by rw [hw]; exact h')
      rw [if_pos e3] at this
      exact this
  · intro i hi hP
    have hw := gV i (by omega)
    simp only [Bool.not_eq_false'] at hP
    by_cases h1 : 12 < (rs.getD i z49).f2.length
    · refine Ev.step (f := fun k => fastiref15_short.j3 k (i : Int) true ds rs (rs.getD i z49).f0 (rs.getD i z49).f1 (rs.getD i z49).f2 (rs.getD i z49).f3) (fun k => ?_) (Ev.eq fun k => rfl)
      simp only [fastiref15_short.l1]
      rw [if_pos (by omega), if_pos (by omega), T49n, if_pos (by omega)]
    · by_cases h2 : 256 < (rs.getD i z49).f3.length
      · refine Ev.step (f := fun k => fastiref15_short.j3 k (i : Int) true ds rs (rs.getD i z49).f0 (rs.getD i z49).f1 (rs.getD i z49).f2 (rs.getD i z49).f3) (fun k => ?_) (Ev.eq fun k => rfl)
        simp only [fastiref15_short.l1]
        rw [if_pos (by omega), if_pos (by omega), T49n, if_neg (by omega), decide_eq_true (by omega)]
      · simp only [e7, decide_eq_false h1, decide_eq_false h2, Bool.false_or] at hP
        refine Ev.step (f := fun k => fastiref15_short.j3 k (i : Int) false ds rs (rs.getD i z49).f0 (rs.getD i z49).f1 (rs.getD i z49).f2 (rs.getD i z49).f3) (fun k => ?_) ?_
        · simp only [fastiref15_short.l1]
          rw [if_pos (by omega), if_pos (by omega), T49n, if_neg (by omega), decide_eq_false (by omega)]
        · refine Ev.step (f := fun k => fastiref15_short.l2 k (i : Int) 0 ds rs (rs.getD i z49).f0 (rs.getD i z49).f1 (rs.getD i z49).f2 (rs.getD i z49).f3) (fun k => rfl) ?_
          have e3 : (rs.getD i z49).f3.all (fun row => decide (row.length ≤ 12)) = false := by
            obtain ⟨row, hrow, hlen⟩ := List.any_eq_true.1 hP
            refine List.all_eq_false.2 ⟨row, hrow, ?_⟩
            simp at hlen ⊢
            omega
          have := short_l2 (i : Int) ds rs (rs.getD i z49).f0 (rs.getD i z49).f1 (rs.getD i z49).f2 (rs.getD i z49).f3 (by omega) false (fun hall => ?_)
          · rw [e3] at this
            exact this
          · exfalso
            obtain ⟨row, hrow, hlen⟩ := List.any_eq_true.1 hP
            have := hall row hrow
            simp at hlen
            omega
  · intro _
    refine Ev.eq fun k => ?_
    simp only [fastiref15_short.l1]
    rw [if_neg (by omega)]
theorem short_ref (ds : M) (rs : List S49) : Ev (fun k => fastiref15_short.f k ds rs) (!longB ds rs) := by
  unfold fastiref15_short.f longB
  by_cases h1 : 12 < ds.length
  · rw [decide_eq_true h1]
    refine Ev.step (f := fun _ => some false) (fun k => ?_) (Ev.now _)
    rw [if_pos (by omega)]
    rfl
  · rw [decide_eq_false h1, Bool.false_or]
    by_cases h2 : 64 < rs.length
    · rw [decide_eq_true h2]
      refine Ev.step (f := fun _ => some false) (fun k => ?_) (Ev.now _)
      rw [if_neg (by omega), decide_eq_true (by omega)]
      rfl
    · rw [decide_eq_false h2, Bool.false_or]
      refine Ev.step (f := fun k => fastiref15_short.l0 k 0 ds rs) (fun k => ?_) ?_
      · rw [if_neg (by omega), decide_eq_false (by omega)]
        rfl
      · have := ce (fun k i => fastiref15_short.l0 k (i : Int) ds rs) (fun i => decide ((ds.getD i []).length ≤ 16)) ds.length (rs.all fun r => !e7 r) false ?_ ?_ ?_
        · rw [db ds [] (fun d => decide (d.length ≤ 16))] at this
          have e : (!(ds.any (fun d => decide (16 < d.length)) || rs.any e7)) = (if ds.all (fun d => decide (d.length ≤ 16)) then rs.all fun r => !e7 r else false) := by
            rw [Bool.not_or, List.not_any_eq_all_not, List.not_any_eq_all_not]
            have : (fun d : List Int => !decide (16 < d.length)) = fun d => decide (d.length ≤ 16) := by
              funext d
              rw [← decide_not]
              exact decide_eq_decide.2 (by omega)
            rw [this]
            cases ds.all fun d => decide (d.length ≤ 16) <;> rfl
          rw [e]
          exact this
        · intro i hi hP r' h'
          have hw := gV i (by omega)
          have hP := of_decide_eq_true hP
          refine Ev.step (f := fun k => fastiref15_short.l0 k (wrap64 ((i : Int) + 1)) ds rs) (fun k => ?_) (by rw [hw]; exact h')
          simp only [fastiref15_short.l0]
          rw [if_pos (by omega), if_pos (by omega), L1n, if_neg (by omega)]
        · intro i hi hP
          have hP := of_decide_eq_false hP
          refine Ev.eq fun k => ?_
          simp only [fastiref15_short.l0]
          rw [if_pos (by omega), if_pos (by omega), L1n, if_pos (by omega)]
        · intro _
          refine Ev.step (f := fun k => fastiref15_short.l1 k 0 ds rs) (fun k => ?_) (short_l1 ds rs (by omega))
          simp only [fastiref15_short.l0]
          rw [if_neg (by omega)]
end Go.Proofs.Ytcbpkdemcdikaaa.QB
namespace Go.Proofs.Ytcbpkdemcdikaaa.QC
open Go.RowKit Go.Proofs.Ytcbpkdemcdikaaa.X Go.Proofs.Ytcbpkdemcdikaaa.X.SF Go.Proofs.Ytcbpkdemcdikaaa.X.DF Go.Proofs.Ytcbpkdemcdikaaa.K Go.Proofs.YtcbpkdemcdikaaaW.PrintWords Go.Proofs.Ytcbpkdemcdikaaa.QB
set_option linter.unusedVariables false
set_option linter.unusedSimpArgs false
def gY (l : List Int) (i : Nat) : Bool := decide (0 ≤ rd l (i : Int)) && decide (rd l (i : Int) ≤ 73048) && (decide (i = 0) || decide (rd l ((i - 1 : Nat) : Int) < rd l (i : Int)))
def hX (l : List Int) : Bool := decide (0 < l.length) && (List.range l.length).all (gY l)
theorem domain_ref (l : List Int) (hl : l.length ≤ 4096) : Ev (fun k => fastiref15_domain.f k l) (hX l) := by
  have := ce (fun k i => fastiref15_domain.l0 k l (i : Int)) (gY l) l.length (decide (0 < l.length)) false ?_ ?_ ?_
  · have e : hX l = if (List.range l.length).all (gY l) then decide (0 < l.length) else false := by
      unfold hX
      cases (List.range l.length).all (gY l)
      · rw [Bool.and_false]; rfl
      · rw [Bool.and_true]; rfl
    rw [e]
    exact this
  · intro i hi hP r h'
    have hw := gV i (by omega)
    simp only [gY, Bool.and_eq_true, Bool.or_eq_true, decide_eq_true_eq] at hP
    refine Ev.step (f := fun k => fastiref15_domain.l0 k l (wrap64 ((i : Int) + 1))) (fun k => ?_) (by rw [hw]; exact h')
    simp only [fastiref15_domain.l0]
    rw [if_pos (by omega), if_pos (by omega), if_neg (by omega), if_neg (by omega)]
    by_cases h0 : i = 0
    · rw [if_neg (by omega)]
    · have hp := w64p i (by omega) (by omega)
      rw [if_pos (by omega), hp, if_pos (by omega), if_pos (by omega), if_neg (by omega)]
  · intro i hi hP
    refine Ev.eq fun k => ?_
    simp only [fastiref15_domain.l0]
    rw [if_pos (by omega), if_pos (by omega)]
    by_cases h1 : rd l (i : Int) < 0
    · rw [if_pos h1]
    · rw [if_neg h1]
      by_cases h2 : rd l (i : Int) > 73048
      · rw [if_pos h2]
      · rw [if_neg h2]
        simp only [gY, decide_eq_true (show 0 ≤ rd l (i : Int) by omega), decide_eq_true (show rd l (i : Int) ≤ 73048 by omega), Bool.true_and, Bool.or_eq_false_iff, decide_eq_false_iff_not] at hP
        have hp := w64p i (by omega) (by omega)
        rw [if_pos (by omega), hp, if_pos (by omega), if_pos (by omega), if_pos (by omega)]
  · intro _
    refine Ev.eq fun k => ?_
    simp only [fastiref15_domain.l0]
    rw [if_neg (by omega)]
    exact congrArg some (decide_eq_decide.2 (by omega))
theorem vars_l1 (l : List Int) (n : Int) (i : Nat) (hi : i < l.length) (hl : l.length ≤ 4096) (r : Bool) (h : Ev (fun k => fastiref15_vars.l0 k l n ((i + 1 : Nat) : Int)) r) :
    Ev (fun k => fastiref15_vars.l1 k l n (i : Int) 0) (if (l.take i).any (fun x => decide (rd l (i : Int) = x)) then false else r) := by
  have := ce (fun k j => fastiref15_vars.l1 k l n (i : Int) (j : Int)) (fun j => !decide (rd l (j : Int) = rd l (i : Int))) i r false ?_ ?_ ?_
  · have e : (List.range i).all (fun j => !decide (rd l (j : Int) = rd l (i : Int))) = !(l.take i).any (fun x => decide (rd l (i : Int) = x)) := by
      rw [Bool.eq_iff_iff, List.all_eq_true, Bool.not_eq_true', List.any_eq_false]
      constructor
      · intro h x hx hd
        obtain ⟨j, hj, rfl⟩ := List.mem_iff_getElem.1 hx
        simp only [List.length_take] at hj
        have := h j (List.mem_range.2 (by omega))
        rw [Bool.not_eq_true', decide_eq_false_iff_not, eh (by omega)] at this
        rw [List.getElem_take] at hd
        exact this (of_decide_eq_true hd).symm
      · intro h j hj
        have hj := List.mem_range.1 hj
        rw [Bool.not_eq_true', decide_eq_false_iff_not]
        intro he
        have hm : rd l (j : Int) ∈ l.take i := by
          rw [eh (by omega)]
          exact List.mem_iff_getElem.2 ⟨j, by simp; omega, by simp⟩
        exact h _ hm (decide_eq_true he.symm)
    rw [e] at this
    cases hb : (l.take i).any (fun x => decide (rd l (i : Int) = x))
    · rw [hb] at this; exact this
    · rw [hb] at this; exact this
  · intro j hj hP r' h'
    have hw := gV j (by omega)
    rw [Bool.not_eq_true', decide_eq_false_iff_not] at hP
    refine Ev.step (f := fun k => fastiref15_vars.l1 k l n (i : Int) (wrap64 ((j : Int) + 1))) (fun k => ?_) (by rw [hw]; exact h')
    simp only [fastiref15_vars.l1]
    rw [if_pos (by omega), if_pos (by omega), if_pos (by omega), if_pos (by omega), if_pos (by omega), if_neg hP]
  · intro j hj hP
    rw [Bool.not_eq_false', decide_eq_true_eq] at hP
    refine Ev.eq fun k => ?_
    simp only [fastiref15_vars.l1]
    rw [if_pos (by omega), if_pos (by omega), if_pos (by omega), if_pos (by omega), if_pos (by omega), if_pos hP]
  · intro _
    have hw := gV i (by omega)
    refine Ev.step (f := fun k => fastiref15_vars.l0 k l n (wrap64 ((i : Int) + 1))) (fun k => ?_) (by rw [hw]; exact h)
    simp only [fastiref15_vars.l1]
    rw [if_neg (by omega)]
theorem vars_ref (l : List Int) (n : Int) (hl : l.length ≤ 4096) : Ev (fun k => fastiref15_vars.f k l n) (decide (0 < l.length) && varsB l n) := by
  have := ce (fun k i => fastiref15_vars.l0 k l n (i : Int)) (varB l n) l.length (decide (0 < l.length)) false ?_ ?_ ?_
  · have e : (decide (0 < l.length) && varsB l n) = if (List.range l.length).all (varB l n) then decide (0 < l.length) else false := by
      unfold varsB
      cases (List.range l.length).all (varB l n)
      · rw [Bool.and_false]; rfl
      · rw [Bool.and_true]; rfl
    rw [e]
    exact this
  · intro i hi hP r h'
    simp only [varB, Bool.and_eq_true, decide_eq_true_eq, Bool.not_eq_true'] at hP
    obtain ⟨⟨h1, h2⟩, h3⟩ := hP
    refine Ev.step (f := fun k => fastiref15_vars.j1 k l n (i : Int) false) (fun k => ?_) (Ev.step (f := fun k => fastiref15_vars.l1 k l n (i : Int) 0) (fun k => rfl) ?_)
    · simp only [fastiref15_vars.l0]
      rw [if_pos (by omega), if_pos (by omega), if_neg (by omega), decide_eq_false (by omega)]
    · have := vars_l1 l n i hi hl r h'
      rw [h3] at this
      exact this
  · intro i hi hP
    by_cases h1 : rd l (i : Int) < 0
    · refine Ev.step (f := fun k => fastiref15_vars.j1 k l n (i : Int) true) (fun k => ?_) (Ev.eq fun k => rfl)
      simp only [fastiref15_vars.l0]
      rw [if_pos (by omega), if_pos (by omega), if_pos h1]
    · by_cases h2 : rd l (i : Int) ≥ n
      · refine Ev.step (f := fun k => fastiref15_vars.j1 k l n (i : Int) true) (fun k => ?_) (Ev.eq fun k => rfl)
        simp only [fastiref15_vars.l0]
        rw [if_pos (by omega), if_pos (by omega), if_neg h1, decide_eq_true h2]
      · simp only [varB, decide_eq_true (show 0 ≤ rd l (i : Int) by omega), decide_eq_true (show rd l (i : Int) < n by omega), Bool.true_and, Bool.not_eq_false'] at hP
        refine Ev.step (f := fun k => fastiref15_vars.j1 k l n (i : Int) false) (fun k => ?_) (Ev.step (f := fun k => fastiref15_vars.l1 k l n (i : Int) 0) (fun k => rfl) ?_)
        · simp only [fastiref15_vars.l0]
          rw [if_pos (by omega), if_pos (by omega), if_neg h1, decide_eq_false h2]
        · have := ce (fun k j => fastiref15_vars.l1 k l n (i : Int) (j : Int)) (fun j => !decide (rd l (j : Int) = rd l (i : Int))) i false false ?_ ?_ ?_
          · rw [ite_self] at this
            exact this
          · intro j hj hP r' h'
            have hw := gV j (by omega)
            rw [Bool.not_eq_true', decide_eq_false_iff_not] at hP
            refine Ev.step (f := fun k => fastiref15_vars.l1 k l n (i : Int) (wrap64 ((j : Int) + 1))) (fun k => ?_) (by rw [hw]; exact h')
            simp only [fastiref15_vars.l1]
            rw [if_pos (by omega), if_pos (by omega), if_pos (by omega), if_pos (by omega), if_pos (by omega), if_neg hP]
          · intro j hj hP
            rw [Bool.not_eq_false', decide_eq_true_eq] at hP
            refine Ev.eq fun k => ?_
            simp only [fastiref15_vars.l1]
            rw [if_pos (by omega), if_pos (by omega), if_pos (by omega), if_pos (by omega), if_pos (by omega), if_pos hP]
          · intro hall
            exfalso
            obtain ⟨x, hx, he⟩ := List.any_eq_true.1 hP
            obtain ⟨j, hj, rfl⟩ := List.mem_iff_getElem.1 hx
            simp only [List.length_take] at hj
            have := hall j (by omega)
            rw [Bool.not_eq_true', decide_eq_false_iff_not, eh (by omega)] at this
            rw [List.getElem_take] at he
            exact this (of_decide_eq_true he).symm
  · intro _
    refine Ev.eq fun k => ?_
    simp only [fastiref15_vars.l0]
    rw [if_neg (by omega)]
    exact congrArg some (decide_eq_decide.2 (by omega))
theorem rule_ref (r : S49) (n : Int) (h2 : r.f2.length ≤ 12) (h3 : r.f3.length ≤ 256) : Ev (fun k => fastiref15_rule.f k r.f0 r.f1 r.f2 r.f3 n) (validB r n) := by
  unfold fastiref15_rule.f
  by_cases hv : (decide (0 < r.f2.length) && varsB r.f2 n) = true
  · have H := vars_ref r.f2 n (by omega)
    rw [hv] at H
    have hv' := hv
    simp only [Bool.and_eq_true, decide_eq_true_eq] at hv'
    refine Ev.bind1 (f := fun k t => if t = true then (if r.f0 = 1 then (fastiref15_rule.l0 k 0 r.f0 r.f1 r.f2 r.f3) else (if r.f0 = 2 then (fastiref15_rule.j1 k r.f0 (r.f0 == 2) r.f0 r.f1 r.f2 r.f3) else (fastiref15_rule.j1 k r.f0 (r.f0 == 4) r.f0 r.f1 r.f2 r.f3))) else (some false)) H ?_
    simp only [if_pos]
    unfold validB
    rw [if_neg (by omega), hv'.2]
    by_cases k1 : r.f0 = 1
    · rw [if_neg (by omega), if_neg (by simp), if_neg (by omega), if_neg (by omega)]
      simp only [k1, if_true]
      have := ce (fun k i => fastiref15_rule.l0 k (i : Int) 1 r.f1 r.f2 r.f3) (fun i => decide ((r.f3.getD i []).length = r.f2.length)) r.f3.length (decide (r.f1 = 0)) false ?_ ?_ ?_
      · rw [db r.f3 [] (fun row => decide (row.length = r.f2.length))] at this
        have e : (decide (r.f1 = 0) && !(r.f3.any fun row => decide (row.length ≠ r.f2.length))) = if r.f3.all (fun row => decide (row.length = r.f2.length)) then decide (r.f1 = 0) else false := by
          rw [List.not_any_eq_all_not]
          have : (fun row : List Int => !decide (row.length ≠ r.f2.length)) = fun row => decide (row.length = r.f2.length) := by
            funext row
            rw [← decide_not]
            exact decide_eq_decide.2 (by omega)
          rw [this]
          cases r.f3.all (fun row => decide (row.length = r.f2.length))
          · rw [Bool.and_false]; rfl
          · rw [Bool.and_true]; rfl
        rw [e]
        exact this
      · intro i hi hP r' h'
        have hw := gV i (by omega)
        have hP := of_decide_eq_true hP
        refine Ev.step (f := fun k => fastiref15_rule.l0 k (wrap64 ((i : Int) + 1)) 1 r.f1 r.f2 r.f3) (fun k => ?_) (by rw [hw]; exact h')
        simp only [fastiref15_rule.l0]
        rw [if_pos (by omega), if_pos (by omega), L1n, if_pos (by omega)]
      · intro i hi hP
        have hP := of_decide_eq_false hP
        refine Ev.eq fun k => ?_
        simp only [fastiref15_rule.l0]
        rw [if_pos (by omega), if_pos (by omega), L1n, if_neg (by omega)]
      · intro _
        refine Ev.eq fun k => ?_
        simp only [fastiref15_rule.l0]
        rw [if_neg (by omega)]
        rfl
    · simp only [if_neg k1]
      by_cases k2 : r.f0 = 2 ∨ r.f0 = 4
      · have e : (fun k => if r.f0 = 2 then fastiref15_rule.j1 k r.f0 (r.f0 == 2) r.f0 r.f1 r.f2 r.f3 else fastiref15_rule.j1 k r.f0 (r.f0 == 4) r.f0 r.f1 r.f2 r.f3) = fun k => fastiref15_rule.j1 k r.f0 true r.f0 r.f1 r.f2 r.f3 := by
          funext k
          rcases k2 with h | h
          · rw [if_pos h, h]; rfl
          · rw [if_neg (by omega), h]; rfl
        rw [e, if_neg (by omega), if_neg (by simp), if_neg (by omega)]
        refine Ev.eq fun k => ?_
        simp only [fastiref15_rule.j1, if_true]
        by_cases k3 : 0 < r.f3.length
        · rw [if_pos (show r.f0 ≠ 1 ∧ 0 < r.f3.length from ⟨k1, k3⟩)]
          have : ((r.f3.length : Int) == 0) = false := beq_eq_false_iff_ne.2 (by omega)
          rw [this]
          split <;> rfl
        · rw [if_neg (show ¬ (r.f0 ≠ 1 ∧ 0 < r.f3.length) from fun h => k3 h.2)]
          have hnil : r.f3 = [] := List.eq_nil_of_length_eq_zero (by omega)
          rw [hnil]
          by_cases k4 : r.f1 = 0
          · rw [if_pos k4, decide_eq_true k4]; rfl
          · rw [if_neg k4, decide_eq_false k4]; rfl
      · have e : (fun k => if r.f0 = 2 then fastiref15_rule.j1 k r.f0 (r.f0 == 2) r.f0 r.f1 r.f2 r.f3 else fastiref15_rule.j1 k r.f0 (r.f0 == 4) r.f0 r.f1 r.f2 r.f3) = fun k => fastiref15_rule.j1 k r.f0 false r.f0 r.f1 r.f2 r.f3 := by
          funext k
          rw [if_neg (fun h => k2 (.inl h)), beq_eq_false_iff_ne.2 (fun h => k2 (.inr h))]
        rw [e]
        refine Ev.eq fun k => ?_
        simp only [fastiref15_rule.j1, Bool.false_eq_true, if_false]
        by_cases k3 : r.f0 = 3
        · rw [if_pos k3, if_neg (show ¬ ¬ (1 ≤ r.f0 ∧ r.f0 ≤ 4) by omega), if_neg (show ¬ (true = false) by simp), if_pos k3]
          have hz : ((r.f3.length : Int) == 0) = decide (r.f3.length = 0) := by
            rw [Bool.eq_iff_iff, beq_iff_eq, decide_eq_true_eq]
            omega
          rw [hz]
          by_cases k4 : r.f1 ≥ 1
          · rw [if_pos k4, decide_eq_true (show 1 ≤ r.f1 from k4)]
            by_cases k5 : r.f1 ≤ 73048
            · rw [if_pos k5, decide_eq_true k5]; rfl
            · rw [if_neg k5, decide_eq_false k5]; rfl
          · rw [if_neg k4, decide_eq_false (show ¬ 1 ≤ r.f1 from k4)]; rfl
        · rw [if_neg k3, if_pos (show ¬ (1 ≤ r.f0 ∧ r.f0 ≤ 4) by omega)]
  · have H := vars_ref r.f2 n (by omega)
    rw [Bool.not_eq_true] at hv
    rw [hv] at H
    refine Ev.bind1 (f := fun k t => if t = true then (if r.f0 = 1 then (fastiref15_rule.l0 k 0 r.f0 r.f1 r.f2 r.f3) else (if r.f0 = 2 then (fastiref15_rule.j1 k r.f0 (r.f0 == 2) r.f0 r.f1 r.f2 r.f3) else (fastiref15_rule.j1 k r.f0 (r.f0 == 4) r.f0 r.f1 r.f2 r.f3))) else (some false)) H ?_
    simp only [Bool.false_eq_true, if_false]
    have e : validB r n = false := by
      unfold validB
      by_cases h0 : r.f2.length = 0
      · rw [if_pos h0]
      · rw [decide_eq_true (show 0 < r.f2.length by omega), Bool.true_and] at hv
        rw [if_neg h0, hv]
        split
        · rfl
        · rw [if_pos rfl]
    rw [e]
    exact Ev.now _
def d7 : M → Int → Int
  | [], n => n
  | d :: ds, n => if n ≤ 65536 then d7 ds (n * (d.length : Int)) else n
theorem tries_ref (ds : M) (rs : List S49) (hs : ∀ d ∈ ds, d.length ≤ 16) (hl : ds.length ≤ 100) : Ev (fun k => fastiref15_Tries.f k ds rs) (d7 ds 1) := by
  unfold fastiref15_Tries.f
  have H : ∀ m i : Nat, i + m = ds.length → ∀ n : Int, 0 ≤ n → n ≤ 1048576 → Ev (fun k => fastiref15_Tries.l0 k n (i : Int) ds rs) (d7 (ds.drop i) n) := by
    intro m
    induction m with
    | zero =>
      intro i hi n h0 h1
      rw [List.drop_of_length_le (by omega)]
      refine Ev.eq fun k => ?_
      simp only [fastiref15_Tries.l0]
      rw [if_neg (by omega)]
      rfl
    | succ m ih =>
      intro i hi n h0 h1
      rw [fj (by omega : i < ds.length), d7]
      by_cases hn : n ≤ 65536
      · have hd := hs _ (List.getElem_mem (by omega : i < ds.length))
        have hmul : 0 ≤ n * ((ds[i]'(by omega)).length : Int) ∧ n * ((ds[i]'(by omega)).length : Int) ≤ 1048576 := by
          constructor
          · exact Int.mul_nonneg h0 (by omega)
          · have := Int.mul_le_mul hn (show ((ds[i]'(by omega)).length : Int) ≤ 16 by omega) (by omega) (by omega)
            omega
        have hw := gV i (by omega)
        have hw2 : wrap64 (n * ((ax ds (i : Int)).length : Int)) = n * ((ds[i]'(by omega)).length : Int) := by
          rw [L1n, bL (by omega)]
          exact w64 (by omega) (by omega)
        rw [if_pos hn]
        refine Ev.step (f := fun k => fastiref15_Tries.l0 k (n * ((ds[i]'(by omega)).length : Int)) ((i + 1 : Nat) : Int) ds rs) (fun k => ?_) (ih (i + 1) (by omega) _ hmul.1 hmul.2)
        simp only [fastiref15_Tries.l0]
        rw [if_pos (by omega), if_pos hn, if_pos (by omega), hw, hw2]
      · rw [if_neg hn]
        refine Ev.eq fun k => ?_
        simp only [fastiref15_Tries.l0]
        rw [if_pos (by omega), if_neg hn]
  exact H ds.length 0 (by omega) 1 (by omega) (by omega)
theorem shortF {ds : M} {rs : List S49} (h : longB ds rs = false) : ds.length ≤ 12 ∧ rs.length ≤ 64 ∧ (∀ d ∈ ds, d.length ≤ 16) ∧ ∀ r ∈ rs, r.f2.length ≤ 12 ∧ r.f3.length ≤ 256 ∧ ∀ row ∈ r.f3, row.length ≤ 12 := by
  unfold longB at h
  simp only [Bool.or_eq_false_iff, decide_eq_false_iff_not, List.any_eq_false, decide_eq_true_eq] at h
  obtain ⟨⟨⟨h1, h2⟩, h3⟩, h4⟩ := h
  refine ⟨by omega, by omega, fun d hd => by have := h3 d hd; omega, fun r hr => ?_⟩
  have := h4 r hr
  rw [Bool.not_eq_true] at this
  unfold e7 at this
  simp only [Bool.or_eq_false_iff, decide_eq_false_iff_not, List.any_eq_false, decide_eq_true_eq] at this
  exact ⟨by omega, by omega, fun row hrow => by have := this.2 row hrow; omega⟩
theorem few_ref (ds : M) (rs : List S49) : ∃ b, Ev (fun k => fastiref15_Few.f k ds rs) b := by
  unfold fastiref15_Few.f
  have H := short_ref ds rs
  cases hs : longB ds rs
  · rw [hs] at H
    obtain ⟨h1, h2, h3, h4⟩ := shortF hs
    by_cases h8 : (rs.length : Int) > 8
    · refine ⟨false, Ev.bind1 (f := fun k t => if t = true then (if (rs.length : Int) > 8 then (some false) else (fastiref15_Few.l0 k 0 ds rs)) else (if (ds.length : Int) ≤ 100 then (some (decide ((rs.length : Int) ≤ 100))) else (some false))) H ?_⟩
      simp only [Bool.not_false, if_true, if_pos h8]
      exact Ev.now _
    · refine ⟨if (List.range rs.length).all (fun i => decide ((rs.getD i z49).f3.length ≤ 20)) then (if d7 ds 1 ≤ 256 then true else decide (d7 ds 1 > 65536)) else false, Ev.bind1 (f := fun k t => if t = true then (if (rs.length : Int) > 8 then (some false) else (fastiref15_Few.l0 k 0 ds rs)) else (if (ds.length : Int) ≤ 100 then (some (decide ((rs.length : Int) ≤ 100))) else (some false))) H ?_⟩
      simp only [Bool.not_false, if_true, if_neg h8]
      refine ce (fun k i => fastiref15_Few.l0 k (i : Int) ds rs) (fun i => decide ((rs.getD i z49).f3.length ≤ 20)) rs.length _ false ?_ ?_ ?_
      · intro i hi hP r' h'
        have hw := gV i (by omega)
        have hP := of_decide_eq_true hP
        refine Ev.step (f := fun k => fastiref15_Few.l0 k (wrap64 ((i : Int) + 1)) ds rs) (fun k => ?_) (by rw [hw]; exact h')
        simp only [fastiref15_Few.l0]
        rw [if_pos (by omega), if_pos (by omega), T49n, if_neg (by omega)]
      · intro i hi hP
        have hP := of_decide_eq_false hP
        refine Ev.eq fun k => ?_
        simp only [fastiref15_Few.l0]
        rw [if_pos (by omega), if_pos (by omega), T49n, if_pos (by omega)]
      · intro _
        have T := tries_ref ds rs h3 (by omega)
        refine Ev.step (f := fun k => (fastiref15_Tries.f k ds rs).bind fun t317 => if t317 ≤ 256 then some true else (fastiref15_Tries.f k ds rs).bind fun t318 => some (decide (t318 > 65536))) (fun k => ?_) ?_
        · simp only [fastiref15_Few.l0]
          rw [if_neg (by omega)]
        · refine Ev.bind1 (f := fun k t317 => if t317 ≤ 256 then some true else (fastiref15_Tries.f k ds rs).bind fun t318 => some (decide (t318 > 65536))) T ?_
          by_cases hq : d7 ds 1 ≤ 256
          · simp only [if_pos hq]
            exact Ev.now _
          · simp only [if_neg hq]
            exact Ev.bind1 (f := fun k t318 => some (decide (t318 > 65536))) T (Ev.now _)
  · rw [hs] at H
    refine ⟨if (ds.length : Int) ≤ 100 then decide ((rs.length : Int) ≤ 100) else false, Ev.bind1 (f := fun k t => if t = true then (if (rs.length : Int) > 8 then (some false) else (fastiref15_Few.l0 k 0 ds rs)) else (if (ds.length : Int) ≤ 100 then (some (decide ((rs.length : Int) ≤ 100))) else (some false))) H ?_⟩
    simp only [Bool.not_true, Bool.false_eq_true, if_false]
    by_cases h : (ds.length : Int) ≤ 100
    · simp only [if_pos h]; exact Ev.now _
    · simp only [if_neg h]; exact Ev.now _
def chk (ds : M) (rs : List S49) : Int := if longB ds rs then 2 else if ds.length = 0 then 150 else if ds.all hX then (if rs.all (fun r => validB r (ds.length : Int)) then (if d7 ds 1 > 65536 then 2 else 0) else 150) else 150
theorem iU (ds : M) (rs : List S49) : Ev (fun k => fastiref15_Check.f k ds rs) (chk ds rs) := by
  unfold fastiref15_Check.f chk
  have H := short_ref ds rs
  cases hs : longB ds rs
  · rw [hs] at H
    obtain ⟨h1, h2, h3, h4⟩ := shortF hs
    refine Ev.bind1 (f := fun k t => if t = true then (if (ds.length : Int) = 0 then (some 150) else (fastiref15_Check.l0 k 0 ds rs)) else (some 2)) H ?_
    simp only [Bool.not_false, if_true, Bool.false_eq_true, if_false]
    by_cases h0 : ds.length = 0
    · simp only [h0, if_true]
      exact Ev.now _
    · simp only [if_neg h0, if_neg (show ¬ ((ds.length : Int) = 0) by omega)]
      have := ce (fun k i => fastiref15_Check.l0 k (i : Int) ds rs) (fun i => hX (ds.getD i [])) ds.length (if rs.all (fun r => validB r (ds.length : Int)) then (if d7 ds 1 > 65536 then 2 else 0) else 150) (150 : Int) ?_ ?_ ?_
      · rw [db ds [] hX] at this
        exact this
      · intro i hi hP r' h'
        have hw := gV i (by omega)
        have hd := h3 _ (List.getElem_mem hi)
        have D := domain_ref (ds.getD i []) (by rw [bL hi]; omega)
        rw [hP] at D
        refine Ev.step (f := fun k => (fastiref15_domain.f k (ds.getD i [])).bind fun t => if t = true then (fastiref15_Check.l0 k (wrap64 ((i : Int) + 1)) ds rs) else (some 150)) (fun k => ?_) (Ev.bind1 (f := fun k t => if t = true then (fastiref15_Check.l0 k (wrap64 ((i : Int) + 1)) ds rs) else (some 150)) D ?_)
        · simp only [fastiref15_Check.l0]
          rw [if_pos (by omega), if_pos (by omega), L1n]
        · simp only [if_true, hw]
          exact h'
      · intro i hi hP
        have hd := h3 _ (List.getElem_mem hi)
        have D := domain_ref (ds.getD i []) (by rw [bL hi]; omega)
        rw [hP] at D
        refine Ev.step (f := fun k => (fastiref15_domain.f k (ds.getD i [])).bind fun t => if t = true then (fastiref15_Check.l0 k (wrap64 ((i : Int) + 1)) ds rs) else (some 150)) (fun k => ?_) (Ev.bind1 (f := fun k t => if t = true then (fastiref15_Check.l0 k (wrap64 ((i : Int) + 1)) ds rs) else (some 150)) D ?_)
        · simp only [fastiref15_Check.l0]
          rw [if_pos (by omega), if_pos (by omega), L1n]
        · simp only [Bool.false_eq_true, if_false]
          exact Ev.now _
      · intro _
        refine Ev.step (f := fun k => fastiref15_Check.l1 k 0 ds rs) (fun k => ?_) ?_
        · simp only [fastiref15_Check.l0]
          rw [if_neg (by omega)]
        · have := ce (fun k i => fastiref15_Check.l1 k (i : Int) ds rs) (fun i => validB (rs.getD i z49) (ds.length : Int)) rs.length (if d7 ds 1 > 65536 then 2 else 0) (150 : Int) ?_ ?_ ?_
          · rw [db rs z49 (fun r => validB r (ds.length : Int))] at this
            exact this
          · intro i hi hP r' h'
            have hw := gV i (by omega)
            have hd := h4 _ (List.getElem_mem hi)
            have D := rule_ref (rs.getD i z49) (ds.length : Int) (by rw [bL hi]; exact hd.1) (by rw [bL hi]; exact hd.2.1)
            rw [hP] at D
            refine Ev.step (f := fun k => (fastiref15_rule.f k (rs.getD i z49).f0 (rs.getD i z49).f1 (rs.getD i z49).f2 (rs.getD i z49).f3 (ds.length : Int)).bind fun t => if t = true then (fastiref15_Check.l1 k (wrap64 ((i : Int) + 1)) ds rs) else (some 150)) (fun k => ?_) (Ev.bind1 (f := fun k t => if t = true then (fastiref15_Check.l1 k (wrap64 ((i : Int) + 1)) ds rs) else (some 150)) D ?_)
            · simp only [fastiref15_Check.l1]
              rw [if_pos (by omega), if_pos (by omega), T49n]
            · simp only [if_true, hw]
              exact h'
          · intro i hi hP
            have hd := h4 _ (List.getElem_mem hi)
            have D := rule_ref (rs.getD i z49) (ds.length : Int) (by rw [bL hi]; exact hd.1) (by rw [bL hi]; exact hd.2.1)
            rw [hP] at D
            refine Ev.step (f := fun k => (fastiref15_rule.f k (rs.getD i z49).f0 (rs.getD i z49).f1 (rs.getD i z49).f2 (rs.getD i z49).f3 (ds.length : Int)).bind fun t => if t = true then (fastiref15_Check.l1 k (wrap64 ((i : Int) + 1)) ds rs) else (some 150)) (fun k => ?_) (Ev.bind1 (f := fun k t => if t = true then (fastiref15_Check.l1 k (wrap64 ((i : Int) + 1)) ds rs) else (some 150)) D ?_)
            · simp only [fastiref15_Check.l1]
              rw [if_pos (by omega), if_pos (by omega), T49n]
            · simp only [Bool.false_eq_true, if_false]
              exact Ev.now _
          · intro _
            have T := tries_ref ds rs h3 (by omega)
            refine Ev.step (f := fun k => (fastiref15_Tries.f k ds rs).bind fun t => if t > 65536 then some 2 else some 0) (fun k => ?_) (Ev.bind1 (f := fun k t => if t > 65536 then some 2 else some 0) T ?_)
            · simp only [fastiref15_Check.l1]
              rw [if_neg (by omega)]
            · by_cases hq : d7 ds 1 > 65536
              · simp only [if_pos hq]; exact Ev.now _
              · simp only [if_neg hq]; exact Ev.now _
  · rw [hs] at H
    refine Ev.bind1 (f := fun k t => if t = true then (if (ds.length : Int) = 0 then (some 150) else (fastiref15_Check.l0 k 0 ds rs)) else (some 2)) H ?_
    simp only [Bool.not_true, Bool.false_eq_true, if_false]
    exact Ev.now _
end Go.Proofs.Ytcbpkdemcdikaaa.QC
namespace Go.Proofs.Ytcbpkdemcdikaaa.QP
open Go.RowKit Go.Proofs.Ytcbpkdemcdikaaa.X Go.Proofs.Ytcbpkdemcdikaaa.X.SF Go.Proofs.Ytcbpkdemcdikaaa.X.DF Go.Proofs.Ytcbpkdemcdikaaa.K Go.Proofs.YtcbpkdemcdikaaaW.PrintWords Go.Proofs.Ytcbpkdemcdikaaa.QB Go.Proofs.Ytcbpkdemcdikaaa.QC
set_option linter.unusedVariables false
set_option linter.unusedSimpArgs false
theorem dom_pos {l : List Int} (h : hX l = true) : 0 < l.length := by
  unfold hX at h
  simp only [Bool.and_eq_true, decide_eq_true_eq] at h
  exact h.1
theorem gG {l : List Int} (h : hX l = true) {i : Nat} (hi : i < l.length) : gY l i = true := by
  unfold hX at h
  simp only [Bool.and_eq_true, List.all_eq_true, List.mem_range] at h
  exact h.2 i hi
theorem chain {l : List Int} (h : ∀ i, i + 1 < l.length → rd l (i : Int) < rd l ((i + 1 : Nat) : Int)) : ∀ m i, i + m < l.length → rd l (i : Int) ≤ rd l ((i + m : Nat) : Int) := by
  intro m
  induction m with
  | zero => intro i _; exact Int.le_refl _
  | succ m ih =>
    intro i hi
    have a := ih i (by omega)
    have b := h (i + m) (by omega)
    exact Int.le_trans a (Int.le_of_lt b)
theorem dom_of {l : List Int} (h0 : 0 < l.length) (h1 : 0 ≤ rd l 0) (h2 : rd l ((l.length - 1 : Nat) : Int) ≤ 73048) (h : ∀ i, i + 1 < l.length → rd l (i : Int) < rd l ((i + 1 : Nat) : Int)) : hX l = true := by
  unfold hX
  rw [decide_eq_true h0, Bool.true_and, List.all_eq_true]
  intro i hi
  have hi := List.mem_range.1 hi
  have a := chain h i 0 (by omega)
  have b := chain h (l.length - 1 - i) i (by omega)
  rw [show 0 + i = i by omega] at a
  rw [show i + (l.length - 1 - i) = l.length - 1 by omega] at b
  have a' : rd l 0 ≤ rd l (i : Int) := a
  simp only [gY, Bool.and_eq_true, Bool.or_eq_true, decide_eq_true_eq]
  refine ⟨⟨by omega, by omega⟩, ?_⟩
  by_cases hz : i = 0
  · exact .inl hz
  · have := h (i - 1) (by omega)
    rw [show i - 1 + 1 = i by omega] at this
    exact .inr this
theorem dom_range {l : List Int} (h : hX l = true) {v : Int} (hv : v ∈ l) : 0 ≤ v ∧ v ≤ 73048 := by
  obtain ⟨i, hi, rfl⟩ := List.mem_iff_getElem.1 hv
  have := gG h hi
  simp only [gY, Bool.and_eq_true, Bool.or_eq_true, decide_eq_true_eq, eh hi] at this
  exact this.1
theorem dom_asc {l : List Int} (h : hX l = true) : asc l = true := by
  refine asc_of fun i hi => ?_
  have := gG h hi
  simp only [gY, Bool.and_eq_true, Bool.or_eq_true, decide_eq_true_eq] at this
  have h2 := this.2.resolve_left (by omega)
  rw [show i + 1 - 1 = i by omega, eh hi, eh (show i < l.length by omega)] at h2
  exact h2
theorem w64q (j : Nat) (h : j < 4611686018427387904) : wrap64 (((j + 1 : Nat) : Int) - 1) = (j : Int) := by unfold wrap64; omega
def capF : M → Int → Int
  | [], n => n
  | d :: ds, n => capF ds (mn (n * (d.length : Int)) 65537)
theorem cap_full : ∀ (ds : M), (∀ d ∈ ds, 0 < d.length) → capF ds 65537 = 65537
  | [], _ => rfl
  | d :: ds, h => by
    have hd := h d (by simp)
    have h2 : (65537 : Int) ≤ 65537 * (d.length : Int) := by
      have := Int.mul_le_mul_of_nonneg_left (show (1 : Int) ≤ (d.length : Int) by omega) (show (0 : Int) ≤ 65537 by omega)
      omega
    have : mn (65537 * (d.length : Int)) 65537 = 65537 := by unfold mn; split <;> omega
    rw [capF, this]
    exact cap_full ds fun d hd => h d (by simp [hd])
theorem cap_tries : ∀ (ds : M) (n : Int), (∀ d ∈ ds, 0 < d.length) → 1 ≤ n → n ≤ 65536 → (capF ds n > 65536 ↔ d7 ds n > 65536)
  | [], n, _, _, _ => Iff.rfl
  | d :: ds, n, h, h1, h2 => by
    have hd := h d (by simp)
    have hs : ∀ d ∈ ds, 0 < d.length := fun d hd => h d (by simp [hd])
    have hp : n ≤ n * (d.length : Int) := by
      have := Int.mul_le_mul_of_nonneg_left (show (1 : Int) ≤ (d.length : Int) by omega) (show (0 : Int) ≤ n by omega)
      omega
    rw [capF, d7, if_pos h2]
    by_cases hb : n * (d.length : Int) ≤ 65536
    · have : mn (n * (d.length : Int)) 65537 = n * (d.length : Int) := by unfold mn; split <;> omega
      rw [this]
      exact cap_tries ds _ hs (by omega) hb
    · have : mn (n * (d.length : Int)) 65537 = 65537 := by unfold mn; split <;> omega
      rw [this, cap_full ds hs]
      have ht : d7 ds (n * (d.length : Int)) = n * (d.length : Int) := by
        cases ds with
        | nil => rfl
        | cons e es => rw [d7, if_neg hb]
      rw [ht]
      omega
theorem check_l0 (ds : M) (rs : List S49) (hs : ∀ d ∈ ds, d.length ≤ 16) (hl : ds.length ≤ 12) : ∀ (m i : Nat) (a : Int) (r : Int), i + m = ds.length → 1 ≤ a → a ≤ 65537 →
    ((∀ d ∈ ds.drop i, hX d = true) → Ev (fun k => search_Check.l2 k (capF (ds.drop i) a) rs (rs.length : Int) 0 ds rs) r) → Ev (fun k => search_Check.l0 k a ds (ds.length : Int) (i : Int) ds rs) (if (ds.drop i).all hX then r else 150) := by
  intro m
  induction m with
  | zero =>
    intro i a r hi h1 h2 h
    rw [List.drop_of_length_le (by omega)] at h ⊢
    refine Ev.step (f := fun k => search_Check.l2 k a rs (rs.length : Int) 0 ds rs) (fun k => ?_) (h (by simp))
    simp only [search_Check.l0]
    rw [if_neg (by omega)]
  | succ m ih =>
    intro i a r hi h1 h2 h
    have hil : i < ds.length := by omega
    have hd := hs _ (List.getElem_mem hil)
    rw [fj hil] at h ⊢
    rw [List.all_cons]
    obtain ⟨d, he⟩ : ∃ d, ds[i] = d := ⟨_, rfl⟩
    have hg : ax ds (i : Int) = d := by rw [L1n, bL hil, he]
    rw [he] at hd h ⊢
    have no : hX d = false → (if (hX d && (ds.drop (i + 1)).all hX) = true then r else 150) = 150 := fun h => by rw [h]; rfl
    by_cases k0 : d.length = 0
    · rw [no (by unfold hX; rw [decide_eq_false (by omega)]; rfl)]
      refine Ev.step (f := fun k => search_Check.j1 k a d ds (ds.length : Int) (i : Int) true ds rs) (fun k => ?_) (Ev.eq fun k => rfl)
      simp only [search_Check.l0, hg]
      rw [if_pos (by omega), if_pos (by omega), if_pos (by omega), if_pos (by omega)]
    · by_cases k1 : rd d 0 < 0
      · rw [no (by
          cases hb : hX d with
          | false => rfl
          | true =>
            have := gG hb (show 0 < d.length by omega)
            simp only [gY, Bool.and_eq_true, decide_eq_true_eq] at this
            have := this.1.1
            exact absurd this (by show ¬ 0 ≤ rd d 0; omega))]
        refine Ev.step (f := fun k => search_Check.j1 k a d ds (ds.length : Int) (i : Int) true ds rs) (fun k => ?_) (Ev.eq fun k => rfl)
        simp only [search_Check.l0, hg]
        rw [if_pos (by omega), if_pos (by omega), if_pos (by omega), if_neg (by omega), if_pos (by omega), if_pos k1]
      · have hp := w64p d.length (by omega) (by omega)
        by_cases k2 : rd d ((d.length - 1 : Nat) : Int) > 73048
        · rw [no (by
            cases hb : hX d with
            | false => rfl
            | true =>
              have := gG hb (show d.length - 1 < d.length by omega)
              simp only [gY, Bool.and_eq_true, decide_eq_true_eq] at this
              omega)]
          refine Ev.step (f := fun k => search_Check.j1 k a d ds (ds.length : Int) (i : Int) true ds rs) (fun k => ?_) (Ev.eq fun k => rfl)
          simp only [search_Check.l0, hg, hp]
          rw [if_pos (by omega), if_pos (by omega), if_pos (by omega), if_neg (by omega), if_pos (by omega), if_neg k1, if_pos (by omega), if_pos (by omega), decide_eq_true k2]
        · refine Ev.step (f := fun k => search_Check.j1 k a d ds (ds.length : Int) (i : Int) false ds rs) (fun k => ?_) (Ev.step (f := fun k => search_Check.l1 k a d 1 ds (ds.length : Int) (i : Int) ds rs) (fun k => rfl) ?_)
          · simp only [search_Check.l0, hg, hp]
            rw [if_pos (by omega), if_pos (by omega), if_pos (by omega), if_neg (by omega), if_pos (by omega), if_neg k1, if_pos (by omega), if_pos (by omega), decide_eq_false k2]
          · have L := ce (fun k j => search_Check.l1 k a d ((j + 1 : Nat) : Int) ds (ds.length : Int) (i : Int) ds rs) (fun j => decide (rd d (j : Int) < rd d ((j + 1 : Nat) : Int))) (d.length - 1) (if (ds.drop (i + 1)).all hX then r else 150) 150 ?_ ?_ ?_
            · have e : hX d = (List.range (d.length - 1)).all fun j => decide (rd d (j : Int) < rd d ((j + 1 : Nat) : Int)) := by
                rw [Bool.eq_iff_iff, List.all_eq_true]
                constructor
                · intro hb j hj
                  have hj := List.mem_range.1 hj
                  have := gG hb (show j + 1 < d.length by omega)
                  simp only [gY, Bool.and_eq_true, Bool.or_eq_true, decide_eq_true_eq] at this
                  rw [show j + 1 - 1 = j by omega] at this
                  exact decide_eq_true (this.2.resolve_left (by omega))
                · intro ha
                  exact dom_of (by omega) (by omega) (by omega) fun j hj => of_decide_eq_true (ha j (List.mem_range.2 (by omega)))
              rw [e]
              cases hb : (List.range (d.length - 1)).all fun j => decide (rd d (j : Int) < rd d ((j + 1 : Nat) : Int))
              · rw [hb] at L
                exact L
              · rw [hb] at L
                rw [Bool.true_and]
                exact L
            · intro j hj hP r' h'
              have hP := of_decide_eq_true hP
              clear hp
              have g1 : ((j + 1 : Nat) : Int) < (d.length : Int) := by omega
              have g2 : (0 : Int) ≤ (j : Int) := by omega
              have g3 : (j : Int) < (d.length : Int) := by omega
              have g4 : (0 : Int) ≤ ((j + 1 : Nat) : Int) := by omega
              have g5 : ¬ rd d (j : Int) ≥ rd d ((j + 1 : Nat) : Int) := by omega
              have g6 : j < 4611686018427387904 := by omega
              have g7 : j + 1 < 4611686018427387904 := by omega
              refine Ev.step (f := fun k => search_Check.l1 k a d (wrap64 (((j + 1 : Nat) : Int) + 1)) ds (ds.length : Int) (i : Int) ds rs) (fun k => ?_) (by rw [gV (j + 1) g7]; exact h')
              simp only [search_Check.l1, w64q j g6]
              rw [if_pos g1, if_pos g2, if_pos g3, if_pos g4, if_neg g5]
            · intro j hj hP
              have hP := of_decide_eq_false hP
              clear hp
              have g1 : ((j + 1 : Nat) : Int) < (d.length : Int) := by omega
              have g2 : (0 : Int) ≤ (j : Int) := by omega
              have g3 : (j : Int) < (d.length : Int) := by omega
              have g4 : (0 : Int) ≤ ((j + 1 : Nat) : Int) := by omega
              have g5 : rd d (j : Int) ≥ rd d ((j + 1 : Nat) : Int) := by omega
              have g6 : j < 4611686018427387904 := by omega
              refine Ev.eq fun k => ?_
              simp only [search_Check.l1, w64q j g6]
              rw [if_pos g1, if_pos g2, if_pos g3, if_pos g4, if_pos g5]
            · intro hall
              clear hp
              have hdb : hX d = true := dom_of (by omega) (by omega) (by omega) fun j hj => of_decide_eq_true (hall j (by omega))
              have hw := gV i (by omega)
              have hm1 : a ≤ a * (d.length : Int) := by
                have := Int.mul_le_mul_of_nonneg_left (show (1 : Int) ≤ (d.length : Int) by omega) (show (0 : Int) ≤ a by omega)
                omega
              have hm2 : a * (d.length : Int) ≤ 65537 * 16 := Int.mul_le_mul h2 (by omega) (by omega) (by omega)
              have hwm : wrap64 (a * (d.length : Int)) = a * (d.length : Int) := w64 (by omega) (by omega)
              refine Ev.step (f := fun k => search_Check.l0 k (mn (a * (d.length : Int)) 65537) ds (ds.length : Int) ((i + 1 : Nat) : Int) ds rs) (fun k => ?_) (ih (i + 1) _ r (by omega) (by unfold mn; split <;> omega) (by unfold mn; split <;> omega) fun hd' => h fun x hx => ?_)
              · simp only [search_Check.l1]
                rw [if_neg (by omega), hwm, hw]
              · rcases List.mem_cons.1 hx with rfl | hx
                · exact hdb
                · exact hd' x hx
theorem gU (ds : M) (rs : List S49) : Ev (fun k => search_Check.f k ds rs) (chk ds rs) := by
  unfold search_Check.f chk
  cases hs : longB ds rs
  · obtain ⟨h1, h2, h3, h4⟩ := shortF hs
    by_cases h0 : ds.length = 0
    · refine Ev.all fun k => ?_
      simp only [search_long.f, hs, Option.bind_some, Bool.false_eq_true, if_false]
      rw [if_pos (by omega), if_pos h0]
    · refine Ev.congr (f := fun k => search_Check.l0 k 1 ds (ds.length : Int) 0 ds rs) (fun k => ?_) ?_
      · simp only [search_long.f, hs, Option.bind_some, Bool.false_eq_true, if_false]
        rw [if_neg (by omega)]
      · simp only [Bool.false_eq_true, if_false, if_neg h0]
        have := check_l0 ds rs h3 (by omega) ds.length 0 1 (if rs.all (fun r => validB r (ds.length : Int)) then (if d7 ds 1 > 65536 then 2 else 0) else 150) (by omega) (by omega) (by omega) fun hd => ?_
        · rw [List.drop_zero] at this
          exact this
        · rw [List.drop_zero] at hd ⊢
          have L := ce (fun k i => search_Check.l2 k (capF ds 1) rs (rs.length : Int) (i : Int) ds rs) (fun i => validB (rs.getD i z49) (ds.length : Int)) rs.length (if d7 ds 1 > 65536 then 2 else 0) (150 : Int) ?_ ?_ ?_
          · rw [db rs z49 (fun r => validB r (ds.length : Int))] at L
            exact L
          · intro i hi hP r' h'
            have hw := gV i (by omega)
            refine Ev.step (f := fun k => search_Check.l2 k (capF ds 1) rs (rs.length : Int) (wrap64 ((i : Int) + 1)) ds rs) (fun k => ?_) (by rw [hw]; exact h')
            simp only [search_Check.l2, search_valid.f, Option.bind_some]
            rw [if_pos (by omega), if_pos (by omega), if_pos (by omega), T49n]
            exact if_pos hP
          · intro i hi hP
            refine Ev.eq fun k => ?_
            simp only [search_Check.l2, search_valid.f, Option.bind_some]
            rw [if_pos (by omega), if_pos (by omega), if_pos (by omega), T49n]
            refine if_neg ?_
            rw [Bool.not_eq_true]
            exact hP
          · intro _
            refine Ev.eq fun k => ?_
            simp only [search_Check.l2]
            rw [if_neg (by omega)]
            have := cap_tries ds 1 (fun d hd' => dom_pos (hd d hd')) (by omega) (by omega)
            by_cases hq : d7 ds 1 > 65536
            · rw [if_pos hq, if_pos (this.2 hq)]
            · rw [if_neg hq, if_neg (fun h => hq (this.1 h))]
  · refine Ev.all fun k => ?_
    simp only [search_long.f, hs, Option.bind_some, if_true]
structure Ok (ds : M) (rs : List S49) : Prop where
  pos : 0 < ds.length
  len : ds.length ≤ 12
  rl : rs.length ≤ 64
  dl : ∀ d ∈ ds, d.length ≤ 16
  rok : ∀ r ∈ rs, r.f2.length ≤ 12 ∧ r.f3.length ≤ 256
  dom : ∀ d ∈ ds, hX d = true
  val : ∀ r ∈ rs, validB r (ds.length : Int) = true
theorem chk_ok {ds : M} {rs : List S49} (h : chk ds rs = 0) : Ok ds rs := by
  unfold chk at h
  cases hs : longB ds rs
  · obtain ⟨h1, h2, h3, h4⟩ := shortF hs
    rw [hs] at h
    simp only [Bool.false_eq_true, if_false] at h
    by_cases h0 : ds.length = 0
    · rw [if_pos h0] at h; omega
    · rw [if_neg h0] at h
      by_cases hd : ds.all hX = true
      · rw [if_pos hd] at h
        by_cases hv : rs.all (fun r => validB r (ds.length : Int)) = true
        · exact ⟨by omega, h1, h2, h3, fun r hr => ⟨(h4 r hr).1, (h4 r hr).2.1⟩, List.all_eq_true.1 hd, List.all_eq_true.1 hv⟩
        · rw [if_neg hv] at h; omega
      · rw [if_neg hd] at h; omega
  · rw [hs] at h
    simp at h
theorem valid_ok {r : S49} {n : Int} (h : validB r n = true) (hl : r.f2.length ≤ 12) : okB r = true ∧ 0 < r.f2.length ∧ 1 ≤ r.f0 ∧ r.f0 ≤ 4 ∧ (∀ k ∈ r.f2, 0 ≤ k ∧ k < n) := by
  unfold validB at h
  by_cases h0 : r.f2.length = 0
  · rw [if_pos h0] at h; cases h
  · rw [if_neg h0] at h
    by_cases h1 : 1 ≤ r.f0 ∧ r.f0 ≤ 4
    · rw [if_neg (fun hh => hh h1)] at h
      cases hv : varsB r.f2 n
      · rw [hv, if_pos rfl] at h; cases h
      · have hk : ∀ k ∈ r.f2, 0 ≤ k ∧ k < n := by
          intro k hk
          obtain ⟨i, hi, rfl⟩ := List.mem_iff_getElem.1 hk
          have := List.all_eq_true.1 hv i (List.mem_range.2 hi)
          simp only [varB, Bool.and_eq_true, decide_eq_true_eq, eh hi] at this
          exact this.1
        refine ⟨?_, by omega, h1.1, h1.2, hk⟩
        unfold okB
        simp only [Bool.and_eq_true, decide_eq_true_eq, List.all_eq_true]
        exact ⟨⟨⟨h1.1, h1.2⟩, fun k hk' => (hk k hk').1⟩, by omega⟩
    · rw [if_pos h1] at h; cases h
end Go.Proofs.Ytcbpkdemcdikaaa.QP
namespace Go.Proofs.Ytcbpkdemcdikaaa.QK
open Go.RowKit Go.Proofs.Ytcbpkdemcdikaaa.X Go.Proofs.Ytcbpkdemcdikaaa.X.SF Go.Proofs.Ytcbpkdemcdikaaa.X.DF Go.Proofs.Ytcbpkdemcdikaaa.K Go.Proofs.YtcbpkdemcdikaaaW.PrintWords Go.Proofs.Ytcbpkdemcdikaaa.QB Go.Proofs.Ytcbpkdemcdikaaa.QC Go.Proofs.Ytcbpkdemcdikaaa.QP
set_option linter.unusedVariables false
set_option linter.unusedSimpArgs false
theorem has_ref (l : List Int) (v : Int) (hl : l.length ≤ 4096) : Ev (fun k => fastiref15_has.f k l v) (decide (v ∈ l)) := by
  have := ce (fun k i => fastiref15_has.l0 k l v (i : Int)) (fun i => !decide (rd l (i : Int) = v)) l.length false true ?_ ?_ ?_
  · have e : decide (v ∈ l) = if (List.range l.length).all (fun i => !decide (rd l (i : Int) = v)) then false else true := by
      by_cases hm : v ∈ l
      · rw [decide_eq_true hm, if_neg]
        intro ha
        obtain ⟨i, hi, rfl⟩ := List.mem_iff_getElem.1 hm
        have := List.all_eq_true.1 ha i (List.mem_range.2 hi)
        rw [Bool.not_eq_true', decide_eq_false_iff_not, eh hi] at this
        exact this rfl
      · rw [decide_eq_false hm, if_pos]
        rw [List.all_eq_true]
        intro i hi
        rw [Bool.not_eq_true', decide_eq_false_iff_not]
        intro he
        exact hm (he ▸ rd_mem (List.mem_range.1 hi))
    rw [e]
    exact this
  · intro i hi hP r h'
    rw [Bool.not_eq_true', decide_eq_false_iff_not] at hP
    refine Ev.step (f := fun k => fastiref15_has.l0 k l v (wrap64 ((i : Int) + 1))) (fun k => ?_) (by rw [gV i (by omega)]; exact h')
    simp only [fastiref15_has.l0]
    rw [if_pos (by omega), if_pos (by omega), if_neg hP]
  · intro i hi hP
    rw [Bool.not_eq_false', decide_eq_true_eq] at hP
    refine Ev.eq fun k => ?_
    simp only [fastiref15_has.l0]
    rw [if_pos (by omega), if_pos (by omega), if_pos hP]
  · intro _
    refine Ev.eq fun k => ?_
    simp only [fastiref15_has.l0]
    rw [if_neg (by omega)]
theorem mid (a b : Nat) (h : a + b < 9000000000000000000) : wrap64 ((IntKind.u64.wrap (wrap64 ((a : Int) + (b : Int)))) / 2) = (((a + b) / 2 : Nat) : Int) := by
  have h1 : wrap64 ((a : Int) + (b : Int)) = ((a + b : Nat) : Int) := by unfold wrap64; omega
  have h2 : IntKind.u64.wrap ((a + b : Nat) : Int) = ((a + b : Nat) : Int) := by
    have h3 := IntKind.wrap_u64 ((a + b : Nat) : Int)
    rw [h3]
    omega
  rw [h1, h2]
  unfold wrap64
  omega
theorem less_f (a b : Int) : cmp_Less_int.f a b = some (decide (a < b)) := by
  unfold cmp_Less_int.f cmp_isNaN_int.f
  simp
theorem nan_f (a : Int) : slices_isNaN_int.f a = some false := by
  unfold slices_isNaN_int.f
  simp
theorem bins_l0 (l : List Int) (v : Int) (hs : asc l = true) (hl : l.length ≤ 4096) : ∀ (m i j : Nat), j = i + m → j ≤ l.length → (∀ q, (hq : q < i) → (hl : q < l.length) → l[q] < v) → (∀ q, (hq : j ≤ q) → (hl : q < l.length) → v ≤ l[q]) →
    ∃ p, Ev (fun k => slices_BinarySearch_int_int.l0 k l v (l.length : Int) (i : Int) (j : Int)) (p, decide (v ∈ l)) := by
  intro m
  induction m using Nat.strongRecOn with
  | _ m ih =>
    intro i j hj hjl h1 h2
    by_cases hm : m = 0
    · subst hm
      obtain rfl : j = i := by omega
      by_cases hi : j < l.length
      · by_cases he : l[j] = v
        · refine ⟨(j : Int), Ev.eq fun k => ?_⟩
          simp only [slices_BinarySearch_int_int.l0]
          rw [if_neg (by omega), if_pos (by omega), if_pos (by omega), if_pos (by omega), if_pos (by rw [eh hi]; exact he), decide_eq_true (he ▸ List.getElem_mem hi)]
        · have hn : v ∉ l := by
            intro hv
            obtain ⟨q, hq, rfl⟩ := List.mem_iff_getElem.1 hv
            rcases Nat.lt_trichotomy q j with h | h | h
            · have := h1 q h hq; omega
            · subst h; exact he rfl
            · have a := asc_get hs h hq
              have b := h2 j (Nat.le_refl _) hi
              omega
          refine ⟨(j : Int), Ev.eq fun k => ?_⟩
          simp only [slices_BinarySearch_int_int.l0, nan_f, Option.bind_some, Bool.false_eq_true, if_false]
          rw [if_neg (by omega), if_pos (by omega), if_pos (by omega), if_pos (by omega), if_neg (by rw [eh hi]; exact he), decide_eq_false hn]
      · have hn : v ∉ l := by
          intro hv
          obtain ⟨q, hq, rfl⟩ := List.mem_iff_getElem.1 hv
          have := h1 q (by omega) hq
          omega
        refine ⟨(j : Int), Ev.eq fun k => ?_⟩
        simp only [slices_BinarySearch_int_int.l0]
        rw [if_neg (by omega), if_neg (by omega), decide_eq_false hn]
    · have hc : (i + j) / 2 < l.length := by omega
      have hmid := mid i j (by omega)
      have g1 : (i : Int) < (j : Int) := by omega
      have g2 : (0 : Int) ≤ (((i + j) / 2 : Nat) : Int) := by omega
      have g3 : (((i + j) / 2 : Nat) : Int) < (l.length : Int) := by omega
      have g4 : (i + j) / 2 < 4611686018427387904 := by omega
      by_cases hlt : l[(i + j) / 2] < v
      · obtain ⟨p, H⟩ := ih (j - ((i + j) / 2 + 1)) (by omega) ((i + j) / 2 + 1) j (by omega) hjl (fun q hq hl' => by
          have := asc_le hs (show q ≤ (i + j) / 2 by omega) hc
          omega) h2
        refine ⟨p, Ev.step (f := fun k => slices_BinarySearch_int_int.l0 k l v (l.length : Int) (wrap64 ((((i + j) / 2 : Nat) : Int) + 1)) (j : Int)) (fun k => ?_) (by rw [gV _ g4]; exact H)⟩
        simp only [slices_BinarySearch_int_int.l0, hmid, less_f, Option.bind_some, eh hc]
        rw [if_pos g1, if_pos g2, if_pos g3, decide_eq_true hlt, if_pos rfl]
      · obtain ⟨p, H⟩ := ih ((i + j) / 2 - i) (by omega) i ((i + j) / 2) (by omega) (by omega) h1 (fun q hq hl' => by
          have := asc_le hs hq hl'
          omega)
        refine ⟨p, Ev.step (f := fun k => slices_BinarySearch_int_int.l0 k l v (l.length : Int) (i : Int) (((i + j) / 2 : Nat) : Int)) (fun k => ?_) H⟩
        simp only [slices_BinarySearch_int_int.l0, hmid, less_f, Option.bind_some, eh hc]
        rw [if_pos g1, if_pos g2, if_pos g3, decide_eq_false hlt, if_neg (by simp)]
theorem bins (l : List Int) (v : Int) (hs : asc l = true) (hl : l.length ≤ 4096) : ∃ p, Ev (fun k => slices_BinarySearch_int_int.f k l v) (p, decide (v ∈ l)) := by
  obtain ⟨p, H⟩ := bins_l0 l v hs hl l.length 0 l.length (by omega) (by omega) (fun q hq => absurd hq (by omega)) (fun q hq hl' => absurd hl' (by omega))
  exact ⟨p, Ev.congr (fun k => rfl) H⟩
def asgB (ds : M) (x : List Int) : Bool := decide (x.length = ds.length) && (List.range ds.length).all fun i => decide (rd x (i : Int) ∈ ds.getD i [])
theorem asg_ref (ds : M) (rs : List S49) (x : List Int) (hl : ds.length ≤ 12) (hd : ∀ d ∈ ds, d.length ≤ 16) : Ev (fun k => fastiref15_assignment.f k ds rs x) (asgB ds x) := by
  unfold fastiref15_assignment.f asgB
  by_cases he : x.length = ds.length
  · rw [decide_eq_true he, Bool.true_and]
    have L := ce (fun k i => fastiref15_assignment.l0 k x (i : Int) ds rs) (fun i => decide (rd x (i : Int) ∈ ds.getD i [])) ds.length true false ?_ ?_ ?_
    · rw [ite_tf] at L
      exact Ev.congr (fun k => if_pos (by omega)) L
    · intro i hi hP r h'
      have H := has_ref (ds.getD i []) (rd x (i : Int)) (by rw [bL hi]; have := hd _ (List.getElem_mem hi); omega)
      rw [hP] at H
      refine Ev.step (f := fun k => (fastiref15_has.f k (ds.getD i []) (rd x (i : Int))).bind fun t => if t = true then fastiref15_assignment.l0 k x (wrap64 ((i : Int) + 1)) ds rs else some false) (fun k => ?_) (Ev.bind1 (f := fun k t => if t = true then fastiref15_assignment.l0 k x (wrap64 ((i : Int) + 1)) ds rs else some false) H ?_)
      · simp only [fastiref15_assignment.l0]
        rw [if_pos (by omega), if_pos (by omega), if_pos (by omega), L1n]
      · simp only [if_true, gV i (show i < 4611686018427387904 by omega)]
        exact h'
    · intro i hi hP
      have H := has_ref (ds.getD i []) (rd x (i : Int)) (by rw [bL hi]; have := hd _ (List.getElem_mem hi); omega)
      rw [hP] at H
      refine Ev.step (f := fun k => (fastiref15_has.f k (ds.getD i []) (rd x (i : Int))).bind fun t => if t = true then fastiref15_assignment.l0 k x (wrap64 ((i : Int) + 1)) ds rs else some false) (fun k => ?_) (Ev.bind1 (f := fun k t => if t = true then fastiref15_assignment.l0 k x (wrap64 ((i : Int) + 1)) ds rs else some false) H ?_)
      · simp only [fastiref15_assignment.l0]
        rw [if_pos (by omega), if_pos (by omega), if_pos (by omega), L1n]
      · simp only [Bool.false_eq_true, if_false]
        exact Ev.now _
    · intro _
      refine Ev.eq fun k => ?_
      simp only [fastiref15_assignment.l0]
      rw [if_neg (by omega)]
  · rw [decide_eq_false he, Bool.false_and]
    exact Ev.congr (fun k => if_neg (by omega)) (Ev.now _)
theorem asg_mem {ds : M} {x : List Int} (h : asgB ds x = true) {v : Int} (hv : v ∈ x) : ∃ d ∈ ds, v ∈ d := by
  unfold asgB at h
  simp only [Bool.and_eq_true, decide_eq_true_eq, List.all_eq_true] at h
  obtain ⟨i, hi, rfl⟩ := List.mem_iff_getElem.1 hv
  have := h.2 i (List.mem_range.2 (by omega))
  rw [eh hi, bL (by omega)] at this
  exact ⟨_, List.getElem_mem _, this⟩
theorem fC {p q : Int → Int → Bool} {l : List Int} (h : ∀ a ∈ l, ∀ b ∈ l, p a b = q a b) : fu p l = fu q l := by
  unfold fu
  rw [Bool.eq_iff_iff]
  simp only [List.all_eq_true, List.mem_range]
  constructor
  · intro hh i hi j hj
    have := hh i hi j hj
    rwa [h _ (rd_mem (by omega)) _ (rd_mem hi)] at this
  · intro hh i hi j hj
    have := hh i hi j hj
    rwa [← h _ (rd_mem (by omega)) _ (rd_mem hi)] at this
theorem fulfil_eq (r : S49) (v : List Int) (h1 : 1 ≤ r.f0) (h2 : r.f0 ≤ 4) (hv : ∀ a ∈ v, 0 ≤ a ∧ a ≤ 73048) : fulfilledB r v = gX r v := by
  unfold fulfilledB gX
  by_cases k1 : r.f0 = 1
  · rw [if_pos k1, if_pos k1]
  · rw [if_neg k1, if_neg k1]
    by_cases k2 : r.f0 = 2
    · rw [if_pos k2]
      refine fC fun a _ b _ => ?_
      unfold badR
      rw [if_pos k2, Bool.eq_iff_iff, beq_iff_eq, decide_eq_true_eq]
      exact ⟨fun h => h.symm, fun h => h.symm⟩
    · rw [if_neg k2]
      by_cases k3 : r.f0 = 3
      · rw [if_pos k3]
        refine fC fun a ha b hb => ?_
        have ha := hv a ha
        have hb := hv b hb
        unfold badR
        rw [if_neg k2, if_pos k3]
        unfold iw
        rw [w64 (by omega) (by omega), w64 (by omega) (by omega), w64 (by omega) (by omega)]
        by_cases hg : b - a ≥ r.f1
        · rw [if_pos hg, decide_eq_false (by omega)]; rfl
        · rw [if_neg hg]
          by_cases hg' : a - b ≥ r.f1
          · rw [decide_eq_true hg', decide_eq_false (by omega)]; rfl
          · rw [decide_eq_false hg', decide_eq_true (by omega)]; rfl
      · rw [if_neg k3]
        refine fC fun a _ b _ => ?_
        unfold badR
        rw [if_neg k2, if_neg k3, if_pos (by omega)]
theorem breaks_ref (r : S49) (n : Int) (x : List Int) (hr : validB r n = true) (hl : r.f2.length ≤ 12) (hx : ∀ a ∈ x, 0 ≤ a ∧ a ≤ 73048) : Ev (fun k => fastiref15_Breaks.f k r.f0 r.f1 r.f2 r.f3 x) (brokenB r x) := by
  obtain ⟨_, _, h1, h2, hk⟩ := valid_ok hr hl
  unfold fastiref15_Breaks.f
  have L := ce (fun k i => fastiref15_Breaks.l0 k x ((r.f2.take i).map (rd x)) (i : Int) r.f0 r.f1 r.f2 r.f3) (fun i => decide (r.f2.getD i 0 < (x.length : Int))) r.f2.length (!gX r (r.f2.map (rd x))) false ?_ ?_ ?_
  · rw [db r.f2 0 (fun k => decide (k < (x.length : Int)))] at L
    exact L
  · intro i hi hP r' h'
    have hP := of_decide_eq_true hP
    have h0 := (hk _ (List.getElem_mem hi)).1
    rw [bL hi] at hP
    have hg : rd r.f2 (i : Int) = r.f2[i] := eh hi
    have ht : (r.f2.take (i + 1)).map (rd x) = (r.f2.take i).map (rd x) ++ [rd x r.f2[i]] := by rw [take_get hi, List.map_append]; rfl
    refine Ev.step (f := fun k => fastiref15_Breaks.l0 k x ((r.f2.take (i + 1)).map (rd x)) (wrap64 ((i : Int) + 1)) r.f0 r.f1 r.f2 r.f3) (fun k => ?_) (by rw [gV i (by omega)]; exact h')
    simp only [fastiref15_Breaks.l0, hg]
    rw [if_pos (by omega), if_pos (by omega), if_neg (by omega), if_pos (by omega), if_pos (by omega), if_pos (by rw [List.length_map, List.length_take]; omega), ht]
  · intro i hi hP
    have hP := of_decide_eq_false hP
    rw [bL hi] at hP
    have hg : rd r.f2 (i : Int) = r.f2[i] := eh hi
    refine Ev.eq fun k => ?_
    simp only [fastiref15_Breaks.l0, hg]
    rw [if_pos (by omega), if_pos (by omega), if_pos (by omega)]
  · intro hall
    refine Ev.eq fun k => ?_
    simp only [fastiref15_Breaks.l0, fastiref15_fulfilled.f, Option.bind_some]
    rw [if_neg (by omega), List.take_length]
    rw [show fulfilledB ⟨r.f0, r.f1, r.f2, r.f3⟩ (r.f2.map (rd x)) = gX r (r.f2.map (rd x)) from fulfil_eq r _ h1 h2 fun a ha => by
      obtain ⟨q, hq, rfl⟩ := List.mem_map.1 ha
      obtain ⟨i, hi, rfl⟩ := List.mem_iff_getElem.1 hq
      have hb := of_decide_eq_true (hall i hi)
      rw [bL hi] at hb
      have h0 := (hk _ (List.getElem_mem hi)).1
      obtain ⟨t, ht⟩ : ∃ t : Nat, r.f2[i] = (t : Int) := ⟨r.f2[i].toNat, by omega⟩
      rw [ht] at hb ⊢
      exact hx _ (rd_mem (by omega))]
def dj (rs : List S49) (x : List Int) (n : Nat) : List Int := ((List.range n).filter fun i => brokenB (rs.getD i z49) x).map fun i : Nat => (i : Int)
theorem brkUp_succ (rs : List S49) (x : List Int) (i : Nat) : dj rs x (i + 1) = if brokenB (rs.getD i z49) x then dj rs x i ++ [(i : Int)] else dj rs x i := by
  unfold dj
  rw [List.range_succ, List.filter_append, List.map_append]
  cases h : brokenB (rs.getD i z49) x
  · rw [List.filter_cons_of_neg (by show ¬ (brokenB (rs.getD i z49) x = true); rw [h]; simp), List.filter_nil, List.map_nil, List.append_nil]
    rfl
  · rw [List.filter_cons_of_pos (by show brokenB (rs.getD i z49) x = true; exact h), List.filter_nil]
    rfl
theorem je (rs : List S49) (x : List Int) (i : Nat) : (dj rs x i).length ≤ i := by
  unfold dj
  rw [List.length_map]
  have := List.length_filter_le (fun i => brokenB (rs.getD i z49) x) (List.range i)
  rwa [List.length_range] at this
theorem broken_ref (ds : M) (rs : List S49) (x : List Int) (h : Ok ds rs) (hx : ∀ a ∈ x, 0 ≤ a ∧ a ≤ 73048) : Ev (fun k => fastiref15_Broken.l0 k x [] 0 ds rs) (dj rs x rs.length, 0) := by
  have L := ce (fun k i => fastiref15_Broken.l0 k x (dj rs x i) (i : Int) ds rs) (fun _ => true) rs.length (dj rs x rs.length, (0 : Int)) (([] : List Int), (0 : Int)) ?_ ?_ ?_
  · have := h.rl
    rw [if_pos (List.all_eq_true.2 fun _ _ => rfl)] at L
    exact L
  · intro i hi _ r h'
    have hrl := h.rl
    have B := breaks_ref (rs.getD i z49) (ds.length : Int) x (by rw [bL hi]; exact h.val _ (List.getElem_mem hi)) (by rw [bL hi]; exact (h.rok _ (List.getElem_mem hi)).1) hx
    refine Ev.step (f := fun k => (fastiref15_Breaks.f k (rs.getD i z49).f0 (rs.getD i z49).f1 (rs.getD i z49).f2 (rs.getD i z49).f3 x).bind fun t => if t = true then (if (dj rs x i).length < 17592186044416 then fastiref15_Broken.l0 k x (dj rs x i ++ [(i : Int)]) (wrap64 ((i : Int) + 1)) ds rs else none) else fastiref15_Broken.l0 k x (dj rs x i) (wrap64 ((i : Int) + 1)) ds rs) (fun k => ?_)
      (Ev.bind1 (f := fun k t => if t = true then (if (dj rs x i).length < 17592186044416 then fastiref15_Broken.l0 k x (dj rs x i ++ [(i : Int)]) (wrap64 ((i : Int) + 1)) ds rs else none) else fastiref15_Broken.l0 k x (dj rs x i) (wrap64 ((i : Int) + 1)) ds rs) B ?_)
    · simp only [fastiref15_Broken.l0]
      rw [if_pos (by omega), if_pos (by omega), T49n]
    · have hle := je rs x i
      have hs := brkUp_succ rs x i
      have g : (dj rs x i).length < 17592186044416 := by omega
      rw [hs] at h'
      cases hb : brokenB (rs.getD i z49) x
      · rw [hb] at h'
        simp only [Bool.false_eq_true, if_false, gV i (show i < 4611686018427387904 by omega)] at h' ⊢
        exact h'
      · rw [hb] at h'
        simp only [if_true, if_pos g, gV i (show i < 4611686018427387904 by omega)] at h' ⊢
        exact h'
  · intro i hi hP
    cases hP
  · intro _
    refine Ev.eq fun k => ?_
    simp only [fastiref15_Broken.l0]
    rw [if_neg (by omega)]
theorem broken_prog (ds : M) (rs : List S49) (x : List Int) (h : Ok ds rs) : Ev (fun k => search_Broken.l1 k x [] rs (rs.length : Int) 0) (dj rs x rs.length, 0) := by
  have hrl := h.rl
  have L := ce (fun k i => search_Broken.l1 k x (dj rs x i) rs (rs.length : Int) (i : Int)) (fun _ => true) rs.length (dj rs x rs.length, (0 : Int)) (([] : List Int), (0 : Int)) ?_ ?_ ?_
  · rw [if_pos (List.all_eq_true.2 fun _ _ => rfl)] at L
    exact L
  · intro i hi _ r h'
    have hok := (valid_ok (h.val _ (List.getElem_mem hi)) (h.rok _ (List.getElem_mem hi)).1).1
    have hb : search_broken.f (rs.getD i z49).f0 (rs.getD i z49).f1 (rs.getD i z49).f2 (rs.getD i z49).f3 x = some (brokenB (rs.getD i z49) x) := by
      unfold search_broken.f
      rw [bL hi]
      exact if_pos hok
    have hle := je rs x i
    have hs := brkUp_succ rs x i
    have g : (dj rs x i).length < 17592186044416 := by omega
    rw [hs] at h'
    refine Ev.step (f := fun k => search_Broken.l1 k x (if brokenB (rs.getD i z49) x then dj rs x i ++ [(i : Int)] else dj rs x i) rs (rs.length : Int) (wrap64 ((i : Int) + 1))) (fun k => ?_) (by rw [gV i (show i < 4611686018427387904 by omega)]; exact h')
    simp only [search_Broken.l1]
    rw [if_pos (by omega), if_pos (by omega), if_pos (by omega), T49n, hb, Option.bind_some, if_pos g]
    cases brokenB (rs.getD i z49) x <;> rfl
  · intro i hi hP
    cases hP
  · intro _
    refine Ev.eq fun k => ?_
    simp only [search_Broken.l1]
    rw [if_neg (by omega)]
def brkR (ds : M) (rs : List S49) (x : List Int) : List Int × Int := if chk ds rs = 0 then (if asgB ds x then (dj rs x rs.length, 0) else ([], 1)) else ([], chk ds rs)
theorem Broken_ref (ds : M) (rs : List S49) (x : List Int) : Ev (fun k => fastiref15_Broken.f k ds rs x) (brkR ds rs x) := by
  unfold fastiref15_Broken.f brkR
  refine Ev.bind1 (f := fun k t => if t = 0 then ((fastiref15_assignment.f k ds rs x).bind fun t352 => if t352 = true then fastiref15_Broken.l0 k x [] 0 ds rs else some ([], 1)) else some ([], t)) (iU ds rs) ?_
  by_cases hc : chk ds rs = 0
  · have h := chk_ok hc
    simp only [if_pos hc]
    refine Ev.bind1 (f := fun k t => if t = true then fastiref15_Broken.l0 k x [] 0 ds rs else some ([], 1)) (asg_ref ds rs x h.len h.dl) ?_
    cases ha : asgB ds x
    · simp only [Bool.false_eq_true, if_false]
      exact Ev.now _
    · simp only [if_true]
      exact broken_ref ds rs x h fun a haa => by
        obtain ⟨d, hd, hv⟩ := asg_mem ha haa
        exact dom_range (h.dom d hd) hv
  · simp only [if_neg hc]
    exact Ev.now _
theorem Broken_prog (ds : M) (rs : List S49) (x : List Int) : Ev (fun k => search_Broken.f k ds rs x) (brkR ds rs x) := by
  unfold search_Broken.f brkR
  refine Ev.bind1 (f := fun k t => if t = 0 then (if (x.length : Int) = (ds.length : Int) then search_Broken.l0 k x [] ds (ds.length : Int) 0 ds rs else some ([], 1)) else some ([], t)) (gU ds rs) ?_
  by_cases hc : chk ds rs = 0
  · have h := chk_ok hc
    have hdl := h.len
    simp only [if_pos hc]
    by_cases he : x.length = ds.length
    · simp only [if_pos (show (x.length : Int) = (ds.length : Int) by omega)]
      have L := ce (fun k i => search_Broken.l0 k x [] ds (ds.length : Int) (i : Int) ds rs) (fun i => decide (rd x (i : Int) ∈ ds.getD i [])) ds.length (dj rs x rs.length, (0 : Int)) ([], (1 : Int)) ?_ ?_ ?_
      · unfold asgB
        rw [decide_eq_true he, Bool.true_and]
        exact L
      · intro i hi hP r h'
        have hd := h.dom _ (List.getElem_mem hi)
        obtain ⟨p, H⟩ := bins (ds.getD i []) (rd x (i : Int)) (by rw [bL hi]; exact dom_asc hd) (by rw [bL hi]; have := h.dl _ (List.getElem_mem hi); omega)
        rw [hP] at H
        refine Ev.step (f := fun k => (slices_BinarySearch_int_int.f k (ds.getD i []) (rd x (i : Int))).bind fun t => if t.2 = true then search_Broken.l0 k x [] ds (ds.length : Int) (wrap64 ((i : Int) + 1)) ds rs else some ([], 1)) (fun k => ?_) (Ev.bind1 (f := fun k t => if t.2 = true then search_Broken.l0 k x [] ds (ds.length : Int) (wrap64 ((i : Int) + 1)) ds rs else some ([], 1)) H ?_)
        · simp only [search_Broken.l0]
          rw [if_pos (by omega), if_pos (by omega), if_pos (by omega), if_pos (by omega), L1n]
        · simp only [if_true, gV i (show i < 4611686018427387904 by omega)]
          exact h'
      · intro i hi hP
        have hd := h.dom _ (List.getElem_mem hi)
        obtain ⟨p, H⟩ := bins (ds.getD i []) (rd x (i : Int)) (by rw [bL hi]; exact dom_asc hd) (by rw [bL hi]; have := h.dl _ (List.getElem_mem hi); omega)
        rw [hP] at H
        refine Ev.step (f := fun k => (slices_BinarySearch_int_int.f k (ds.getD i []) (rd x (i : Int))).bind fun t => if t.2 = true then search_Broken.l0 k x [] ds (ds.length : Int) (wrap64 ((i : Int) + 1)) ds rs else some ([], 1)) (fun k => ?_) (Ev.bind1 (f := fun k t => if t.2 = true then search_Broken.l0 k x [] ds (ds.length : Int) (wrap64 ((i : Int) + 1)) ds rs else some ([], 1)) H ?_)
        · simp only [search_Broken.l0]
          rw [if_pos (by omega), if_pos (by omega), if_pos (by omega), if_pos (by omega), L1n]
        · simp only [Bool.false_eq_true, if_false]
          exact Ev.now _
      · intro _
        refine Ev.step (f := fun k => search_Broken.l1 k x [] rs (rs.length : Int) 0) (fun k => ?_) (broken_prog ds rs x h)
        simp only [search_Broken.l0]
        rw [if_neg (by omega)]
    · simp only [if_neg (show ¬ ((x.length : Int) = (ds.length : Int)) by omega)]
      unfold asgB
      rw [decide_eq_false he]
      exact Ev.now _
  · simp only [if_neg hc]
    exact Ev.now _
end Go.Proofs.Ytcbpkdemcdikaaa.QK
