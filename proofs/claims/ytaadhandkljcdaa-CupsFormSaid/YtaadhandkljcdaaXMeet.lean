/- Proved here: what Make's closure 'meet' returns (CM) -/
import Derived.Test.YtaadhandkljcdaaX0
import Derived.Test.YtaadhandkljcdaaK
import Derived.Deep.Cut
import Derived.StillTailTactics
import Derived.BigQuiet
import Derived.Laws.CopyOwn
namespace Go.Proofs.Ytaadhandkljcdaa.X
open Go.RowKit Go.Proofs.YtaadhandkljcdaaW.PrintWords Go.Proofs.YtaadhandkljcdaaW.PrintLast Go.Proofs.YtaadhandkljcdaaW.PrintMore
attribute [local go_sem] max2_int min2_int max_two min_two max_three min_three max_four min_four
set_option linter.unusedVariables false
set_option linter.unusedSimpArgs false
namespace CM
open Go.Proofs.Ytaadhandkljcdaa.K
attribute [local go_sem] Oper.semAt_some
def enc40 (s : S40) : List Value := [.int .i64 s.f0, .int .i64 s.f1, .int .i64 s.f2]
def enc42 (t : S42) : List Value := .int .i64 t.f0 :: (enc40 t.f1 ++ enc40 t.f2)
abbrev agg40 (s : S40) : Value := .agg #[.int .i64 s.f0, .int .i64 s.f1, .int .i64 s.f2]
def meetS (n round : Int) (a b : S40) (ts : List S42) : S40 × List S42 := if b.f0 = 1 ∧ n ≤ b.f1 then (a, ts) else (⟨3, (ts.length : Int), 0⟩, ts ++ [⟨round, a, b⟩])
theorem enc42_len (ts : List S42) : (ts.flatMap enc42).length = ts.length * 7 := by
  induction ts with
  | nil => rfl
  | cons t ts ih => rw [List.flatMap_cons, List.length_append, ih, List.length_cons]; simp [enc42, enc40]; omega
theorem blk_old (w : World) (o : Obj) {k : Nat} (h : k < w.heap.size) : (w.alloc o).heap[k]? = w.heap[k]? := (World.grownBy_alloc w o none).block k h (by simp)
theorem new_cells {W : World} {g : Nat} (hg : W.heap.size = g) (cs : List Value) (t : Nat) : ∀ j u, cs[j]? = some u → (W.alloc (.cells cs.toArray t)).cell? ((⟨g, 0, none⟩ : Addr).add j) = some u := fun j u hu => by
  subst hg
  rw [add_plain, blk_cell (blk_new W (.cells cs.toArray t)) j]
  simpa using hu
theorem enc42_one (t : S42) : ∀ u ∈ enc42 t, u.oneCell' = true := fun u hu => by
  simp only [enc42, enc40, List.mem_cons, List.mem_append, List.not_mem_nil, or_false] at hu
  rcases hu with rfl | (rfl | rfl | rfl) | rfl | rfl | rfl <;> rfl
theorem set_ne {w : World} {b i k : Nat} (h : k ≠ b) (v : Value) : (w.setCell ⟨b, i, none⟩ v).heap[k]? = w.heap[k]? := Below.heap_setCell _ _ _ _ h
theorem blk_at (w : World) (o : Obj) {k : Nat} (h : k = w.heap.size) : (w.alloc o).heap[k]? = some o := by
  subst h
  exact blk_new w o
set_option maxRecDepth 100000 in
set_option maxHeartbeats 16000000 in
theorem meet_calls (a b : S40) (n round : Int) (bn bt br base : Nat) (tv : Value) (ts : List S42) (w : World) (e1 : w.heap[bn]? = some (.cells #[.int .i64 n] 3 (0, 0))) (e2 : w.heap[bt]? = some (.cells #[tv] 26 (0, 0))) (e3 : w.heap[br]? = some (.cells #[.int .i64 round] 3 (0, 0)))
    (ho : w.ownsRow base 42 7 tv ts.length (ts.flatMap enc42)) (hl : ts.length ≤ 1000) (hbt : base ≤ bt) :
    Calls Try.prog 26 #[agg40 a, agg40 b, .pointer (some ⟨bn, 0, none⟩), .pointer (some ⟨bt, 0, none⟩), .pointer (some ⟨br, 0, none⟩)] w fun e w' => e = .returned (agg40 (meetS n round a b ts).1) ∧
      ∃ tv', w'.heap[bt]? = some (.cells #[tv'] 26 (0, 0)) ∧ w'.ownsRow base 42 7 tv' (meetS n round a b ts).2.length ((meetS n round a b ts).2.flatMap enc42) ∧ (∀ k, k < w.heap.size → k ≠ bt → some k ≠ tv.ownBlock → w'.heap[k]? = w.heap[k]?) ∧ Below base w w' := by
  have hbs : bt < w.heap.size := blk_lt e2
  have f1 := fun oa ob oz => blk_cell (blk_alloc (blk_alloc (blk_alloc e1 oa) ob) oz) 0
  have f2 := fun oa ob oz => blk_cell (blk_alloc (blk_alloc (blk_alloc e2 oa) ob) oz) 0
  have f3 := fun oa ob oz => blk_cell (blk_alloc (blk_alloc (blk_alloc e3 oa) ob) oz) 0
  simp only [List.getElem?_toArray, List.getElem?_cons_zero] at f1 f2 f3
  have HO := Aside0.mk ho
  have E2 := Aside0.mk e2
  have hne1 : bn ≠ bt := blk_ne e1 e2 (by decide)
  have hb3 : ∀ oa ob oz, Below base w (((w.alloc oa).alloc ob).alloc oz) := fun oa ob oz => (((Below.refl _ _).alloc (by omega) _).alloc (by simp; omega) _).alloc (by simp; omega) _
  have HB3 := Aside0.mk hb3
  have hk3 : ∀ oa ob oz k, k < w.heap.size → (((w.alloc oa).alloc ob).alloc oz).heap[k]? = w.heap[k]? := fun oa ob oz k hk => by
    exact ((blk_old _ oz (by simp; omega)).trans (blk_old _ ob (by simp; omega))).trans (blk_old _ oa hk)
  have HK3 := Aside0.mk hk3
  clear ho e1 e2 e3 hb3 hk3
  go_enter Try.func26, Try.ntmps26
  by_cases hc : b.f0 = 1 ∧ n ≤ b.f1
  · obtain ⟨hc1, hc2⟩ := hc
    have hc3 : decide (b.f1 ≥ n) = true := decide_eq_true hc2
    have hc4 : decide (n ≤ b.f1) = true := decide_eq_true hc2
    have hm : meetS n round a b ts = (a, ts) := if_pos ⟨hc1, hc2⟩
    rw [hm]
    go_wp2_with fail
    refine bodyPost_ret (v := agg40 a) (by simp [results, Try.results26, go_sem]) rfl ⟨rfl, tv, ?_, ?_, fun k hk _ _ => HK3.out _ _ _ k hk, HB3.out _ _ _⟩
    · rw [HK3.out _ _ _ bt hbs]; exact E2.out
    · exact ((HO.out.alloc _).alloc _).alloc _
  · have hm : meetS n round a b ts = (⟨3, (ts.length : Int), 0⟩, ts ++ [⟨round, a, b⟩]) := if_neg hc
    rw [hm]
    obtain ⟨i42, hi, hz0, hz1, hz2⟩ := info_parts info42
    by_cases hb0 : b.f0 = 1
    · have hc3 : decide (b.f1 ≥ n) = false := decide_eq_false (fun h => hc ⟨hb0, h⟩)
      have hc4 : decide (n ≤ b.f1) = false := decide_eq_false (fun h => hc ⟨hb0, h⟩)
      have hc5 : (b.f0 == 1) = true := by rw [beq_iff_eq]; exact hb0
      have HC := Aside0.mk hc
      have HB0 := Aside0.mk hb0
      clear hc hb0
      go_wp2_with (first | (at_builtin; refine wpList_append_own_at _ rfl _ _ 26 rfl base 42 i42 _ 7 56 Try.underlying26 hi hz0 hz1 hz2 rfl (by decide) _ _ _ rfl ((((HO.out.alloc _).alloc _).alloc _).alloc _) ⟨w.heap.size + 1 + 1 + 1, 0, none⟩ 1 1 (enc42 ⟨round, a, b⟩) rfl rfl (new_cells (by simp) _ 42) (enc42_one _) (by simp only [maxLen]; omega) (by omega) (by simp; omega) ?_
                            intro v1 w4 ho4 hg4 _ hat4
                            obtain ⟨A1, c1, rfl⟩ := own_slice ho4
                            have hg4' : World.grownBy _ w4 tv.ownBlock := hg4
                            have hlt4 : ∀ k, k < w.heap.size → some k ≠ tv.ownBlock → w4.heap[k]? = w.heap[k]? := fun k hk hne => (hg4'.block k (by simp; omega) hne).trans ((blk_old _ _ (by simp; omega)).trans (HK3.out _ _ _ k hk))
                            have e4 : w4.heap[bt]? = some (.cells #[tv] 26 (0, 0)) := (hlt4 bt hbs (own_ne HO.out E2.out (by decide))).trans E2.out
                            have r4 : w4.heap[w.heap.size + 1 + 1]? = some (.cells #[.int .i64 0, .int .i64 0, .int .i64 0] 40 (0, 0)) :=
                              (hg4'.block _ (by simp) (fun h => by have := own_lt HO.out _ h.symm; omega)).trans ((blk_old _ _ (by simp)).trans (blk_at _ _ (by simp)))
                            have hb4 : Below base w w4 := ((HB3.out _ _ _).alloc (by simp; omega) _).grown hg4' (by simp; omega) (fun k hk => own_base HO.out k hk)
                            have c4 := blk_cell e4 0
                            have f4 := blk_frozen e4 0
                            simp only [List.getElem?_toArray, List.getElem?_cons_zero] at c4
                            have e5 := blk_set e4 0 (.slice A1 (ts.length + 1) c1)
                            simp only [List.setIfInBounds_toArray, List.set_cons_zero] at e5
                            have c5 := blk_cell e5 0
                            simp only [List.getElem?_toArray, List.getElem?_cons_zero] at c5
                            have hnr : w.heap.size + 1 + 1 ≠ bt := by omega
                            have r5 : (w4.setCell ⟨bt, 0, none⟩ (.slice A1 (ts.length + 1) c1)).heap[w.heap.size + 1 + 1]? = _ := (Below.heap_setCell _ _ _ _ hnr).trans r4
                            have d0 := blk_cell r5 0
                            have d1 := blk_cell r5 1
                            have d2 := blk_cell r5 2
                            have z0 := blk_frozen r5 0
                            have z1 := blk_frozen r5 1
                            have z2 := blk_frozen r5 2
                            simp only [List.getElem?_toArray, List.getElem?_cons_zero, List.getElem?_cons_succ] at d0 d1 d2
                            have E5 := Aside0.mk e5
                            have R4 := Aside0.mk r4
                            have R5 := Aside0.mk r5
                            have HO4 := Aside0.mk ho4
                            have HL4 := Aside0.mk hlt4
                            have HB4 := Aside0.mk hb4
                            have E4 := Aside0.mk e4
                            have wl := w64 (x := (ts.length : Int) + 1 - 1) (by omega) (by omega)
                            clear e4 r4 e5 r5 hlt4 hb4 ho4 hg4 hg4' hat4))
      have b7 := blk_set (blk_set (blk_set R5.out 0 (.int .i64 3)) 1 (.int .i64 (ts.length : Int))) 2 (.int .i64 0)
      simp only [List.setIfInBounds_toArray, List.set_cons_zero, List.set_cons_succ] at b7
      have y0 := blk_cell b7 0
      have y1 := blk_cell b7 1
      have y2 := blk_cell b7 2
      simp only [List.getElem?_toArray, List.getElem?_cons_zero, List.getElem?_cons_succ] at y0 y1 y2
      have hO1 := own_setCell HO4.out (p := ⟨bt, 0, none⟩) (own_ne HO4.out E4.out (by decide)) (.slice A1 (ts.length + 1) c1)
      have hO2 := own_setCell (own_setCell (own_setCell hO1 (p := ⟨w.heap.size + 1 + 1, 0, none⟩) (own_ne HO4.out R4.out (by decide)) (.int .i64 3)) (p := ⟨w.heap.size + 1 + 1, 1, none⟩) (own_ne HO4.out R4.out (by decide)) (.int .i64 (ts.length : Int))) (p := ⟨w.heap.size + 1 + 1, 2, none⟩) (own_ne HO4.out R4.out (by decide)) (.int .i64 0)
      refine bodyPost_ret (v := agg40 ⟨3, (ts.length : Int), 0⟩) (by simp [results, Try.results26, go_sem, y0, y1, y2]) rfl ⟨rfl, .slice A1 (ts.length + 1) c1, ?_, ?_, fun k hk hkb hkt => ?_, ?_⟩
      · exact (set_ne (Ne.symm hnr) _).trans ((set_ne (Ne.symm hnr) _).trans ((set_ne (Ne.symm hnr) _).trans E5.out))
      · exact hO2
      · have hk2 : k ≠ w.heap.size + 1 + 1 := by omega
        exact (set_ne hk2 _).trans ((set_ne hk2 _).trans ((set_ne hk2 _).trans ((set_ne hkb _).trans (HL4.out k hk hkt))))
      · exact (((HB4.out.setCell hbt _).setCell (by show base ≤ w.heap.size + 1 + 1; omega) _).setCell (by show base ≤ w.heap.size + 1 + 1; omega) _).setCell (by show base ≤ w.heap.size + 1 + 1; omega) _
    · have hc3 : (b.f0 == 1) = false := by rw [beq_eq_false_iff_ne]; exact hb0
      have HC := Aside0.mk hc
      have HB0 := Aside0.mk hb0
      clear hc hb0
      go_wp2_with (first | (at_builtin; refine wpList_append_own_at _ rfl _ _ 26 rfl base 42 i42 _ 7 56 Try.underlying26 hi hz0 hz1 hz2 rfl (by decide) _ _ _ rfl ((((HO.out.alloc _).alloc _).alloc _).alloc _) ⟨w.heap.size + 1 + 1 + 1, 0, none⟩ 1 1 (enc42 ⟨round, a, b⟩) rfl rfl (new_cells (by simp) _ 42) (enc42_one _) (by simp only [maxLen]; omega) (by omega) (by simp; omega) ?_
                            intro v1 w4 ho4 hg4 _ hat4
                            obtain ⟨A1, c1, rfl⟩ := own_slice ho4
                            have hg4' : World.grownBy _ w4 tv.ownBlock := hg4
                            have hlt4 : ∀ k, k < w.heap.size → some k ≠ tv.ownBlock → w4.heap[k]? = w.heap[k]? := fun k hk hne => (hg4'.block k (by simp; omega) hne).trans ((blk_old _ _ (by simp; omega)).trans (HK3.out _ _ _ k hk))
                            have e4 : w4.heap[bt]? = some (.cells #[tv] 26 (0, 0)) := (hlt4 bt hbs (own_ne HO.out E2.out (by decide))).trans E2.out
                            have r4 : w4.heap[w.heap.size + 1 + 1]? = some (.cells #[.int .i64 0, .int .i64 0, .int .i64 0] 40 (0, 0)) :=
                              (hg4'.block _ (by simp) (fun h => by have := own_lt HO.out _ h.symm; omega)).trans ((blk_old _ _ (by simp)).trans (blk_at _ _ (by simp)))
                            have hb4 : Below base w w4 := ((HB3.out _ _ _).alloc (by simp; omega) _).grown hg4' (by simp; omega) (fun k hk => own_base HO.out k hk)
                            have c4 := blk_cell e4 0
                            have f4 := blk_frozen e4 0
                            simp only [List.getElem?_toArray, List.getElem?_cons_zero] at c4
                            have e5 := blk_set e4 0 (.slice A1 (ts.length + 1) c1)
                            simp only [List.setIfInBounds_toArray, List.set_cons_zero] at e5
                            have c5 := blk_cell e5 0
                            simp only [List.getElem?_toArray, List.getElem?_cons_zero] at c5
                            have hnr : w.heap.size + 1 + 1 ≠ bt := by omega
                            have r5 : (w4.setCell ⟨bt, 0, none⟩ (.slice A1 (ts.length + 1) c1)).heap[w.heap.size + 1 + 1]? = _ := (Below.heap_setCell _ _ _ _ hnr).trans r4
                            have d0 := blk_cell r5 0
                            have d1 := blk_cell r5 1
                            have d2 := blk_cell r5 2
                            have z0 := blk_frozen r5 0
                            have z1 := blk_frozen r5 1
                            have z2 := blk_frozen r5 2
                            simp only [List.getElem?_toArray, List.getElem?_cons_zero, List.getElem?_cons_succ] at d0 d1 d2
                            have E5 := Aside0.mk e5
                            have R4 := Aside0.mk r4
                            have R5 := Aside0.mk r5
                            have HO4 := Aside0.mk ho4
                            have HL4 := Aside0.mk hlt4
                            have HB4 := Aside0.mk hb4
                            have E4 := Aside0.mk e4
                            have wl := w64 (x := (ts.length : Int) + 1 - 1) (by omega) (by omega)
                            clear e4 r4 e5 r5 hlt4 hb4 ho4 hg4 hg4' hat4))
      have b7 := blk_set (blk_set (blk_set R5.out 0 (.int .i64 3)) 1 (.int .i64 (ts.length : Int))) 2 (.int .i64 0)
      simp only [List.setIfInBounds_toArray, List.set_cons_zero, List.set_cons_succ] at b7
      have y0 := blk_cell b7 0
      have y1 := blk_cell b7 1
      have y2 := blk_cell b7 2
      simp only [List.getElem?_toArray, List.getElem?_cons_zero, List.getElem?_cons_succ] at y0 y1 y2
      have hO1 := own_setCell HO4.out (p := ⟨bt, 0, none⟩) (own_ne HO4.out E4.out (by decide)) (.slice A1 (ts.length + 1) c1)
      have hO2 := own_setCell (own_setCell (own_setCell hO1 (p := ⟨w.heap.size + 1 + 1, 0, none⟩) (own_ne HO4.out R4.out (by decide)) (.int .i64 3)) (p := ⟨w.heap.size + 1 + 1, 1, none⟩) (own_ne HO4.out R4.out (by decide)) (.int .i64 (ts.length : Int))) (p := ⟨w.heap.size + 1 + 1, 2, none⟩) (own_ne HO4.out R4.out (by decide)) (.int .i64 0)
      refine bodyPost_ret (v := agg40 ⟨3, (ts.length : Int), 0⟩) (by simp [results, Try.results26, go_sem, y0, y1, y2]) rfl ⟨rfl, .slice A1 (ts.length + 1) c1, ?_, ?_, fun k hk hkb hkt => ?_, ?_⟩
      · exact (set_ne (Ne.symm hnr) _).trans ((set_ne (Ne.symm hnr) _).trans ((set_ne (Ne.symm hnr) _).trans E5.out))
      · exact hO2
      · have hk2 : k ≠ w.heap.size + 1 + 1 := by omega
        exact (set_ne hk2 _).trans ((set_ne hk2 _).trans ((set_ne hk2 _).trans ((set_ne hkb _).trans (HL4.out k hk hkt))))
      · exact (((HB4.out.setCell hbt _).setCell (by show base ≤ w.heap.size + 1 + 1; omega) _).setCell (by show base ≤ w.heap.size + 1 + 1; omega) _).setCell (by show base ≤ w.heap.size + 1 + 1; omega) _
end CM
end Go.Proofs.Ytaadhandkljcdaa.X
