/- Proved here: what play returns for other numbers (CR) -/
import Derived.Test.YtaadhandkljcdaaX0
import Derived.Test.YtaadhandkljcdaaK
import Derived.Test.YtaadhandkljcdaaXMake
import Derived.Deep.Cut
import Derived.BigQuiet
import Derived.Defers
import Derived.RegionTactic
namespace Go.Proofs.Ytaadhandkljcdaa.X
open Go.RowKit Go.Proofs.YtaadhandkljcdaaW.PrintWords Go.Proofs.YtaadhandkljcdaaW.PrintLast Go.Proofs.YtaadhandkljcdaaW.PrintMore
attribute [local go_sem] max2_int min2_int max_two min_two max_three min_three max_four min_four
set_option linter.unusedVariables false
set_option linter.unusedSimpArgs false
namespace CR
open Go.Proofs.Ytaadhandkljcdaa.K CM
attribute [local go_sem] Oper.semAt_some
set_option maxRecDepth 100000 in
set_option maxHeartbeats 16000000 in
theorem play_bad (a0 : Int) (h : ¬ (2 ≤ a0 ∧ a0 ≤ 64)) (A1 : Option Addr) (n1 c1 : Nat) (w : World) :
    Calls Try.prog 29 #[.int .i64 a0, .slice A1 n1 c1] w fun e w' => e = .returned (.tuple #[.pointer none, .int .i64 1]) ∧ Below w.heap.size w w' := by
  go_enter_defers Try.func29, Try.ntmps29
  go_wp2_with fail
  refine (CK.make_bad a0 h _).mono ?_
  rintro e w1 ⟨rfl, hb1⟩
  have e4 := (hb1.block w.heap.size (by simp; omega)).trans ((blk_old _ (.cells #[.int .i64 0] 23) (by simp)).trans (blk_new w (.cells #[.pointer none] 53)))
  have e5 := (hb1.block (w.heap.size + 1) (by simp)).trans (blk_at (w.alloc (.cells #[.pointer none] 53)) (.cells #[.int .i64 0] 23) (by simp))
  have c5 := blk_cell e5 0
  have f5 := blk_frozen e5 0
  simp only [List.getElem?_toArray, List.getElem?_cons_zero] at c5
  have e5' := blk_set e5 0 (.int .i64 1)
  simp only [List.setIfInBounds_toArray, List.set_cons_zero] at e5'
  have c5' := blk_cell e5' 0
  simp only [List.getElem?_toArray, List.getElem?_cons_zero] at c5'
  have c4 := blk_cell e4 0
  have f4 := blk_frozen e4 0
  simp only [List.getElem?_toArray, List.getElem?_cons_zero] at c4
  have hb1' : Below w.heap.size w w1 := (below_alloc (below_alloc (Below.refl _ _) _) _).trans (hb1.mono (by simp; omega))
  have HB1 := Aside0.mk hb1'
  have E4 := Aside0.mk e4
  have E5 := Aside0.mk e5'
  clear hb1 hb1' h e4 e5 e5'
  go_wp2_with fail
  go_region
  all_goals go_wp2_with fail
  have hne : w.heap.size ≠ w.heap.size + 1 := by omega
  have k4 : (w1.setCell ⟨w.heap.size + 1, 0, none⟩ (.int .i64 1)).heap[w.heap.size]? = some (.cells #[.pointer none] 53 (0, 0)) := (CM.set_ne hne _).trans E4.out
  have k5 := blk_set k4 0 (.pointer none)
  simp only [List.setIfInBounds_toArray, List.set_cons_zero] at k5
  have k6 : (((w1.setCell ⟨w.heap.size + 1, 0, none⟩ (.int .i64 1)).setCell ⟨w.heap.size, 0, none⟩ (.pointer none)).setCell ⟨w.heap.size + 1, 0, none⟩ (.int .i64 1)).heap[w.heap.size]? = _ := (CM.set_ne hne _).trans k5
  have m5 : ((w1.setCell ⟨w.heap.size + 1, 0, none⟩ (.int .i64 1)).setCell ⟨w.heap.size, 0, none⟩ (.pointer none)).heap[w.heap.size + 1]? = _ := (CM.set_ne (Ne.symm hne) _).trans E5.out
  have m6 := blk_set m5 0 (.int .i64 1)
  simp only [List.setIfInBounds_toArray, List.set_cons_zero] at m6
  have z4 := blk_cell k6 0
  have z5 := blk_cell m6 0
  simp only [List.getElem?_toArray, List.getElem?_cons_zero] at z4 z5
  have hbf := below_drew1 (below_set (j := 0) (v := .int .i64 1) (below_set (j := 0) (v := .pointer none) (below_set (j := 0) (v := .int .i64 1) HB1.out (Nat.le_succ _)) (Nat.le_refl _)) (Nat.le_succ w.heap.size))
  simp [bodyPostD, Leaves, settle, results, Try.results29, go_sem, z4, z5]
  exact hbf
end CR
end Go.Proofs.Ytaadhandkljcdaa.X
