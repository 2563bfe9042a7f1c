/- Proved here: what scanner.space, name and wrong do (LS.Stp) -/
import Derived.Test.YtcckpmijdckocaaDoorX0
import Derived.Test.YtcckpmijdckocaaDoorXLx
import Derived.Test.YtcckpmijdckocaaDoorXRun
import Derived.Test.YtcckpmijdckocaaDoorXAdd
import Derived.Test.YtcckpmijdckocaaDoorXLx
import Derived.Test.YtcckpmijdckocaaDoorXRun
import Derived.Test.YtcckpmijdckocaaDoorXAdd
import Derived.Deep.RegionWith
namespace Go.Proofs.YtcckpmijdckocaaDoor.X
open Go.RowKit Go.Proofs.YtcckpmijdckocaaDoorW.PrintWords Go.Proofs.YtcckpmijdckocaaDoorW.PrintLast Go.Proofs.YtcckpmijdckocaaDoorW.PrintMore
attribute [local go_sem] max2_int min2_int max_two min_two max_three min_three max_four min_four
set_option linter.unusedVariables false
set_option linter.unusedSimpArgs false
namespace LS
open Go.Proofs.YtcckpmijdckocaaDoor.K LX
attribute [local go_sem] Oper.semAt_some
set_option maxHeartbeats 8000000
set_option maxRecDepth 100000
/-- What one step of the scanner does. -/
def Stp (src : ByteArray) (sb at_ : Nat) (l : List S35) (w : World) (r : Option (List S35 × Nat)) (e : Ending) (w' : World) : Prop :=
  match r with
  | none => e = .panicked (thrown at_) ∧ Below sb w w'
  | some (ts, n) => e = .returned (.tuple #[]) ∧ (∃ A' cap', Sc src sb (at_ + n) (l ++ ts) A' cap' w') ∧ Below sb w w'
theorem Sc.moved {src : ByteArray} {sb at_ : Nat} {l : List S35} {A : Option Addr} {cap : Nat} {W : World} (h : Sc src sb at_ l A cap W) (n : Nat) : Sc src sb (at_ + n) l A cap (W.setCell ⟨sb, 1, none⟩ (.int .i64 ((at_ : Int) + (n : Int)))) := by
  refine ⟨?_, own_setCell h.own (p := ⟨sb, 1, none⟩) (fun e => ?_) _, by have := h.len; omega⟩
  · have h1 := blk_set h.blk 1 (.int .i64 ((at_ : Int) + (n : Int)))
    rw [h1]
    show _ = some (Obj.cells (#[.string src, .int .i64 ((at_ + n : Nat) : Int), .slice A l.length cap]) 49 (0, 0))
    rw [Int.natCast_add]
    rfl
  · have := own_base h.own sb e.symm
    omega
theorem wrp (a n : Nat) (h : a + n ≤ 131072) : IntKind.i64.wrap ((a : Int) + (n : Int)) = (a : Int) + (n : Int) := by
  rw [i64_w]
  exact w64 (by omega) (by omega)
theorem wrong_calls (src : ByteArray) (sb at_ : Nat) (l : List S35) (A : Option Addr) (cap : Nat) (w : World) (hS : Sc src sb at_ l A cap w) (hsb : sb < w.heap.size) :
    Calls Tryd.prog 25 #[.pointer (some ⟨sb, 0, none⟩)] w (Stp src sb at_ l w none) := by
  have c1 := blk_cell hS.blk 1
  simp only [List.getElem?_toArray, List.getElem?_cons_zero, List.getElem?_cons_succ] at c1
  clear hS
  unfold Stp
  go_enter Tryd.func25, Tryd.ntmps25
  go_wp2_with fail
  exact ⟨rfl, rfl, Below.refl _ _⟩
theorem take_run (src : ByteArray) (at_ n : Nat) : src.extract at_ (at_ + n) = mk (((bs src).drop at_).take n) := mk_extract src at_ n
theorem space_calls (src : ByteArray) (hsrc : src.size ≤ 65536) (sb at_ : Nat) (hat : at_ ≤ src.size) (l : List S35) (A : Option Addr) (cap : Nat) (w : World) (hS : Sc src sb at_ l A cap w) :
    Calls Tryd.prog 26 #[.pointer (some ⟨sb, 0, none⟩)] w (Stp src sb at_ l w (some ([], runN [1] ((bs src).drop at_)))) := by
  have hrl := runN_le [1] ((bs src).drop at_)
  rw [List.length_drop, bs_len] at hrl
  have hrun := run_calls [1] src hsrc at_ hat (.slice A l.length cap) sb w.heap.size 1 (w.alloc (.cells #[.int .i64 1] 3)).drew (blk_drew (blk_alloc hS.blk _)) (blk_drew (blk_new w _)) (by decide)
  obtain ⟨n, hn⟩ : ∃ n, runN [1] ((bs src).drop at_) = n := ⟨_, rfl⟩
  rw [hn] at hrun hrl ⊢
  have hsz : (src.extract at_ (at_ + n)).size = n := by rw [ByteArray.size_extract]; omega
  obtain ⟨t, ht⟩ : ∃ t, src.extract at_ (at_ + n) = t := ⟨_, rfl⟩
  rw [ht] at hrun hsz
  have c1 := blk_cell hS.blk 1
  simp only [List.getElem?_toArray, List.getElem?_cons_zero, List.getElem?_cons_succ] at c1
  have c1a : (w.alloc (.cells #[.int .i64 1] 3)).cell? ⟨sb, 1, none⟩ = some (.int .i64 (at_ : Int)) := pw_cell_below (below_alloc (Below.refl w.heap.size w) _) c1
  have HS := Aside0.mk hS
  have HRUN := Aside0.mk hrun
  clear hS hrun hn ht
  go_enter Tryd.func26, Tryd.ntmps26
  go_wp2_with fail
  go_region_with (
    (go_at_call 43; refine (HRUN.out).mono ?_; rintro e w1 ⟨rfl, hb1⟩
     have S1 := (HS.out.below (below_drew (below_alloc (Below.refl w.heap.size w) (.cells #[.int .i64 1] 3)))).below (below_mono hb1 (Nat.le_refl _))
     have B1 := below_then (below_drew (below_alloc (Below.refl w.heap.size w) (.cells #[.int .i64 1] 3))) (below_drew (below_alloc (Below.refl w.heap.size w) (.cells #[.int .i64 1] 3))).size hb1
     have d1 := blk_cell S1.blk 1
     have z1 := blk_frozen S1.blk 1
     simp only [List.getElem?_toArray, List.getElem?_cons_zero, List.getElem?_cons_succ] at d1
     have SC1 := Aside0.mk S1
     have HB1 := Aside0.mk B1
     clear S1 B1 hb1))
  all_goals
    rw [wrp at_ n (by omega)]
    exact bodyPost_end (v := .tuple #[]) (by simp [results, Tryd.results26, go_sem]) rfl ⟨rfl, ⟨A, cap, by rw [List.append_nil]; exact SC1.out.moved n⟩, (below_mono HB1.out HS.out.lt).setCell (Nat.le_refl _) _⟩
theorem name_calls (src : ByteArray) (hsrc : src.size ≤ 65536) (sb at_ : Nat) (hat : at_ < src.size) (l : List S35) (A : Option Addr) (cap : Nat) (w : World) (hS : Sc src sb at_ l A cap w) :
    Calls Tryd.prog 27 #[.pointer (some ⟨sb, 0, none⟩)] w (Stp src sb at_ l w (if nameL (((bs src).drop at_).take (runN [2, 3, 5] ((bs src).drop at_))) then some ([⟨1, mk (((bs src).drop at_).take (runN [2, 3, 5] ((bs src).drop at_))), 0, at_⟩], runN [2, 3, 5] ((bs src).drop at_)) else none)) := by
  have hrl := runN_le [2, 3, 5] ((bs src).drop at_)
  rw [List.length_drop, bs_len] at hrl
  have hrun := run_calls [2, 3, 5] src hsrc at_ (Nat.le_of_lt hat) (.slice A l.length cap) sb w.heap.size 3 (w.alloc (.cells #[.int .i64 2, .int .i64 3, .int .i64 5] 3)) (blk_alloc hS.blk _) (blk_new w _) (by decide)
  rw [mk_extract] at hrun
  obtain ⟨n, hn⟩ : ∃ n, runN [2, 3, 5] ((bs src).drop at_) = n := ⟨_, rfl⟩
  rw [hn] at hrun hrl ⊢
  have hlen : (((bs src).drop at_).take n).length = n := by rw [List.length_take, List.length_drop, bs_len]; omega
  obtain ⟨t, ht⟩ : ∃ t, ((bs src).drop at_).take n = t := ⟨_, rfl⟩
  rw [ht] at hrun hlen ⊢
  have HS := Aside0.mk hS
  have HRUN := Aside0.mk hrun
  have hsz : (mk t).size = n := by rw [← bs_len, bs_mk]; exact hlen
  have hva : validB ⟨1, mk t, 0, 0⟩ = nameL t := by simp [validB, bs_mk]
  have HHS := Aside0.mk hsz
  have HVA := Aside0.mk hva
  clear hS hrun hn ht hsz hva
  have bad : ∀ w1, Sc src sb at_ l A cap w1 → Below w.heap.size w w1 → validB ⟨1, mk t, 0, 0⟩ = false → Calls Tryd.prog 44 #[.pointer (some ⟨sb, 0, none⟩), .string (mk t), .agg #[.int .i64 1, .string (mk t), .int .i64 0, .int .i64 0]] w1 fun e w' => e = .panicked (thrown at_) ∧ Below sb w w' := fun w1 h1 h2 hv => by
    refine (add_bad src sb at_ l A cap ⟨1, mk t, 0, 0⟩ (mk t) hv w1 h1).mono ?_
    rintro e w2 ⟨rfl, hb⟩
    exact ⟨rfl, below_mono (below_then h2 h2.size hb) HS.out.lt⟩
  have good : ∀ w1, Sc src sb at_ l A cap w1 → Below w.heap.size w w1 → validB ⟨1, mk t, 0, 0⟩ = true → Calls Tryd.prog 44 #[.pointer (some ⟨sb, 0, none⟩), .string (mk t), .agg #[.int .i64 1, .string (mk t), .int .i64 0, .int .i64 0]] w1 fun e w' => e = .returned (.tuple #[]) ∧ (0 < n → ∃ A' cap', Sc src sb (at_ + n) (l ++ [⟨1, mk t, 0, (at_ : Int)⟩]) A' cap' w') ∧ Below sb w w' := fun w1 h1 h2 hv => by
    refine (add_ok src sb at_ (by omega) l A cap ⟨1, mk t, 0, 0⟩ (mk t) (by rw [HHS.out]; omega) hv w1 h1 (blk_lt h1.blk)).mono ?_
    rintro e w2 ⟨rfl, hs, hb⟩
    rw [HHS.out] at hs
    exact ⟨rfl, hs, (below_mono h2 HS.out.lt).trans hb⟩
  rw [HVA.out] at bad good
  have BAD := Aside0.mk bad
  have GOOD := Aside0.mk good
  clear bad good
  cases hnm : nameL t
  · have HNM := Aside0.mk hnm
    clear hnm
    rw [if_neg (by decide)]
    go_enter Tryd.func27, Tryd.ntmps27
    go_wp2_with fail
    refine HRUN.out.mono ?_
    rintro e w1 ⟨rfl, hb1⟩
    have S1 := (HS.out.below (below_alloc (Below.refl w.heap.size w) (.cells #[.int .i64 2, .int .i64 3, .int .i64 5] 3))).below hb1
    have B1 := below_then (below_alloc (Below.refl w.heap.size w) (.cells #[.int .i64 2, .int .i64 3, .int .i64 5] 3)) (below_alloc (Below.refl w.heap.size w) _).size hb1
    have SC1 := Aside0.mk S1
    have HB1 := Aside0.mk B1
    clear S1 B1 hb1
    go_wp2_with fail
    refine (BAD.out w1 SC1.out HB1.out HNM.out).mono ?_
    rintro e w2 ⟨rfl, hb2⟩
    exact ⟨rfl, rfl, hb2⟩
  · have HNM := Aside0.mk hnm
    have hpos : 0 < n := by
      cases t with
      | nil => cases hnm
      | cons c r => rw [← hlen]; simp
    have HPOS := Aside0.mk hpos
    clear hnm hpos
    rw [if_pos rfl]
    go_enter Tryd.func27, Tryd.ntmps27
    go_wp2_with fail
    refine HRUN.out.mono ?_
    rintro e w1 ⟨rfl, hb1⟩
    have S1 := (HS.out.below (below_alloc (Below.refl w.heap.size w) (.cells #[.int .i64 2, .int .i64 3, .int .i64 5] 3))).below hb1
    have B1 := below_then (below_alloc (Below.refl w.heap.size w) (.cells #[.int .i64 2, .int .i64 3, .int .i64 5] 3)) (below_alloc (Below.refl w.heap.size w) _).size hb1
    have SC1 := Aside0.mk S1
    have HB1 := Aside0.mk B1
    clear S1 B1 hb1
    go_wp2_with fail
    refine (GOOD.out w1 SC1.out HB1.out HNM.out).mono ?_
    rintro e w2 ⟨rfl, hs2, hb2⟩
    have HS2 := Aside0.mk (hs2 HPOS.out)
    have HB2 := Aside0.mk hb2
    clear hs2 hb2
    go_wp2_with fail
    exact bodyPost_end (v := .tuple #[]) (by simp [results, Tryd.results27, go_sem]) rfl ⟨rfl, HS2.out, HB2.out⟩
end LS
end Go.Proofs.YtcckpmijdckocaaDoor.X
