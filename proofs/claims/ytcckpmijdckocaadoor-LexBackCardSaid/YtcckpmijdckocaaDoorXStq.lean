/- Proved here: what scanner.number does (LS.number_calls) -/
import Derived.Test.YtcckpmijdckocaaDoorX0
import Derived.Test.YtcckpmijdckocaaDoorXLx
import Derived.Test.YtcckpmijdckocaaDoorXRun
import Derived.Test.YtcckpmijdckocaaDoorXAdd
import Derived.Test.YtcckpmijdckocaaDoorXStp
import Derived.Test.YtcckpmijdckocaaDoorXLx
import Derived.Test.YtcckpmijdckocaaDoorXRun
import Derived.Test.YtcckpmijdckocaaDoorXAdd
import Derived.Test.YtcckpmijdckocaaDoorXStp
import Derived.Deep.RegionWith
namespace Go.Proofs.YtcckpmijdckocaaDoor.X
open Go.RowKit Go.Proofs.YtcckpmijdckocaaDoorW.PrintWords Go.Proofs.YtcckpmijdckocaaDoorW.PrintLast Go.Proofs.YtcckpmijdckocaaDoorW.PrintMore
attribute [local go_sem] max2_int min2_int max_two min_two max_three min_three max_four min_four
set_option linter.unusedVariables false
set_option linter.unusedSimpArgs false
namespace LS
open Go.Proofs.YtcckpmijdckocaaDoor.K LX
attribute [local go_sem] Oper.semAt_some
set_option maxHeartbeats 8000000
set_option maxRecDepth 100000
/-- How strconv.Atoi ends, in one word. -/
def AtoiRes (l : List UInt8) (v : Int) (ev : Value) : Prop :=
  match Lib.atoiAll l with
  | .ok u => v = u ∧ ev = .nilIface
  | _ => ∃ N : Nat, ev = .iface 79 (.pointer (some ⟨N, 0, none⟩))
theorem bytes_world_below (w : World) (t : ByteArray) : Below w.heap.size w (Lib.bytesWorld w 5 t) := bytes_below (Below.refl _ _) (Nat.le_refl _) 5 t
theorem atoi_calls (s : ByteArray) (hs : s.size ≤ 65536) (w : World) (hgl : GX.Glob w) :
    Calls Tryd.prog 45 #[.string s] w fun e w' => ∃ v ev, e = .returned (.tuple #[.int .i64 v, ev]) ∧ AtoiRes (bs s) v ev ∧ Below w.heap.size w w' := by
  unfold AtoiRes
  cases h : Lib.atoiAll (bs s) with
  | ok u =>
    refine (Tryd.strconv_Atoi_ok s (by omega) u h w).mono ?_
    rintro e w' ⟨rfl, hw⟩
    refine ⟨u, .nilIface, rfl, ⟨rfl, rfl⟩, ?_⟩
    rcases hw with rfl | ⟨t, rfl⟩
    · exact Below.refl _ _
    · exact bytes_world_below w t
  | «syntax» =>
    obtain ⟨ev, h1, h2⟩ := hgl.1
    refine (Tryd.strconv_Atoi_syntax s (by omega) h ev w h1 h2).mono ?_
    rintro e w' ⟨N, rfl, _, _, hb⟩
    exact ⟨_, _, rfl, ⟨N, rfl⟩, hb⟩
  | range =>
    obtain ⟨ev, h1, h2⟩ := hgl.2.1
    refine (Tryd.strconv_Atoi_range s (by omega) h ev w h1 h2).mono ?_
    rintro e w' ⟨N, rfl, _, _, hb⟩
    exact ⟨_, _, rfl, ⟨N, rfl⟩, hb⟩
theorem atoi_bounds {l : List UInt8} {v : Int} (h : Lib.atoiAll l = .ok v) : -9223372036854775808 ≤ v ∧ v ≤ 9223372036854775807 := by
  unfold Lib.atoiAll at h
  cases l with
  | nil => cases h
  | cons c r =>
    simp only at h
    split at h
    · cases h
    · cases h
    · split at h
      · cases h
      · split at h
        · cases h
        · injection h with h
          split at h <;> omega
theorem itoa_calls (u : Int) (h : -9223372036854775808 ≤ u ∧ u ≤ 9223372036854775807) (w : World) (hgl : GX.Glob w) : Calls Tryd.prog 37 #[.int .i64 u] w fun e w' => e = .returned (.string (mk (Lib.itoa u))) ∧ Below w.heap.size w w' := by
  refine (Tryd.strconv_Itoa u h.1 h.2 w hgl.2.2).mono ?_
  rintro e w' ⟨rfl, k, os, rfl⟩
  exact ⟨rfl, GX.below_grow w k os⟩
theorem number_calls (src : ByteArray) (hsrc : src.size ≤ 65536) (sb at_ : Nat) (hat : at_ < src.size) (l : List S35) (A : Option Addr) (cap : Nat) (w : World) (hS : Sc src sb at_ l A cap w) (hgl : GX.Glob w) (hpos : 0 < runN [3] ((bs src).drop at_)) :
    Calls Tryd.prog 28 #[.pointer (some ⟨sb, 0, none⟩)] w (Stp src sb at_ l w (match numOf (((bs src).drop at_).take (runN [3] ((bs src).drop at_))) with | some v => some ([⟨2, ⟨#[]⟩, v, at_⟩], runN [3] ((bs src).drop at_)) | none => none)) := by
  have hrl := runN_le [3] ((bs src).drop at_)
  rw [List.length_drop, bs_len] at hrl
  have hrun := run_calls [3] src hsrc at_ (Nat.le_of_lt hat) (.slice A l.length cap) sb w.heap.size 1 (w.alloc (.cells #[.int .i64 3] 3)) (blk_alloc hS.blk _) (blk_new w _) (by decide)
  rw [mk_extract] at hrun
  obtain ⟨n, hn⟩ : ∃ n, runN [3] ((bs src).drop at_) = n := ⟨_, rfl⟩
  rw [hn] at hrun hrl hpos ⊢
  have hlen : (((bs src).drop at_).take n).length = n := by rw [List.length_take, List.length_drop, bs_len]; omega
  obtain ⟨t, ht⟩ : ∃ t, ((bs src).drop at_).take n = t := ⟨_, rfl⟩
  rw [ht] at hrun hlen ⊢
  have HS := Aside0.mk hS
  have HRUN := Aside0.mk hrun
  have HGL := Aside0.mk hgl
  have hsz : (mk t).size = n := by rw [← bs_len, bs_mk]; exact hlen
  have HHS := Aside0.mk hsz
  have HSZ : Aside0 ((mk t).size ≤ 65536) := ⟨by omega⟩
  have HPOS := Aside0.mk hpos
  clear hS hrun hn ht hsz hgl hpos
  cases ha : Lib.atoiAll t with
  | ok u =>
    have hub := atoi_bounds ha
    by_cases hi : Lib.itoa u = t
    · have hva : validB ⟨2, ⟨#[]⟩, u, 0⟩ = (decide (0 ≤ u) && decide (u ≤ 1099511627776)) := by simp [validB, bs]
      by_cases hr : 0 ≤ u ∧ u ≤ 1099511627776
      · have hno : numOf t = some u := by unfold numOf; rw [ha]; exact if_pos ⟨hi, hr⟩
        have hv : validB ⟨2, ⟨#[]⟩, u, 0⟩ = true := by rw [hva, decide_eq_true hr.1, decide_eq_true hr.2]; rfl
        rw [hno]
        have HA := Aside0.mk ha
        have HV := Aside0.mk hv
        have HI := Aside0.mk hi
        have HUB := Aside0.mk hub
        clear ha hno hva hv hr hi hub
        go_enter Tryd.func28, Tryd.ntmps28
        go_wp2_with fail
        refine HRUN.out.mono ?_
        rintro e w1 ⟨rfl, hb1⟩
        have S1 := (HS.out.below (below_alloc (Below.refl w.heap.size w) (.cells #[.int .i64 3] 3))).below hb1
        have B1 := below_then (below_alloc (Below.refl w.heap.size w) (.cells #[.int .i64 3] 3)) (below_alloc (Below.refl w.heap.size w) _).size hb1
        have HAT := Aside0.mk (atoi_calls (mk t) HSZ.out w1 (GX.gl HGL.out B1))
        have SC1 := Aside0.mk S1
        have HB1 := Aside0.mk B1
        clear S1 B1 hb1
        go_wp2_with fail
        refine HAT.out.mono ?_
        rintro e w2 ⟨v, ev, rfl, hev, hb2⟩
        rw [bs_mk] at hev
        have SC2 := Aside0.mk (SC1.out.below hb2)
        have HB2 := Aside0.mk (below_then HB1.out HB1.out.size hb2)
        unfold AtoiRes at hev
        rw [HA.out] at hev
        obtain ⟨rfl, rfl⟩ := hev
        have HIT := Aside0.mk (itoa_calls v HUB.out w2 (GX.gl HGL.out HB2.out))
        clear hb2
        go_wp2_with fail
        refine HIT.out.mono ?_
        rintro e w3 ⟨he3, hb3⟩
        rw [HI.out] at he3
        subst he3
        have SC3 := Aside0.mk (SC2.out.below hb3)
        have HB3 := Aside0.mk (below_then HB2.out HB2.out.size hb3)
        clear hb3
        go_wp2_with fail
        refine (add_ok src sb at_ (by omega) l A cap ⟨2, ⟨#[]⟩, v, 0⟩ (mk t) HSZ.out HV.out w3 SC3.out (blk_lt SC3.out.blk)).mono ?_
        rintro e w4 ⟨rfl, hs4, hb4⟩
        rw [HHS.out] at hs4
        have HS4 := Aside0.mk (hs4 HPOS.out)
        have HB4 := Aside0.mk ((below_mono HB3.out HS.out.lt).trans hb4)
        clear hs4 hb4
        go_wp2_with fail
        exact bodyPost_end (v := .tuple #[]) (by simp [results, Tryd.results28, go_sem]) rfl ⟨rfl, HS4.out, HB4.out⟩
      · have hno : numOf t = none := by unfold numOf; rw [ha]; exact if_neg (fun h => hr h.2)
        have hv : validB ⟨2, ⟨#[]⟩, u, 0⟩ = false := by
          rw [hva]
          by_cases h0 : 0 ≤ u
          · rw [decide_eq_false (show ¬ u ≤ 1099511627776 from fun h => hr ⟨h0, h⟩), Bool.and_false]
          · rw [decide_eq_false h0, Bool.false_and]
        rw [hno]
        have HA := Aside0.mk ha
        have HV := Aside0.mk hv
        have HI := Aside0.mk hi
        have HUB := Aside0.mk hub
        clear ha hno hva hv hr hi hub
        go_enter Tryd.func28, Tryd.ntmps28
        go_wp2_with fail
        refine HRUN.out.mono ?_
        rintro e w1 ⟨rfl, hb1⟩
        have S1 := (HS.out.below (below_alloc (Below.refl w.heap.size w) (.cells #[.int .i64 3] 3))).below hb1
        have B1 := below_then (below_alloc (Below.refl w.heap.size w) (.cells #[.int .i64 3] 3)) (below_alloc (Below.refl w.heap.size w) _).size hb1
        have HAT := Aside0.mk (atoi_calls (mk t) HSZ.out w1 (GX.gl HGL.out B1))
        have SC1 := Aside0.mk S1
        have HB1 := Aside0.mk B1
        clear S1 B1 hb1
        go_wp2_with fail
        refine HAT.out.mono ?_
        rintro e w2 ⟨v, ev, rfl, hev, hb2⟩
        rw [bs_mk] at hev
        have SC2 := Aside0.mk (SC1.out.below hb2)
        have HB2 := Aside0.mk (below_then HB1.out HB1.out.size hb2)
        unfold AtoiRes at hev
        rw [HA.out] at hev
        obtain ⟨rfl, rfl⟩ := hev
        have HIT := Aside0.mk (itoa_calls v HUB.out w2 (GX.gl HGL.out HB2.out))
        clear hb2
        go_wp2_with fail
        refine HIT.out.mono ?_
        rintro e w3 ⟨he3, hb3⟩
        rw [HI.out] at he3
        subst he3
        have SC3 := Aside0.mk (SC2.out.below hb3)
        have HB3 := Aside0.mk (below_then HB2.out HB2.out.size hb3)
        clear hb3
        go_wp2_with fail
        refine (add_bad src sb at_ l A cap ⟨2, ⟨#[]⟩, v, 0⟩ (mk t) HV.out w3 SC3.out).mono ?_
        rintro e w4 ⟨rfl, hb4⟩
        exact ⟨rfl, rfl, below_mono (below_then HB3.out HB3.out.size hb4) HS.out.lt⟩
    · have hno : numOf t = none := by unfold numOf; rw [ha]; exact if_neg (fun h => hi h.1)
      rw [hno]
      have HA := Aside0.mk ha
      have HUB := Aside0.mk hub
      have ht1 : ((Lib.itoa u) == t) = false := beq_eq_false_iff_ne.2 hi
      have ht2 : ((Lib.itoa u) != t) = true := bne_iff_ne.2 hi
      clear ha hno hi hub ht2
      go_enter Tryd.func28, Tryd.ntmps28
      go_wp2_with fail
      refine HRUN.out.mono ?_
      rintro e w1 ⟨rfl, hb1⟩
      have S1 := (HS.out.below (below_alloc (Below.refl w.heap.size w) (.cells #[.int .i64 3] 3))).below hb1
      have B1 := below_then (below_alloc (Below.refl w.heap.size w) (.cells #[.int .i64 3] 3)) (below_alloc (Below.refl w.heap.size w) _).size hb1
      have HAT := Aside0.mk (atoi_calls (mk t) HSZ.out w1 (GX.gl HGL.out B1))
      have SC1 := Aside0.mk S1
      have HB1 := Aside0.mk B1
      clear S1 B1 hb1
      go_wp2_with fail
      refine HAT.out.mono ?_
      rintro e w2 ⟨v, ev, rfl, hev, hb2⟩
      rw [bs_mk] at hev
      have S2 := SC1.out.below hb2
      have B2 := below_then HB1.out HB1.out.size hb2
      have c1 := blk_cell S2.blk 1
      simp only [List.getElem?_toArray, List.getElem?_cons_zero, List.getElem?_cons_succ] at c1
      have SC2 := Aside0.mk S2
      have HB2 := Aside0.mk B2
      clear S2 B2 hb2
      unfold AtoiRes at hev
      rw [HA.out] at hev
      obtain ⟨rfl, rfl⟩ := hev
      go_wp2_with fail
      refine (itoa_calls v HUB.out w2 (GX.gl HGL.out HB2.out)).mono ?_
      rintro e w3 ⟨rfl, hb3⟩
      have d1 := pw_cell_below hb3 c1
      have HB3 := Aside0.mk (below_then HB2.out HB2.out.size hb3)
      clear hb3 c1
      go_wp2_with fail
      exact ⟨rfl, rfl, below_mono HB3.out HS.out.lt⟩
  | «syntax» =>
    have hno : numOf t = none := by unfold numOf; rw [ha]
    rw [hno]
    have HA := Aside0.mk ha
    clear ha hno
    go_enter Tryd.func28, Tryd.ntmps28
    go_wp2_with fail
    refine HRUN.out.mono ?_
    rintro e w1 ⟨rfl, hb1⟩
    have S1 := (HS.out.below (below_alloc (Below.refl w.heap.size w) (.cells #[.int .i64 3] 3))).below hb1
    have B1 := below_then (below_alloc (Below.refl w.heap.size w) (.cells #[.int .i64 3] 3)) (below_alloc (Below.refl w.heap.size w) _).size hb1
    have HAT := Aside0.mk (atoi_calls (mk t) HSZ.out w1 (GX.gl HGL.out B1))
    have SC1 := Aside0.mk S1
    have HB1 := Aside0.mk B1
    clear S1 B1 hb1
    go_wp2_with fail
    refine HAT.out.mono ?_
    rintro e w2 ⟨v, ev, rfl, hev, hb2⟩
    rw [bs_mk] at hev
    have S2 := SC1.out.below hb2
    have B2 := below_then HB1.out HB1.out.size hb2
    have c1 := blk_cell S2.blk 1
    simp only [List.getElem?_toArray, List.getElem?_cons_zero, List.getElem?_cons_succ] at c1
    have SC2 := Aside0.mk S2
    have HB2 := Aside0.mk B2
    clear S2 B2 hb2
    unfold AtoiRes at hev
    rw [HA.out] at hev
    obtain ⟨N, rfl⟩ := hev
    go_wp2_with fail
    exact ⟨rfl, rfl, below_mono HB2.out HS.out.lt⟩
  | range =>
    have hno : numOf t = none := by unfold numOf; rw [ha]
    rw [hno]
    have HA := Aside0.mk ha
    clear ha hno
    go_enter Tryd.func28, Tryd.ntmps28
    go_wp2_with fail
    refine HRUN.out.mono ?_
    rintro e w1 ⟨rfl, hb1⟩
    have S1 := (HS.out.below (below_alloc (Below.refl w.heap.size w) (.cells #[.int .i64 3] 3))).below hb1
    have B1 := below_then (below_alloc (Below.refl w.heap.size w) (.cells #[.int .i64 3] 3)) (below_alloc (Below.refl w.heap.size w) _).size hb1
    have HAT := Aside0.mk (atoi_calls (mk t) HSZ.out w1 (GX.gl HGL.out B1))
    have SC1 := Aside0.mk S1
    have HB1 := Aside0.mk B1
    clear S1 B1 hb1
    go_wp2_with fail
    refine HAT.out.mono ?_
    rintro e w2 ⟨v, ev, rfl, hev, hb2⟩
    rw [bs_mk] at hev
    have S2 := SC1.out.below hb2
    have B2 := below_then HB1.out HB1.out.size hb2
    have c1 := blk_cell S2.blk 1
    simp only [List.getElem?_toArray, List.getElem?_cons_zero, List.getElem?_cons_succ] at c1
    have SC2 := Aside0.mk S2
    have HB2 := Aside0.mk B2
    clear S2 B2 hb2
    unfold AtoiRes at hev
    rw [HA.out] at hev
    obtain ⟨N, rfl⟩ := hev
    go_wp2_with fail
    exact ⟨rfl, rfl, below_mono HB2.out HS.out.lt⟩
end LS
end Go.Proofs.YtcckpmijdckocaaDoor.X
