/- Proved here: parts of the walk and of the plain law of SearchKinds, put into one text (names and lines made short by a program). -/
import Derived.Test.YtcbpkdemcdikaaaSearchKindsD
import Derived.Test.YtcbpkdemcdikaaaSearchKindsE
import Derived.Shelf.Abstract
import Derived.Laws.EntriesVeiled
import Derived.Laws.MakeOwn
namespace Go.Proofs.Ytcbpkdemcdikaaa.X
open Go.RowKit Go.Proofs.YtcbpkdemcdikaaaW.PrintWords Go.Proofs.YtcbpkdemcdikaaaW.PrintLast Go.Proofs.YtcbpkdemcdikaaaW.PrintMore
attribute [local go_sem] ay az aN aM ao ap aw ax
set_option linter.unusedVariables false
set_option linter.unusedSimpArgs false
namespace SF
set_option maxHeartbeats 4000000
def cQ (r : S49) : Bool := decide (12 < r.f2.length) || decide (256 < r.f3.length) || r.f3.any (fun row => decide (12 < row.length))
def longB (ds : List (List Int)) (rs : List S49) : Bool := decide (12 < ds.length) || decide (64 < rs.length) || ds.any (fun d => decide (16 < d.length)) || rs.any cQ
theorem longB_ds (ds : List (List Int)) (rs : List S49) (i : Nat) (hi : i < ds.length) (h : 16 < (aJ ds (i : Int)).length) : longB ds rs = true := by
  have e : aJ ds (i : Int) = ds[i] := by simp [aJ, List.getD, List.getElem?_eq_getElem hi]
  rw [e] at h
  have : ds.any (fun d => decide (16 < d.length)) = true := List.any_eq_true.mpr ⟨ds[i], List.getElem_mem hi, decide_eq_true h⟩
  simp [longB, this]
theorem longB_rs (ds : List (List Int)) (rs : List S49) (i : Nat) (hi : i < rs.length) (x : S49) (hx : ag rs (i : Int) = x) (h : cQ x = true) : longB ds rs = true := by
  have e : ag rs (i : Int) = rs[i] := by simp [ag, List.getD, List.getElem?_eq_getElem hi]
  rw [← hx, e] at h
  have : rs.any cQ = true := List.any_eq_true.mpr ⟨rs[i], List.getElem_mem hi, h⟩
  simp [longB, this]
theorem longB_no (ds : List (List Int)) (rs : List S49) (h1 : ¬ 12 < ds.length) (h2 : ¬ 64 < rs.length) (h3 : ∀ i, i < ds.length → (ds.getD i []).length ≤ 16) (h4 : ∀ i, i < rs.length → cQ (rs.getD i z49) = false) : longB ds rs = false := by
  have e3 : ds.any (fun d => decide (16 < d.length)) = false := by
    rw [List.any_eq_false]
    intro d hd
    obtain ⟨i, hi, rfl⟩ := List.getElem_of_mem hd
    have := h3 i hi
    simp [List.getD, List.getElem?_eq_getElem hi] at this
    simpa using this
  have e4 : rs.any cQ = false := by
    rw [List.any_eq_false]
    intro d hd
    obtain ⟨i, hi, rfl⟩ := List.getElem_of_mem hd
    have := h4 i hi
    simp [List.getD, List.getElem?_eq_getElem hi] at this
    simp [this]
  unfold longB
  rw [decide_eq_false h1, decide_eq_false h2, e3, e4]; rfl
theorem long_pred (w : World) : RowP 56 #[] (fun row => decide (12 < row.length)) w := fun W A c l _ _ _ => by
  show Calls Try.prog 56 #[.slice A l.length c] W (fun e w' => e = .returned (.bool (decide (12 < l.length))) ∧ Below W.heap.size W w')
  go_enter Try.func56, Try.ntmps56
  go_wp2
  repeat (go_quiet (fail); try go_wp2)
  go_ret
  refine ⟨?_, by repeat (first | exact Below.refl _ _ | apply a4 | apply a5)⟩
  rw [show decide (12 < l.length) = decide ((12 : Int) < (l.length : Int)) by rw [decide_eq_decide]; omega]
  rfl
theorem long_ok (A0 : Option Addr) (c0 : Nat) (ds : List (List Int)) (A1 : Option Addr) (c1 : Nat) (rs : List S49) (w : World) (hr0 : Kd.C (Kd.slice 3 (Kd.int .i64)) w A0 ds.length ds) (hr1 : Kd.C k49 w A1 rs.length rs) :
    Calls Try.prog 37 #[.agg #[.slice A0 ds.length c0, .slice A1 rs.length c1]] w fun e w' => e = .returned (.bool (longB ds rs)) ∧ Below w.heap.size w w' := by
  have HR0 := Aside0.mk hr0; have HR1 := Aside0.mk hr1
  clear hr0 hr1
  by_cases d1 : 12 < ds.length
  · have d1b : decide ((12 : Int) < (ds.length : Int)) = true := decide_eq_true (by omega)
    have d1n : decide (12 < ds.length) = true := decide_eq_true d1
    have HA := Aside0.mk (show longB ds rs = true by simp [longB, d1])
    clear d1
    go_enter Try.func37, Try.ntmps37
    go_wp2
    go_ret
    exact ⟨by rw [HA.out]; rfl, by repeat (first | exact Below.refl _ _ | apply a6 | apply a4 | apply a5)⟩
  · have d1b : decide ((12 : Int) < (ds.length : Int)) = false := decide_eq_false (by omega)
    have d1n : decide (12 < ds.length) = false := decide_eq_false d1
    by_cases d2 : 64 < rs.length
    · have d2b : decide ((64 : Int) < (rs.length : Int)) = true := decide_eq_true (by omega)
      have d2n : decide (64 < rs.length) = true := decide_eq_true d2
      have HA := Aside0.mk (show longB ds rs = true by simp [longB, d2])
      clear d1 d2
      go_enter Try.func37, Try.ntmps37
      go_wp2
      go_ret
      exact ⟨by rw [HA.out]; rfl, by repeat (first | exact Below.refl _ _ | apply a6 | apply a4 | apply a5)⟩
    · have d2b : decide ((64 : Int) < (rs.length : Int)) = false := decide_eq_false (by omega)
      have d2n : decide (64 < rs.length) = false := decide_eq_false d2
      have HD := Aside0.mk (And.intro d1 d2)
      clear d1 d2
      go_enter Try.func37, Try.ntmps37
      go_wp2_with (fail)
      obtain ⟨W1, hW1⟩ : ∃ W1, w.alloc (.cells #[.slice A0 ds.length c0, .slice A1 rs.length c1] 25) = W1 := ⟨_, rfl⟩
      have HW1 : Aside0 (Below w.heap.size w W1) := ⟨by rw [← hW1]; exact a6 (Below.refl _ _) _⟩
      have HBK : Aside0 (W1.heap[w.heap.size]? = some (.cells #[.slice A0 ds.length c0, .slice A1 rs.length c1] 25 (0, 0))) := ⟨by rw [← hW1]; exact aV w _⟩
      rw [hW1]
      clear hW1
      go_loopg [4, 20] ds.length (fun gg _ v20 wr => ∃ kk : Nat, v20 = .int .i64 kk ∧ Aside0 (kk ≤ ds.length) ∧ Aside0 (ds.length - kk ≤ gg) ∧ Aside0 (∀ i, i < kk → (ds.getD i []).length ≤ 16) ∧ Aside0 (Below W1.heap.size W1 wr))
      case atStart => exact ⟨0, rfl, ⟨Nat.zero_le _⟩, ⟨by omega⟩, ⟨fun j hj => absurd hj (by omega)⟩, ⟨by repeat (first | exact Below.refl _ _ | apply a4 | apply a5)⟩⟩
      case round =>
        obtain ⟨kk, rfl, HK, HG, HT, HB⟩ := hrel
        have HBw := Aside0.mk (HW1.out.trans (HB.out.mono HW1.out.size))
        by_cases c4 : kk < ds.length
        · have c4b : decide ((kk : Int) < (ds.length : Int)) = true := decide_eq_true (by omega)
          have c4n : decide (kk < ds.length) = true := decide_eq_true c4
          have p0 : 0 ≤ (kk : Int) := by omega
          have q0 : (kk : Int) < (ds.length : Int) := by omega
          obtain ⟨ad0, B0, d0, e0, hx0, hl0, hcc⟩ := f5 (Kd.C_below HR0.out HBw.out) kk p0 q0
          subst e0
          rw [Int.toNat_natCast] at hx0
          have n0 : (kk < ds.length) = True := eq_true c4
          replace p0 := eq_true p0
          replace q0 := eq_true q0
          have HC := Aside0.mk c4
          clear c4 hl0 hcc
          by_cases c5 : 16 < (aJ ds (kk : Int)).length
          · have c5b : decide ((16 : Int) < ((aJ ds (kk : Int)).length : Int)) = true := decide_eq_true (by omega)
            have c5n : decide (16 < (aJ ds (kk : Int)).length) = true := decide_eq_true c5
            have H5 := Aside0.mk c5
            clear c5
            go_wp2_with (fail)
            go_ret
            refine ⟨?_, by repeat (first | exact HBw.out | apply a4 | apply a5)⟩
            rw [longB_ds ds rs kk HC.out H5.out]; rfl
          · have c5b : decide ((16 : Int) < ((aJ ds (kk : Int)).length : Int)) = false := decide_eq_false (by omega)
            have c5n : decide (16 < (aJ ds (kk : Int)).length) = false := decide_eq_false c5
            have H5 := Aside0.mk c5
            clear c5
            go_wp2_with (fail)
            go_roundg (ds.length - (kk + 1))
            case measure => have := HG.out; have := HC.out; omega
            case rel =>
              have hm := Kd.C_max HR0.out; have hc := HC.out
              exact ⟨kk + 1, by rw [wr64 _ (by omega) (by omega)]; rfl, ⟨HC.out⟩, ⟨by omega⟩, ⟨fun j hj => by
                rcases Nat.lt_or_eq_of_le (Nat.le_of_lt_succ hj) with h | rfl
                · exact HT.out j h
                · simpa [aJ] using H5.out⟩, ⟨by repeat (first | exact HB.out | apply a4 | apply a5)⟩⟩
        · have c4b : decide ((kk : Int) < (ds.length : Int)) = false := decide_eq_false (by omega)
          have c4n : decide (kk < ds.length) = false := decide_eq_false c4
          have hkk : kk = ds.length := by have := HK.out; omega
          subst hkk
          have HDS := Aside0.mk HT.out
          clear c4
          have f0 : wr.cell? ⟨w.heap.size, 0, none⟩ = some (.slice A0 ds.length c0) := by simpa using a7 (ae HBK.out HB.out) 0
          have f1 : wr.cell? ⟨w.heap.size, 1, none⟩ = some (.slice A1 rs.length c1) := by simpa using a7 (ae HBK.out HB.out) 1
          go_wp2_with (fail)
          go_loopg [6, 31] rs.length (fun gg _ v31 wi => ∃ jj : Nat, v31 = .int .i64 jj ∧ Aside0 (jj ≤ rs.length) ∧ Aside0 (rs.length - jj ≤ gg) ∧ Aside0 (∀ i, i < jj → cQ (rs.getD i z49) = false) ∧ Aside0 (Below w.heap.size w wi))
          case atStart => exact ⟨0, rfl, ⟨Nat.zero_le _⟩, ⟨by omega⟩, ⟨fun j hj => absurd hj (by omega)⟩, ⟨by repeat (first | exact HBw.out | apply a4 | apply a5)⟩⟩
          case round =>
            obtain ⟨jj, rfl, HJ, HGi, HTi, HBi⟩ := hrel
            by_cases c6 : jj < rs.length
            · have c6b : decide ((jj : Int) < (rs.length : Int)) = true := decide_eq_true (by omega)
              have c6n : decide (jj < rs.length) = true := decide_eq_true c6
              have p1 : 0 ≤ (jj : Int) := by omega
              have q1 : (jj : Int) < (rs.length : Int) := by omega
              obtain ⟨ad1, A2, c2, A3, c3, e1, hx0, hx1, hx2, hx3, hl2, hi2, hl3, hi3⟩ := dH (Kd.C_below HR1.out HBi.out) jj p1 q1
              subst e1
              rw [Int.toNat_natCast] at hx0 hx1 hx2 hx3
              have hu49 := Try.underlying49
              have n1 : (jj < rs.length) = True := eq_true c6
              replace p1 := eq_true p1
              replace q1 := eq_true q1
              have HC := Aside0.mk c6
              obtain ⟨x, hx⟩ : ∃ x, ag rs (jj : Int) = x := ⟨_, rfl⟩
              rw [hx] at hx0 hx1 hx2 hx3 hl2 hi2 hl3 hi3
              have HX := Aside0.mk hx
              have HCON := Aside0.mk (fun (W : World) (hb : Below wr.heap.size wr W) => ce A3 c3 x.f3 56 #[] _ (enters_of Try.func56 (by kernel_rfl) rfl) W (Kd.C_below hi3 hb) (long_pred W))
              clear c6 hl2 hi2 hl3 hi3 hx
              by_cases t1 : 12 < x.f2.length
              · have t1b : decide ((12 : Int) < (x.f2.length : Int)) = true := decide_eq_true (by omega)
                have t1n : decide (12 < x.f2.length) = true := decide_eq_true t1
                have HT1 := Aside0.mk (show cQ x = true by simp [cQ, t1])
                clear t1
                go_wp2_with (fail)
                go_ret
                refine ⟨?_, by repeat (first | exact HBi.out | apply a6 | apply a4 | apply a5)⟩
                rw [longB_rs ds rs jj HC.out x HX.out HT1.out]; rfl
              · have t1b : decide ((12 : Int) < (x.f2.length : Int)) = false := decide_eq_false (by omega)
                have t1n : decide (12 < x.f2.length) = false := decide_eq_false t1
                by_cases t2 : 256 < x.f3.length
                · have t2b : decide ((256 : Int) < (x.f3.length : Int)) = true := decide_eq_true (by omega)
                  have t2n : decide (256 < x.f3.length) = true := decide_eq_true t2
                  have HT1 := Aside0.mk (show cQ x = true by simp [cQ, t2])
                  clear t1 t2
                  go_wp2_with (fail)
                  go_ret
                  refine ⟨?_, by repeat (first | exact HBi.out | apply a6 | apply a4 | apply a5)⟩
                  rw [longB_rs ds rs jj HC.out x HX.out HT1.out]; rfl
                · have t2b : decide ((256 : Int) < (x.f3.length : Int)) = false := decide_eq_false (by omega)
                  have t2n : decide (256 < x.f3.length) = false := decide_eq_false t2
                  obtain ⟨an, han⟩ : ∃ an, x.f3.any (fun row => decide (12 < row.length)) = an := ⟨_, rfl⟩
                  have HT1 := Aside0.mk (show cQ x = an by simp [cQ, t1n, t2n, han])
                  rw [han] at HCON
                  clear t1 t2 han
                  have HXF := Aside0.mk (show rs.getD jj z49 = x by rw [← HX.out]; rfl)
                  cases an with
                  | true =>
                    go_wp2_with (go_at_call 55; refine (HCON.out _ (by repeat (first | exact Below.refl _ _ | apply a6 | apply a4 | apply a5))).mono ?_; rintro e w' ⟨rfl, hb'⟩; have HB' := Aside0.mk ((show Below w.heap.size w _ by repeat (first | exact HBi.out | apply a6 | apply a4 | apply a5)).trans (hb'.mono (Below.size (by repeat (first | exact HBi.out | apply a6 | apply a4 | apply a5))))); clear hb')
                    go_ret
                    refine ⟨?_, HB'.out⟩
                    rw [longB_rs ds rs jj HC.out x HX.out HT1.out]; rfl
                  | false =>
                    go_wp2_with (go_at_call 55; refine (HCON.out _ (by repeat (first | exact Below.refl _ _ | apply a6 | apply a4 | apply a5))).mono ?_; rintro e w' ⟨rfl, hb'⟩; have HB' := Aside0.mk ((show Below w.heap.size w _ by repeat (first | exact HBi.out | apply a6 | apply a4 | apply a5)).trans (hb'.mono (Below.size (by repeat (first | exact HBi.out | apply a6 | apply a4 | apply a5))))); clear hb')
                    go_roundg (rs.length - (jj + 1))
                    case measure => have := HGi.out; have := HC.out; omega
                    case rel =>
                      have hm := Kd.C_max HR1.out; have hc := HC.out
                      exact ⟨jj + 1, by rw [wr64 _ (by omega) (by omega)]; rfl, ⟨HC.out⟩, ⟨by omega⟩, ⟨fun j hj => by
                        rcases Nat.lt_or_eq_of_le (Nat.le_of_lt_succ hj) with h | rfl
                        · exact HTi.out j h
                        · rw [HXF.out]; exact HT1.out⟩, ⟨by repeat (first | exact HB'.out | apply a4 | apply a5)⟩⟩
            · have c6b : decide ((jj : Int) < (rs.length : Int)) = false := decide_eq_false (by omega)
              have c6n : decide (jj < rs.length) = false := decide_eq_false c6
              have HC := Aside0.mk c6
              clear c6
              go_wp2_with (fail)
              go_ret
              refine ⟨?_, by repeat (first | exact HBi.out | apply a4 | apply a5)⟩
              rw [longB_no ds rs HD.out.1 HD.out.2 HDS.out (fun i hi => HTi.out i (by have := HJ.out; have := HC.out; omega))]; rfl
end SF
end Go.Proofs.Ytcbpkdemcdikaaa.X
namespace Go.Proofs.Ytcbpkdemcdikaaa.X
open Go.RowKit Go.Proofs.YtcbpkdemcdikaaaW.PrintWords Go.Proofs.YtcbpkdemcdikaaaW.PrintLast Go.Proofs.YtcbpkdemcdikaaaW.PrintMore
attribute [local go_sem] ay az aN aM ao ap aw ax   
set_option linter.unusedVariables false
set_option linter.unusedSimpArgs false
def search_long.f (ai : List (List Int)) (af : List (S49)) : Option (Bool) := some (SF.longB ai af)
theorem search_long.calls (aC : Option Addr) (aA : Nat) (ai : List (List Int)) (aI : Option Addr) (au : Nat) (af : List (S49)) (r : Bool) (w : World) (bA : Kd.C (Kd.slice 3 (Kd.int .i64)) w aC ai.length ai) (bJ : ai.length ≤ aA) (bx : Kd.C k49 w aI af.length af) (bC : af.length ≤ au) (h : search_long.f ai af = some r) :
  Calls Try.prog 37 #[.agg #[.slice aC ai.length aA, .slice aI af.length au]] w fun e w' => e = .returned (.bool r) ∧ Below w.heap.size w w' := by
 cases h
 exact SF.long_ok aC aA ai aI au af w bA bx
end Go.Proofs.Ytcbpkdemcdikaaa.X
namespace Go.Proofs.Ytcbpkdemcdikaaa.X
open Go.RowKit Go.Proofs.YtcbpkdemcdikaaaW.PrintWords Go.Proofs.YtcbpkdemcdikaaaW.PrintLast Go.Proofs.YtcbpkdemcdikaaaW.PrintMore
attribute [local go_sem] ay az aN aM ao ap aw ax
set_option linter.unusedVariables false
set_option linter.unusedSimpArgs false
namespace SF
set_option maxHeartbeats 4000000
def fw (k : Int) : Value := if k = 1 then .func (.func 64) #[] #[] else if k = 2 then .func (.func 65) #[] #[] else if k = 3 then .func (.func 66) #[] #[] else if k = 4 then .func (.func 67) #[] #[] else .nilFunc
theorem bN (k : Int) (w : World) : Calls Try.prog 50 #[.int .i64 k] w fun e w' => e = .returned (fw k) ∧ Below w.heap.size w w' := by
  by_cases h : 1 ≤ k ∧ k ≤ 4
  · have hk : k = 1 ∨ k = 2 ∨ k = 3 ∨ k = 4 := by omega
    rcases hk with rfl | rfl | rfl | rfl
    all_goals
      go_enter Try.func50, Try.ntmps50
      go_wp2
      repeat (go_quiet (fail); try go_wp2)
      go_ret
      exact ⟨rfl, by repeat (first | exact Below.refl _ _ | apply a6 | apply a4 | apply a5)⟩
  · by_cases h1 : k < 1
    · have b1 : decide (k < 1) = true := decide_eq_true h1
      have HH := Aside0.mk h1
      clear h1 h
      go_enter Try.func50, Try.ntmps50
      go_wp2
      repeat (go_quiet (fail); try go_wp2)
      go_ret
      refine ⟨?_, by repeat (first | exact Below.refl _ _ | apply a6 | apply a4 | apply a5)⟩
      have := HH.out
      rw [show fw k = .nilFunc by unfold fw; rw [if_neg (by omega), if_neg (by omega), if_neg (by omega), if_neg (by omega)]]
      rfl
    · have b1 : decide (k < 1) = false := decide_eq_false h1
      have b2 : decide (k ≥ 5) = true := decide_eq_true (by omega)
      have b3 : decide (5 ≤ k) = true := decide_eq_true (by omega)
      have HH := Aside0.mk (show 5 ≤ k by omega)
      clear h1 h
      go_enter Try.func50, Try.ntmps50
      go_wp2
      repeat (go_quiet (fail); try go_wp2)
      go_ret
      refine ⟨?_, by repeat (first | exact Below.refl _ _ | apply a6 | apply a4 | apply a5)⟩
      have := HH.out
      rw [show fw k = .nilFunc by unfold fw; rw [if_neg (by omega), if_neg (by omega), if_neg (by omega), if_neg (by omega)]]
      rfl
end SF
end Go.Proofs.Ytcbpkdemcdikaaa.X
namespace Go.Proofs.Ytcbpkdemcdikaaa.X
open Go.RowKit Go.Proofs.YtcbpkdemcdikaaaW.PrintWords Go.Proofs.YtcbpkdemcdikaaaW.PrintLast Go.Proofs.YtcbpkdemcdikaaaW.PrintMore
attribute [local go_sem] ay az aN aM ao ap aw ax   
set_option linter.unusedVariables false
set_option linter.unusedSimpArgs false
namespace SF
set_option maxHeartbeats 4000000
theorem index_eq (l : List Int) (v : Int) (hl : l.length ≤ 9223372036854775807) : ∀ (m i k : Nat), m = l.length - i → i ≤ l.length → m < k → slices_Index_int_int.l0 k l v (l.length : Int) (i : Int) = some (bQ (fun x => decide (v = x)) (l.drop i) i)
 | m, i, 0, _, _, h => absurd h (by omega)
 | m, i, k + 1, hm, hi, hk => by
  unfold slices_Index_int_int.l0
  by_cases h : i < l.length
  ·rw [if_pos (by omega), if_pos (by omega), if_pos (by omega), List.drop_eq_getElem_cons h]
   have e : rd l (i : Int) = l[i] := by simp [rd, List.getD, List.getElem?_eq_getElem h]
   rw [e]
   unfold bQ
   by_cases hv : v = l[i]
   ·rw [if_pos hv, if_pos (by simpa using hv)]
   ·rw [if_neg hv, if_neg (by simpa using hv), wr64 _ (by omega) (by omega)]
    exact index_eq l v hl (m - 1) (i + 1) k (by omega) (by omega) (by omega)
  ·rw [if_neg (by omega), List.drop_eq_nil_of_le (by omega)]
   rfl
theorem contains_eq (l : List Int) (v : Int) (hl : l.length ≤ 9223372036854775807) : slices_Contains_int_int.f (l.length + 1) l v = some (l.any (fun x => decide (v = x))) := by
 unfold slices_Contains_int_int.f slices_Index_int_int.f
 have h := index_eq l v hl l.length 0 (l.length + 1) (by omega) (by omega) (by omega)
 rw [show (((0 : Nat) : Int)) = 0 from rfl] at h
 rw [h, List.drop_zero]
 show some (decide (bQ _ l 0 ≥ 0)) = _
 rw [dP]
def varB (l : List Int) (n : Int) (i : Nat) : Bool := decide (0 ≤ rd l (i : Int)) && decide (rd l (i : Int) < n) && !((l.take i).any (fun x => decide (rd l (i : Int) = x)))
def varsB (l : List Int) (n : Int) : Bool := (List.range l.length).all (varB l n)
def validB (r : S49) (n : Int) : Bool :=
 if r.f2.length = 0 then false else if ¬ (1 ≤ r.f0 ∧ r.f0 ≤ 4) then false else if varsB r.f2 n = false then false
 else if r.f0 = 3 then decide (1 ≤ r.f1) && decide (r.f1 ≤ 73048) && decide (r.f3.length = 0)
 else if r.f0 ≠ 1 ∧ 0 < r.f3.length then false else decide (r.f1 = 0) && !(r.f3.any (fun row => decide (row.length ≠ r.f2.length)))
theorem varsB_no (l : List Int) (n : Int) (i : Nat) (hi : i < l.length) (h : varB l n i = false) : varsB l n = false := by
 rw [Bool.eq_false_iff]
 intro ha
 simp only [varsB, List.all_eq_true, List.mem_range] at ha
 rw [ha i hi] at h
 exact absurd h (by simp)
theorem varsB_yes (l : List Int) (n : Int) (h : ∀ i, i < l.length → varB l n i = true) : varsB l n = true := by
 simp only [varsB, List.all_eq_true, List.mem_range]
 exact h
theorem kindF_fn (k : Int) (h1 : 1 ≤ k) (h2 : k ≤ 4) : ∃ g, fw k = .func (.func g) #[] #[] := by
 have hk : k = 1 ∨ k = 2 ∨ k = 3 ∨ k = 4 := by omega
 rcases hk with rfl | rfl | rfl | rfl <;> exact ⟨_, rfl⟩
theorem kindF_nil (k : Int) (h : ¬ (1 ≤ k ∧ k ≤ 4)) : fw k = .nilFunc := by
 unfold fw; rw [if_neg (by omega), if_neg (by omega), if_neg (by omega), if_neg (by omega)]
theorem valid_pred (w : World) (B : Nat) (A2 : Option Addr) (n c2 : Nat) (hB : B < w.heap.size) (hc : w.cell? ⟨B, 2, none⟩ = some (.slice A2 n c2)) : RowP 58 #[.pointer (some ⟨B, 0, none⟩)] (fun row => decide (row.length ≠ n)) w := fun W A c l hb _ _ => by
 have hc' : W.cell? ⟨B, 2, none⟩ = some (.slice A2 n c2) := (hb.cell (p := ⟨B, 2, none⟩) hB).trans hc
 show Calls Try.prog 58 #[.slice A l.length c, .pointer (some ⟨B, 0, none⟩)] W (fun e w' => e = .returned (.bool (decide (l.length ≠ n))) ∧ Below W.heap.size W w')
 go_enter Try.func58, Try.ntmps58
 go_wp2
 repeat (go_quiet (fail); try go_wp2)
 go_ret
 refine ⟨?_, by repeat (first | exact Below.refl _ _ | apply a4 | apply a5)⟩
 show Ending.returned (.bool ((l.length : Int) != (n : Int))) = _
 rw [show ((l.length : Int) != (n : Int)) = decide (l.length ≠ n) by rw [Bool.eq_iff_iff]; simp; omega]
theorem eql_fn (g : Nat) (W : World) : Sem.run Try.prog (binOp BinOp.eql 70 (Value.func (Fn.func g) #[] #[]) Value.nilFunc) W = .ok (.bool false) W := by
 rfl
theorem eql_nil (W : World) : Sem.run Try.prog (binOp BinOp.eql 70 Value.nilFunc Value.nilFunc) W = .ok (.bool true) W := by
 rfl
theorem valid_ok (a0 a1 : Int) (A2 : Option Addr) (c2 : Nat) (l2 : List Int) (A3 : Option Addr) (c3 : Nat) (l3 : List (List Int)) (n : Int) (w : World)
  (hr2 : Kd.C (Kd.int .i64) w A2 l2.length l2) (hc2 : l2.length ≤ c2) (hr3 : Kd.C (Kd.slice 3 (Kd.int .i64)) w A3 l3.length l3) :
  Calls Try.prog 38 #[.agg #[.int .i64 a0, .int .i64 a1, .slice A2 l2.length c2, .slice A3 l3.length c3], .int .i64 n] w fun e w' => e = .returned (.bool (validB ⟨a0, a1, l2, l3⟩ n)) ∧ Below w.heap.size w w' := by
 have HM := Aside0.mk (Kd.C_max hr2)
 have HR2 := Aside0.mk hr2; have HR3 := Aside0.mk hr3
 have HC2 := Aside0.mk hc2
 clear hr2 hr3 hc2
 by_cases d1 : l2.length = 0
 ·have d1b : ((l2.length : Int) == (0 : Int)) = true := beq_iff_eq.mpr (by omega)
  have d1n : (l2.length == 0) = true := beq_iff_eq.mpr d1
  have HA := Aside0.mk (show validB ⟨a0, a1, l2, l3⟩ n = false by unfold validB; rw [if_pos d1])
  clear d1
  go_enter Try.func38, Try.ntmps38
  go_wp2_with (fail)
  go_ret
  exact ⟨by rw [HA.out]; rfl, by repeat (first | exact Below.refl _ _ | apply a6 | apply a4 | apply a5)⟩
 ·have d1b : ((l2.length : Int) == (0 : Int)) = false := beq_eq_false_iff_ne.mpr (by omega)
  have d1n : (l2.length == 0) = false := beq_eq_false_iff_ne.mpr d1
  have HD1 := Aside0.mk d1
  clear d1
  by_cases d2 : 1 ≤ a0 ∧ a0 ≤ 4
  ·obtain ⟨g, hg⟩ := kindF_fn a0 d2.1 d2.2
   have HK := Aside0.mk hg
   have HF := Aside0.mk (fun W : World => (show Calls Try.prog 50 #[.int .i64 a0] W (fun e w' => e = .returned (.func (.func g) #[] #[]) ∧ Below W.heap.size W w') by rw [← HK.out]; exact bN a0 W))
   have HD2 := Aside0.mk d2
   have hql := eql_fn g
   clear d2 hg
   go_enter Try.func38, Try.ntmps38
   go_wp2_with (go_at_call 50; refine (HF.out _).mono ?_; rintro e W1 ⟨rfl, hb2⟩; have HBK := Aside0.mk (ae (aV w _) hb2); have HW1 := Aside0.mk ((show Below w.heap.size w _ by repeat (first | exact Below.refl _ _ | apply a6 | apply a4 | apply a5)).trans (hb2.mono (by simp))); have HSZ := Aside0.mk (show w.heap.size + 1 ≤ W1.heap.size by have := hb2.size; simp at this; omega); clear hb2; have f2 : W1.cell? ⟨w.heap.size, 2, none⟩ = some (.slice A2 l2.length c2) := by simpa using a7 HBK.out 2)
   go_loopg [5, 6, 20] l2.length (fun gg _ _ v20 wr => ∃ kk : Nat, v20 = .int .i64 kk ∧ Aside0 (kk ≤ l2.length) ∧ Aside0 (l2.length - kk ≤ gg) ∧ Aside0 (∀ i, i < kk → varB l2 n i = true) ∧ Aside0 (Below W1.heap.size W1 wr))
   case atStart => exact ⟨0, rfl, ⟨Nat.zero_le _⟩, ⟨by omega⟩, ⟨fun j hj => absurd hj (by omega)⟩, ⟨by repeat (first | exact Below.refl _ _ | apply a4 | apply a5)⟩⟩
   case round =>
    obtain ⟨kk, rfl, HKk, HG, HT, HB⟩ := hrel
    have HBw := Aside0.mk (HW1.out.trans (HB.out.mono HW1.out.size))
    have HBL := Aside0.mk (ae HBK.out HB.out)
    have b0 : wr.cell? ⟨w.heap.size, 0, none⟩ = some (.int .i64 a0) := by simpa using a7 HBL.out 0
    have b1 : wr.cell? ⟨w.heap.size, 1, none⟩ = some (.int .i64 a1) := by simpa using a7 HBL.out 1
    have b2 : wr.cell? ⟨w.heap.size, 2, none⟩ = some (.slice A2 l2.length c2) := by simpa using a7 HBL.out 2
    have b3 : wr.cell? ⟨w.heap.size, 3, none⟩ = some (.slice A3 l3.length c3) := by simpa using a7 HBL.out 3
    by_cases c4 : kk < l2.length
    ·have c4b : decide ((kk : Int) < (l2.length : Int)) = true := decide_eq_true (by omega)
     have c4n : decide (kk < l2.length) = true := decide_eq_true c4
     have p0 : 0 ≤ (kk : Int) := by omega
     have q0 : (kk : Int) < (l2.length : Int) := by omega
     obtain ⟨ad0, e0, hx0⟩ := Kd.at_int (Kd.C_below HR2.out HBw.out) kk p0 q0
     subst e0
     rw [Int.toNat_natCast] at hx0
     have n0 : (kk < l2.length) = True := eq_true c4
     have n1 : (kk ≤ c2) = True := eq_true (by have := HC2.out; omega)
     have n2 : ((kk : Int) ≤ (c2 : Int)) = True := eq_true (by have := HC2.out; omega)
     replace p0 := eq_true p0
     replace q0 := eq_true q0
     have HC := Aside0.mk c4
     clear c4
     obtain ⟨x, hx⟩ : ∃ x, rd l2 (kk : Int) = x := ⟨_, rfl⟩
     rw [hx] at hx0
     have HX := Aside0.mk hx
     clear hx
     by_cases c5 : x < 0
     ·have c5b : decide (x < 0) = true := decide_eq_true c5
      have HA := Aside0.mk (varsB_no l2 n kk HC.out (by unfold varB; rw [HX.out, decide_eq_false (by omega : ¬ 0 ≤ x)]; rfl))
      clear c5
      go_wp2_with (fail)
      go_ret
      refine ⟨?_, by repeat (first | exact HBw.out | apply a4 | apply a5)⟩
      rw [show validB ⟨a0, a1, l2, l3⟩ n = false by unfold validB; rw [if_neg HD1.out, if_neg (by have := HD2.out; exact fun h => h this), if_pos HA.out]]; rfl
     ·have c5b : decide (x < 0) = false := decide_eq_false c5
      by_cases c6 : x ≥ n
      ·have c6b : decide (x ≥ n) = true := decide_eq_true c6
       have c6c : decide (n ≤ x) = true := decide_eq_true c6
       have HA := Aside0.mk (varsB_no l2 n kk HC.out (by unfold varB; rw [HX.out, decide_eq_false (by omega : ¬ x < n)]; simp))
       clear c5 c6
       go_wp2_with (fail)
       go_ret
       refine ⟨?_, by repeat (first | exact HBw.out | apply a4 | apply a5)⟩
       rw [show validB ⟨a0, a1, l2, l3⟩ n = false by unfold validB; rw [if_neg HD1.out, if_neg (by have := HD2.out; exact fun h => h this), if_pos HA.out]]; rfl
      ·have c6b : decide (x ≥ n) = false := decide_eq_false c6
       have c6c : decide (n ≤ x) = false := decide_eq_false c6
       obtain ⟨an, han⟩ : ∃ an, (l2.take kk).any (fun y => decide (x = y)) = an := ⟨_, rfl⟩
       have hvb : varB l2 n kk = !an := by unfold varB; rw [HX.out, decide_eq_true (by omega : 0 ≤ x), decide_eq_true (by omega : x < n), han]; rfl
       have HVB := Aside0.mk hvb
       have HCON := Aside0.mk (fun (W : World) (hb : Below wr.heap.size wr W) => (show Calls Try.prog 57 #[.slice (some ad0) kk c2, .int .i64 x] W (fun e w' => e = .returned (.bool an) ∧ Below W.heap.size W w') by
        have hh := Kd.C_take (m := kk) (Kd.C_below HR2.out (HBw.out.trans (hb.mono HBw.out.size))) (by have := HC.out; omega)
        have hlen : (l2.take kk).length = kk := by rw [List.length_take]; have := HC.out; omega
        have h := slices_Contains_int_int.calls _ (some ad0) c2 (l2.take kk) x _ W hh (by rw [hlen]; have := HC.out; have := HC2.out; omega) (contains_eq (l2.take kk) x (by rw [hlen]; have := HC.out; have := HM.out; omega))
        rw [hlen, han] at h
        exact h.mono (fun e w' h => ⟨h.1, h.2.below⟩)))
       clear c5 c6 han hvb
       cases an with
       | true =>
        go_wp2_with (go_at_call 57; refine (HCON.out _ (by repeat (first | exact Below.refl _ _ | apply a6 | apply a4 | apply a5))).mono ?_; rintro e w' ⟨rfl, hb'⟩; have HB' := Aside0.mk hb'; clear hb')
        go_ret
        refine ⟨?_, by repeat (first | exact HBw.out.trans (HB'.out.mono HBw.out.size) | apply a4 | apply a5)⟩
        rw [show validB ⟨a0, a1, l2, l3⟩ n = false by unfold validB; rw [if_neg HD1.out, if_neg (by have := HD2.out; exact fun h => h this), if_pos (varsB_no l2 n kk HC.out HVB.out)]]; rfl
       | false =>
        go_wp2_with (go_at_call 57; refine (HCON.out _ (by repeat (first | exact Below.refl _ _ | apply a6 | apply a4 | apply a5))).mono ?_; rintro e w' ⟨rfl, hb'⟩; have HB' := Aside0.mk hb'; clear hb')
        go_roundg (l2.length - (kk + 1))
        case measure => have := HG.out; have := HC.out; omega
        case rel =>
         have hm := HM.out; have hc := HC.out
         exact ⟨kk + 1, by rw [wr64 _ (by omega) (by omega)]; rfl, ⟨HC.out⟩, ⟨by omega⟩, ⟨fun i hi => by
          rcases Nat.lt_or_eq_of_le (Nat.le_of_lt_succ hi) with h | rfl
          ·exact HT.out i h
          ·exact HVB.out⟩, ⟨by repeat (first | exact HB.out.trans (HB'.out.mono HB.out.size) | apply a4 | apply a5)⟩⟩
    ·have c4b : decide ((kk : Int) < (l2.length : Int)) = false := decide_eq_false (by omega)
     have c4n : decide (kk < l2.length) = false := decide_eq_false c4
     have hkk : kk = l2.length := by have := HKk.out; omega
     subst hkk
     have HVS := Aside0.mk (varsB_yes l2 n HT.out)
     clear c4
     by_cases k3 : a0 = 3
     ·have k3b : (a0 == 3) = true := beq_iff_eq.mpr k3
      have HAN := Aside0.mk (show validB ⟨a0, a1, l2, l3⟩ n = (decide (1 ≤ a1) && decide (a1 ≤ 73048) && decide (l3.length = 0)) by unfold validB; rw [if_neg HD1.out, if_neg (by have := HD2.out; exact fun h => h this), if_neg (by rw [HVS.out]; simp), if_pos k3])
      clear k3
      obtain ⟨r1, hr1⟩ : ∃ r1, decide (1 ≤ a1) = r1 := ⟨_, rfl⟩
      obtain ⟨r2, hr2⟩ : ∃ r2, decide (a1 ≤ 73048) = r2 := ⟨_, rfl⟩
      obtain ⟨r3, hr3⟩ : ∃ r3, decide (l3.length = 0) = r3 := ⟨_, rfl⟩
      have hr1b : decide (a1 ≥ 1) = r1 := hr1
      have hr3b : ((l3.length : Int) == 0) = r3 := by rw [← hr3, Bool.eq_iff_iff]; simp
      have hr3c : (l3.length == 0) = r3 := by rw [← hr3, Bool.eq_iff_iff]; simp
      rw [hr1, hr2, hr3] at HAN
      cases r1 with
      | true =>
       cases r2 with
       | true =>
        go_wp2_with (fail)
        go_ret
        refine ⟨?_, by repeat (first | exact HBw.out | apply a4 | apply a5)⟩
        rw [HAN.out]; rfl
       | false =>
        go_wp2_with (fail)
        go_ret
        refine ⟨?_, by repeat (first | exact HBw.out | apply a4 | apply a5)⟩
        rw [HAN.out]; rfl
      | false =>
       go_wp2_with (fail)
       go_ret
       refine ⟨?_, by repeat (first | exact HBw.out | apply a4 | apply a5)⟩
       rw [HAN.out]; rfl
     ·have k3b : (a0 == 3) = false := beq_eq_false_iff_ne.mpr k3
      by_cases k1 : a0 ≠ 1 ∧ 0 < l3.length
      ·have k1b : (a0 != 1) = true := bne_iff_ne.mpr k1.1
       have k1c : decide ((l3.length : Int) > 0) = true := decide_eq_true (by omega)
       have k1d : decide ((0 : Int) < (l3.length : Int)) = true := decide_eq_true (by omega)
       have k1e : decide (0 < l3.length) = true := decide_eq_true k1.2
       have HAN := Aside0.mk (show validB ⟨a0, a1, l2, l3⟩ n = false by unfold validB; rw [if_neg HD1.out, if_neg (by have := HD2.out; exact fun h => h this), if_neg (by rw [HVS.out]; simp), if_neg k3, if_pos k1])
       clear k3 k1
       go_wp2_with (fail)
       go_ret
       refine ⟨?_, by repeat (first | exact HBw.out | apply a4 | apply a5)⟩
       rw [HAN.out]; rfl
      ·have HAN := Aside0.mk (show validB ⟨a0, a1, l2, l3⟩ n = (decide (a1 = 0) && !(l3.any (fun row => decide (row.length ≠ l2.length)))) by unfold validB; rw [if_neg HD1.out, if_neg (by have := HD2.out; exact fun h => h this), if_neg (by rw [HVS.out]; simp), if_neg k3, if_neg k1])
       have HCON := Aside0.mk (fun (W : World) (hb : Below wr.heap.size wr W) => ce A3 c3 l3 58 #[.pointer (some ⟨w.heap.size, 0, none⟩)] _ (enters_of Try.func58 (by kernel_rfl) rfl) W (Kd.C_below HR3.out (HBw.out.trans (hb.mono HBw.out.size))) (valid_pred W w.heap.size A2 l2.length c2 (Nat.lt_of_lt_of_le (aZ HBL.out) hb.size) (by simpa using a7 (ae HBL.out hb) 2)))
       obtain ⟨r1, hr1⟩ : ∃ r1, decide (a1 = 0) = r1 := ⟨_, rfl⟩
       obtain ⟨an, han⟩ : ∃ an, l3.any (fun row => decide (row.length ≠ l2.length)) = an := ⟨_, rfl⟩
       have hr1b : (a1 == 0) = r1 := by rw [← hr1, Bool.eq_iff_iff]; simp
       rw [hr1, han] at HAN
       rw [han] at HCON
       by_cases k2 : a0 = 1
       ·have k2b : (a0 != 1) = false := bne_eq_false_iff_eq.mpr k2
        clear k3 k1 k2
        cases r1 with
        | true =>
         go_wp2_with (go_at_call 55; refine (HCON.out _ (by repeat (first | exact Below.refl _ _ | apply a6 | apply a4 | apply a5))).mono ?_; rintro e w' ⟨rfl, hb'⟩; have HB' := Aside0.mk hb'; clear hb')
         go_ret
         refine ⟨?_, by repeat (first | exact HBw.out.trans (HB'.out.mono HBw.out.size) | apply a4 | apply a5)⟩
         rw [HAN.out]; rfl
        | false =>
         go_wp2_with (fail)
         go_ret
         refine ⟨?_, by repeat (first | exact HBw.out | apply a4 | apply a5)⟩
         rw [HAN.out]; rfl
       ·have k2b : (a0 != 1) = true := bne_iff_ne.mpr k2
        have k2c : decide ((l3.length : Int) > 0) = false := decide_eq_false (by omega)
        have k2d : decide ((0 : Int) < (l3.length : Int)) = false := decide_eq_false (by omega)
        have k2e : decide (0 < l3.length) = false := decide_eq_false (by omega)
        clear k3 k1 k2
        cases r1 with
        | true =>
         go_wp2_with (go_at_call 55; refine (HCON.out _ (by repeat (first | exact Below.refl _ _ | apply a6 | apply a4 | apply a5))).mono ?_; rintro e w' ⟨rfl, hb'⟩; have HB' := Aside0.mk hb'; clear hb')
         go_ret
         refine ⟨?_, by repeat (first | exact HBw.out.trans (HB'.out.mono HBw.out.size) | apply a4 | apply a5)⟩
         rw [HAN.out]; rfl
        | false =>
         go_wp2_with (fail)
         go_ret
         refine ⟨?_, by repeat (first | exact HBw.out | apply a4 | apply a5)⟩
         rw [HAN.out]; rfl
  ·have HA := Aside0.mk (show validB ⟨a0, a1, l2, l3⟩ n = false by unfold validB; rw [if_neg HD1.out, if_pos d2])
   have HK := Aside0.mk (kindF_nil a0 d2)
   clear d2
   have HF := Aside0.mk (fun W : World => (show Calls Try.prog 50 #[.int .i64 a0] W (fun e w' => e = .returned .nilFunc ∧ Below W.heap.size W w') by rw [← HK.out]; exact bN a0 W))
   have hql := eql_nil
   go_enter Try.func38, Try.ntmps38
   go_wp2_with (go_at_call 50; refine (HF.out _).mono ?_; rintro e w2 ⟨rfl, hb2⟩; have HB2 := Aside0.mk ((show Below w.heap.size w _ by repeat (first | exact Below.refl _ _ | apply a6 | apply a4 | apply a5)).trans (hb2.mono (by simp))); clear hb2)
   go_ret
   exact ⟨by rw [HA.out]; rfl, by repeat (first | exact HB2.out | apply a6 | apply a4 | apply a5)⟩
end SF
def search_valid.f (cH : Int) (a0_1 : Int) (l0_2 : List Int) (l0_3 : List (List Int)) (a1 : Int) : Option (Bool) := some (SF.validB ⟨cH, a0_1, l0_2, l0_3⟩ a1)
theorem search_valid.calls (cH : Int) (a0_1 : Int) (A0_2 : Option Addr) (c0_2 : Nat) (l0_2 : List Int) (A0_3 : Option Addr) (c0_3 : Nat) (l0_3 : List (List Int)) (a1 : Int) (r : Bool) (w : World) (hr0_2 : Kd.C (Kd.int .i64) w A0_2 l0_2.length l0_2) (hc0_2 : l0_2.length ≤ c0_2) (hr0_3 : Kd.C (Kd.slice 3 (Kd.int .i64)) w A0_3 l0_3.length l0_3) (hc0_3 : l0_3.length ≤ c0_3) (h : search_valid.f cH a0_1 l0_2 l0_3 a1 = some r) :
  Calls Try.prog 38 #[.agg #[.int .i64 cH, .int .i64 a0_1, .slice A0_2 l0_2.length c0_2, .slice A0_3 l0_3.length c0_3], .int .i64 a1] w fun e w' => e = .returned (.bool r) ∧ Below w.heap.size w w' := by
 cases h
 exact SF.valid_ok cH a0_1 A0_2 c0_2 l0_2 A0_3 c0_3 l0_3 a1 w hr0_2 hc0_2 hr0_3
end Go.Proofs.Ytcbpkdemcdikaaa.X
namespace Go.Proofs.Ytcbpkdemcdikaaa.X
open Go.RowKit Go.Proofs.YtcbpkdemcdikaaaW.PrintWords Go.Proofs.YtcbpkdemcdikaaaW.PrintLast Go.Proofs.YtcbpkdemcdikaaaW.PrintMore
attribute [local go_sem] ay az aN aM ao ap aw ax   
set_option linter.unusedVariables false
set_option linter.unusedSimpArgs false
mutual
def search_Check.l0 : Nat → Int → List (List Int) → Int → Int → List (List Int) → List (S49) → Option (Int)
 | 0, _, _, _, _, _, _ => none
 | k + 1, x3, x16, x17, x18, cD, cw => if x18 < x17 then (if 0 ≤ x18 then (if x18 < (x16.length : Int) then (if ((aJ x16 x18).length : Int) = 0 then (search_Check.j1 k x3 (aJ x16 x18) x16 x17 x18 true cD cw) else (if 0 < ((aJ x16 x18).length : Int) then (if (rd (aJ x16 x18) 0) < 0 then (search_Check.j1 k x3 (aJ x16 x18) x16 x17 x18 true cD cw) else (if 0 ≤ (wrap64 (((aJ x16 x18).length : Int) - 1)) then (if (wrap64 (((aJ x16 x18).length : Int) - 1)) < ((aJ x16 x18).length : Int) then (search_Check.j1 k x3 (aJ x16 x18) x16 x17 x18 (decide ((rd (aJ x16 x18) (wrap64 (((aJ x16 x18).length : Int) - 1))) > 73048)) cD cw) else (none)) else (none))) else (none))) else (none)) else (none)) else (search_Check.l2 k x3 cw (cw.length : Int) 0 cD cw)
def search_Check.j1 : Nat → Int → List Int → List (List Int) → Int → Int → Bool → List (List Int) → List (S49) → Option (Int)
 | 0, _, _, _, _, _, _, _, _ => none
 | k + 1, x3, x5, x16, x17, x18, x39, cD, cw => if x39 = true then (some 150) else (search_Check.l1 k x3 x5 1 x16 x17 x18 cD cw)
def search_Check.l1 : Nat → Int → List Int → Int → List (List Int) → Int → Int → List (List Int) → List (S49) → Option (Int)
 | 0, _, _, _, _, _, _, _, _ => none
 | k + 1, x3, x5, x6, x16, x17, x18, cD, cw => if x6 < (x5.length : Int) then (if 0 ≤ (wrap64 (x6 - 1)) then (if (wrap64 (x6 - 1)) < (x5.length : Int) then (if 0 ≤ x6 then (if (rd x5 (wrap64 (x6 - 1))) ≥ (rd x5 x6) then (some 150) else (search_Check.l1 k x3 x5 (wrap64 (x6 + 1)) x16 x17 x18 cD cw)) else (none)) else (none)) else (none)) else (search_Check.l0 k (mn (wrap64 (x3 * (x5.length : Int))) 65537) x16 x17 (wrap64 (x18 + 1)) cD cw)
def search_Check.l2 : Nat → Int → List (S49) → Int → Int → List (List Int) → List (S49) → Option (Int)
 | 0, _, _, _, _, _, _ => none
 | k + 1, x3, x63, x64, x65, cD, cw => if x65 < x64 then (if 0 ≤ x65 then (if x65 < (x63.length : Int) then ((search_valid.f ((ag x63 x65).f0) ((ag x63 x65).f1) ((ag x63 x65).f2) ((ag x63 x65).f3) (cD.length : Int)).bind fun t112 => (if t112 = true then (search_Check.l2 k x3 x63 x64 (wrap64 (x65 + 1)) cD cw) else (some 150))) else (none)) else (none)) else (if x3 > 65536 then (some 2) else (some 0))
end
def search_Check.f (k : Nat) (ai : List (List Int)) (af : List (S49)) : Option (Int) := (search_long.f ai af).bind fun t104 => (if t104 = true then (some 2) else (if (ai.length : Int) = 0 then (some 150) else (search_Check.l0 k 1 ai (ai.length : Int) 0 ai af)))
set_option maxHeartbeats 8000000 in
set_option maxRecDepth 100000 in
theorem search_Check.calls (k : Nat) (aC : Option Addr) (aA : Nat) (ai : List (List Int)) (aI : Option Addr) (au : Nat) (af : List (S49)) (r : Int) (w : World) (bA : Kd.C (Kd.slice 3 (Kd.int .i64)) w aC ai.length ai) (bJ : ai.length ≤ aA) (bx : Kd.C k49 w aI af.length af) (bC : af.length ≤ au) (h : search_Check.f k ai af = some r) :
  Calls Try.prog 17 #[.agg #[.slice aC ai.length aA, .slice aI af.length au]] w fun e w' => e = .returned (.int .i64 r) ∧ Below w.heap.size w w' := by
 have hu25 := Try.underlying25
 have hu49 := Try.underlying49
 have bz := Aside0.mk bA
 have bG := Aside0.mk bJ
 clear bA bJ
 have br := Aside0.mk bx
 have bF := Aside0.mk bC
 clear bx bC
 have HB := Aside0.mk (Below.refl w.heap.size w)
 have H : ((search_long.f ai af).bind fun t104 => (if t104 = true then (some 2) else (if (ai.length : Int) = 0 then (some 150) else (search_Check.l0 k 1 ai (ai.length : Int) 0 ai af)))) = some r := h
 clear h
 replace H := Option.bind_eq_some_iff.mp H
 obtain ⟨t104, A20, H⟩ := H
 replace H : (if t104 = true then (some 2) else (if (ai.length : Int) = 0 then (some 150) else (search_Check.l0 k 1 ai (ai.length : Int) 0 ai af))) = some r := H
 have A2 := Aside0.mk A20
 clear A20
 by_cases c3 : t104 = true
 ·subst c3
  have H1 : (some 2) = some r := by rw [if_pos rfl] at H; exact H
  clear H
  have H := H1
  clear H1
  obtain rfl := Option.some.inj H
  go_enter Try.func17, Try.ntmps17
  go_wp2_with (first | ((with_reducible refine aK (N := 1) rfl ?_); (try (refine aW (by rfl) ?_; dsimp only)); refine av ?hg (N := 1) ?hd (cs := #[.slice aC ai.length aA, .slice aI af.length au]) (t := 25) ?hr ?_; (case hd => rfl); (case hg => rfl); (case hr => first | (go_simp; done) | (go_simp; rfl)); intro aG hg w4 hbox hb; have n0_ := Aside0.mk (aj (by repeat (first | (with_reducible first | exact HB.out | apply a6 | apply a4 | apply a5) | exact HB.out)) hb); have n1_ := Aside0.mk (hbox); have n2_ := Aside0.mk ((by rw [hg]; exact (ah (by repeat (first | (with_reducible first | exact HB.out | apply a6 | apply a4 | apply a5) | exact HB.out))) : w.heap.size ≤ aG)); have n3_ := Aside0.mk ((by rw [hg]; exact (ah (by repeat (first | (with_reducible first | exact HB.out | apply a6 | apply a4 | apply a5) | exact HB.out))) : w.heap.size ≤ aG)); clear HB; have HB := n0_; have am := n1_; have GW103 := n2_; have be := n3_; clear n0_ n1_ n2_ n3_; clear hb hbox hg; have dr : w4.cell? ⟨aG, 0, none⟩ = some (.slice aC ai.length aA) := (a7 am.out 0).trans rfl; have dt : w4.cell? ⟨aG, 1, none⟩ = some (.slice aI af.length au) := (a7 am.out 1).trans rfl; have du := a8 am.out 0; have dv := a8 am.out 1) | (go_at_call 37; (with_reducible refine (search_long.calls _ _ ai _ _ af true _ ?side1 ?side2 ?side3 ?side4 A2.out).mono ?_); (case side1 => repeat (first | exact (Kd.C_below bz.out HB.out) | (with_reducible refine Kd.C_alloc ?_ _) | (with_reducible refine Kd.C_drewN ?_ _) | (with_reducible refine Kd.C_drew ?_))); (case side2 => exact bG.out); (case side3 => repeat (first | exact (Kd.C_below br.out HB.out) | (with_reducible refine Kd.C_alloc ?_ _) | (with_reducible refine Kd.C_drewN ?_ _) | (with_reducible refine Kd.C_drew ?_))); (case side4 => exact bF.out); rintro e w6 ⟨rfl, hb⟩; have n0_ := Aside0.mk (ae (g := aG) (o := .cells #[.slice aC ai.length aA, .slice aI af.length au] 25 (0, 0)) (by (with_reducible repeat (first | refine ab ?_ _ | refine ac ?_ | refine a9 ?_ _)); exact am.out) hb); have n1_ := Aside0.mk (aj (by repeat (first | (with_reducible first | exact HB.out | apply a6 | apply a4 | apply a5 | refine aa ?_ be.out) | exact HB.out)) hb); clear am; clear HB; have am := n0_; have HB := n1_; clear n0_ n1_; (try clear hb); (try clear hb2); (try clear hk); (try clear hi)))
  repeat (go_quiet (first | ((with_reducible refine aK (N := 1) rfl ?_); (try (refine aW (by rfl) ?_; dsimp only)); refine av ?hg (N := 1) ?hd (cs := #[.slice aC ai.length aA, .slice aI af.length au]) (t := 25) ?hr ?_; (case hd => rfl); (case hg => rfl); (case hr => first | (go_simp; done) | (go_simp; rfl)); intro aG hg w4 hbox hb; have n0_ := Aside0.mk (aj (by repeat (first | (with_reducible first | exact HB.out | apply a6 | apply a4 | apply a5) | exact HB.out)) hb); have n1_ := Aside0.mk (hbox); have n2_ := Aside0.mk ((by rw [hg]; exact (ah (by repeat (first | (with_reducible first | exact HB.out | apply a6 | apply a4 | apply a5) | exact HB.out))) : w.heap.size ≤ aG)); have n3_ := Aside0.mk ((by rw [hg]; exact (ah (by repeat (first | (with_reducible first | exact HB.out | apply a6 | apply a4 | apply a5) | exact HB.out))) : w.heap.size ≤ aG)); clear HB; have HB := n0_; have am := n1_; have GW103 := n2_; have be := n3_; clear n0_ n1_ n2_ n3_; clear hb hbox hg; have dr : w4.cell? ⟨aG, 0, none⟩ = some (.slice aC ai.length aA) := (a7 am.out 0).trans rfl; have dt : w4.cell? ⟨aG, 1, none⟩ = some (.slice aI af.length au) := (a7 am.out 1).trans rfl; have du := a8 am.out 0; have dv := a8 am.out 1) | (go_at_call 37; (with_reducible refine (search_long.calls _ _ ai _ _ af true _ ?side1 ?side2 ?side3 ?side4 A2.out).mono ?_); (case side1 => repeat (first | exact (Kd.C_below bz.out HB.out) | (with_reducible refine Kd.C_alloc ?_ _) | (with_reducible refine Kd.C_drewN ?_ _) | (with_reducible refine Kd.C_drew ?_))); (case side2 => exact bG.out); (case side3 => repeat (first | exact (Kd.C_below br.out HB.out) | (with_reducible refine Kd.C_alloc ?_ _) | (with_reducible refine Kd.C_drewN ?_ _) | (with_reducible refine Kd.C_drew ?_))); (case side4 => exact bF.out); rintro e w6 ⟨rfl, hb⟩; have n0_ := Aside0.mk (ae (g := aG) (o := .cells #[.slice aC ai.length aA, .slice aI af.length au] 25 (0, 0)) (by (with_reducible repeat (first | refine ab ?_ _ | refine ac ?_ | refine a9 ?_ _)); exact am.out) hb); have n1_ := Aside0.mk (aj (by repeat (first | (with_reducible first | exact HB.out | apply a6 | apply a4 | apply a5 | refine aa ?_ be.out) | exact HB.out)) hb); clear am; clear HB; have am := n0_; have HB := n1_; clear n0_ n1_; (try clear hb); (try clear hb2); (try clear hk); (try clear hi))); try go_wp2_with (first | ((with_reducible refine aK (N := 1) rfl ?_); (try (refine aW (by rfl) ?_; dsimp only)); refine av ?hg (N := 1) ?hd (cs := #[.slice aC ai.length aA, .slice aI af.length au]) (t := 25) ?hr ?_; (case hd => rfl); (case hg => rfl); (case hr => first | (go_simp; done) | (go_simp; rfl)); intro aG hg w4 hbox hb; have n0_ := Aside0.mk (aj (by repeat (first | (with_reducible first | exact HB.out | apply a6 | apply a4 | apply a5) | exact HB.out)) hb); have n1_ := Aside0.mk (hbox); have n2_ := Aside0.mk ((by rw [hg]; exact (ah (by repeat (first | (with_reducible first | exact HB.out | apply a6 | apply a4 | apply a5) | exact HB.out))) : w.heap.size ≤ aG)); have n3_ := Aside0.mk ((by rw [hg]; exact (ah (by repeat (first | (with_reducible first | exact HB.out | apply a6 | apply a4 | apply a5) | exact HB.out))) : w.heap.size ≤ aG)); clear HB; have HB := n0_; have am := n1_; have GW103 := n2_; have be := n3_; clear n0_ n1_ n2_ n3_; clear hb hbox hg; have dr : w4.cell? ⟨aG, 0, none⟩ = some (.slice aC ai.length aA) := (a7 am.out 0).trans rfl; have dt : w4.cell? ⟨aG, 1, none⟩ = some (.slice aI af.length au) := (a7 am.out 1).trans rfl; have du := a8 am.out 0; have dv := a8 am.out 1) | (go_at_call 37; (with_reducible refine (search_long.calls _ _ ai _ _ af true _ ?side1 ?side2 ?side3 ?side4 A2.out).mono ?_); (case side1 => repeat (first | exact (Kd.C_below bz.out HB.out) | (with_reducible refine Kd.C_alloc ?_ _) | (with_reducible refine Kd.C_drewN ?_ _) | (with_reducible refine Kd.C_drew ?_))); (case side2 => exact bG.out); (case side3 => repeat (first | exact (Kd.C_below br.out HB.out) | (with_reducible refine Kd.C_alloc ?_ _) | (with_reducible refine Kd.C_drewN ?_ _) | (with_reducible refine Kd.C_drew ?_))); (case side4 => exact bF.out); rintro e w6 ⟨rfl, hb⟩; have n0_ := Aside0.mk (ae (g := aG) (o := .cells #[.slice aC ai.length aA, .slice aI af.length au] 25 (0, 0)) (by (with_reducible repeat (first | refine ab ?_ _ | refine ac ?_ | refine a9 ?_ _)); exact am.out) hb); have n1_ := Aside0.mk (aj (by repeat (first | (with_reducible first | exact HB.out | apply a6 | apply a4 | apply a5 | refine aa ?_ be.out) | exact HB.out)) hb); clear am; clear HB; have am := n0_; have HB := n1_; clear n0_ n1_; (try clear hb); (try clear hb2); (try clear hk); (try clear hi))))
  go_ret
  exact ⟨by first | rfl | (simp [al, ak] <;> rfl) | (simp [*, al, ak] <;> rfl), by repeat (first | (with_reducible first | exact HB.out | apply a6 | apply a4 | apply a5 | refine aa ?_ be.out) | exact HB.out)⟩
 ·replace c3 := Bool.eq_false_iff.mpr c3
  subst c3
  have H1 : (if (ai.length : Int) = 0 then (some 150) else (search_Check.l0 k 1 ai (ai.length : Int) 0 ai af)) = some r := by rw [if_neg (show ¬ (false = true) by decide)] at H; exact H
  clear H
  have H := H1
  clear H1
  by_cases c7 : (ai.length : Int) = 0
  ·rw [if_pos c7] at H
   have c7b0 : ((ai.length : Int) == 0) = true := beq_iff_eq.mpr c7
   have c7b1 : ((ai.length : Int) != 0) = false := bne_eq_false_iff_eq.mpr c7
   clear c7
   obtain rfl := Option.some.inj H
   go_enter Try.func17, Try.ntmps17
   go_wp2_with (first | ((with_reducible refine aK (N := 1) rfl ?_); (try (refine aW (by rfl) ?_; dsimp only)); refine av ?hg (N := 1) ?hd (cs := #[.slice aC ai.length aA, .slice aI af.length au]) (t := 25) ?hr ?_; (case hd => rfl); (case hg => rfl); (case hr => first | (go_simp; done) | (go_simp; rfl)); intro aG hg w8 hbox hb; have n0_ := Aside0.mk (aj (by repeat (first | (with_reducible first | exact HB.out | apply a6 | apply a4 | apply a5) | exact HB.out)) hb); have n1_ := Aside0.mk (hbox); have n2_ := Aside0.mk ((by rw [hg]; exact (ah (by repeat (first | (with_reducible first | exact HB.out | apply a6 | apply a4 | apply a5) | exact HB.out))) : w.heap.size ≤ aG)); have n3_ := Aside0.mk ((by rw [hg]; exact (ah (by repeat (first | (with_reducible first | exact HB.out | apply a6 | apply a4 | apply a5) | exact HB.out))) : w.heap.size ≤ aG)); clear HB; have HB := n0_; have am := n1_; have GW103 := n2_; have be := n3_; clear n0_ n1_ n2_ n3_; clear hb hbox hg; have d7 : w8.cell? ⟨aG, 0, none⟩ = some (.slice aC ai.length aA) := (a7 am.out 0).trans rfl; have d8 : w8.cell? ⟨aG, 1, none⟩ = some (.slice aI af.length au) := (a7 am.out 1).trans rfl; have d9 := a8 am.out 0; have da := a8 am.out 1) | (go_at_call 37; (with_reducible refine (search_long.calls _ _ ai _ _ af false _ ?side1 ?side2 ?side3 ?side4 A2.out).mono ?_); (case side1 => repeat (first | exact (Kd.C_below bz.out HB.out) | (with_reducible refine Kd.C_alloc ?_ _) | (with_reducible refine Kd.C_drewN ?_ _) | (with_reducible refine Kd.C_drew ?_))); (case side2 => exact bG.out); (case side3 => repeat (first | exact (Kd.C_below br.out HB.out) | (with_reducible refine Kd.C_alloc ?_ _) | (with_reducible refine Kd.C_drewN ?_ _) | (with_reducible refine Kd.C_drew ?_))); (case side4 => exact bF.out); rintro e w10 ⟨rfl, hb⟩; have n0_ := Aside0.mk (ae (g := aG) (o := .cells #[.slice aC ai.length aA, .slice aI af.length au] 25 (0, 0)) (by (with_reducible repeat (first | refine ab ?_ _ | refine ac ?_ | refine a9 ?_ _)); exact am.out) hb); have n1_ := Aside0.mk (aj (by repeat (first | (with_reducible first | exact HB.out | apply a6 | apply a4 | apply a5 | refine aa ?_ be.out) | exact HB.out)) hb); clear am; clear HB; have am := n0_; have HB := n1_; clear n0_ n1_; (try clear hb); (try clear hb2); (try clear hk); (try clear hi); have bS : w10.cell? ⟨aG, 0, none⟩ = some (.slice aC ai.length aA) := (a7 am.out 0).trans rfl; have bT : w10.cell? ⟨aG, 1, none⟩ = some (.slice aI af.length au) := (a7 am.out 1).trans rfl; have bU := a8 am.out 0; have bV := a8 am.out 1))
   repeat (go_quiet (first | ((with_reducible refine aK (N := 1) rfl ?_); (try (refine aW (by rfl) ?_; dsimp only)); refine av ?hg (N := 1) ?hd (cs := #[.slice aC ai.length aA, .slice aI af.length au]) (t := 25) ?hr ?_; (case hd => rfl); (case hg => rfl); (case hr => first | (go_simp; done) | (go_simp; rfl)); intro aG hg w8 hbox hb; have n0_ := Aside0.mk (aj (by repeat (first | (with_reducible first | exact HB.out | apply a6 | apply a4 | apply a5) | exact HB.out)) hb); have n1_ := Aside0.mk (hbox); have n2_ := Aside0.mk ((by rw [hg]; exact (ah (by repeat (first | (with_reducible first | exact HB.out | apply a6 | apply a4 | apply a5) | exact HB.out))) : w.heap.size ≤ aG)); have n3_ := Aside0.mk ((by rw [hg]; exact (ah (by repeat (first | (with_reducible first | exact HB.out | apply a6 | apply a4 | apply a5) | exact HB.out))) : w.heap.size ≤ aG)); clear HB; have HB := n0_; have am := n1_; have GW103 := n2_; have be := n3_; clear n0_ n1_ n2_ n3_; clear hb hbox hg; have d7 : w8.cell? ⟨aG, 0, none⟩ = some (.slice aC ai.length aA) := (a7 am.out 0).trans rfl; have d8 : w8.cell? ⟨aG, 1, none⟩ = some (.slice aI af.length au) := (a7 am.out 1).trans rfl; have d9 := a8 am.out 0; have da := a8 am.out 1) | (go_at_call 37; (with_reducible refine (search_long.calls _ _ ai _ _ af false _ ?side1 ?side2 ?side3 ?side4 A2.out).mono ?_); (case side1 => repeat (first | exact (Kd.C_below bz.out HB.out) | (with_reducible refine Kd.C_alloc ?_ _) | (with_reducible refine Kd.C_drewN ?_ _) | (with_reducible refine Kd.C_drew ?_))); (case side2 => exact bG.out); (case side3 => repeat (first | exact (Kd.C_below br.out HB.out) | (with_reducible refine Kd.C_alloc ?_ _) | (with_reducible refine Kd.C_drewN ?_ _) | (with_reducible refine Kd.C_drew ?_))); (case side4 => exact bF.out); rintro e w10 ⟨rfl, hb⟩; have n0_ := Aside0.mk (ae (g := aG) (o := .cells #[.slice aC ai.length aA, .slice aI af.length au] 25 (0, 0)) (by (with_reducible repeat (first | refine ab ?_ _ | refine ac ?_ | refine a9 ?_ _)); exact am.out) hb); have n1_ := Aside0.mk (aj (by repeat (first | (with_reducible first | exact HB.out | apply a6 | apply a4 | apply a5 | refine aa ?_ be.out) | exact HB.out)) hb); clear am; clear HB; have am := n0_; have HB := n1_; clear n0_ n1_; (try clear hb); (try clear hb2); (try clear hk); (try clear hi); have bS : w10.cell? ⟨aG, 0, none⟩ = some (.slice aC ai.length aA) := (a7 am.out 0).trans rfl; have bT : w10.cell? ⟨aG, 1, none⟩ = some (.slice aI af.length au) := (a7 am.out 1).trans rfl; have bU := a8 am.out 0; have bV := a8 am.out 1)); try go_wp2_with (first | ((with_reducible refine aK (N := 1) rfl ?_); (try (refine aW (by rfl) ?_; dsimp only)); refine av ?hg (N := 1) ?hd (cs := #[.slice aC ai.length aA, .slice aI af.length au]) (t := 25) ?hr ?_; (case hd => rfl); (case hg => rfl); (case hr => first | (go_simp; done) | (go_simp; rfl)); intro aG hg w8 hbox hb; have n0_ := Aside0.mk (aj (by repeat (first | (with_reducible first | exact HB.out | apply a6 | apply a4 | apply a5) | exact HB.out)) hb); have n1_ := Aside0.mk (hbox); have n2_ := Aside0.mk ((by rw [hg]; exact (ah (by repeat (first | (with_reducible first | exact HB.out | apply a6 | apply a4 | apply a5) | exact HB.out))) : w.heap.size ≤ aG)); have n3_ := Aside0.mk ((by rw [hg]; exact (ah (by repeat (first | (with_reducible first | exact HB.out | apply a6 | apply a4 | apply a5) | exact HB.out))) : w.heap.size ≤ aG)); clear HB; have HB := n0_; have am := n1_; have GW103 := n2_; have be := n3_; clear n0_ n1_ n2_ n3_; clear hb hbox hg; have d7 : w8.cell? ⟨aG, 0, none⟩ = some (.slice aC ai.length aA) := (a7 am.out 0).trans rfl; have d8 : w8.cell? ⟨aG, 1, none⟩ = some (.slice aI af.length au) := (a7 am.out 1).trans rfl; have d9 := a8 am.out 0; have da := a8 am.out 1) | (go_at_call 37; (with_reducible refine (search_long.calls _ _ ai _ _ af false _ ?side1 ?side2 ?side3 ?side4 A2.out).mono ?_); (case side1 => repeat (first | exact (Kd.C_below bz.out HB.out) | (with_reducible refine Kd.C_alloc ?_ _) | (with_reducible refine Kd.C_drewN ?_ _) | (with_reducible refine Kd.C_drew ?_))); (case side2 => exact bG.out); (case side3 => repeat (first | exact (Kd.C_below br.out HB.out) | (with_reducible refine Kd.C_alloc ?_ _) | (with_reducible refine Kd.C_drewN ?_ _) | (with_reducible refine Kd.C_drew ?_))); (case side4 => exact bF.out); rintro e w10 ⟨rfl, hb⟩; have n0_ := Aside0.mk (ae (g := aG) (o := .cells #[.slice aC ai.length aA, .slice aI af.length au] 25 (0, 0)) (by (with_reducible repeat (first | refine ab ?_ _ | refine ac ?_ | refine a9 ?_ _)); exact am.out) hb); have n1_ := Aside0.mk (aj (by repeat (first | (with_reducible first | exact HB.out | apply a6 | apply a4 | apply a5 | refine aa ?_ be.out) | exact HB.out)) hb); clear am; clear HB; have am := n0_; have HB := n1_; clear n0_ n1_; (try clear hb); (try clear hb2); (try clear hk); (try clear hi); have bS : w10.cell? ⟨aG, 0, none⟩ = some (.slice aC ai.length aA) := (a7 am.out 0).trans rfl; have bT : w10.cell? ⟨aG, 1, none⟩ = some (.slice aI af.length au) := (a7 am.out 1).trans rfl; have bU := a8 am.out 0; have bV := a8 am.out 1)))
   go_ret
   exact ⟨by first | rfl | (simp [al, ak] <;> rfl) | (simp [*, al, ak] <;> rfl), by repeat (first | (with_reducible first | exact HB.out | apply a6 | apply a4 | apply a5 | refine aa ?_ be.out) | exact HB.out)⟩
  ·rw [if_neg c7] at H
   have c7b0 : ((ai.length : Int) == 0) = false := beq_eq_false_iff_ne.mpr c7
   have c7b1 : ((ai.length : Int) != 0) = true := bne_iff_ne.mpr c7
   have c7b2 : ¬ (ai = []) := fun h_ => c7 (by rw [h_]; rfl)
   have H' := Aside0.mk H
   clear H
   go_enter Try.func17, Try.ntmps17
   go_wp2_with (first | ((with_reducible refine aK (N := 1) rfl ?_); (try (refine aW (by rfl) ?_; dsimp only)); refine av ?hg (N := 1) ?hd (cs := #[.slice aC ai.length aA, .slice aI af.length au]) (t := 25) ?hr ?_; (case hd => rfl); (case hg => rfl); (case hr => first | (go_simp; done) | (go_simp; rfl)); intro aG hg w12 hbox hb; have n0_ := Aside0.mk (aj (by repeat (first | (with_reducible first | exact HB.out | apply a6 | apply a4 | apply a5) | exact HB.out)) hb); have n1_ := Aside0.mk (hbox); have n2_ := Aside0.mk ((by rw [hg]; exact (ah (by repeat (first | (with_reducible first | exact HB.out | apply a6 | apply a4 | apply a5) | exact HB.out))) : w.heap.size ≤ aG)); have n3_ := Aside0.mk ((by rw [hg]; exact (ah (by repeat (first | (with_reducible first | exact HB.out | apply a6 | apply a4 | apply a5) | exact HB.out))) : w.heap.size ≤ aG)); clear HB; have HB := n0_; have am := n1_; have GW103 := n2_; have be := n3_; clear n0_ n1_ n2_ n3_; clear hb hbox hg; have cX : w12.cell? ⟨aG, 0, none⟩ = some (.slice aC ai.length aA) := (a7 am.out 0).trans rfl; have cY : w12.cell? ⟨aG, 1, none⟩ = some (.slice aI af.length au) := (a7 am.out 1).trans rfl; have cZ := a8 am.out 0; have d3 := a8 am.out 1) | (go_at_call 37; (with_reducible refine (search_long.calls _ _ ai _ _ af false _ ?side1 ?side2 ?side3 ?side4 A2.out).mono ?_); (case side1 => repeat (first | exact (Kd.C_below bz.out HB.out) | (with_reducible refine Kd.C_alloc ?_ _) | (with_reducible refine Kd.C_drewN ?_ _) | (with_reducible refine Kd.C_drew ?_))); (case side2 => exact bG.out); (case side3 => repeat (first | exact (Kd.C_below br.out HB.out) | (with_reducible refine Kd.C_alloc ?_ _) | (with_reducible refine Kd.C_drewN ?_ _) | (with_reducible refine Kd.C_drew ?_))); (case side4 => exact bF.out); rintro e w14 ⟨rfl, hb⟩; have n0_ := Aside0.mk (ae (g := aG) (o := .cells #[.slice aC ai.length aA, .slice aI af.length au] 25 (0, 0)) (by (with_reducible repeat (first | refine ab ?_ _ | refine ac ?_ | refine a9 ?_ _)); exact am.out) hb); have n1_ := Aside0.mk (aj (by repeat (first | (with_reducible first | exact HB.out | apply a6 | apply a4 | apply a5 | refine aa ?_ be.out) | exact HB.out)) hb); clear am; clear HB; have am := n0_; have HB := n1_; clear n0_ n1_; (try clear hb); (try clear hb2); (try clear hk); (try clear hi); have el : w14.cell? ⟨aG, 0, none⟩ = some (.slice aC ai.length aA) := (a7 am.out 0).trans rfl; have em : w14.cell? ⟨aG, 1, none⟩ = some (.slice aI af.length au) := (a7 am.out 1).trans rfl; have en := a8 am.out 0; have eo := a8 am.out 1))
   repeat (go_quiet (first | ((with_reducible refine aK (N := 1) rfl ?_); (try (refine aW (by rfl) ?_; dsimp only)); refine av ?hg (N := 1) ?hd (cs := #[.slice aC ai.length aA, .slice aI af.length au]) (t := 25) ?hr ?_; (case hd => rfl); (case hg => rfl); (case hr => first | (go_simp; done) | (go_simp; rfl)); intro aG hg w12 hbox hb; have n0_ := Aside0.mk (aj (by repeat (first | (with_reducible first | exact HB.out | apply a6 | apply a4 | apply a5) | exact HB.out)) hb); have n1_ := Aside0.mk (hbox); have n2_ := Aside0.mk ((by rw [hg]; exact (ah (by repeat (first | (with_reducible first | exact HB.out | apply a6 | apply a4 | apply a5) | exact HB.out))) : w.heap.size ≤ aG)); have n3_ := Aside0.mk ((by rw [hg]; exact (ah (by repeat (first | (with_reducible first | exact HB.out | apply a6 | apply a4 | apply a5) | exact HB.out))) : w.heap.size ≤ aG)); clear HB; have HB := n0_; have am := n1_; have GW103 := n2_; have be := n3_; clear n0_ n1_ n2_ n3_; clear hb hbox hg; have cX : w12.cell? ⟨aG, 0, none⟩ = some (.slice aC ai.length aA) := (a7 am.out 0).trans rfl; have cY : w12.cell? ⟨aG, 1, none⟩ = some (.slice aI af.length au) := (a7 am.out 1).trans rfl; have cZ := a8 am.out 0; have d3 := a8 am.out 1) | (go_at_call 37; (with_reducible refine (search_long.calls _ _ ai _ _ af false _ ?side1 ?side2 ?side3 ?side4 A2.out).mono ?_); (case side1 => repeat (first | exact (Kd.C_below bz.out HB.out) | (with_reducible refine Kd.C_alloc ?_ _) | (with_reducible refine Kd.C_drewN ?_ _) | (with_reducible refine Kd.C_drew ?_))); (case side2 => exact bG.out); (case side3 => repeat (first | exact (Kd.C_below br.out HB.out) | (with_reducible refine Kd.C_alloc ?_ _) | (with_reducible refine Kd.C_drewN ?_ _) | (with_reducible refine Kd.C_drew ?_))); (case side4 => exact bF.out); rintro e w14 ⟨rfl, hb⟩; have n0_ := Aside0.mk (ae (g := aG) (o := .cells #[.slice aC ai.length aA, .slice aI af.length au] 25 (0, 0)) (by (with_reducible repeat (first | refine ab ?_ _ | refine ac ?_ | refine a9 ?_ _)); exact am.out) hb); have n1_ := Aside0.mk (aj (by repeat (first | (with_reducible first | exact HB.out | apply a6 | apply a4 | apply a5 | refine aa ?_ be.out) | exact HB.out)) hb); clear am; clear HB; have am := n0_; have HB := n1_; clear n0_ n1_; (try clear hb); (try clear hb2); (try clear hk); (try clear hi); have el : w14.cell? ⟨aG, 0, none⟩ = some (.slice aC ai.length aA) := (a7 am.out 0).trans rfl; have em : w14.cell? ⟨aG, 1, none⟩ = some (.slice aI af.length au) := (a7 am.out 1).trans rfl; have en := a8 am.out 0; have eo := a8 am.out 1)); try go_wp2_with (first | ((with_reducible refine aK (N := 1) rfl ?_); (try (refine aW (by rfl) ?_; dsimp only)); refine av ?hg (N := 1) ?hd (cs := #[.slice aC ai.length aA, .slice aI af.length au]) (t := 25) ?hr ?_; (case hd => rfl); (case hg => rfl); (case hr => first | (go_simp; done) | (go_simp; rfl)); intro aG hg w12 hbox hb; have n0_ := Aside0.mk (aj (by repeat (first | (with_reducible first | exact HB.out | apply a6 | apply a4 | apply a5) | exact HB.out)) hb); have n1_ := Aside0.mk (hbox); have n2_ := Aside0.mk ((by rw [hg]; exact (ah (by repeat (first | (with_reducible first | exact HB.out | apply a6 | apply a4 | apply a5) | exact HB.out))) : w.heap.size ≤ aG)); have n3_ := Aside0.mk ((by rw [hg]; exact (ah (by repeat (first | (with_reducible first | exact HB.out | apply a6 | apply a4 | apply a5) | exact HB.out))) : w.heap.size ≤ aG)); clear HB; have HB := n0_; have am := n1_; have GW103 := n2_; have be := n3_; clear n0_ n1_ n2_ n3_; clear hb hbox hg; have cX : w12.cell? ⟨aG, 0, none⟩ = some (.slice aC ai.length aA) := (a7 am.out 0).trans rfl; have cY : w12.cell? ⟨aG, 1, none⟩ = some (.slice aI af.length au) := (a7 am.out 1).trans rfl; have cZ := a8 am.out 0; have d3 := a8 am.out 1) | (go_at_call 37; (with_reducible refine (search_long.calls _ _ ai _ _ af false _ ?side1 ?side2 ?side3 ?side4 A2.out).mono ?_); (case side1 => repeat (first | exact (Kd.C_below bz.out HB.out) | (with_reducible refine Kd.C_alloc ?_ _) | (with_reducible refine Kd.C_drewN ?_ _) | (with_reducible refine Kd.C_drew ?_))); (case side2 => exact bG.out); (case side3 => repeat (first | exact (Kd.C_below br.out HB.out) | (with_reducible refine Kd.C_alloc ?_ _) | (with_reducible refine Kd.C_drewN ?_ _) | (with_reducible refine Kd.C_drew ?_))); (case side4 => exact bF.out); rintro e w14 ⟨rfl, hb⟩; have n0_ := Aside0.mk (ae (g := aG) (o := .cells #[.slice aC ai.length aA, .slice aI af.length au] 25 (0, 0)) (by (with_reducible repeat (first | refine ab ?_ _ | refine ac ?_ | refine a9 ?_ _)); exact am.out) hb); have n1_ := Aside0.mk (aj (by repeat (first | (with_reducible first | exact HB.out | apply a6 | apply a4 | apply a5 | refine aa ?_ be.out) | exact HB.out)) hb); clear am; clear HB; have am := n0_; have HB := n1_; clear n0_ n1_; (try clear hb); (try clear hb2); (try clear hk); (try clear hi); have el : w14.cell? ⟨aG, 0, none⟩ = some (.slice aC ai.length aA) := (a7 am.out 0).trans rfl; have em : w14.cell? ⟨aG, 1, none⟩ = some (.slice aI af.length au) := (a7 am.out 1).trans rfl; have en := a8 am.out 0; have eo := a8 am.out 1)))
   go_loopg [3, 18] k (fun kq v3 v18 w' => ∃ (x3_1 : Int) (x18_1 : Int), v3 = .int .i64 x3_1 ∧ v18 = .int .i64 x18_1 ∧ Aside0 (search_Check.l0 kq x3_1 ai (ai.length : Int) x18_1 ai af = some r) ∧ Aside0 (kq ≤ k) ∧ Aside0 (w'.heap[aG]? = some (.cells #[(.slice aC ai.length aA), (.slice aI af.length au)] 25 (0, 0))) ∧ Aside0 (Below w.heap.size w w'))
   case atStart => exact ⟨(1), (0), (by first | rfl | (simp; done) | (simp [*]; done)), (by first | rfl | (simp; done) | (simp [*]; done)), H', ⟨Nat.le_refl _⟩, ⟨by (with_reducible repeat (first | refine ab ?_ _ | refine ac ?_ | refine a9 ?_ _)); exact am.out⟩, ⟨by repeat (first | (with_reducible first | exact HB.out | apply a6 | apply a4 | apply a5 | refine aa ?_ be.out) | exact HB.out)⟩⟩
   case round =>
    clear H'
    try clear c1; try clear p2; try clear c3; try clear c7; try clear c7b0; try clear c7b1; try clear c7b2; try clear bS; try clear bT; try clear cX; try clear cY; try clear el; try clear em; try clear dr; try clear dt; try clear d7; try clear d8; try clear bU; try clear bV; try clear cZ; try clear d3; try clear en; try clear eo; try clear du; try clear dv; try clear d9; try clear da
    obtain ⟨x3_1, x18_1, rfl, rfl, HA, HK1, am, HB⟩ := hrel
    cases gk with
    | zero => exact absurd HA.out (by simp [search_Check.l0])
    | succ k1 =>
     have H := HA.out
     clear HA
     simp only [search_Check.l0] at H
     by_cases c16 : x18_1 < (ai.length : Int)
     ·rw [if_pos c16] at H
      have c16b0 : decide (x18_1 < (ai.length : Int)) = true := decide_eq_true c16
      clear c16
      by_cases c17 : 0 ≤ x18_1
      ·rw [if_pos c17] at H
       have c17b0 : decide (0 ≤ x18_1) = true := decide_eq_true c17
       clear c17
       by_cases c18 : x18_1 < (ai.length : Int)
       ·rw [if_pos c18] at H
        have c18b0 : decide (x18_1 < (ai.length : Int)) = true := decide_eq_true c18
        clear c18
        have HC19 := Aside0.mk H
        clear H
        have p105 : 0 ≤ (x18_1 : Int) := of_decide_eq_true (by first | (with_reducible assumption) | assumption)
        have q105 : x18_1 < (ai.length : Int) := of_decide_eq_true (by first | (with_reducible assumption) | assumption)
        obtain ⟨ad105, A105_0, c105_0, e105, fc, hl105_0, hi105_0⟩ := f5 bz.out x18_1 p105 q105
        cases e105
        replace fc := (HB.out.cell (World.block_lt_of_cell? w _ fc)).trans fc
        have ep := Aside0.mk hi105_0
        have HC105_0 := Aside0.mk hl105_0
        clear hi105_0 hl105_0
        replace p105 := eq_true p105
        replace q105 := eq_true q105
        go_upto_region 9 with (fail)
        repeat (go_quiet (fail); go_upto_region 9 with (fail))
        go_cut [39] (fun v39 wc => ∃ (kq : Nat) (x39_18 : Bool), v39 = .bool x39_18 ∧ Aside0 (search_Check.j1 kq x3_1 (aJ ai x18_1) ai (ai.length : Int) x18_1 x39_18 ai af = some r) ∧ Aside0 (kq ≤ k1) ∧ Aside0 (wc.heap[aG]? = some (.cells #[(.slice (some ad105) ai.length aA), (.slice aI af.length au)] 25 (0, 0))) ∧ Aside0 (Below w.heap.size w wc))
        case first =>
         have H := HC19.out
         clear HC19
         by_cases c20 : ((aJ ai x18_1).length : Int) = 0
         ·rw [if_pos c20] at H
          have c20b0 : (((aJ ai x18_1).length : Int) == 0) = true := beq_iff_eq.mpr c20
          have c20b1 : (((aJ ai x18_1).length : Int) != 0) = false := bne_eq_false_iff_eq.mpr c20
          clear c20
          (first | rw [c20b0] | (simp only [aq, ar]; rw [c20b0]) | skip)
          have H' := Aside0.mk H
          clear H
          go_wp2
          repeat (go_quiet (fail); try go_wp2)
          go_meet
          case rel => exact ⟨_, (true), (by first | rfl | (simp; done) | (simp [*]; done)), H', ⟨by have := HK1.out; first | omega | exact Nat.le_refl _⟩, ⟨by (with_reducible repeat (first | refine ab ?_ _ | refine ac ?_ | refine a9 ?_ _)); exact am.out⟩, ⟨by repeat (first | (with_reducible first | exact HB.out | apply a6 | apply a4 | apply a5 | refine aa ?_ be.out) | exact HB.out)⟩⟩
         ·rw [if_neg c20] at H
          have c20b0 : (((aJ ai x18_1).length : Int) == 0) = false := beq_eq_false_iff_ne.mpr c20
          have c20b1 : (((aJ ai x18_1).length : Int) != 0) = true := bne_iff_ne.mpr c20
          have c20b2 : ¬ ((aJ ai x18_1) = []) := fun h_ => c20 (by rw [h_]; rfl)
          (first | rw [c20b0] | (simp only [aq, ar]; rw [c20b0]) | skip)
          by_cases c21 : 0 < ((aJ ai x18_1).length : Int)
          ·rw [if_pos c21] at H
           have gC : decide (0 < ((aJ ai x18_1).length : Int)) = true := decide_eq_true c21
           have c21b1 : decide (0 < (aJ ai x18_1).length) = true := decide_eq_true (by omega)
           clear c21
           by_cases c22 : (rd (aJ ai x18_1) 0) < 0
           ·rw [if_pos c22] at H
            have c22b0 : decide ((rd (aJ ai x18_1) 0) < 0) = true := decide_eq_true c22
            clear c22
            have H' := Aside0.mk H
            clear H
            have p106 : 0 ≤ (0 : Int) := (by omega)
            have q106 : 0 < ((aJ ai x18_1).length : Int) := of_decide_eq_true (by first | (with_reducible assumption) | assumption)
            obtain ⟨ad106, e106, ci⟩ := Kd.at_int ep.out 0 p106 q106
            cases e106
            have qi106 : (0 < (aJ ai x18_1).length) = True := eq_true (by omega)
            (try rw [show ((0 : Int)).toNat = 0 from rfl] at ci)
            (try rw [Addr.add_zero'] at ci)
            replace ci := (HB.out.cell (World.block_lt_of_cell? w _ ci)).trans ci
            replace p106 := eq_true p106
            replace q106 := eq_true q106
            go_wp2
            repeat (go_quiet (fail); try go_wp2)
            go_meet
            case rel => exact ⟨_, (true), (by first | rfl | (simp; done) | (simp [*]; done)), H', ⟨by have := HK1.out; first | omega | exact Nat.le_refl _⟩, ⟨by (with_reducible repeat (first | refine ab ?_ _ | refine ac ?_ | refine a9 ?_ _)); exact am.out⟩, ⟨by repeat (first | (with_reducible first | exact HB.out | apply a6 | apply a4 | apply a5 | refine aa ?_ be.out) | exact HB.out)⟩⟩
           ·rw [if_neg c22] at H
            have c22b0 : decide ((rd (aJ ai x18_1) 0) < 0) = false := decide_eq_false c22
            clear c22
            obtain ⟨ji23, hji23⟩ : ∃ j_ : Int, (wrap64 (((aJ ai x18_1).length : Int) - 1)) = j_ := ⟨_, rfl⟩
            replace H : (if 0 ≤ (ji23) then (if (ji23) < ((aJ ai x18_1).length : Int) then (search_Check.j1 k1 x3_1 (aJ ai x18_1) ai (ai.length : Int) x18_1 (decide ((rd (aJ ai x18_1) (ji23)) > 73048)) ai af) else (none)) else (none)) = some r := by first | (rw [hji23] at H; exact H) | (simp only [hji23] at H ⊢; exact H)
            have hji23w : (IntKind.i64.wrap (((aJ ai x18_1).length : Int) - 1)) = ji23 := (aq _).trans hji23
            by_cases c24 : 0 ≤ (ji23)
            ·rw [if_pos c24] at H
             have c24b0 : decide (0 ≤ (ji23)) = true := decide_eq_true c24
             clear c24
             by_cases c25 : (ji23) < ((aJ ai x18_1).length : Int)
             ·rw [if_pos c25] at H
              have c25b0 : decide ((ji23) < ((aJ ai x18_1).length : Int)) = true := decide_eq_true c25
              clear c25
              have H' := Aside0.mk H
              clear H
              have p106 : 0 ≤ (0 : Int) := (by omega)
              have q106 : 0 < ((aJ ai x18_1).length : Int) := of_decide_eq_true (by first | (with_reducible assumption) | assumption)
              obtain ⟨ad106, e106, ci⟩ := Kd.at_int ep.out 0 p106 q106
              cases e106
              have qi106 : (0 < (aJ ai x18_1).length) = True := eq_true (by omega)
              (try rw [show ((0 : Int)).toNat = 0 from rfl] at ci)
              (try rw [Addr.add_zero'] at ci)
              replace ci := (HB.out.cell (World.block_lt_of_cell? w _ ci)).trans ci
              replace p106 := eq_true p106
              replace q106 := eq_true q106
              have p107 : 0 ≤ ((ji23) : Int) := of_decide_eq_true (by first | (with_reducible assumption) | assumption)
              have q107 : (ji23) < ((aJ ai x18_1).length : Int) := of_decide_eq_true (by first | (with_reducible assumption) | assumption)
              obtain ⟨ad107, e107, fd⟩ := Kd.at_int ep.out (ji23) p107 q107
              obtain rfl : ad106 = ad107 := (by injection e107)
              replace fd := (HB.out.cell (World.block_lt_of_cell? w _ fd)).trans fd
              replace p107 := eq_true p107
              replace q107 := eq_true q107
              go_wp2
              repeat (go_quiet (fail); try go_wp2)
              go_meet
              case rel => exact ⟨_, (decide ((rd (aJ ai x18_1) (ji23)) > 73048)), (by first | rfl | (simp; done) | (simp only [← hji23] <;> (first | rfl | simp)) | (simp [*]; done)), H', ⟨by have := HK1.out; first | omega | exact Nat.le_refl _⟩, ⟨by (with_reducible repeat (first | refine ab ?_ _ | refine ac ?_ | refine a9 ?_ _)); exact am.out⟩, ⟨by repeat (first | (with_reducible first | exact HB.out | apply a6 | apply a4 | apply a5 | refine aa ?_ be.out) | exact HB.out)⟩⟩
             ·rw [if_neg c25] at H
              exact absurd H (by simp)
            ·rw [if_neg c24] at H
             exact absurd H (by simp)
          ·rw [if_neg c21] at H
           exact absurd H (by simp)
        case rest =>
         clear HC19
         try clear c1; try clear p1; try clear q1; try clear hx1; try clear qi1; try clear c2; try clear p2; try clear c3; try clear p6; try clear c7; try clear c7b0; try clear c7b1; try clear c7b2; try clear c10; try clear p10; try clear q10; try clear hx10; try clear qi10; try clear c16; try clear c16b0; try clear c17; try clear c17b0; try clear c18; try clear c18b0; try clear c20; try clear c20b0; try clear c20b1; try clear c20b2; try clear c21; try clear gC; try clear c21b1; try clear c22; try clear c22b0; try clear c24; try clear c24b0; try clear c25; try clear c25b0; try clear bS; try clear bT; try clear cX; try clear cY; try clear el; try clear em; try clear dr; try clear dt; try clear d7; try clear d8; try clear bU; try clear bV; try clear cZ; try clear d3; try clear en; try clear eo; try clear du; try clear dv; try clear d9; try clear da; try clear fc; try clear ci; try clear fd; try clear p105; try clear p106; try clear p107; try clear q105; try clear q106; try clear q107
         obtain ⟨kq, x39_18, rfl, HA, HJ18, am, HB⟩ := hcut
         cases kq with
         | zero => exact absurd HA.out (by simp [search_Check.j1])
         | succ kj18 =>
          have H := HA.out
          clear HA
          simp only [search_Check.j1] at H
          by_cases c26 : x39_18 = true
          ·subst c26
           have H1 : (some 150) = some r := by rw [if_pos rfl] at H; exact H
           clear H
           have H := H1
           clear H1
           obtain rfl := Option.some.inj H
           go_wp2
           repeat (go_quiet (fail); try go_wp2)
           go_ret
           exact ⟨by first | rfl | (simp [al, ak] <;> rfl) | (simp [*, al, ak] <;> rfl), by repeat (first | (with_reducible first | exact HB.out | apply a6 | apply a4 | apply a5 | refine aa ?_ be.out) | exact HB.out)⟩
          ·replace c26 := Bool.eq_false_iff.mpr c26
           subst c26
           have H1 : (search_Check.l1 kj18 x3_1 (aJ ai x18_1) 1 ai (ai.length : Int) x18_1 ai af) = some r := by rw [if_neg (show ¬ (false = true) by decide)] at H; exact H
           clear H
           have H := H1
           clear H1
           have H' := Aside0.mk H
           clear H
           go_wp2
           repeat (go_quiet (fail); try go_wp2)
           go_loopg [6] kj18 (fun kq v6 w' => ∃ (x6_3 : Int), v6 = .int .i64 x6_3 ∧ Aside0 (search_Check.l1 kq x3_1 (aJ ai x18_1) x6_3 ai (ai.length : Int) x18_1 ai af = some r) ∧ Aside0 (kq ≤ kj18) ∧ Aside0 (w'.heap[aG]? = some (.cells #[(.slice (some ad105) ai.length aA), (.slice aI af.length au)] 25 (0, 0))) ∧ Aside0 (Below w.heap.size w w'))
           case atStart => exact ⟨(1), (by first | rfl | (simp; done) | (simp [*]; done)), H', ⟨Nat.le_refl _⟩, ⟨by (with_reducible repeat (first | refine ab ?_ _ | refine ac ?_ | refine a9 ?_ _)); exact am.out⟩, ⟨by repeat (first | (with_reducible first | exact HB.out | apply a6 | apply a4 | apply a5 | refine aa ?_ be.out) | exact HB.out)⟩⟩
           case round =>
            clear H'
            try clear c1; try clear p1; try clear q1; try clear hx1; try clear qi1; try clear c2; try clear p2; try clear c3; try clear p6; try clear c7; try clear c7b0; try clear c7b1; try clear c7b2; try clear c10; try clear p10; try clear q10; try clear hx10; try clear qi10; try clear c16; try clear c16b0; try clear c17; try clear c17b0; try clear c18; try clear c18b0; try clear c20; try clear c20b0; try clear c20b1; try clear c20b2; try clear c21; try clear gC; try clear c21b1; try clear c22; try clear c22b0; try clear c24; try clear c24b0; try clear c25; try clear c25b0; try clear c26; try clear bS; try clear bT; try clear cX; try clear cY; try clear el; try clear em; try clear dr; try clear dt; try clear d7; try clear d8; try clear bU; try clear bV; try clear cZ; try clear d3; try clear en; try clear eo; try clear du; try clear dv; try clear d9; try clear da; try clear fc; try clear ci; try clear fd; try clear p105; try clear p106; try clear p107; try clear q105; try clear q106; try clear q107
            obtain ⟨x6_3, rfl, HA, HK3, am, HB⟩ := hrel
            cases gk with
            | zero => exact absurd HA.out (by simp [search_Check.l1])
            | succ k3 =>
             have H := HA.out
             clear HA
             simp only [search_Check.l1] at H
             by_cases c27 : x6_3 < ((aJ ai x18_1).length : Int)
             ·rw [if_pos c27] at H
              have c27b0 : decide (x6_3 < ((aJ ai x18_1).length : Int)) = true := decide_eq_true c27
              clear c27
              obtain ⟨ji28, hji28⟩ : ∃ j_ : Int, (wrap64 (x6_3 - 1)) = j_ := ⟨_, rfl⟩
              replace H : (if 0 ≤ (ji28) then (if (ji28) < ((aJ ai x18_1).length : Int) then (if 0 ≤ x6_3 then (if (rd (aJ ai x18_1) (ji28)) ≥ (rd (aJ ai x18_1) x6_3) then (some 150) else (search_Check.l1 k3 x3_1 (aJ ai x18_1) (wrap64 (x6_3 + 1)) ai (ai.length : Int) x18_1 ai af)) else (none)) else (none)) else (none)) = some r := by first | (rw [hji28] at H; exact H) | (simp only [hji28] at H ⊢; exact H)
              have hji28w : (IntKind.i64.wrap (x6_3 - 1)) = ji28 := (aq _).trans hji28
              by_cases c29 : 0 ≤ (ji28)
              ·rw [if_pos c29] at H
               have c29b0 : decide (0 ≤ (ji28)) = true := decide_eq_true c29
               clear c29
               by_cases c30 : (ji28) < ((aJ ai x18_1).length : Int)
               ·rw [if_pos c30] at H
                have c30b0 : decide ((ji28) < ((aJ ai x18_1).length : Int)) = true := decide_eq_true c30
                clear c30
                by_cases c31 : 0 ≤ x6_3
                ·rw [if_pos c31] at H
                 have c31b0 : decide (0 ≤ x6_3) = true := decide_eq_true c31
                 clear c31
                 by_cases c32 : (rd (aJ ai x18_1) (ji28)) ≥ (rd (aJ ai x18_1) x6_3)
                 ·rw [if_pos c32] at H
                  have c32b0 : decide ((rd (aJ ai x18_1) x6_3) ≤ (rd (aJ ai x18_1) (ji28))) = true := decide_eq_true c32
                  clear c32
                  obtain rfl := Option.some.inj H
                  have p108 : 0 ≤ ((ji28) : Int) := of_decide_eq_true (by first | (with_reducible assumption) | assumption)
                  have q108 : (ji28) < ((aJ ai x18_1).length : Int) := of_decide_eq_true (by first | (with_reducible assumption) | assumption)
                  obtain ⟨ad108, e108, dJ⟩ := Kd.at_int ep.out (ji28) p108 q108
                  cases e108
                  replace dJ := (HB.out.cell (World.block_lt_of_cell? w _ dJ)).trans dJ
                  replace p108 := eq_true p108
                  replace q108 := eq_true q108
                  have p109 : 0 ≤ (x6_3 : Int) := of_decide_eq_true (by first | (with_reducible assumption) | assumption)
                  have q109 : x6_3 < ((aJ ai x18_1).length : Int) := of_decide_eq_true (by first | (with_reducible assumption) | assumption)
                  obtain ⟨ad109, e109, dK⟩ := Kd.at_int ep.out x6_3 p109 q109
                  obtain rfl : ad108 = ad109 := (by injection e109)
                  replace dK := (HB.out.cell (World.block_lt_of_cell? w _ dK)).trans dK
                  replace p109 := eq_true p109
                  replace q109 := eq_true q109
                  go_wp2
                  repeat (go_quiet (fail); try go_wp2)
                  go_ret
                  exact ⟨by first | rfl | (simp [al, ak] <;> rfl) | (simp only [← hji28]; first | rfl | (simp [al, ak] <;> rfl)) | (simp [*, al, ak] <;> rfl), by repeat (first | (with_reducible first | exact HB.out | apply a6 | apply a4 | apply a5 | refine aa ?_ be.out) | exact HB.out)⟩
                 ·rw [if_neg c32] at H
                  have c32b0 : decide ((rd (aJ ai x18_1) x6_3) ≤ (rd (aJ ai x18_1) (ji28))) = false := decide_eq_false c32
                  clear c32
                  have H' := Aside0.mk H
                  clear H
                  have p108 : 0 ≤ ((ji28) : Int) := of_decide_eq_true (by first | (with_reducible assumption) | assumption)
                  have q108 : (ji28) < ((aJ ai x18_1).length : Int) := of_decide_eq_true (by first | (with_reducible assumption) | assumption)
                  obtain ⟨ad108, e108, dJ⟩ := Kd.at_int ep.out (ji28) p108 q108
                  cases e108
                  replace dJ := (HB.out.cell (World.block_lt_of_cell? w _ dJ)).trans dJ
                  replace p108 := eq_true p108
                  replace q108 := eq_true q108
                  have p109 : 0 ≤ (x6_3 : Int) := of_decide_eq_true (by first | (with_reducible assumption) | assumption)
                  have q109 : x6_3 < ((aJ ai x18_1).length : Int) := of_decide_eq_true (by first | (with_reducible assumption) | assumption)
                  obtain ⟨ad109, e109, dK⟩ := Kd.at_int ep.out x6_3 p109 q109
                  obtain rfl : ad108 = ad109 := (by injection e109)
                  replace dK := (HB.out.cell (World.block_lt_of_cell? w _ dK)).trans dK
                  replace p109 := eq_true p109
                  replace q109 := eq_true q109
                  go_wp2
                  repeat (go_quiet (fail); try go_wp2)
                  go_roundg k3
                  case measure => have := HK1.out; have := HJ18.out; have := HK3.out; omega
                  case rel => exact ⟨(wrap64 (x6_3 + 1)), (by first | rfl | (simp; done) | (simp [*]; done)), H', ⟨by have := HK1.out; have := HJ18.out; have := HK3.out; omega⟩, ⟨by (with_reducible repeat (first | refine ab ?_ _ | refine ac ?_ | refine a9 ?_ _)); exact am.out⟩, ⟨by repeat (first | (with_reducible first | exact HB.out | apply a6 | apply a4 | apply a5 | refine aa ?_ be.out) | exact HB.out)⟩⟩
                ·rw [if_neg c31] at H
                 exact absurd H (by simp)
               ·rw [if_neg c30] at H
                exact absurd H (by simp)
              ·rw [if_neg c29] at H
               exact absurd H (by simp)
             ·rw [if_neg c27] at H
              have c27b0 : decide (x6_3 < ((aJ ai x18_1).length : Int)) = false := decide_eq_false c27
              clear c27
              obtain ⟨ji33, hji33⟩ : ∃ j_ : Int, (mn (wrap64 (x3_1 * ((aJ ai x18_1).length : Int))) 65537) = j_ := ⟨_, rfl⟩
              replace H : (search_Check.l0 k3 ji33 ai (ai.length : Int) (wrap64 (x18_1 + 1)) ai af) = some r := by first | (rw [hji33] at H; exact H) | (simp only [hji33] at H ⊢; exact H)
              have hji33_ : (if 65537 < (wrap64 (x3_1 * ((aJ ai x18_1).length : Int))) then 65537 else (wrap64 (x3_1 * ((aJ ai x18_1).length : Int)))) = ji33 := hji33
              have H' := Aside0.mk H
              clear H
              go_wp2
              repeat (go_quiet (fail); try go_wp2)
              go_roundg k3
              case measure => have := HK1.out; have := HJ18.out; have := HK3.out; omega
              case rel => exact ⟨(ji33), (wrap64 (x18_1 + 1)), (by first | rfl | (simp; done) | (simp only [← hji33] <;> (first | rfl | simp)) | (simp [*]; done)), (by first | rfl | (simp; done) | (simp [*]; done)), H', ⟨by have := HK1.out; have := HJ18.out; have := HK3.out; omega⟩, ⟨by (with_reducible repeat (first | refine ab ?_ _ | refine ac ?_ | refine a9 ?_ _)); exact am.out⟩, ⟨by repeat (first | (with_reducible first | exact HB.out | apply a6 | apply a4 | apply a5 | refine aa ?_ be.out) | exact HB.out)⟩⟩
       ·rw [if_neg c18] at H
        exact absurd H (by simp)
      ·rw [if_neg c17] at H
       exact absurd H (by simp)
     ·rw [if_neg c16] at H
      have c16b0 : decide (x18_1 < (ai.length : Int)) = false := decide_eq_false c16
      clear c16
      have H' := Aside0.mk H
      clear H
      have hcz34_0 : wr.cell? ⟨aG, 0, none⟩ = some (.slice aC ai.length aA) := (a7 am.out 0).trans rfl
      have hcz34_1 : wr.cell? ⟨aG, 1, none⟩ = some (.slice aI af.length au) := (a7 am.out 1).trans rfl
      have hfz34_0 := a8 am.out 0
      have hfz34_1 := a8 am.out 1
      go_wp2
      repeat (go_quiet (fail); try go_wp2)
      go_loopg [65] k1 (fun kq v65 w' => ∃ (x65_2 : Int), v65 = .int .i64 x65_2 ∧ Aside0 (search_Check.l2 kq x3_1 af (af.length : Int) x65_2 ai af = some r) ∧ Aside0 (kq ≤ k1) ∧ Aside0 (w'.heap[aG]? = some (.cells #[(.slice aC ai.length aA), (.slice aI af.length au)] 25 (0, 0))) ∧ Aside0 (Below w.heap.size w w'))
      case atStart => exact ⟨(0), (by first | rfl | (simp; done) | (simp [*]; done)), H', ⟨Nat.le_refl _⟩, ⟨by (with_reducible repeat (first | refine ab ?_ _ | refine ac ?_ | refine a9 ?_ _)); exact am.out⟩, ⟨by repeat (first | (with_reducible first | exact HB.out | apply a6 | apply a4 | apply a5 | refine aa ?_ be.out) | exact HB.out)⟩⟩
      case round =>
       clear H'
       try clear c1; try clear p1; try clear q1; try clear hx1; try clear qi1; try clear c2; try clear p2; try clear c3; try clear p6; try clear c7; try clear c7b0; try clear c7b1; try clear c7b2; try clear c10; try clear p10; try clear q10; try clear hx10; try clear qi10; try clear c16; try clear c16b0; try clear c17; try clear c17b0; try clear c18; try clear c18b0; try clear c20; try clear c20b0; try clear c20b1; try clear c20b2; try clear c21; try clear gC; try clear c21b1; try clear c22; try clear c22b0; try clear c24; try clear c24b0; try clear c25; try clear c25b0; try clear c26; try clear c27; try clear c27b0; try clear c29; try clear c29b0; try clear c30; try clear c30b0; try clear c31; try clear c31b0; try clear c32; try clear c32b0; try clear bS; try clear bT; try clear cX; try clear cY; try clear el; try clear em; try clear hcz34_0; try clear hcz34_1; try clear dr; try clear dt; try clear d7; try clear d8; try clear bU; try clear bV; try clear cZ; try clear d3; try clear en; try clear eo; try clear hfz34_0; try clear hfz34_1; try clear du; try clear dv; try clear d9; try clear da; try clear fc; try clear ci; try clear fd; try clear dJ; try clear dK; try clear p105; try clear p106; try clear p107; try clear p108; try clear p109; try clear q105; try clear q106; try clear q107; try clear q108; try clear q109
       obtain ⟨x65_2, rfl, HA, HK2, am, HB⟩ := hrel
       cases gk with
       | zero => exact absurd HA.out (by simp [search_Check.l2])
       | succ k2 =>
        have H := HA.out
        clear HA
        simp only [search_Check.l2] at H
        by_cases c35 : x65_2 < (af.length : Int)
        ·rw [if_pos c35] at H
         have c35b0 : decide (x65_2 < (af.length : Int)) = true := decide_eq_true c35
         clear c35
         by_cases c36 : 0 ≤ x65_2
         ·rw [if_pos c36] at H
          have c36b0 : decide (0 ≤ x65_2) = true := decide_eq_true c36
          clear c36
          by_cases c37 : x65_2 < (af.length : Int)
          ·rw [if_pos c37] at H
           have c37b0 : decide (x65_2 < (af.length : Int)) = true := decide_eq_true c37
           clear c37
           replace H := Option.bind_eq_some_iff.mp H
           obtain ⟨t112, A380, H⟩ := H
           replace H : (if t112 = true then (search_Check.l2 k2 x3_1 af (af.length : Int) (wrap64 (x65_2 + 1)) ai af) else (some 150)) = some r := H
           have A38 := Aside0.mk A380
           clear A380
           by_cases c39 : t112 = true
           ·subst c39
            have H1 : (search_Check.l2 k2 x3_1 af (af.length : Int) (wrap64 (x65_2 + 1)) ai af) = some r := by rw [if_pos rfl] at H; exact H
            clear H
            have H := H1
            clear H1
            have H' := Aside0.mk H
            clear H
            have p110 : 0 ≤ (x65_2 : Int) := of_decide_eq_true (by first | (with_reducible assumption) | assumption)
            have q110 : x65_2 < (af.length : Int) := of_decide_eq_true (by first | (with_reducible assumption) | assumption)
            obtain ⟨ad110, db, dc, gO, gP, e110, et, eu, ev, ew, gQ, gR, gS, gT⟩ := dH br.out x65_2 p110 q110
            cases e110
            replace et := (HB.out.cell (World.block_lt_of_cell? w _ et)).trans et
            replace eu := (HB.out.cell (World.block_lt_of_cell? w _ eu)).trans eu
            replace ev := (HB.out.cell (World.block_lt_of_cell? w _ ev)).trans ev
            replace ew := (HB.out.cell (World.block_lt_of_cell? w _ ew)).trans ew
            have ex := Aside0.mk gR
            have ey := Aside0.mk gQ
            clear gR gQ
            have ez := Aside0.mk gT
            have eA := Aside0.mk gS
            clear gT gS
            replace p110 := eq_true p110
            replace q110 := eq_true q110
            go_wp2_with (first | ((with_reducible refine aK (N := 8) rfl ?_); (try (refine aW (by rfl) ?_; dsimp only)); refine av ?hg (N := 8) ?hd (cs := #[.int .i64 0, .int .i64 0, .slice none 0 0, .slice none 0 0]) (t := 49) ?hr ?_; (case hd => rfl); (case hg => rfl); (case hr => first | (go_simp; done) | (go_simp; rfl)); intro bi hg w40 hbox hb; have n0_ := Aside0.mk (ae (g := aG) (o := .cells #[.slice aC ai.length aA, .slice (some ad110) af.length au] 25 (0, 0)) (by (with_reducible repeat (first | refine ab ?_ _ | refine ac ?_ | refine a9 ?_ _)); exact am.out) hb); have n1_ := Aside0.mk (aj (by repeat (first | (with_reducible first | exact HB.out | apply a6 | apply a4 | apply a5 | refine aa ?_ be.out) | exact HB.out)) hb); have n2_ := Aside0.mk (hbox); have n3_ := Aside0.mk ((by rw [hg]; exact (ah (by repeat (first | (with_reducible first | exact HB.out | apply a6 | apply a4 | apply a5 | refine aa ?_ be.out) | exact HB.out))) : w.heap.size ≤ bi)); have n4_ := Aside0.mk ((by rw [hg]; exact (ah (by repeat (first | (with_reducible first | exact HB.out | apply a6 | apply a4 | apply a5 | refine aa ?_ be.out) | exact HB.out))) : w.heap.size ≤ bi)); have n5_ := Aside0.mk ((by rw [hg]; exact Nat.ne_of_lt (aZ (g := aG) (o := .cells #[.slice aC ai.length aA, .slice (some ad110) af.length au] 25 (0, 0)) (by (with_reducible repeat (first | refine ab ?_ _ | refine ac ?_ | refine a9 ?_ _)); exact am.out)) : aG ≠ bi)); have n6_ := Aside0.mk ((by rw [hg]; exact Nat.ne_of_gt (aZ (g := aG) (o := .cells #[.slice aC ai.length aA, .slice (some ad110) af.length au] 25 (0, 0)) (by (with_reducible repeat (first | refine ab ?_ _ | refine ac ?_ | refine a9 ?_ _)); exact am.out)) : bi ≠ aG)); clear am; clear HB; have am := n0_; have HB := n1_; have bd := n2_; have GW111 := n3_; have cE := n4_; have NB103_111 := n5_; have NB111_103 := n6_; clear n0_ n1_ n2_ n3_ n4_ n5_ n6_; clear hb hbox hg; have hnb41 := NB111_103.out; have hnc41 := NB103_111.out; have hcz42_0 : w40.cell? ⟨bi, 0, none⟩ = some (.int .i64 0) := (a7 bd.out 0).trans rfl; have hcz42_1 : w40.cell? ⟨bi, 1, none⟩ = some (.int .i64 0) := (a7 bd.out 1).trans rfl; have hcz42_2 : w40.cell? ⟨bi, 2, none⟩ = some (.slice none 0 0) := (a7 bd.out 2).trans rfl; have hcz42_3 : w40.cell? ⟨bi, 3, none⟩ = some (.slice none 0 0) := (a7 bd.out 3).trans rfl; have hfz42_0 := a8 bd.out 0; have hfz42_1 := a8 bd.out 1; have hfz42_2 := a8 bd.out 2; have hfz42_3 := a8 bd.out 3; have hcz43_0 : w40.cell? ⟨aG, 0, none⟩ = some (.slice aC ai.length aA) := (a7 am.out 0).trans rfl; have hcz43_1 : w40.cell? ⟨aG, 1, none⟩ = some (.slice (some ad110) af.length au) := (a7 am.out 1).trans rfl; have hfz43_0 := a8 am.out 0; have hfz43_1 := a8 am.out 1) | (go_at_call 38; (with_reducible refine (search_valid.calls ((ag af x65_2).f0) ((ag af x65_2).f1) _ _ ((ag af x65_2).f2) _ _ ((ag af x65_2).f3) (ai.length : Int) true _ ?side1 ?side2 ?side3 ?side4 A38.out).mono ?_); (case side1 => exact Kd.C_below ex.out (by repeat (first | (with_reducible first | exact HB.out | apply a6 | apply a4 | apply a5 | refine aa ?_ be.out | refine aa ?_ cE.out) | exact HB.out))); (case side2 => exact ey.out); (case side3 => exact Kd.C_below ez.out (by repeat (first | (with_reducible first | exact HB.out | apply a6 | apply a4 | apply a5 | refine aa ?_ be.out | refine aa ?_ cE.out) | exact HB.out))); (case side4 => exact eA.out); rintro e w44 ⟨rfl, hb⟩; have n0_ := Aside0.mk (ae (g := aG) (o := .cells #[.slice aC ai.length aA, .slice (some ad110) af.length au] 25 (0, 0)) (by (with_reducible repeat (first | refine ab ?_ _ | refine ac ?_ | refine a9 ?_ _)); refine aU ?_ NB103_111.out _; (with_reducible repeat (first | refine ab ?_ _ | refine ac ?_ | refine a9 ?_ _)); refine aU ?_ NB103_111.out _; (with_reducible repeat (first | refine ab ?_ _ | refine ac ?_ | refine a9 ?_ _)); refine aU ?_ NB103_111.out _; (with_reducible repeat (first | refine ab ?_ _ | refine ac ?_ | refine a9 ?_ _)); refine aU ?_ NB103_111.out _; (with_reducible repeat (first | refine ab ?_ _ | refine ac ?_ | refine a9 ?_ _)); exact am.out) hb); have n1_ := Aside0.mk (ae (g := bi) (o := .cells #[.int .i64 ((ag af x65_2).f0), .int .i64 ((ag af x65_2).f1), .slice db ((ag af x65_2).f2).length dc, .slice gO ((ag af x65_2).f3).length gP] 49 (0, 0)) (by (with_reducible repeat (first | refine ab ?_ _ | refine ac ?_ | refine a9 ?_ _)); refine aT (cs := #[.int .i64 ((ag af x65_2).f0), .int .i64 ((ag af x65_2).f1), .slice db ((ag af x65_2).f2).length dc, .slice none 0 0]) ?_ 3 _ rfl; (with_reducible repeat (first | refine ab ?_ _ | refine ac ?_ | refine a9 ?_ _)); refine aT (cs := #[.int .i64 ((ag af x65_2).f0), .int .i64 ((ag af x65_2).f1), .slice none 0 0, .slice none 0 0]) ?_ 2 _ rfl; (with_reducible repeat (first | refine ab ?_ _ | refine ac ?_ | refine a9 ?_ _)); refine aT (cs := #[.int .i64 ((ag af x65_2).f0), .int .i64 0, .slice none 0 0, .slice none 0 0]) ?_ 1 _ rfl; (with_reducible repeat (first | refine ab ?_ _ | refine ac ?_ | refine a9 ?_ _)); refine aT (cs := #[.int .i64 0, .int .i64 0, .slice none 0 0, .slice none 0 0]) ?_ 0 _ rfl; (with_reducible repeat (first | refine ab ?_ _ | refine ac ?_ | refine a9 ?_ _)); exact bd.out) hb); have n2_ := Aside0.mk (aj (by repeat (first | (with_reducible first | exact HB.out | apply a6 | apply a4 | apply a5 | refine aa ?_ be.out | refine aa ?_ cE.out) | exact HB.out)) hb); clear am; clear bd; clear HB; have am := n0_; have bd := n1_; have HB := n2_; clear n0_ n1_ n2_; (try clear hb); (try clear hb2); (try clear hk); (try clear hi)))
            repeat (go_quiet (first | ((with_reducible refine aK (N := 8) rfl ?_); (try (refine aW (by rfl) ?_; dsimp only)); refine av ?hg (N := 8) ?hd (cs := #[.int .i64 0, .int .i64 0, .slice none 0 0, .slice none 0 0]) (t := 49) ?hr ?_; (case hd => rfl); (case hg => rfl); (case hr => first | (go_simp; done) | (go_simp; rfl)); intro bi hg w40 hbox hb; have n0_ := Aside0.mk (ae (g := aG) (o := .cells #[.slice aC ai.length aA, .slice (some ad110) af.length au] 25 (0, 0)) (by (with_reducible repeat (first | refine ab ?_ _ | refine ac ?_ | refine a9 ?_ _)); exact am.out) hb); have n1_ := Aside0.mk (aj (by repeat (first | (with_reducible first | exact HB.out | apply a6 | apply a4 | apply a5 | refine aa ?_ be.out) | exact HB.out)) hb); have n2_ := Aside0.mk (hbox); have n3_ := Aside0.mk ((by rw [hg]; exact (ah (by repeat (first | (with_reducible first | exact HB.out | apply a6 | apply a4 | apply a5 | refine aa ?_ be.out) | exact HB.out))) : w.heap.size ≤ bi)); have n4_ := Aside0.mk ((by rw [hg]; exact (ah (by repeat (first | (with_reducible first | exact HB.out | apply a6 | apply a4 | apply a5 | refine aa ?_ be.out) | exact HB.out))) : w.heap.size ≤ bi)); have n5_ := Aside0.mk ((by rw [hg]; exact Nat.ne_of_lt (aZ (g := aG) (o := .cells #[.slice aC ai.length aA, .slice (some ad110) af.length au] 25 (0, 0)) (by (with_reducible repeat (first | refine ab ?_ _ | refine ac ?_ | refine a9 ?_ _)); exact am.out)) : aG ≠ bi)); have n6_ := Aside0.mk ((by rw [hg]; exact Nat.ne_of_gt (aZ (g := aG) (o := .cells #[.slice aC ai.length aA, .slice (some ad110) af.length au] 25 (0, 0)) (by (with_reducible repeat (first | refine ab ?_ _ | refine ac ?_ | refine a9 ?_ _)); exact am.out)) : bi ≠ aG)); clear am; clear HB; have am := n0_; have HB := n1_; have bd := n2_; have GW111 := n3_; have cE := n4_; have NB103_111 := n5_; have NB111_103 := n6_; clear n0_ n1_ n2_ n3_ n4_ n5_ n6_; clear hb hbox hg; have hnb41 := NB111_103.out; have hnc41 := NB103_111.out; have hcz42_0 : w40.cell? ⟨bi, 0, none⟩ = some (.int .i64 0) := (a7 bd.out 0).trans rfl; have hcz42_1 : w40.cell? ⟨bi, 1, none⟩ = some (.int .i64 0) := (a7 bd.out 1).trans rfl; have hcz42_2 : w40.cell? ⟨bi, 2, none⟩ = some (.slice none 0 0) := (a7 bd.out 2).trans rfl; have hcz42_3 : w40.cell? ⟨bi, 3, none⟩ = some (.slice none 0 0) := (a7 bd.out 3).trans rfl; have hfz42_0 := a8 bd.out 0; have hfz42_1 := a8 bd.out 1; have hfz42_2 := a8 bd.out 2; have hfz42_3 := a8 bd.out 3; have hcz43_0 : w40.cell? ⟨aG, 0, none⟩ = some (.slice aC ai.length aA) := (a7 am.out 0).trans rfl; have hcz43_1 : w40.cell? ⟨aG, 1, none⟩ = some (.slice (some ad110) af.length au) := (a7 am.out 1).trans rfl; have hfz43_0 := a8 am.out 0; have hfz43_1 := a8 am.out 1) | (go_at_call 38; (with_reducible refine (search_valid.calls ((ag af x65_2).f0) ((ag af x65_2).f1) _ _ ((ag af x65_2).f2) _ _ ((ag af x65_2).f3) (ai.length : Int) true _ ?side1 ?side2 ?side3 ?side4 A38.out).mono ?_); (case side1 => exact Kd.C_below ex.out (by repeat (first | (with_reducible first | exact HB.out | apply a6 | apply a4 | apply a5 | refine aa ?_ be.out | refine aa ?_ cE.out) | exact HB.out))); (case side2 => exact ey.out); (case side3 => exact Kd.C_below ez.out (by repeat (first | (with_reducible first | exact HB.out | apply a6 | apply a4 | apply a5 | refine aa ?_ be.out | refine aa ?_ cE.out) | exact HB.out))); (case side4 => exact eA.out); rintro e w44 ⟨rfl, hb⟩; have n0_ := Aside0.mk (ae (g := aG) (o := .cells #[.slice aC ai.length aA, .slice (some ad110) af.length au] 25 (0, 0)) (by (with_reducible repeat (first | refine ab ?_ _ | refine ac ?_ | refine a9 ?_ _)); refine aU ?_ NB103_111.out _; (with_reducible repeat (first | refine ab ?_ _ | refine ac ?_ | refine a9 ?_ _)); refine aU ?_ NB103_111.out _; (with_reducible repeat (first | refine ab ?_ _ | refine ac ?_ | refine a9 ?_ _)); refine aU ?_ NB103_111.out _; (with_reducible repeat (first | refine ab ?_ _ | refine ac ?_ | refine a9 ?_ _)); refine aU ?_ NB103_111.out _; (with_reducible repeat (first | refine ab ?_ _ | refine ac ?_ | refine a9 ?_ _)); exact am.out) hb); have n1_ := Aside0.mk (ae (g := bi) (o := .cells #[.int .i64 ((ag af x65_2).f0), .int .i64 ((ag af x65_2).f1), .slice db ((ag af x65_2).f2).length dc, .slice gO ((ag af x65_2).f3).length gP] 49 (0, 0)) (by (with_reducible repeat (first | refine ab ?_ _ | refine ac ?_ | refine a9 ?_ _)); refine aT (cs := #[.int .i64 ((ag af x65_2).f0), .int .i64 ((ag af x65_2).f1), .slice db ((ag af x65_2).f2).length dc, .slice none 0 0]) ?_ 3 _ rfl; (with_reducible repeat (first | refine ab ?_ _ | refine ac ?_ | refine a9 ?_ _)); refine aT (cs := #[.int .i64 ((ag af x65_2).f0), .int .i64 ((ag af x65_2).f1), .slice none 0 0, .slice none 0 0]) ?_ 2 _ rfl; (with_reducible repeat (first | refine ab ?_ _ | refine ac ?_ | refine a9 ?_ _)); refine aT (cs := #[.int .i64 ((ag af x65_2).f0), .int .i64 0, .slice none 0 0, .slice none 0 0]) ?_ 1 _ rfl; (with_reducible repeat (first | refine ab ?_ _ | refine ac ?_ | refine a9 ?_ _)); refine aT (cs := #[.int .i64 0, .int .i64 0, .slice none 0 0, .slice none 0 0]) ?_ 0 _ rfl; (with_reducible repeat (first | refine ab ?_ _ | refine ac ?_ | refine a9 ?_ _)); exact bd.out) hb); have n2_ := Aside0.mk (aj (by repeat (first | (with_reducible first | exact HB.out | apply a6 | apply a4 | apply a5 | refine aa ?_ be.out | refine aa ?_ cE.out) | exact HB.out)) hb); clear am; clear bd; clear HB; have am := n0_; have bd := n1_; have HB := n2_; clear n0_ n1_ n2_; (try clear hb); (try clear hb2); (try clear hk); (try clear hi))); try go_wp2_with (first | ((with_reducible refine aK (N := 8) rfl ?_); (try (refine aW (by rfl) ?_; dsimp only)); refine av ?hg (N := 8) ?hd (cs := #[.int .i64 0, .int .i64 0, .slice none 0 0, .slice none 0 0]) (t := 49) ?hr ?_; (case hd => rfl); (case hg => rfl); (case hr => first | (go_simp; done) | (go_simp; rfl)); intro bi hg w40 hbox hb; have n0_ := Aside0.mk (ae (g := aG) (o := .cells #[.slice aC ai.length aA, .slice (some ad110) af.length au] 25 (0, 0)) (by (with_reducible repeat (first | refine ab ?_ _ | refine ac ?_ | refine a9 ?_ _)); exact am.out) hb); have n1_ := Aside0.mk (aj (by repeat (first | (with_reducible first | exact HB.out | apply a6 | apply a4 | apply a5 | refine aa ?_ be.out) | exact HB.out)) hb); have n2_ := Aside0.mk (hbox); have n3_ := Aside0.mk ((by rw [hg]; exact (ah (by repeat (first | (with_reducible first | exact HB.out | apply a6 | apply a4 | apply a5 | refine aa ?_ be.out) | exact HB.out))) : w.heap.size ≤ bi)); have n4_ := Aside0.mk ((by rw [hg]; exact (ah (by repeat (first | (with_reducible first | exact HB.out | apply a6 | apply a4 | apply a5 | refine aa ?_ be.out) | exact HB.out))) : w.heap.size ≤ bi)); have n5_ := Aside0.mk ((by rw [hg]; exact Nat.ne_of_lt (aZ (g := aG) (o := .cells #[.slice aC ai.length aA, .slice (some ad110) af.length au] 25 (0, 0)) (by (with_reducible repeat (first | refine ab ?_ _ | refine ac ?_ | refine a9 ?_ _)); exact am.out)) : aG ≠ bi)); have n6_ := Aside0.mk ((by rw [hg]; exact Nat.ne_of_gt (aZ (g := aG) (o := .cells #[.slice aC ai.length aA, .slice (some ad110) af.length au] 25 (0, 0)) (by (with_reducible repeat (first | refine ab ?_ _ | refine ac ?_ | refine a9 ?_ _)); exact am.out)) : bi ≠ aG)); clear am; clear HB; have am := n0_; have HB := n1_; have bd := n2_; have GW111 := n3_; have cE := n4_; have NB103_111 := n5_; have NB111_103 := n6_; clear n0_ n1_ n2_ n3_ n4_ n5_ n6_; clear hb hbox hg; have hnb41 := NB111_103.out; have hnc41 := NB103_111.out; have hcz42_0 : w40.cell? ⟨bi, 0, none⟩ = some (.int .i64 0) := (a7 bd.out 0).trans rfl; have hcz42_1 : w40.cell? ⟨bi, 1, none⟩ = some (.int .i64 0) := (a7 bd.out 1).trans rfl; have hcz42_2 : w40.cell? ⟨bi, 2, none⟩ = some (.slice none 0 0) := (a7 bd.out 2).trans rfl; have hcz42_3 : w40.cell? ⟨bi, 3, none⟩ = some (.slice none 0 0) := (a7 bd.out 3).trans rfl; have hfz42_0 := a8 bd.out 0; have hfz42_1 := a8 bd.out 1; have hfz42_2 := a8 bd.out 2; have hfz42_3 := a8 bd.out 3; have hcz43_0 : w40.cell? ⟨aG, 0, none⟩ = some (.slice aC ai.length aA) := (a7 am.out 0).trans rfl; have hcz43_1 : w40.cell? ⟨aG, 1, none⟩ = some (.slice (some ad110) af.length au) := (a7 am.out 1).trans rfl; have hfz43_0 := a8 am.out 0; have hfz43_1 := a8 am.out 1) | (go_at_call 38; (with_reducible refine (search_valid.calls ((ag af x65_2).f0) ((ag af x65_2).f1) _ _ ((ag af x65_2).f2) _ _ ((ag af x65_2).f3) (ai.length : Int) true _ ?side1 ?side2 ?side3 ?side4 A38.out).mono ?_); (case side1 => exact Kd.C_below ex.out (by repeat (first | (with_reducible first | exact HB.out | apply a6 | apply a4 | apply a5 | refine aa ?_ be.out | refine aa ?_ cE.out) | exact HB.out))); (case side2 => exact ey.out); (case side3 => exact Kd.C_below ez.out (by repeat (first | (with_reducible first | exact HB.out | apply a6 | apply a4 | apply a5 | refine aa ?_ be.out | refine aa ?_ cE.out) | exact HB.out))); (case side4 => exact eA.out); rintro e w44 ⟨rfl, hb⟩; have n0_ := Aside0.mk (ae (g := aG) (o := .cells #[.slice aC ai.length aA, .slice (some ad110) af.length au] 25 (0, 0)) (by (with_reducible repeat (first | refine ab ?_ _ | refine ac ?_ | refine a9 ?_ _)); refine aU ?_ NB103_111.out _; (with_reducible repeat (first | refine ab ?_ _ | refine ac ?_ | refine a9 ?_ _)); refine aU ?_ NB103_111.out _; (with_reducible repeat (first | refine ab ?_ _ | refine ac ?_ | refine a9 ?_ _)); refine aU ?_ NB103_111.out _; (with_reducible repeat (first | refine ab ?_ _ | refine ac ?_ | refine a9 ?_ _)); refine aU ?_ NB103_111.out _; (with_reducible repeat (first | refine ab ?_ _ | refine ac ?_ | refine a9 ?_ _)); exact am.out) hb); have n1_ := Aside0.mk (ae (g := bi) (o := .cells #[.int .i64 ((ag af x65_2).f0), .int .i64 ((ag af x65_2).f1), .slice db ((ag af x65_2).f2).length dc, .slice gO ((ag af x65_2).f3).length gP] 49 (0, 0)) (by (with_reducible repeat (first | refine ab ?_ _ | refine ac ?_ | refine a9 ?_ _)); refine aT (cs := #[.int .i64 ((ag af x65_2).f0), .int .i64 ((ag af x65_2).f1), .slice db ((ag af x65_2).f2).length dc, .slice none 0 0]) ?_ 3 _ rfl; (with_reducible repeat (first | refine ab ?_ _ | refine ac ?_ | refine a9 ?_ _)); refine aT (cs := #[.int .i64 ((ag af x65_2).f0), .int .i64 ((ag af x65_2).f1), .slice none 0 0, .slice none 0 0]) ?_ 2 _ rfl; (with_reducible repeat (first | refine ab ?_ _ | refine ac ?_ | refine a9 ?_ _)); refine aT (cs := #[.int .i64 ((ag af x65_2).f0), .int .i64 0, .slice none 0 0, .slice none 0 0]) ?_ 1 _ rfl; (with_reducible repeat (first | refine ab ?_ _ | refine ac ?_ | refine a9 ?_ _)); refine aT (cs := #[.int .i64 0, .int .i64 0, .slice none 0 0, .slice none 0 0]) ?_ 0 _ rfl; (with_reducible repeat (first | refine ab ?_ _ | refine ac ?_ | refine a9 ?_ _)); exact bd.out) hb); have n2_ := Aside0.mk (aj (by repeat (first | (with_reducible first | exact HB.out | apply a6 | apply a4 | apply a5 | refine aa ?_ be.out | refine aa ?_ cE.out) | exact HB.out)) hb); clear am; clear bd; clear HB; have am := n0_; have bd := n1_; have HB := n2_; clear n0_ n1_ n2_; (try clear hb); (try clear hb2); (try clear hk); (try clear hi))))
            go_roundg k2
            case measure => have := HK1.out; have := HK2.out; omega
            case rel => exact ⟨(wrap64 (x65_2 + 1)), (by first | rfl | (simp; done) | (simp [*]; done)), H', ⟨by have := HK1.out; have := HK2.out; omega⟩, ⟨by (with_reducible repeat (first | refine ab ?_ _ | refine ac ?_ | refine a9 ?_ _)); exact am.out⟩, ⟨by repeat (first | (with_reducible first | exact HB.out | apply a6 | apply a4 | apply a5 | refine aa ?_ be.out | refine aa ?_ cE.out) | exact HB.out)⟩⟩
           ·replace c39 := Bool.eq_false_iff.mpr c39
            subst c39
            have H1 : (some 150) = some r := by rw [if_neg (show ¬ (false = true) by decide)] at H; exact H
            clear H
            have H := H1
            clear H1
            obtain rfl := Option.some.inj H
            have p110 : 0 ≤ (x65_2 : Int) := of_decide_eq_true (by first | (with_reducible assumption) | assumption)
            have q110 : x65_2 < (af.length : Int) := of_decide_eq_true (by first | (with_reducible assumption) | assumption)
            obtain ⟨ad110, db, dc, gO, gP, e110, et, eu, ev, ew, gQ, gR, gS, gT⟩ := dH br.out x65_2 p110 q110
            cases e110
            replace et := (HB.out.cell (World.block_lt_of_cell? w _ et)).trans et
            replace eu := (HB.out.cell (World.block_lt_of_cell? w _ eu)).trans eu
            replace ev := (HB.out.cell (World.block_lt_of_cell? w _ ev)).trans ev
            replace ew := (HB.out.cell (World.block_lt_of_cell? w _ ew)).trans ew
            have ex := Aside0.mk gR
            have ey := Aside0.mk gQ
            clear gR gQ
            have ez := Aside0.mk gT
            have eA := Aside0.mk gS
            clear gT gS
            replace p110 := eq_true p110
            replace q110 := eq_true q110
            go_wp2_with (first | ((with_reducible refine aK (N := 8) rfl ?_); (try (refine aW (by rfl) ?_; dsimp only)); refine av ?hg (N := 8) ?hd (cs := #[.int .i64 0, .int .i64 0, .slice none 0 0, .slice none 0 0]) (t := 49) ?hr ?_; (case hd => rfl); (case hg => rfl); (case hr => first | (go_simp; done) | (go_simp; rfl)); intro bi hg w45 hbox hb; have n0_ := Aside0.mk (ae (g := aG) (o := .cells #[.slice aC ai.length aA, .slice (some ad110) af.length au] 25 (0, 0)) (by (with_reducible repeat (first | refine ab ?_ _ | refine ac ?_ | refine a9 ?_ _)); exact am.out) hb); have n1_ := Aside0.mk (aj (by repeat (first | (with_reducible first | exact HB.out | apply a6 | apply a4 | apply a5 | refine aa ?_ be.out) | exact HB.out)) hb); have n2_ := Aside0.mk (hbox); have n3_ := Aside0.mk ((by rw [hg]; exact (ah (by repeat (first | (with_reducible first | exact HB.out | apply a6 | apply a4 | apply a5 | refine aa ?_ be.out) | exact HB.out))) : w.heap.size ≤ bi)); have n4_ := Aside0.mk ((by rw [hg]; exact (ah (by repeat (first | (with_reducible first | exact HB.out | apply a6 | apply a4 | apply a5 | refine aa ?_ be.out) | exact HB.out))) : w.heap.size ≤ bi)); have n5_ := Aside0.mk ((by rw [hg]; exact Nat.ne_of_lt (aZ (g := aG) (o := .cells #[.slice aC ai.length aA, .slice (some ad110) af.length au] 25 (0, 0)) (by (with_reducible repeat (first | refine ab ?_ _ | refine ac ?_ | refine a9 ?_ _)); exact am.out)) : aG ≠ bi)); have n6_ := Aside0.mk ((by rw [hg]; exact Nat.ne_of_gt (aZ (g := aG) (o := .cells #[.slice aC ai.length aA, .slice (some ad110) af.length au] 25 (0, 0)) (by (with_reducible repeat (first | refine ab ?_ _ | refine ac ?_ | refine a9 ?_ _)); exact am.out)) : bi ≠ aG)); clear am; clear HB; have am := n0_; have HB := n1_; have bd := n2_; have GW111 := n3_; have cE := n4_; have NB103_111 := n5_; have NB111_103 := n6_; clear n0_ n1_ n2_ n3_ n4_ n5_ n6_; clear hb hbox hg; have hnb46 := NB111_103.out; have hnc46 := NB103_111.out; have hcz47_0 : w45.cell? ⟨bi, 0, none⟩ = some (.int .i64 0) := (a7 bd.out 0).trans rfl; have hcz47_1 : w45.cell? ⟨bi, 1, none⟩ = some (.int .i64 0) := (a7 bd.out 1).trans rfl; have hcz47_2 : w45.cell? ⟨bi, 2, none⟩ = some (.slice none 0 0) := (a7 bd.out 2).trans rfl; have hcz47_3 : w45.cell? ⟨bi, 3, none⟩ = some (.slice none 0 0) := (a7 bd.out 3).trans rfl; have hfz47_0 := a8 bd.out 0; have hfz47_1 := a8 bd.out 1; have hfz47_2 := a8 bd.out 2; have hfz47_3 := a8 bd.out 3; have hcz48_0 : w45.cell? ⟨aG, 0, none⟩ = some (.slice aC ai.length aA) := (a7 am.out 0).trans rfl; have hcz48_1 : w45.cell? ⟨aG, 1, none⟩ = some (.slice (some ad110) af.length au) := (a7 am.out 1).trans rfl; have hfz48_0 := a8 am.out 0; have hfz48_1 := a8 am.out 1) | (go_at_call 38; (with_reducible refine (search_valid.calls ((ag af x65_2).f0) ((ag af x65_2).f1) _ _ ((ag af x65_2).f2) _ _ ((ag af x65_2).f3) (ai.length : Int) false _ ?side1 ?side2 ?side3 ?side4 A38.out).mono ?_); (case side1 => exact Kd.C_below ex.out (by repeat (first | (with_reducible first | exact HB.out | apply a6 | apply a4 | apply a5 | refine aa ?_ be.out | refine aa ?_ cE.out) | exact HB.out))); (case side2 => exact ey.out); (case side3 => exact Kd.C_below ez.out (by repeat (first | (with_reducible first | exact HB.out | apply a6 | apply a4 | apply a5 | refine aa ?_ be.out | refine aa ?_ cE.out) | exact HB.out))); (case side4 => exact eA.out); rintro e w49 ⟨rfl, hb⟩; have n0_ := Aside0.mk (ae (g := aG) (o := .cells #[.slice aC ai.length aA, .slice (some ad110) af.length au] 25 (0, 0)) (by (with_reducible repeat (first | refine ab ?_ _ | refine ac ?_ | refine a9 ?_ _)); refine aU ?_ NB103_111.out _; (with_reducible repeat (first | refine ab ?_ _ | refine ac ?_ | refine a9 ?_ _)); refine aU ?_ NB103_111.out _; (with_reducible repeat (first | refine ab ?_ _ | refine ac ?_ | refine a9 ?_ _)); refine aU ?_ NB103_111.out _; (with_reducible repeat (first | refine ab ?_ _ | refine ac ?_ | refine a9 ?_ _)); refine aU ?_ NB103_111.out _; (with_reducible repeat (first | refine ab ?_ _ | refine ac ?_ | refine a9 ?_ _)); exact am.out) hb); have n1_ := Aside0.mk (ae (g := bi) (o := .cells #[.int .i64 ((ag af x65_2).f0), .int .i64 ((ag af x65_2).f1), .slice db ((ag af x65_2).f2).length dc, .slice gO ((ag af x65_2).f3).length gP] 49 (0, 0)) (by (with_reducible repeat (first | refine ab ?_ _ | refine ac ?_ | refine a9 ?_ _)); refine aT (cs := #[.int .i64 ((ag af x65_2).f0), .int .i64 ((ag af x65_2).f1), .slice db ((ag af x65_2).f2).length dc, .slice none 0 0]) ?_ 3 _ rfl; (with_reducible repeat (first | refine ab ?_ _ | refine ac ?_ | refine a9 ?_ _)); refine aT (cs := #[.int .i64 ((ag af x65_2).f0), .int .i64 ((ag af x65_2).f1), .slice none 0 0, .slice none 0 0]) ?_ 2 _ rfl; (with_reducible repeat (first | refine ab ?_ _ | refine ac ?_ | refine a9 ?_ _)); refine aT (cs := #[.int .i64 ((ag af x65_2).f0), .int .i64 0, .slice none 0 0, .slice none 0 0]) ?_ 1 _ rfl; (with_reducible repeat (first | refine ab ?_ _ | refine ac ?_ | refine a9 ?_ _)); refine aT (cs := #[.int .i64 0, .int .i64 0, .slice none 0 0, .slice none 0 0]) ?_ 0 _ rfl; (with_reducible repeat (first | refine ab ?_ _ | refine ac ?_ | refine a9 ?_ _)); exact bd.out) hb); have n2_ := Aside0.mk (aj (by repeat (first | (with_reducible first | exact HB.out | apply a6 | apply a4 | apply a5 | refine aa ?_ be.out | refine aa ?_ cE.out) | exact HB.out)) hb); clear am; clear bd; clear HB; have am := n0_; have bd := n1_; have HB := n2_; clear n0_ n1_ n2_; (try clear hb); (try clear hb2); (try clear hk); (try clear hi)))
            repeat (go_quiet (first | ((with_reducible refine aK (N := 8) rfl ?_); (try (refine aW (by rfl) ?_; dsimp only)); refine av ?hg (N := 8) ?hd (cs := #[.int .i64 0, .int .i64 0, .slice none 0 0, .slice none 0 0]) (t := 49) ?hr ?_; (case hd => rfl); (case hg => rfl); (case hr => first | (go_simp; done) | (go_simp; rfl)); intro bi hg w45 hbox hb; have n0_ := Aside0.mk (ae (g := aG) (o := .cells #[.slice aC ai.length aA, .slice (some ad110) af.length au] 25 (0, 0)) (by (with_reducible repeat (first | refine ab ?_ _ | refine ac ?_ | refine a9 ?_ _)); exact am.out) hb); have n1_ := Aside0.mk (aj (by repeat (first | (with_reducible first | exact HB.out | apply a6 | apply a4 | apply a5 | refine aa ?_ be.out) | exact HB.out)) hb); have n2_ := Aside0.mk (hbox); have n3_ := Aside0.mk ((by rw [hg]; exact (ah (by repeat (first | (with_reducible first | exact HB.out | apply a6 | apply a4 | apply a5 | refine aa ?_ be.out) | exact HB.out))) : w.heap.size ≤ bi)); have n4_ := Aside0.mk ((by rw [hg]; exact (ah (by repeat (first | (with_reducible first | exact HB.out | apply a6 | apply a4 | apply a5 | refine aa ?_ be.out) | exact HB.out))) : w.heap.size ≤ bi)); have n5_ := Aside0.mk ((by rw [hg]; exact Nat.ne_of_lt (aZ (g := aG) (o := .cells #[.slice aC ai.length aA, .slice (some ad110) af.length au] 25 (0, 0)) (by (with_reducible repeat (first | refine ab ?_ _ | refine ac ?_ | refine a9 ?_ _)); exact am.out)) : aG ≠ bi)); have n6_ := Aside0.mk ((by rw [hg]; exact Nat.ne_of_gt (aZ (g := aG) (o := .cells #[.slice aC ai.length aA, .slice (some ad110) af.length au] 25 (0, 0)) (by (with_reducible repeat (first | refine ab ?_ _ | refine ac ?_ | refine a9 ?_ _)); exact am.out)) : bi ≠ aG)); clear am; clear HB; have am := n0_; have HB := n1_; have bd := n2_; have GW111 := n3_; have cE := n4_; have NB103_111 := n5_; have NB111_103 := n6_; clear n0_ n1_ n2_ n3_ n4_ n5_ n6_; clear hb hbox hg; have hnb46 := NB111_103.out; have hnc46 := NB103_111.out; have hcz47_0 : w45.cell? ⟨bi, 0, none⟩ = some (.int .i64 0) := (a7 bd.out 0).trans rfl; have hcz47_1 : w45.cell? ⟨bi, 1, none⟩ = some (.int .i64 0) := (a7 bd.out 1).trans rfl; have hcz47_2 : w45.cell? ⟨bi, 2, none⟩ = some (.slice none 0 0) := (a7 bd.out 2).trans rfl; have hcz47_3 : w45.cell? ⟨bi, 3, none⟩ = some (.slice none 0 0) := (a7 bd.out 3).trans rfl; have hfz47_0 := a8 bd.out 0; have hfz47_1 := a8 bd.out 1; have hfz47_2 := a8 bd.out 2; have hfz47_3 := a8 bd.out 3; have hcz48_0 : w45.cell? ⟨aG, 0, none⟩ = some (.slice aC ai.length aA) := (a7 am.out 0).trans rfl; have hcz48_1 : w45.cell? ⟨aG, 1, none⟩ = some (.slice (some ad110) af.length au) := (a7 am.out 1).trans rfl; have hfz48_0 := a8 am.out 0; have hfz48_1 := a8 am.out 1) | (go_at_call 38; (with_reducible refine (search_valid.calls ((ag af x65_2).f0) ((ag af x65_2).f1) _ _ ((ag af x65_2).f2) _ _ ((ag af x65_2).f3) (ai.length : Int) false _ ?side1 ?side2 ?side3 ?side4 A38.out).mono ?_); (case side1 => exact Kd.C_below ex.out (by repeat (first | (with_reducible first | exact HB.out | apply a6 | apply a4 | apply a5 | refine aa ?_ be.out | refine aa ?_ cE.out) | exact HB.out))); (case side2 => exact ey.out); (case side3 => exact Kd.C_below ez.out (by repeat (first | (with_reducible first | exact HB.out | apply a6 | apply a4 | apply a5 | refine aa ?_ be.out | refine aa ?_ cE.out) | exact HB.out))); (case side4 => exact eA.out); rintro e w49 ⟨rfl, hb⟩; have n0_ := Aside0.mk (ae (g := aG) (o := .cells #[.slice aC ai.length aA, .slice (some ad110) af.length au] 25 (0, 0)) (by (with_reducible repeat (first | refine ab ?_ _ | refine ac ?_ | refine a9 ?_ _)); refine aU ?_ NB103_111.out _; (with_reducible repeat (first | refine ab ?_ _ | refine ac ?_ | refine a9 ?_ _)); refine aU ?_ NB103_111.out _; (with_reducible repeat (first | refine ab ?_ _ | refine ac ?_ | refine a9 ?_ _)); refine aU ?_ NB103_111.out _; (with_reducible repeat (first | refine ab ?_ _ | refine ac ?_ | refine a9 ?_ _)); refine aU ?_ NB103_111.out _; (with_reducible repeat (first | refine ab ?_ _ | refine ac ?_ | refine a9 ?_ _)); exact am.out) hb); have n1_ := Aside0.mk (ae (g := bi) (o := .cells #[.int .i64 ((ag af x65_2).f0), .int .i64 ((ag af x65_2).f1), .slice db ((ag af x65_2).f2).length dc, .slice gO ((ag af x65_2).f3).length gP] 49 (0, 0)) (by (with_reducible repeat (first | refine ab ?_ _ | refine ac ?_ | refine a9 ?_ _)); refine aT (cs := #[.int .i64 ((ag af x65_2).f0), .int .i64 ((ag af x65_2).f1), .slice db ((ag af x65_2).f2).length dc, .slice none 0 0]) ?_ 3 _ rfl; (with_reducible repeat (first | refine ab ?_ _ | refine ac ?_ | refine a9 ?_ _)); refine aT (cs := #[.int .i64 ((ag af x65_2).f0), .int .i64 ((ag af x65_2).f1), .slice none 0 0, .slice none 0 0]) ?_ 2 _ rfl; (with_reducible repeat (first | refine ab ?_ _ | refine ac ?_ | refine a9 ?_ _)); refine aT (cs := #[.int .i64 ((ag af x65_2).f0), .int .i64 0, .slice none 0 0, .slice none 0 0]) ?_ 1 _ rfl; (with_reducible repeat (first | refine ab ?_ _ | refine ac ?_ | refine a9 ?_ _)); refine aT (cs := #[.int .i64 0, .int .i64 0, .slice none 0 0, .slice none 0 0]) ?_ 0 _ rfl; (with_reducible repeat (first | refine ab ?_ _ | refine ac ?_ | refine a9 ?_ _)); exact bd.out) hb); have n2_ := Aside0.mk (aj (by repeat (first | (with_reducible first | exact HB.out | apply a6 | apply a4 | apply a5 | refine aa ?_ be.out | refine aa ?_ cE.out) | exact HB.out)) hb); clear am; clear bd; clear HB; have am := n0_; have bd := n1_; have HB := n2_; clear n0_ n1_ n2_; (try clear hb); (try clear hb2); (try clear hk); (try clear hi))); try go_wp2_with (first | ((with_reducible refine aK (N := 8) rfl ?_); (try (refine aW (by rfl) ?_; dsimp only)); refine av ?hg (N := 8) ?hd (cs := #[.int .i64 0, .int .i64 0, .slice none 0 0, .slice none 0 0]) (t := 49) ?hr ?_; (case hd => rfl); (case hg => rfl); (case hr => first | (go_simp; done) | (go_simp; rfl)); intro bi hg w45 hbox hb; have n0_ := Aside0.mk (ae (g := aG) (o := .cells #[.slice aC ai.length aA, .slice (some ad110) af.length au] 25 (0, 0)) (by (with_reducible repeat (first | refine ab ?_ _ | refine ac ?_ | refine a9 ?_ _)); exact am.out) hb); have n1_ := Aside0.mk (aj (by repeat (first | (with_reducible first | exact HB.out | apply a6 | apply a4 | apply a5 | refine aa ?_ be.out) | exact HB.out)) hb); have n2_ := Aside0.mk (hbox); have n3_ := Aside0.mk ((by rw [hg]; exact (ah (by repeat (first | (with_reducible first | exact HB.out | apply a6 | apply a4 | apply a5 | refine aa ?_ be.out) | exact HB.out))) : w.heap.size ≤ bi)); have n4_ := Aside0.mk ((by rw [hg]; exact (ah (by repeat (first | (with_reducible first | exact HB.out | apply a6 | apply a4 | apply a5 | refine aa ?_ be.out) | exact HB.out))) : w.heap.size ≤ bi)); have n5_ := Aside0.mk ((by rw [hg]; exact Nat.ne_of_lt (aZ (g := aG) (o := .cells #[.slice aC ai.length aA, .slice (some ad110) af.length au] 25 (0, 0)) (by (with_reducible repeat (first | refine ab ?_ _ | refine ac ?_ | refine a9 ?_ _)); exact am.out)) : aG ≠ bi)); have n6_ := Aside0.mk ((by rw [hg]; exact Nat.ne_of_gt (aZ (g := aG) (o := .cells #[.slice aC ai.length aA, .slice (some ad110) af.length au] 25 (0, 0)) (by (with_reducible repeat (first | refine ab ?_ _ | refine ac ?_ | refine a9 ?_ _)); exact am.out)) : bi ≠ aG)); clear am; clear HB; have am := n0_; have HB := n1_; have bd := n2_; have GW111 := n3_; have cE := n4_; have NB103_111 := n5_; have NB111_103 := n6_; clear n0_ n1_ n2_ n3_ n4_ n5_ n6_; clear hb hbox hg; have hnb46 := NB111_103.out; have hnc46 := NB103_111.out; have hcz47_0 : w45.cell? ⟨bi, 0, none⟩ = some (.int .i64 0) := (a7 bd.out 0).trans rfl; have hcz47_1 : w45.cell? ⟨bi, 1, none⟩ = some (.int .i64 0) := (a7 bd.out 1).trans rfl; have hcz47_2 : w45.cell? ⟨bi, 2, none⟩ = some (.slice none 0 0) := (a7 bd.out 2).trans rfl; have hcz47_3 : w45.cell? ⟨bi, 3, none⟩ = some (.slice none 0 0) := (a7 bd.out 3).trans rfl; have hfz47_0 := a8 bd.out 0; have hfz47_1 := a8 bd.out 1; have hfz47_2 := a8 bd.out 2; have hfz47_3 := a8 bd.out 3; have hcz48_0 : w45.cell? ⟨aG, 0, none⟩ = some (.slice aC ai.length aA) := (a7 am.out 0).trans rfl; have hcz48_1 : w45.cell? ⟨aG, 1, none⟩ = some (.slice (some ad110) af.length au) := (a7 am.out 1).trans rfl; have hfz48_0 := a8 am.out 0; have hfz48_1 := a8 am.out 1) | (go_at_call 38; (with_reducible refine (search_valid.calls ((ag af x65_2).f0) ((ag af x65_2).f1) _ _ ((ag af x65_2).f2) _ _ ((ag af x65_2).f3) (ai.length : Int) false _ ?side1 ?side2 ?side3 ?side4 A38.out).mono ?_); (case side1 => exact Kd.C_below ex.out (by repeat (first | (with_reducible first | exact HB.out | apply a6 | apply a4 | apply a5 | refine aa ?_ be.out | refine aa ?_ cE.out) | exact HB.out))); (case side2 => exact ey.out); (case side3 => exact Kd.C_below ez.out (by repeat (first | (with_reducible first | exact HB.out | apply a6 | apply a4 | apply a5 | refine aa ?_ be.out | refine aa ?_ cE.out) | exact HB.out))); (case side4 => exact eA.out); rintro e w49 ⟨rfl, hb⟩; have n0_ := Aside0.mk (ae (g := aG) (o := .cells #[.slice aC ai.length aA, .slice (some ad110) af.length au] 25 (0, 0)) (by (with_reducible repeat (first | refine ab ?_ _ | refine ac ?_ | refine a9 ?_ _)); refine aU ?_ NB103_111.out _; (with_reducible repeat (first | refine ab ?_ _ | refine ac ?_ | refine a9 ?_ _)); refine aU ?_ NB103_111.out _; (with_reducible repeat (first | refine ab ?_ _ | refine ac ?_ | refine a9 ?_ _)); refine aU ?_ NB103_111.out _; (with_reducible repeat (first | refine ab ?_ _ | refine ac ?_ | refine a9 ?_ _)); refine aU ?_ NB103_111.out _; (with_reducible repeat (first | refine ab ?_ _ | refine ac ?_ | refine a9 ?_ _)); exact am.out) hb); have n1_ := Aside0.mk (ae (g := bi) (o := .cells #[.int .i64 ((ag af x65_2).f0), .int .i64 ((ag af x65_2).f1), .slice db ((ag af x65_2).f2).length dc, .slice gO ((ag af x65_2).f3).length gP] 49 (0, 0)) (by (with_reducible repeat (first | refine ab ?_ _ | refine ac ?_ | refine a9 ?_ _)); refine aT (cs := #[.int .i64 ((ag af x65_2).f0), .int .i64 ((ag af x65_2).f1), .slice db ((ag af x65_2).f2).length dc, .slice none 0 0]) ?_ 3 _ rfl; (with_reducible repeat (first | refine ab ?_ _ | refine ac ?_ | refine a9 ?_ _)); refine aT (cs := #[.int .i64 ((ag af x65_2).f0), .int .i64 ((ag af x65_2).f1), .slice none 0 0, .slice none 0 0]) ?_ 2 _ rfl; (with_reducible repeat (first | refine ab ?_ _ | refine ac ?_ | refine a9 ?_ _)); refine aT (cs := #[.int .i64 ((ag af x65_2).f0), .int .i64 0, .slice none 0 0, .slice none 0 0]) ?_ 1 _ rfl; (with_reducible repeat (first | refine ab ?_ _ | refine ac ?_ | refine a9 ?_ _)); refine aT (cs := #[.int .i64 0, .int .i64 0, .slice none 0 0, .slice none 0 0]) ?_ 0 _ rfl; (with_reducible repeat (first | refine ab ?_ _ | refine ac ?_ | refine a9 ?_ _)); exact bd.out) hb); have n2_ := Aside0.mk (aj (by repeat (first | (with_reducible first | exact HB.out | apply a6 | apply a4 | apply a5 | refine aa ?_ be.out | refine aa ?_ cE.out) | exact HB.out)) hb); clear am; clear bd; clear HB; have am := n0_; have bd := n1_; have HB := n2_; clear n0_ n1_ n2_; (try clear hb); (try clear hb2); (try clear hk); (try clear hi))))
            go_ret
            exact ⟨by first | rfl | (simp [al, ak] <;> rfl) | (simp [*, al, ak] <;> rfl), by repeat (first | (with_reducible first | exact HB.out | apply a6 | apply a4 | apply a5 | refine aa ?_ be.out | refine aa ?_ cE.out) | exact HB.out)⟩
          ·rw [if_neg c37] at H
           exact absurd H (by simp)
         ·rw [if_neg c36] at H
          exact absurd H (by simp)
        ·rw [if_neg c35] at H
         have c35b0 : decide (x65_2 < (af.length : Int)) = false := decide_eq_false c35
         clear c35
         by_cases c50 : x3_1 > 65536
         ·rw [if_pos c50] at H
          have c50b0 : decide (65536 < x3_1) = true := decide_eq_true c50
          clear c50
          obtain rfl := Option.some.inj H
          go_wp2
          repeat (go_quiet (fail); try go_wp2)
          go_ret
          exact ⟨by first | rfl | (simp [al, ak] <;> rfl) | (simp [*, al, ak] <;> rfl), by repeat (first | (with_reducible first | exact HB.out | apply a6 | apply a4 | apply a5 | refine aa ?_ be.out) | exact HB.out)⟩
         ·rw [if_neg c50] at H
          have c50b0 : decide (65536 < x3_1) = false := decide_eq_false c50
          clear c50
          obtain rfl := Option.some.inj H
          go_wp2
          repeat (go_quiet (fail); try go_wp2)
          go_ret
          exact ⟨by first | rfl | (simp [al, ak] <;> rfl) | (simp [*, al, ak] <;> rfl), by repeat (first | (with_reducible first | exact HB.out | apply a6 | apply a4 | apply a5 | refine aa ?_ be.out) | exact HB.out)⟩
def cmp_isNaN_int.f (a0 : Int) : Option (Bool) := some (a0 != a0)
set_option maxHeartbeats 8000000 in
set_option maxRecDepth 100000 in
theorem cmp_isNaN_int.calls (a0 : Int) (r : Bool) (w : World) (h : cmp_isNaN_int.f a0 = some r) :
  Calls Try.prog 63 #[.int .i64 a0] w fun e w' => e = .returned (.bool r) ∧ Drawn0 w w' := by
 have H : (some (a0 != a0)) = some r := h
 clear h
 obtain rfl := Option.some.inj H
 go_enter Try.func63, Try.ntmps63
 go_wp2
 go_ret
 exact ⟨by first | rfl | (simp; done) | (simp [*]; done), by repeat (first | exact Drawn0.refl _ | apply Drawn0.step)⟩
def cmp_Less_int.f (a0 : Int) (a1 : Int) : Option (Bool) := (cmp_isNaN_int.f a0).bind fun t113 => (if t113 = true then ((cmp_isNaN_int.f a1).bind fun t114 => (if t114 = true then (some (decide (a0 < a1))) else (some true))) else (some (decide (a0 < a1))))
set_option maxHeartbeats 8000000 in
set_option maxRecDepth 100000 in
theorem cmp_Less_int.calls (a0 : Int) (a1 : Int) (r : Bool) (w : World) (h : cmp_Less_int.f a0 a1 = some r) :
  Calls Try.prog 48 #[.int .i64 a0, .int .i64 a1] w fun e w' => e = .returned (.bool r) ∧ Drawn0 w w' := by
 have H : ((cmp_isNaN_int.f a0).bind fun t113 => (if t113 = true then ((cmp_isNaN_int.f a1).bind fun t114 => (if t114 = true then (some (decide (a0 < a1))) else (some true))) else (some (decide (a0 < a1))))) = some r := h
 clear h
 replace H := Option.bind_eq_some_iff.mp H
 obtain ⟨t113, A30, H⟩ := H
 replace H : (if t113 = true then ((cmp_isNaN_int.f a1).bind fun t114 => (if t114 = true then (some (decide (a0 < a1))) else (some true))) else (some (decide (a0 < a1)))) = some r := H
 have A3 := Aside0.mk A30
 clear A30
 by_cases c4 : t113 = true
 ·subst c4
  have H1 : ((cmp_isNaN_int.f a1).bind fun t114 => (if t114 = true then (some (decide (a0 < a1))) else (some true))) = some r := by rw [if_pos rfl] at H; exact H
  clear H
  have H := H1
  clear H1
  replace H := Option.bind_eq_some_iff.mp H
  obtain ⟨t114, A50, H⟩ := H
  replace H : (if t114 = true then (some (decide (a0 < a1))) else (some true)) = some r := H
  have A5 := Aside0.mk A50
  clear A50
  by_cases c6 : t114 = true
  ·subst c6
   have H1 : (some (decide (a0 < a1))) = some r := by rw [if_pos rfl] at H; exact H
   clear H
   have H := H1
   clear H1
   obtain rfl := Option.some.inj H
   go_enter Try.func48, Try.ntmps48
   go_wp2_with (first | ((with_reducible refine aE (f := 63) rfl ?_); refine bw (some 6) rfl rfl Try.func63 (by kernel_rfl) rfl #[.int .i64 a0] rfl (by (try simp only [List.map_toArray, List.map_cons, List.map_nil]); first | done | rfl | (simp only [List.length_drop, List.length_take]; rfl)) ?_; (with_reducible refine (cmp_isNaN_int.calls a0 true _ A3.out).mono ?_); rintro e w' ⟨rfl, ⟨nd, rfl⟩⟩; refine ⟨_, rfl, ?_⟩) | (go_at_call 63; (with_reducible refine (cmp_isNaN_int.calls a1 true _ A5.out).mono ?_); rintro e w' ⟨rfl, ⟨nd, rfl⟩⟩))
   go_ret
   exact ⟨by first | rfl | (simp; done) | (simp [*]; done), by repeat (first | exact Drawn0.refl _ | apply Drawn0.step)⟩
  ·replace c6 := Bool.eq_false_iff.mpr c6
   subst c6
   have H1 : (some true) = some r := by rw [if_neg (show ¬ (false = true) by decide)] at H; exact H
   clear H
   have H := H1
   clear H1
   obtain rfl := Option.some.inj H
   go_enter Try.func48, Try.ntmps48
   go_wp2_with (first | ((with_reducible refine aE (f := 63) rfl ?_); refine bw (some 6) rfl rfl Try.func63 (by kernel_rfl) rfl #[.int .i64 a0] rfl (by (try simp only [List.map_toArray, List.map_cons, List.map_nil]); first | done | rfl | (simp only [List.length_drop, List.length_take]; rfl)) ?_; (with_reducible refine (cmp_isNaN_int.calls a0 true _ A3.out).mono ?_); rintro e w' ⟨rfl, ⟨nd, rfl⟩⟩; refine ⟨_, rfl, ?_⟩) | (go_at_call 63; (with_reducible refine (cmp_isNaN_int.calls a1 false _ A5.out).mono ?_); rintro e w' ⟨rfl, ⟨nd, rfl⟩⟩))
   go_ret
   exact ⟨by first | rfl | (simp; done) | (simp [*]; done), by repeat (first | exact Drawn0.refl _ | apply Drawn0.step)⟩
 ·replace c4 := Bool.eq_false_iff.mpr c4
  subst c4
  have H1 : (some (decide (a0 < a1))) = some r := by rw [if_neg (show ¬ (false = true) by decide)] at H; exact H
  clear H
  have H := H1
  clear H1
  obtain rfl := Option.some.inj H
  go_enter Try.func48, Try.ntmps48
  go_wp2_with (first | ((with_reducible refine aE (f := 63) rfl ?_); refine bw (some 6) rfl rfl Try.func63 (by kernel_rfl) rfl #[.int .i64 a0] rfl (by (try simp only [List.map_toArray, List.map_cons, List.map_nil]); first | done | rfl | (simp only [List.length_drop, List.length_take]; rfl)) ?_; (with_reducible refine (cmp_isNaN_int.calls a0 false _ A3.out).mono ?_); rintro e w' ⟨rfl, ⟨nd, rfl⟩⟩; refine ⟨_, rfl, ?_⟩))
  go_ret
  exact ⟨by first | rfl | (simp; done) | (simp [*]; done), by repeat (first | exact Drawn0.refl _ | apply Drawn0.step)⟩
def slices_isNaN_int.f (a0 : Int) : Option (Bool) := some (a0 != a0)
set_option maxHeartbeats 8000000 in
set_option maxRecDepth 100000 in
theorem slices_isNaN_int.calls (a0 : Int) (r : Bool) (w : World) (h : slices_isNaN_int.f a0 = some r) :
  Calls Try.prog 49 #[.int .i64 a0] w fun e w' => e = .returned (.bool r) ∧ Drawn0 w w' := by
 have H : (some (a0 != a0)) = some r := h
 clear h
 obtain rfl := Option.some.inj H
 go_enter Try.func49, Try.ntmps49
 go_wp2
 go_ret
 exact ⟨by first | rfl | (simp; done) | (simp [*]; done), by repeat (first | exact Drawn0.refl _ | apply Drawn0.step)⟩
end Go.Proofs.Ytcbpkdemcdikaaa.X
namespace Go.Proofs.Ytcbpkdemcdikaaa.X
open Go.RowKit Go.Proofs.YtcbpkdemcdikaaaW.PrintWords Go.Proofs.YtcbpkdemcdikaaaW.PrintLast Go.Proofs.YtcbpkdemcdikaaaW.PrintMore
attribute [local go_sem] ay az aN aM ao ap aw ax
set_option linter.unusedVariables false
set_option linter.unusedSimpArgs false
namespace SF
set_option maxHeartbeats 8000000
def fulfilB (r : S49) (v : List Int) : Bool :=
  if r.f0 = 1 then r.f3.any (fun row => decide (row = v)) else if r.f0 = 2 then dZ (fun a b => a == b) v else if r.f0 = 3 then dZ (fun a b => decide (wrap64 (max a b - min a b) < r.f1)) v else dZ (fun a b => decide (a ≥ b)) v
def brokenB (r : S49) (x : List Int) : Bool := if r.f2.all (fun k => decide (k < (x.length : Int))) then !fulfilB r (r.f2.map (rd x)) else false
theorem dV : (Try.prog.info? 3).map (fun i => (i.zero, i.size, i.bytes)) = some (some (.int .i64 0), 1, 8) := by kernel_rfl
theorem brokenB_no (r : S49) (x : List Int) (i : Nat) (hi : i < r.f2.length) (h : (x.length : Int) ≤ rd r.f2 i) : brokenB r x = false := by
  unfold brokenB
  rw [if_neg]
  intro ha
  rw [List.all_eq_true] at ha
  have := ha (r.f2[i]) (List.getElem_mem hi)
  have e : rd r.f2 (i : Int) = r.f2[i] := by simp [rd, List.getD, List.getElem?_eq_getElem hi]
  rw [e] at h
  simp at this
  omega
theorem broken_ok (a0 a1 : Int) (A2 : Option Addr) (c2 : Nat) (l2 : List Int) (A3 : Option Addr) (c3 : Nat) (l3 : List (List Int)) (A1 : Option Addr) (c1 : Nat) (l1 : List Int) (w : World)
    (hr2 : Kd.C (Kd.int .i64) w A2 l2.length l2) (hc2 : l2.length ≤ c2) (hr3 : Kd.C (Kd.slice 3 (Kd.int .i64)) w A3 l3.length l3) (hc3 : l3.length ≤ c3) (hr1 : Kd.C (Kd.int .i64) w A1 l1.length l1) (hc1 : l1.length ≤ c1)
    (hk1 : 1 ≤ a0) (hk2 : a0 ≤ 4) (hv : ∀ i : Nat, i < l2.length → 0 ≤ rd l2 (i : Int)) (hn : l2.length ≤ 1000) :
    Calls Try.prog 32 #[.agg #[.int .i64 a0, .int .i64 a1, .slice A2 l2.length c2, .slice A3 l3.length c3], .slice A1 l1.length c1] w fun e w' => e = .returned (.bool (brokenB ⟨a0, a1, l2, l3⟩ l1)) ∧ Below w.heap.size w w' := by
  obtain ⟨i3, hi3, hii3⟩ := Option.map_eq_some_iff.1 dV
  simp only [Prod.mk.injEq] at hii3
  obtain ⟨hz3, hs3, hb3⟩ := hii3
  have hmk : ∀ W : World, (Instr.makeSlice 69 (.int .i64 0) (.int .i64 (l2.length : Int))).run Try.prog W = .ok (.slice (some ⟨W.heap.size, 0, none⟩) 0 l2.length) (W.alloc (.cells (madeCells (Value.int .i64 0).cells (l2.length * 1)) 3)) := fun W => by
    have h := run_makeSlice (P := Try.prog) (w := W) 69 3 i3 (.int .i64 0) Try.underlying69 hi3 hz3 .i64 .i64 0 l2.length (by omega) (by omega) (by rw [hs3]; simp; omega) (by rw [hb3]; omega) (by omega)
    rw [hs3] at h
    simpa using h
  clear hi3 hz3 hs3 hb3
  have HM := Aside0.mk (Kd.C_max hr2)
  have HR1 := Aside0.mk hr1; have HR2 := Aside0.mk hr2; have HR3 := Aside0.mk hr3
  have HC1 := Aside0.mk hc1; have HC2 := Aside0.mk hc2; have HC3 := Aside0.mk hc3
  have HK := Aside0.mk (And.intro hk1 hk2)
  have HV := Aside0.mk hv
  have HN := Aside0.mk hn
  clear hr1 hr2 hr3 hc1 hc2 hc3 hk1 hk2 hv hn
  go_enter Try.func32, Try.ntmps32
  go_wp2_with (fail)
  obtain ⟨W1, hW1⟩ : ∃ W1, w.alloc (.cells #[.int .i64 a0, .int .i64 a1, .slice A2 l2.length c2, .slice A3 l3.length c3] 49) = W1 := ⟨_, rfl⟩
  have HW1 : Aside0 (Below w.heap.size w W1) := ⟨by rw [← hW1]; exact a6 (Below.refl _ _) _⟩
  have HBK : Aside0 (W1.heap[w.heap.size]? = some (.cells #[.int .i64 a0, .int .i64 a1, .slice A2 l2.length c2, .slice A3 l3.length c3] 49 (0, 0))) := ⟨by rw [← hW1]; exact aV w _⟩
  have HSZ : Aside0 (W1.heap.size = w.heap.size + 1) := ⟨by rw [← hW1]; simp⟩
  rw [hW1]
  clear hW1
  have HO0 : Aside0 ((W1.alloc (.cells (madeCells (Value.int .i64 0).cells (l2.length * 1)) 3)).ownsRow W1.heap.size 3 1 (.slice (some ⟨W1.heap.size, 0, none⟩) 0 l2.length) 0 []) := ⟨World.ownsRow_made W1 _ l2.length (Nat.le_refl _) (by have := HM.out; simp only [maxLen]; omega) (by rw [size_madeCells])⟩
  go_loopg [5, 7, 15] l2.length (fun gg v5 _ v15 wr => ∃ kk : Nat, v15 = .int .i64 kk ∧ Aside0 (kk ≤ l2.length) ∧ Aside0 (l2.length - kk ≤ gg) ∧ Aside0 (∀ i, i < kk → rd l2 (i : Int) < (l1.length : Int)) ∧ Aside0 (wr.ownsRow W1.heap.size 3 1 v5 ((l2.take kk).map (rd l1)).length (bM .i64 ((l2.take kk).map (rd l1)))) ∧ Aside0 (Below W1.heap.size W1 wr))
  case atStart => exact ⟨0, rfl, ⟨Nat.zero_le _⟩, ⟨by omega⟩, ⟨fun j hj => absurd hj (by omega)⟩, ⟨by have h := HO0.out; rw [HSZ.out, Nat.mul_one] at h; rw [HSZ.out]; exact h⟩, ⟨a6 (Below.refl _ _) _⟩⟩
  case round =>
    obtain ⟨kk, rfl, HKk, HG, HT, HO, HB⟩ := hrel
    have HBw := Aside0.mk (HW1.out.trans (HB.out.mono HW1.out.size))
    have hbx : wr.cell? ⟨w.heap.size, 0, none⟩ = some (.int .i64 a0) := by
      have h := a7 (ae HBK.out HB.out) 0
      simpa using h
    by_cases c4 : kk < l2.length
    · have c4b : decide ((kk : Int) < (l2.length : Int)) = true := decide_eq_true (by omega)
      have c4n : decide (kk < l2.length) = true := decide_eq_true c4
      have p0 : 0 ≤ (kk : Int) := by omega
      have q0 : (kk : Int) < (l2.length : Int) := by omega
      obtain ⟨ad0, e0, hx0⟩ := Kd.at_int (Kd.C_below HR2.out HBw.out) kk p0 q0
      subst e0
      rw [Int.toNat_natCast] at hx0
      have n0 : (kk < l2.length) = True := eq_true c4
      replace p0 := eq_true p0
      replace q0 := eq_true q0
      have HX0 := Aside0.mk (HV.out kk c4)
      have HC := Aside0.mk c4
      clear c4
      by_cases c5 : rd l2 (kk : Int) ≥ (l1.length : Int)
      · have c5b : decide (rd l2 (kk : Int) ≥ (l1.length : Int)) = true := decide_eq_true c5
        have c5c : decide ((l1.length : Int) ≤ rd l2 (kk : Int)) = true := decide_eq_true c5
        have HC5 := Aside0.mk c5
        clear c5
        go_wp2
        repeat (go_quiet (fail); try go_wp2)
        go_ret
        refine ⟨?_, by repeat (first | exact HBw.out | apply a4 | apply a5)⟩
        rw [brokenB_no ⟨a0, a1, l2, l3⟩ l1 kk HC.out HC5.out]
        rfl
      · have c5b : decide (rd l2 (kk : Int) ≥ (l1.length : Int)) = false := decide_eq_false c5
        have c5c : decide ((l1.length : Int) ≤ rd l2 (kk : Int)) = false := decide_eq_false c5
        have p1 : 0 ≤ rd l2 (kk : Int) := HX0.out
        have q1 : rd l2 (kk : Int) < (l1.length : Int) := by omega
        obtain ⟨ad1, e1, hx1⟩ := Kd.at_int (Kd.C_below HR1.out HBw.out) _ p1 q1
        cases e1
        have HC5 := Aside0.mk q1
        replace p1 := eq_true p1
        replace q1 := eq_true q1
        clear c5
        have HLEN : Aside0 (((l2.take kk).map (rd l1)).length = kk) := ⟨by have := HC.out; simp; omega⟩
        go_wp2_with ((with_reducible refine cA (b := .append) (xs := #[.tmp 23, .tmp 28]) rfl ?_); at_builtin; refine cC (w0 := W1) W1.heap.size rfl (.tmp 23) (.tmp 28) 69 3 .i64 8 rfl Try.underlying69 dV (by omega) _ ((l2.take kk).map (rd l1)) (rd l1 (rd l2 (kk : Int))) rfl rfl ?aO ?aB ?aS ?aL ?_; (case aO => exact HO.out); (case aB => exact HB.out); (case aS => exact HB.out.size); (case aL => have := HLEN.out; have := HN.out; have := HC.out; omega); intro v9 w9 ho hb hg hat; have HO9 := Aside0.mk ho; have HB9 := Aside0.mk hb; clear ho hb hg hat)
        go_roundg (l2.length - (kk + 1))
        case measure => have := HG.out; have := HC.out; omega
        case rel =>
          have hm := HM.out; have hc := HC.out
          have e : (l2.take (kk + 1)).map (rd l1) = (l2.take kk).map (rd l1) ++ [rd l1 (rd l2 (kk : Int))] := by rw [eP l2 kk hc, List.map_append]; rfl
          exact ⟨kk + 1, by rw [wr64 _ (by omega) (by omega)]; rfl, ⟨HC.out⟩, ⟨by omega⟩, ⟨fun i hi => by
            rcases Nat.lt_or_eq_of_le (Nat.le_of_lt_succ hi) with h | rfl
            · exact HT.out i h
            · exact HC5.out⟩, ⟨by rw [e]; exact HO9.out⟩, ⟨HB9.out⟩⟩
    · have c4b : decide ((kk : Int) < (l2.length : Int)) = false := decide_eq_false (by omega)
      have c4n : decide (kk < l2.length) = false := decide_eq_false c4
      have hkk : kk = l2.length := by have := HKk.out; omega
      subst hkk
      clear c4
      obtain ⟨A5, c5, rfl, hle5, hrd5⟩ := bI (enc := fun x : Int => Value.int .i64 x) (d := 0) HO.out
      have HL5 := Aside0.mk (show ((l2.take l2.length).map (rd l1)).length ≤ c5 from hle5)
      have HR5 : Aside0 (Kd.C (Kd.int .i64) wr A5 ((l2.take l2.length).map (rd l1)).length ((l2.take l2.length).map (rd l1))) := ⟨Kd.C_of_reads hrd5⟩
      clear hle5 hrd5
      obtain ⟨V, hV⟩ : ∃ V, (l2.take l2.length).map (rd l1) = V := ⟨_, rfl⟩
      have HVV : Aside0 (l2.map (rd l1) = V) := ⟨by rw [← hV, List.take_length]⟩
      rw [hV] at HL5 HR5 HO ⊢
      clear hV
      have hA : l2.all (fun k => decide (k < (l1.length : Int))) = true := by
        rw [List.all_eq_true]
        intro x hx
        obtain ⟨i, hi, rfl⟩ := List.getElem_of_mem hx
        have := HT.out i hi
        rw [show rd l2 (i : Int) = l2[i] by simp [rd, List.getD, List.getElem?_eq_getElem hi]] at this
        exact decide_eq_true this
      have hans : brokenB ⟨a0, a1, l2, l3⟩ l1 = !fulfilB ⟨a0, a1, l2, l3⟩ V := by
        unfold brokenB; rw [if_pos hA, HVV.out]
      have HANS := Aside0.mk hans
      clear hA hans
      obtain ⟨k1, k2⟩ := HK.out
      have hk : a0 = 1 ∨ a0 = 2 ∨ a0 = 3 ∨ a0 = 4 := by omega
      clear k1 k2 HK
      rcases hk with rfl | rfl | rfl | rfl
      · go_wp2_with (fail)
        have hb0 : wr.drew.cell? ⟨w.heap.size, 0, none⟩ = some (.int .i64 1) := by simpa using hbx
        have HX := Aside0.mk (fun (W : World) (hb : Below wr.heap.size wr W) => (show W.cell? ⟨w.heap.size, 0, none⟩ = some (.int .i64 1) ∧ W.cell? ⟨w.heap.size, 1, none⟩ = some (.int .i64 a1) ∧ W.cell? ⟨w.heap.size, 2, none⟩ = some (.slice A2 l2.length c2) ∧ W.cell? ⟨w.heap.size, 3, none⟩ = some (.slice A3 l3.length c3) from by
          have hB2 := HB.out.trans (hb.mono HB.out.size)
          exact ⟨by simpa using a7 (ae HBK.out hB2) 0, by simpa using a7 (ae HBK.out hB2) 1, by simpa using a7 (ae HBK.out hB2) 2, by simpa using a7 (ae HBK.out hB2) 3⟩))
        obtain ⟨y0, y1, y2, y3⟩ := HX.out wr.drew (a5 (Below.refl _ _))
        have HCALL := Aside0.mk (fun (W : World) (hb : Below wr.heap.size wr W) => listed_calls A5 c5 V (.int .i64 1) (.int .i64 a1) (.slice A2 l2.length c2) A3 c3 l3 W (Kd.C_below HR5.out hb) HL5.out (Kd.C_below HR3.out (HBw.out.trans (hb.mono HBw.out.size))))
        go_region_with (first
          | (go_at_call 50; refine (bN 1 _).mono ?_; rintro e w2 ⟨rfl, hb2⟩
             rw [show fw 1 = .func (.func 64) #[] #[] from rfl]
             have hB2 : Below wr.heap.size wr w2 := (a5 (Below.refl _ _)).trans (hb2.mono (Nat.le_refl _))
             obtain ⟨x0, x1, x2, x3⟩ := HX.out w2 hB2
             have HB2 := Aside0.mk hB2
             clear hb2 hB2)
          | (go_at_call 64; refine (HCALL.out _ HB2.out).mono ?_; rintro e w3 ⟨rfl, hb3⟩
             have HB3 := Aside0.mk (HBw.out.trans ((HB2.out.trans (hb3.mono HB2.out.size)).mono HBw.out.size))
             clear hb3))
        all_goals
          go_wp2_with (fail)
          go_ret
          refine ⟨?_, by repeat (first | exact HB3.out | apply a4 | apply a5)⟩
          rw [HANS.out]
          rfl
      · go_wp2_with (fail)
        have hb0 : wr.drew.cell? ⟨w.heap.size, 0, none⟩ = some (.int .i64 2) := by simpa using hbx
        have HX := Aside0.mk (fun (W : World) (hb : Below wr.heap.size wr W) => (show W.cell? ⟨w.heap.size, 0, none⟩ = some (.int .i64 2) ∧ W.cell? ⟨w.heap.size, 1, none⟩ = some (.int .i64 a1) ∧ W.cell? ⟨w.heap.size, 2, none⟩ = some (.slice A2 l2.length c2) ∧ W.cell? ⟨w.heap.size, 3, none⟩ = some (.slice A3 l3.length c3) from by
          have hB2 := HB.out.trans (hb.mono HB.out.size)
          exact ⟨by simpa using a7 (ae HBK.out hB2) 0, by simpa using a7 (ae HBK.out hB2) 1, by simpa using a7 (ae HBK.out hB2) 2, by simpa using a7 (ae HBK.out hB2) 3⟩))
        obtain ⟨y0, y1, y2, y3⟩ := HX.out wr.drew (a5 (Below.refl _ _))
        have HCALL := Aside0.mk (fun (W : World) (hb : Below wr.heap.size wr W) => differ_calls A5 c5 V (.int .i64 2) (.int .i64 a1) (.slice A2 l2.length c2) (.slice A3 l3.length c3) W (Kd.C_below HR5.out hb) HL5.out)
        go_region_with (first
          | (go_at_call 50; refine (bN 2 _).mono ?_; rintro e w2 ⟨rfl, hb2⟩
             rw [show fw 2 = .func (.func 65) #[] #[] from rfl]
             have hB2 : Below wr.heap.size wr w2 := (a5 (Below.refl _ _)).trans (hb2.mono (Nat.le_refl _))
             obtain ⟨x0, x1, x2, x3⟩ := HX.out w2 hB2
             have HB2 := Aside0.mk hB2
             clear hb2 hB2)
          | (go_at_call 65; refine (HCALL.out _ HB2.out).mono ?_; rintro e w3 ⟨rfl, hb3⟩
             have HB3 := Aside0.mk (HBw.out.trans ((HB2.out.trans (hb3.mono HB2.out.size)).mono HBw.out.size))
             clear hb3))
        all_goals
          go_wp2_with (fail)
          go_ret
          refine ⟨?_, by repeat (first | exact HB3.out | apply a4 | apply a5)⟩
          rw [HANS.out]
          rfl
      · go_wp2_with (fail)
        have hb0 : wr.drew.cell? ⟨w.heap.size, 0, none⟩ = some (.int .i64 3) := by simpa using hbx
        have HX := Aside0.mk (fun (W : World) (hb : Below wr.heap.size wr W) => (show W.cell? ⟨w.heap.size, 0, none⟩ = some (.int .i64 3) ∧ W.cell? ⟨w.heap.size, 1, none⟩ = some (.int .i64 a1) ∧ W.cell? ⟨w.heap.size, 2, none⟩ = some (.slice A2 l2.length c2) ∧ W.cell? ⟨w.heap.size, 3, none⟩ = some (.slice A3 l3.length c3) from by
          have hB2 := HB.out.trans (hb.mono HB.out.size)
          exact ⟨by simpa using a7 (ae HBK.out hB2) 0, by simpa using a7 (ae HBK.out hB2) 1, by simpa using a7 (ae HBK.out hB2) 2, by simpa using a7 (ae HBK.out hB2) 3⟩))
        obtain ⟨y0, y1, y2, y3⟩ := HX.out wr.drew (a5 (Below.refl _ _))
        have HCALL := Aside0.mk (fun (W : World) (hb : Below wr.heap.size wr W) => apart_calls A5 c5 V (.int .i64 3) a1 (.slice A2 l2.length c2) (.slice A3 l3.length c3) W (Kd.C_below HR5.out hb) HL5.out)
        go_region_with (first
          | (go_at_call 50; refine (bN 3 _).mono ?_; rintro e w2 ⟨rfl, hb2⟩
             rw [show fw 3 = .func (.func 66) #[] #[] from rfl]
             have hB2 : Below wr.heap.size wr w2 := (a5 (Below.refl _ _)).trans (hb2.mono (Nat.le_refl _))
             obtain ⟨x0, x1, x2, x3⟩ := HX.out w2 hB2
             have HB2 := Aside0.mk hB2
             clear hb2 hB2)
          | (go_at_call 66; refine (HCALL.out _ HB2.out).mono ?_; rintro e w3 ⟨rfl, hb3⟩
             have HB3 := Aside0.mk (HBw.out.trans ((HB2.out.trans (hb3.mono HB2.out.size)).mono HBw.out.size))
             clear hb3))
        all_goals
          go_wp2_with (fail)
          go_ret
          refine ⟨?_, by repeat (first | exact HB3.out | apply a4 | apply a5)⟩
          rw [HANS.out]
          rfl
      · go_wp2_with (fail)
        have hb0 : wr.drew.cell? ⟨w.heap.size, 0, none⟩ = some (.int .i64 4) := by simpa using hbx
        have HX := Aside0.mk (fun (W : World) (hb : Below wr.heap.size wr W) => (show W.cell? ⟨w.heap.size, 0, none⟩ = some (.int .i64 4) ∧ W.cell? ⟨w.heap.size, 1, none⟩ = some (.int .i64 a1) ∧ W.cell? ⟨w.heap.size, 2, none⟩ = some (.slice A2 l2.length c2) ∧ W.cell? ⟨w.heap.size, 3, none⟩ = some (.slice A3 l3.length c3) from by
          have hB2 := HB.out.trans (hb.mono HB.out.size)
          exact ⟨by simpa using a7 (ae HBK.out hB2) 0, by simpa using a7 (ae HBK.out hB2) 1, by simpa using a7 (ae HBK.out hB2) 2, by simpa using a7 (ae HBK.out hB2) 3⟩))
        obtain ⟨y0, y1, y2, y3⟩ := HX.out wr.drew (a5 (Below.refl _ _))
        have HCALL := Aside0.mk (fun (W : World) (hb : Below wr.heap.size wr W) => order_calls A5 c5 V (.int .i64 4) (.int .i64 a1) (.slice A2 l2.length c2) (.slice A3 l3.length c3) W (Kd.C_below HR5.out hb) HL5.out)
        go_region_with (first
          | (go_at_call 50; refine (bN 4 _).mono ?_; rintro e w2 ⟨rfl, hb2⟩
             rw [show fw 4 = .func (.func 67) #[] #[] from rfl]
             have hB2 : Below wr.heap.size wr w2 := (a5 (Below.refl _ _)).trans (hb2.mono (Nat.le_refl _))
             obtain ⟨x0, x1, x2, x3⟩ := HX.out w2 hB2
             have HB2 := Aside0.mk hB2
             clear hb2 hB2)
          | (go_at_call 67; refine (HCALL.out _ HB2.out).mono ?_; rintro e w3 ⟨rfl, hb3⟩
             have HB3 := Aside0.mk (HBw.out.trans ((HB2.out.trans (hb3.mono HB2.out.size)).mono HBw.out.size))
             clear hb3))
        all_goals
          go_wp2_with (fail)
          go_ret
          refine ⟨?_, by repeat (first | exact HB3.out | apply a4 | apply a5)⟩
          rw [HANS.out]
          rfl
end SF
end Go.Proofs.Ytcbpkdemcdikaaa.X
namespace Go.Proofs.Ytcbpkdemcdikaaa.X
open Go.RowKit Go.Proofs.YtcbpkdemcdikaaaW.PrintWords Go.Proofs.YtcbpkdemcdikaaaW.PrintLast Go.Proofs.YtcbpkdemcdikaaaW.PrintMore
attribute [local go_sem] ay az aN aM ao ap aw ax
set_option linter.unusedVariables false
set_option linter.unusedSimpArgs false
namespace SF
set_option maxHeartbeats 4000000
def okR (r : S49) : Prop := 1 ≤ r.f0 ∧ r.f0 ≤ 4 ∧ (∀ i : Nat, i < r.f2.length → 0 ≤ rd r.f2 (i : Int)) ∧ r.f2.length ≤ 1000
def okB (r : S49) : Bool := decide (1 ≤ r.f0) && decide (r.f0 ≤ 4) && r.f2.all (fun k => decide (0 ≤ k)) && decide (r.f2.length ≤ 1000)
theorem okB_R {r : S49} (h : okB r = true) : okR r := by
  simp only [okB, Bool.and_eq_true, decide_eq_true_eq, List.all_eq_true] at h
  refine ⟨h.1.1.1, h.1.1.2, fun i hi => ?_, h.2⟩
  rw [show rd r.f2 (i : Int) = r.f2[i] by simp [rd, List.getD, List.getElem?_eq_getElem hi]]
  exact h.1.2 _ (List.getElem_mem hi)
theorem first_pred (w : World) (B : Nat) (A1 : Option Addr) (c1 : Nat) (l1 : List Int) (hr1 : Kd.C (Kd.int .i64) w A1 l1.length l1) (hc1 : l1.length ≤ c1) (hB : B < w.heap.size) (hc : w.cell? ⟨B, 0, none⟩ = some (.slice A1 l1.length c1)) :
    RuleP 72 #[.pointer (some ⟨B, 0, none⟩)] okR (fun r => brokenB r l1) w := fun W x A2 c2 A3 c3 hok hb h2 h2c h3 h3c => by
  have hc' : W.cell? ⟨B, 0, none⟩ = some (.slice A1 l1.length c1) := (hb.cell (p := ⟨B, 0, none⟩) hB).trans hc
  have H := Aside0.mk (fun (W' : World) (hb' : Below W.heap.size W W') => broken_ok x.f0 x.f1 A2 c2 x.f2 A3 c3 x.f3 A1 c1 l1 W' (Kd.C_below h2c hb') h2 (Kd.C_below h3c hb') h3 (Kd.C_below hr1 (hb.trans (hb'.mono hb.size))) hc1 hok.1 hok.2.1 hok.2.2.1 hok.2.2.2)
  have hBW : B < W.heap.size := Nat.lt_of_lt_of_le hB hb.size
  have hne : (B = W.heap.size) = False := eq_false (by omega)
  clear hr1 hc1 h2 h2c h3 h3c hok
  have HB0 := Aside0.mk (Below.refl W.heap.size W)
  show Calls Try.prog 72 #[.agg #[.int .i64 x.f0, .int .i64 x.f1, .slice A2 x.f2.length c2, .slice A3 x.f3.length c3], .pointer (some ⟨B, 0, none⟩)] W _
  go_enter Try.func72, Try.ntmps72
  go_wp2_with (go_at_call 32; refine (H.out _ (by repeat (first | exact HB0.out | apply a6 | apply a4 | apply a5))).mono ?_; rintro e w' ⟨rfl, hb'⟩; have HB' := Aside0.mk ((show Below W.heap.size W _ by repeat (first | exact HB0.out | apply a6 | apply a4 | apply a5)).trans (hb'.mono (Below.size (by repeat (first | exact HB0.out | apply a6 | apply a4 | apply a5))))); clear hb')
  go_ret
  exact ⟨rfl, HB'.out⟩
theorem first_ok (A0 : Option Addr) (c0 : Nat) (l0 : List S49) (A1 : Option Addr) (c1 : Nat) (l1 : List Int) (w : World) (hr0 : Kd.C k49 w A0 l0.length l0) (hr1 : Kd.C (Kd.int .i64) w A1 l1.length l1) (hc1 : l1.length ≤ c1) (hok : ∀ x ∈ l0, okR x) :
    Calls Try.prog 60 #[.slice A0 l0.length c0, .slice A1 l1.length c1] w fun e w' => e = .returned (.int .i64 (bQ (fun r => brokenB r l1) l0 0)) ∧ Below w.heap.size w w' := by
  have H := Aside0.mk (fun (W : World) (hb : Below w.heap.size w W) (hB : w.heap.size < W.heap.size) (hx : W.cell? ⟨w.heap.size, 0, none⟩ = some (.slice A1 l1.length c1)) => ft A0 c0 l0 72 #[.pointer (some ⟨w.heap.size, 0, none⟩)] okR _ (enters_of Try.func72 (by kernel_rfl) rfl) W (Kd.C_below hr0 hb) hok (first_pred W w.heap.size A1 c1 l1 (Kd.C_below hr1 hb) hc1 hB hx))
  clear hr0 hr1 hc1 hok
  have HB0 := Aside0.mk (Below.refl w.heap.size w)
  go_enter Try.func60, Try.ntmps60
  go_wp2_with (go_at_call 71; refine (H.out _ (by repeat (first | exact HB0.out | apply a6 | apply a4 | apply a5)) (by simp; try omega) (by simp)).mono ?_; rintro e w' ⟨rfl, hb'⟩; have HB' := Aside0.mk ((show Below w.heap.size w _ by repeat (first | exact HB0.out | apply a6 | apply a4 | apply a5)).trans (hb'.mono (Below.size (by repeat (first | exact HB0.out | apply a6 | apply a4 | apply a5))))); clear hb')
  go_ret
  exact ⟨rfl, HB'.out⟩
end SF
end Go.Proofs.Ytcbpkdemcdikaaa.X
namespace Go.Proofs.Ytcbpkdemcdikaaa.X
open Go.RowKit Go.Proofs.YtcbpkdemcdikaaaW.PrintWords Go.Proofs.YtcbpkdemcdikaaaW.PrintLast Go.Proofs.YtcbpkdemcdikaaaW.PrintMore
attribute [local go_sem] ay az aN aM ao ap aw ax
set_option linter.unusedVariables false
set_option linter.unusedSimpArgs false
namespace DF
open SF
def sol (bad : List Int → Bool) : List (List Int) → List Int → Option (List Int)
  | [], x => some x
  | d :: ds, x => d.findSome? fun v => if bad (x ++ [v]) then none else sol bad ds (x ++ [v])
def srch (bad : List Int → Bool) (ds : List (List Int)) (x : List Int) (j i : Nat) : Option (List Int) :=
  ((ds.getD j []).drop i).findSome? fun v => if bad (x.take j ++ [v]) then none else sol bad (ds.drop (j + 1)) (x.take j ++ [v])
def rest (bad : List Int → Bool) (ds : List (List Int)) (at_ x : List Int) : Nat → Option (List Int)
  | 0 => none
  | m + 1 => (srch bad ds x m (rd at_ (m : Int)).toNat).orElse fun _ => rest bad ds at_ x m
def full : List (List Int) → Nat
  | [] => 0
  | d :: ds => d.length * (1 + full ds) + 1
def left (ds : List (List Int)) (at_ : List Int) : Nat → Nat
  | 0 => 0
  | m + 1 => ((ds.getD m []).length - (rd at_ (m : Int)).toNat) * (1 + full (ds.drop (m + 1))) + 1 + left ds at_ m
theorem dO (bad : List Int → Bool) (ds : List (List Int)) (a b x y : List Int) : ∀ (m : Nat), (∀ j, j < m → rd a (j : Int) = rd b (j : Int)) → (∀ j, j < m → x.take j = y.take j) → rest bad ds a x m = rest bad ds b y m
  | 0, _, _ => rfl
  | m + 1, h1, h2 => by
    unfold rest srch
    rw [h1 m (by omega), h2 m (by omega), dO bad ds a b x y m (fun j hj => h1 j (by omega)) (fun j hj => h2 j (by omega))]
theorem dQ (ds : List (List Int)) (a b : List Int) : ∀ (m : Nat), (∀ j, j < m → rd a (j : Int) = rd b (j : Int)) → left ds a m = left ds b m
  | 0, _ => rfl
  | m + 1, h1 => by
    unfold left
    rw [h1 m (by omega), dQ ds a b m (fun j hj => h1 j (by omega))]
theorem rd_take (l : List Int) (k j : Nat) (h : j < k) : rd (l.take k) (j : Int) = rd l (j : Int) := by
  simp only [rd, Int.toNat_natCast, List.getD, List.getElem?_take]
  rw [if_pos h]
theorem fY (l : List Int) (k j : Nat) (v : Int) (h : j ≠ k) : rd (l.set k v) (j : Int) = rd l (j : Int) := by
  simp only [rd, Int.toNat_natCast, List.getD]
  rw [List.getElem?_set_ne (by omega)]
theorem fG (l : List Int) (k : Nat) (v : Int) (h : k < l.length) : rd (l.set k v) (k : Int) = v := by
  simp [rd, List.getD, h]
theorem fM (l : List Int) (v : Int) (j : Nat) (h : j < l.length) : rd (l ++ [v]) (j : Int) = rd l (j : Int) := by
  simp only [rd, Int.toNat_natCast, List.getD]
  rw [List.getElem?_append_left h]
theorem fP (l : List Int) (v : Int) : rd (l ++ [v]) ((l.length : Nat) : Int) = v := by
  simp [rd, List.getD]
section
variable {bad : List Int → Bool} {ds : List (List Int)} {a x : List Int} {k : Nat}
theorem start_ok (h : 0 < ds.length) : rest bad ds [0] [] 1 = sol bad ds [] := by
  cases ds with
  | nil => simp at h
  | cons d ds =>
    simp only [rest, srch, sol]
    simp [rd]
theorem rest_pop (hi : (rd a (k : Int)).toNat = (ds.getD k []).length) : rest bad ds a x (k + 1) = rest bad ds (a.take k) (x.take k) k := by
  have e : srch bad ds x k (rd a (k : Int)).toNat = none := by
    unfold srch
    rw [hi, List.drop_length]
    rfl
  show (srch bad ds x k (rd a (k : Int)).toNat).orElse _ = _
  rw [e]
  exact dO bad ds _ _ _ _ k (fun j hj => (rd_take a k j hj).symm) (fun j hj => by rw [List.take_take, Nat.min_eq_left (by omega)])
theorem left_pop (hi : (rd a (k : Int)).toNat = (ds.getD k []).length) : left ds a (k + 1) = 1 + left ds (a.take k) k := by
  unfold left
  rw [hi, Nat.sub_self, Nat.zero_mul, Nat.zero_add, dQ ds a (a.take k) k (fun j hj => (rd_take a k j hj).symm)]
  cases k <;> rfl
variable {i : Nat} {v : Int}
theorem take_app_le (l : List Int) (v : Int) (j : Nat) (h : j ≤ l.length) : (l ++ [v]).take j = l.take j := List.take_append_of_le_length h
theorem srch_cons (hi : i < (ds.getD k []).length) (hv : rd (ds.getD k []) (i : Int) = v) : srch bad ds x k i = if bad (x.take k ++ [v]) then srch bad ds x k (i + 1) else (sol bad (ds.drop (k + 1)) (x.take k ++ [v])).orElse fun _ => srch bad ds x k (i + 1) := by
  have e : rd (ds.getD k []) (i : Int) = (ds.getD k [])[i] := by
    unfold rd
    rw [Int.toNat_natCast, List.getD_eq_getElem?_getD, List.getElem?_eq_getElem hi]
    rfl
  rw [e] at hv
  unfold srch
  rw [List.drop_eq_getElem_cons hi, List.findSome?_cons, hv]
  cases bad (x.take k ++ [v]) with
  | true => rfl
  | false =>
    cases sol bad (ds.drop (k + 1)) (x.take k ++ [v]) <;> rfl
theorem srch_congr (y : List Int) (h : x.take k = y.take k) : srch bad ds x k i = srch bad ds y k i := by
  unfold srch; rw [h]
theorem rest_step (hk : a.length = k + 1) (hx : k ≤ x.length) (ha : rd a (k : Int) = (i : Int)) (hi : i < (ds.getD k []).length) (hv : rd (ds.getD k []) (i : Int) = v) :
    rest bad ds a x (k + 1) = if bad (x.take k ++ [v]) then rest bad ds (a.set k ((i : Int) + 1)) (x.take k ++ [v]) (k + 1)
      else (sol bad (ds.drop (k + 1)) (x.take k ++ [v])).orElse fun _ => rest bad ds (a.set k ((i : Int) + 1)) (x.take k ++ [v]) (k + 1) := by
  have hlen : (x.take k).length = k := by rw [List.length_take]; omega
  have hxt : ∀ j, j ≤ k → (x.take k ++ [v]).take j = x.take j := fun j hj => by
    rw [take_app_le _ _ _ (by omega), List.take_take, Nat.min_eq_left hj]
  have e1 : rest bad ds a x k = rest bad ds (a.set k ((i : Int) + 1)) (x.take k ++ [v]) k :=
    dO bad ds _ _ _ _ k (fun j hj => (fY a k j _ (by omega)).symm) (fun j hj => (hxt j (by omega)).symm)
  have e2 : rest bad ds (a.set k ((i : Int) + 1)) (x.take k ++ [v]) (k + 1) = (srch bad ds x k (i + 1)).orElse fun _ => rest bad ds a x k := by
    show (srch bad ds (x.take k ++ [v]) k (rd (a.set k ((i : Int) + 1)) (k : Int)).toNat).orElse _ = _
    rw [fG a k _ (by omega), show ((i : Int) + 1).toNat = i + 1 by omega, ← e1, srch_congr x (hxt k (Nat.le_refl _))]
  show (srch bad ds x k (rd a (k : Int)).toNat).orElse _ = _
  rw [ha, Int.toNat_natCast, srch_cons hi hv, e2]
  cases bad (x.take k ++ [v]) with
  | true => rfl
  | false =>
    simp only [Bool.false_eq_true, if_false]
    cases sol bad (ds.drop (k + 1)) (x.take k ++ [v]) <;> rfl
theorem left_step (hk : a.length = k + 1) (ha : rd a (k : Int) = (i : Int)) (hi : i < (ds.getD k []).length) : left ds a (k + 1) = 1 + full (ds.drop (k + 1)) + left ds (a.set k ((i : Int) + 1)) (k + 1) := by
  have e1 : left ds a k = left ds (a.set k ((i : Int) + 1)) k := dQ ds _ _ k (fun j hj => (fY a k j _ (by omega)).symm)
  unfold left
  rw [fG a k _ (by omega), ha, e1, show ((i : Int) + 1).toNat = i + 1 by omega, Int.toNat_natCast]
  have : (ds.getD k []).length - i = ((ds.getD k []).length - (i + 1)) + 1 := by omega
  rw [this, Nat.succ_mul]
  have h0 : left ds (a.set k ((i : Int) + 1)) k = left ds (a.set k ((i : Int) + 1)) k := rfl
  cases k <;> simp only [left] <;> omega
theorem rest_in (hk : a.length = k + 1) (hx : x.length = k + 1) (hd : k + 1 < ds.length) : (sol bad (ds.drop (k + 1)) x).orElse (fun _ => rest bad ds a x (k + 1)) = rest bad ds (a ++ [0]) x (k + 1 + 1) := by
  have e1 : rest bad ds a x (k + 1) = rest bad ds (a ++ [0]) x (k + 1) := dO bad ds _ _ _ _ (k + 1) (fun j hj => (fM a 0 j (by omega)).symm) (fun j hj => rfl)
  have hr : rd (a ++ [0]) ((k + 1 : Nat) : Int) = 0 := by rw [← hk]; exact fP a 0
  show _ = (srch bad ds x (k + 1) (rd (a ++ [0]) ((k + 1 : Nat) : Int)).toNat).orElse _
  rw [hr, ← e1]
  have e : sol bad (ds.drop (k + 1)) x = srch bad ds x (k + 1) 0 := by
    unfold srch
    rw [List.drop_eq_getElem_cons hd, List.drop_zero, List.take_of_length_le (by omega)]
    have : ds.getD (k + 1) [] = ds[k + 1] := by simp [List.getD, List.getElem?_eq_getElem hd]
    rw [this]
    rfl
  rw [e]
  rfl
theorem left_in (hk : a.length = k + 1) (hd : k + 1 < ds.length) : left ds (a ++ [0]) (k + 1 + 1) = full (ds.drop (k + 1)) + left ds a (k + 1) := by
  have e1 : left ds a (k + 1) = left ds (a ++ [0]) (k + 1) := dQ ds _ _ (k + 1) (fun j hj => (fM a 0 j (by omega)).symm)
  have hr : rd (a ++ [0]) ((k + 1 : Nat) : Int) = 0 := by rw [← hk]; exact fP a 0
  rw [e1]
  show ((ds.getD (k + 1) []).length - (rd (a ++ [0]) ((k + 1 : Nat) : Int)).toNat) * (1 + full (ds.drop (k + 1 + 1))) + 1 + left ds (a ++ [0]) (k + 1) = _
  rw [hr, List.drop_eq_getElem_cons hd]
  have : ds.getD (k + 1) [] = ds[k + 1] := by simp [List.getD, List.getElem?_eq_getElem hd]
  rw [this]
  simp only [full]
  have : ds[k + 1].length - (0 : Int).toNat = ds[k + 1].length := by simp
  rw [this]
theorem sol_end (hd : k + 1 = ds.length) : sol bad (ds.drop (k + 1)) x = some x := by
  rw [List.drop_eq_nil_of_le (by omega)]
  rfl
end
end DF
end Go.Proofs.Ytcbpkdemcdikaaa.X
namespace Go.Proofs.Ytcbpkdemcdikaaa.X
open Go.RowKit Go.Proofs.YtcbpkdemcdikaaaW.PrintWords Go.Proofs.YtcbpkdemcdikaaaW.PrintLast Go.Proofs.YtcbpkdemcdikaaaW.PrintMore
attribute [local go_sem] ay az aN aM ao ap aw ax   
set_option linter.unusedVariables false
set_option linter.unusedSimpArgs false
def slices_BinarySearch_int_int.l0 : Nat → List Int → Int → Int → Int → Int → Option (Int × Bool)
 | 0, _, _, _, _, _ => none
 | k + 1, x0, x1, x6, x7, x8 => if x7 < x8 then (if 0 ≤ (wrap64 ((IntKind.u64.wrap (wrap64 (x7 + x8))) / 2)) then (if (wrap64 ((IntKind.u64.wrap (wrap64 (x7 + x8))) / 2)) < (x0.length : Int) then ((cmp_Less_int.f (rd x0 (wrap64 ((IntKind.u64.wrap (wrap64 (x7 + x8))) / 2))) x1).bind fun t116 => (if t116 = true then (slices_BinarySearch_int_int.l0 k x0 x1 x6 (wrap64 ((wrap64 ((IntKind.u64.wrap (wrap64 (x7 + x8))) / 2)) + 1)) x8) else (slices_BinarySearch_int_int.l0 k x0 x1 x6 x7 (wrap64 ((IntKind.u64.wrap (wrap64 (x7 + x8))) / 2))))) else (none)) else (none)) else (if x7 < x6 then (if 0 ≤ x7 then (if x7 < (x0.length : Int) then (if (rd x0 x7) = x1 then (some (x7, true)) else ((slices_isNaN_int.f (rd x0 x7)).bind fun t119 => (if t119 = true then ((slices_isNaN_int.f x1).bind fun t120 => (some (x7, t120))) else (some (x7, false))))) else (none)) else (none)) else (some (x7, false)))
def slices_BinarySearch_int_int.f (k : Nat) (l0 : List Int) (a1 : Int) : Option (Int × Bool) := slices_BinarySearch_int_int.l0 k l0 a1 (l0.length : Int) 0 (l0.length : Int)
set_option maxHeartbeats 8000000 in
set_option maxRecDepth 100000 in
theorem slices_BinarySearch_int_int.calls (k : Nat) (A0 : Option Addr) (c0 : Nat) (l0 : List Int) (a1 : Int) (r1 : Int) (r2 : Bool) (w : World) (hr0 : Kd.C (Kd.int .i64) w A0 l0.length l0) (hc0 : l0.length ≤ c0) (h : slices_BinarySearch_int_int.f k l0 a1 = some (r1, r2)) :
  Calls Try.prog 31 #[.slice A0 l0.length c0, .int .i64 a1] w fun e w' => e = .returned (.tuple #[.int .i64 r1, .bool r2]) ∧ Drawn0 w w' := by
 have HR0 := Aside0.mk hr0
 have HC0 := Aside0.mk hc0
 clear hr0 hc0
 have H : (slices_BinarySearch_int_int.l0 k l0 a1 (l0.length : Int) 0 (l0.length : Int)) = some (r1, r2) := h
 clear h
 have H' := Aside0.mk H
 clear H
 go_enter Try.func31, Try.ntmps31
 go_wp2
 go_loopg [7, 8] k (fun kq v7 v8 w' => ∃ (x7_1 : Int) (x8_1 : Int), v7 = .int .i64 x7_1 ∧ v8 = .int .i64 x8_1 ∧ Aside0 (slices_BinarySearch_int_int.l0 kq l0 a1 (l0.length : Int) x7_1 x8_1 = some (r1, r2)) ∧ Aside0 (kq ≤ k) ∧ Drawn0 w w')
 case atStart => exact ⟨(0), ((l0.length : Int)), (by first | rfl | (simp; done) | (simp [*]; done)), (by first | rfl | (simp; done) | (simp [*]; done)), H', ⟨Nat.le_refl _⟩, by repeat (first | exact Drawn0.refl _ | apply Drawn0.step)⟩
 case round =>
  clear H'
  try clear p2
  obtain ⟨x7_1, x8_1, rfl, rfl, HA, HK1, ⟨m1, rfl⟩⟩ := hrel
  cases gk with
  | zero => exact absurd HA.out (by simp [slices_BinarySearch_int_int.l0])
  | succ k1 =>
   have H := HA.out
   clear HA
   simp only [slices_BinarySearch_int_int.l0] at H
   by_cases c3 : x7_1 < x8_1
   ·rw [if_pos c3] at H
    have c3b0 : decide (x7_1 < x8_1) = true := decide_eq_true c3
    clear c3
    obtain ⟨ji4, hji4⟩ : ∃ j_ : Int, (wrap64 ((IntKind.u64.wrap (wrap64 (x7_1 + x8_1))) / 2)) = j_ := ⟨_, rfl⟩
    replace H : (if 0 ≤ (ji4) then (if (ji4) < (l0.length : Int) then ((cmp_Less_int.f (rd l0 (ji4)) a1).bind fun t116 => (if t116 = true then (slices_BinarySearch_int_int.l0 k1 l0 a1 (l0.length : Int) (wrap64 ((ji4) + 1)) x8_1) else (slices_BinarySearch_int_int.l0 k1 l0 a1 (l0.length : Int) x7_1 ji4))) else (none)) else (none)) = some (r1, r2) := by first | (rw [hji4] at H; exact H) | (simp only [hji4] at H ⊢; exact H)
    have hji4w : (IntKind.i64.wrap ((IntKind.u64.wrap (wrap64 (x7_1 + x8_1))) / 2)) = ji4 := (aq _).trans hji4
    by_cases c5 : 0 ≤ (ji4)
    ·rw [if_pos c5] at H
     have c5b0 : decide (0 ≤ (ji4)) = true := decide_eq_true c5
     clear c5
     by_cases c6 : (ji4) < (l0.length : Int)
     ·rw [if_pos c6] at H
      have c6b0 : decide ((ji4) < (l0.length : Int)) = true := decide_eq_true c6
      clear c6
      replace H := Option.bind_eq_some_iff.mp H
      obtain ⟨t116, A70, H⟩ := H
      replace H : (if t116 = true then (slices_BinarySearch_int_int.l0 k1 l0 a1 (l0.length : Int) (wrap64 ((ji4) + 1)) x8_1) else (slices_BinarySearch_int_int.l0 k1 l0 a1 (l0.length : Int) x7_1 ji4)) = some (r1, r2) := H
      have A7 := Aside0.mk A70
      clear A70
      by_cases c8 : t116 = true
      ·subst c8
       have H1 : (slices_BinarySearch_int_int.l0 k1 l0 a1 (l0.length : Int) (wrap64 ((ji4) + 1)) x8_1) = some (r1, r2) := by rw [if_pos rfl] at H; exact H
       clear H
       have H := H1
       clear H1
       have H' := Aside0.mk H
       clear H
       have p115 : 0 ≤ ((ji4) : Int) := of_decide_eq_true (by first | (with_reducible assumption) | assumption)
       have q115 : (ji4) < (l0.length : Int) := of_decide_eq_true (by first | (with_reducible assumption) | assumption)
       obtain ⟨ad115, e115, hx115_0⟩ := Kd.at_int HR0.out (ji4) p115 q115
       cases e115
       replace p115 := eq_true p115
       replace q115 := eq_true q115
       go_wp2_with (first | ((with_reducible refine aE (f := 48) rfl ?_); refine bw (some 27) rfl rfl Try.func48 (by kernel_rfl) rfl #[.int .i64 (rd l0 (ji4)), .int .i64 a1] rfl (by (try simp only [List.map_toArray, List.map_cons, List.map_nil]); first | done | (simp only [hji4]; rfl) | rfl | (simp only [List.length_drop, List.length_take]; rfl)) ?_; (with_reducible refine (cmp_Less_int.calls (rd l0 (ji4)) a1 true _ A7.out).mono ?_); rintro e w' ⟨rfl, ⟨nd, rfl⟩⟩; refine ⟨_, rfl, ?_⟩))
       go_roundg k1
       case measure => have := HK1.out; omega
       case rel => exact ⟨(wrap64 ((ji4) + 1)), (x8_1), (by first | rfl | (simp; done) | (simp only [← hji4] <;> (first | rfl | simp)) | (simp [*]; done)), (by first | rfl | (simp; done) | (simp [*]; done)), H', ⟨by have := HK1.out; omega⟩, by repeat (first | exact Drawn0.refl _ | apply Drawn0.step)⟩
      ·replace c8 := Bool.eq_false_iff.mpr c8
       subst c8
       have H1 : (slices_BinarySearch_int_int.l0 k1 l0 a1 (l0.length : Int) x7_1 ji4) = some (r1, r2) := by rw [if_neg (show ¬ (false = true) by decide)] at H; exact H
       clear H
       have H := H1
       clear H1
       have H' := Aside0.mk H
       clear H
       have p115 : 0 ≤ ((ji4) : Int) := of_decide_eq_true (by first | (with_reducible assumption) | assumption)
       have q115 : (ji4) < (l0.length : Int) := of_decide_eq_true (by first | (with_reducible assumption) | assumption)
       obtain ⟨ad115, e115, hx115_0⟩ := Kd.at_int HR0.out (ji4) p115 q115
       cases e115
       replace p115 := eq_true p115
       replace q115 := eq_true q115
       go_wp2_with (first | ((with_reducible refine aE (f := 48) rfl ?_); refine bw (some 27) rfl rfl Try.func48 (by kernel_rfl) rfl #[.int .i64 (rd l0 (ji4)), .int .i64 a1] rfl (by (try simp only [List.map_toArray, List.map_cons, List.map_nil]); first | done | (simp only [hji4]; rfl) | rfl | (simp only [List.length_drop, List.length_take]; rfl)) ?_; (with_reducible refine (cmp_Less_int.calls (rd l0 (ji4)) a1 false _ A7.out).mono ?_); rintro e w' ⟨rfl, ⟨nd, rfl⟩⟩; refine ⟨_, rfl, ?_⟩))
       go_roundg k1
       case measure => have := HK1.out; omega
       case rel => exact ⟨(x7_1), (ji4), (by first | rfl | (simp; done) | (simp [*]; done)), (by first | rfl | (simp; done) | (simp only [← hji4] <;> (first | rfl | simp)) | (simp [*]; done)), H', ⟨by have := HK1.out; omega⟩, by repeat (first | exact Drawn0.refl _ | apply Drawn0.step)⟩
     ·rw [if_neg c6] at H
      exact absurd H (by simp)
    ·rw [if_neg c5] at H
     exact absurd H (by simp)
   ·rw [if_neg c3] at H
    have c3b0 : decide (x7_1 < x8_1) = false := decide_eq_false c3
    clear c3
    by_cases c9 : x7_1 < (l0.length : Int)
    ·rw [if_pos c9] at H
     have c9b0 : decide (x7_1 < (l0.length : Int)) = true := decide_eq_true c9
     clear c9
     by_cases c10 : 0 ≤ x7_1
     ·rw [if_pos c10] at H
      have c10b0 : decide (0 ≤ x7_1) = true := decide_eq_true c10
      clear c10
      by_cases c11 : x7_1 < (l0.length : Int)
      ·rw [if_pos c11] at H
       have c11b0 : decide (x7_1 < (l0.length : Int)) = true := decide_eq_true c11
       clear c11
       by_cases c12 : (rd l0 x7_1) = a1
       ·rw [if_pos c12] at H
        have c12b0 : ((rd l0 x7_1) == a1) = true := beq_iff_eq.mpr c12
        have c12b1 : ((rd l0 x7_1) != a1) = false := bne_eq_false_iff_eq.mpr c12
        clear c12
        simp only [Option.some.injEq, Prod.mk.injEq] at H
        obtain ⟨rfl, rfl⟩ := H
        have p117 : 0 ≤ (x7_1 : Int) := of_decide_eq_true (by first | (with_reducible assumption) | assumption)
        have q117 : x7_1 < (l0.length : Int) := of_decide_eq_true (by first | (with_reducible assumption) | assumption)
        obtain ⟨ad117, e117, hx117_0⟩ := Kd.at_int HR0.out x7_1 p117 q117
        cases e117
        replace p117 := eq_true p117
        replace q117 := eq_true q117
        go_wp2
        go_ret2
        exact ⟨by first | rfl | (simp; done) | (simp [*]; done), by repeat (first | exact Drawn0.refl _ | apply Drawn0.step)⟩
       ·rw [if_neg c12] at H
        have c12b0 : ((rd l0 x7_1) == a1) = false := beq_eq_false_iff_ne.mpr c12
        have c12b1 : ((rd l0 x7_1) != a1) = true := bne_iff_ne.mpr c12
        replace H := Option.bind_eq_some_iff.mp H
        obtain ⟨t119, A130, H⟩ := H
        replace H : (if t119 = true then ((slices_isNaN_int.f a1).bind fun t120 => (some (x7_1, t120))) else (some (x7_1, false))) = some (r1, r2) := H
        have A13 := Aside0.mk A130
        clear A130
        by_cases c14 : t119 = true
        ·subst c14
         have H1 : ((slices_isNaN_int.f a1).bind fun t120 => (some (x7_1, t120))) = some (r1, r2) := by rw [if_pos rfl] at H; exact H
         clear H
         have H := H1
         clear H1
         replace H := Option.bind_eq_some_iff.mp H
         obtain ⟨t120, A150, H⟩ := H
         replace H : (some (x7_1, t120)) = some (r1, r2) := H
         have A15 := Aside0.mk A150
         clear A150
         simp only [Option.some.injEq, Prod.mk.injEq] at H
         obtain ⟨rfl, rfl⟩ := H
         have p117 : 0 ≤ (x7_1 : Int) := of_decide_eq_true (by first | (with_reducible assumption) | assumption)
         have q117 : x7_1 < (l0.length : Int) := of_decide_eq_true (by first | (with_reducible assumption) | assumption)
         obtain ⟨ad117, e117, hx117_0⟩ := Kd.at_int HR0.out x7_1 p117 q117
         cases e117
         replace p117 := eq_true p117
         replace q117 := eq_true q117
         have p118 : 0 ≤ (x7_1 : Int) := of_decide_eq_true (by first | (with_reducible assumption) | assumption)
         have q118 : x7_1 < (l0.length : Int) := of_decide_eq_true (by first | (with_reducible assumption) | assumption)
         obtain ⟨ad118, e118, hx118_0⟩ := Kd.at_int HR0.out x7_1 p118 q118
         obtain rfl : ad117 = ad118 := (by injection e118)
         replace p118 := eq_true p118
         replace q118 := eq_true q118
         go_wp2_with (first | (go_at_call 49; (with_reducible refine (slices_isNaN_int.calls (rd l0 x7_1) true _ A13.out).mono ?_); rintro e w' ⟨rfl, ⟨nd, rfl⟩⟩) | (go_at_call 49; (with_reducible refine (slices_isNaN_int.calls a1 t120 _ A15.out).mono ?_); rintro e w' ⟨rfl, ⟨nd, rfl⟩⟩))
         go_ret2
         exact ⟨by first | rfl | (simp; done) | (simp [*]; done), by repeat (first | exact Drawn0.refl _ | apply Drawn0.step)⟩
        ·replace c14 := Bool.eq_false_iff.mpr c14
         subst c14
         have H1 : (some (x7_1, false)) = some (r1, r2) := by rw [if_neg (show ¬ (false = true) by decide)] at H; exact H
         clear H
         have H := H1
         clear H1
         simp only [Option.some.injEq, Prod.mk.injEq] at H
         obtain ⟨rfl, rfl⟩ := H
         have p117 : 0 ≤ (x7_1 : Int) := of_decide_eq_true (by first | (with_reducible assumption) | assumption)
         have q117 : x7_1 < (l0.length : Int) := of_decide_eq_true (by first | (with_reducible assumption) | assumption)
         obtain ⟨ad117, e117, hx117_0⟩ := Kd.at_int HR0.out x7_1 p117 q117
         cases e117
         replace p117 := eq_true p117
         replace q117 := eq_true q117
         have p118 : 0 ≤ (x7_1 : Int) := of_decide_eq_true (by first | (with_reducible assumption) | assumption)
         have q118 : x7_1 < (l0.length : Int) := of_decide_eq_true (by first | (with_reducible assumption) | assumption)
         obtain ⟨ad118, e118, hx118_0⟩ := Kd.at_int HR0.out x7_1 p118 q118
         obtain rfl : ad117 = ad118 := (by injection e118)
         replace p118 := eq_true p118
         replace q118 := eq_true q118
         go_wp2_with (first | (go_at_call 49; (with_reducible refine (slices_isNaN_int.calls (rd l0 x7_1) false _ A13.out).mono ?_); rintro e w' ⟨rfl, ⟨nd, rfl⟩⟩))
         go_ret2
         exact ⟨by first | rfl | (simp; done) | (simp [*]; done), by repeat (first | exact Drawn0.refl _ | apply Drawn0.step)⟩
      ·rw [if_neg c11] at H
       exact absurd H (by simp)
     ·rw [if_neg c10] at H
      exact absurd H (by simp)
    ·rw [if_neg c9] at H
     have c9b0 : decide (x7_1 < (l0.length : Int)) = false := decide_eq_false c9
     clear c9
     simp only [Option.some.injEq, Prod.mk.injEq] at H
     obtain ⟨rfl, rfl⟩ := H
     go_wp2
     go_ret2
     exact ⟨by first | rfl | (simp; done) | (simp [*]; done), by repeat (first | exact Drawn0.refl _ | apply Drawn0.step)⟩
def search_broken.f (cH : Int) (a0_1 : Int) (l0_2 : List Int) (l0_3 : List (List Int)) (l1 : List Int) : Option (Bool) := if SF.okB ⟨cH, a0_1, l0_2, l0_3⟩ then some (SF.brokenB ⟨cH, a0_1, l0_2, l0_3⟩ l1) else none
theorem search_broken.calls (cH : Int) (a0_1 : Int) (A0_2 : Option Addr) (c0_2 : Nat) (l0_2 : List Int) (A0_3 : Option Addr) (c0_3 : Nat) (l0_3 : List (List Int)) (A1 : Option Addr) (c1 : Nat) (l1 : List Int) (r : Bool) (w : World) (hr0_2 : Kd.C (Kd.int .i64) w A0_2 l0_2.length l0_2) (hc0_2 : l0_2.length ≤ c0_2) (hr0_3 : Kd.C (Kd.slice 3 (Kd.int .i64)) w A0_3 l0_3.length l0_3) (hc0_3 : l0_3.length ≤ c0_3) (hr1 : Kd.C (Kd.int .i64) w A1 l1.length l1) (hc1 : l1.length ≤ c1) (h : search_broken.f cH a0_1 l0_2 l0_3 l1 = some r) :
  Calls Try.prog 32 #[.agg #[.int .i64 cH, .int .i64 a0_1, .slice A0_2 l0_2.length c0_2, .slice A0_3 l0_3.length c0_3], .slice A1 l1.length c1] w fun e w' => e = .returned (.bool r) ∧ Below w.heap.size w w' := by
 unfold search_broken.f at h
 by_cases hk : SF.okB ⟨cH, a0_1, l0_2, l0_3⟩ = true
 ·rw [if_pos hk] at h
  cases h
  have ho := SF.okB_R hk
  exact SF.broken_ok cH a0_1 A0_2 c0_2 l0_2 A0_3 c0_3 l0_3 A1 c1 l1 w hr0_2 hc0_2 hr0_3 hc0_3 hr1 hc1 ho.1 ho.2.1 ho.2.2.1 ho.2.2.2
 ·rw [if_neg hk] at h
  cases h
mutual
def search_Broken.l0 : Nat → List Int → List Int → List (List Int) → Int → Int → List (List Int) → List (S49) → Option (List Int × Int)
 | 0, _, _, _, _, _, _, _ => none
 | k + 1, x1, x4, x24, x25, x26, x122000, x122001 => if x26 < x25 then (if 0 ≤ x26 then (if x26 < (x24.length : Int) then (if x26 < (x1.length : Int) then ((slices_BinarySearch_int_int.f k (aJ x24 x26) (rd x1 x26)).bind fun bt125 => (if bt125.2 = true then (search_Broken.l0 k x1 x4 x24 x25 (wrap64 (x26 + 1)) x122000 x122001) else (some (([] : List Int), 1)))) else (none)) else (none)) else (none)) else (search_Broken.l1 k x1 x4 x122001 (x122001.length : Int) 0)
def search_Broken.l1 : Nat → List Int → List Int → List (S49) → Int → Int → Option (List Int × Int)
 | 0, _, _, _, _, _ => none
 | k + 1, x1, x4, x44, x45, x46 => if x46 < x45 then (if 0 ≤ x46 then (if x46 < (x44.length : Int) then ((search_broken.f ((ag x44 x46).f0) ((ag x44 x46).f1) ((ag x44 x46).f2) ((ag x44 x46).f3) x1).bind fun t129 => (if t129 = true then (if x4.length < 17592186044416 then (search_Broken.l1 k x1 (x4 ++ [x46]) x44 x45 (wrap64 (x46 + 1))) else (none)) else (search_Broken.l1 k x1 x4 x44 x45 (wrap64 (x46 + 1))))) else (none)) else (none)) else (some (x4, 0))
end
def search_Broken.f (k : Nat) (ai : List (List Int)) (af : List (S49)) (l1 : List Int) : Option (List Int × Int) := (search_Check.f k ai af).bind fun t122 => (if t122 = 0 then (if (l1.length : Int) = (ai.length : Int) then (search_Broken.l0 k l1 ([] : List Int) ai (ai.length : Int) 0 ai af) else (some (([] : List Int), 1))) else (some (([] : List Int), t122)))
set_option maxHeartbeats 8000000 in
set_option maxRecDepth 100000 in
theorem search_Broken.calls (k : Nat) (aC : Option Addr) (aA : Nat) (ai : List (List Int)) (aI : Option Addr) (au : Nat) (af : List (S49)) (A1 : Option Addr) (c1 : Nat) (l1 : List Int) (r1 : List Int) (r2 : Int) (w : World) (bA : Kd.C (Kd.slice 3 (Kd.int .i64)) w aC ai.length ai) (bJ : ai.length ≤ aA) (bx : Kd.C k49 w aI af.length af) (bC : af.length ≤ au) (hr1 : Kd.C (Kd.int .i64) w A1 l1.length l1) (hc1 : l1.length ≤ c1) (h : search_Broken.f k ai af l1 = some (r1, r2)) :
  Calls Try.prog 13 #[.agg #[.slice aC ai.length aA, .slice aI af.length au], .slice A1 l1.length c1] w fun e w' => ∃ v0_ : Value, e = .returned (.tuple #[v0_, .int .i64 r2]) ∧ Kd.R (Kd.int .i64) 3 w' w.heap.size (fun _ => True) v0_ r1 ∧ Below w.heap.size w w' := by
 have hu25 := Try.underlying25
 have hu49 := Try.underlying49
 have bz := Aside0.mk bA
 have bG := Aside0.mk bJ
 clear bA bJ
 have br := Aside0.mk bx
 have bF := Aside0.mk bC
 clear bx bC
 have HR1 := Aside0.mk hr1
 have HC1 := Aside0.mk hc1
 clear hr1 hc1
 have HB := Aside0.mk (Below.refl w.heap.size w)
 have H : ((search_Check.f k ai af).bind fun t122 => (if t122 = 0 then (if (l1.length : Int) = (ai.length : Int) then (search_Broken.l0 k l1 ([] : List Int) ai (ai.length : Int) 0 ai af) else (some (([] : List Int), 1))) else (some (([] : List Int), t122)))) = some (r1, r2) := h
 clear h
 replace H := Option.bind_eq_some_iff.mp H
 obtain ⟨t122, A30, H⟩ := H
 replace H : (if t122 = 0 then (if (l1.length : Int) = (ai.length : Int) then (search_Broken.l0 k l1 ([] : List Int) ai (ai.length : Int) 0 ai af) else (some (([] : List Int), 1))) else (some (([] : List Int), t122))) = some (r1, r2) := H
 have A3 := Aside0.mk A30
 clear A30
 by_cases c4 : t122 = 0
 ·rw [if_pos c4] at H
  have eb : (t122 == 0) = true := beq_iff_eq.mpr c4
  have c4b1 : (t122 != 0) = false := bne_eq_false_iff_eq.mpr c4
  clear c4
  by_cases c5 : (l1.length : Int) = (ai.length : Int)
  ·rw [if_pos c5] at H
   have c5b0 : ((l1.length : Int) == (ai.length : Int)) = true := beq_iff_eq.mpr c5
   have c5b1 : ((l1.length : Int) != (ai.length : Int)) = false := bne_eq_false_iff_eq.mpr c5
   have c5b2 : (l1.length == ai.length) = true := by first | simpa using c5 | (simp at c5 ⊢; omega)
   clear c5
   have H' := Aside0.mk H
   clear H
   go_enter Try.func13, Try.ntmps13
   go_wp2_with (first | ((with_reducible refine aK (N := 2) rfl ?_); refine av ?hg (N := 2) ?hd (cs := #[.slice aC ai.length aA, .slice aI af.length au]) (t := 25) ?hr ?_; (case hd => rfl); (case hg => rfl); (case hr => first | (go_simp; done) | (go_simp; rfl)); intro bD hg w6 hbox hb; have n0_ := Aside0.mk (aj (by repeat (first | (with_reducible first | exact HB.out | apply a6 | apply a4 | apply a5) | exact HB.out)) hb); have n1_ := Aside0.mk (hbox); have n2_ := Aside0.mk ((by rw [hg]; exact (ah (by repeat (first | (with_reducible first | exact HB.out | apply a6 | apply a4 | apply a5) | exact HB.out))) : w.heap.size ≤ bD)); have n3_ := Aside0.mk ((by rw [hg]; exact (ah (by repeat (first | (with_reducible first | exact HB.out | apply a6 | apply a4 | apply a5) | exact HB.out))) : w.heap.size ≤ bD)); clear HB; have HB := n0_; have bg := n1_; have GW121 := n2_; have ca := n3_; clear n0_ n1_ n2_ n3_; clear hb hbox hg; have hcz7_0 : w6.cell? ⟨bD, 0, none⟩ = some (.slice aC ai.length aA) := (a7 bg.out 0).trans rfl; have hcz7_1 : w6.cell? ⟨bD, 1, none⟩ = some (.slice aI af.length au) := (a7 bg.out 1).trans rfl; have hfz7_0 := a8 bg.out 0; have hfz7_1 := a8 bg.out 1) | ((with_reducible refine aE (f := 17) rfl ?_); refine bw (some 13) rfl rfl Try.func17 (by kernel_rfl) rfl #[.agg #[.slice aC ai.length aA, .slice aI af.length au]] rfl (by (try simp only [List.map_toArray, List.map_cons, List.map_nil]); first | done | rfl | (simp only [List.length_drop, List.length_take]; rfl)) ?_; (with_reducible refine (search_Check.calls k _ _ ai _ _ af t122 _ ?side1 ?side2 ?side3 ?side4 A3.out).mono ?_); (case side1 => repeat (first | exact (Kd.C_below bz.out HB.out) | (with_reducible refine Kd.C_alloc ?_ _) | (with_reducible refine Kd.C_drewN ?_ _) | (with_reducible refine Kd.C_drew ?_))); (case side2 => exact bG.out); (case side3 => repeat (first | exact (Kd.C_below br.out HB.out) | (with_reducible refine Kd.C_alloc ?_ _) | (with_reducible refine Kd.C_drewN ?_ _) | (with_reducible refine Kd.C_drew ?_))); (case side4 => exact bF.out); rintro e w8 ⟨rfl, hb⟩; refine ⟨_, rfl, ?_⟩; have n0_ := Aside0.mk (ae (g := bD) (o := .cells #[.slice aC ai.length aA, .slice aI af.length au] 25 (0, 0)) (by (with_reducible repeat (first | refine ab ?_ _ | refine ac ?_ | refine a9 ?_ _)); exact bg.out) hb); have n1_ := Aside0.mk (aj (by repeat (first | (with_reducible first | exact HB.out | apply a6 | apply a4 | apply a5 | refine aa ?_ ca.out) | exact HB.out)) hb); clear bg; clear HB; have bg := n0_; have HB := n1_; clear n0_ n1_; (try clear hb); (try clear hb2); (try clear hk); (try clear hi); have d7 : w8.cell? ⟨bD, 0, none⟩ = some (.slice aC ai.length aA) := (a7 bg.out 0).trans rfl; have d8 : w8.cell? ⟨bD, 1, none⟩ = some (.slice aI af.length au) := (a7 bg.out 1).trans rfl; have d9 := a8 bg.out 0; have da := a8 bg.out 1))
   go_loopg [4, 26] k (fun kq v4 v26 w' => ∃ (x4_1 : List Int) (x26_1 : Int), v26 = .int .i64 x26_1 ∧ Aside0 (search_Broken.l0 kq l1 x4_1 ai (ai.length : Int) x26_1 ai af = some (r1, r2)) ∧ Aside0 (kq ≤ k) ∧ Aside0 (Kd.R (Kd.int .i64) 3 w' w.heap.size (fun _ => True) v4 x4_1) ∧ Aside0 (w'.heap[bD]? = some (.cells #[(.slice aC ai.length aA), (.slice aI af.length au)] 25 (0, 0))) ∧ Aside0 (Below w.heap.size w w'))
   case atStart => exact ⟨(([] : List Int)), (0), (by first | rfl | (simp; done) | (simp [*]; done)), H', ⟨Nat.le_refl _⟩, ⟨by first | exact Kd.R_nil _ _ _ _ _ | exact Kd.N_nil _ _ _ _ _ | exact Kd.V_nil _ _ _ _ _ | exact Kd.Q_nil _ _ _ _ _ | exact Kd.S_nil _ _ _ _ _⟩, ⟨by (with_reducible repeat (first | refine ab ?_ _ | refine ac ?_ | refine a9 ?_ _)); exact bg.out⟩, ⟨by repeat (first | (with_reducible first | exact HB.out | apply a6 | apply a4 | apply a5 | refine aa ?_ ca.out) | exact HB.out)⟩⟩
   case round =>
    clear H'
    try clear c1; try clear p2; try clear c4; try clear eb; try clear c4b1; try clear c5; try clear c5b0; try clear c5b1; try clear c5b2; try clear hcz7_0; try clear hcz7_1; try clear d7; try clear d8; try clear hfz7_0; try clear hfz7_1; try clear d9; try clear da
    obtain ⟨x4_1, x26_1, rfl, HA, HK1, HO_4, bg, HB⟩ := hrel
    cases gk with
    | zero => exact absurd HA.out (by simp [search_Broken.l0])
    | succ k1 =>
     have H := HA.out
     clear HA
     simp only [search_Broken.l0] at H
     by_cases c10 : x26_1 < (ai.length : Int)
     ·rw [if_pos c10] at H
      have c10b0 : decide (x26_1 < (ai.length : Int)) = true := decide_eq_true c10
      clear c10
      by_cases c11 : 0 ≤ x26_1
      ·rw [if_pos c11] at H
       have c11b0 : decide (0 ≤ x26_1) = true := decide_eq_true c11
       clear c11
       by_cases c12 : x26_1 < (ai.length : Int)
       ·rw [if_pos c12] at H
        have c12b0 : decide (x26_1 < (ai.length : Int)) = true := decide_eq_true c12
        clear c12
        by_cases c13 : x26_1 < (l1.length : Int)
        ·rw [if_pos c13] at H
         have c13b0 : decide (x26_1 < (l1.length : Int)) = true := decide_eq_true c13
         clear c13
         replace H := Option.bind_eq_some_iff.mp H
         obtain ⟨⟨t125, t126⟩, A140, H⟩ := H
         replace H : (if t126 = true then (search_Broken.l0 k1 l1 x4_1 ai (ai.length : Int) (wrap64 (x26_1 + 1)) ai af) else (some (([] : List Int), 1))) = some (r1, r2) := H
         have A14 := Aside0.mk A140
         clear A140
         by_cases c15 : t126 = true
         ·subst c15
          have H1 : (search_Broken.l0 k1 l1 x4_1 ai (ai.length : Int) (wrap64 (x26_1 + 1)) ai af) = some (r1, r2) := by rw [if_pos rfl] at H; exact H
          clear H
          have H := H1
          clear H1
          have H' := Aside0.mk H
          clear H
          have p123 : 0 ≤ (x26_1 : Int) := of_decide_eq_true (by first | (with_reducible assumption) | assumption)
          have q123 : x26_1 < (ai.length : Int) := of_decide_eq_true (by first | (with_reducible assumption) | assumption)
          obtain ⟨ad123, A123_0, c123_0, e123, dL, gU, gV⟩ := f5 bz.out x26_1 p123 q123
          cases e123
          replace dL := (HB.out.cell (World.block_lt_of_cell? w _ dL)).trans dL
          have HR123_0 := Aside0.mk gV
          have HC123_0 := Aside0.mk gU
          clear gV gU
          replace p123 := eq_true p123
          replace q123 := eq_true q123
          have p124 : 0 ≤ (x26_1 : Int) := of_decide_eq_true (by first | (with_reducible assumption) | assumption)
          have q124 : x26_1 < (l1.length : Int) := of_decide_eq_true (by first | (with_reducible assumption) | assumption)
          obtain ⟨ad124, e124, dM⟩ := Kd.at_int HR1.out x26_1 p124 q124
          cases e124
          replace dM := (HB.out.cell (World.block_lt_of_cell? w _ dM)).trans dM
          replace p124 := eq_true p124
          replace q124 := eq_true q124
          go_wp2_with (first | ((with_reducible refine aE (f := 31) rfl ?_); refine bw (some 37) rfl rfl Try.func31 (by kernel_rfl) rfl #[.slice A123_0 (aJ ai x26_1).length c123_0, .int .i64 (rd l1 x26_1)] rfl (by (try simp only [List.map_toArray, List.map_cons, List.map_nil]); first | done | rfl | (simp only [List.length_drop, List.length_take]; rfl)) ?_; (with_reducible refine (slices_BinarySearch_int_int.calls k1 _ _ (aJ ai x26_1) (rd l1 x26_1) t125 true _ ?side1 ?side2 A14.out).mono ?_); (case side1 => repeat (first | exact (Kd.C_below HR123_0.out HB.out) | (with_reducible refine Kd.C_alloc ?_ _) | (with_reducible refine Kd.C_drewN ?_ _) | (with_reducible refine Kd.C_drew ?_))); (case side2 => exact HC123_0.out); rintro e w' ⟨rfl, ⟨nd, rfl⟩⟩; refine ⟨_, rfl, ?_⟩))
          go_roundg k1
          case measure => have := HK1.out; omega
          case rel => exact ⟨(x4_1), (wrap64 (x26_1 + 1)), (by first | rfl | (simp; done) | (simp [*]; done)), H', ⟨by have := HK1.out; omega⟩, ⟨by (with_reducible repeat (first | apply Kd.R_alloc | apply Kd.R_drewN | apply Kd.R_drew)); exact HO_4.out⟩, ⟨by (with_reducible repeat (first | refine ab ?_ _ | refine ac ?_ | refine a9 ?_ _)); exact bg.out⟩, ⟨by repeat (first | (with_reducible first | exact HB.out | apply a6 | apply a4 | apply a5 | refine aa ?_ ca.out) | exact HB.out)⟩⟩
         ·replace c15 := Bool.eq_false_iff.mpr c15
          subst c15
          have H1 : (some (([] : List Int), 1)) = some (r1, r2) := by rw [if_neg (show ¬ (false = true) by decide)] at H; exact H
          clear H
          have H := H1
          clear H1
          simp only [Option.some.injEq, Prod.mk.injEq] at H
          obtain ⟨rfl, rfl⟩ := H
          have p123 : 0 ≤ (x26_1 : Int) := of_decide_eq_true (by first | (with_reducible assumption) | assumption)
          have q123 : x26_1 < (ai.length : Int) := of_decide_eq_true (by first | (with_reducible assumption) | assumption)
          obtain ⟨ad123, A123_0, c123_0, e123, dL, gU, gV⟩ := f5 bz.out x26_1 p123 q123
          cases e123
          replace dL := (HB.out.cell (World.block_lt_of_cell? w _ dL)).trans dL
          have HR123_0 := Aside0.mk gV
          have HC123_0 := Aside0.mk gU
          clear gV gU
          replace p123 := eq_true p123
          replace q123 := eq_true q123
          have p124 : 0 ≤ (x26_1 : Int) := of_decide_eq_true (by first | (with_reducible assumption) | assumption)
          have q124 : x26_1 < (l1.length : Int) := of_decide_eq_true (by first | (with_reducible assumption) | assumption)
          obtain ⟨ad124, e124, dM⟩ := Kd.at_int HR1.out x26_1 p124 q124
          cases e124
          replace dM := (HB.out.cell (World.block_lt_of_cell? w _ dM)).trans dM
          replace p124 := eq_true p124
          replace q124 := eq_true q124
          go_wp2_with (first | ((with_reducible refine aE (f := 31) rfl ?_); refine bw (some 37) rfl rfl Try.func31 (by kernel_rfl) rfl #[.slice A123_0 (aJ ai x26_1).length c123_0, .int .i64 (rd l1 x26_1)] rfl (by (try simp only [List.map_toArray, List.map_cons, List.map_nil]); first | done | rfl | (simp only [List.length_drop, List.length_take]; rfl)) ?_; (with_reducible refine (slices_BinarySearch_int_int.calls k1 _ _ (aJ ai x26_1) (rd l1 x26_1) t125 false _ ?side1 ?side2 A14.out).mono ?_); (case side1 => repeat (first | exact (Kd.C_below HR123_0.out HB.out) | (with_reducible refine Kd.C_alloc ?_ _) | (with_reducible refine Kd.C_drewN ?_ _) | (with_reducible refine Kd.C_drew ?_))); (case side2 => exact HC123_0.out); rintro e w' ⟨rfl, ⟨nd, rfl⟩⟩; refine ⟨_, rfl, ?_⟩))
          go_ret2
          exact ⟨_, by first | rfl | (simp [al, ak] <;> rfl) | (simp [*, al, ak] <;> rfl), by first | exact Kd.R_nil _ _ _ _ _ | exact Kd.N_nil _ _ _ _ _ | exact Kd.V_nil _ _ _ _ _ | exact Kd.Q_nil _ _ _ _ _ | exact Kd.S_nil _ _ _ _ _, by repeat (first | (with_reducible first | exact HB.out | apply a6 | apply a4 | apply a5 | refine aa ?_ ca.out) | exact HB.out)⟩
        ·rw [if_neg c13] at H
         exact absurd H (by simp)
       ·rw [if_neg c12] at H
        exact absurd H (by simp)
      ·rw [if_neg c11] at H
       exact absurd H (by simp)
     ·rw [if_neg c10] at H
      have c10b0 : decide (x26_1 < (ai.length : Int)) = false := decide_eq_false c10
      clear c10
      have H' := Aside0.mk H
      clear H
      have hcz16_0 : wr.cell? ⟨bD, 0, none⟩ = some (.slice aC ai.length aA) := (a7 bg.out 0).trans rfl
      have hcz16_1 : wr.cell? ⟨bD, 1, none⟩ = some (.slice aI af.length au) := (a7 bg.out 1).trans rfl
      have hfz16_0 := a8 bg.out 0
      have hfz16_1 := a8 bg.out 1
      go_wp2
      go_loopg [4, 46] k1 (fun kq v4 v46 w' => ∃ (x4_2 : List Int) (x46_2 : Int), v46 = .int .i64 x46_2 ∧ Aside0 (search_Broken.l1 kq l1 x4_2 af (af.length : Int) x46_2 = some (r1, r2)) ∧ Aside0 (kq ≤ k1) ∧ Aside0 (Kd.R (Kd.int .i64) 3 w' w.heap.size (fun _ => True) v4 x4_2) ∧ Aside0 (w'.heap[bD]? = some (.cells #[(.slice aC ai.length aA), (.slice aI af.length au)] 25 (0, 0))) ∧ Aside0 (Below w.heap.size w w'))
      case atStart => exact ⟨(x4_1), (0), (by first | rfl | (simp; done) | (simp [*]; done)), H', ⟨Nat.le_refl _⟩, ⟨by (with_reducible repeat (first | apply Kd.R_alloc | apply Kd.R_drewN | apply Kd.R_drew)); exact HO_4.out⟩, ⟨by (with_reducible repeat (first | refine ab ?_ _ | refine ac ?_ | refine a9 ?_ _)); exact bg.out⟩, ⟨by repeat (first | (with_reducible first | exact HB.out | apply a6 | apply a4 | apply a5 | refine aa ?_ ca.out) | exact HB.out)⟩⟩
      case round =>
       clear H'
       try clear c1; try clear p1; try clear q1; try clear hx1; try clear p2; try clear c3; try clear c4; try clear eb; try clear c4b1; try clear c5; try clear c5b0; try clear c5b1; try clear c5b2; try clear p6; try clear c10; try clear c10b0; try clear c11; try clear c11b0; try clear c12; try clear c12b0; try clear p12; try clear q12; try clear hx12; try clear c13; try clear c13b0; try clear c15; try clear hcz16_0; try clear hcz16_1; try clear hcz7_0; try clear hcz7_1; try clear d7; try clear d8; try clear hfz16_0; try clear hfz16_1; try clear hfz7_0; try clear hfz7_1; try clear d9; try clear da; try clear dL; try clear dM; try clear p123; try clear p124; try clear q123; try clear q124
       obtain ⟨x4_2, x46_2, rfl, HA, HK2, HO_4, bg, HB⟩ := hrel
       cases gk with
       | zero => exact absurd HA.out (by simp [search_Broken.l1])
       | succ k2 =>
        have H := HA.out
        clear HA
        simp only [search_Broken.l1] at H
        by_cases c17 : x46_2 < (af.length : Int)
        ·rw [if_pos c17] at H
         have c17b0 : decide (x46_2 < (af.length : Int)) = true := decide_eq_true c17
         clear c17
         by_cases c18 : 0 ≤ x46_2
         ·rw [if_pos c18] at H
          have c18b0 : decide (0 ≤ x46_2) = true := decide_eq_true c18
          clear c18
          by_cases c19 : x46_2 < (af.length : Int)
          ·rw [if_pos c19] at H
           have c19b0 : decide (x46_2 < (af.length : Int)) = true := decide_eq_true c19
           clear c19
           replace H := Option.bind_eq_some_iff.mp H
           obtain ⟨t129, A200, H⟩ := H
           replace H : (if t129 = true then (if x4_2.length < 17592186044416 then (search_Broken.l1 k2 l1 (x4_2 ++ [x46_2]) af (af.length : Int) (wrap64 (x46_2 + 1))) else (none)) else (search_Broken.l1 k2 l1 x4_2 af (af.length : Int) (wrap64 (x46_2 + 1)))) = some (r1, r2) := H
           have A20 := Aside0.mk A200
           clear A200
           by_cases c21 : t129 = true
           ·subst c21
            have H1 : (if x4_2.length < 17592186044416 then (search_Broken.l1 k2 l1 (x4_2 ++ [x46_2]) af (af.length : Int) (wrap64 (x46_2 + 1))) else (none)) = some (r1, r2) := by rw [if_pos rfl] at H; exact H
            clear H
            have H := H1
            clear H1
            by_cases c22 : x4_2.length < 17592186044416
            ·rw [if_pos c22] at H
             have LMc22 := Aside0.mk c22
             clear c22
             obtain ⟨y130, hy130⟩ : ∃ y_ : List Int, y_ = (x4_2 ++ [x46_2]) := ⟨_, rfl⟩
             replace H : (search_Broken.l1 k2 l1 y130 af (af.length : Int) (wrap64 (x46_2 + 1))) = some (r1, r2) := by first | (rw [hy130]; with_reducible exact H) | (have H2_ := (Option.bind_some _ _).symm.trans H; rw [hy130]; with_reducible exact H2_) | (have H2_ := (Option.bind_some _ _).symm.trans H; with_reducible exact H2_) | with_reducible exact H | (rw [hy130]; exact H) | exact H
             have Ny130 := Aside0.mk hy130
             clear hy130
             have H' := Aside0.mk H
             clear H
             have p127 : 0 ≤ (x46_2 : Int) := of_decide_eq_true (by first | (with_reducible assumption) | assumption)
             have q127 : x46_2 < (af.length : Int) := of_decide_eq_true (by first | (with_reducible assumption) | assumption)
             obtain ⟨ad127, dW, dX, fo, fp, e127, eB, eC, eD, eE, gW, gX, gY, gZ⟩ := dH br.out x46_2 p127 q127
             cases e127
             replace eB := (HB.out.cell (World.block_lt_of_cell? w _ eB)).trans eB
             replace eC := (HB.out.cell (World.block_lt_of_cell? w _ eC)).trans eC
             replace eD := (HB.out.cell (World.block_lt_of_cell? w _ eD)).trans eD
             replace eE := (HB.out.cell (World.block_lt_of_cell? w _ eE)).trans eE
             have HR127_2 := Aside0.mk gX
             have HC127_2 := Aside0.mk gW
             clear gX gW
             have HR127_3 := Aside0.mk gZ
             have HC127_3 := Aside0.mk gY
             clear gZ gY
             replace p127 := eq_true p127
             replace q127 := eq_true q127
             go_wp2_with (first | ((with_reducible refine aK (N := 11) rfl ?_); refine av ?hg (N := 11) ?hd (cs := #[.int .i64 0, .int .i64 0, .slice none 0 0, .slice none 0 0]) (t := 49) ?hr ?_; (case hd => rfl); (case hg => rfl); (case hr => first | (go_simp; done) | (go_simp; rfl)); intro cm hg w23 hbox hb; have n0_ := Aside0.mk (Kd.R_below (by (with_reducible repeat (first | apply Kd.R_alloc | apply Kd.R_drewN | apply Kd.R_drew)); exact HO_4.out) hb); have n1_ := Aside0.mk (ae (g := bD) (o := .cells #[.slice aC ai.length aA, .slice (some ad127) af.length au] 25 (0, 0)) (by (with_reducible repeat (first | refine ab ?_ _ | refine ac ?_ | refine a9 ?_ _)); exact bg.out) hb); have n2_ := Aside0.mk (aj (by repeat (first | (with_reducible first | exact HB.out | apply a6 | apply a4 | apply a5 | refine aa ?_ ca.out) | exact HB.out)) hb); have n3_ := Aside0.mk (hbox); have n4_ := Aside0.mk ((by rw [hg]; exact (ah (by repeat (first | (with_reducible first | exact HB.out | apply a6 | apply a4 | apply a5 | refine aa ?_ ca.out) | exact HB.out))) : w.heap.size ≤ cm)); have n5_ := Aside0.mk ((by rw [hg]; exact (ah (by repeat (first | (with_reducible first | exact HB.out | apply a6 | apply a4 | apply a5 | refine aa ?_ ca.out) | exact HB.out))) : w.heap.size ≤ cm)); have n6_ := Aside0.mk ((by rw [hg]; exact Nat.ne_of_lt (aZ (g := bD) (o := .cells #[.slice aC ai.length aA, .slice (some ad127) af.length au] 25 (0, 0)) (by (with_reducible repeat (first | refine ab ?_ _ | refine ac ?_ | refine a9 ?_ _)); exact bg.out)) : bD ≠ cm)); have n7_ := Aside0.mk ((by rw [hg]; exact Nat.ne_of_gt (aZ (g := bD) (o := .cells #[.slice aC ai.length aA, .slice (some ad127) af.length au] 25 (0, 0)) (by (with_reducible repeat (first | refine ab ?_ _ | refine ac ?_ | refine a9 ?_ _)); exact bg.out)) : cm ≠ bD)); clear HO_4; clear bg; clear HB; have HO_4 := n0_; have bg := n1_; have HB := n2_; have cj := n3_; have GW128 := n4_; have fe := n5_; have NB121_128 := n6_; have NB128_121 := n7_; clear n0_ n1_ n2_ n3_ n4_ n5_ n6_ n7_; clear hb hbox hg; have hnb24 := NB128_121.out; have hnc24 := NB121_128.out; have hcz25_0 : w23.cell? ⟨cm, 0, none⟩ = some (.int .i64 0) := (a7 cj.out 0).trans rfl; have hcz25_1 : w23.cell? ⟨cm, 1, none⟩ = some (.int .i64 0) := (a7 cj.out 1).trans rfl; have hcz25_2 : w23.cell? ⟨cm, 2, none⟩ = some (.slice none 0 0) := (a7 cj.out 2).trans rfl; have hcz25_3 : w23.cell? ⟨cm, 3, none⟩ = some (.slice none 0 0) := (a7 cj.out 3).trans rfl; have hfz25_0 := a8 cj.out 0; have hfz25_1 := a8 cj.out 1; have hfz25_2 := a8 cj.out 2; have hfz25_3 := a8 cj.out 3) | ((with_reducible refine aE (f := 32) rfl ?_); refine bw (some 53) rfl rfl Try.func32 (by kernel_rfl) rfl #[.agg #[.int .i64 ((ag af x46_2).f0), .int .i64 ((ag af x46_2).f1), .slice dW ((ag af x46_2).f2).length dX, .slice fo ((ag af x46_2).f3).length fp], .slice A1 l1.length c1] rfl (by (try simp only [List.map_toArray, List.map_cons, List.map_nil]); first | done | rfl | (simp only [List.length_drop, List.length_take]; rfl)) ?_; (with_reducible refine (search_broken.calls ((ag af x46_2).f0) ((ag af x46_2).f1) _ _ ((ag af x46_2).f2) _ _ ((ag af x46_2).f3) _ _ l1 true _ ?side1 ?side2 ?side3 ?side4 ?side5 ?side6 A20.out).mono ?_); (case side1 => exact Kd.C_below HR127_2.out (by repeat (first | (with_reducible first | exact HB.out | apply a6 | apply a4 | apply a5 | refine aa ?_ ca.out | refine aa ?_ fe.out) | exact HB.out))); (case side2 => exact HC127_2.out); (case side3 => exact Kd.C_below HR127_3.out (by repeat (first | (with_reducible first | exact HB.out | apply a6 | apply a4 | apply a5 | refine aa ?_ ca.out | refine aa ?_ fe.out) | exact HB.out))); (case side4 => exact HC127_3.out); (case side5 => exact Kd.C_below HR1.out (by repeat (first | (with_reducible first | exact HB.out | apply a6 | apply a4 | apply a5 | refine aa ?_ ca.out | refine aa ?_ fe.out) | exact HB.out))); (case side6 => exact HC1.out); rintro e w26 ⟨rfl, hb⟩; refine ⟨_, rfl, ?_⟩; have n0_ := Aside0.mk (Kd.R_below (by (with_reducible repeat (first | apply Kd.R_alloc | apply Kd.R_drewN | apply Kd.R_drew)); exact (Kd.R_mono (Kd.R_far (p := ⟨cm, 3, none⟩) (Kd.R_far (p := ⟨cm, 2, none⟩) (Kd.R_far (p := ⟨cm, 1, none⟩) (Kd.R_far (p := ⟨cm, 0, none⟩) (Kd.R_types HO_4.out cj.out (by decide)) (fun _ hk => hk.2) (.int .i64 ((ag af x46_2).f0))) (fun _ hk => hk.2) (.int .i64 ((ag af x46_2).f1))) (fun _ hk => hk.2) (.slice dW ((ag af x46_2).f2).length dX)) (fun _ hk => hk.2) (.slice fo ((ag af x46_2).f3).length fp)) (fun _ h_ => h_.1))) hb); have n1_ := Aside0.mk (ae (g := bD) (o := .cells #[.slice aC ai.length aA, .slice (some ad127) af.length au] 25 (0, 0)) (by (with_reducible repeat (first | refine ab ?_ _ | refine ac ?_ | refine a9 ?_ _)); refine aU ?_ NB121_128.out _; (with_reducible repeat (first | refine ab ?_ _ | refine ac ?_ | refine a9 ?_ _)); refine aU ?_ NB121_128.out _; (with_reducible repeat (first | refine ab ?_ _ | refine ac ?_ | refine a9 ?_ _)); refine aU ?_ NB121_128.out _; (with_reducible repeat (first | refine ab ?_ _ | refine ac ?_ | refine a9 ?_ _)); refine aU ?_ NB121_128.out _; (with_reducible repeat (first | refine ab ?_ _ | refine ac ?_ | refine a9 ?_ _)); exact bg.out) hb); have n2_ := Aside0.mk (ae (g := cm) (o := .cells #[.int .i64 ((ag af x46_2).f0), .int .i64 ((ag af x46_2).f1), .slice dW ((ag af x46_2).f2).length dX, .slice fo ((ag af x46_2).f3).length fp] 49 (0, 0)) (by (with_reducible repeat (first | refine ab ?_ _ | refine ac ?_ | refine a9 ?_ _)); refine aT (cs := #[.int .i64 ((ag af x46_2).f0), .int .i64 ((ag af x46_2).f1), .slice dW ((ag af x46_2).f2).length dX, .slice none 0 0]) ?_ 3 _ rfl; (with_reducible repeat (first | refine ab ?_ _ | refine ac ?_ | refine a9 ?_ _)); refine aT (cs := #[.int .i64 ((ag af x46_2).f0), .int .i64 ((ag af x46_2).f1), .slice none 0 0, .slice none 0 0]) ?_ 2 _ rfl; (with_reducible repeat (first | refine ab ?_ _ | refine ac ?_ | refine a9 ?_ _)); refine aT (cs := #[.int .i64 ((ag af x46_2).f0), .int .i64 0, .slice none 0 0, .slice none 0 0]) ?_ 1 _ rfl; (with_reducible repeat (first | refine ab ?_ _ | refine ac ?_ | refine a9 ?_ _)); refine aT (cs := #[.int .i64 0, .int .i64 0, .slice none 0 0, .slice none 0 0]) ?_ 0 _ rfl; (with_reducible repeat (first | refine ab ?_ _ | refine ac ?_ | refine a9 ?_ _)); exact cj.out) hb); have n3_ := Aside0.mk (aj (by repeat (first | (with_reducible first | exact HB.out | apply a6 | apply a4 | apply a5 | refine aa ?_ ca.out | refine aa ?_ fe.out) | exact HB.out)) hb); clear HO_4; clear bg; clear cj; clear HB; have HO_4 := n0_; have bg := n1_; have cj := n2_; have HB := n3_; clear n0_ n1_ n2_ n3_; (try clear hb); (try clear hb2); (try clear hk); (try clear hi)) | ((with_reducible refine cA (b := .append) (xs := #[.tmp 54, .tmp 56]) rfl ?_); at_builtin; refine Kd.R_append (Kd.int .i64) (w0 := w) w.heap.size rfl (.tmp 54) (.tmp 56) 26 3 (.int .i64 0) 8 rfl Try.underlying26 info3 rfl (by decide) (by omega) u4 x4_2 x46_2 [.int .i64 x46_2] (fun _ => True) (fun _ => False) rfl rfl ?aP (fun _ hk => hk.elim) ?aF ?aO ?aB ?aS ?aL ?_; (case aP => exact rfl); (case aB => exact (by repeat (first | (with_reducible first | exact HB.out | apply a6 | apply a4 | apply a5 | refine aa ?_ ca.out | refine aa ?_ fe.out) | exact HB.out))); (case aF => exact (fun _ _ => trivial)); (case aO => exact (by (with_reducible repeat (first | apply Kd.R_alloc | apply Kd.R_drewN | apply Kd.R_drew)); exact HO_4.out)); (case aS => exact (ah (by repeat (first | (with_reducible first | exact HB.out | apply a6 | apply a4 | apply a5 | refine aa ?_ ca.out | refine aa ?_ fe.out) | exact HB.out)))); (case aL => have := LMc22.out; omega); intro v131 w27 ho hb hg hat; rw [← Ny130.out] at ho; have n0_ := Aside0.mk (dB (g := bD) (o := .cells #[.slice aC ai.length aA, .slice (some ad127) af.length au] 25 (0, 0)) (by (with_reducible repeat (first | refine ab ?_ _ | refine ac ?_ | refine a9 ?_ _)); exact bg.out) hg (Kd.R_ne HO_4.out bg.out (by decide))); have n1_ := Aside0.mk (dB (g := cm) (o := .cells #[.int .i64 ((ag af x46_2).f0), .int .i64 ((ag af x46_2).f1), .slice dW ((ag af x46_2).f2).length dX, .slice fo ((ag af x46_2).f3).length fp] 49 (0, 0)) (by (with_reducible repeat (first | refine ab ?_ _ | refine ac ?_ | refine a9 ?_ _)); exact cj.out) hg (Kd.R_ne HO_4.out cj.out (by decide))); have n2_ := Aside0.mk (hb); have n3_ := Aside0.mk (ho); clear bg; clear cj; clear HB; clear HO_4; have bg := n0_; have cj := n1_; have HB := n2_; have HO132 := n3_; clear n0_ n1_ n2_ n3_; clear ho hb hg hat))
             go_roundg k2
             case measure => have := HK1.out; have := HK2.out; omega
             case rel => exact ⟨(y130), (wrap64 (x46_2 + 1)), (by first | rfl | (simp; done) | (simp [*]; done)), H', ⟨by have := HK1.out; have := HK2.out; omega⟩, ⟨by (with_reducible repeat (first | apply Kd.R_alloc | apply Kd.R_drewN | apply Kd.R_drew)); exact HO132.out⟩, ⟨by (with_reducible repeat (first | refine ab ?_ _ | refine ac ?_ | refine a9 ?_ _)); exact bg.out⟩, ⟨by repeat (first | (with_reducible first | exact HB.out | apply a6 | apply a4 | apply a5 | refine aa ?_ ca.out | refine aa ?_ fe.out) | exact HB.out)⟩⟩
            ·rw [if_neg c22] at H
             exact absurd H (by simp)
           ·replace c21 := Bool.eq_false_iff.mpr c21
            subst c21
            have H1 : (search_Broken.l1 k2 l1 x4_2 af (af.length : Int) (wrap64 (x46_2 + 1))) = some (r1, r2) := by rw [if_neg (show ¬ (false = true) by decide)] at H; exact H
            clear H
            have H := H1
            clear H1
            have H' := Aside0.mk H
            clear H
            have p127 : 0 ≤ (x46_2 : Int) := of_decide_eq_true (by first | (with_reducible assumption) | assumption)
            have q127 : x46_2 < (af.length : Int) := of_decide_eq_true (by first | (with_reducible assumption) | assumption)
            obtain ⟨ad127, dW, dX, fo, fp, e127, eB, eC, eD, eE, gW, gX, gY, gZ⟩ := dH br.out x46_2 p127 q127
            cases e127
            replace eB := (HB.out.cell (World.block_lt_of_cell? w _ eB)).trans eB
            replace eC := (HB.out.cell (World.block_lt_of_cell? w _ eC)).trans eC
            replace eD := (HB.out.cell (World.block_lt_of_cell? w _ eD)).trans eD
            replace eE := (HB.out.cell (World.block_lt_of_cell? w _ eE)).trans eE
            have HR127_2 := Aside0.mk gX
            have HC127_2 := Aside0.mk gW
            clear gX gW
            have HR127_3 := Aside0.mk gZ
            have HC127_3 := Aside0.mk gY
            clear gZ gY
            replace p127 := eq_true p127
            replace q127 := eq_true q127
            go_wp2_with (first | ((with_reducible refine aK (N := 11) rfl ?_); refine av ?hg (N := 11) ?hd (cs := #[.int .i64 0, .int .i64 0, .slice none 0 0, .slice none 0 0]) (t := 49) ?hr ?_; (case hd => rfl); (case hg => rfl); (case hr => first | (go_simp; done) | (go_simp; rfl)); intro cm hg w28 hbox hb; have n0_ := Aside0.mk (Kd.R_below (by (with_reducible repeat (first | apply Kd.R_alloc | apply Kd.R_drewN | apply Kd.R_drew)); exact HO_4.out) hb); have n1_ := Aside0.mk (ae (g := bD) (o := .cells #[.slice aC ai.length aA, .slice (some ad127) af.length au] 25 (0, 0)) (by (with_reducible repeat (first | refine ab ?_ _ | refine ac ?_ | refine a9 ?_ _)); exact bg.out) hb); have n2_ := Aside0.mk (aj (by repeat (first | (with_reducible first | exact HB.out | apply a6 | apply a4 | apply a5 | refine aa ?_ ca.out) | exact HB.out)) hb); have n3_ := Aside0.mk (hbox); have n4_ := Aside0.mk ((by rw [hg]; exact (ah (by repeat (first | (with_reducible first | exact HB.out | apply a6 | apply a4 | apply a5 | refine aa ?_ ca.out) | exact HB.out))) : w.heap.size ≤ cm)); have n5_ := Aside0.mk ((by rw [hg]; exact (ah (by repeat (first | (with_reducible first | exact HB.out | apply a6 | apply a4 | apply a5 | refine aa ?_ ca.out) | exact HB.out))) : w.heap.size ≤ cm)); have n6_ := Aside0.mk ((by rw [hg]; exact Nat.ne_of_lt (aZ (g := bD) (o := .cells #[.slice aC ai.length aA, .slice (some ad127) af.length au] 25 (0, 0)) (by (with_reducible repeat (first | refine ab ?_ _ | refine ac ?_ | refine a9 ?_ _)); exact bg.out)) : bD ≠ cm)); have n7_ := Aside0.mk ((by rw [hg]; exact Nat.ne_of_gt (aZ (g := bD) (o := .cells #[.slice aC ai.length aA, .slice (some ad127) af.length au] 25 (0, 0)) (by (with_reducible repeat (first | refine ab ?_ _ | refine ac ?_ | refine a9 ?_ _)); exact bg.out)) : cm ≠ bD)); clear HO_4; clear bg; clear HB; have HO_4 := n0_; have bg := n1_; have HB := n2_; have cj := n3_; have GW128 := n4_; have fe := n5_; have NB121_128 := n6_; have NB128_121 := n7_; clear n0_ n1_ n2_ n3_ n4_ n5_ n6_ n7_; clear hb hbox hg; have hnb29 := NB128_121.out; have hnc29 := NB121_128.out; have hcz30_0 : w28.cell? ⟨cm, 0, none⟩ = some (.int .i64 0) := (a7 cj.out 0).trans rfl; have hcz30_1 : w28.cell? ⟨cm, 1, none⟩ = some (.int .i64 0) := (a7 cj.out 1).trans rfl; have hcz30_2 : w28.cell? ⟨cm, 2, none⟩ = some (.slice none 0 0) := (a7 cj.out 2).trans rfl; have hcz30_3 : w28.cell? ⟨cm, 3, none⟩ = some (.slice none 0 0) := (a7 cj.out 3).trans rfl; have hfz30_0 := a8 cj.out 0; have hfz30_1 := a8 cj.out 1; have hfz30_2 := a8 cj.out 2; have hfz30_3 := a8 cj.out 3) | ((with_reducible refine aE (f := 32) rfl ?_); refine bw (some 53) rfl rfl Try.func32 (by kernel_rfl) rfl #[.agg #[.int .i64 ((ag af x46_2).f0), .int .i64 ((ag af x46_2).f1), .slice dW ((ag af x46_2).f2).length dX, .slice fo ((ag af x46_2).f3).length fp], .slice A1 l1.length c1] rfl (by (try simp only [List.map_toArray, List.map_cons, List.map_nil]); first | done | rfl | (simp only [List.length_drop, List.length_take]; rfl)) ?_; (with_reducible refine (search_broken.calls ((ag af x46_2).f0) ((ag af x46_2).f1) _ _ ((ag af x46_2).f2) _ _ ((ag af x46_2).f3) _ _ l1 false _ ?side1 ?side2 ?side3 ?side4 ?side5 ?side6 A20.out).mono ?_); (case side1 => exact Kd.C_below HR127_2.out (by repeat (first | (with_reducible first | exact HB.out | apply a6 | apply a4 | apply a5 | refine aa ?_ ca.out | refine aa ?_ fe.out) | exact HB.out))); (case side2 => exact HC127_2.out); (case side3 => exact Kd.C_below HR127_3.out (by repeat (first | (with_reducible first | exact HB.out | apply a6 | apply a4 | apply a5 | refine aa ?_ ca.out | refine aa ?_ fe.out) | exact HB.out))); (case side4 => exact HC127_3.out); (case side5 => exact Kd.C_below HR1.out (by repeat (first | (with_reducible first | exact HB.out | apply a6 | apply a4 | apply a5 | refine aa ?_ ca.out | refine aa ?_ fe.out) | exact HB.out))); (case side6 => exact HC1.out); rintro e w31 ⟨rfl, hb⟩; refine ⟨_, rfl, ?_⟩; have n0_ := Aside0.mk (Kd.R_below (by (with_reducible repeat (first | apply Kd.R_alloc | apply Kd.R_drewN | apply Kd.R_drew)); exact (Kd.R_mono (Kd.R_far (p := ⟨cm, 3, none⟩) (Kd.R_far (p := ⟨cm, 2, none⟩) (Kd.R_far (p := ⟨cm, 1, none⟩) (Kd.R_far (p := ⟨cm, 0, none⟩) (Kd.R_types HO_4.out cj.out (by decide)) (fun _ hk => hk.2) (.int .i64 ((ag af x46_2).f0))) (fun _ hk => hk.2) (.int .i64 ((ag af x46_2).f1))) (fun _ hk => hk.2) (.slice dW ((ag af x46_2).f2).length dX)) (fun _ hk => hk.2) (.slice fo ((ag af x46_2).f3).length fp)) (fun _ h_ => h_.1))) hb); have n1_ := Aside0.mk (ae (g := bD) (o := .cells #[.slice aC ai.length aA, .slice (some ad127) af.length au] 25 (0, 0)) (by (with_reducible repeat (first | refine ab ?_ _ | refine ac ?_ | refine a9 ?_ _)); refine aU ?_ NB121_128.out _; (with_reducible repeat (first | refine ab ?_ _ | refine ac ?_ | refine a9 ?_ _)); refine aU ?_ NB121_128.out _; (with_reducible repeat (first | refine ab ?_ _ | refine ac ?_ | refine a9 ?_ _)); refine aU ?_ NB121_128.out _; (with_reducible repeat (first | refine ab ?_ _ | refine ac ?_ | refine a9 ?_ _)); refine aU ?_ NB121_128.out _; (with_reducible repeat (first | refine ab ?_ _ | refine ac ?_ | refine a9 ?_ _)); exact bg.out) hb); have n2_ := Aside0.mk (ae (g := cm) (o := .cells #[.int .i64 ((ag af x46_2).f0), .int .i64 ((ag af x46_2).f1), .slice dW ((ag af x46_2).f2).length dX, .slice fo ((ag af x46_2).f3).length fp] 49 (0, 0)) (by (with_reducible repeat (first | refine ab ?_ _ | refine ac ?_ | refine a9 ?_ _)); refine aT (cs := #[.int .i64 ((ag af x46_2).f0), .int .i64 ((ag af x46_2).f1), .slice dW ((ag af x46_2).f2).length dX, .slice none 0 0]) ?_ 3 _ rfl; (with_reducible repeat (first | refine ab ?_ _ | refine ac ?_ | refine a9 ?_ _)); refine aT (cs := #[.int .i64 ((ag af x46_2).f0), .int .i64 ((ag af x46_2).f1), .slice none 0 0, .slice none 0 0]) ?_ 2 _ rfl; (with_reducible repeat (first | refine ab ?_ _ | refine ac ?_ | refine a9 ?_ _)); refine aT (cs := #[.int .i64 ((ag af x46_2).f0), .int .i64 0, .slice none 0 0, .slice none 0 0]) ?_ 1 _ rfl; (with_reducible repeat (first | refine ab ?_ _ | refine ac ?_ | refine a9 ?_ _)); refine aT (cs := #[.int .i64 0, .int .i64 0, .slice none 0 0, .slice none 0 0]) ?_ 0 _ rfl; (with_reducible repeat (first | refine ab ?_ _ | refine ac ?_ | refine a9 ?_ _)); exact cj.out) hb); have n3_ := Aside0.mk (aj (by repeat (first | (with_reducible first | exact HB.out | apply a6 | apply a4 | apply a5 | refine aa ?_ ca.out | refine aa ?_ fe.out) | exact HB.out)) hb); clear HO_4; clear bg; clear cj; clear HB; have HO_4 := n0_; have bg := n1_; have cj := n2_; have HB := n3_; clear n0_ n1_ n2_ n3_; (try clear hb); (try clear hb2); (try clear hk); (try clear hi)))
            go_roundg k2
            case measure => have := HK1.out; have := HK2.out; omega
            case rel => exact ⟨(x4_2), (wrap64 (x46_2 + 1)), (by first | rfl | (simp; done) | (simp [*]; done)), H', ⟨by have := HK1.out; have := HK2.out; omega⟩, ⟨by (with_reducible repeat (first | apply Kd.R_alloc | apply Kd.R_drewN | apply Kd.R_drew)); exact HO_4.out⟩, ⟨by (with_reducible repeat (first | refine ab ?_ _ | refine ac ?_ | refine a9 ?_ _)); exact bg.out⟩, ⟨by repeat (first | (with_reducible first | exact HB.out | apply a6 | apply a4 | apply a5 | refine aa ?_ ca.out | refine aa ?_ fe.out) | exact HB.out)⟩⟩
          ·rw [if_neg c19] at H
           exact absurd H (by simp)
         ·rw [if_neg c18] at H
          exact absurd H (by simp)
        ·rw [if_neg c17] at H
         have c17b0 : decide (x46_2 < (af.length : Int)) = false := decide_eq_false c17
         clear c17
         simp only [Option.some.injEq, Prod.mk.injEq] at H
         obtain ⟨rfl, rfl⟩ := H
         go_wp2
         go_ret2
         exact ⟨_, by first | rfl | (simp [al, ak] <;> rfl) | (simp [*, al, ak] <;> rfl), by (with_reducible repeat (first | apply Kd.R_alloc | apply Kd.R_drewN | apply Kd.R_drew)); exact HO_4.out, by repeat (first | (with_reducible first | exact HB.out | apply a6 | apply a4 | apply a5 | refine aa ?_ ca.out) | exact HB.out)⟩
  ·rw [if_neg c5] at H
   have c5b0 : ((l1.length : Int) == (ai.length : Int)) = false := beq_eq_false_iff_ne.mpr c5
   have c5b1 : ((l1.length : Int) != (ai.length : Int)) = true := bne_iff_ne.mpr c5
   have c5b2 : (l1.length == ai.length) = false := by first | simpa using c5 | (simp at c5 ⊢; omega)
   simp only [Option.some.injEq, Prod.mk.injEq] at H
   obtain ⟨rfl, rfl⟩ := H
   go_enter Try.func13, Try.ntmps13
   go_wp2_with (first | ((with_reducible refine aK (N := 2) rfl ?_); refine av ?hg (N := 2) ?hd (cs := #[.slice aC ai.length aA, .slice aI af.length au]) (t := 25) ?hr ?_; (case hd => rfl); (case hg => rfl); (case hr => first | (go_simp; done) | (go_simp; rfl)); intro bD hg w32 hbox hb; have n0_ := Aside0.mk (aj (by repeat (first | (with_reducible first | exact HB.out | apply a6 | apply a4 | apply a5) | exact HB.out)) hb); have n1_ := Aside0.mk (hbox); have n2_ := Aside0.mk ((by rw [hg]; exact (ah (by repeat (first | (with_reducible first | exact HB.out | apply a6 | apply a4 | apply a5) | exact HB.out))) : w.heap.size ≤ bD)); have n3_ := Aside0.mk ((by rw [hg]; exact (ah (by repeat (first | (with_reducible first | exact HB.out | apply a6 | apply a4 | apply a5) | exact HB.out))) : w.heap.size ≤ bD)); clear HB; have HB := n0_; have bg := n1_; have GW121 := n2_; have ca := n3_; clear n0_ n1_ n2_ n3_; clear hb hbox hg; have hcz33_0 : w32.cell? ⟨bD, 0, none⟩ = some (.slice aC ai.length aA) := (a7 bg.out 0).trans rfl; have hcz33_1 : w32.cell? ⟨bD, 1, none⟩ = some (.slice aI af.length au) := (a7 bg.out 1).trans rfl; have hfz33_0 := a8 bg.out 0; have hfz33_1 := a8 bg.out 1) | ((with_reducible refine aE (f := 17) rfl ?_); refine bw (some 13) rfl rfl Try.func17 (by kernel_rfl) rfl #[.agg #[.slice aC ai.length aA, .slice aI af.length au]] rfl (by (try simp only [List.map_toArray, List.map_cons, List.map_nil]); first | done | rfl | (simp only [List.length_drop, List.length_take]; rfl)) ?_; (with_reducible refine (search_Check.calls k _ _ ai _ _ af t122 _ ?side1 ?side2 ?side3 ?side4 A3.out).mono ?_); (case side1 => repeat (first | exact (Kd.C_below bz.out HB.out) | (with_reducible refine Kd.C_alloc ?_ _) | (with_reducible refine Kd.C_drewN ?_ _) | (with_reducible refine Kd.C_drew ?_))); (case side2 => exact bG.out); (case side3 => repeat (first | exact (Kd.C_below br.out HB.out) | (with_reducible refine Kd.C_alloc ?_ _) | (with_reducible refine Kd.C_drewN ?_ _) | (with_reducible refine Kd.C_drew ?_))); (case side4 => exact bF.out); rintro e w34 ⟨rfl, hb⟩; refine ⟨_, rfl, ?_⟩; have n0_ := Aside0.mk (ae (g := bD) (o := .cells #[.slice aC ai.length aA, .slice aI af.length au] 25 (0, 0)) (by (with_reducible repeat (first | refine ab ?_ _ | refine ac ?_ | refine a9 ?_ _)); exact bg.out) hb); have n1_ := Aside0.mk (aj (by repeat (first | (with_reducible first | exact HB.out | apply a6 | apply a4 | apply a5 | refine aa ?_ ca.out) | exact HB.out)) hb); clear bg; clear HB; have bg := n0_; have HB := n1_; clear n0_ n1_; (try clear hb); (try clear hb2); (try clear hk); (try clear hi); have hcz35_0 : w34.cell? ⟨bD, 0, none⟩ = some (.slice aC ai.length aA) := (a7 bg.out 0).trans rfl; have hcz35_1 : w34.cell? ⟨bD, 1, none⟩ = some (.slice aI af.length au) := (a7 bg.out 1).trans rfl; have hfz35_0 := a8 bg.out 0; have hfz35_1 := a8 bg.out 1))
   go_ret2
   exact ⟨_, by first | rfl | (simp [al, ak] <;> rfl) | (simp [*, al, ak] <;> rfl), by first | exact Kd.R_nil _ _ _ _ _ | exact Kd.N_nil _ _ _ _ _ | exact Kd.V_nil _ _ _ _ _ | exact Kd.Q_nil _ _ _ _ _ | exact Kd.S_nil _ _ _ _ _, by repeat (first | (with_reducible first | exact HB.out | apply a6 | apply a4 | apply a5 | refine aa ?_ ca.out) | exact HB.out)⟩
 ·rw [if_neg c4] at H
  have eb : (t122 == 0) = false := beq_eq_false_iff_ne.mpr c4
  have c4b1 : (t122 != 0) = true := bne_iff_ne.mpr c4
  simp only [Option.some.injEq, Prod.mk.injEq] at H
  obtain ⟨rfl, rfl⟩ := H
  go_enter Try.func13, Try.ntmps13
  go_wp2_with (first | ((with_reducible refine aK (N := 2) rfl ?_); refine av ?hg (N := 2) ?hd (cs := #[.slice aC ai.length aA, .slice aI af.length au]) (t := 25) ?hr ?_; (case hd => rfl); (case hg => rfl); (case hr => first | (go_simp; done) | (go_simp; rfl)); intro bD hg w36 hbox hb; have n0_ := Aside0.mk (aj (by repeat (first | (with_reducible first | exact HB.out | apply a6 | apply a4 | apply a5) | exact HB.out)) hb); have n1_ := Aside0.mk (hbox); have n2_ := Aside0.mk ((by rw [hg]; exact (ah (by repeat (first | (with_reducible first | exact HB.out | apply a6 | apply a4 | apply a5) | exact HB.out))) : w.heap.size ≤ bD)); have n3_ := Aside0.mk ((by rw [hg]; exact (ah (by repeat (first | (with_reducible first | exact HB.out | apply a6 | apply a4 | apply a5) | exact HB.out))) : w.heap.size ≤ bD)); clear HB; have HB := n0_; have bg := n1_; have GW121 := n2_; have ca := n3_; clear n0_ n1_ n2_ n3_; clear hb hbox hg; have hcz37_0 : w36.cell? ⟨bD, 0, none⟩ = some (.slice aC ai.length aA) := (a7 bg.out 0).trans rfl; have hcz37_1 : w36.cell? ⟨bD, 1, none⟩ = some (.slice aI af.length au) := (a7 bg.out 1).trans rfl; have hfz37_0 := a8 bg.out 0; have hfz37_1 := a8 bg.out 1) | ((with_reducible refine aE (f := 17) rfl ?_); refine bw (some 13) rfl rfl Try.func17 (by kernel_rfl) rfl #[.agg #[.slice aC ai.length aA, .slice aI af.length au]] rfl (by (try simp only [List.map_toArray, List.map_cons, List.map_nil]); first | done | rfl | (simp only [List.length_drop, List.length_take]; rfl)) ?_; (with_reducible refine (search_Check.calls k _ _ ai _ _ af t122 _ ?side1 ?side2 ?side3 ?side4 A3.out).mono ?_); (case side1 => repeat (first | exact (Kd.C_below bz.out HB.out) | (with_reducible refine Kd.C_alloc ?_ _) | (with_reducible refine Kd.C_drewN ?_ _) | (with_reducible refine Kd.C_drew ?_))); (case side2 => exact bG.out); (case side3 => repeat (first | exact (Kd.C_below br.out HB.out) | (with_reducible refine Kd.C_alloc ?_ _) | (with_reducible refine Kd.C_drewN ?_ _) | (with_reducible refine Kd.C_drew ?_))); (case side4 => exact bF.out); rintro e w38 ⟨rfl, hb⟩; refine ⟨_, rfl, ?_⟩; have n0_ := Aside0.mk (ae (g := bD) (o := .cells #[.slice aC ai.length aA, .slice aI af.length au] 25 (0, 0)) (by (with_reducible repeat (first | refine ab ?_ _ | refine ac ?_ | refine a9 ?_ _)); exact bg.out) hb); have n1_ := Aside0.mk (aj (by repeat (first | (with_reducible first | exact HB.out | apply a6 | apply a4 | apply a5 | refine aa ?_ ca.out) | exact HB.out)) hb); clear bg; clear HB; have bg := n0_; have HB := n1_; clear n0_ n1_; (try clear hb); (try clear hb2); (try clear hk); (try clear hi)))
  go_ret2
  exact ⟨_, by first | rfl | (simp [al, ak] <;> rfl) | (simp [*, al, ak] <;> rfl), by first | exact Kd.R_nil _ _ _ _ _ | exact Kd.N_nil _ _ _ _ _ | exact Kd.V_nil _ _ _ _ _ | exact Kd.Q_nil _ _ _ _ _ | exact Kd.S_nil _ _ _ _ _, by repeat (first | (with_reducible first | exact HB.out | apply a6 | apply a4 | apply a5 | refine aa ?_ ca.out) | exact HB.out)⟩
end Go.Proofs.Ytcbpkdemcdikaaa.X
