/- Proved here: parts of the walk and of the plain law of SearchKinds, put into one text (names and lines made short by a program). -/
import Derived.Test.YtcbpkdemcdikaaaSearchKindsD
import Derived.Test.YtcbpkdemcdikaaaSearchKindsJ
import Derived.Shelf.Abstract
import Derived.Laws.EntriesVeiled
import Derived.Lib.SliceRun
namespace Go.Proofs.Ytcbpkdemcdikaaa.X
open Go.RowKit Go.Proofs.YtcbpkdemcdikaaaW.PrintWords Go.Proofs.YtcbpkdemcdikaaaW.PrintLast Go.Proofs.YtcbpkdemcdikaaaW.PrintMore
attribute [local go_sem] ay az aN aM ao ap aw ax
set_option linter.unusedVariables false
set_option linter.unusedSimpArgs false
namespace DD
open SF
set_option maxHeartbeats 8000000
theorem cut_past {P : Program} (t e : TypeId) (kl kh : IntKind) {i : TypeInfo} (ht : P.underlying t = some (.slice e)) (hi : P.info? e = some i) (size : Nat) (hsz : i.size = size) (A : Option Addr) (n c : Nat) (lo hi' : Int) (h0 : 0 ≤ lo) (h1 : lo ≤ hi') (h2 : hi' ≤ c) :
    ∀ W : World, (Instr.slice t (.slice A n c) (some (.int kl lo)) (some (.int kh hi')) none).run P W = .ok (.slice (if c = lo.toNat then A else A.map (·.add (lo.toNat * size))) (hi'.toNat - lo.toNat) (c - lo.toNat)) W := by
  intro W
  have hel : P.elem t = e := by simp [Program.elem, ht]
  have hu : P.underlying t = some (.slice (P.elem t)) := by rw [hel]; exact ht
  rw [run_slice_lh W t A n c hu kl kh lo hi' h0 h1 h2, hel]
  simp [sizeOf, typeInfo, hi, hsz, sliced, Result.andThen]
noncomputable def T5 : Bool × List (List Nat × List Nat) := dd .any (dG Try.f47 5)
theorem tab5 : dd .any (dG Try.f47 5) = T5 := rfl
theorem own_past {W : World} {base g m c k : Nat} {xs : List Value} (h : W.ownsRow base 3 1 (.slice (some ⟨g, 0, none⟩) m c) m xs) (hk : m ≤ k) (v : Value) : (W.setCell ⟨g, k, none⟩ v).ownsRow base 3 1 (.slice (some ⟨g, 0, none⟩) m c) m xs := by
  refine ⟨h.1, ?_⟩
  rcases h.2 with ⟨h1, _⟩ | ⟨g', c', cur, h1, h2, h3, h4, h5, h6, h7⟩
  · cases h1
  · injection h1 with h1a _ h1c
    injection h1a with h1a
    injection h1a with h1a _ _
    subst h1a h1c
    refine .inr ⟨g, c, cur.setIfInBounds k v, rfl, h2, cn h3 k v, h4, h5, by simpa using h6, ?_⟩
    rw [← h7]
    simp only [Nat.mul_one, Array.toList_setIfInBounds]
    rw [List.take_set, List.set_eq_of_length_le]
    rw [List.length_take]; omega
theorem delete_ok (g c m k base : Nat) (l : List Int) (w : World) (hm : l.length = m + 1) (hk : k ≤ m) (hl : l.length ≤ 100000) (ho : w.ownsRow base 3 1 (.slice (some ⟨g, 0, none⟩) (m + 1) c) (m + 1) (bM .i64 l)) (hbase : base ≤ w.heap.size) :
    Calls Try.prog 47 #[.slice (some ⟨g, 0, none⟩) (m + 1) c, .int .i64 k, .int .i64 ((k : Int) + 1)] w fun e w' => e = .returned (.slice (some ⟨g, 0, none⟩) m c) ∧ w'.ownsRow base 3 1 (.slice (some ⟨g, 0, none⟩) m c) m (bM .i64 (l.eraseIdx k)) ∧ w.grownBy w' (some g) := by
  obtain ⟨i3, hi3, hii3⟩ := Option.map_eq_some_iff.1 dV
  simp only [Prod.mk.injEq] at hii3
  obtain ⟨hz3, hs3, hb3⟩ := hii3
  have hmc : m + 1 ≤ c := by
    rcases ho.2 with ⟨h, _⟩ | ⟨g', c', cur, h1, h2, h3, h4, _⟩
    · cases h
    · injection h1 with _ _ h5
      omega
  have cu1 := cut_past (P := Try.prog) 26 3 .i64 .i64 Try.underlying26 hi3 1 hs3 (some ⟨g, 0, none⟩) (m + 1) c (k : Int) ((k : Int) + 1) (by omega) (by omega) (by omega)
  have cu2 := cut_to (P := Try.prog) 26 3 .i64 Try.underlying26 hi3 (some ⟨g, 0, none⟩) (m + 1) c (k : Int) (by omega) (by omega) hmc
  have cu3 := cut_from (P := Try.prog) 26 3 .i64 Try.underlying26 hi3 1 hs3 (some ⟨g, 0, none⟩) (m + 1) c ((k : Int) + 1) (by omega) (by omega)
  have cu4 := cut_past (P := Try.prog) 26 3 .i64 .i64 Try.underlying26 hi3 1 hs3 (some ⟨g, 0, none⟩) m c (m : Int) ((m : Int) + 1) (by omega) (by omega) (by omega)
  have e1 : ((k : Int) == (k : Int) + 1) = false := beq_eq_false_iff_ne.mpr (by omega)
  have q1 : ((k : Int) ≤ (k : Int) + 1) = True := eq_true (by omega)
  have q2 : (k ≤ m) = True := eq_true hk
  have q3 : (m + 1 ≤ c) = True := eq_true hmc
  have q5 : ((m : Int) + 1 ≤ (c : Int)) = True := eq_true (by omega)
  have q6 : ((k : Int) + 1 ≤ (m : Int) + 1) = True := eq_true (by omega)
  have q7 : (c = k) = False := eq_false (by omega)
  have q8 : (k ≤ c) = True := eq_true (by omega)
  have q9 : ((0 : Int) ≤ (k : Int) + 1) = True := eq_true (by omega)
  have q10 : (c = m) = False := eq_false (by omega)
  have q11 : ((0 : Int) ≤ (m : Int) + 1) = True := eq_true (by omega)
  have q12 : (m + 1 = k) = False := eq_false (by omega)
  have q4 : (m < c) = True := eq_true (by omega)
  have HO := Aside0.mk ho
  have HM := Aside0.mk (And.intro hm (And.intro hl (And.intro hk (And.intro hmc hbase))))
  clear ho hm hl hmc hbase hi3 hz3 hs3 hb3 hk
  go_enter Try.func47, Try.ntmps47
  go_wp2_with (fail)
  refine dT (n := 8) (S := fun w' => True ∧ True) (ds := []) #[false, false, false, false, false, false, false, false] (by kernel_rfl) rfl rfl ⟨trivial, trivial⟩ (fun hHeld => ?_)
  refine cU tab5 (fun HT_ => ?_)
  refine bc (i := 0) (N := some 20) (v := ?_) (a' := ?_) #[true, false, false, false, false, false, false, false] rfl rfl (aH HT_.out (by kernel_rfl)) (fun _ _ _ h => h) (Or.inl ⟨by rfl, ?_⟩) ?_ ?_
  rotate_left
  · intro w'
    go_simp
    with_reducible rfl
  rotate_left
  · simp only [Act.put, List.setIfInBounds_toArray, List.set_cons_zero, List.set_cons_succ, aq, ar]
    rfl
  refine bc (i := 1) (N := some 21) (v := ?_) (a' := ?_) #[true, true, false, false, false, false, false, false] rfl rfl (aH HT_.out (by kernel_rfl)) (fun _ _ _ h => h) (Or.inl ⟨by rfl, ?_⟩) ?_ ?_
  rotate_left
  · intro w'
    go_simp
    with_reducible rfl
  rotate_left
  · simp only [Act.put, List.setIfInBounds_toArray, List.set_cons_zero, List.set_cons_succ, aq, ar]
    rfl
  refine bc (i := 2) (N := some 22) (v := ?_) (a' := ?_) #[true, true, true, false, false, false, false, false] rfl rfl (aH HT_.out (by kernel_rfl)) (fun _ _ _ h => h) (Or.inl ⟨by rfl, ?_⟩) ?_ ?_
  rotate_left
  · intro w'
    go_simp
    with_reducible rfl
  rotate_left
  · simp only [Act.put, List.setIfInBounds_toArray, List.set_cons_zero, List.set_cons_succ, aq, ar]
    rfl
  refine bc (i := 3) (N := some 23) (v := ?_) (a' := ?_) #[true, true, true, true, false, false, false, false] rfl rfl (aH HT_.out (by kernel_rfl)) (fun _ _ _ h => h) (Or.inl ⟨by rfl, ?_⟩) ?_ ?_
  rotate_left
  · intro w'
    go_simp
    with_reducible rfl
  rotate_left
  · simp only [Act.put, List.setIfInBounds_toArray, List.set_cons_zero, List.set_cons_succ, aq, ar]
    rfl
  refine bc (i := 4) (N := some 24) (v := ?_) (a' := ?_) #[true, true, true, true, true, false, false, false] rfl rfl (aH HT_.out (by kernel_rfl)) (fun _ _ _ h => h) (Or.inl ⟨by rfl, ?_⟩) ?_ ?_
  rotate_left
  · intro w'
    go_simp
    with_reducible rfl
  rotate_left
  · simp only [Act.put, List.setIfInBounds_toArray, List.set_cons_zero, List.set_cons_succ, aq, ar]
    rfl
  refine bc (i := 5) (N := some 25) (v := ?_) (a' := ?_) #[true, true, true, true, true, true, false, false] rfl rfl (aH HT_.out (by kernel_rfl)) (fun _ _ _ h => h) (Or.inl ⟨by rfl, ?_⟩) ?_ ?_
  rotate_left
  · intro w'
    go_simp
    with_reducible rfl
  rotate_left
  · simp only [Act.put, List.setIfInBounds_toArray, List.set_cons_zero, List.set_cons_succ, aq, ar]
    rfl
  refine fz (i := 6) (N := some 26) #[true, true, true, true, true, true, true, false] rfl rfl (bB HT_.out (by kernel_rfl)) (by decide) (fun K hK => ?_)
  refine Kd.R_delete_step (Kd.int .i64) (w0 := w) base rfl (.tmp 22) (.tmp 25) 26 3 rfl Try.underlying26 ?hinfo (g := g) (n := m + 1) (c := c) (k := k) (m := m - k) (xs := l) (ok := fun _ => True) rfl rfl ?hA (by omega) ?hO (by have := HM.out.2.2.1; omega) (a5 (Below.refl _ _)) HM.out.2.2.2.2 ?_
  case hinfo =>
    obtain ⟨i, hi, hii⟩ := Option.map_eq_some_iff.1 dV
    simp only [Prod.mk.injEq] at hii
    rw [hi, Option.map_some, hii.2.1]
    rfl
  case hA =>
    by_cases h : c = k + 1
    · rw [if_pos h, if_pos h]
    · rw [if_neg h, if_neg h]
      simp [Addr.add, show (Kd.int IntKind.i64).sz = 1 from rfl]
  case hO =>
    have h := HO.out
    rw [← HM.out.1] at h
    rw [← HM.out.1]
    exact Kd.R_of_own (own_drew h) (fun _ _ => trivial)
  intro w1 hr1 hb1 hg1
  have hel : (l.eraseIdx k).length = m := by rw [List.length_eraseIdx_of_lt (by have := HM.out; omega)]; have := HM.out; omega
  have ho1 := Kd.own_of_R hr1
  rw [hel, show m + 1 - 1 = m from rfl] at ho1
  have HO1 := Aside0.mk ho1
  have HB1 := Aside0.mk (show w.grownBy w1 (some g) from ⟨hg1.os, hg1.tape, hg1.output, hg1.size, hg1.block⟩)
  rw [show m + 1 - 1 = m from rfl]
  clear hr1 hb1 hg1 hel ho1
  refine hK.out _ _ ⟨trivial, trivial⟩ (fun hHeld => ?_)
  clear hK K
  refine co (a' := ?_) ?_ ?_
  rotate_left
  · show Act.put _ (some 26) _ = _
    simp only [Act.put, List.setIfInBounds_toArray, List.set_cons_zero, List.set_cons_succ, aq, ar]
    rfl
  refine bc (i := 7) (N := some 0) (v := ?_) (a' := ?_) #[true, true, true, true, true, true, true, true] rfl rfl (aH HT_.out (by kernel_rfl)) (fun _ _ _ h => h) (Or.inl ⟨by rfl, ?_⟩) ?_ ?_
  rotate_left
  · intro w'
    go_simp
    with_reducible rfl
  rotate_left
  · simp only [Act.put, List.setIfInBounds_toArray, List.set_cons_zero, List.set_cons_succ, aq, ar]
    rfl
  refine fX (cK HT_.out (by kernel_rfl)) ?_
  clear hHeld HT_
  obtain ⟨cur, hcur, hsz⟩ : ∃ cur, w1.heap[g]? = some (.cells cur 3 (0, 0)) ∧ m < cur.size := by
    rcases HO1.out.2 with ⟨h, _⟩ | ⟨g', c', cur, h1, h2, h3, h4, h5, h6, h7⟩
    · cases h
    · injection h1 with h1a _ h1c
      injection h1a with h1a
      injection h1a with h1a _ _
      subst h1a h1c
      exact ⟨cur, h3, by rw [h6]; have := HM.out; omega⟩
  have hcl : ∀ ty, (Builtin.clear_ #[26] ty #[.slice (some ⟨g, m, none⟩) 1 (c - m)]).run Try.prog w1 = .ok (.tuple #[]) (w1.setCells g m [.int .i64 0]) := fun ty => by
    exact Lib.run_clear_slice (P := Try.prog) w1 26 3 ty (.int .i64 0) Try.underlying26 (fun w => by rfl) rfl rfl g m 1 (c - m) (by omega) (fun j hj => by
      have : j = 0 := by omega
      subst this
      rw [Nat.add_zero, a7 hcur m, Array.getElem?_eq_getElem hsz]; rfl) (fun j hj => a8 hcur _)
  clear hcur hsz
  go_wp2_with (fail)
  all_goals
    go_ret
    try rw [show k + 1 = c from (by assumption : c = k + 1).symm]
    have hb1 := HB1.out
    refine ⟨rfl, own_past HO1.out (Nat.le_refl _) (.int .i64 0), ⟨hb1.os, hb1.tape, hb1.output, by show w.heap.size ≤ ((w1.setCell ⟨g, m, none⟩ (.int .i64 0))).heap.size; simp; exact hb1.size, fun j hj hne => ?_⟩⟩
    exact (Below.heap_setCell w1 ⟨g, m, none⟩ (.int .i64 0) j (fun e => hne (by rw [e]))).trans (hb1.block j hj hne)
end DD
end Go.Proofs.Ytcbpkdemcdikaaa.X
