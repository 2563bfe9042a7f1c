/- Proved here: the plain law behind CupsSwapped: two neighbouring scores about different ties may be exchanged, for at most 500 scores. -/
import Derived.Test.YtaadhandkljcdaaQCount
import Derived.Test.YtaadhandkljcdaaQSwap
import Derived.Test.YtaadhandkljcdaaX12
namespace Go.Proofs.Ytaadhandkljcdaa.Pure
open Go.RowKit Go.Proofs.Ytaadhandkljcdaa.X Go.Proofs.YtaadhandkljcdaaW.PrintWords Go.Proofs.YtaadhandkljcdaaW.PrintLast Go.Proofs.Ytaadhandkljcdaa.K Go.Proofs.Ytaadhandkljcdaa.X.CQ Go.Proofs.Ytaadhandkljcdaa.Q
set_option linter.unusedVariables false
set_option linter.unusedSimpArgs false
theorem set_two : ∀ (pre : List S45) (a b : S45) (post : List S45), ((pre ++ a :: b :: post).set pre.length b).set (pre.length + 1) a = pre ++ b :: a :: post
  | [], _, _, _ => rfl
  | c :: pre, a, b, post => by
    show c :: ((pre ++ a :: b :: post).set pre.length b).set (pre.length + 1) a = _
    rw [set_two pre a b post]
    rfl
theorem rd_mid (pre : List S45) (a : S45) (post : List S45) : rd_T45 (pre ++ a :: post) (pre.length : Int) = a := by
  rw [rd_T45, Int.toNat_natCast, List.getD_eq_getElem?_getD, List.getElem?_append_right (Nat.le_refl _)]
  simp
theorem rd_mid2 (pre : List S45) (a b : S45) (post : List S45) : rd_T45 (pre ++ a :: b :: post) ((pre.length + 1 : Nat) : Int) = b := by
  rw [rd_T45, Int.toNat_natCast, List.getD_eq_getElem?_getD, List.getElem?_append_right (by omega)]
  simp
theorem split_two (l : List S45) (i : Nat) (h : i + 1 < l.length) : ∃ pre a b post, l = pre ++ a :: b :: post ∧ pre.length = i := by
  refine ⟨l.take i, l[i], l[i + 1], l.drop (i + 2), ?_, by rw [List.length_take]; omega⟩
  rw [← List.drop_eq_getElem_cons h, ← List.drop_eq_getElem_cons (by omega), List.take_append_drop]
theorem same_loop (l : List Int) (hl : l.length ≤ 1000) (d : Nat) : ∀ i : Nat, l.length - i = d → i ≤ l.length → Ev (fun k => fastiref23_SameInts.l0 k l l (i : Int)) true := by
  induction d with
  | zero =>
    intro i hd hi
    refine Ev.eq fun k => ?_
    simp only [fastiref23_SameInts.l0]
    rw [if_neg (by omega)]
  | succ d ih =>
    intro i hd hi
    refine Ev.step (fun k => ?_) (ih (i + 1) (by omega) (by omega))
    simp only [fastiref23_SameInts.l0]
    simp only [show (i : Int) < (l.length : Int) by omega, show (0 : Int) ≤ (i : Int) by omega, if_true]
    rw [w64s i (by omega)]
theorem same_ev (l : List Int) (hl : l.length ≤ 1000) : Ev (fun k => fastiref23_SameInts.f k l l) true := by
  refine Ev.congr (fun k => ?_) (same_loop l hl l.length 0 rfl (Nat.zero_le _))
  unfold fastiref23_SameInts.f
  rw [if_pos rfl]
  rfl
theorem swapped_step {a0 : Int} {pre : List S45} {a b : S45} {post : List S45} (hlen : (pre ++ a :: b :: post).length = pre.length + post.length + 2) (hl : pre.length + post.length ≤ 500) (b1 b2 d1 d2 : List Int) (b3 d3 : Int) (h1 : cups_Play.f a0 (pre ++ a :: b :: post) = some (b1, b2, b3)) (h2 : cups_Play.f a0 (pre ++ b :: a :: post) = some (d1, d2, d3)) (k : Nat) :
    fastilaw23_CupsSwapped.j0 (k + 1) a0 (pre ++ a :: b :: post) (pre.length : Int) false = if b3 = 0 then fastilaw23_CupsSwapped.j1 k b1 b2 d1 d2 (d3 != 0) else fastilaw23_CupsSwapped.j1 k b1 b2 d1 d2 true := by
    have hc : ([] : List S45).length + (pre ++ a :: b :: post).length < 5864062014805 := by rw [List.length_nil]; omega
    have e0 : ([] : List S45) ++ (pre ++ a :: b :: post) = pre ++ a :: b :: post := rfl
    rw [fastilaw23_CupsSwapped.j0, if_neg (by decide), Option.bind_some, if_pos hc, Option.bind_some, e0]
    rw [if_pos (by rw [w64s pre.length (by omega)]; omega), if_pos (by rw [w64s pre.length (by omega)]; omega), if_pos (by omega), if_pos (by omega), h1, w64s pre.length (by omega), rd_mid, rd_mid2, Int.toNat_natCast, Int.toNat_natCast]
    have e : ((pre ++ a :: b :: post).set pre.length ⟨b.f0, b.f1, b.f2⟩).set (pre.length + 1) ⟨a.f0, a.f1, a.f2⟩ = pre ++ b :: a :: post := set_two pre a b post
    rw [Option.bind_some, e, h2, Option.bind_some]
theorem CupsSwapped (a0 : Int) (l1 : List S45) (a2 : Int) (_ : (Lit.int .i64 a0).wf = true) (_ : (Lit.int .i64 a2).wf = true) : ∃ k, fastilaw23_CupsSwapped.f k a0 l1 a2 = some true := by
  refine Ev.rounds (g := fun k => fastilaw23_CupsSwapped.f k a0 l1 a2) ?_
  unfold fastilaw23_CupsSwapped.f
  simp only [fastilaw23_sane.f, Option.bind_some, if_true]
  have out : Ev (fun k => fastilaw23_CupsSwapped.j0 k a0 l1 a2 true) true := Ev.eq fun k => by simp only [fastilaw23_CupsSwapped.j0, if_true]
  have out1 : ∀ b1 b2 d1 d2, Ev (fun k => fastilaw23_CupsSwapped.j1 k b1 b2 d1 d2 true) true := fun b1 b2 d1 d2 => Ev.eq fun k => by simp only [fastilaw23_CupsSwapped.j1, if_true]
  by_cases hl : (l1.length : Int) > 500
  · simp only [if_pos hl]; exact out
  simp only [if_neg hl]
  by_cases ha : a2 < 0
  · simp only [if_pos ha]; exact out
  simp only [if_neg ha]
  rw [w64 (x := (l1.length : Int) - 2) (by omega) (by omega)]
  by_cases hb : a2 > (l1.length : Int) - 2
  · simp only [if_pos hb]; exact out
  simp only [if_neg hb]
  obtain ⟨i, rfl⟩ : ∃ m : Nat, a2 = (m : Int) := ⟨_, (Int.toNat_of_nonneg (by omega)).symm⟩
  rw [w64s i (by omega)]
  simp only [show (0 : Int) ≤ (i : Int) by omega, show (i : Int) < (l1.length : Int) by omega, show (0 : Int) ≤ ((i + 1 : Nat) : Int) by omega, show ((i + 1 : Nat) : Int) < (l1.length : Int) by omega, if_true]
  obtain ⟨pre, a, b, post, rfl, rfl⟩ := split_two l1 i (by omega)
  rw [rd_mid, rd_mid2]
  by_cases hne : a.f0 = b.f0
  · rw [show (a.f0 == b.f0) = true from beq_iff_eq.2 hne]; exact out
  rw [show (a.f0 == b.f0) = false from beq_eq_false_iff_ne.2 hne]
  have hlen : (pre ++ a :: b :: post).length = pre.length + post.length + 2 := by simp; omega
  by_cases h : 2 ≤ a0 ∧ a0 ≤ 64
  · obtain ⟨n, rfl⟩ : ∃ n : Nat, a0 = (n : Int) := ⟨a0.toNat, (Int.toNat_of_nonneg (by omega)).symm⟩
    have h2 : 2 ≤ n := by omega
    have h64 : n ≤ 64 := by omega
    cases ho : playS (CK.ties n) (pre ++ a :: b :: post) ⟨[], [], []⟩ with
    | none =>
      cases hq : playS (CK.ties n) (pre ++ b :: a :: post) ⟨[], [], []⟩ with
      | none => exact Ev.step (fun k => (swapped_step hlen (by omega) _ _ _ _ _ _ (play_none h2 h64 ho) (play_none h2 h64 hq) k).trans (if_neg (by decide))) (out1 _ _ _ _)
      | some q => exact Ev.step (fun k => (swapped_step hlen (by omega) _ _ _ _ _ _ (play_none h2 h64 ho) (play_some h2 h64 hq) k).trans (if_neg (by decide))) (out1 _ _ _ _)
    | some p =>
      cases hq : playS (CK.ties n) (pre ++ b :: a :: post) ⟨[], [], []⟩ with
      | none => exact Ev.step (fun k => ((swapped_step hlen (by omega) _ _ _ _ _ _ (play_some h2 h64 ho) (play_none h2 h64 hq) k).trans (if_pos rfl)).trans (by rw [show ((230 : Int) != 0) = true from by decide])) (out1 _ _ _ _)
      | some q =>
        have he := swap_play hne ho hq
        have e1 := alive_eqv he n
        have e2 := next_eqv (ts := CK.ties n) he (n - 1)
        refine Ev.step (f := fun k => fastilaw23_CupsSwapped.j1 k (CS.aliveTo p n) (CS.nextTo (CK.ties n) p (n - 1)) (CS.aliveTo p n) (CS.nextTo (CK.ties n) p (n - 1)) false) (fun k => ?_) ?_
        · have h := (swapped_step hlen (by omega) _ _ _ _ _ _ (play_some h2 h64 ho) (play_some h2 h64 hq) k).trans (if_pos rfl)
          rw [show ((0 : Int) != 0) = false from by decide, ← e1, ← e2] at h
          exact h
        refine Ev.step (f := fun k => (fastiref23_SameInts.f k (CS.aliveTo p n) (CS.aliveTo p n)).bind fun t => if t = true then (fastiref23_SameInts.f k (CS.nextTo (CK.ties n) p (n - 1)) (CS.nextTo (CK.ties n) p (n - 1))).bind fun t' => some t' else some false) (fun k => ?_) ?_
        · simp only [fastilaw23_CupsSwapped.j1, Bool.false_eq_true, if_false]
        · refine Ev.bind (same_ev _ (by have := CS.alive_len p n; omega)) ?_
          simp only [if_true]
          refine Ev.bind (same_ev _ (by have := CS.next_len (CK.ties n) p (n - 1); omega)) ?_
          exact Ev.now _
  · exact Ev.step (fun k => (swapped_step hlen (by omega) _ _ _ _ _ _ (play_out h _) (play_out h _) k).trans (if_neg (by decide))) (out1 _ _ _ _)
end Go.Proofs.Ytaadhandkljcdaa.Pure
