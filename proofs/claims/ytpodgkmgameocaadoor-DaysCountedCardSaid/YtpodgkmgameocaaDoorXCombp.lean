/- Proved here: plain facts on the sets of days (CB) -/
import Derived.Test.YtpodgkmgameocaaDoorX0
import Derived.Test.YtpodgkmgameocaaDoorK
import Derived.Test.YtpodgkmgameocaaDoorX5
import Derived.Test.YtpodgkmgameocaaDoorXSets
namespace Go.Proofs.YtpodgkmgameocaaDoor.X
open Go.RowKit Go.Proofs.YtpodgkmgameocaaDoorW.PrintWords Go.Proofs.YtpodgkmgameocaaDoorW.PrintLast Go.Proofs.YtpodgkmgameocaaDoorW.PrintMore
attribute [local go_sem] max2_int min2_int max_two min_two max_three min_three max_four min_four
set_option linter.unusedVariables false
set_option linter.unusedSimpArgs false
namespace CB
open Go.Proofs.YtpodgkmgameocaaDoor.K
theorem chkGo_ok : ∀ (l : List S45) (last : Int), SS.chkGo last l = 0 → ∀ x ∈ l, 0 ≤ x.f0 ∧ x.f0 ≤ 73048 ∧ 0 ≤ x.f1 ∧ x.f1 ≤ 73048
  | [], _, _ => by simp
  | y :: l, last, h => by
    unfold SS.chkGo at h
    by_cases hk : SS.okS last y = true
    · rw [if_pos hk] at h
      intro x hx
      rcases List.mem_cons.1 hx with rfl | hx
      · unfold SS.okS at hk
        simp only [Bool.and_eq_true, decide_eq_true_eq] at hk
        omega
      · exact chkGo_ok l _ h x hx
    · rw [if_neg hk] at h
      cases h
theorem chk_ok {l : List S45} (h : SS.chk l = 0) : l.length ≤ 256 ∧ ∀ x ∈ l, 0 ≤ x.f0 ∧ x.f0 ≤ 73048 ∧ 0 ≤ x.f1 ∧ x.f1 ≤ 73048 := by
  unfold SS.chk at h
  by_cases hl : 256 < l.length
  · rw [if_pos hl] at h; cases h
  · rw [if_neg hl] at h
    exact ⟨by omega, chkGo_ok l _ h⟩
theorem walkEv_fst : ∀ (ns : List Int) (la lb : List S45), (SS.walkEv ns la lb).map (·.1) = ns
  | [], _, _ => rfl
  | n :: ns, la, lb => by
    simp only [SS.walkEv, List.map_cons, walkEv_fst ns]
theorem uniq_sub : ∀ (l : List Int) (x : Int), x ∈ SS.uniq l → x ∈ l
  | [], x, h => by simp [SS.uniq] at h
  | [y], x, h => by simpa [SS.uniq] using h
  | y :: z :: l, x, h => by
    unfold SS.uniq at h
    have ih := uniq_sub (z :: l) x
    split at h
    · exact List.mem_cons_of_mem _ (ih h)
    · rcases List.mem_cons.1 h with rfl | h
      · exact List.mem_cons_self
      · exact List.mem_cons_of_mem _ (ih h)
theorem uniq_len : ∀ (l : List Int), (SS.uniq l).length ≤ l.length
  | [] => Nat.le_refl _
  | [y] => Nat.le_refl _
  | y :: z :: l => by
    unfold SS.uniq
    have ih := uniq_len (z :: l)
    split
    · simp only [List.length_cons] at ih ⊢; omega
    · simp only [List.length_cons] at ih ⊢; omega
theorem atL_length (l : List S45) : (SS.atL l).length = 2 * l.length := by
  induction l with
  | nil => rfl
  | cons x l ih =>
    have : SS.atL (x :: l) = x.f0 :: (x.f1 + 1) :: SS.atL l := rfl
    rw [this]
    simp only [List.length_cons, ih]
    omega
theorem evs_len (l0 l1 : List S45) : (SS.evs l0 l1).length ≤ 2 * (l0.length + l1.length) := by
  have h := congrArg List.length (walkEv_fst (SS.pts l0 l1) l0 l1)
  rw [List.length_map] at h
  unfold SS.evs
  rw [h]
  unfold SS.pts
  refine Nat.le_trans (uniq_len _) ?_
  rw [(SS.isort_perm _).length_eq, atL_length, List.length_append]
  exact Nat.le_refl _
theorem evs_mem {l0 l1 : List S45} (h0 : SS.chk l0 = 0) (h1 : SS.chk l1 = 0) {x : Int × Bool × Bool} (hx : x ∈ SS.evs l0 l1) : 0 ≤ x.1 ∧ x.1 ≤ 73049 := by
  have hm : x.1 ∈ (SS.walkEv (SS.pts l0 l1) l0 l1).map (·.1) := List.mem_map_of_mem hx
  rw [walkEv_fst] at hm
  have h2 := (SS.isort_perm _).mem_iff.1 (uniq_sub _ _ hm)
  unfold SS.atL at h2
  obtain ⟨y, hy, h3⟩ := List.mem_flatMap.1 h2
  have hb : 0 ≤ y.f0 ∧ y.f0 ≤ 73048 ∧ 0 ≤ y.f1 ∧ y.f1 ≤ 73048 := by
    rcases List.mem_append.1 hy with hy | hy
    · exact (chk_ok h0).2 y hy
    · exact (chk_ok h1).2 y hy
  simp only [List.mem_cons, List.not_mem_nil, or_false] at h3
  omega
theorem shut_len (n : Int) : ∀ l : List S45, (SS.shut n l).length = l.length
  | [] => rfl
  | [x] => rfl
  | x :: y :: l => by
    have := shut_len n (y :: l)
    simp only [SS.shut, List.length_cons] at this ⊢
    omega
theorem shut_snoc (n : Int) (y : S45) : ∀ l : List S45, SS.shut n (l ++ [y]) = l ++ [⟨y.f0, n⟩]
  | [] => rfl
  | [x] => rfl
  | x :: z :: l => by
    have := shut_snoc n y (z :: l)
    simp only [List.cons_append] at this ⊢
    unfold SS.shut
    rw [this]
def flat (l : List S45) : List Value := l.flatMap fun s => [.int .i64 s.f0, .int .i64 s.f1]
theorem flat_snoc (l : List S45) (y : S45) : flat (l ++ [y]) = flat l ++ [.int .i64 y.f0, .int .i64 y.f1] := by simp [flat]
theorem flat_len (l : List S45) : (flat l).length = l.length * 2 := by
  induction l with
  | nil => rfl
  | cons x l ih =>
    have : flat (x :: l) = .int .i64 x.f0 :: .int .i64 x.f1 :: flat l := rfl
    rw [this]
    simp only [List.length_cons, ih]
    omega
theorem flat_shut (n : Int) {l : List S45} (h : l ≠ []) : flat (SS.shut n l) = (flat l).set ((l.length - 1) * 2 + 1) (.int .i64 n) := by
  obtain ⟨p, y, rfl⟩ : ∃ p y, l = p ++ [y] := ⟨l.dropLast, l.getLast h, (List.dropLast_concat_getLast h).symm⟩
  rw [shut_snoc, flat_snoc, flat_snoc, List.length_append, List.length_singleton, Nat.add_sub_cancel, List.set_append_right _ _ (by rw [flat_len]; omega), flat_len]
  rw [show p.length * 2 + 1 - p.length * 2 = 1 by omega]
  rfl
theorem flat_last {l : List S45} {m : Nat} (h : l.length = m + 1) : ∃ y, (flat l)[m * 2 + 1]? = some (.int .i64 y) := by
  have hne : l ≠ [] := by intro e; subst e; simp at h
  obtain ⟨p, y, rfl⟩ : ∃ p y, l = p ++ [y] := ⟨l.dropLast, l.getLast hne, (List.dropLast_concat_getLast hne).symm⟩
  have hp : p.length = m := by simpa using h
  refine ⟨y.f1, ?_⟩
  rw [flat_snoc, List.getElem?_append_right (by rw [flat_len]; omega), flat_len, show m * 2 + 1 - p.length * 2 = 1 by omega]
  rfl
/-- The state's facts: an open span has a last element; no more spans than rounds. -/
def good (s : SS.CSt) (m : Nat) : Prop := (s.op = true → s.out ≠ []) ∧ s.out.length ≤ m
theorem step_good (f : Bool → Bool → Bool) {s : SS.CSt} {m : Nat} (h : good s m) (x : Int × Bool × Bool) : good (SS.step f s x) (m + 1) := by
  obtain ⟨o, l⟩ := s
  obtain ⟨h1, h2⟩ := h
  simp only at h1 h2
  unfold SS.step
  cases hf : f x.2.1 x.2.2 <;> cases o <;> simp only
  · exact ⟨by simp, by simp only; omega⟩
  · refine ⟨by simp, ?_⟩
    show (SS.shut _ l).length ≤ m + 1
    rw [shut_len]; omega
  · refine ⟨by simp, ?_⟩
    show (l ++ [_]).length ≤ m + 1
    simp only [List.length_append, List.length_singleton]; omega
  · exact ⟨fun _ => h1 rfl, by simp only; omega⟩
theorem fold_snoc (f : Bool → Bool → Bool) (pre : List (Int × Bool × Bool)) (x : Int × Bool × Bool) : (pre ++ [x]).foldl (SS.step f) ⟨false, []⟩ = SS.step f (pre.foldl (SS.step f) ⟨false, []⟩) x := by simp
theorem fold_good (f : Bool → Bool → Bool) : ∀ (m : Nat) (pre : List (Int × Bool × Bool)), pre.length = m → good (pre.foldl (SS.step f) ⟨false, []⟩) m
  | 0, pre, h => by
    obtain rfl := List.length_eq_zero_iff.1 h
    exact ⟨by simp, Nat.le_refl _⟩
  | m + 1, pre, h => by
    have hne : pre ≠ [] := by intro e; subst e; simp at h
    obtain ⟨p, y, rfl⟩ : ∃ p y, pre = p ++ [y] := ⟨pre.dropLast, pre.getLast hne, (List.dropLast_concat_getLast hne).symm⟩
    rw [fold_snoc]
    exact step_good f (fold_good f m p (by simpa using h)) y
theorem pre_mem {α : Type} {pre xs : List α} {x : α} (h : pre ++ [x] <+: xs) : x ∈ xs ∧ pre.length < xs.length := by
  obtain ⟨t, rfl⟩ := h
  exact ⟨by simp, by simp⟩
def stepO (o so : Bool) (sl : List S45) (n : Int) : SS.CSt :=
  match o, so with
  | true, false => ⟨true, sl ++ [⟨n, n⟩]⟩
  | false, true => ⟨false, SS.shut (n - 1) sl⟩
  | _, o' => ⟨o', sl⟩
theorem step_O (f : Bool → Bool → Bool) (so : Bool) (sl : List S45) (n : Int) (p q : Bool) : SS.step f ⟨so, sl⟩ (n, p, q) = stepO (f p q) so sl n := by
  unfold SS.step stepO
  cases f p q <;> cases so <;> rfl
theorem reps_flat (W : World) (base : Nat) (ok : Nat → Prop) : ∀ l : List S45, Reps (k45.M W base ok) 2 l (flat l)
  | [] => Reps.none _ _
  | x :: l => Reps.c2 (k45_mkM W base ok x) (reps_flat W base ok l)
end CB
end Go.Proofs.YtpodgkmgameocaaDoor.X
