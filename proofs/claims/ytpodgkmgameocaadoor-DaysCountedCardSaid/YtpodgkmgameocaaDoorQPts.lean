/- Proved here: days.combine's answer in terms of the points and of which days are in the lists (comb_eq). -/
import Derived.Test.YtpodgkmgameocaaDoorQBasea
import Derived.Test.YtpodgkmgameocaaDoorXIter
import Derived.Test.YtpodgkmgameocaaDoorXCombp
namespace Go.Proofs.YtpodgkmgameocaaDoor.DQ
open Go.RowKit Go.Proofs.YtpodgkmgameocaaDoorW.PrintWords Go.Proofs.YtpodgkmgameocaaDoorW.PrintMore Go.Proofs.YtpodgkmgameocaaDoor.X Go.Proofs.YtpodgkmgameocaaDoor.K
set_option linter.unusedVariables false
set_option linter.unusedSimpArgs false
/-! the points -/
theorem uniq_mem : ∀ (l : List Int) (x : Int), x ∈ SS.uniq l ↔ x ∈ l
  | [], x => by simp [SS.uniq]
  | [y], x => by simp [SS.uniq]
  | y :: z :: l, x => by
    have ih := uniq_mem (z :: l) x
    unfold SS.uniq
    split
    · rename_i h
      subst h
      rw [ih]
      simp only [List.mem_cons]
      constructor
      · intro h; exact .inr h
      · rintro (h | h)
        · exact .inl h
        · exact h
    · rw [List.mem_cons, ih, List.mem_cons (a := x) (b := y)]
theorem uniq_asc : ∀ (l : List Int), l.Pairwise (· ≤ ·) → (SS.uniq l).Pairwise (· < ·)
  | [], _ => by simp [SS.uniq]
  | [y], _ => by simp [SS.uniq]
  | y :: z :: l, h => by
    have h1 := List.pairwise_cons.1 h
    have ih := uniq_asc (z :: l) h1.2
    unfold SS.uniq
    split
    · exact ih
    · rename_i hne
      refine List.pairwise_cons.2 ⟨fun x hx => ?_, ih⟩
      have hx2 := (uniq_mem (z :: l) x).1 hx
      have h3 := h1.1 z List.mem_cons_self
      rcases List.mem_cons.1 hx2 with rfl | hx3
      · omega
      · have h4 := (List.pairwise_cons.1 h1.2).1 x hx3
        omega
theorem pts_asc (a b : List S45) : (SS.pts a b).Pairwise (· < ·) := uniq_asc _ (SS.isort_asc _)
theorem pts_mem (a b : List S45) (x : Int) : x ∈ SS.pts a b ↔ x ∈ SS.atL a ∨ x ∈ SS.atL b := by
  unfold SS.pts
  rw [uniq_mem, (SS.isort_perm _).mem_iff]
  simp [SS.atL]
theorem asc_ext {l m : List Int} (hl : l.Pairwise (· < ·)) (hm : m.Pairwise (· < ·)) (h : ∀ x, x ∈ l ↔ x ∈ m) : l = m := by
  have nd : ∀ {q : List Int}, q.Pairwise (· < ·) → q.Nodup := fun hq => hq.imp (fun h e => by omega)
  exact List.Perm.eq_of_pairwise (le := (· < ·)) (fun a b _ _ h1 h2 => by omega) hl hm ((List.perm_ext_iff_of_nodup (nd hl) (nd hm)).2 h)
/-! which days are in a list -/
def Canon : Int → List S45 → Prop
  | _, [] => True
  | last, x :: l => last + 2 ≤ x.f0 ∧ 0 ≤ x.f0 ∧ x.f0 ≤ x.f1 ∧ x.f1 ≤ 73048 ∧ Canon x.f1 l
theorem canon_of : ∀ (l : List S45) (last : Int), SS.chkGo last l = 0 → Canon last l
  | [], _, _ => trivial
  | y :: l, last, h => by
    unfold SS.chkGo at h
    by_cases hk : SS.okS last y = true
    · rw [if_pos hk] at h
      unfold SS.okS at hk
      simp only [Bool.and_eq_true, decide_eq_true_eq] at hk
      exact ⟨by omega, by omega, by omega, by omega, canon_of l _ h⟩
    · rw [if_neg hk] at h
      cases h
theorem chk_canon {l : List S45} (h : SS.chk l = 0) : Canon (-2) l := by
  unfold SS.chk at h
  by_cases hl : 256 < l.length
  · rw [if_pos hl] at h; cases h
  · rw [if_neg hl] at h
    exact canon_of l _ h
theorem canon_low : ∀ {l : List S45} {last n : Int}, Canon last l → n < last + 2 → has l n = false
  | [], _, _, _, _ => rfl
  | x :: l, last, n, h, hn => by
    obtain ⟨h1, h2, h3, h4, h5⟩ := h
    rw [has_cons, decide_eq_false (by omega), canon_low (l := l) h5 (by omega)]
    rfl
theorem adv_in (n : Int) : ∀ {l : List S45} {last : Int}, Canon last l → SS.isIn n (SS.adv n l) = has l n
  | [], _, _ => rfl
  | x :: l, last, h => by
    obtain ⟨h1, h2, h3, h4, h5⟩ := h
    by_cases hx : x.f1 < n
    · rw [CI.adv_cons_lt hx, has_cons, decide_eq_false (p := n ≤ x.f1) (by omega), Bool.and_false, Bool.false_or]
      exact adv_in n h5
    · rw [CI.adv_cons_ge hx, has_cons, decide_eq_true (p := n ≤ x.f1) (by omega), Bool.and_true]
      by_cases hf : x.f0 ≤ n
      · rw [decide_eq_true hf, Bool.true_or]
        exact decide_eq_true hf
      · rw [decide_eq_false hf, Bool.false_or, canon_low h5 (by omega)]
        exact decide_eq_false hf
theorem adv_has {n m : Int} (hnm : n ≤ m) : ∀ (l : List S45), has (SS.adv n l) m = has l m
  | [] => rfl
  | x :: l => by
    by_cases hx : x.f1 < n
    · rw [CI.adv_cons_lt hx, has_cons, decide_eq_false (p := m ≤ x.f1) (by omega), Bool.and_false, Bool.false_or]
      exact adv_has hnm l
    · rw [CI.adv_cons_ge hx]
theorem adv_canon (n : Int) : ∀ {l : List S45} {last : Int}, Canon last l → ∃ last', Canon last' (SS.adv n l)
  | [], last, h => ⟨last, h⟩
  | x :: l, last, h => by
    by_cases hx : x.f1 < n
    · rw [CI.adv_cons_lt hx]
      exact adv_canon n h.2.2.2.2
    · rw [CI.adv_cons_ge hx]
      exact ⟨last, h⟩
theorem walkEv_eq : ∀ (ns : List Int) {la lb : List S45} {pa pb : Int}, ns.Pairwise (· < ·) → Canon pa la → Canon pb lb → SS.walkEv ns la lb = ns.map fun n => (n, has la n, has lb n)
  | [], _, _, _, _, _, _, _ => rfl
  | n :: ns, la, lb, pa, pb, hs, ha, hb => by
    have h1 := List.pairwise_cons.1 hs
    obtain ⟨pa', ha'⟩ := adv_canon n ha
    obtain ⟨pb', hb'⟩ := adv_canon n hb
    rw [SS.walkEv, List.map_cons, adv_in n ha, adv_in n hb, walkEv_eq ns h1.2 ha' hb']
    congr 1
    refine List.map_congr_left fun m hm => ?_
    have := h1.1 m hm
    rw [adv_has (by omega), adv_has (by omega)]
theorem evs_eq {a b : List S45} (ha : SS.chk a = 0) (hb : SS.chk b = 0) : SS.evs a b = (SS.pts a b).map fun n => (n, has a n, has b n) := walkEv_eq _ (pts_asc a b) (chk_canon ha) (chk_canon hb)
/-! the round of combine, and the reference's loop -/
def refGo (p : Int → Bool) : List Int → List S45 → List S45
  | n :: m :: l, r => refGo p (m :: l) (if p n = true then (if (∃ y, r.getLast? = some y ∧ y.f1 + 1 = n) then SS.shut (m - 1) r else r ++ [⟨n, m - 1⟩]) else r)
  | [_], r => r
  | [], r => r
def Rel (n : Int) (s : SS.CSt) (r : List S45) : Prop :=
  (s.op = false ∧ s.out = r ∧ ∀ y, r.getLast? = some y → y.f1 + 1 < n) ∨ (s.op = true ∧ ∃ q st, s.out = q ++ [⟨st, st⟩] ∧ r = q ++ [⟨st, n - 1⟩])
theorem step_rel (f : Bool → Bool → Bool) (n m : Int) (u v : Bool) (hnm : n < m) (s : SS.CSt) (r : List S45) (h : Rel n s r) :
    Rel m (SS.step f s (n, u, v)) (if f u v = true then (if (∃ y, r.getLast? = some y ∧ y.f1 + 1 = n) then SS.shut (m - 1) r else r ++ [⟨n, m - 1⟩]) else r) := by
  obtain ⟨o, out⟩ := s
  rw [CB.step_O]
  rcases h with ⟨h1, h2, h3⟩ | ⟨h1, q, st, h2, h3⟩
  · simp only at h1 h2
    subst h1 h2
    cases hf : f u v
    · simp only [CB.stepO, Bool.false_eq_true, if_false]
      exact .inl ⟨rfl, rfl, fun y hy => by have := h3 y hy; omega⟩
    · simp only [CB.stepO, if_true]
      rw [if_neg (by rintro ⟨y, hy, he⟩; have := h3 y hy; omega)]
      exact .inr ⟨rfl, out, n, rfl, rfl⟩
  · simp only at h1 h2
    subst h1 h2 h3
    cases hf : f u v
    · simp only [CB.stepO, Bool.false_eq_true, if_false]
      refine .inl ⟨rfl, by rw [CB.shut_snoc], fun y hy => ?_⟩
      rw [List.getLast?_append] at hy
      simp at hy
      subst hy
      simp only
      omega
    · simp only [CB.stepO, if_true]
      rw [if_pos ⟨⟨st, n - 1⟩, by rw [List.getLast?_append]; rfl, by simp only; omega⟩, CB.shut_snoc]
      exact .inr ⟨rfl, q, st, rfl, rfl⟩
theorem fold_ref (f : Bool → Bool → Bool) (ga gb : Int → Bool) : ∀ (l : List Int) (n : Int) (s : SS.CSt) (r : List S45), (n :: l).Pairwise (· < ·) → Rel n s r → f (ga ((n :: l).getLast (by simp))) (gb ((n :: l).getLast (by simp))) = false →
    (((n :: l).map fun n => (n, ga n, gb n)).foldl (SS.step f) s).out = refGo (fun n => f (ga n) (gb n)) (n :: l) r
  | [], n, s, r, _, h, hp => by
    obtain ⟨o, out⟩ := s
    simp only [List.getLast_singleton] at hp
    rw [List.map_cons, List.map_nil, List.foldl_cons, List.foldl_nil, CB.step_O, refGo, hp]
    rcases h with ⟨h1, h2, h3⟩ | ⟨h1, q, st, h2, h3⟩
    · simp only at h1 h2
      subst h1 h2
      rfl
    · simp only at h1 h2
      subst h1 h2 h3
      show SS.shut (n - 1) _ = _
      rw [CB.shut_snoc]
  | m :: l, n, s, r, hs, h, hp => by
    have h1 := List.pairwise_cons.1 hs
    have hnm := h1.1 m List.mem_cons_self
    rw [List.map_cons, List.foldl_cons, refGo]
    refine fold_ref f ga gb l m _ _ h1.2 (step_rel f n m (ga n) (gb n) hnm s r h) ?_
    rwa [List.getLast_cons (by simp)] at hp
/-- The result of an operation, out of the points. -/
def setS (f : Bool → Bool → Bool) (a b : List S45) : List S45 := refGo (fun n => f (has a n) (has b n)) (SS.pts a b) []
theorem has_above {l : List S45} {n : Int} (h : ∀ x ∈ l, x.f1 < n) : has l n = false := by
  unfold has
  rw [List.any_eq_false]
  intro x hx
  have := h x hx
  simp only [Bool.and_eq_true, decide_eq_true_eq]
  omega
theorem atL_mem {l : List S45} {x : S45} (h : x ∈ l) : x.f0 ∈ SS.atL l ∧ x.f1 + 1 ∈ SS.atL l :=
  ⟨List.mem_flatMap.2 ⟨x, h, by simp⟩, List.mem_flatMap.2 ⟨x, h, by simp⟩⟩
theorem last_ge {l : List Int} (hs : l.Pairwise (· < ·)) (hne : l ≠ []) {x : Int} (hx : x ∈ l) : x ≤ l.getLast hne := by
  have he : l = l.dropLast ++ [l.getLast hne] := (List.dropLast_concat_getLast hne).symm
  rw [he] at hx
  rcases List.mem_append.1 hx with h | h
  · rw [he] at hs
    have := (List.pairwise_append.1 hs).2.2 x h _ List.mem_cons_self
    omega
  · rw [List.mem_singleton.1 h]
    exact Int.le_refl _
theorem fold_set (f : Bool → Bool → Bool) (hff : f false false = false) {a b : List S45} (ha : SS.chk a = 0) (hb : SS.chk b = 0) : ((SS.evs a b).foldl (SS.step f) ⟨false, []⟩).out = setS f a b := by
  rw [evs_eq ha hb]
  unfold setS
  have hs := pts_asc a b
  have hm := pts_mem a b
  cases hP : SS.pts a b with
  | nil => rfl
  | cons n l =>
    rw [hP] at hs hm
    refine fold_ref f (has a) (has b) l n _ [] hs (.inl ⟨rfl, rfl, fun y hy => by simp at hy⟩) ?_
    have hA : has a ((n :: l).getLast (by simp)) = false := has_above fun x hx => by
      have := last_ge hs (by simp) ((hm _).2 (.inl (atL_mem hx).2))
      omega
    have hB : has b ((n :: l).getLast (by simp)) = false := has_above fun x hx => by
      have := last_ge hs (by simp) ((hm _).2 (.inr (atL_mem hx).2))
      omega
    rw [hA, hB, hff]
theorem comb_eq (f : Bool → Bool → Bool) (hff : f false false = false) (a b : List S45) :
    SS.comb f a b = if SS.chk a = 0 then (if SS.chk b = 0 then (if 256 < (setS f a b).length then ([], 2) else (setS f a b, 0)) else ([], SS.chk b)) else ([], SS.chk a) := by
  unfold SS.comb
  by_cases ha : SS.chk a = 0
  · by_cases hb : SS.chk b = 0
    · rw [if_pos ha, if_pos hb, if_pos ha, if_pos hb, fold_set f hff ha hb]
    · rw [if_pos ha, if_neg hb, if_pos ha, if_neg hb]
  · rw [if_neg ha, if_neg ha]
end Go.Proofs.YtpodgkmgameocaaDoor.DQ
