/- Proved here: which days are in the result of an operation, that it is canonical and short, and that canonical lists with the same days are equal. -/
import Derived.Test.YtpodgkmgameocaaDoorQPts
namespace Go.Proofs.YtpodgkmgameocaaDoor.DQ
open Go.RowKit Go.Proofs.YtpodgkmgameocaaDoorW.PrintWords Go.Proofs.YtpodgkmgameocaaDoorW.PrintMore Go.Proofs.YtpodgkmgameocaaDoor.X Go.Proofs.YtpodgkmgameocaaDoor.K
set_option linter.unusedVariables false
set_option linter.unusedSimpArgs false
theorem has_append (q r : List S45) (n : Int) : has (q ++ r) n = (has q n || has r n) := by simp [has, List.any_append]
theorem has_one (y : S45) (n : Int) : has [y] n = (decide (y.f0 ≤ n) && decide (n ≤ y.f1)) := by simp [has]
/-- Between two points nothing turns. -/
theorem has_const {a : List S45} {n m x : Int} (h : ∀ y ∈ SS.atL a, y ≤ n ∨ m ≤ y) (h1 : n ≤ x) (h2 : x < m) : has a x = has a n := by
  induction a with
  | nil => rfl
  | cons s a ih =>
    have e : SS.atL (s :: a) = s.f0 :: (s.f1 + 1) :: SS.atL a := rfl
    rw [has_cons, has_cons, ih (fun y hy => h y (by rw [e]; exact List.mem_cons_of_mem _ (List.mem_cons_of_mem _ hy)))]
    have h3 := h s.f0 (by rw [e]; exact List.mem_cons_self)
    have h4 := h (s.f1 + 1) (by rw [e]; exact List.mem_cons_of_mem _ List.mem_cons_self)
    have e1 : decide (s.f0 ≤ x) = decide (s.f0 ≤ n) := decide_eq_decide.2 (by omega)
    by_cases h5 : s.f0 ≤ n
    · have e2 : decide (x ≤ s.f1) = decide (n ≤ s.f1) := decide_eq_decide.2 (by omega)
      rw [e1, e2]
    · rw [e1, decide_eq_false h5, Bool.false_and, Bool.false_and]
/-- What refGo keeps: canonical so far, the last span ends ahead of the next point. -/
def CanR (r : List S45) (n : Int) : Prop := Canon (-2) r ∧ ∀ y, r.getLast? = some y → y.f1 + 1 ≤ n
theorem canon_snoc : ∀ {q : List S45} {last : Int} {y : S45}, Canon last (q ++ [y]) ↔ Canon last q ∧ (match q.getLast? with | some z => z.f1 + 2 ≤ y.f0 | none => last + 2 ≤ y.f0) ∧ 0 ≤ y.f0 ∧ y.f0 ≤ y.f1 ∧ y.f1 ≤ 73048
  | [], last, y => by
    simp [Canon]
  | [x], last, y => by
    simp [Canon]
    constructor
    · rintro ⟨h1, h2, h3, h4, h5, h6, h7, h8⟩
      exact ⟨⟨h1, h2, h3, h4⟩, h5, h6, h7, h8⟩
    · rintro ⟨⟨h1, h2, h3, h4⟩, h5, h6, h7, h8⟩
      exact ⟨h1, h2, h3, h4, h5, h6, h7, h8⟩
  | x :: z :: q, last, y => by
    have ih := canon_snoc (q := z :: q) (last := x.f1) (y := y)
    have e : (x :: z :: q).getLast? = (z :: q).getLast? := by simp [List.getLast?_cons_cons]
    rw [e, List.cons_append, Canon, ih]
    show _ ↔ (_ ∧ _ ∧ _ ∧ _ ∧ Canon x.f1 (z :: q)) ∧ _
    constructor
    · rintro ⟨h1, h2, h3, h4, h5, h6, h7⟩
      refine ⟨⟨h1, h2, h3, h4, h5⟩, ?_, h7⟩
      cases hl : (z :: q).getLast? with
      | none => simp at hl
      | some w => rw [hl] at h6; exact h6
    · rintro ⟨⟨h1, h2, h3, h4, h5⟩, h6, h7⟩
      refine ⟨h1, h2, h3, h4, h5, ?_, h7⟩
      cases hl : (z :: q).getLast? with
      | none => simp at hl
      | some w => rw [hl] at h6; exact h6
theorem canR_snoc_last {q : List S45} {y : S45} {n m : Int} (h : CanR (q ++ [y]) n) (hy : y.f1 + 1 = n) (hnm : n < m) (hm : m ≤ 73049) : CanR (q ++ [⟨y.f0, m - 1⟩]) m := by
  obtain ⟨h1, _⟩ := h
  have h2 := canon_snoc.1 h1
  refine ⟨canon_snoc.2 ⟨h2.1, h2.2.1, by simp only; omega, by simp only; omega, by simp only; omega⟩, fun z hz => ?_⟩
  rw [List.getLast?_append] at hz
  simp at hz
  subst hz
  simp only
  omega
theorem canR_append {r : List S45} {n m : Int} (h : CanR r n) (hc : ¬ ∃ y, r.getLast? = some y ∧ y.f1 + 1 = n) (h0 : 0 ≤ n) (hnm : n < m) (hm : m ≤ 73049) : CanR (r ++ [⟨n, m - 1⟩]) m := by
  obtain ⟨h1, h2⟩ := h
  refine ⟨canon_snoc.2 ⟨h1, ?_, by simp only; omega, by simp only; omega, by simp only; omega⟩, fun z hz => ?_⟩
  · cases hl : r.getLast? with
    | none => simp only; omega
    | some z =>
      have h3 := h2 z hl
      have h4 : z.f1 + 1 ≠ n := fun e => hc ⟨z, hl, e⟩
      simp only
      omega
  · rw [List.getLast?_append] at hz
    simp at hz
    subst hz
    simp only
    omega
/-- Whether the last span ends right ahead of a point. -/
def openB (r : List S45) (n : Int) : Nat := if (∃ y, r.getLast? = some y ∧ y.f1 + 1 = n) then 1 else 0
theorem openB_le (r : List S45) (n : Int) : openB r n ≤ 1 := by unfold openB; split <;> omega
def Const (g : Int → Bool) : List Int → Prop
  | n :: m :: l => (∀ x, n ≤ x → x < m → g x = g n) ∧ Const g (m :: l)
  | _ => True
theorem snoc_split {r : List S45} {y : S45} (h : r.getLast? = some y) : ∃ q, r = q ++ [y] := by
  have hne : r ≠ [] := by intro e; subst e; simp at h
  obtain ⟨q, z, rfl⟩ : ∃ q z, r = q ++ [z] := ⟨r.dropLast, r.getLast hne, (List.dropLast_concat_getLast hne).symm⟩
  rw [List.getLast?_append] at h
  simp at h
  exact ⟨q, by rw [h]⟩
theorem step_len (p : Bool) (n m : Int) (r : List S45) (hnm : n < m) (h : CanR r n) :
    2 * (if p = true then (if (∃ y, r.getLast? = some y ∧ y.f1 + 1 = n) then SS.shut (m - 1) r else r ++ [⟨n, m - 1⟩]) else r).length + (1 - openB (if p = true then (if (∃ y, r.getLast? = some y ∧ y.f1 + 1 = n) then SS.shut (m - 1) r else r ++ [⟨n, m - 1⟩]) else r) m) ≤ 2 * r.length + (1 - openB r n) + 1 := by
  by_cases hp : p = true
  · rw [if_pos hp]
    by_cases hc : ∃ y, r.getLast? = some y ∧ y.f1 + 1 = n
    · rw [if_pos hc, CB.shut_len]
      obtain ⟨y, hy, _⟩ := hc
      obtain ⟨q, rfl⟩ := snoc_split hy
      rw [CB.shut_snoc]
      have e1 : openB (q ++ [⟨y.f0, m - 1⟩]) m = 1 := if_pos ⟨⟨y.f0, m - 1⟩, by rw [List.getLast?_append]; rfl, by simp only; omega⟩
      rw [e1]
      omega
    · rw [if_neg hc]
      have e1 : openB (r ++ [⟨n, m - 1⟩]) m = 1 := if_pos ⟨⟨n, m - 1⟩, by rw [List.getLast?_append]; rfl, by simp only; omega⟩
      have e2 : openB r n = 0 := if_neg hc
      rw [e1, e2, List.length_append, List.length_singleton]
      omega
  · rw [if_neg hp]
    have e1 : openB r m = 0 := if_neg (by rintro ⟨y, hy, he⟩; have := h.2 y hy; omega)
    rw [e1]
    have := openB_le r n
    omega
theorem step_has (p : Bool) (n m x : Int) (r : List S45) (h : CanR r n) (hnm : n < m) :
    has (if p = true then (if (∃ y, r.getLast? = some y ∧ y.f1 + 1 = n) then SS.shut (m - 1) r else r ++ [⟨n, m - 1⟩]) else r) x = (has r x || (decide (n ≤ x) && decide (x < m) && p)) := by
  by_cases hp : p = true
  · rw [if_pos hp, hp, Bool.and_true]
    by_cases hc : ∃ y, r.getLast? = some y ∧ y.f1 + 1 = n
    · rw [if_pos hc]
      obtain ⟨y, hy, he⟩ := hc
      obtain ⟨q, rfl⟩ := snoc_split hy
      have hcan := (canon_snoc.1 h.1).2.2
      rw [CB.shut_snoc, has_append, has_append, has_one, has_one, Bool.or_assoc]
      congr 1
      rw [Bool.eq_iff_iff]
      simp only [Bool.or_eq_true, Bool.and_eq_true, decide_eq_true_eq]
      omega
    · rw [if_neg hc, has_append, has_one]
      congr 1
      rw [Bool.eq_iff_iff]
      simp only [Bool.and_eq_true, decide_eq_true_eq]
      omega
  · rw [if_neg hp, Bool.eq_false_iff.2 hp, Bool.and_false, Bool.or_false]
theorem step_can (p : Bool) (n m : Int) (r : List S45) (h : CanR r n) (h0 : 0 ≤ n) (hnm : n < m) (hm : m ≤ 73049) :
    CanR (if p = true then (if (∃ y, r.getLast? = some y ∧ y.f1 + 1 = n) then SS.shut (m - 1) r else r ++ [⟨n, m - 1⟩]) else r) m := by
  by_cases hp : p = true
  · rw [if_pos hp]
    by_cases hc : ∃ y, r.getLast? = some y ∧ y.f1 + 1 = n
    · rw [if_pos hc]
      obtain ⟨y, hy, he⟩ := hc
      obtain ⟨q, rfl⟩ := snoc_split hy
      rw [CB.shut_snoc]
      exact canR_snoc_last h he hnm hm
    · rw [if_neg hc]
      exact canR_append h hc h0 hnm hm
  · rw [if_neg hp]
    exact ⟨h.1, fun y hy => by have := h.2 y hy; omega⟩
theorem last_le : ∀ (l : List Int) (n : Int), (n :: l).Pairwise (· < ·) → n ≤ (n :: l).getLast (by simp) := fun l n h => last_ge h (by simp) List.mem_cons_self
theorem refGo_all (g : Int → Bool) : ∀ (l : List Int) (n : Int) (r : List S45), (n :: l).Pairwise (· < ·) → 0 ≤ n → (∀ y ∈ n :: l, y ≤ 73049) → Const g (n :: l) → CanR r n →
    Canon (-2) (refGo g (n :: l) r) ∧ 2 * (refGo g (n :: l) r).length ≤ 2 * r.length + (1 - openB r n) + l.length ∧
    ∀ x, has (refGo g (n :: l) r) x = (has r x || (decide (n ≤ x) && decide (x < (n :: l).getLast (by simp)) && g x))
  | [], n, r, _, _, _, _, h => by
    refine ⟨h.1, by simp only [refGo, List.length_nil]; omega, fun x => ?_⟩
    rw [refGo, List.getLast_singleton]
    by_cases hx : n ≤ x
    · rw [decide_eq_false (by omega : ¬ x < n)]
      simp
    · rw [decide_eq_false hx]
      simp
  | m :: l, n, r, hs, h0, hle, hc, h => by
    have h1 := List.pairwise_cons.1 hs
    have hnm := h1.1 m List.mem_cons_self
    have hm := hle m (List.mem_cons_of_mem _ List.mem_cons_self)
    obtain ⟨i1, i2, i3⟩ := refGo_all g l m _ h1.2 (by omega) (fun y hy => hle y (List.mem_cons_of_mem _ hy)) hc.2 (step_can (g n) n m r h h0 hnm hm)
    have hlast := last_le l m h1.2
    rw [refGo]
    refine ⟨i1, ?_, fun x => ?_⟩
    · have := step_len (g n) n m r hnm h
      simp only [List.length_cons]
      omega
    · rw [i3 x, step_has (g n) n m x r h hnm, Bool.or_assoc]
      congr 1
      rw [List.getLast_cons (a := n) (l := m :: l) (by simp)]
      by_cases hx : x < m
      · rw [decide_eq_true hx, decide_eq_false (by omega : ¬ m ≤ x), decide_eq_true (by omega : x < (m :: l).getLast (by simp))]
        by_cases hn : n ≤ x
        · rw [decide_eq_true hn, hc.1 x hn hx]
          simp
        · rw [decide_eq_false hn]
          simp
      · rw [decide_eq_false hx, decide_eq_true (by omega : m ≤ x), decide_eq_true (by omega : n ≤ x)]
        simp
theorem const_of {a b : List S45} (f : Bool → Bool → Bool) : ∀ (l : List Int), l.Pairwise (· < ·) → (∀ y, y ∈ SS.atL a ∨ y ∈ SS.atL b → (∀ n ∈ l.head?, y < n) ∨ y ∈ l) → Const (fun x => f (has a x) (has b x)) l
  | [], _, _ => trivial
  | [n], _, _ => trivial
  | n :: m :: l, hs, h => by
    have h1 := List.pairwise_cons.1 hs
    have hnm := h1.1 m List.mem_cons_self
    have gap : ∀ y, y ∈ SS.atL a ∨ y ∈ SS.atL b → y ≤ n ∨ m ≤ y := by
      intro y hy
      rcases h y hy with h2 | h2
      · have := h2 n (by simp)
        omega
      · rcases List.mem_cons.1 h2 with rfl | h3
        · exact .inl (Int.le_refl _)
        · rcases List.mem_cons.1 h3 with rfl | h4
          · exact .inr (Int.le_refl _)
          · have := (List.pairwise_cons.1 h1.2).1 y h4
            omega
    refine ⟨fun x hx1 hx2 => ?_, const_of f (m :: l) h1.2 (fun y hy => ?_)⟩
    · show f (has a x) (has b x) = f (has a n) (has b n)
      rw [has_const (fun y hy => gap y (.inl hy)) hx1 hx2, has_const (fun y hy => gap y (.inr hy)) hx1 hx2]
    · rcases h y hy with h2 | h2
      · have h3 := h2 n (by simp)
        exact .inl (fun z hz => by simp at hz; subst hz; omega)
      · rcases List.mem_cons.1 h2 with rfl | h3
        · exact .inl (fun z hz => by simp at hz; subst hz; exact hnm)
        · exact .inr h3
theorem has_below {l : List S45} {n : Int} (h : ∀ x ∈ l, n < x.f0) : has l n = false := by
  unfold has
  rw [List.any_eq_false]
  intro x hx
  have := h x hx
  simp only [Bool.and_eq_true, decide_eq_true_eq]
  omega
theorem set_all (f : Bool → Bool → Bool) (hff : f false false = false) {a b : List S45} (ha : SS.chk a = 0) (hb : SS.chk b = 0) :
    Canon (-2) (setS f a b) ∧ (setS f a b).length ≤ a.length + b.length ∧ ∀ x, has (setS f a b) x = f (has a x) (has b x) := by
  have hs := pts_asc a b
  have hm := pts_mem a b
  have hval : ∀ y ∈ SS.pts a b, 0 ≤ y ∧ y ≤ 73049 := by
    intro y hy
    have key : ∀ l : List S45, SS.chk l = 0 → y ∈ SS.atL l → 0 ≤ y ∧ y ≤ 73049 := by
      intro l hl h
      obtain ⟨x, hx, h3⟩ := List.mem_flatMap.1 h
      have := (chk_good hl).2 x hx
      simp only [List.mem_cons, List.not_mem_nil, or_false] at h3
      omega
    rcases (hm y).1 hy with h | h
    · exact key a ha h
    · exact key b hb h
  have hlen : (SS.pts a b).length ≤ 2 * (a.length + b.length) := by
    unfold SS.pts
    refine Nat.le_trans (CB.uniq_len _) ?_
    rw [(SS.isort_perm _).length_eq, CB.atL_length, List.length_append]
    exact Nat.le_refl _
  have hconst := const_of (a := a) (b := b) f (SS.pts a b) hs (fun y hy => .inr ((hm y).2 hy))
  unfold setS
  cases hP : SS.pts a b with
  | nil =>
    rw [hP] at hm
    have ea : a = [] := by
      cases a with
      | nil => rfl
      | cons x l => exact absurd ((hm x.f0).2 (.inl (atL_mem List.mem_cons_self).1)) (by simp)
    have eb : b = [] := by
      cases b with
      | nil => rfl
      | cons x l => exact absurd ((hm x.f0).2 (.inr (atL_mem List.mem_cons_self).1)) (by simp)
    subst ea eb
    exact ⟨trivial, Nat.zero_le _, fun x => by rw [refGo]; exact hff.symm⟩
  | cons n l =>
    rw [hP] at hs hm hval hlen hconst
    obtain ⟨i1, i2, i3⟩ := refGo_all (fun x => f (has a x) (has b x)) l n [] hs (hval n List.mem_cons_self).1 (fun y hy => (hval y hy).2) hconst ⟨trivial, fun y hy => by simp at hy⟩
    refine ⟨i1, ?_, fun x => ?_⟩
    · have := openB_le [] n
      simp only [List.length_nil, List.length_cons] at i2 hlen
      omega
    · rw [i3 x]
      show (false || _) = _
      rw [Bool.false_or]
      by_cases h1 : n ≤ x
      · by_cases h2 : x < (n :: l).getLast (by simp)
        · rw [decide_eq_true h1, decide_eq_true h2]; rfl
        · have hA : has a x = false := has_above fun y hy => by
            have := last_ge hs (by simp) ((hm _).2 (.inl (atL_mem hy).2)); omega
          have hB : has b x = false := has_above fun y hy => by
            have := last_ge hs (by simp) ((hm _).2 (.inr (atL_mem hy).2)); omega
          rw [decide_eq_false h2, hA, hB, hff]
          simp
      · have key : ∀ y, y ∈ SS.atL a ∨ y ∈ SS.atL b → n ≤ y := fun y hy => by
          rcases List.mem_cons.1 ((hm y).2 hy) with rfl | h
          · exact Int.le_refl _
          · have := (List.pairwise_cons.1 hs).1 y h; omega
        have hA : has a x = false := has_below fun y hy => by have := key _ (.inl (atL_mem hy).1); omega
        have hB : has b x = false := has_below fun y hy => by have := key _ (.inr (atL_mem hy).1); omega
        rw [decide_eq_false h1, hA, hB, hff]
        simp
theorem canon_chk : ∀ {l : List S45} {last : Int}, Canon last l → SS.chkGo last l = 0
  | [], _, _ => rfl
  | x :: l, last, h => by
    obtain ⟨h1, h2, h3, h4, h5⟩ := h
    unfold SS.chkGo
    rw [if_pos (by unfold SS.okS; simp only [Bool.and_eq_true, decide_eq_true_eq]; omega)]
    exact canon_chk h5
theorem chk_of {l : List S45} (h : Canon (-2) l) (hl : l.length ≤ 256) : SS.chk l = 0 := by
  unfold SS.chk
  rw [if_neg (by omega)]
  exact canon_chk h
/-- Canonical lists with the same days are equal. -/
theorem canon_ext : ∀ {l m : List S45} {pl pm : Int}, Canon pl l → Canon pm m → (∀ x, has l x = has m x) → l = m
  | [], [], _, _, _, _, _ => rfl
  | [], y :: m, _, _, _, hm, h => by
    have h1 := h y.f0
    rw [has_cons, decide_eq_true (Int.le_refl _), decide_eq_true hm.2.2.1] at h1
    simp [has] at h1
  | x :: l, [], _, _, hl, _, h => by
    have h1 := h x.f0
    rw [has_cons, decide_eq_true (Int.le_refl _), decide_eq_true hl.2.2.1] at h1
    simp [has] at h1
  | x :: l, y :: m, pl, pm, hl, hm, h => by
    obtain ⟨_, a2, a3, a4, a5⟩ := hl
    obtain ⟨_, b2, b3, b4, b5⟩ := hm
    have k1 : ∀ {p q : S45} {l' : List S45}, p.f0 ≤ p.f1 → Canon p.f1 l' → q.f0 ≤ q.f1 → has (p :: l') q.f0 = true → p.f0 ≤ q.f0 := by
      intro p q l' hp hc hq ht
      rcases Int.lt_or_le q.f0 p.f0 with h1 | h1
      · rw [has_cons, decide_eq_false (by omega : ¬ p.f0 ≤ q.f0), canon_low hc (by omega)] at ht
        simp at ht
      · exact h1
    have hx0 : has (x :: l) x.f0 = true := by rw [has_cons, decide_eq_true (Int.le_refl _), decide_eq_true a3]; rfl
    have hy0 : has (y :: m) y.f0 = true := by rw [has_cons, decide_eq_true (Int.le_refl _), decide_eq_true b3]; rfl
    have e0 : x.f0 = y.f0 := by
      have h1 := k1 a3 a5 b3 (by rw [h]; exact hy0)
      have h2 := k1 b3 b5 a3 (by rw [← h]; exact hx0)
      omega
    have k2 : ∀ {p q : S45} {l' m' : List S45}, p.f0 = q.f0 → p.f0 ≤ p.f1 → q.f0 ≤ q.f1 → Canon p.f1 l' → (∀ z, has (p :: l') z = has (q :: m') z) → q.f1 ≤ p.f1 := by
      intro p q l' m' he hp hq hc hh
      rcases Int.lt_or_le p.f1 q.f1 with h1 | h1
      · have h2 := hh (p.f1 + 1)
        rw [has_cons, decide_eq_false (by omega : ¬ p.f1 + 1 ≤ p.f1), canon_low hc (by omega), has_cons, decide_eq_true (by omega : q.f0 ≤ p.f1 + 1), decide_eq_true (by omega : p.f1 + 1 ≤ q.f1)] at h2
        simp at h2
      · exact h1
    have e1 : x.f1 = y.f1 := by
      have h1 := k2 e0 a3 b3 a5 h
      have h2 := k2 e0.symm b3 a3 b5 (fun z => (h z).symm)
      omega
    have exy : x = y := by cases x; cases y; simp only at e0 e1; rw [e0, e1]
    subst exy
    congr 1
    refine canon_ext a5 b5 fun z => ?_
    by_cases hz : z < x.f1 + 2
    · rw [canon_low a5 hz, canon_low b5 hz]
    · have h1 := h z
      rw [has_cons, has_cons, decide_eq_false (by omega : ¬ z ≤ x.f1)] at h1
      simpa using h1
theorem comb_set (f : Bool → Bool → Bool) (hff : f false false = false) {a b : List S45} (ha : SS.chk a = 0) (hb : SS.chk b = 0) (h : (setS f a b).length ≤ 256) : SS.comb f a b = (setS f a b, 0) := by
  rw [comb_eq f hff, if_pos ha, if_pos hb, if_neg (by omega)]
end Go.Proofs.YtpodgkmgameocaaDoor.DQ
