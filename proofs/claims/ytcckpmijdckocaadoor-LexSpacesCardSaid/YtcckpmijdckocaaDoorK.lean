/- Small plain lemmas of this project on lists, whole numbers and rounds ('Ev'), used by the hand-written parts. No program in sight. -/
import Derived.Test.YtcckpmijdckocaaDoorWWords
import Derived.Test.YtcckpmijdckocaaDoorWMore
namespace Go.Proofs.YtcckpmijdckocaaDoor.K
open Go.RowKit Go.Proofs.YtcckpmijdckocaaDoorW.PrintWords Go.Proofs.YtcckpmijdckocaaDoorW.PrintMore

theorem w64 {x : Int} (h0 : -9223372036854775808 ≤ x) (h1 : x ≤ 9223372036854775807) : wrap64 x = x := by unfold wrap64; omega
theorem w64s (i : Nat) (h : i < 4611686018427387904) : wrap64 ((i : Int) + 1) = ((i + 1 : Nat) : Int) := by unfold wrap64; omega
theorem w64p (i : Nat) (h0 : 0 < i) (h : i < 4611686018427387904) : wrap64 ((i : Int) - 1) = ((i - 1 : Nat) : Int) := by unfold wrap64; omega
theorem rdn (l : List Int) (i : Nat) : rd l (i : Int) = l.getD i 0 := by simp [rd]
theorem rd_lt {l : List Int} {i : Nat} (h : i < l.length) : rd l (i : Int) = l[i] := by simp [rd, List.getD_eq_getElem?_getD, List.getElem?_eq_getElem h]
theorem rd_mem {l : List Int} {i : Nat} (h : i < l.length) : rd l (i : Int) ∈ l := by rw [rd_lt h]; exact List.getElem_mem h
theorem getD_lt {α : Type} {l : List α} {i : Nat} (h : i < l.length) (d : α) : l.getD i d = l[i] := by simp [List.getD_eq_getElem?_getD, List.getElem?_eq_getElem h]
theorem drop_get {α : Type} {l : List α} {i : Nat} (h : i < l.length) : l.drop i = l[i] :: l.drop (i + 1) := List.drop_eq_getElem_cons h
theorem take_get {α : Type} {l : List α} {i : Nat} (h : i < l.length) : l.take (i + 1) = l.take i ++ [l[i]] := by rw [List.take_succ_eq_append_getElem h]
theorem drop_rd {l : List Int} {i : Nat} (h : i < l.length) : l.drop i = rd l (i : Int) :: l.drop (i + 1) := by rw [rd_lt h]; exact drop_get h
theorem maxLen_eq : maxLen = 9223372036854775807 := rfl

/-- Rounds: an answer that is there at once. -/
theorem Ev.eq {α : Type} {g : Nat → Option α} {r : α} (h : ∀ k, g (k + 1) = some r) : Ev g r := Ev.step (f := fun _ => some r) h (Ev.now r)
theorem Ev.all {α : Type} {g : Nat → Option α} {r : α} (h : ∀ k, g k = some r) : Ev g r := ⟨0, fun k _ => h k⟩
theorem Ev.uniq {α : Type} {g : Nat → Option α} {r s : α} (h : Ev g r) (h' : Ev g s) : r = s := by
  obtain ⟨K, h⟩ := h
  obtain ⟨K', h'⟩ := h'
  have a := h (max K K') (by omega)
  have b := h' (max K K') (by omega)
  rw [a] at b
  exact Option.some.inj b
theorem Ev.bind1 {α β : Type} {g : Nat → Option α} {f : Nat → α → Option β} {a : α} {r : β} (h : Ev g a) (k : Ev (fun n => f n a) r) : Ev (fun n => (g n).bind fun x => f n x) r := Ev.bind h k

theorem foldl_mn (l : List Int) : ∀ (m c : Int), c ≤ l.foldl mn m ↔ c ≤ m ∧ ∀ x ∈ l, c ≤ x := by
  induction l with
  | nil => intro m c; simp
  | cons a l ih =>
    intro m c
    rw [List.foldl_cons, ih]
    have h : c ≤ mn m a ↔ c ≤ m ∧ c ≤ a := by unfold mn; split <;> omega
    rw [h]
    simp only [List.mem_cons, forall_eq_or_imp, and_assoc]
theorem foldl_mx (l : List Int) : ∀ (m c : Int), l.foldl mx m ≤ c ↔ m ≤ c ∧ ∀ x ∈ l, x ≤ c := by
  induction l with
  | nil => intro m c; simp
  | cons a l ih =>
    intro m c
    rw [List.foldl_cons, ih]
    have h : mx m a ≤ c ↔ m ≤ c ∧ a ≤ c := by unfold mx; split <;> omega
    rw [h]
    simp only [List.mem_cons, forall_eq_or_imp, and_assoc]

/-- Strictly increasing. -/
def asc : List Int → Bool
  | a :: b :: l => decide (a < b) && asc (b :: l)
  | _ => true
theorem asc_cons {a : Int} {l : List Int} (h : asc (a :: l) = true) : asc l = true := by
  cases l with
  | nil => rfl
  | cons b l => simp only [asc, Bool.and_eq_true] at h; exact h.2
theorem asc_lt {l : List Int} : ∀ {a : Int}, asc (a :: l) = true → ∀ x ∈ l, a < x := by
  induction l with
  | nil => intro a _ x hx; simp at hx
  | cons b l ih =>
    intro a h x hx
    simp only [asc, Bool.and_eq_true, decide_eq_true_eq] at h
    rcases List.mem_cons.1 hx with rfl | hx
    · exact h.1
    · have := ih h.2 x hx; omega
theorem asc_drop {l : List Int} (h : asc l = true) : ∀ i, asc (l.drop i) = true := by
  induction l with
  | nil => intro i; simp [asc]
  | cons a l ih =>
    intro i
    cases i with
    | zero => exact h
    | succ i => exact ih (asc_cons h) i
theorem asc_get {l : List Int} (h : asc l = true) {i j : Nat} (hij : i < j) (hj : j < l.length) : l[i] < l[j] := by
  have h1 := asc_drop h i
  rw [drop_get (by omega : i < l.length)] at h1
  refine asc_lt h1 _ ?_
  have : l[j] = (l.drop (i + 1))[j - (i + 1)]'(by simp; omega) := by
    simp only [List.getElem_drop]
    congr 1
    omega
  rw [this]
  exact List.getElem_mem _
theorem asc_le {l : List Int} (h : asc l = true) {i j : Nat} (hij : i ≤ j) (hj : j < l.length) : l[i]'(by omega) ≤ l[j] := by
  rcases Nat.lt_or_ge i j with h1 | h1
  · exact Int.le_of_lt (asc_get h h1 hj)
  · have : i = j := by omega
    subst this
    exact Int.le_refl _
theorem asc_of {l : List Int} (h : ∀ i, (hi : i + 1 < l.length) → l[i] < l[i + 1]) : asc l = true := by
  induction l with
  | nil => rfl
  | cons a l ih =>
    cases l with
    | nil => rfl
    | cons b l =>
      simp only [asc, Bool.and_eq_true, decide_eq_true_eq]
      exact ⟨h 0 (by simp), ih fun i hi => h (i + 1) (by simpa using hi)⟩

/-- The first place at which a list is not below t. -/
def lb (l : List Int) (t : Int) : Nat := (l.takeWhile fun x => decide (x < t)).length
theorem lb_le (l : List Int) (t : Int) : lb l t ≤ l.length := (List.takeWhile_sublist _).length_le
theorem lb_cons (a : Int) (l : List Int) (t : Int) : lb (a :: l) t = if a < t then lb l t + 1 else 0 := by
  unfold lb
  rw [List.takeWhile_cons]
  by_cases h : a < t <;> simp [h]
theorem lb_below (l : List Int) (t : Int) : ∀ {i : Nat} (hi : i < l.length), i < lb l t → l[i] < t := by
  induction l with
  | nil => intro i hi; simp at hi
  | cons a l ih =>
    intro i hi h
    rw [lb_cons] at h
    by_cases ha : a < t
    · rw [if_pos ha] at h
      cases i with
      | zero => exact ha
      | succ i => exact ih (by simpa using hi) (by omega)
    · rw [if_neg ha] at h; omega
theorem lb_at (l : List Int) (t : Int) : ∀ (h : lb l t < l.length), t ≤ l[lb l t] := by
  induction l with
  | nil => intro h; simp at h
  | cons a l ih =>
    intro h
    by_cases ha : a < t
    · have e : lb (a :: l) t = lb l t + 1 := by rw [lb_cons, if_pos ha]
      simp only [e, List.getElem_cons_succ]
      exact ih (by rw [e] at h; simpa using h)
    · have e : lb (a :: l) t = 0 := by rw [lb_cons, if_neg ha]
      simp only [e, List.getElem_cons_zero]
      omega
theorem lb_above {l : List Int} (hs : asc l = true) (t : Int) {i : Nat} (hi : i < l.length) (h : lb l t ≤ i) : t ≤ l[i] := by
  have h1 := lb_at l t (by omega)
  have h2 := asc_le hs h hi
  omega
/-- Of an increasing list: below t exactly ahead of the place. -/
theorem lb_iff {l : List Int} (hs : asc l = true) (t : Int) {i : Nat} (hi : i < l.length) : l[i] < t ↔ i < lb l t := by
  constructor
  · intro h
    rcases Nat.lt_or_ge i (lb l t) with h1 | h1
    · exact h1
    · have := lb_above hs t hi h1; omega
  · exact lb_below l t hi
end Go.Proofs.YtcckpmijdckocaaDoor.K
