/- Proved here: how many days the results of the operations have, and which day has which index. -/
import Derived.Test.YtpodgkmgameocaaDoorQCnt
import Derived.Test.YtpodgkmgameocaaDoorQMembers
namespace Go.Proofs.YtpodgkmgameocaaDoor.DQ
open Go.RowKit Go.Proofs.YtpodgkmgameocaaDoorW.PrintWords Go.Proofs.YtpodgkmgameocaaDoorW.PrintMore Go.Proofs.YtpodgkmgameocaaDoor.X Go.Proofs.YtpodgkmgameocaaDoor.K
set_option linter.unusedVariables false
set_option linter.unusedSimpArgs false
def b2 (b : Bool) : Int := if b then 1 else 0
/-- How many of the numbers below N a test lets in. -/
def num (g : Int → Bool) : Nat → Int
  | 0 => 0
  | N + 1 => num g N + b2 (g (N : Int))
theorem num_congr {g h : Int → Bool} : ∀ (N : Nat), (∀ x : Int, 0 ≤ x → x < N → g x = h x) → num g N = num h N
  | 0, _ => rfl
  | N + 1, H => by
    rw [num, num, num_congr N (fun x h0 h1 => H x h0 (by omega)), H (N : Int) (by omega) (by omega)]
theorem num_add {f g h i : Int → Bool} : ∀ (N : Nat), (∀ x : Int, b2 (f x) + b2 (g x) = b2 (h x) + b2 (i x)) → num f N + num g N = num h N + num i N
  | 0, _ => rfl
  | N + 1, H => by
    have h1 := num_add N H
    have h2 := H (N : Int)
    rw [num, num, num, num]
    omega
theorem num_or {g h : Int → Bool} (N : Nat) (hd : ∀ x, g x = true → h x = false) : num (fun x => g x || h x) N = num g N + num h N := by
  have h0 : ∀ N, num (fun _ => false) N = 0 := by
    intro N
    induction N with
    | zero => rfl
    | succ N ih => rw [num, ih]; rfl
  have h1 := num_add (f := fun x => g x || h x) (g := fun _ => false) (h := g) (i := h) N (fun x => by
    have := hd x
    cases hg : g x <;> cases hh : h x
    · rfl
    · rfl
    · rfl
    · rw [hg, hh] at this; exact absurd (this rfl) (by decide))
  rw [h0] at h1
  omega
theorem num_ivl (a b : Int) (ha : 0 ≤ a) : ∀ (N : Nat), num (fun x => decide (a ≤ x) && decide (x ≤ b)) N = (if a ≤ min b ((N : Int) - 1) then min b ((N : Int) - 1) - a + 1 else 0)
  | 0 => by
    rw [num, if_neg]
    omega
  | N + 1 => by
    rw [num, num_ivl a b ha N]
    by_cases h1 : a ≤ (N : Int)
    · by_cases h2 : (N : Int) ≤ b
      · rw [decide_eq_true h1, decide_eq_true h2]
        show _ + 1 = _
        rw [if_pos (by omega : a ≤ min b (((N + 1 : Nat) : Int) - 1))]
        split <;> omega
      · rw [decide_eq_false h2, Bool.and_false]
        show _ + 0 = _
        by_cases h3 : a ≤ b
        · rw [if_pos (by omega), if_pos (by omega)]; omega
        · rw [if_neg (by omega), if_neg (by omega)]; omega
    · rw [decide_eq_false h1, Bool.false_and]
      show _ + 0 = _
      rw [if_neg (by omega), if_neg (by omega)]
      omega
theorem cnt_num : ∀ {l : List S45} {last : Int}, Canon last l → cnt l = num (has l) 73049
  | [], _, _ => by
    have h0 : ∀ N, num (has []) N = 0 := by
      intro N
      induction N with
      | zero => rfl
      | succ N ih => rw [num, ih]; rfl
    rw [h0]
    rfl
  | x :: l, last, h => by
    obtain ⟨h1, h2, h3, h4, h5⟩ := h
    have e : num (has (x :: l)) 73049 = num (fun n => (decide (x.f0 ≤ n) && decide (n ≤ x.f1)) || has l n) 73049 := rfl
    rw [e, num_or 73049 (fun n hn => by
      simp only [Bool.and_eq_true, decide_eq_true_eq] at hn
      exact canon_low h5 (by omega)), num_ivl x.f0 x.f1 h2, cnt, cnt_num h5, if_pos (by omega)]
    omega
theorem cnt_nonneg : ∀ {l : List S45} {last : Int}, Canon last l → 0 ≤ cnt l
  | [], _, _ => Int.le_refl _
  | x :: l, last, h => by
    have := cnt_nonneg h.2.2.2.2
    have h3 := h.2.2.1
    rw [cnt]
    omega
theorem cnt_le {l : List S45} {last : Int} (h : Canon last l) : cnt l ≤ 73049 := by
  rw [cnt_num h]
  have : ∀ N, num (has l) N ≤ N := by
    intro N
    induction N with
    | zero => exact Int.le_refl _
    | succ N ih =>
      rw [num]
      have : b2 (has l (N : Int)) ≤ 1 := by unfold b2; split <;> omega
      omega
  exact this 73049
/-- The day with an index: it is in the list, and so many days are not behind it. -/
theorem nth_ok : ∀ {l : List S45} {last : Int} (k : Int), Canon last l → 0 ≤ k → k < cnt l → ∃ day, nth l k = (day, true, 0) ∧ has l day = true ∧ 0 ≤ day ∧ day ≤ 73048 ∧ num (fun n => has l n && decide (n ≤ day)) 73049 = k + 1
  | [], _, k, _, h0, h1 => by simp only [cnt] at h1; omega
  | x :: l, last, k, h, h0, h1 => by
    obtain ⟨c1, c2, c3, c4, c5⟩ := h
    rw [cnt] at h1
    unfold nth
    by_cases hk : k < x.f1 - x.f0 + 1
    · rw [if_pos hk]
      refine ⟨x.f0 + k, rfl, ?_, by omega, by omega, ?_⟩
      · rw [has_cons, decide_eq_true (by omega), decide_eq_true (by omega)]; rfl
      · have e : num (fun n => has (x :: l) n && decide (n ≤ x.f0 + k)) 73049 = num (fun n => decide (x.f0 ≤ n) && decide (n ≤ x.f0 + k)) 73049 := num_congr _ fun n _ _ => by
          show (has (x :: l) n && decide (n ≤ x.f0 + k)) = (decide (x.f0 ≤ n) && decide (n ≤ x.f0 + k))
          rw [has_cons]
          by_cases hn : n ≤ x.f0 + k
          · rw [canon_low c5 (by omega), decide_eq_true hn, decide_eq_true (by omega : n ≤ x.f1)]; simp
          · rw [decide_eq_false hn]; simp
        rw [e, num_ivl x.f0 (x.f0 + k) c2, if_pos (by omega)]
        omega
    · rw [if_neg hk]
      obtain ⟨day, d1, d2, d3, d4, d5⟩ := nth_ok (k - (x.f1 - x.f0 + 1)) c5 (by omega) (by omega)
      refine ⟨day, d1, by rw [has_cons, d2]; simp, d3, d4, ?_⟩
      have hday : x.f1 + 2 ≤ day := by
        apply Classical.byContradiction
        intro hc
        rw [canon_low c5 (by omega)] at d2
        cases d2
      have e : num (fun n => has (x :: l) n && decide (n ≤ day)) 73049 = num (fun n => (decide (x.f0 ≤ n) && decide (n ≤ x.f1)) || (has l n && decide (n ≤ day))) 73049 := num_congr _ fun n _ _ => by
        show (has (x :: l) n && decide (n ≤ day)) = ((decide (x.f0 ≤ n) && decide (n ≤ x.f1)) || (has l n && decide (n ≤ day)))
        rw [has_cons]
        by_cases hn : n ≤ day
        · rw [decide_eq_true hn]; simp
        · rw [decide_eq_false hn, decide_eq_false (by omega : ¬ n ≤ x.f1)]; simp
      rw [e, num_or 73049 (fun n hn => by
        simp only [Bool.and_eq_true, decide_eq_true_eq] at hn
        rw [canon_low c5 (by omega)]; rfl), num_ivl x.f0 x.f1 c2, d5, if_pos (by omega)]
      omega
theorem nth_none : ∀ {l : List S45} {last : Int} (k : Int), Canon last l → cnt l ≤ k → nth l k = (0, false, 0)
  | [], _, k, _, _ => rfl
  | x :: l, last, k, h, h1 => by
    have h2 := cnt_nonneg h.2.2.2.2
    rw [cnt] at h1
    unfold nth
    rw [if_neg (by omega)]
    exact nth_none _ h.2.2.2.2 (by omega)
/-- What DaysCounted says of the sets. -/
theorem set_counts {a b : List S45} (ha : SS.chk a = 0) (hb : SS.chk b = 0) :
    cnt (setS (fun u v => u || v) a b) + cnt (setS (fun u v => u && v) a b) = cnt a + cnt b ∧ cnt (setS (fun u v => u && !v) a b) = cnt a - cnt (setS (fun u v => u && v) a b) := by
  obtain ⟨u1, _, u3⟩ := set_all (fun u v => u || v) rfl ha hb
  obtain ⟨m1, _, m3⟩ := set_all (fun u v => u && v) rfl ha hb
  obtain ⟨w1, _, w3⟩ := set_all (fun u v => u && !v) rfl ha hb
  rw [cnt_num u1, cnt_num m1, cnt_num w1, cnt_num (chk_canon ha), cnt_num (chk_canon hb)]
  constructor
  · refine num_add _ fun x => ?_
    rw [u3, m3]
    cases has a x <;> cases has b x <;> rfl
  · have := num_add (f := has (setS (fun u v => u && !v) a b)) (g := has (setS (fun u v => u && v) a b)) (h := has a) (i := fun _ => false) 73049 (fun x => by
      rw [w3, m3]
      cases has a x <;> cases has b x <;> rfl)
    have h0 : ∀ N, num (fun _ => false) N = 0 := by
      intro N
      induction N with
      | zero => rfl
      | succ N ih => rw [num, ih]; rfl
    rw [h0] at this
    omega
/-- The days up to a day. -/
theorem set_before {u : List S45} (hu : SS.chk u = 0) {day : Int} (h0 : 0 ≤ day) (h1 : day ≤ 73048) : SS.chk [⟨0, day⟩] = 0 ∧ cnt (setS (fun u v => u && v) u [⟨0, day⟩]) = num (fun n => has u n && decide (n ≤ day)) 73049 ∧ Canon (-2) (setS (fun u v => u && v) u [⟨0, day⟩]) ∧ (setS (fun u v => u && v) u [⟨0, day⟩]).length ≤ u.length + 1 := by
  have hc : SS.chk [⟨0, day⟩] = 0 := chk_of (l := [⟨0, day⟩]) ⟨by simp, by simp, h0, h1, trivial⟩ (by simp)
  obtain ⟨m1, m2, m3⟩ := set_all (fun u v => u && v) rfl hu hc
  refine ⟨hc, ?_, m1, m2⟩
  rw [cnt_num m1]
  refine num_congr _ fun x hx _ => ?_
  show has _ x = _
  rw [m3, has_one, decide_eq_true hx]
  simp
theorem canon_neg {l : List S45} {last x : Int} (h : Canon last l) (hx : ¬ 0 ≤ x) : has l x = false := by
  refine has_below fun y hy => ?_
  have : ∀ {l : List S45} {last : Int}, Canon last l → ∀ y ∈ l, 0 ≤ y.f0 := by
    intro l
    induction l with
    | nil => intro _ _ y hy; simp at hy
    | cons z l ih =>
      intro last h y hy
      rcases List.mem_cons.1 hy with rfl | hy
      · exact h.2.1
      · exact ih h.2.2.2.2 y hy
  have := this h y hy
  omega
/-- A list up to a day. -/
def trunc (day : Int) : List S45 → List S45
  | [] => []
  | x :: l => if x.f1 ≤ day then x :: trunc day l else if x.f0 ≤ day then [⟨x.f0, day⟩] else []
theorem trunc_len (day : Int) : ∀ l : List S45, (trunc day l).length ≤ l.length
  | [] => Nat.le_refl _
  | x :: l => by
    have := trunc_len day l
    unfold trunc
    split
    · simp only [List.length_cons]; omega
    · split <;> simp only [List.length_cons, List.length_nil] <;> omega
theorem trunc_canon {day : Int} (hd : day ≤ 73048) : ∀ {l : List S45} {last : Int}, Canon last l → Canon last (trunc day l)
  | [], _, h => h
  | x :: l, last, h => by
    obtain ⟨h1, h2, h3, h4, h5⟩ := h
    unfold trunc
    split
    · exact ⟨h1, h2, h3, h4, trunc_canon hd h5⟩
    · split
      · exact ⟨h1, h2, by simp only; omega, by simp only; omega, trivial⟩
      · trivial
theorem trunc_has {day : Int} : ∀ {l : List S45} {last : Int} (n : Int), Canon last l → has (trunc day l) n = (has l n && decide (n ≤ day))
  | [], _, _, _ => rfl
  | x :: l, last, n, h => by
    obtain ⟨h1, h2, h3, h4, h5⟩ := h
    unfold trunc
    by_cases c1 : x.f1 ≤ day
    · rw [if_pos c1, has_cons, has_cons, trunc_has n h5]
      by_cases hn : n ≤ day
      · rw [decide_eq_true hn]; simp
      · rw [decide_eq_false hn, decide_eq_false (by omega : ¬ n ≤ x.f1)]; simp
    · rw [if_neg c1]
      by_cases c2 : x.f0 ≤ day
      · rw [if_pos c2, has_one, has_cons]
        by_cases hn : n ≤ day
        · rw [decide_eq_true hn, canon_low h5 (by omega), decide_eq_true (by omega : n ≤ x.f1)]; simp
        · rw [decide_eq_false hn]; simp
      · rw [if_neg c2, has_cons]
        by_cases hn : n ≤ day
        · rw [decide_eq_false (by omega : ¬ x.f0 ≤ n), canon_low h5 (by omega)]; rfl
        · rw [decide_eq_false hn]; simp [has]
/-- The meet of a list with the days up to a day is no longer than the list. -/
theorem before_len {u : List S45} (hu : SS.chk u = 0) {day : Int} (h0 : 0 ≤ day) (h1 : day ≤ 73048) : (setS (fun u v => u && v) u [⟨0, day⟩]).length ≤ 256 := by
  have hc : SS.chk [⟨0, day⟩] = 0 := chk_of (l := [⟨0, day⟩]) ⟨by simp, by simp, h0, h1, trivial⟩ (by simp)
  obtain ⟨m1, m2, m3⟩ := set_all (fun u v => u && v) rfl hu hc
  have hcu := chk_canon hu
  have e : setS (fun u v => u && v) u [⟨0, day⟩] = trunc day u := canon_ext m1 (trunc_canon h1 hcu) fun x => by
    rw [m3, trunc_has x hcu, has_one]
    by_cases hx : 0 ≤ x
    · rw [decide_eq_true hx]; simp
    · rw [canon_neg hcu hx]; simp
  rw [e]
  exact Nat.le_trans (trunc_len day u) (chk_good hu).1
end Go.Proofs.YtpodgkmgameocaaDoor.DQ
