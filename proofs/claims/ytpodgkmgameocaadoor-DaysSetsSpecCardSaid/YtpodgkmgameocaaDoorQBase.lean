/- Proved here: the reference's Check, Same and Has in closed form. -/
import Derived.Test.YtpodgkmgameocaaDoorK
import Derived.Test.YtpodgkmgameocaaDoorX8
import Derived.Test.YtpodgkmgameocaaDoorX14
import Derived.Test.YtpodgkmgameocaaDoorXSets
namespace Go.Proofs.YtpodgkmgameocaaDoor.DQ
open Go.RowKit Go.Proofs.YtpodgkmgameocaaDoorW.PrintWords Go.Proofs.YtpodgkmgameocaaDoorW.PrintMore Go.Proofs.YtpodgkmgameocaaDoor.X Go.Proofs.YtpodgkmgameocaaDoor.K
set_option linter.unusedVariables false
set_option linter.unusedSimpArgs false
instance decS : DecidableEq S45 := fun x y => decidable_of_iff (x.f0 = y.f0 ∧ x.f1 = y.f1) (by cases x; cases y; simp)
theorem rday_f (x : Int) : fastiref12_Day.f x = some (decide (0 ≤ x ∧ x ≤ 73048)) := by
  unfold fastiref12_Day.f
  by_cases h : x ≥ 0
  · rw [if_pos h]
    by_cases h2 : x ≤ 73048
    · rw [decide_eq_true h2, decide_eq_true ⟨h, h2⟩]
    · rw [decide_eq_false h2, decide_eq_false (fun h' => h2 h'.2)]
  · rw [if_neg h, decide_eq_false (fun h' => h h'.1)]
theorem rchk_loop (l : List S45) (hl : l.length ≤ 256) (d : Nat) : ∀ (i : Nat) (last : Int), l.length - i = d → i ≤ l.length → ((i = 0 ∧ last = -2) ∨ (∃ h : i - 1 < l.length, 0 < i ∧ last = l[i - 1].f1 ∧ 0 ≤ last ∧ last ≤ 73048)) → Ev (fun k => fastiref12_Check.l0 k l (i : Int)) (SS.chkGo last (l.drop i)) := by
  induction d with
  | zero =>
    intro i last hd hi h
    obtain rfl : i = l.length := by omega
    rw [List.drop_length]
    refine Ev.eq fun k => ?_
    rw [fastiref12_Check.l0, if_neg (by omega)]
    rfl
  | succ d ih =>
    intro i last hd hi h
    have hlt : i < l.length := by omega
    rw [drop_get hlt, SS.chkGo]
    by_cases hf : 0 ≤ l[i].f0 ∧ l[i].f0 ≤ 73048
    · by_cases ht : 0 ≤ l[i].f1 ∧ l[i].f1 ≤ 73048
      · by_cases hft : l[i].f0 > l[i].f1
        · rw [if_neg (by unfold SS.okS; simp only [Bool.and_eq_true, decide_eq_true_eq]; omega)]
          refine Ev.eq fun k => ?_
          rw [fastiref12_Check.l0, if_pos (by omega), if_pos (by omega), SS.rd45_lt hlt, rday_f, rday_f, decide_eq_true hf, decide_eq_true ht]
          simp only [Option.bind_some, if_true]
          rw [if_pos hft]
        · rcases h with ⟨rfl, rfl⟩ | ⟨hp, h0, rfl, h1, h2⟩
          · rw [if_pos (by unfold SS.okS; simp only [Bool.and_eq_true, decide_eq_true_eq]; omega)]
            refine Ev.step (fun k => ?_) (ih 1 l[0].f1 (by omega) (by omega) (.inr ⟨by omega, by omega, rfl, by omega, by omega⟩))
            have e : rd_T45 l ((0 : Nat) : Int) = l[0] := SS.rd45_lt hlt
            rw [fastiref12_Check.l0, if_pos (by omega), if_pos (by omega), e, rday_f, rday_f, decide_eq_true hf, decide_eq_true ht]
            simp only [Option.bind_some, if_true]
            rw [if_neg hft, if_neg (by omega)]
            have e1 : wrap64 (((0 : Nat) : Int) + 1) = ((1 : Nat) : Int) := w64s 0 (by omega)
            rw [e1]
          · have e1 : wrap64 ((i : Int) - 1) = ((i - 1 : Nat) : Int) := w64p i h0 (by omega)
            have e2 : wrap64 (l[i - 1].f1 + 2) = l[i - 1].f1 + 2 := w64 (by omega) (by omega)
            by_cases hg : l[i].f0 < l[i - 1].f1 + 2
            · rw [if_neg (by unfold SS.okS; simp only [Bool.and_eq_true, decide_eq_true_eq]; omega)]
              refine Ev.eq fun k => ?_
              rw [fastiref12_Check.l0, if_pos (by omega), if_pos (by omega), SS.rd45_lt hlt, rday_f, rday_f, decide_eq_true hf, decide_eq_true ht]
              simp only [Option.bind_some, if_true]
              rw [if_neg hft, if_pos (by omega), e1, if_pos (by omega), if_pos (by omega), SS.rd45_lt hp, e2, if_pos hg]
            · rw [if_pos (by unfold SS.okS; simp only [Bool.and_eq_true, decide_eq_true_eq]; omega)]
              refine Ev.step (fun k => ?_) (ih (i + 1) l[i].f1 (by omega) (by omega) (.inr ⟨by omega, by omega, rfl, by omega, by omega⟩))
              rw [fastiref12_Check.l0, if_pos (by omega), if_pos (by omega), SS.rd45_lt hlt, rday_f, rday_f, decide_eq_true hf, decide_eq_true ht]
              simp only [Option.bind_some, if_true]
              rw [if_neg hft, if_pos (by omega), e1, if_pos (by omega), if_pos (by omega), SS.rd45_lt hp, e2, if_neg hg, w64s i (by omega)]
      · rw [if_neg (by unfold SS.okS; simp only [Bool.and_eq_true, decide_eq_true_eq]; omega)]
        refine Ev.eq fun k => ?_
        rw [fastiref12_Check.l0, if_pos (by omega), if_pos (by omega), SS.rd45_lt hlt, rday_f, rday_f, decide_eq_true hf, decide_eq_false ht]
        simp
    · rw [if_neg (by unfold SS.okS; simp only [Bool.and_eq_true, decide_eq_true_eq]; omega)]
      refine Ev.eq fun k => ?_
      rw [fastiref12_Check.l0, if_pos (by omega), if_pos (by omega), SS.rd45_lt hlt, rday_f, decide_eq_false hf]
      simp
theorem rchk_ev (l : List S45) : Ev (fun k => fastiref12_Check.f k l) (SS.chk l) := by
  unfold SS.chk
  by_cases h : 256 < l.length
  · rw [if_pos h]
    refine Ev.eq fun k => ?_
    unfold fastiref12_Check.f
    rw [if_pos (by omega)]
  · rw [if_neg h]
    have := rchk_loop l (by omega) _ 0 (-2) rfl (Nat.zero_le _) (.inl ⟨rfl, rfl⟩)
    rw [List.drop_zero] at this
    obtain ⟨k, hk⟩ := this
    refine ⟨k, fun n hn => ?_⟩
    show fastiref12_Check.f n l = some _
    unfold fastiref12_Check.f
    rw [if_neg (by omega)]
    exact hk n hn
theorem same_loop (a b : List S45) (hab : a.length = b.length) (hl : a.length < 1000000) (d : Nat) : ∀ i : Nat, a.length - i = d → i ≤ a.length → Ev (fun k => fastiref12_Same.l0 k a b (i : Int)) (decide (a.drop i = b.drop i)) := by
  induction d with
  | zero =>
    intro i hd hi
    refine Ev.eq fun k => ?_
    rw [fastiref12_Same.l0, if_neg (by omega), List.drop_of_length_le (by omega), List.drop_of_length_le (by omega)]
    simp
  | succ d ih =>
    intro i hd hi
    have h1 : i < a.length := by omega
    have h2 : i < b.length := by omega
    have ea : ∀ x y : S45, x = y ↔ (x.f0 = y.f0 ∧ x.f1 = y.f1) := fun x y => by cases x; cases y; simp
    rw [drop_get h1, drop_get h2]
    by_cases he : a[i] = b[i]
    · have hd2 : decide (a[i] :: a.drop (i + 1) = b[i] :: b.drop (i + 1)) = decide (a.drop (i + 1) = b.drop (i + 1)) := decide_eq_decide.2 ⟨fun h => (List.cons.inj h).2, fun h => by rw [he, h]⟩
      rw [hd2]
      refine Ev.step (fun k => ?_) (ih (i + 1) (by omega) (by omega))
      rw [fastiref12_Same.l0, if_pos (by omega), if_pos (by omega), if_pos (by omega), SS.rd45_lt h1, SS.rd45_lt h2, he, w64s i (by omega)]
      simp
    · have hd2 : decide (a[i] :: a.drop (i + 1) = b[i] :: b.drop (i + 1)) = false := decide_eq_false fun h => he (List.cons.inj h).1
      rw [hd2]
      refine Ev.eq fun k => ?_
      rw [fastiref12_Same.l0, if_pos (by omega), if_pos (by omega), if_pos (by omega), SS.rd45_lt h1, SS.rd45_lt h2]
      rw [if_pos]
      rw [ea] at he
      simp only [Bool.or_eq_true, Bool.not_eq_true', beq_eq_false_iff_ne]
      by_cases h3 : a[i].f0 = b[i].f0
      · exact .inr (fun h4 => he ⟨h3, h4⟩)
      · exact .inl h3
theorem same_ev (a b : List S45) (hl : a.length < 1000000) : Ev (fun k => fastiref12_Same.f k a b) (decide (a = b)) := by
  by_cases h : a.length = b.length
  · obtain ⟨k, hk⟩ := same_loop a b h hl _ 0 rfl (Nat.zero_le _)
    refine ⟨k, fun n hn => ?_⟩
    show fastiref12_Same.f n a b = _
    unfold fastiref12_Same.f
    rw [if_pos (by omega)]
    simpa using hk n hn
  · refine Ev.all fun k => ?_
    unfold fastiref12_Same.f
    rw [if_neg (by omega), decide_eq_false (fun e => h (by rw [e]))]
/-- A day is one of a list. -/
def has (l : List S45) (n : Int) : Bool := l.any fun x => decide (x.f0 ≤ n) && decide (n ≤ x.f1)
theorem has_cons (x : S45) (l : List S45) (n : Int) : has (x :: l) n = ((decide (x.f0 ≤ n) && decide (n ≤ x.f1)) || has l n) := rfl
theorem has_loop (l : List S45) (n : Int) (hl : l.length < 1000000) (d : Nat) : ∀ i : Nat, l.length - i = d → i ≤ l.length → Ev (fun k => fastiref12_Has.l0 k l n (i : Int)) (has (l.drop i) n) := by
  induction d with
  | zero =>
    intro i hd hi
    refine Ev.eq fun k => ?_
    rw [fastiref12_Has.l0, if_neg (by omega), List.drop_of_length_le (by omega)]
    rfl
  | succ d ih =>
    intro i hd hi
    have h1 : i < l.length := by omega
    rw [drop_get h1, has_cons]
    by_cases h2 : l[i].f0 ≤ n
    · by_cases h3 : n ≤ l[i].f1
      · rw [decide_eq_true h2, decide_eq_true h3]
        refine Ev.eq fun k => ?_
        rw [fastiref12_Has.l0, if_pos (by omega), if_pos (by omega), SS.rd45_lt h1, if_pos h2, if_pos h3]
        rfl
      · rw [decide_eq_false h3, Bool.and_false, Bool.false_or]
        refine Ev.step (fun k => ?_) (ih (i + 1) (by omega) (by omega))
        rw [fastiref12_Has.l0, if_pos (by omega), if_pos (by omega), SS.rd45_lt h1, if_pos h2, if_neg h3, w64s i (by omega)]
    · rw [decide_eq_false h2, Bool.false_and, Bool.false_or]
      refine Ev.step (fun k => ?_) (ih (i + 1) (by omega) (by omega))
      rw [fastiref12_Has.l0, if_pos (by omega), if_pos (by omega), SS.rd45_lt h1, if_neg h2, w64s i (by omega)]
theorem has_ev (l : List S45) (n : Int) (hl : l.length < 1000000) : Ev (fun k => fastiref12_Has.f k l n) (has l n) := by
  have := has_loop l n hl _ 0 rfl (Nat.zero_le _)
  rwa [List.drop_zero] at this
def good45 (l : List S45) : Prop := ∀ x ∈ l, 0 ≤ x.f0 ∧ x.f0 ≤ x.f1 ∧ x.f1 ≤ 73048
theorem chkGo_good : ∀ (l : List S45) (last : Int), SS.chkGo last l = 0 → good45 l
  | [], _, _ => by intro x hx; simp at hx
  | y :: l, last, h => by
    unfold SS.chkGo at h
    by_cases hk : SS.okS last y = true
    · rw [if_pos hk] at h
      intro x hx
      rcases List.mem_cons.1 hx with rfl | hx
      · unfold SS.okS at hk
        simp only [Bool.and_eq_true, decide_eq_true_eq] at hk
        omega
      · exact chkGo_good l _ h x hx
    · rw [if_neg hk] at h
      cases h
theorem chk_good {l : List S45} (h : SS.chk l = 0) : l.length ≤ 256 ∧ good45 l := by
  unfold SS.chk at h
  by_cases hl : 256 < l.length
  · rw [if_pos hl] at h; cases h
  · rw [if_neg hl] at h
    exact ⟨by omega, chkGo_good l _ h⟩
end Go.Proofs.YtpodgkmgameocaaDoor.DQ
