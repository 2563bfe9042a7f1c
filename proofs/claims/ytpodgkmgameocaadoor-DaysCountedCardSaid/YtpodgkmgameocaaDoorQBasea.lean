/- Proved here: the reference's Same in closed form, which days are in a list, and what a list that Check accepts holds. -/
import Derived.Test.YtpodgkmgameocaaDoorK
import Derived.Test.YtpodgkmgameocaaDoorX5
import Derived.Test.YtpodgkmgameocaaDoorX7
import Derived.Test.YtpodgkmgameocaaDoorXSets
namespace Go.Proofs.YtpodgkmgameocaaDoor.DQ
open Go.RowKit Go.Proofs.YtpodgkmgameocaaDoorW.PrintWords Go.Proofs.YtpodgkmgameocaaDoorW.PrintMore Go.Proofs.YtpodgkmgameocaaDoor.X Go.Proofs.YtpodgkmgameocaaDoor.K
set_option linter.unusedVariables false
set_option linter.unusedSimpArgs false
instance decS : DecidableEq S45 := fun x y => decidable_of_iff (x.f0 = y.f0 ∧ x.f1 = y.f1) (by cases x; cases y; simp)
theorem rday_f (x : Int) : fastiref12_Day.f x = some (decide (0 ≤ x ∧ x ≤ 73048)) := by
  unfold fastiref12_Day.f
  by_cases h : x ≥ 0
  · rw [if_pos h]
    by_cases h2 : x ≤ 73048
    · rw [decide_eq_true h2, decide_eq_true ⟨h, h2⟩]
    · rw [decide_eq_false h2, decide_eq_false (fun h' => h2 h'.2)]
  · rw [if_neg h, decide_eq_false (fun h' => h h'.1)]
theorem same_loop (a b : List S45) (hab : a.length = b.length) (hl : a.length < 1000000) (d : Nat) : ∀ i : Nat, a.length - i = d → i ≤ a.length → Ev (fun k => fastiref12_Same.l0 k a b (i : Int)) (decide (a.drop i = b.drop i)) := by
  induction d with
  | zero =>
    intro i hd hi
    refine Ev.eq fun k => ?_
    rw [fastiref12_Same.l0, if_neg (by omega), List.drop_of_length_le (by omega), List.drop_of_length_le (by omega)]
    simp
  | succ d ih =>
    intro i hd hi
    have h1 : i < a.length := by omega
    have h2 : i < b.length := by omega
    have ea : ∀ x y : S45, x = y ↔ (x.f0 = y.f0 ∧ x.f1 = y.f1) := fun x y => by cases x; cases y; simp
    rw [drop_get h1, drop_get h2]
    by_cases he : a[i] = b[i]
    · have hd2 : decide (a[i] :: a.drop (i + 1) = b[i] :: b.drop (i + 1)) = decide (a.drop (i + 1) = b.drop (i + 1)) := decide_eq_decide.2 ⟨fun h => (List.cons.inj h).2, fun h => by rw [he, h]⟩
      rw [hd2]
      refine Ev.step (fun k => ?_) (ih (i + 1) (by omega) (by omega))
      rw [fastiref12_Same.l0, if_pos (by omega), if_pos (by omega), if_pos (by omega), SS.rd45_lt h1, SS.rd45_lt h2, he, w64s i (by omega)]
      simp
    · have hd2 : decide (a[i] :: a.drop (i + 1) = b[i] :: b.drop (i + 1)) = false := decide_eq_false fun h => he (List.cons.inj h).1
      rw [hd2]
      refine Ev.eq fun k => ?_
      rw [fastiref12_Same.l0, if_pos (by omega), if_pos (by omega), if_pos (by omega), SS.rd45_lt h1, SS.rd45_lt h2]
      rw [if_pos]
      rw [ea] at he
      simp only [Bool.or_eq_true, Bool.not_eq_true', beq_eq_false_iff_ne]
      by_cases h3 : a[i].f0 = b[i].f0
      · exact .inr (fun h4 => he ⟨h3, h4⟩)
      · exact .inl h3
theorem same_ev (a b : List S45) (hl : a.length < 1000000) : Ev (fun k => fastiref12_Same.f k a b) (decide (a = b)) := by
  by_cases h : a.length = b.length
  · obtain ⟨k, hk⟩ := same_loop a b h hl _ 0 rfl (Nat.zero_le _)
    refine ⟨k, fun n hn => ?_⟩
    show fastiref12_Same.f n a b = _
    unfold fastiref12_Same.f
    rw [if_pos (by omega)]
    simpa using hk n hn
  · refine Ev.all fun k => ?_
    unfold fastiref12_Same.f
    rw [if_neg (by omega), decide_eq_false (fun e => h (by rw [e]))]
/-- A day is one of a list. -/
def has (l : List S45) (n : Int) : Bool := l.any fun x => decide (x.f0 ≤ n) && decide (n ≤ x.f1)
theorem has_cons (x : S45) (l : List S45) (n : Int) : has (x :: l) n = ((decide (x.f0 ≤ n) && decide (n ≤ x.f1)) || has l n) := rfl
def good45 (l : List S45) : Prop := ∀ x ∈ l, 0 ≤ x.f0 ∧ x.f0 ≤ x.f1 ∧ x.f1 ≤ 73048
theorem chkGo_good : ∀ (l : List S45) (last : Int), SS.chkGo last l = 0 → good45 l
  | [], _, _ => by intro x hx; simp at hx
  | y :: l, last, h => by
    unfold SS.chkGo at h
    by_cases hk : SS.okS last y = true
    · rw [if_pos hk] at h
      intro x hx
      rcases List.mem_cons.1 hx with rfl | hx
      · unfold SS.okS at hk
        simp only [Bool.and_eq_true, decide_eq_true_eq] at hk
        omega
      · exact chkGo_good l _ h x hx
    · rw [if_neg hk] at h
      cases h
theorem chk_good {l : List S45} (h : SS.chk l = 0) : l.length ≤ 256 ∧ good45 l := by
  unfold SS.chk at h
  by_cases hl : 256 < l.length
  · rw [if_pos hl] at h; cases h
  · rw [if_neg hl] at h
    exact ⟨by omega, chkGo_good l _ h⟩
end Go.Proofs.YtpodgkmgameocaaDoor.DQ
