/- Proved here: days.Count and days.Nth in closed form. -/
import Derived.Test.YtpodgkmgameocaaDoorQBasea
namespace Go.Proofs.YtpodgkmgameocaaDoor.DQ
open Go Go.RowKit Go.Proofs.YtpodgkmgameocaaDoorW.PrintWords Go.Proofs.YtpodgkmgameocaaDoorW.PrintMore Go.Proofs.YtpodgkmgameocaaDoor.X Go.Proofs.YtpodgkmgameocaaDoor.K
set_option linter.unusedVariables false
set_option linter.unusedSimpArgs false
/-- The days of a list. -/
def cnt : List S45 → Int
  | [] => 0
  | x :: l => (x.f1 - x.f0 + 1) + cnt l
/-- The day with an index. -/
def nth : List S45 → Int → Int × Bool × Int
  | [], _ => (0, false, 0)
  | x :: l, k => if k < x.f1 - x.f0 + 1 then (x.f0 + k, true, 0) else nth l (k - (x.f1 - x.f0 + 1))
theorem count_loop (l : List S45) (hl : l.length ≤ 256) (hg : good45 l) (d : Nat) : ∀ (i : Nat) (s : Int), l.length - i = d → i ≤ l.length → 0 ≤ s → s ≤ i * 73049 → Ev (fun k => days_Count.l0 k s l (l.length : Int) (i : Int)) (s + cnt (l.drop i), 0) := by
  induction d with
  | zero =>
    intro i s hd hi h0 h1
    refine Ev.eq fun k => ?_
    rw [days_Count.l0, if_neg (by omega), List.drop_of_length_le (by omega), cnt, Int.add_zero]
  | succ d ih =>
    intro i s hd hi h0 h1
    have hlt : i < l.length := by omega
    have hx := hg l[i] (List.getElem_mem hlt)
    rw [drop_get hlt, cnt, ← Int.add_assoc]
    refine Ev.step (fun k => ?_) (ih (i + 1) (s + (l[i].f1 - l[i].f0 + 1)) (by omega) (by omega) (by omega) (by omega))
    rw [days_Count.l0, if_pos (by omega), if_pos (by omega), if_pos (by omega), SS.rd45_lt hlt, w64s i (by omega), w64 (x := l[i].f1 - l[i].f0) (by omega) (by omega), w64 (x := l[i].f1 - l[i].f0 + 1) (by omega) (by omega), w64 (x := s + (l[i].f1 - l[i].f0 + 1)) (by omega) (by omega)]
theorem count_ev (l : List S45) : Ev (fun k => days_Count.f k l) (if SS.chk l = 0 then (cnt l, 0) else (0, SS.chk l)) := by
  unfold days_Count.f
  refine Ev.bind (SS.chk_ev l) ?_
  by_cases h : SS.chk l = 0
  · simp only [if_pos h]
    have := count_loop l (chk_good h).1 (chk_good h).2 _ 0 0 rfl (Nat.zero_le _) (by omega) (by omega)
    rw [List.drop_zero, Int.zero_add] at this
    exact this
  · simp only [if_neg h]
    exact Ev.now _
theorem nth_loop (l : List S45) (hl : l.length ≤ 256) (hg : good45 l) (d : Nat) : ∀ (i : Nat) (a : Int), l.length - i = d → i ≤ l.length → 0 ≤ a → a ≤ 9223372036854775807 → Ev (fun k => days_Nth.l0 k a l (l.length : Int) (i : Int)) (nth (l.drop i) a) := by
  induction d with
  | zero =>
    intro i a hd hi h0 h1
    refine Ev.eq fun k => ?_
    rw [days_Nth.l0, if_neg (by omega), List.drop_of_length_le (by omega), nth]
  | succ d ih =>
    intro i a hd hi h0 h1
    have hlt : i < l.length := by omega
    have hx := hg l[i] (List.getElem_mem hlt)
    rw [drop_get hlt, nth]
    have e1 : wrap64 (wrap64 (l[i].f1 - l[i].f0) + 1) = l[i].f1 - l[i].f0 + 1 := by rw [w64 (x := l[i].f1 - l[i].f0) (by omega) (by omega), w64 (by omega) (by omega)]
    by_cases hc : a < l[i].f1 - l[i].f0 + 1
    · rw [if_pos hc]
      refine Ev.eq fun k => ?_
      rw [days_Nth.l0, if_pos (by omega), if_pos (by omega), if_pos (by omega), SS.rd45_lt hlt, e1, if_pos hc, w64 (x := l[i].f0 + a) (by omega) (by omega)]
    · rw [if_neg hc]
      refine Ev.step (fun k => ?_) (ih (i + 1) (a - (l[i].f1 - l[i].f0 + 1)) (by omega) (by omega) (by omega) (by omega))
      rw [days_Nth.l0, if_pos (by omega), if_pos (by omega), if_pos (by omega), SS.rd45_lt hlt, e1, if_neg hc, w64s i (by omega), w64 (x := a - (l[i].f1 - l[i].f0 + 1)) (by omega) (by omega)]
/-- What days.Nth returns. -/
def nthS (l : List S45) (a : Int) : Int × Bool × Int := if SS.chk l = 0 then (if a < 0 then (0, false, 1) else nth l a) else (0, false, SS.chk l)
theorem nth_ev (l : List S45) (a : Int) (ha : a ≤ 9223372036854775807) : Ev (fun k => days_Nth.f k l a) (nthS l a) := by
  unfold days_Nth.f nthS
  refine Ev.bind (SS.chk_ev l) ?_
  by_cases h : SS.chk l = 0
  · simp only [if_pos h]
    by_cases h2 : a < 0
    · simp only [if_pos h2]
      exact Ev.now _
    · simp only [if_neg h2]
      have := nth_loop l (chk_good h).1 (chk_good h).2 _ 0 a rfl (Nat.zero_le _) (by omega) ha
      rwa [List.drop_zero] at this
  · simp only [if_neg h]
    exact Ev.now _
end Go.Proofs.YtpodgkmgameocaaDoor.DQ
