/- Proved here: days.Count and days.Nth, and the reference's, in closed form; DaysListSpec's plain law, under the bounds that the row hands over. -/
import Derived.Test.YtpodgkmgameocaaDoorQBase
import Derived.Test.YtpodgkmgameocaaDoorX9
namespace Go.Proofs.YtpodgkmgameocaaDoor.DQ
open Go Go.RowKit Go.Proofs.YtpodgkmgameocaaDoorW.PrintWords Go.Proofs.YtpodgkmgameocaaDoorW.PrintMore Go.Proofs.YtpodgkmgameocaaDoor.X Go.Proofs.YtpodgkmgameocaaDoor.K
set_option linter.unusedVariables false
set_option linter.unusedSimpArgs false
/-- The days of a list. -/
def cnt : List S45 → Int
  | [] => 0
  | x :: l => (x.f1 - x.f0 + 1) + cnt l
/-- The day with an index. -/
def nth : List S45 → Int → Int × Bool × Int
  | [], _ => (0, false, 0)
  | x :: l, k => if k < x.f1 - x.f0 + 1 then (x.f0 + k, true, 0) else nth l (k - (x.f1 - x.f0 + 1))
def good45 (l : List S45) : Prop := ∀ x ∈ l, 0 ≤ x.f0 ∧ x.f0 ≤ x.f1 ∧ x.f1 ≤ 73048
theorem chkGo_good : ∀ (l : List S45) (last : Int), SS.chkGo last l = 0 → good45 l
  | [], _, _ => by intro x hx; simp at hx
  | y :: l, last, h => by
    unfold SS.chkGo at h
    by_cases hk : SS.okS last y = true
    · rw [if_pos hk] at h
      intro x hx
      rcases List.mem_cons.1 hx with rfl | hx
      · unfold SS.okS at hk
        simp only [Bool.and_eq_true, decide_eq_true_eq] at hk
        omega
      · exact chkGo_good l _ h x hx
    · rw [if_neg hk] at h
      cases h
theorem chk_good {l : List S45} (h : SS.chk l = 0) : l.length ≤ 256 ∧ good45 l := by
  unfold SS.chk at h
  by_cases hl : 256 < l.length
  · rw [if_pos hl] at h; cases h
  · rw [if_neg hl] at h
    exact ⟨by omega, chkGo_good l _ h⟩
theorem count_loop (l : List S45) (hl : l.length ≤ 256) (hg : good45 l) (d : Nat) : ∀ (i : Nat) (s : Int), l.length - i = d → i ≤ l.length → 0 ≤ s → s ≤ i * 73049 → Ev (fun k => days_Count.l0 k s l (l.length : Int) (i : Int)) (s + cnt (l.drop i), 0) := by
  induction d with
  | zero =>
    intro i s hd hi h0 h1
    refine Ev.eq fun k => ?_
    rw [days_Count.l0, if_neg (by omega), List.drop_of_length_le (by omega), cnt, Int.add_zero]
  | succ d ih =>
    intro i s hd hi h0 h1
    have hlt : i < l.length := by omega
    have hx := hg l[i] (List.getElem_mem hlt)
    rw [drop_get hlt, cnt, ← Int.add_assoc]
    refine Ev.step (fun k => ?_) (ih (i + 1) (s + (l[i].f1 - l[i].f0 + 1)) (by omega) (by omega) (by omega) (by omega))
    rw [days_Count.l0, if_pos (by omega), if_pos (by omega), if_pos (by omega), SS.rd45_lt hlt, w64s i (by omega), w64 (x := l[i].f1 - l[i].f0) (by omega) (by omega), w64 (x := l[i].f1 - l[i].f0 + 1) (by omega) (by omega), w64 (x := s + (l[i].f1 - l[i].f0 + 1)) (by omega) (by omega)]
theorem count_ev (l : List S45) : Ev (fun k => days_Count.f k l) (if SS.chk l = 0 then (cnt l, 0) else (0, SS.chk l)) := by
  unfold days_Count.f
  refine Ev.bind (SS.chk_ev l) ?_
  by_cases h : SS.chk l = 0
  · simp only [if_pos h]
    have := count_loop l (chk_good h).1 (chk_good h).2 _ 0 0 rfl (Nat.zero_le _) (by omega) (by omega)
    rw [List.drop_zero, Int.zero_add] at this
    exact this
  · simp only [if_neg h]
    exact Ev.now _
theorem rcount_loop (l : List S45) (hl : l.length ≤ 256) (hg : good45 l) (d : Nat) : ∀ (i : Nat) (s : Int), l.length - i = d → i ≤ l.length → 0 ≤ s → s ≤ i * 73049 → Ev (fun k => fastiref12_Count.l0 k l s (i : Int)) (s + cnt (l.drop i), 0) := by
  induction d with
  | zero =>
    intro i s hd hi h0 h1
    refine Ev.eq fun k => ?_
    rw [fastiref12_Count.l0, if_neg (by omega), List.drop_of_length_le (by omega), cnt, Int.add_zero]
  | succ d ih =>
    intro i s hd hi h0 h1
    have hlt : i < l.length := by omega
    have hx := hg l[i] (List.getElem_mem hlt)
    rw [drop_get hlt, cnt, ← Int.add_assoc]
    refine Ev.step (fun k => ?_) (ih (i + 1) (s + (l[i].f1 - l[i].f0 + 1)) (by omega) (by omega) (by omega) (by omega))
    rw [fastiref12_Count.l0, if_pos (by omega), if_pos (by omega), SS.rd45_lt hlt, w64s i (by omega), w64 (x := s + l[i].f1) (by omega) (by omega), w64 (x := s + l[i].f1 - l[i].f0) (by omega) (by omega), w64 (x := s + l[i].f1 - l[i].f0 + 1) (by omega) (by omega)]
    congr 1
    omega
theorem rcount_ev (l : List S45) : Ev (fun k => fastiref12_Count.f k l) (if SS.chk l = 0 then (cnt l, 0) else (0, SS.chk l)) := by
  unfold fastiref12_Count.f
  refine Ev.bind (rchk_ev l) ?_
  by_cases h : SS.chk l = 0
  · simp only [if_pos h]
    have := rcount_loop l (chk_good h).1 (chk_good h).2 _ 0 0 rfl (Nat.zero_le _) (by omega) (by omega)
    rw [List.drop_zero, Int.zero_add] at this
    exact this
  · simp only [if_neg h]
    exact Ev.now _
theorem nth_loop (l : List S45) (hl : l.length ≤ 256) (hg : good45 l) (d : Nat) : ∀ (i : Nat) (a : Int), l.length - i = d → i ≤ l.length → 0 ≤ a → a ≤ 9223372036854775807 → Ev (fun k => days_Nth.l0 k a l (l.length : Int) (i : Int)) (nth (l.drop i) a) := by
  induction d with
  | zero =>
    intro i a hd hi h0 h1
    refine Ev.eq fun k => ?_
    rw [days_Nth.l0, if_neg (by omega), List.drop_of_length_le (by omega), nth]
  | succ d ih =>
    intro i a hd hi h0 h1
    have hlt : i < l.length := by omega
    have hx := hg l[i] (List.getElem_mem hlt)
    rw [drop_get hlt, nth]
    have e1 : wrap64 (wrap64 (l[i].f1 - l[i].f0) + 1) = l[i].f1 - l[i].f0 + 1 := by rw [w64 (x := l[i].f1 - l[i].f0) (by omega) (by omega), w64 (by omega) (by omega)]
    by_cases hc : a < l[i].f1 - l[i].f0 + 1
    · rw [if_pos hc]
      refine Ev.eq fun k => ?_
      rw [days_Nth.l0, if_pos (by omega), if_pos (by omega), if_pos (by omega), SS.rd45_lt hlt, e1, if_pos hc, w64 (x := l[i].f0 + a) (by omega) (by omega)]
    · rw [if_neg hc]
      refine Ev.step (fun k => ?_) (ih (i + 1) (a - (l[i].f1 - l[i].f0 + 1)) (by omega) (by omega) (by omega) (by omega))
      rw [days_Nth.l0, if_pos (by omega), if_pos (by omega), if_pos (by omega), SS.rd45_lt hlt, e1, if_neg hc, w64s i (by omega), w64 (x := a - (l[i].f1 - l[i].f0 + 1)) (by omega) (by omega)]
/-- What days.Nth returns. -/
def nthS (l : List S45) (a : Int) : Int × Bool × Int := if SS.chk l = 0 then (if a < 0 then (0, false, 1) else nth l a) else (0, false, SS.chk l)
theorem nth_ev (l : List S45) (a : Int) (ha : a ≤ 9223372036854775807) : Ev (fun k => days_Nth.f k l a) (nthS l a) := by
  unfold days_Nth.f nthS
  refine Ev.bind (SS.chk_ev l) ?_
  by_cases h : SS.chk l = 0
  · simp only [if_pos h]
    by_cases h2 : a < 0
    · simp only [if_pos h2]
      exact Ev.now _
    · simp only [if_neg h2]
      have := nth_loop l (chk_good h).1 (chk_good h).2 _ 0 a rfl (Nat.zero_le _) (by omega) ha
      rwa [List.drop_zero] at this
  · simp only [if_neg h]
    exact Ev.now _
theorem rnth_loop (l : List S45) (hl : l.length ≤ 256) (hg : good45 l) (d : Nat) : ∀ (i : Nat) (a : Int), l.length - i = d → i ≤ l.length → 0 ≤ a → a ≤ 9223372036854775807 → Ev (fun k => fastiref12_Nth.l0 k l a (i : Int)) (nth (l.drop i) a) := by
  induction d with
  | zero =>
    intro i a hd hi h0 h1
    refine Ev.eq fun k => ?_
    rw [fastiref12_Nth.l0, if_neg (by omega), List.drop_of_length_le (by omega), nth]
  | succ d ih =>
    intro i a hd hi h0 h1
    have hlt : i < l.length := by omega
    have hx := hg l[i] (List.getElem_mem hlt)
    rw [drop_get hlt, nth]
    have e1 : wrap64 (wrap64 (l[i].f1 - l[i].f0) + 1) = l[i].f1 - l[i].f0 + 1 := by rw [w64 (x := l[i].f1 - l[i].f0) (by omega) (by omega), w64 (by omega) (by omega)]
    by_cases hc : a < l[i].f1 - l[i].f0 + 1
    · rw [if_pos hc]
      refine Ev.eq fun k => ?_
      rw [fastiref12_Nth.l0, if_pos (by omega), if_pos (by omega), SS.rd45_lt hlt, e1, if_pos hc, w64 (x := l[i].f0 + a) (by omega) (by omega)]
    · rw [if_neg hc]
      refine Ev.step (fun k => ?_) (ih (i + 1) (a - (l[i].f1 - l[i].f0 + 1)) (by omega) (by omega) (by omega) (by omega))
      rw [fastiref12_Nth.l0, if_pos (by omega), if_pos (by omega), SS.rd45_lt hlt, e1, if_neg hc, w64s i (by omega), w64 (x := a - (l[i].f1 - l[i].f0 + 1)) (by omega) (by omega)]
theorem rnth_ev (l : List S45) (a : Int) (ha : a ≤ 9223372036854775807) : Ev (fun k => fastiref12_Nth.f k l a) (nthS l a) := by
  unfold fastiref12_Nth.f nthS
  refine Ev.bind (rchk_ev l) ?_
  by_cases h : SS.chk l = 0
  · simp only [if_pos h]
    by_cases h2 : a < 0
    · simp only [if_pos h2]
      exact Ev.now _
    · simp only [if_neg h2]
      have := rnth_loop l (chk_good h).1 (chk_good h).2 _ 0 a rfl (Nat.zero_le _) (by omega) ha
      rwa [List.drop_zero] at this
  · simp only [if_neg h]
    exact Ev.now _
end Go.Proofs.YtpodgkmgameocaaDoor.DQ
namespace Go.Proofs.YtpodgkmgameocaaDoor.Pure
open Go Go.RowKit Go.Proofs.YtpodgkmgameocaaDoorW.PrintWords Go.Proofs.YtpodgkmgameocaaDoorW.PrintMore Go.Proofs.YtpodgkmgameocaaDoor.X Go.Proofs.YtpodgkmgameocaaDoor.K Go.Proofs.YtpodgkmgameocaaDoor.DQ
theorem DaysListSpec (l : List S45) (a : Int) (w : (Lit.int .i64 a).wf = true) : ∃ k, fastilaw12_DaysListSpec.f k l a = some true := by
  have ha : a ≤ 9223372036854775807 := by
    have h2 : decide (IntKind.min .i64 ≤ a) = true ∧ decide (a ≤ IntKind.max .i64) = true := by
      have h3 : (decide (IntKind.min .i64 ≤ a) && decide (a ≤ IntKind.max .i64)) = true := w
      simpa only [Bool.and_eq_true] using h3
    have h4 := of_decide_eq_true h2.2
    have h5 : IntKind.max .i64 = 9223372036854775807 := by decide +kernel
    rw [h5] at h4
    exact h4
  have key : Ev (fun k => fastilaw12_DaysListSpec.f k l a) true := by
    unfold fastilaw12_DaysListSpec.f
    refine Ev.bind (a := true) (Ev.now _) ?_
    simp only [if_true]
    by_cases hf : (l.length : Int) ≤ 260
    · have hF : fastiref12_Few.f l [] = some true := by unfold fastiref12_Few.f; rw [if_pos hf]; rfl
      rw [hF]
      simp only [Option.bind_some, if_true]
      refine Ev.bind (count_ev l) ?_
      refine Ev.bind (rcount_ev l) ?_
      refine Ev.bind (nth_ev l a ha) ?_
      refine Ev.bind (rnth_ev l a ha) ?_
      refine Ev.bind (SS.chk_ev l) ?_
      refine Ev.bind (rchk_ev l) ?_
      simp
      exact Ev.now _
    · have hF : fastiref12_Few.f l [] = some false := by unfold fastiref12_Few.f; rw [if_neg hf]
      rw [hF]
      simp only [Option.bind_some]
      exact Ev.now _
  obtain ⟨k, hk⟩ := key
  exact ⟨k, hk k (Nat.le_refl _)⟩
end Go.Proofs.YtpodgkmgameocaaDoor.Pure
