/- Proved here: DaysDates' plain law. -/
import Derived.Test.YtpodgkmgameocaaDoorQDatea
import Derived.Test.YtpodgkmgameocaaDoorXSets
import Derived.Test.YtpodgkmgameocaaDoorX12
namespace Go.Proofs.YtpodgkmgameocaaDoor.DA
open Go.RowKit Go.Proofs.YtpodgkmgameocaaDoorW.PrintWords Go.Proofs.YtpodgkmgameocaaDoorW.PrintMore Go.Proofs.YtpodgkmgameocaaDoor.X Go.Proofs.YtpodgkmgameocaaDoor.K
set_option linter.unusedVariables false
set_option linter.unusedSimpArgs false
theorem wk_f {n : Int} (h0 : 0 ≤ n) (h1 : n ≤ 73048) : days_Weekday.f n = some (Int.tmod (n + 5) 7, 0) := by
  unfold days_Weekday.f
  rw [SS.day_f, decide_eq_true ⟨h0, h1⟩]
  simp only [Option.bind_some, if_true]
  rw [w64 (x := n + 5) (by omega) (by omega)]
theorem tm7 {x : Int} (h : 0 ≤ x) : Int.tmod x 7 = x % 7 := Int.tmod_eq_emod_of_nonneg h
theorem less_f (y m d y' m' d' : Int) : ∃ b, fastilaw12_less.f y m d y' m' d' = some b ∧ (b = true ↔ lexLt y m d y' m' d') := by
  unfold fastilaw12_less.f lexLt
  by_cases h1 : y = y'
  · rw [if_pos h1]
    by_cases h2 : m = m'
    · rw [if_pos h2]
      exact ⟨_, rfl, by rw [decide_eq_true_eq]; omega⟩
    · rw [if_neg h2]
      exact ⟨_, rfl, by rw [decide_eq_true_eq]; omega⟩
  · rw [if_neg h1]
    exact ⟨_, rfl, by rw [decide_eq_true_eq]; omega⟩
theorem of_inv {y m d : Int} (h : Rt y m d) : GL.ofS (dayN y m d) = (y, m, d, 0) := by
  have hb := day_bd h
  obtain ⟨r, e, z⟩ := of_spec hb.1 hb.2
  obtain ⟨e1, e2, e3⟩ := day_inj r h e
  have : GL.ofS (dayN y m d) = ((GL.ofS (dayN y m d)).1, (GL.ofS (dayN y m d)).2.1, (GL.ofS (dayN y m d)).2.2.1, (GL.ofS (dayN y m d)).2.2.2) := rfl
  rw [this, e1, e2, e3, z]
/-- The date of the next day. -/
theorem of_next {n y m d : Int} (hn : GL.ofS n = (y, m, d, 0)) (h0 : 0 ≤ n) (h1 : n < 73048) :
    GL.ofS (n + 1) = (if d < len y m then (y, m, d + 1, 0) else if m < 12 then (y, m + 1, 1, 0) else (y + 1, 1, 1, 0)) ∧ (¬ d < len y m → d = len y m) := by
  obtain ⟨r, e, _⟩ := of_spec h0 (by omega)
  rw [hn] at r e
  simp only at r e
  have r' := r
  obtain ⟨a1, a2, a3, a4, a5, a6⟩ := r
  refine ⟨?_, fun h => by omega⟩
  unfold dayN at e
  by_cases hd : d < len y m
  · rw [if_pos hd]
    have h2 : Rt y m (d + 1) := ⟨a1, a2, a3, a4, by omega, by omega⟩
    have h3 : dayN y m (d + 1) = n + 1 := by unfold dayN; omega
    rw [← h3, of_inv h2]
  · rw [if_neg hd]
    by_cases hm : m < 12
    · rw [if_pos hm]
      have hl := len_bd (y := y) (m := m + 1) (by omega) (by omega)
      have h2 : Rt y (m + 1) 1 := ⟨a1, a2, by omega, by omega, by omega, by omega⟩
      have h3 : dayN y (m + 1) 1 = n + 1 := by
        have := st_next (y := y) a3 a4
        unfold dayN
        omega
      rw [← h3, of_inv h2]
    · rw [if_neg hm]
      have hm12 : m = 12 := by omega
      have hs := st_next (y := y) a3 a4
      rw [hm12, show (12 : Int) + 1 = 13 from rfl, st_13 y a1 (by omega), ← hm12] at hs
      have hy : y < 2199 := by
        apply Classical.byContradiction
        intro hc
        have e99 : y = 2199 := by omega
        rw [e99, hm12] at e a6 hd
        have k1 : st 2199 12 = 73018 := by decide +kernel
        have k2 : len 2199 12 = 31 := by decide +kernel
        omega
      have hl := len_bd (y := y + 1) (m := 1) (by omega) (by omega)
      have h2 : Rt (y + 1) 1 1 := ⟨by omega, by omega, by omega, by omega, by omega, by omega⟩
      have h3 : dayN (y + 1) 1 1 = n + 1 := by unfold dayN; omega
      rw [← h3, of_inv h2]
theorem j3_ok {y m d y' m' d' : Int} (r : Rt y m d) (hn : (y', m', d') = (if d < len y m then (y, m, d + 1) else if m < 12 then (y, m + 1, 1) else (y + 1, 1, 1))) (hd : ¬ d < len y m → d = len y m) (k : Nat) :
    fastilaw12_DaysDates.j3 (k + 1) false y m d y' m' d' = some true := by
  obtain ⟨a1, a2, a3, a4, a5, a6⟩ := r
  have hl := len_bd (y := y) a3 a4
  rw [fastilaw12_DaysDates.j3, if_neg (by decide)]
  by_cases h1 : d < len y m
  · rw [if_pos h1] at hn
    cases hn
    rw [if_neg (by omega), if_pos rfl, if_pos rfl, w64 (x := d + 1) (by omega) (by omega)]
    simp
  · rw [if_neg h1] at hn
    have h2 := hd h1
    by_cases hm : m < 12
    · rw [if_pos hm] at hn
      cases hn
      rw [if_pos rfl, if_pos hm, if_pos rfl, if_pos (w64 (x := m + 1) (by omega) (by omega)).symm, decide_eq_true (by omega : d ≥ 28)]
    · rw [if_neg hm] at hn
      cases hn
      have hm12 : m = 12 := by omega
      have h31 : len y m = 31 := by rw [hm12]; unfold len ln; simp
      rw [if_pos rfl, if_neg hm, if_pos (w64 (x := y + 1) (by omega) (by omega)).symm, if_pos rfl, h2, h31]
      rfl
theorem j0_ev (n m : Int) : Ev (fun k => fastilaw12_DaysDates.j0 k n m) true := by
  have skip : Ev (fun k => fastilaw12_DaysDates.j1 k n m true) true := Ev.eq fun k => by rw [fastilaw12_DaysDates.j1, if_pos rfl]
  by_cases hn0 : n < 0
  · exact Ev.step (fun k => by rw [fastilaw12_DaysDates.j0, if_pos hn0]) skip
  by_cases hn1 : n > 73048
  · exact Ev.step (fun k => by rw [fastilaw12_DaysDates.j0, if_neg hn0, if_pos hn1]) skip
  by_cases hm0 : m < 0
  · exact Ev.step (fun k => by rw [fastilaw12_DaysDates.j0, if_neg hn0, if_neg hn1, if_pos hm0]) skip
  by_cases hm1 : m > 73048
  · exact Ev.step (fun k => by rw [fastilaw12_DaysDates.j0, if_neg hn0, if_neg hn1, if_neg hm0, decide_eq_true hm1]) skip
  refine Ev.step (f := fun k => fastilaw12_DaysDates.j1 k n m false) (fun k => by rw [fastilaw12_DaysDates.j0, if_neg hn0, if_neg hn1, if_neg hm0, decide_eq_false hm1]) ?_
  obtain ⟨y, mo, d, z, hof⟩ : ∃ y mo d z, GL.ofS n = (y, mo, d, z) := ⟨_, _, _, _, rfl⟩
  obtain ⟨y', mo', d', z', hof'⟩ : ∃ y mo d z, GL.ofS m = (y, mo, d, z) := ⟨_, _, _, _, rfl⟩
  obtain ⟨r, e, hz⟩ := of_spec (n := n) (by omega) (by omega)
  obtain ⟨r', e', hz'⟩ := of_spec (n := m) (by omega) (by omega)
  rw [hof] at r e hz
  rw [hof'] at r' e' hz'
  simp only at r e hz r' e' hz'
  subst hz hz'
  have hnum := num_good r
  rw [e] at hnum
  obtain ⟨b, hb, hbl⟩ := less_f y mo d y' mo' d'
  have hbb : b = decide (n < m) := by
    rw [Bool.eq_iff_iff, hbl, decide_eq_true_eq, ← e, ← e']
    exact day_iff r r'
  have hj2 : Ev (fun k => fastilaw12_DaysDates.j2 k n false y mo d) true := by
    by_cases hmax : n = 73048
    · refine Ev.eq fun k => ?_
      have : GL.ofS 73048 = (2199, 12, 31, 0) := by decide +kernel
      rw [hmax, this] at hof
      cases hof
      rw [fastilaw12_DaysDates.j2, if_neg (by decide), if_pos hmax]
      rfl
    · obtain ⟨hnx, hdd⟩ := of_next hof (by omega) (by omega)
      have e1 : wrap64 (n + 1) = n + 1 := w64 (by omega) (by omega)
      have w1 := wk_f (n := n) (by omega) (by omega)
      have w2 := wk_f (n := n + 1) (by omega) (by omega)
      have ht : (Int.tmod (n + 1 + 5) 7 != Int.tmod (wrap64 (Int.tmod (n + 5) 7 + 1)) 7) = false := by
        rw [tm7 (by omega : (0 : Int) ≤ n + 1 + 5), tm7 (by omega : (0 : Int) ≤ n + 5), w64 (x := (n + 5) % 7 + 1) (by omega) (by omega), tm7 (by omega : (0 : Int) ≤ (n + 5) % 7 + 1)]
        simp only [bne_eq_false_iff_eq]
        omega
      refine Ev.step (f := fun k => fastilaw12_DaysDates.j3 k false y mo d (GL.ofS (n + 1)).1 (GL.ofS (n + 1)).2.1 (GL.ofS (n + 1)).2.2.1) (fun k => ?_) ?_
      · have z3 : (GL.ofS (n + 1)).2.2.2 = 0 := (of_spec (n := n + 1) (by omega) (by omega)).2.2
        rw [fastilaw12_DaysDates.j2, if_neg (by decide), if_neg hmax, e1, w1, w2]
        unfold days_Of.f
        simp only [Option.bind_some]
        rw [if_pos z3]
        simp only [if_true, ht]
      · refine Ev.eq fun k => j3_ok r ?_ hdd k
        rw [hnx]
        split
        · rfl
        · split <;> rfl
  refine Ev.step (fun k => ?_) hj2
  rw [fastilaw12_DaysDates.j1, if_neg (by decide)]
  unfold days_Of.f days_Number.f
  rw [hof, hof']
  simp only [Option.bind_some, hnum, if_true]
  rw [hb]
  simp only [Option.bind_some]
  rw [hbb, bne_self_eq_false]
end Go.Proofs.YtpodgkmgameocaaDoor.DA
namespace Go.Proofs.YtpodgkmgameocaaDoor.Pure
open Go Go.RowKit Go.Proofs.YtpodgkmgameocaaDoorW.PrintWords Go.Proofs.YtpodgkmgameocaaDoorW.PrintMore Go.Proofs.YtpodgkmgameocaaDoor.X Go.Proofs.YtpodgkmgameocaaDoor.K Go.Proofs.YtpodgkmgameocaaDoor.DA
theorem DaysDates (n m y mo d : Int) (_ : (Lit.int .i64 n).wf = true) (_ : (Lit.int .i64 m).wf = true) : ∃ k, fastilaw12_DaysDates.f k n m y mo d = some true := by
  have key : Ev (fun k => fastilaw12_DaysDates.f k n m y mo d) true := by
    unfold fastilaw12_DaysDates.f
    refine Ev.bind (a := true) (Ev.now _) ?_
    simp only [if_true]
    unfold days_Number.f
    by_cases h : Rt y mo d
    · rw [num_good h]
      simp only [Option.bind_some, if_true]
      unfold days_Of.f
      rw [of_inv h]
      simp only [Option.bind_some, if_true]
      have hb := day_bd h
      have q1 : (!(y == y) || (!(mo == mo) || !(d == d))) = false := by simp
      have q2 : ¬ dayN y mo d < 0 := by omega
      have q3 : ¬ dayN y mo d > 73048 := by omega
      simp only [q1, q2, q3, Bool.false_eq_true, if_false]
      exact j0_ev n m
    · rw [num_bad h]
      have q1 : ¬ (120 : Int) = 0 := by decide
      simp only [Option.bind_some, q1, if_false]
      exact j0_ev n m
  obtain ⟨k, hk⟩ := key
  exact ⟨k, hk k (Nat.le_refl _)⟩
end Go.Proofs.YtpodgkmgameocaaDoor.Pure
