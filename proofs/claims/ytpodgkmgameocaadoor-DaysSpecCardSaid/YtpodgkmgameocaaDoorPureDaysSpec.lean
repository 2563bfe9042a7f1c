/- Proved here: the reference's Of and Number are those of the program; DaysSpec's plain law. -/
import Derived.Test.YtpodgkmgameocaaDoorQDatea
import Derived.Test.YtpodgkmgameocaaDoorQBasea
import Derived.Test.YtpodgkmgameocaaDoorX11
namespace Go.Proofs.YtpodgkmgameocaaDoor.DA
open Go.RowKit Go.Proofs.YtpodgkmgameocaaDoorW.PrintWords Go.Proofs.YtpodgkmgameocaaDoorW.PrintMore Go.Proofs.YtpodgkmgameocaaDoor.X Go.Proofs.YtpodgkmgameocaaDoor.K
set_option linter.unusedVariables false
set_option linter.unusedSimpArgs false
theorem rlen_ev {y m : Int} (hy : 0 ≤ y) (hm : 1 ≤ m) (hm2 : m ≤ 12) : Ev (fun k => fastiref12_length.f k y m) (len y m) := by
  have ht : Int.tmod y 4 = y % 4 := Int.tmod_eq_emod_of_nonneg hy
  unfold fastiref12_length.f len
  rw [ht]
  by_cases h2 : m = 2
  · simp only [if_pos h2]
    have h4 : ln m = 29 := by rw [h2]; rfl
    rw [h4]
    by_cases h3 : y % 4 = 0
    · simp only [if_pos h3]
      refine Ev.eq fun k => ?_
      rw [fastiref12_length.j0]
      by_cases h5 : y = 2100
      · have e1 : nl y = 1 := by unfold nl; rw [if_neg]; omega
        rw [e1, if_neg (by simp [h5])]
        rfl
      · have e1 : nl y = 0 := by unfold nl; rw [if_pos]; omega
        rw [e1, if_pos (by simp [h5])]
        rfl
    · simp only [if_neg h3]
      have e1 : nl y = 1 := by unfold nl; rw [if_neg]; omega
      refine Ev.eq fun k => ?_
      rw [fastiref12_length.j0, e1, if_neg (by decide)]
      rfl
  · simp only [if_neg h2]
    refine Ev.all fun k => ?_
    rcases m12 hm hm2 with rfl | rfl | rfl | rfl | rfl | rfl | rfl | rfl | rfl | rfl | rfl | rfl
    · rfl
    · exact absurd rfl h2
    · rfl
    · rfl
    · rfl
    · rfl
    · rfl
    · rfl
    · rfl
    · rfl
    · rfl
    · rfl
/-- The reference's walk through the months. -/
theorem rof_loop (n : Int) (hn : n ≤ 73048) : ∀ (q : Nat) (y m : Int), 2000 ≤ y → 1 ≤ m → m ≤ 12 → st y m ≤ n → (n - st y m).toNat ≤ q → Ev (fun k => fastiref12_Of.l0 k (n - st y m) y m 1) (GL.ofS n) := by
  intro q
  induction q using Nat.strongRecOn with
  | _ q ih =>
    intro y m hy hm hm2 hs hq
    have hy2 : y ≤ 2199 := by
      apply Classical.byContradiction
      intro hc
      have h1 := st_1 2200
      have h2 : yb 2200 = 73049 := by decide +kernel
      by_cases h3 : y = 2200
      · subst h3
        have h4 := st_mono (y := 2200) (m := 1) (m - 1).toNat m (by omega) (by omega) (by omega)
        omega
      · have h5 : yb y = 365 * (y - 2000) + (y - 2000 + 3) / 4 - (if 2100 < y then 1 else 0) := rfl
        rw [if_pos (by omega : 2100 < y)] at h5
        have h4 := st_mono (y := y) (m := 1) (m - 1).toNat m (by omega) (by omega) (by omega)
        have h6 := st_1 y
        omega
    have hl := rlen_ev (y := y) (m := m) (by omega) hm hm2
    have hb := len_bd (y := y) hm hm2
    have hs0 : -1000 ≤ st y m := by
      have h4 := st_mono (y := y) (m := 1) (m - 1).toNat m (by omega) (by omega) (by omega)
      have h5 : yb y = 365 * (y - 2000) + (y - 2000 + 3) / 4 - (if 2100 < y then 1 else 0) := rfl
      have h6 := st_1 y
      split at h5 <;> omega
    by_cases hg : n - st y m ≥ len y m
    · have hnx := st_next (y := y) hm hm2
      refine Ev.step (f := fun k => (fastiref12_length.f k y m).bind fun t146 => (if n - st y m ≥ t146 then ((fastiref12_length.f k y m).bind fun t147 => (if (wrap64 (m + 1)) > 12 then (fastiref12_Of.l0 k (wrap64 (n - st y m - t147)) (wrap64 (y + 1)) 1 1) else (fastiref12_Of.l0 k (wrap64 (n - st y m - t147)) y (wrap64 (m + 1)) 1))) else (some (y, m, wrap64 (1 + (n - st y m)), 0)))) (fun k => rfl) ?_
      refine Ev.bind hl ?_
      simp only [if_pos hg]
      refine Ev.bind hl ?_
      rw [w64 (x := m + 1) (by omega) (by omega), w64 (x := n - st y m - len y m) (by omega) (by omega), w64 (x := y + 1) (by omega) (by omega)]
      by_cases h12 : m + 1 > 12
      · simp only [if_pos h12]
        have e13 : st (y + 1) 1 = st y m + len y m := by
          rw [← hnx, show m + 1 = 13 by omega, st_13 y hy (by omega)]
        have := ih (n - st (y + 1) 1).toNat (by omega) (y + 1) 1 (by omega) (by omega) (by omega) (by omega) (Nat.le_refl _)
        rwa [e13, show n - (st y m + len y m) = n - st y m - len y m by omega] at this
      · simp only [if_neg h12]
        have := ih (n - st y (m + 1)).toNat (by omega) y (m + 1) hy (by omega) (by omega) (by omega) (Nat.le_refl _)
        rwa [hnx, show n - (st y m + len y m) = n - st y m - len y m by omega] at this
    · have hr : Rt y m (n - st y m + 1) := ⟨hy, hy2, hm, hm2, by omega, by omega⟩
      have hd : dayN y m (n - st y m + 1) = n := by unfold dayN; omega
      have ho := of_inv hr
      rw [hd] at ho
      rw [ho]
      refine Ev.step (f := fun k => (fastiref12_length.f k y m).bind fun t146 => (if n - st y m ≥ t146 then ((fastiref12_length.f k y m).bind fun t147 => (if (wrap64 (m + 1)) > 12 then (fastiref12_Of.l0 k (wrap64 (n - st y m - t147)) (wrap64 (y + 1)) 1 1) else (fastiref12_Of.l0 k (wrap64 (n - st y m - t147)) y (wrap64 (m + 1)) 1))) else (some (y, m, wrap64 (1 + (n - st y m)), 0)))) (fun k => rfl) ?_
      refine Ev.bind hl ?_
      simp only [if_neg hg]
      rw [w64 (x := 1 + (n - st y m)) (by omega) (by omega), show 1 + (n - st y m) = n - st y m + 1 by omega]
      exact Ev.now _
theorem rof_ev (n : Int) : Ev (fun k => fastiref12_Of.f k n) (GL.ofS n) := by
  unfold fastiref12_Of.f
  rw [DQ.rday_f]
  by_cases h : 0 ≤ n ∧ n ≤ 73048
  · rw [decide_eq_true h]
    simp only [Option.bind_some, if_true]
    have e : st 2000 1 = 0 := by decide +kernel
    have := rof_loop n h.2 _ 2000 1 (by omega) (by omega) (by omega) (by omega) (Nat.le_refl _)
    rwa [e, Int.sub_zero] at this
  · rw [decide_eq_false h]
    simp only [Option.bind_some, Bool.false_eq_true, if_false]
    have : GL.ofS n = (0, 0, 0, 1) := by unfold GL.ofS; rw [if_neg h]
    rw [this]
    exact Ev.now _
theorem right_ev (y m d : Int) : Ev (fun k => fastiref12_Right.f k y m d) (decide (2000 ≤ y ∧ y ≤ 2199 ∧ 1 ≤ m ∧ m ≤ 12 ∧ 1 ≤ d ∧ d ≤ len y m)) := by
  unfold fastiref12_Right.f
  by_cases a1 : y ≥ 2000
  · simp only [if_pos a1]
    by_cases a2 : y ≤ 2199
    · simp only [if_pos a2]
      by_cases a3 : m ≥ 1
      · simp only [if_pos a3]
        by_cases a4 : m ≤ 12
        · simp only [if_pos a4]
          by_cases a5 : d ≥ 1
          · simp only [if_pos a5]
            refine Ev.bind (rlen_ev (by omega) a3 a4) ?_
            rw [show decide (2000 ≤ y ∧ y ≤ 2199 ∧ 1 ≤ m ∧ m ≤ 12 ∧ 1 ≤ d ∧ d ≤ len y m) = decide (d ≤ len y m) from decide_eq_decide.2 ⟨fun h => h.2.2.2.2.2, fun h => ⟨a1, a2, a3, a4, a5, h⟩⟩]
            exact Ev.now _
          · simp only [if_neg a5]
            rw [decide_eq_false (fun h => a5 h.2.2.2.2.1)]
            exact Ev.now _
        · simp only [if_neg a4]
          rw [decide_eq_false (fun h => a4 h.2.2.2.1)]
          exact Ev.now _
      · simp only [if_neg a3]
        rw [decide_eq_false (fun h => a3 h.2.2.1)]
        exact Ev.now _
    · simp only [if_neg a2]
      rw [decide_eq_false (fun h => a2 h.2.1)]
      exact Ev.now _
  · simp only [if_neg a1]
    rw [decide_eq_false (fun h => a1 h.1)]
    exact Ev.now _
theorem st_bd {y m : Int} (h0 : 2000 ≤ y) (h1 : y ≤ 2199) (h2 : 1 ≤ m) (h3 : m ≤ 13) : 0 ≤ st y m ∧ st y m ≤ 74000 := by
  have a1 := st_mono (y := y) (m := 1) (m - 1).toNat m (by omega) (by omega) (by omega)
  have a2 := st_mono (y := y) (m := m) (13 - m).toNat 13 h2 (by omega) (by omega)
  have a3 := st_1 y
  have a4 := st_13 y h0 (by omega)
  have a5 := st_1 (y + 1)
  have b1 : yb y = 365 * (y - 2000) + (y - 2000 + 3) / 4 - (if 2100 < y then 1 else 0) := rfl
  have b2 : yb (y + 1) = 365 * (y + 1 - 2000) + (y + 1 - 2000 + 3) / 4 - (if 2100 < y + 1 then 1 else 0) := rfl
  split at b1 <;> split at b2 <;> omega
/-- The reference's sum of months. -/
theorem rnum_loop (Y M D : Int) (hY : 2000 ≤ Y) (hY2 : Y ≤ 2199) (hM : 1 ≤ M) (hM2 : M ≤ 12) (hD : 1 ≤ D) (hD2 : D ≤ 31) : ∀ (q : Nat) (y m : Int), 2000 ≤ y → y ≤ Y → 1 ≤ m → m ≤ 13 → (y = Y → m ≤ M) → ((Y - y) * 14 + (13 - m)).toNat ≤ q →
    Ev (fun k => fastiref12_Number.l1 k (D - 1 + st y m) y m Y M D) (D - 1 + st Y M, 0) := by
  intro q
  induction q using Nat.strongRecOn with
  | _ q ih =>
    intro y m hy hy2 hm hm2 hmM hq
    have hsb := st_bd hy (by omega) hm hm2
    by_cases h12 : m ≤ 12
    · have hl := rlen_ev (y := y) (m := m) (by omega) hm h12
      have hlb := len_bd (y := y) hm h12
      have hnx := st_next (y := y) hm h12
      by_cases hlt : y < Y
      · refine Ev.step (f := fun k => (fastiref12_length.f k y m).bind fun t => fastiref12_Number.l1 k (wrap64 (D - 1 + st y m + t)) y (wrap64 (m + 1)) Y M D) (fun k => ?_) ?_
        · rw [fastiref12_Number.l1, if_pos h12, if_pos hlt]
        · refine Ev.bind hl ?_
          rw [w64 (x := D - 1 + st y m + len y m) (by omega) (by omega), w64 (x := m + 1) (by omega) (by omega)]
          have := ih ((Y - y) * 14 + (13 - (m + 1))).toNat (by omega) y (m + 1) hy hy2 (by omega) (by omega) (by omega) (Nat.le_refl _)
          rwa [hnx, show D - 1 + (st y m + len y m) = D - 1 + st y m + len y m by omega] at this
      · have hyY : y = Y := by omega
        have hmM' := hmM hyY
        by_cases hmm : m < M
        · refine Ev.step (f := fun k => (fastiref12_length.f k y m).bind fun t => fastiref12_Number.l1 k (wrap64 (D - 1 + st y m + t)) y (wrap64 (m + 1)) Y M D) (fun k => ?_) ?_
          · rw [fastiref12_Number.l1, if_pos h12, if_neg hlt, if_pos hmm]
          · refine Ev.bind hl ?_
            rw [w64 (x := D - 1 + st y m + len y m) (by omega) (by omega), w64 (x := m + 1) (by omega) (by omega)]
            have := ih ((Y - y) * 14 + (13 - (m + 1))).toNat (by omega) y (m + 1) hy hy2 (by omega) (by omega) (by omega) (Nat.le_refl _)
            rwa [hnx, show D - 1 + (st y m + len y m) = D - 1 + st y m + len y m by omega] at this
        · have hme : m = M := by omega
          refine Ev.step (f := fun k => fastiref12_Number.l0 k (D - 1 + st y m) (wrap64 (y + 1)) Y M D) (fun k => ?_) ?_
          · rw [fastiref12_Number.l1, if_pos h12, if_neg hlt, if_neg hmm]
          · rw [w64 (x := y + 1) (by omega) (by omega)]
            refine Ev.eq fun k => ?_
            rw [fastiref12_Number.l0, if_neg (by omega), hyY, hme]
    · have hm13 : m = 13 := by omega
      have hlt : y < Y := by
        rcases Int.lt_or_le y Y with h | h
        · exact h
        · have := hmM (by omega); omega
      have e13 := st_13 y hy (by omega)
      refine Ev.step (f := fun k => fastiref12_Number.l0 k (D - 1 + st y m) (wrap64 (y + 1)) Y M D) (fun k => ?_) ?_
      · rw [fastiref12_Number.l1, if_neg h12]
      · rw [w64 (x := y + 1) (by omega) (by omega), hm13, e13]
        refine Ev.step (f := fun k => fastiref12_Number.l1 k (D - 1 + st (y + 1) 1) (y + 1) 1 Y M D) (fun k => ?_) ?_
        · rw [fastiref12_Number.l0, if_pos (by omega)]
        · exact ih ((Y - (y + 1)) * 14 + (13 - 1)).toNat (by omega) (y + 1) 1 (by omega) (by omega) (by omega) (by omega) (by omega) (Nat.le_refl _)
theorem rnum_ev (y m d : Int) : Ev (fun k => fastiref12_Number.f k y m d) (CN.numS y m d) := by
  unfold fastiref12_Number.f
  refine Ev.bind (right_ev y m d) ?_
  by_cases h : Rt y m d
  · have h' := h
    obtain ⟨a1, a2, a3, a4, a5, a6⟩ := h
    have hb := len_bd (y := y) a3 a4
    rw [show decide (2000 ≤ y ∧ y ≤ 2199 ∧ 1 ≤ m ∧ m ≤ 12 ∧ 1 ≤ d ∧ d ≤ len y m) = true from decide_eq_true h']
    simp only [if_true]
    rw [num_good h', w64 (x := d - 1) (by omega) (by omega)]
    have e : st 2000 1 = 0 := by decide +kernel
    have := rnum_loop y m d a1 a2 a3 a4 a5 (by omega) _ 2000 1 (by omega) (by omega) (by omega) (by omega) (by omega) (Nat.le_refl _)
    rw [e, Int.add_zero] at this
    refine Ev.step (f := fun k => fastiref12_Number.l1 k (d - 1) 2000 1 y m d) (fun k => ?_) ?_
    · rw [fastiref12_Number.l0, if_pos (by omega)]
    · unfold dayN
      rwa [show st y m + d - 1 = d - 1 + st y m by omega]
  · rw [show decide (2000 ≤ y ∧ y ≤ 2199 ∧ 1 ≤ m ∧ m ≤ 12 ∧ 1 ≤ d ∧ d ≤ len y m) = false from decide_eq_false h]
    simp only [Bool.false_eq_true, if_false]
    rw [num_bad h]
    exact Ev.now _
theorem rwk_f (n : Int) : fastiref12_Weekday.f n = days_Weekday.f n := by
  unfold fastiref12_Weekday.f days_Weekday.f
  rw [DQ.rday_f, SS.day_f]
theorem wk_some (n : Int) : ∃ r, days_Weekday.f n = some r := by
  unfold days_Weekday.f
  rw [SS.day_f]
  simp only [Option.bind_some]
  split
  · exact ⟨_, rfl⟩
  · exact ⟨_, rfl⟩
end Go.Proofs.YtpodgkmgameocaaDoor.DA
namespace Go.Proofs.YtpodgkmgameocaaDoor.Pure
open Go Go.RowKit Go.Proofs.YtpodgkmgameocaaDoorW.PrintWords Go.Proofs.YtpodgkmgameocaaDoorW.PrintMore Go.Proofs.YtpodgkmgameocaaDoor.X Go.Proofs.YtpodgkmgameocaaDoor.K Go.Proofs.YtpodgkmgameocaaDoor.DA
theorem DaysSpec (n y m d : Int) (_ : (Lit.int .i64 n).wf = true) : ∃ k, fastilaw12_DaysSpec.f k n y m d = some true := by
  have key : Ev (fun k => fastilaw12_DaysSpec.f k n y m d) true := by
    unfold fastilaw12_DaysSpec.f
    refine Ev.bind (a := true) (Ev.now _) ?_
    simp only [if_true]
    unfold days_Of.f days_Number.f
    refine Ev.bind (Ev.now _) ?_
    refine Ev.bind (rof_ev n) ?_
    refine Ev.bind (Ev.now _) ?_
    refine Ev.bind (rnum_ev y m d) ?_
    obtain ⟨r, hr⟩ := wk_some n
    rw [rwk_f, hr]
    simp only [Option.bind_some, beq_self_eq_true, Bool.and_self, if_true]
    exact Ev.now _
  obtain ⟨k, hk⟩ := key
  exact ⟨k, hk k (Nat.le_refl _)⟩
end Go.Proofs.YtpodgkmgameocaaDoor.Pure
