/- Proved here: dates and days: where months begin, that Of's answer is the date of a day, and that the order of dates is that of days. -/
import Derived.Test.YtpodgkmgameocaaDoorK
import Derived.Test.YtpodgkmgameocaaDoorX3
import Derived.Test.YtpodgkmgameocaaDoorX4
namespace Go.Proofs.YtpodgkmgameocaaDoor.DA
open Go.RowKit Go.Proofs.YtpodgkmgameocaaDoorW.PrintWords Go.Proofs.YtpodgkmgameocaaDoorW.PrintMore Go.Proofs.YtpodgkmgameocaaDoor.X Go.Proofs.YtpodgkmgameocaaDoor.K
set_option linter.unusedVariables false
set_option linter.unusedSimpArgs false
/-- The length of a month of a leap year. -/
def ln (m : Int) : Int := if m = 2 then 29 else if m = 4 ∨ m = 6 ∨ m = 9 ∨ m = 11 then 30 else 31
def bf (m : Int) : Int := if m = 1 then 0 else if m = 2 then 31 else if m = 3 then 60 else if m = 4 then 91 else if m = 5 then 121 else if m = 6 then 152 else if m = 7 then 182 else if m = 8 then 213 else if m = 9 then 244 else if m = 10 then 274 else if m = 11 then 305 else if m = 12 then 335 else 366
/-- 1 in the years that are none with a leap day. -/
def nl (y : Int) : Int := if y % 4 = 0 ∧ y ≠ 2100 then 0 else 1
/-- The first day of a year. -/
def yb (y : Int) : Int := 365 * (y - 2000) + (y - 2000 + 3) / 4 - (if 2100 < y then 1 else 0)
/-- The first day of a month (m = 13: of the next year). -/
def st (y m : Int) : Int := yb y + bf m - (if 2 < m then nl y else 0)
def len (y m : Int) : Int := ln m - (if m = 2 then nl y else 0)
theorem nl_01 (y : Int) : nl y = 0 ∨ nl y = 1 := by
  unfold nl
  split
  · exact .inl rfl
  · exact .inr rfl
theorem yb_next (y : Int) (h0 : 2000 ≤ y) (h1 : y ≤ 2200) : yb (y + 1) = yb y + 366 - nl y := by
  unfold yb nl
  by_cases h : y % 4 = 0 ∧ y ≠ 2100
  · rw [if_pos h]
    by_cases h2 : 2100 < y
    · rw [if_pos h2, if_pos (by omega)]; omega
    · rw [if_neg h2, if_neg (by omega)]; omega
  · rw [if_neg h]
    by_cases h2 : 2100 < y
    · rw [if_pos h2, if_pos (by omega)]; omega
    · rw [if_neg h2]
      by_cases h3 : y = 2100
      · subst h3; decide
      · rw [if_neg (by omega)]; omega
theorem m12 {m : Int} (h0 : 1 ≤ m) (h1 : m ≤ 12) : m = 1 ∨ m = 2 ∨ m = 3 ∨ m = 4 ∨ m = 5 ∨ m = 6 ∨ m = 7 ∨ m = 8 ∨ m = 9 ∨ m = 10 ∨ m = 11 ∨ m = 12 := by omega
theorem bf_next {m : Int} (h0 : 1 ≤ m) (h1 : m ≤ 12) : bf (m + 1) = bf m + ln m := by
  rcases m12 h0 h1 with rfl | rfl | rfl | rfl | rfl | rfl | rfl | rfl | rfl | rfl | rfl | rfl <;> decide
theorem st_next {y m : Int} (h0 : 1 ≤ m) (h1 : m ≤ 12) : st y (m + 1) = st y m + len y m := by
  unfold st len
  rw [bf_next h0 h1]
  have := nl_01 y
  by_cases h2 : m = 2
  · subst h2
    simp
    omega
  · rw [if_neg h2]
    by_cases h3 : 2 < m
    · rw [if_pos h3, if_pos (by omega)]; omega
    · rw [if_neg h3, if_neg (by omega)]; omega
theorem st_13 (y : Int) (h0 : 2000 ≤ y) (h1 : y ≤ 2200) : st y 13 = st (y + 1) 1 := by
  have := yb_next y h0 h1
  have e1 : bf 13 = 366 := by decide
  have e2 : bf 1 = 0 := by decide
  unfold st
  rw [e1, e2, this, if_pos (by omega), if_neg (by omega)]
  omega
theorem ln_bd {m : Int} (h0 : 1 ≤ m) (h1 : m ≤ 12) : 29 ≤ ln m ∧ ln m ≤ 31 := by
  rcases m12 h0 h1 with rfl | rfl | rfl | rfl | rfl | rfl | rfl | rfl | rfl | rfl | rfl | rfl <;> decide
theorem len_bd {y m : Int} (h0 : 1 ≤ m) (h1 : m ≤ 12) : 28 ≤ len y m ∧ len y m ≤ 31 := by
  have h2 := ln_bd h0 h1
  have h3 := nl_01 y
  unfold len
  split <;> omega
theorem st_mono {y m : Int} : ∀ (d : Nat) (m' : Int), 1 ≤ m → m' ≤ 13 → m' - m = d → st y m ≤ st y m'
  | 0, m', h0, h1, h => by
    have : m' = m := by omega
    subst this
    exact Int.le_refl _
  | d + 1, m', h0, h1, h => by
    have h2 := st_mono (y := y) (m := m) d (m' - 1) h0 (by omega) (by omega)
    have h3 := st_next (y := y) (m := m' - 1) (by omega) (by omega)
    have h4 := len_bd (y := y) (m := m' - 1) (by omega) (by omega)
    rw [Int.sub_add_cancel] at h3
    omega
theorem yb_mono {y : Int} : ∀ (d : Nat) (y' : Int), 2000 ≤ y → y' ≤ 2201 → y' - y = d → yb y ≤ yb y'
  | 0, y', h0, h1, h => by
    have : y' = y := by omega
    subst this
    exact Int.le_refl _
  | d + 1, y', h0, h1, h => by
    have h2 := yb_mono (y := y) d (y' - 1) h0 (by omega) (by omega)
    have h3 := yb_next (y' - 1) (by omega) (by omega)
    have h4 := nl_01 (y' - 1)
    rw [Int.sub_add_cancel] at h3
    omega
theorem st_1 (y : Int) : st y 1 = yb y := by
  have e2 : bf 1 = 0 := by decide
  unfold st
  rw [e2, if_neg (by omega)]
  omega
/-- A later month begins behind the end of an earlier one. -/
theorem st_lex {y m y' m' : Int} (hy : 2000 ≤ y) (hy' : y' ≤ 2200) (hm : 1 ≤ m) (hm2 : m ≤ 12) (hm' : 1 ≤ m') (hm2' : m' ≤ 12) (h : y < y' ∨ (y = y' ∧ m < m')) : st y m + len y m ≤ st y' m' := by
  rw [← st_next hm hm2]
  rcases h with h | ⟨rfl, h⟩
  · have h1 := st_mono (y := y) (m := m + 1) (12 - m).toNat 13 (by omega) (by omega) (by omega)
    have h2 := st_13 y hy (by omega)
    have h3 := yb_mono (y := y + 1) (y' - (y + 1)).toNat y' (by omega) (by omega) (by omega)
    have h4 := st_mono (y := y') (m := 1) (m' - 1).toNat m' (by omega) (by omega) (by omega)
    have h5 := st_1 (y + 1)
    have h6 := st_1 y'
    omega
  · exact st_mono (m' - (m + 1)).toNat m' (by omega) (by omega) (by omega)
/-- A date. -/
def Rt (y m d : Int) : Prop := 2000 ≤ y ∧ y ≤ 2199 ∧ 1 ≤ m ∧ m ≤ 12 ∧ 1 ≤ d ∧ d ≤ len y m
def dayN (y m d : Int) : Int := st y m + d - 1
def lexLt (y m d y' m' d' : Int) : Prop := y < y' ∨ (y = y' ∧ (m < m' ∨ (m = m' ∧ d < d')))
theorem day_lt {y m d y' m' d' : Int} (h : Rt y m d) (h' : Rt y' m' d') (hl : lexLt y m d y' m' d') : dayN y m d < dayN y' m' d' := by
  obtain ⟨a1, a2, a3, a4, a5, a6⟩ := h
  obtain ⟨b1, b2, b3, b4, b5, b6⟩ := h'
  unfold dayN
  rcases hl with h1 | ⟨rfl, h1 | ⟨rfl, h1⟩⟩
  · have := st_lex (y := y) (m := m) (y' := y') (m' := m') a1 (by omega) a3 a4 b3 b4 (.inl h1)
    omega
  · have := st_lex (y := y) (m := m) (y' := y) (m' := m') a1 (by omega) a3 a4 b3 b4 (.inr ⟨rfl, h1⟩)
    omega
  · omega
theorem lex_or (y m d y' m' d' : Int) : lexLt y m d y' m' d' ∨ (y = y' ∧ m = m' ∧ d = d') ∨ lexLt y' m' d' y m d := by
  unfold lexLt
  omega
theorem day_inj {y m d y' m' d' : Int} (h : Rt y m d) (h' : Rt y' m' d') (e : dayN y m d = dayN y' m' d') : y = y' ∧ m = m' ∧ d = d' := by
  rcases lex_or y m d y' m' d' with h1 | h1 | h1
  · have := day_lt h h' h1; omega
  · exact h1
  · have := day_lt h' h h1; omega
theorem day_iff {y m d y' m' d' : Int} (h : Rt y m d) (h' : Rt y' m' d') : lexLt y m d y' m' d' ↔ dayN y m d < dayN y' m' d' := by
  refine ⟨day_lt h h', fun hd => ?_⟩
  rcases lex_or y m d y' m' d' with h1 | ⟨rfl, rfl, rfl⟩ | h1
  · exact h1
  · omega
  · have := day_lt h' h h1; omega
theorem day_bd {y m d : Int} (h : Rt y m d) : 0 ≤ dayN y m d ∧ dayN y m d ≤ 73048 := by
  have e1 : dayN 2000 1 1 = 0 := by decide +kernel
  have e2 : dayN 2199 12 31 = 73048 := by decide +kernel
  have r1 : Rt 2000 1 1 := by unfold Rt; decide +kernel
  have r2 : Rt 2199 12 31 := by unfold Rt; decide +kernel
  have hb := len_bd (y := y) (m := m) h.2.2.1 h.2.2.2.1
  obtain ⟨a1, a2, a3, a4, a5, a6⟩ := h
  constructor
  · rw [← e1]
    rcases lex_or 2000 1 1 y m d with h1 | ⟨rfl, rfl, rfl⟩ | h1
    · exact Int.le_of_lt (day_lt r1 ⟨a1, a2, a3, a4, a5, a6⟩ h1)
    · exact Int.le_refl _
    · unfold lexLt at h1; omega
  · rw [← e2]
    rcases lex_or y m d 2199 12 31 with h1 | ⟨rfl, rfl, rfl⟩ | h1
    · exact Int.le_of_lt (day_lt ⟨a1, a2, a3, a4, a5, a6⟩ r2 h1)
    · exact Int.le_refl _
    · unfold lexLt at h1; omega
/-! Of -/
theorem mgo_ok : ∀ r, r < 366 → (1 ≤ (GL.mgo GL.lens 0 (r : Nat)).1 ∧ (GL.mgo GL.lens 0 (r : Nat)).1 ≤ 12 ∧ (GL.mgo GL.lens 0 (r : Nat)).2 = r - bf (GL.mgo GL.lens 0 (r : Nat)).1 + 1 ∧ 1 ≤ (GL.mgo GL.lens 0 (r : Nat)).2 ∧ (GL.mgo GL.lens 0 (r : Nat)).2 ≤ ln (GL.mgo GL.lens 0 (r : Nat)).1) := by decide +kernel
theorem bf_2 {m : Int} (h0 : 1 ≤ m) (h1 : m ≤ 12) : (2 < m → 60 ≤ bf m) ∧ (m = 2 → bf m = 31) ∧ (m = 1 → bf m = 0) ∧ (m ≤ 2 → ln m ≤ 31 ∧ bf m + ln m ≤ 60) ∧ 0 ≤ bf m := by
  rcases m12 h0 h1 with rfl | rfl | rfl | rfl | rfl | rfl | rfl | rfl | rfl | rfl | rfl | rfl <;> decide
theorem of_spec {n : Int} (h0 : 0 ≤ n) (h1 : n ≤ 73048) : Rt (GL.ofS n).1 (GL.ofS n).2.1 (GL.ofS n).2.2.1 ∧ dayN (GL.ofS n).1 (GL.ofS n).2.1 (GL.ofS n).2.2.1 = n ∧ (GL.ofS n).2.2.2 = 0 := by
  have key : ∀ n' : Int, n' = (if 36584 ≤ n then n + 1 else n) → ∀ y r : Int, GL.yearS n' = (y, r) → 0 ≤ r ∧ r < 366 ∧ 2000 ≤ y ∧ y ≤ 2199 ∧ (nl y = 1 → r ≠ 59) ∧ yb y + r - (if 60 ≤ r then nl y else 0) = n := by
    intro n' hn' y r hy
    unfold GL.yearS at hy
    simp only at hy
    by_cases hq : 366 ≤ n' % 1461
    · rw [if_pos hq] at hy
      obtain ⟨e1, e2⟩ := Prod.mk.inj hy
      have hnl : nl y = 1 := by unfold nl; rw [if_neg]; omega
      have hyb : yb y = 365 * (y - 2000) + (y - 2000 + 3) / 4 - (if 2100 < y then 1 else 0) := rfl
      rw [hyb, hnl]
      by_cases hs : 59 ≤ (n' % 1461 - 366) % 365
      · rw [if_pos hs] at e2
        by_cases hg : 36584 ≤ n
        · rw [if_pos hg] at hn'
          rw [if_pos (by omega : (60 : Int) ≤ r)]
          by_cases h2 : 2100 < y
          · rw [if_pos h2]
            omega
          · omega
        · rw [if_neg hg] at hn'
          rw [if_pos (by omega : (60 : Int) ≤ r)]
          by_cases h2 : 2100 < y
          · omega
          · rw [if_neg h2]
            omega
      · rw [if_neg hs] at e2
        by_cases hg : 36584 ≤ n
        · rw [if_pos hg] at hn'
          rw [if_neg (by omega : ¬ (60 : Int) ≤ r)]
          by_cases h2 : 2100 < y
          · rw [if_pos h2]
            omega
          · omega
        · rw [if_neg hg] at hn'
          rw [if_neg (by omega : ¬ (60 : Int) ≤ r)]
          by_cases h2 : 2100 < y
          · omega
          · rw [if_neg h2]
            omega
    · rw [if_neg hq] at hy
      obtain ⟨e1, e2⟩ := Prod.mk.inj hy
      have hyb : yb y = 365 * (y - 2000) + (y - 2000 + 3) / 4 - (if 2100 < y then 1 else 0) := rfl
      rw [hyb]
      by_cases h3 : y = 2100
      · have hnl : nl y = 1 := by subst h3; decide
        rw [hnl, if_neg (by omega : ¬ 2100 < y)]
        by_cases hg : 36584 ≤ n
        · rw [if_pos hg] at hn'
          rw [if_pos (by omega : (60 : Int) ≤ r)]
          omega
        · rw [if_neg hg] at hn'
          rw [if_neg (by omega : ¬ (60 : Int) ≤ r)]
          omega
      · have hnl : nl y = 0 := by unfold nl; rw [if_pos]; omega
        rw [hnl]
        have e3 : (if (60 : Int) ≤ r then (0 : Int) else 0) = 0 := by split <;> rfl
        rw [e3]
        by_cases hg : 36584 ≤ n
        · rw [if_pos hg] at hn'
          rw [if_pos (by omega : 2100 < y)]
          omega
        · rw [if_neg hg] at hn'
          rw [if_neg (by omega : ¬ 2100 < y)]
          omega
  obtain ⟨n', hn'⟩ : ∃ n' : Int, n' = (if 36584 ≤ n then n + 1 else n) := ⟨_, rfl⟩
  obtain ⟨y, r, hy⟩ : ∃ y r, GL.yearS n' = (y, r) := ⟨_, _, rfl⟩
  obtain ⟨k0, k1, k2, k3, k4, k5⟩ := key n' hn' y r hy
  obtain ⟨rn, rfl⟩ : ∃ rn : Nat, r = (rn : Int) := ⟨r.toNat, (Int.toNat_of_nonneg k0).symm⟩
  obtain ⟨m, d, hmd⟩ : ∃ m d, GL.mgo GL.lens 0 (rn : Int) = (m, d) := ⟨_, _, rfl⟩
  have ho : GL.ofS n = (y, m, d, 0) := by
    unfold GL.ofS
    rw [if_pos ⟨h0, h1⟩, ← hn', hy]
    simp only [hmd]
  have hm := mgo_ok rn (by omega)
  rw [hmd] at hm
  simp only at hm
  obtain ⟨p1, p2, p3, p4, p5⟩ := hm
  have hb := bf_2 p1 p2
  rw [ho]
  have hnl := nl_01 y
  have e60 : (60 ≤ (rn : Int)) ↔ 2 < m := by
    constructor
    · intro h
      apply Classical.byContradiction
      intro hc
      have := hb.2.2.2.1 (by omega)
      omega
    · intro h
      have := hb.1 h
      omega
  refine ⟨⟨k2, k3, p1, p2, p4, ?_⟩, ?_, rfl⟩
  · show d ≤ len y m
    unfold len
    by_cases h2 : m = 2
    · rw [if_pos h2]
      have h3 := hb.2.1 h2
      have h4 : ln m = 29 := by rw [h2]; rfl
      rcases hnl with h5 | h5
      · omega
      · have := k4 h5
        omega
    · rw [if_neg h2]; omega
  · show dayN y m d = n
    unfold dayN st
    by_cases h2 : 2 < m
    · rw [if_pos h2]
      rw [if_pos (e60.2 h2)] at k5
      omega
    · rw [if_neg h2]
      rw [if_neg (fun h => h2 (e60.1 h))] at k5
      omega
/-! Number -/
theorem lens_ln {m : Int} (h0 : 1 ≤ m) (h1 : m ≤ 12) : GL.lens.getD (m - 1).toNat 0 = ln m ∧ CN.before (m - 1).toNat = bf m := by
  rcases m12 h0 h1 with rfl | rfl | rfl | rfl | rfl | rfl | rfl | rfl | rfl | rfl | rfl | rfl <;> decide
theorem leap_nl (y : Int) : (CN.leapB y = false ↔ nl y = 1) ∧ (CN.leapB y = true ↔ nl y = 0) := by
  unfold CN.leapB nl
  by_cases h : y % 4 = 0 ∧ y ≠ 2100
  · rw [if_pos h, beq_iff_eq.2 h.1, bne_iff_ne.2 h.2]
    simp
  · rw [if_neg h]
    by_cases h4 : y % 4 = 0
    · have : y = 2100 := by
        apply Classical.byContradiction
        intro hc
        exact h ⟨h4, hc⟩
      subst this
      decide
    · rw [beq_eq_false_iff_ne.2 h4]
      simp
theorem num_good {y m d : Int} (h : Rt y m d) : CN.numS y m d = (dayN y m d, 0) := by
  obtain ⟨a1, a2, a3, a4, a5, a6⟩ := h
  obtain ⟨e1, e2⟩ := lens_ln a3 a4
  obtain ⟨l1, l2⟩ := leap_nl y
  unfold len at a6
  have hg : CN.goodD y m d = true := by
    unfold CN.goodD
    simp only [Bool.and_eq_true, decide_eq_true_eq, Bool.not_eq_true', Bool.and_eq_false_iff, decide_eq_false_iff_not, Bool.not_eq_false']
    refine ⟨⟨⟨⟨⟨⟨a1, a2⟩, a3⟩, a4⟩, a5⟩, ?_⟩, ?_⟩
    · rw [e1]
      have := nl_01 y
      split at a6 <;> omega
    · by_cases h2 : m = 2
      · rw [if_pos h2] at a6
        have h4 : ln m = 29 := by rw [h2]; rfl
        rcases nl_01 y with h5 | h5
        · exact .inr (l2.2 h5)
        · exact .inl (.inr (by omega))
      · exact .inl (.inl h2)
  unfold CN.numS
  rw [if_pos hg, e2]
  congr 1
  unfold dayN st yb
  by_cases h1 : 100 < y - 2000
  · rw [if_pos h1, if_pos (by omega : 2100 < y)]
    by_cases h2 : 2 < m
    · rw [if_pos h2]
      rcases nl_01 y with h5 | h5
      · rw [if_neg (by rw [l2.2 h5]; simp)]; omega
      · rw [if_pos ⟨h2, l1.2 h5⟩]; omega
    · rw [if_neg (fun h => h2 h.1), if_neg h2]; omega
  · rw [if_neg h1, if_neg (by omega : ¬ 2100 < y)]
    by_cases h2 : 2 < m
    · rw [if_pos h2]
      rcases nl_01 y with h5 | h5
      · rw [if_neg (by rw [l2.2 h5]; simp)]; omega
      · rw [if_pos ⟨h2, l1.2 h5⟩]; omega
    · rw [if_neg (fun h => h2 h.1), if_neg h2]; omega
theorem num_bad {y m d : Int} (h : ¬ Rt y m d) : CN.numS y m d = (0, 120) := by
  unfold CN.numS
  rw [if_neg]
  intro hg
  apply h
  unfold CN.goodD at hg
  simp only [Bool.and_eq_true, decide_eq_true_eq, Bool.not_eq_true', Bool.and_eq_false_iff, decide_eq_false_iff_not, Bool.not_eq_false'] at hg
  obtain ⟨⟨⟨⟨⟨⟨a1, a2⟩, a3⟩, a4⟩, a5⟩, a6⟩, a7⟩ := hg
  obtain ⟨e1, e2⟩ := lens_ln a3 a4
  obtain ⟨l1, l2⟩ := leap_nl y
  rw [e1] at a6
  refine ⟨a1, a2, a3, a4, a5, ?_⟩
  unfold len
  by_cases h2 : m = 2
  · rw [if_pos h2]
    have h4 : ln m = 29 := by rw [h2]; rfl
    rcases nl_01 y with h5 | h5
    · omega
    · rcases a7 with (h6 | h6) | h6
      · exact absurd h2 h6
      · omega
      · rw [l2.1 h6] at h5; omega
  · rw [if_neg h2]; omega
theorem of_inv {y m d : Int} (h : Rt y m d) : GL.ofS (dayN y m d) = (y, m, d, 0) := by
  have hb := day_bd h
  obtain ⟨r, e, z⟩ := of_spec hb.1 hb.2
  obtain ⟨e1, e2, e3⟩ := day_inj r h e
  have : GL.ofS (dayN y m d) = ((GL.ofS (dayN y m d)).1, (GL.ofS (dayN y m d)).2.1, (GL.ofS (dayN y m d)).2.2.1, (GL.ofS (dayN y m d)).2.2.2) := rfl
  rw [this, e1, e2, e3, z]
end Go.Proofs.YtpodgkmgameocaaDoor.DA
