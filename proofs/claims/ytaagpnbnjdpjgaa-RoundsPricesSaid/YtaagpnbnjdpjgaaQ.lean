/- Proved here: plain laws of layer 32's printed functions (equality of lists, bounds, validity), under the conditions that each theorem names. -/
import Derived.Test.YtaagpnbnjdpjgaaX4
import Derived.Test.YtaagpnbnjdpjgaaX7
import Derived.Test.YtaagpnbnjdpjgaaX8
import Derived.Test.YtaagpnbnjdpjgaaX9
import Derived.Test.YtaagpnbnjdpjgaaX10
import Derived.Test.YtaagpnbnjdpjgaaK
namespace Go.Proofs.Ytaagpnbnjdpjgaa.Q
open Go.RowKit Go.Proofs.Ytaagpnbnjdpjgaa.X Go.Proofs.YtaagpnbnjdpjgaaW.PrintWords Go.Proofs.YtaagpnbnjdpjgaaW.PrintLast Go.Proofs.Ytaagpnbnjdpjgaa.K
set_option linter.unusedVariables false
set_option linter.unusedSimpArgs false

theorem sane_ev : Ev (fun _ : Nat => fastilaw32_sane.f) true := Ev.now true

/-! Two lists are equal. -/
theorem same_loop (a b : List Int) (hab : a.length = b.length) (hl : a.length < 4611686018427387904) (d : Nat) : ∀ i : Nat, a.length - i = d → i ≤ a.length → (∀ j, j < i → a[j]? = b[j]?) → Ev (fun k => fastiref32_Same.l0 k a b (i : Int)) (decide (a = b)) := by
  induction d with
  | zero =>
    intro i hd hi hp
    refine Ev.eq fun k => ?_
    simp only [fastiref32_Same.l0]
    rw [if_neg (by omega)]
    have : a = b := by
      apply List.ext_getElem? 
      intro j
      by_cases h : j < i
      · exact hp j h
      · rw [List.getElem?_eq_none (by omega), List.getElem?_eq_none (by omega)]
    rw [decide_eq_true this]
  | succ d ih =>
    intro i hd hi hp
    have hi' : i < a.length := by omega
    by_cases he : a[i] = b[i]
    · refine Ev.step (f := fun k => fastiref32_Same.l0 k a b ((i + 1 : Nat) : Int)) (fun k => ?_) (ih (i + 1) (by omega) (by omega) (fun j hj => ?_))
      · simp only [fastiref32_Same.l0]
        rw [if_pos (by omega), if_pos (by omega), if_pos (by omega), rd_lt hi', rd_lt (by omega), if_pos he, w64s i (by omega)]
      · by_cases h : j < i
        · exact hp j h
        · obtain rfl : j = i := by omega
          rw [List.getElem?_eq_getElem hi', List.getElem?_eq_getElem (by omega), he]
    · refine Ev.eq fun k => ?_
      simp only [fastiref32_Same.l0]
      rw [if_pos (by omega), if_pos (by omega), if_pos (by omega), rd_lt hi', rd_lt (by omega), if_neg he]
      have : a ≠ b := fun e => he (by subst e; rfl)
      rw [decide_eq_false this]
theorem same_ev (a b : List Int) (hl : a.length < 4611686018427387904) : Ev (fun k => fastiref32_Same.f k a b) (decide (a = b)) := by
  by_cases hab : a.length = b.length
  · refine Ev.congr (f := fun k => fastiref32_Same.l0 k a b ((0 : Nat) : Int)) (fun k => ?_) (same_loop a b hab hl _ 0 rfl (Nat.zero_le _) (fun j hj => by omega))
    unfold fastiref32_Same.f
    rw [if_pos (by omega)]
    rfl
  · refine Ev.all fun k => ?_
    unfold fastiref32_Same.f
    rw [if_neg (by omega), decide_eq_false (fun e => hab (by rw [e]))]

/-! Few. -/
def fewS (l0 : List Int) (l2 : List (List Int)) : Bool := decide (l0.length ≤ 500) && decide (l2.length ≤ 50) && l2.all (fun r => decide (r.length ≤ 500))
theorem few_loop (x0 : List Int) (x1 : List (List Int)) (d : Nat) : ∀ i : Nat, 51 - i = d → i ≤ 51 → i ≤ x1.length → (∀ r ∈ x1.take i, r.length ≤ 500) → ∃ b, Ev (fun k => fastiref32_Few.l0 k x0 x1 (i : Int)) b ∧ (b = true → x0.length ≤ 500 ∧ x1.length ≤ 50 ∧ ∀ r ∈ x1, r.length ≤ 500) ∧ (b = false → fewS x0 x1 = false) := by
  induction d with
  | zero =>
    intro i hd hi hx hp
    obtain rfl : i = 51 := by omega
    have hs : Ev (fun k => fastiref32_Few.l0 k x0 x1 ((51 : Nat) : Int)) (if x0.length ≤ 500 then decide ((x1.length : Int) ≤ 50) else false) := by
      refine Ev.step (f := fun k => fastiref32_Few.j1 k x0 x1 ((51 : Nat) : Int) false) (fun k => ?_) (Ev.eq fun k => ?_)
      · simp only [fastiref32_Few.l0]
        split <;> rfl
      · simp only [fastiref32_Few.j1]
        rw [if_neg (by decide)]
        by_cases h : x0.length ≤ 500
        · rw [if_pos (by omega), if_pos h]
        · rw [if_neg (by omega), if_neg h]
    refine ⟨_, hs, fun h => ?_, fun h => ?_⟩
    · split at h
      · have := of_decide_eq_true h; omega
      · cases h
    · simp only [fewS, Bool.and_eq_false_iff, decide_eq_false_iff_not]
      exact .inl (.inr (by omega))
  | succ d ih =>
    intro i hd hi hx hp
    by_cases hl : i < x1.length
    · have hstep : ∀ k, fastiref32_Few.l0 (k + 1) x0 x1 (i : Int) = fastiref32_Few.j1 k x0 x1 (i : Int) true := fun k => by
        simp only [fastiref32_Few.l0]
        rw [if_pos (by omega), decide_eq_true (by omega)]
      by_cases hr : x1[i].length ≤ 500
      · obtain ⟨b, h1, h2, h3⟩ := ih (i + 1) (by omega) (by omega) (by omega) (fun r hr' => by
          rw [List.take_succ_eq_append_getElem hl] at hr'
          rcases List.mem_append.1 hr' with h | h
          · exact hp r h
          · rw [List.mem_singleton.1 h]; exact hr)
        refine ⟨b, Ev.step hstep (Ev.step (fun k => ?_) h1), h2, h3⟩
        simp only [fastiref32_Few.j1]
        rw [if_pos trivial, if_pos (by omega), if_pos (by omega), PC.rd_L1_lt hl, if_neg (by omega), w64s i (by omega)]
      · refine ⟨false, Ev.step hstep (Ev.eq fun k => ?_), by simp, fun _ => ?_⟩
        · simp only [fastiref32_Few.j1]
          rw [if_pos trivial, if_pos (by omega), if_pos (by omega), PC.rd_L1_lt hl, if_pos (by omega)]
        · simp only [fewS, Bool.and_eq_false_iff]
          refine .inr ?_
          rw [List.all_eq_false]
          exact ⟨x1[i], List.getElem_mem _, by simpa using hr⟩
    · obtain rfl : i = x1.length := by omega
      have hs : Ev (fun k => fastiref32_Few.l0 k x0 x1 (x1.length : Int)) (if x0.length ≤ 500 then decide ((x1.length : Int) ≤ 50) else false) := by
        refine Ev.step (f := fun k => fastiref32_Few.j1 k x0 x1 (x1.length : Int) false) (fun k => ?_) (Ev.eq fun k => ?_)
        · simp only [fastiref32_Few.l0]
          rw [if_neg (by omega)]
        · simp only [fastiref32_Few.j1]
          rw [if_neg (by decide)]
          by_cases h : x0.length ≤ 500
          · rw [if_pos (by omega), if_pos h]
          · rw [if_neg (by omega), if_neg h]
      refine ⟨_, hs, fun h => ?_, fun h => ?_⟩
      · split at h
        · have := of_decide_eq_true h
          rw [List.take_length] at hp
          exact ⟨by assumption, by omega, hp⟩
        · cases h
      · simp only [fewS, Bool.and_eq_false_iff, decide_eq_false_iff_not]
        split at h
        · have := of_decide_eq_false h
          exact .inl (.inr (by omega))
        · exact .inl (.inl (by assumption))
theorem few_ev (l0 : List Int) (l2 : List (List Int)) : Ev (fun k => fastiref32_Few.f k l0 l2) (fewS l0 l2) := by
  obtain ⟨b, h1, h2, h3⟩ := few_loop l0 l2 51 0 rfl (by omega) (Nat.zero_le _) (fun r hr => by simp at hr)
  have : b = fewS l0 l2 := by
    cases b
    · exact (h3 rfl).symm
    · obtain ⟨a1, a2, a3⟩ := h2 rfl
      symm
      simp only [fewS, Bool.and_eq_true, decide_eq_true_eq, List.all_eq_true]
      exact ⟨⟨a1, a2⟩, a3⟩
  rw [← this]
  exact h1

/-! The reference's Check. -/
theorem rc_cols (x0 : List Int) (x2 : List (List Int)) (h0 : x0.length ≤ 400) (h2 : x2.length ≤ 40) (i : Nat) (hi : i < x2.length) (hr : x2[i].length = x0.length) (R : Int) (hR : Ev (fun k => fastiref32_Check.l1 k x0 x2 ((i + 1 : Nat) : Int)) R) (d : Nat) :
    ∀ j : Nat, x0.length - j = d → j ≤ x0.length → (∀ q (hq : q < x2[i].length), q < j → -1 ≤ x2[i][q] ∧ x2[i][q] ≤ 1048576) → Ev (fun k => fastiref32_Check.l2 k x0 x2 (i : Int) (j : Int)) (if PC.rowOk x0.length x2[i] = true then R else 320) := by
  induction d with
  | zero =>
    intro j hd hj hp
    have : PC.rowOk x0.length x2[i] = true := by
      simp only [PC.rowOk, Bool.and_eq_true, decide_eq_true_eq, List.all_eq_true]
      have hq : ∀ p ∈ x2[i], -1 ≤ p ∧ p ≤ 1048576 := fun p hp' => by
        obtain ⟨q, hq, rfl⟩ := List.getElem_of_mem hp'
        exact hp q hq (by omega)
      exact ⟨⟨hr, fun p h => (hq p h).1⟩, fun p h => (hq p h).2⟩
    rw [if_pos this]
    refine Ev.step (fun k => ?_) hR
    simp only [fastiref32_Check.l2]
    rw [if_neg (by omega), w64s i (by omega)]
  | succ d ih =>
    intro j hd hj hp
    have hj' : j < x0.length := by omega
    have hstep : ∀ k, fastiref32_Check.l2 (k + 1) x0 x2 (i : Int) (j : Int) = if x2[i][j] < -1 then some 320 else if x2[i][j] > 1048576 then some 320 else fastiref32_Check.l2 k x0 x2 (i : Int) ((j + 1 : Nat) : Int) := fun k => by
      simp only [fastiref32_Check.l2]
      rw [if_pos (by omega), if_pos (by omega), if_pos (by omega), if_pos (by omega), PC.rd_L1_lt hi, if_pos (by omega), rd_lt (by omega), w64s j (by omega)]
    by_cases hb : -1 ≤ x2[i][j] ∧ x2[i][j] ≤ 1048576
    · refine Ev.step (f := fun k => fastiref32_Check.l2 k x0 x2 (i : Int) ((j + 1 : Nat) : Int)) (fun k => ?_) (ih (j + 1) (by omega) (by omega) (fun q hq hlt => ?_))
      · rw [hstep, if_neg (by omega), if_neg (by omega)]
      · by_cases h : q < j
        · exact hp q hq h
        · obtain rfl : q = j := by omega
          exact hb
    · have : PC.rowOk x0.length x2[i] = false := by
        cases hz : PC.rowOk x0.length x2[i]
        · rfl
        · simp only [PC.rowOk, Bool.and_eq_true, decide_eq_true_eq, List.all_eq_true] at hz
          exact absurd ⟨hz.1.2 _ (List.getElem_mem _), hz.2 _ (List.getElem_mem _)⟩ hb
      rw [this, if_neg (by decide)]
      refine Ev.eq fun k => ?_
      rw [hstep]
      by_cases h : x2[i][j] < -1
      · rw [if_pos h]
      · rw [if_neg h, if_pos (by omega)]
theorem rc_rows (x0 : List Int) (x2 : List (List Int)) (h0 : x0.length ≤ 400) (h2 : x2.length ≤ 40) (d : Nat) :
    ∀ i : Nat, x2.length - i = d → i ≤ x2.length → Ev (fun k => fastiref32_Check.l1 k x0 x2 (i : Int)) (if (x2.drop i).all (PC.rowOk x0.length) = true then 0 else 320) := by
  induction d with
  | zero =>
    intro i hd hi
    obtain rfl : i = x2.length := by omega
    rw [List.drop_length]
    refine Ev.eq fun k => ?_
    simp only [fastiref32_Check.l1]
    rw [if_neg (by omega)]; rfl
  | succ d ih =>
    intro i hd hi
    have hi' : i < x2.length := by omega
    rw [List.drop_eq_getElem_cons hi', List.all_cons]
    by_cases hr : x2[i].length = x0.length
    · have h := rc_cols x0 x2 h0 h2 i hi' hr _ (ih (i + 1) (by omega) (by omega)) _ 0 rfl (Nat.zero_le _) (fun q hq h => by omega)
      refine Ev.step (f := fun k => fastiref32_Check.l2 k x0 x2 (i : Int) ((0 : Nat) : Int)) (fun k => ?_) ?_
      · simp only [fastiref32_Check.l1]
        rw [if_pos (by omega), if_pos (by omega), PC.rd_L1_lt hi', if_pos (by omega)]; rfl
      · cases hz : PC.rowOk x0.length x2[i]
        · rw [hz] at h; simpa using h
        · rw [hz] at h; simpa using h
    · have : PC.rowOk x0.length x2[i] = false := by
        simp only [PC.rowOk, Bool.and_eq_false_iff, decide_eq_false_iff_not]
        exact .inl (.inl hr)
      rw [this]
      refine Ev.eq fun k => ?_
      simp only [fastiref32_Check.l1]
      rw [if_pos (by omega), if_pos (by omega), PC.rd_L1_lt hi', if_neg (by omega)]; rfl
def daysOk (x0 : List Int) : Bool := asc x0 && x0.all (fun d => decide (0 ≤ d)) && x0.all (fun d => decide (d ≤ 73048))
theorem rc_days (x0 : List Int) (x2 : List (List Int)) (h0 : x0.length ≤ 400) (R : Int) (hR : Ev (fun k => fastiref32_Check.l1 k x0 x2 ((0 : Nat) : Int)) R) (d : Nat) :
    ∀ i : Nat, x0.length - i = d → i ≤ x0.length → (∀ q (hq : q < x0.length), q < i → 0 ≤ x0[q] ∧ x0[q] ≤ 73048) → (∀ q (hq : q + 1 < x0.length), q + 1 < i → x0[q] < x0[q + 1]) →
      Ev (fun k => fastiref32_Check.l0 k x0 x2 (i : Int)) (if daysOk x0 = true then R else 320) := by
  induction d with
  | zero =>
    intro i hd hi hp ha
    have : daysOk x0 = true := by
      simp only [daysOk, Bool.and_eq_true, decide_eq_true_eq, List.all_eq_true]
      have hq : ∀ p ∈ x0, 0 ≤ p ∧ p ≤ 73048 := fun p hp' => by
        obtain ⟨q, hq, rfl⟩ := List.getElem_of_mem hp'
        exact hp q hq (by omega)
      exact ⟨⟨asc_of (fun q hq => ha q hq (by omega)), fun p h => (hq p h).1⟩, fun p h => (hq p h).2⟩
    rw [if_pos this]
    refine Ev.step (fun k => ?_) hR
    simp only [fastiref32_Check.l0]
    rw [if_neg (by omega)]; rfl
  | succ d ih =>
    intro i hd hi hp ha
    have hi' : i < x0.length := by omega
    by_cases hb : 0 ≤ x0[i] ∧ x0[i] ≤ 73048
    · by_cases hs : 0 < i → rd x0 ((i - 1 : Nat) : Int) < x0[i]
      · refine Ev.step (f := fun k => fastiref32_Check.l0 k x0 x2 ((i + 1 : Nat) : Int)) (fun k => ?_) (ih (i + 1) (by omega) (by omega) (fun q hq hlt => ?_) (fun q hq hlt => ?_))
        · simp only [fastiref32_Check.l0]
          rw [if_pos (by omega), if_pos (by omega), rd_lt hi', if_neg (by omega), if_neg (by omega)]
          by_cases h : 0 < i
          · have := hs h
            rw [if_pos (by omega), w64p i h (by omega), if_pos (by omega), if_pos (by omega), if_neg (by omega), w64s i (by omega)]
          · rw [if_neg (by omega), w64s i (by omega)]
        · by_cases h : q < i
          · exact hp q hq h
          · obtain rfl : q = i := by omega
            exact hb
        · by_cases h : q + 1 < i
          · exact ha q hq h
          · obtain rfl : i = q + 1 := by omega
            have h1 := hs (by omega)
            rwa [Nat.add_sub_cancel, rd_lt (by omega)] at h1
      · have hi0 : 0 < i := Nat.pos_of_ne_zero fun e => hs fun h => by omega
        have : daysOk x0 = false := by
          cases hz : daysOk x0
          · rfl
          · simp only [daysOk, Bool.and_eq_true] at hz
            exact absurd (fun _ => by rw [rd_lt (by omega)]; exact asc_get hz.1.1 (show i - 1 < i by omega) hi') hs
        rw [this, if_neg (by decide)]
        refine Ev.eq fun k => ?_
        simp only [fastiref32_Check.l0]
        have hs' : ¬ rd x0 ((i - 1 : Nat) : Int) < x0[i] := fun h => hs fun _ => h
        rw [if_pos (by omega), if_pos (by omega), rd_lt hi', if_neg (by omega), if_neg (by omega), if_pos (by omega), w64p i hi0 (by omega), if_pos (by omega), if_pos (by omega), if_pos (by omega)]
    · have : daysOk x0 = false := by
        cases hz : daysOk x0
        · rfl
        · simp only [daysOk, Bool.and_eq_true, decide_eq_true_eq, List.all_eq_true] at hz
          exact absurd ⟨hz.1.2 _ (List.getElem_mem _), hz.2 _ (List.getElem_mem _)⟩ hb
      rw [this, if_neg (by decide)]
      refine Ev.eq fun k => ?_
      simp only [fastiref32_Check.l0]
      rw [if_pos (by omega), if_pos (by omega), rd_lt hi']
      by_cases h : x0[i] < 0
      · rw [if_pos h]
      · rw [if_neg h, if_pos (by omega)]
theorem rcheck_ev (l0 : List Int) (a1 : Int) (l2 : List (List Int)) : Ev (fun k => fastiref32_Check.f k l0 a1 l2) (PC.checkS l0 a1 l2) := by
  unfold PC.checkS
  by_cases hbig : 400 < l0.length ∨ 40 < l2.length
  · rw [if_pos hbig]
    refine Ev.step (f := fun _ => some 2) (fun k => ?_) (Ev.now 2)
    unfold fastiref32_Check.f
    by_cases h : 400 < l0.length
    · rw [if_pos (by omega)]; simp only [fastiref32_Check.j0, if_true]
    · rw [if_neg (by omega)]; simp only [fastiref32_Check.j0]; rw [if_pos (by simp; omega)]
  · rw [if_neg hbig]
    have hf : ∀ k, fastiref32_Check.f k l0 a1 l2 = fastiref32_Check.j0 k l0 a1 l2 false := fun k => by
      unfold fastiref32_Check.f
      rw [if_neg (by omega), decide_eq_false (by omega)]
    refine Ev.congr hf ?_
    by_cases hh : 0 < l0.length ∧ 1 ≤ a1 ∧ a1 ≤ 400
    · have h := rc_days l0 l2 (by omega) _ (rc_rows l0 l2 (by omega) (by omega) _ 0 rfl (Nat.zero_le _)) _ 0 rfl (Nat.zero_le _) (fun q _ h => by omega) (fun q _ h => by omega)
      rw [List.drop_zero] at h
      have he : (if daysOk l0 = true then (if l2.all (PC.rowOk l0.length) = true then (0 : Int) else 320) else 320) = if PC.okB l0 a1 l2 = true then 0 else 320 := by
        have : PC.okB l0 a1 l2 = (daysOk l0 && l2.all (PC.rowOk l0.length)) := by
          simp only [PC.okB, daysOk, hh.1, hh.2.1, hh.2.2, decide_true, Bool.true_and, Bool.and_true, Bool.and_assoc]
        rw [this]
        cases daysOk l0 <;> cases l2.all (PC.rowOk l0.length) <;> rfl
      rw [he] at h
      refine Ev.step (f := fun k => fastiref32_Check.j1 k l0 l2 false) (fun k => ?_) (Ev.step (f := fun k => fastiref32_Check.l0 k l0 l2 ((0 : Nat) : Int)) (fun k => ?_) h)
      · simp only [fastiref32_Check.j0]
        rw [if_neg (by decide), if_neg (by omega), if_neg (by omega), decide_eq_false (by omega)]
      · simp only [fastiref32_Check.j1]
        rw [if_neg (by decide)]; rfl
    · have : ¬ PC.okB l0 a1 l2 = true := fun h => hh (by have := PC.okB_parts h; exact ⟨this.1, this.2.2.2.1, this.2.2.2.2.1⟩)
      rw [if_neg this]
      refine Ev.step (f := fun k => fastiref32_Check.j1 k l0 l2 true) (fun k => ?_) (Ev.eq fun k => ?_)
      · simp only [fastiref32_Check.j0]
        rw [if_neg (by decide)]
        by_cases h1 : l0.length = 0
        · rw [if_pos (by omega)]
        · rw [if_neg (by omega)]
          by_cases h2 : a1 < 1
          · rw [if_pos h2]
          · rw [if_neg h2, decide_eq_true (by omega)]
      · simp only [fastiref32_Check.j1]
        rw [if_pos trivial]
end Go.Proofs.Ytaagpnbnjdpjgaa.Q
