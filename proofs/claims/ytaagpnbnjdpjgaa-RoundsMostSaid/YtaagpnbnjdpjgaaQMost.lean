/- Proved here: plain laws of layer 32's printed functions (Most, and the statement RoundsSpec), under the conditions that each theorem names. -/
import Derived.Test.YtaagpnbnjdpjgaaQ
import Derived.Test.YtaagpnbnjdpjgaaX11
namespace Go.Proofs.Ytaagpnbnjdpjgaa.Q
open Go.RowKit Go.Proofs.Ytaagpnbnjdpjgaa.X Go.Proofs.YtaagpnbnjdpjgaaW.PrintWords Go.Proofs.YtaagpnbnjdpjgaaW.PrintLast Go.Proofs.Ytaagpnbnjdpjgaa.K
set_option linter.unusedVariables false
set_option linter.unusedSimpArgs false

/-- How many days the greedy way takes, the next one not before `next`. -/
def grd (a1 : Int) : List Int → Int → Nat
  | [], _ => 0
  | d :: ds, next => if next ≤ d then grd a1 ds (d + a1) + 1 else grd a1 ds next
theorem fin_drop {n i : Nat} (h : i < n) : (List.finRange n).drop i = ⟨i, h⟩ :: (List.finRange n).drop (i + 1) := by
  rw [List.drop_eq_getElem_cons (by simpa using h)]
  simp
theorem most_fold (l0 : List Int) (a1 : Int) (hd : ∀ x ∈ l0, 0 ≤ x ∧ x ≤ 73048) (h1 : 1 ≤ a1) (h2 : a1 ≤ 400) (hl : l0.length ≤ 400) (d : Nat) : ∀ (i m : Nat) (next : Int), l0.length - i = d → i ≤ l0.length → m ≤ i →
    (((List.finRange l0.length).drop i).foldl (PC.mostStep l0 a1) ((m : Int), next)).1 = ((m + grd a1 (l0.drop i) next : Nat) : Int) := by
  induction d with
  | zero =>
    intro i m next hd hi hm
    obtain rfl : i = l0.length := by omega
    rw [List.drop_of_length_le (by simp), List.drop_length]
    simp [grd]
  | succ d ih =>
    intro i m next hdd hi hm
    have hi' : i < l0.length := by omega
    rw [fin_drop hi', List.foldl_cons, drop_get hi', grd, PC.mostStep]
    have hx := hd _ (List.getElem_mem hi')
    simp only [rd_lt hi']
    by_cases h : next ≤ l0[i]
    · rw [if_pos h, if_pos h, w64s m (by omega), w64 (by omega) (by omega), ih (i + 1) (m + 1) _ (by omega) (by omega) (by omega)]
      congr 1
      omega
    · rw [if_neg h, if_neg h, ih (i + 1) m _ (by omega) (by omega) (by omega)]
theorem refmost_loop (x0 : List Int) (x1 : Int) (hd : ∀ x ∈ x0, 0 ≤ x ∧ x ≤ 73048) (h1 : 1 ≤ x1) (h2 : x1 ≤ 400) (hl : x0.length ≤ 400) (d : Nat) : ∀ (i m : Nat) (last : Int), x0.length - i = d → i ≤ x0.length → m ≤ i → 0 ≤ last → last ≤ 73048 →
    Ev (fun k => fastiref32_Most.l0 k x0 x1 (m : Int) last (i : Int)) (((m + grd x1 (x0.drop i) (last + x1) : Nat) : Int), 0) := by
  induction d with
  | zero =>
    intro i m last hd hi hm _ _
    obtain rfl : i = x0.length := by omega
    rw [List.drop_length]
    refine Ev.eq fun k => ?_
    simp only [fastiref32_Most.l0]
    rw [if_neg (by omega)]; rfl
  | succ d ih =>
    intro i m last hdd hi hm hl0 hl1
    have hi' : i < x0.length := by omega
    have hx := hd _ (List.getElem_mem hi')
    rw [drop_get hi', grd]
    by_cases h : last + x1 ≤ x0[i]
    · rw [if_pos h]
      have h' := ih (i + 1) (m + 1) x0[i] (by omega) (by omega) (by omega) hx.1 hx.2
      rw [show m + 1 + grd x1 (List.drop (i + 1) x0) (x0[i] + x1) = m + (grd x1 (List.drop (i + 1) x0) (x0[i] + x1) + 1) by omega] at h'
      refine Ev.step (fun k => ?_) h'
      simp only [fastiref32_Most.l0]
      rw [if_pos (by omega), if_pos (by omega), rd_lt hi', w64 (x := last + x1) (by omega) (by omega), if_pos (by omega), w64s m (by omega), w64s i (by omega)]
    · rw [if_neg h]
      refine Ev.step (fun k => ?_) (ih (i + 1) m last (by omega) (by omega) (by omega) hl0 hl1)
      simp only [fastiref32_Most.l0]
      rw [if_pos (by omega), if_pos (by omega), rd_lt hi', w64 (x := last + x1) (by omega) (by omega), if_neg (by omega), w64s i (by omega)]
def mostA (l0 : List Int) (a1 : Int) : Int × Int := if PC.checkS l0 a1 [] = 0 then ((grd a1 l0 (rd l0 0) : Nat), 0) else (0, PC.checkS l0 a1 [])
theorem most_eq (l0 : List Int) (a1 : Int) : rounds_Most.f l0 a1 = some (mostA l0 a1) := by
  unfold rounds_Most.f mostA
  by_cases h : PC.checkS l0 a1 [] = 0
  · rw [if_pos h, if_pos h]
    obtain ⟨hok, hl4, _⟩ := PC.okB_of h
    obtain ⟨hpos, hasc, hday, hra, hrb, _⟩ := PC.okB_parts hok
    have hz : lb l0 (rd l0 0) = 0 := by
      cases l0 with
      | nil => rfl
      | cons a l => rw [lb_cons, if_neg (by simp [rd])]
    have h' := most_fold l0 a1 hday hra hrb hl4 _ 0 0 (rd l0 0) rfl (Nat.zero_le _) (Nat.le_refl _)
    rw [List.drop_zero, List.drop_zero, Nat.zero_add] at h'
    unfold PC.fromL PC.mostS
    rw [hz, List.drop_zero]
    rw [show ((0 : Nat) : Int) = 0 from rfl] at h'
    rw [h']
  · rw [if_neg h, if_neg h]
theorem refmost_ev (l0 : List Int) (a1 : Int) : Ev (fun k => fastiref32_Most.f k l0 a1) (mostA l0 a1) := by
  unfold mostA
  refine Ev.bind (rcheck_ev l0 a1 []) ?_
  by_cases h : PC.checkS l0 a1 [] = 0
  · obtain ⟨hok, hl4, _⟩ := PC.okB_of h
    obtain ⟨hpos, hasc, hday, hra, hrb, _⟩ := PC.okB_parts hok
    have r0 : rd l0 0 = l0[0] := rd_lt (i := 0) hpos
    have hx := hday _ (List.getElem_mem hpos)
    have h' := refmost_loop l0 a1 hday hra hrb hl4 _ 1 1 (rd l0 0) rfl (by omega) (Nat.le_refl _) (by omega) (by omega)
    rw [if_pos h]
    have e : grd a1 l0 (rd l0 0) = 1 + grd a1 (l0.drop 1) (rd l0 0 + a1) := by
      cases l0 with
      | nil => simp at hpos
      | cons a l =>
        rw [grd]
        simp only [rd, List.drop_succ_cons, List.drop_zero, Int.toNat_zero, List.getD_cons_zero]
        rw [if_pos (Int.le_refl _)]
        omega
    rw [e]
    refine Ev.congr (fun k => ?_) h'
    rw [if_pos h, if_pos (by omega)]; rfl
  · rw [if_neg h]
    refine Ev.all fun k => ?_
    rw [if_neg h]
theorem roundsSpec : fastilaw32_RoundsSpec.Pure := by
  intro l0 a1 _ _ _ _
  refine Ev.rounds (r := true) (Ev.bind sane_ev ?_)
  refine Ev.congr (fun k => if_pos rfl) ?_
  refine Ev.bind (few_ev l0 []) ?_
  cases hf : fewS l0 []
  · exact Ev.all fun k => by simp
  · refine Ev.congr (fun k => if_pos rfl) ?_
    refine Ev.congr (f := fun k => (fastiref32_Most.f k l0 a1).bind fun bt => if (mostA l0 a1).1 = bt.1 then some ((mostA l0 a1).2 == bt.2) else some false) (fun k => by rw [most_eq]; rfl) ?_
    refine Ev.bind (refmost_ev l0 a1) (Ev.all fun k => ?_)
    rw [if_pos rfl]
    simp
end Go.Proofs.Ytaagpnbnjdpjgaa.Q
