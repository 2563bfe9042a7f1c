/- Proved here: the plain law of the statement RoundsBest; no condition beyond the statement's own. -/
import Derived.Test.YtaagpnbnjdpjgaaQPlaced
import Derived.Test.YtaagpnbnjdpjgaaX15
namespace Go.Proofs.Ytaagpnbnjdpjgaa.Q
open Go.RowKit Go.Proofs.Ytaagpnbnjdpjgaa.X Go.Proofs.YtaagpnbnjdpjgaaW.PrintWords Go.Proofs.YtaagpnbnjdpjgaaW.PrintLast Go.Proofs.Ytaagpnbnjdpjgaa.K
set_option linter.unusedVariables false
set_option linter.unusedSimpArgs false

theorem roundsBest (l0 : List Int) (a1 : Int) (l2 : List (List Int)) (l3 : List Int) (h3 : l3.length ≤ maxLen) (h3' : l3.length * 8 ≤ 140737488351232) : ∃ k, fastilaw32_RoundsBest.f k l0 a1 l2 l3 = some true := by
  refine Ev.rounds (r := true) (Ev.bind sane_ev ?_)
  refine Ev.congr (fun k => if_pos rfl) ?_
  refine Ev.bind (few_ev l0 l2) ?_
  cases hf : fewS l0 l2
  · exact Ev.all fun k => by simp
  · refine Ev.congr (fun k => if_pos rfl) ?_
    refine Ev.bind (Ev.all fun k => place_eq l0 a1 l2) (Ev.bind (rcheck_ev l0 a1 l2) ?_)
    by_cases hc : PC.checkS l0 a1 l2 = 0
    · obtain ⟨hok, hl4, hl2⟩ := PC.okB_of hc
      obtain ⟨hpos, hasc, hday, hra, hrb, hrow⟩ := PC.okB_parts hok
      have hpa : placeA l0 a1 l2 = ((PC.placeS l0 a1 l2).1, (PC.placeS l0 a1 l2).2.1, (PC.placeS l0 a1 l2).2.2, 0) := if_pos hc
      rw [hpa, hc]
      refine Ev.congr (fun k => (if_pos rfl).trans (if_pos rfl)) ?_
      refine Ev.bind (placed_ev l0 a1 l2 hasc hday hl4 hl2 hrow hra hrb l3) ?_
      obtain ⟨P, hP⟩ : ∃ P, PC.placeS l0 a1 l2 = P := ⟨_, rfl⟩
      rw [hP]
      have hP' := hP
      unfold PC.placeS at hP'
      by_cases hn : (PC.pl l0 a1 l2 0).2 < 0
      · rw [if_pos hn] at hP'
        subst hP'
        refine Ev.congr (fun k => if_neg (by decide)) (Ev.all fun k => ?_)
        rw [if_pos (by simp), if_pos rfl]
        cases hq : plc l0 a1 l2 0 l3 with
        | none => rfl
        | some c =>
          have := (vl_best l0 a1 l2 0 l3 c (Nat.zero_le _) ((plc_vl _ _ _ _ _ _).1 hq)).1
          omega
      · rw [if_neg hn] at hP'
        subst hP'
        have hv := pick_vl l0 a1 l2 0 (Nat.zero_le _) (by omega)
        have hpl := placed_ev l0 a1 l2 hasc hday hl4 hl2 hrow hra hrb (PC.pick l0 a1 l2 (PC.pl l0 a1 l2 0).2)
        rw [(plc_vl _ _ _ _ _ _).2 hv] at hpl
        refine Ev.congr (fun k => if_pos rfl) (Ev.bind hpl ?_)
        refine Ev.congr (fun k => (if_pos rfl).trans (if_pos (by simp [plcA]))) ?_
        cases hq : plc l0 a1 l2 0 l3 with
        | none => exact Ev.all fun k => if_neg (by simp [plcA])
        | some c =>
          obtain ⟨b1, b2, b3⟩ := vl_best l0 a1 l2 0 l3 c (Nat.zero_le _) ((plc_vl _ _ _ _ _ _).1 hq)
          refine Ev.congr (fun k => if_pos rfl) ?_
          have e : (plcA (some c) 0).1 = c := by simp [plcA]
          rw [e]
          by_cases hgt : c > (PC.pl l0 a1 l2 0).1
          · exact Ev.all fun k => if_pos hgt
          · refine Ev.congr (fun k => (if_neg hgt).trans (if_pos (by show c = (PC.pl l0 a1 l2 0).1; omega))) (Ev.bind (less_ev l3 _ (by omega)) (Ev.all fun k => ?_))
            rw [b3 (by omega)]; rfl
    · have hpa : placeA l0 a1 l2 = ([], 0, false, PC.checkS l0 a1 l2) := if_neg hc
      rw [hpa]
      refine Ev.all fun k => ?_
      rw [if_pos rfl, if_neg hc, if_pos (by simp), if_pos rfl]
      rfl
end Go.Proofs.Ytaagpnbnjdpjgaa.Q
