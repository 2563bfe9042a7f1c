/- Proved here: the pure statement of LexNames: a string is a name exactly if it is a single token of this kind, at its beginning and end. No program in sight. -/
import Derived.KernelRfl
import Derived.Test.YtcckpmijdckocaaDoorQText
import Derived.Test.YtcckpmijdckocaaDoorX13L10
namespace Go.Proofs.YtcckpmijdckocaaDoor.Pure
open Go.RowKit Go.Proofs.YtcckpmijdckocaaDoor.X Go.Proofs.YtcckpmijdckocaaDoor.X.LX Go.Proofs.YtcckpmijdckocaaDoor.K Go.Proofs.YtcckpmijdckocaaDoorW.PrintWords Go.Proofs.YtcckpmijdckocaaDoor.QT Go.Proofs.YtcckpmijdckocaaDoor.QN Go.Proofs.YtcckpmijdckocaaDoor.QR Go.Proofs.YtcckpmijdckocaaDoor.QE Go.Proofs.YtcckpmijdckocaaDoor.QX
set_option linter.unusedVariables false
set_option linter.unusedSimpArgs false
theorem name_one {l : List UInt8} (h : nameL l = true) : toks 0 l = .ok [⟨1, mk l, 0, 0⟩] := by
  cases l with
  | nil => cases h
  | cons c r =>
    have h' := h
    simp only [nameL, Bool.and_eq_true, decide_eq_true_eq] at h'
    have hall : (c :: r).takeWhile isPart = c :: r := tw_all isPart _ (fun x hx => List.all_eq_true.1 h'.2 x hx)
    rw [toks_let h'.1.2, hall, if_pos h, List.drop_of_length_le (Nat.le_refl _), toks_nil]
    rfl
theorem LexNames : fastilaw03_LexNames.Pure := by
  intro a ha
  refine Ev.rounds ?_
  unfold fastilaw03_LexNames.f
  refine Ev.bind sane_ok ?_
  simp only [if_true]
  by_cases hb : (a.size : Int) > 1000
  · simp only [if_pos hb]
    exact Ev.now _
  simp only [if_neg hb]
  rw [lexf a (by omega)]
  simp only [Option.bind_some]
  have hv : validB ⟨1, a, 0, 0⟩ = nameL (bs a) := by simp [validB]
  have htx := text_ev [(⟨1, a, 0, 0⟩ : S35)] (by simp) (by simp [sumS]; omega)
  have hnm := name_ev a
  cases hn : nameL (bs a)
  · rw [hn] at hv hnm
    have ht2 : textR [(⟨1, a, 0, 0⟩ : S35)] = ((⟨#[]⟩ : ByteArray), 30) := by unfold textR; rw [List.all_cons, hv]; rfl
    rw [ht2] at htx
    have hno : Ev (fun k => (lex_Text.f k [(⟨1, a, 0, 0⟩ : S35)]).bind fun bt => (lex_Name.f k a).bind fun t => if (t == false) = true then some (false == (bt.2 == 0)) else some false) true := by
      refine Ev.bind htx ?_
      refine Ev.bind hnm ?_
      exact Ev.all fun k => rfl
    cases ht : toks 0 (bs a) with
    | error q =>
      have n1 : ¬ ((30 : Int) = 0) := by decide
      rw [res_err]
      simp only [if_neg n1]
      exact hno
    | ok us =>
      rw [res_ok]
      simp only [if_true]
      by_cases h1 : (us.length : Int) = 1
      · match us, h1 with
        | [x], _ =>
          have hx := toks_valid ht x (by simp)
          have hrd : rd_T35 [x] 0 = x := rfl
          have l1 : (([x] : List S35).length : Int) = 1 := rfl
          have l2 : 0 < (([x] : List S35).length : Int) := (show (0 : Int) < 1 by decide)
          simp only [if_pos l1, if_pos l2, hrd]
          by_cases h2 : x.f0 = 1
          · simp only [if_pos h2]
            by_cases h3 : x.f1.toList = a.toList
            · exfalso
              rw [tl, tl] at h3
              have : validB x = (nameL (bs x.f1) && x.f2 == 0) := by unfold validB; rw [if_pos h2]
              rw [this, h3, hn] at hx
              cases hx
            · simp only [if_neg h3]
              exact hno
          · simp only [if_neg h2]
            exact hno
      · simp only [if_neg h1]
        exact hno
  · rw [hn] at hv hnm
    have ht2 : (textR [(⟨1, a, 0, 0⟩ : S35)]).2 = 0 := by unfold textR; rw [List.all_cons, hv]; rfl
    rw [name_one hn, mk_bs, res_ok]
    have hrd : rd_T35 [(⟨1, a, 0, 0⟩ : S35)] 0 = ⟨1, a, 0, 0⟩ := rfl
    simp only [hrd]
    refine Ev.congr (f := fun k => (lex_Text.f k [(⟨1, a, 0, 0⟩ : S35)]).bind fun bt => (lex_Name.f k a).bind fun t => if (t == ((0 : Int) == 0)) = true then some (((0 : Int) == 0) == (bt.2 == 0)) else some false) (fun k => ?_) ?_
    · simp
    · refine Ev.bind htx ?_
      refine Ev.bind hnm ?_
      exact Ev.all fun k => by rw [ht2]; rfl
end Go.Proofs.YtcckpmijdckocaaDoor.Pure
