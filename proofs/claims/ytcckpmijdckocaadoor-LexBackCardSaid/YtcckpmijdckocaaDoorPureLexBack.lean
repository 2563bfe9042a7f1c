/- Proved here: the pure statement of LexBack: Lex of Text are the same tokens; and the tokens of every source that has tokens are valid, with a text that has the same ones. No program in sight. -/
import Derived.KernelRfl
import Derived.Test.YtcckpmijdckocaaDoorQBack
import Derived.Test.YtcckpmijdckocaaDoorX16L5
namespace Go.Proofs.YtcckpmijdckocaaDoor.Pure
open Go.RowKit Go.Proofs.YtcckpmijdckocaaDoor.X Go.Proofs.YtcckpmijdckocaaDoor.X.LX Go.Proofs.YtcckpmijdckocaaDoor.K Go.Proofs.YtcckpmijdckocaaDoorW.PrintWords Go.Proofs.YtcckpmijdckocaaDoor.QT Go.Proofs.YtcckpmijdckocaaDoor.QN Go.Proofs.YtcckpmijdckocaaDoor.QR Go.Proofs.YtcckpmijdckocaaDoor.QE Go.Proofs.YtcckpmijdckocaaDoor.QX Go.Proofs.YtcckpmijdckocaaDoor.QJ Go.Proofs.YtcckpmijdckocaaDoor.QB
set_option linter.unusedVariables false
set_option linter.unusedSimpArgs false
theorem back_j1 (s : ByteArray) (hs : s.size ≤ 3000) : Ev (fun k => fastilaw03_LexBack.j1 k s) true := by
  refine Ev.step (f := fun k => (lex_Lex.f s).bind fun bt343 => (if bt343.2.2 = 0 then ((lex_Text.f k bt343.1).bind fun bt348 => ((lex_Lex.f bt348.1).bind fun bt350 => (if bt348.2 = 0 then (if bt350.2.2 = 0 then ((lex_Same.f bt343.1 bt350.1).bind fun t355 => (some t355)) else (some false)) else (some false)))) else (some ((bt343.1.length : Int) == 0)))) (fun k => rfl) ?_
  rw [lexf s (by omega)]
  simp only [Option.bind_some]
  cases ht : toks 0 (bs s) with
  | error q =>
    rw [res_err]
    exact Ev.all fun k => rfl
  | ok us =>
    have hl := toks_len ht
    have hv := toks_valid ht
    have hw := toks_words ht
    have h1 := sumS_words us hv
    have h2 := textL_wlen us
    rw [bs_len] at hl hw
    obtain ⟨vs, h3, h4⟩ := toks_text us 0 hv
    have htx := text_ev us (by omega) (by omega)
    rw [textR_ok hv] at htx
    rw [res_ok]
    simp only [if_true]
    refine Ev.bind htx ?_
    have hlx : lex_Lex.f (mk (textL us)) = some (vs, 0, 0) := by
      rw [lexf _ (by rw [size_mk]; omega), bs_mk, h3]
      rfl
    simp only [hlx, Option.bind_some, if_true]
    rw [same_f us vs (by omega), h4]
    exact Ev.now _
theorem LexBack (l : List S35) (s : ByteArray) (yl : l.length * 40 ≤ 140737488351232) (zl : ∀ x ∈ l, x.f1.size ≤ 140737488351232) (hs : s.size ≤ 140737488351232) : ∃ k, fastilaw03_LexBack.f k l s = some true := by
  refine Ev.rounds ?_
  have hj : Ev (fun k => fastilaw03_LexBack.j0 k l s true) true := Ev.eq fun k => rfl
  unfold fastilaw03_LexBack.f
  refine Ev.bind sane_ok ?_
  simp only [if_true]
  refine Ev.bind (few_ev l (by omega) zl) ?_
  cases ha : fewB l
  · simp only [Bool.false_eq_true, if_false]
    exact hj
  simp only [if_true]
  by_cases h1 : (s.size : Int) > 3000
  · simp only [decide_eq_true h1]
    exact hj
  simp only [decide_eq_false h1]
  have fa := few_of ha
  have hj1 := back_j1 s (by omega)
  have htx := text_ev l (by omega) (by omega)
  refine Ev.step (f := fun k => (lex_Text.f k l).bind fun bt335 => (if bt335.2 = 0 then ((lex_Lex.f bt335.1).bind fun bt337 => (if bt337.2.2 = 0 then (if bt337.2.1 = 0 then ((lex_Same.f l bt337.1).bind fun t342 => (if t342 = true then (fastilaw03_LexBack.j1 k s) else (some false))) else (some false)) else (some false))) else (fastilaw03_LexBack.j1 k s))) (fun k => rfl) ?_
  refine Ev.bind htx ?_
  by_cases hall : l.all validB = true
  · have hv : ∀ x ∈ l, validB x = true := fun x hx => List.all_eq_true.1 hall x hx
    rw [textR_ok hv]
    simp only [if_true]
    have h2 := textL_len _ l rfl hv
    obtain ⟨vs, h3, h4⟩ := toks_text l 0 hv
    have hlx : lex_Lex.f (mk (textL l)) = some (vs, 0, 0) := by
      rw [lexf _ (by rw [size_mk]; omega), bs_mk, h3]
      rfl
    simp only [hlx, Option.bind_some, if_true]
    rw [same_f l vs (by omega), h4]
    simp only [Option.bind_some, if_true]
    exact hj1
  · rw [textR_not hall]
    have n1 : ¬ ((30 : Int) = 0) := by decide
    simp only [if_neg n1]
    exact hj1
end Go.Proofs.YtcckpmijdckocaaDoor.Pure
