/- Proved here: the pure statement of LexTextSpec: Text, Same and Name of the program and of the reference answer the same, for all tokens, valid or not. No program in sight. -/
import Derived.KernelRfl
import Derived.Test.YtcckpmijdckocaaDoorQText
import Derived.Test.YtcckpmijdckocaaDoorX11L4
namespace Go.Proofs.YtcckpmijdckocaaDoor.Pure
open Go.RowKit Go.Proofs.YtcckpmijdckocaaDoor.X Go.Proofs.YtcckpmijdckocaaDoor.X.LX Go.Proofs.YtcckpmijdckocaaDoor.K Go.Proofs.YtcckpmijdckocaaDoorW.PrintWords Go.Proofs.YtcckpmijdckocaaDoor.QT Go.Proofs.YtcckpmijdckocaaDoor.QN Go.Proofs.YtcckpmijdckocaaDoor.QR Go.Proofs.YtcckpmijdckocaaDoor.QE Go.Proofs.YtcckpmijdckocaaDoor.QX
set_option linter.unusedVariables false
set_option linter.unusedSimpArgs false
theorem LexTextSpec (a b : List S35) (s : ByteArray) (ya : a.length * 40 ≤ 140737488351232) (za : ∀ x ∈ a, x.f1.size ≤ 140737488351232) (yb : b.length * 40 ≤ 140737488351232) (zb : ∀ x ∈ b, x.f1.size ≤ 140737488351232) (hs : s.size ≤ 140737488351232) : ∃ k, fastilaw03_LexTextSpec.f k a b s = some true := by
  have hla : a.length < 4611686018427387904 := by omega
  have hlb : b.length < 4611686018427387904 := by omega
  refine Ev.rounds ?_
  have hj : Ev (fun k => fastilaw03_LexTextSpec.j0 k a b s true) true := Ev.eq fun k => rfl
  unfold fastilaw03_LexTextSpec.f
  refine Ev.bind sane_ok ?_
  simp only [if_true]
  refine Ev.bind (few_ev a hla za) ?_
  cases ha : fewB a
  · simp only [Bool.false_eq_true, if_false]
    exact hj
  simp only [if_true]
  refine Ev.bind (few_ev b hlb zb) ?_
  cases hb : fewB b
  · simp only [Bool.false_eq_true, if_false]
    exact hj
  simp only [if_true]
  by_cases h1 : (s.size : Int) > 1000
  · simp only [decide_eq_true h1]
    exact hj
  simp only [decide_eq_false h1]
  have fa := few_of ha
  have ht := text_ev a (by omega) (by omega)
  have hr := rtext_ev a (by omega) (by omega)
  suffices h : Ev (fun k => (lex_Text.f k a).bind fun x => (fastiref03_Text.f k a).bind fun y => if x.1.toList = y.1.toList then (if x.2 = y.2 then ((lex_Same.f a b).bind fun t154 => ((fastiref03_Same.f k a b).bind fun t155 => (if (t154 == t155) = true then ((lex_Same.f a a).bind fun t156 => (if t156 = true then ((lex_Name.f k s).bind fun t157 => ((fastiref03_Name.f k s).bind fun t158 => (some (t157 == t158)))) else (some false))) else (some false)))) else (some false)) else (some false)) true by
    refine Ev.step (fun k => ?_) h
    rfl
  refine Ev.bind ht ?_
  refine Ev.bind hr ?_
  simp only [if_true]
  rw [same_f a b hla, same_f a a hla, eqL_refl]
  simp only [Option.bind_some]
  refine Ev.bind (same_ref a b hla) ?_
  simp only [beq_self_eq_true, if_true]
  refine Ev.bind (name_ev s) ?_
  refine Ev.bind (name_ref s) ?_
  exact Ev.all fun k => by simp
end Go.Proofs.YtcckpmijdckocaaDoor.Pure
