/- Proved here: the pure statement of LexWrong: places of errors. No program in sight. -/
import Derived.KernelRfl
import Derived.Test.YtcckpmijdckocaaDoorQJoin
import Derived.Test.YtcckpmijdckocaaDoorX16L9
namespace Go.Proofs.YtcckpmijdckocaaDoor.Pure
open Go.RowKit Go.Proofs.YtcckpmijdckocaaDoor.X Go.Proofs.YtcckpmijdckocaaDoor.X.LX Go.Proofs.YtcckpmijdckocaaDoor.K Go.Proofs.YtcckpmijdckocaaDoorW.PrintWords Go.Proofs.YtcckpmijdckocaaDoor.QT Go.Proofs.YtcckpmijdckocaaDoor.QN Go.Proofs.YtcckpmijdckocaaDoor.QR Go.Proofs.YtcckpmijdckocaaDoor.QE Go.Proofs.YtcckpmijdckocaaDoor.QJ
set_option linter.unusedVariables false
set_option linter.unusedSimpArgs false
theorem LexWrong : fastilaw03_LexWrong.Pure := by
  intro a b ha hb
  refine Ev.rounds ?_
  unfold fastilaw03_LexWrong.f
  refine Ev.bind sane_ok ?_
  simp only [if_true]
  have hw : wrap64 ((a.size : Int) + (b.size : Int)) = (a.size : Int) + (b.size : Int) := w64 (by omega) (by omega)
  rw [hw]
  by_cases h3 : (a.size : Int) + (b.size : Int) > 3000
  · simp only [if_pos h3]
    exact Ev.now _
  simp only [if_neg h3]
  rw [lexf a (by omega)]
  simp only [Option.bind_some]
  cases ht : toks 0 (bs a) with
  | ok us =>
    rw [res_ok]
    exact Ev.all fun k => rfl
  | error q =>
    obtain ⟨d, us, h1, h2, h4, h5⟩ := toks_split _ _ _ _ (Nat.le_refl _) ht
    rw [bs_len] at h2
    obtain rfl : q = d := by omega
    have h6 : toks 0 ((bs a).drop q) = .error 0 := shR_err (d := q) (by rw [← toks_sh, Nat.zero_add]; exact h5)
    have h7 := toks_err (bs b) (x := 32) (by decide) _ _ _ _ (Nat.le_refl _) ht
    rw [res_err]
    have n1 : ¬ ((30 : Int) = 0) := by decide
    have n2 : ¬ ((q : Int) < 0) := by omega
    have n3 : decide ((q : Int) ≥ (a.size : Int)) = false := decide_eq_false (by omega)
    simp only [if_neg n1, if_true, if_neg n2, n3]
    refine Ev.eq fun k => ?_
    simp only [fastilaw03_LexWrong.j0, Bool.false_eq_true, if_false]
    have e1 : lex_Lex.f (a.extract 0 ((q : Nat) : Int).toNat) = some (us, 0, 0) := by
      rw [lexf _ (by rw [ByteArray.size_extract]; omega), Int.toNat_natCast, bs_extract, List.drop_zero, Nat.sub_zero, h4]
      rfl
    have hs2 : ((a ++ (⟨#[32]⟩ : ByteArray)) ++ b).size ≤ 65536 := by
      rw [ByteArray.size_append, ByteArray.size_append]
      have : (⟨#[32]⟩ : ByteArray).size = 1 := rfl
      omega
    have e2 : lex_Lex.f ((a ++ (⟨#[32]⟩ : ByteArray)) ++ b) = some ([], (q : Int), 30) := by
      rw [lexf _ hs2, bs_app, bs_app]
      have : bs (⟨#[32]⟩ : ByteArray) = [32] := rfl
      rw [this, List.append_assoc, List.singleton_append, h7]
      rfl
    have e3 : lex_Lex.f (a.extract ((q : Nat) : Int).toNat a.size) = some ([], 0, 30) := by
      rw [lexf _ (by rw [ByteArray.size_extract]; omega), Int.toNat_natCast, bs_extract, List.take_of_length_le (by rw [List.length_drop, bs_len]; exact Nat.le_refl _), h6]
      rfl
    have c1 : 0 ≤ (q : Int) := by omega
    have c2 : (q : Int) ≤ (a.size : Int) := by omega
    have c3 : a.size + 1 ≤ 9223372036854775807 := by omega
    have c4 : (a ++ (⟨#[32]⟩ : ByteArray)).size + b.size ≤ 9223372036854775807 := by
      rw [ByteArray.size_append]
      have : (⟨#[32]⟩ : ByteArray).size = 1 := rfl
      omega
    simp only [if_pos c1, if_pos c2, e1, Option.bind_some, if_pos c3, if_pos c4, e2, e3, if_true]
    rfl
end Go.Proofs.YtcckpmijdckocaaDoor.Pure
