/- Proved here: the law's has in closed form. -/
import Derived.Test.YtpodgkmgameocaaDoorQBasea
import Derived.Test.YtpodgkmgameocaaDoorX20b
namespace Go.Proofs.YtpodgkmgameocaaDoor.DQ
open Go.RowKit Go.Proofs.YtpodgkmgameocaaDoorW.PrintWords Go.Proofs.YtpodgkmgameocaaDoorW.PrintMore Go.Proofs.YtpodgkmgameocaaDoor.X Go.Proofs.YtpodgkmgameocaaDoor.K
set_option linter.unusedVariables false
set_option linter.unusedSimpArgs false
theorem lhas_loop (l : List S45) (n : Int) (hl : l.length < 1000000) (d : Nat) : ∀ i : Nat, l.length - i = d → i ≤ l.length → Ev (fun k => fastilaw12_has.l0 k n l (l.length : Int) (i : Int)) (has (l.drop i) n) := by
  induction d with
  | zero =>
    intro i hd hi
    refine Ev.eq fun k => ?_
    rw [fastilaw12_has.l0, if_neg (by omega), List.drop_of_length_le (by omega)]
    rfl
  | succ d ih =>
    intro i hd hi
    have h1 : i < l.length := by omega
    rw [drop_get h1, has_cons]
    by_cases h2 : l[i].f0 ≤ n
    · by_cases h3 : n ≤ l[i].f1
      · rw [decide_eq_true h2, decide_eq_true h3]
        refine Ev.eq fun k => ?_
        rw [fastilaw12_has.l0, if_pos (by omega), if_pos (by omega), if_pos (by omega), SS.rd45_lt h1, if_pos h2, if_pos h3]
        rfl
      · rw [decide_eq_false h3, Bool.and_false, Bool.false_or]
        refine Ev.step (fun k => ?_) (ih (i + 1) (by omega) (by omega))
        rw [fastilaw12_has.l0, if_pos (by omega), if_pos (by omega), if_pos (by omega), SS.rd45_lt h1, if_pos h2, if_neg h3, w64s i (by omega)]
    · rw [decide_eq_false h2, Bool.false_and, Bool.false_or]
      refine Ev.step (fun k => ?_) (ih (i + 1) (by omega) (by omega))
      rw [fastilaw12_has.l0, if_pos (by omega), if_pos (by omega), if_pos (by omega), SS.rd45_lt h1, if_neg h2, w64s i (by omega)]
theorem lhas_ev (l : List S45) (n : Int) (hl : l.length < 1000000) : Ev (fun k => fastilaw12_has.f k l n) (has l n) := by
  have := lhas_loop l n hl _ 0 rfl (Nat.zero_le _)
  rwa [List.drop_zero] at this
end Go.Proofs.YtpodgkmgameocaaDoor.DQ
