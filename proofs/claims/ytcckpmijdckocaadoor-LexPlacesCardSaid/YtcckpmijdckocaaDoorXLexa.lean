/- Proved here: one step of the scanner, by the class of its byte (LS.step_calls) -/
import Derived.Test.YtcckpmijdckocaaDoorX0
import Derived.Test.YtcckpmijdckocaaDoorXLx
import Derived.Test.YtcckpmijdckocaaDoorXStq
import Derived.Test.YtcckpmijdckocaaDoorXSgn
import Derived.Test.YtcckpmijdckocaaDoorXRcv
import Derived.Test.YtcckpmijdckocaaDoorXStq
import Derived.Test.YtcckpmijdckocaaDoorXSgn
import Derived.Test.YtcckpmijdckocaaDoorXRcv
namespace Go.Proofs.YtcckpmijdckocaaDoor.X
open Go.RowKit Go.Proofs.YtcckpmijdckocaaDoorW.PrintWords Go.Proofs.YtcckpmijdckocaaDoorW.PrintLast Go.Proofs.YtcckpmijdckocaaDoorW.PrintMore
attribute [local go_sem] max2_int min2_int max_two min_two max_three min_three max_four min_four
set_option linter.unusedVariables false
set_option linter.unusedSimpArgs false
namespace LS
open Go.Proofs.YtcckpmijdckocaaDoor.K LX
theorem take_while {α : Type} (p : α → Bool) (l : List α) : l.take (l.takeWhile p).length = l.takeWhile p := by
  induction l with
  | nil => rfl
  | cons a l ih =>
    rw [List.takeWhile_cons]
    cases p a
    · rfl
    · simpa using ih
theorem run_part (l : List UInt8) : l.take (runN [2, 3, 5] l) = l.takeWhile isPart ∧ runN [2, 3, 5] l = (l.takeWhile isPart).length := by
  have h : (fun c => [2, 3, 5].contains (cls c)) = isPart := by
    funext c
    have := part_cls c
    cases hp : isPart c
    · rw [hp] at this
      have hn : ¬ (cls c = 2 ∨ cls c = 3 ∨ cls c = 5) := fun e => by have := this.1 e; cases this
      simp only [List.contains_cons, List.contains_nil, Bool.or_false, Bool.or_eq_false_iff, beq_eq_false_iff_ne]
      exact ⟨fun e => hn (.inl e), fun e => hn (.inr (.inl e)), fun e => hn (.inr (.inr e))⟩
    · have hy := this.2 hp
      rcases hy with e | e | e <;> rw [e] <;> rfl
  unfold runN
  rw [h, take_while]
  exact ⟨rfl, rfl⟩
theorem run_dig (l : List UInt8) : l.take (runN [3] l) = l.takeWhile isDig ∧ runN [3] l = (l.takeWhile isDig).length := by
  have h : (fun c => [3].contains (cls c)) = isDig := by
    funext c
    have := dig_cls c
    cases hp : isDig c
    · rw [hp] at this
      have hn : ¬ cls c = 3 := fun e => by have := this.1 e; cases this
      simp [hn]
    · rw [this.2 hp]; rfl
  unfold runN
  rw [h, take_while]
  exact ⟨rfl, rfl⟩
theorem run_sp (l : List UInt8) : runN [1] l = (l.takeWhile fun c => cls c == 1).length := by
  unfold runN
  have h : (fun c => [1].contains (cls c)) = fun c => cls c == 1 := by
    funext c
    rw [List.contains_cons, List.contains_nil, Bool.or_false]
  rw [h]
/-- Which function a class has. -/
def fnOf (j : Nat) : Nat := match j with | 1 => 26 | 2 => 27 | 3 => 28 | 4 => 29 | _ => 25
theorem cls_lt (c : UInt8) : ∃ j : Nat, cls c = (j : Int) ∧ j < 6 := by
  unfold cls
  cases isLet c <;> cases isDig c <;> cases c == 95 <;> cases isSp c <;> cases isSign c
  all_goals first | exact ⟨0, rfl, by decide⟩ | exact ⟨1, rfl, by decide⟩ | exact ⟨2, rfl, by decide⟩ | exact ⟨3, rfl, by decide⟩ | exact ⟨4, rfl, by decide⟩ | exact ⟨5, rfl, by decide⟩
theorem step_calls (src : ByteArray) (hsrc : src.size ≤ 65536) (sb at_ : Nat) (c : UInt8) (r : List UInt8) (hd : (bs src).drop at_ = c :: r) (l : List S35) (A : Option Addr) (cap : Nat) (w : World) (hS : Sc src sb at_ l A cap w) (hgl : GX.Glob w) (j : Nat) (hj : cls c = (j : Int)) (hj6 : j < 6) :
    Calls Tryd.prog (fnOf j) #[.pointer (some ⟨sb, 0, none⟩)] w (Stp src sb at_ l w (stepL at_ (c :: r))) := by
  have hlen : at_ + r.length + 1 = src.size := by
    have h := congrArg List.length hd
    rw [List.length_drop, bs_len, List.length_cons] at h
    omega
  match j, hj6 with
  | 0, _ =>
    have : stepL at_ (c :: r) = none := by simp [stepL, hj]
    rw [this]
    exact wrong_calls src sb at_ l A cap w hS (blk_lt hS.blk)
  | 1, _ =>
    have : stepL at_ (c :: r) = some ([], runN [1] ((bs src).drop at_)) := by rw [run_sp, hd]; simp [stepL, hj]
    rw [this]
    exact space_calls src hsrc sb at_ (by omega) l A cap w hS
  | 2, _ =>
    have h := name_calls src hsrc sb at_ (by omega) l A cap w hS
    rw [(run_part _).1, (run_part _).2, hd] at h
    have : stepL at_ (c :: r) = (if nameL ((c :: r).takeWhile isPart) then some ([⟨1, mk ((c :: r).takeWhile isPart), 0, at_⟩], ((c :: r).takeWhile isPart).length) else none) := by simp only [stepL]; rw [hj]; rfl
    rw [this]
    exact h
  | 3, _ =>
    have hp : 0 < runN [3] ((bs src).drop at_) := by rw [hd]; rw [runN_pos (by rw [hj]; rfl)]; omega
    have h := number_calls src hsrc sb at_ (by omega) l A cap w hS hgl hp
    rw [(run_dig _).1, (run_dig _).2, hd] at h
    have : stepL at_ (c :: r) = (match numOf ((c :: r).takeWhile isDig) with | some v => some ([⟨2, ⟨#[]⟩, v, at_⟩], ((c :: r).takeWhile isDig).length) | none => none) := by simp only [stepL]; rw [hj]; rfl
    rw [this]
    exact h
  | 4, _ =>
    have h := sign_calls src hsrc sb at_ c r hd ((sign_cls c).1 hj) l A cap w hS
    have : stepL at_ (c :: r) = (if [47, 47].isPrefixOf (c :: r) then some ([], ((c :: r).takeWhile (· != 10)).length) else some ([⟨3, mk [c], 0, at_⟩], 1)) := by simp only [stepL]; rw [hj]; rfl
    rw [this]
    exact h
  | 5, _ =>
    have : stepL at_ (c :: r) = none := by simp [stepL, hj]
    rw [this]
    exact wrong_calls src sb at_ l A cap w hS (blk_lt hS.blk)
theorem stepL_pos {p : Nat} {c : UInt8} {r : List UInt8} {ts : List S35} {n : Nat} (h : stepL p (c :: r) = some (ts, n)) : 1 ≤ n ∧ n ≤ r.length + 1 := by
  have hp : ∀ q : UInt8 → Bool, q c = true → 1 ≤ ((c :: r).takeWhile q).length := fun q hq => by rw [List.takeWhile_cons, hq]; simp
  have hl : ∀ q : UInt8 → Bool, ((c :: r).takeWhile q).length ≤ r.length + 1 := fun q => (List.takeWhile_sublist q).length_le
  simp only [stepL] at h
  split at h
  · rename_i h1
    obtain ⟨_, rfl⟩ := Prod.mk.inj (Option.some.inj h)
    exact ⟨hp _ (by simp [h1]), hl _⟩
  · split at h
    · rename_i h1
      split at h
      · obtain ⟨_, rfl⟩ := Prod.mk.inj (Option.some.inj h)
        exact ⟨hp _ ((part_cls c).1 (.inl h1)), hl _⟩
      · cases h
    · split at h
      · rename_i h1
        split at h
        · obtain ⟨_, rfl⟩ := Prod.mk.inj (Option.some.inj h)
          exact ⟨hp _ ((dig_cls c).1 h1), hl _⟩
        · cases h
      · split at h
        · split at h
          · rename_i h1
            obtain ⟨_, rfl⟩ := Prod.mk.inj (Option.some.inj h)
            refine ⟨hp _ ?_, hl _⟩
            simp only [List.isPrefixOf, Bool.and_eq_true, beq_iff_eq] at h1
            rw [← h1.1]; decide
          · obtain ⟨_, rfl⟩ := Prod.mk.inj (Option.some.inj h)
            exact ⟨Nat.le_refl _, by omega⟩
        · cases h
end LS
end Go.Proofs.YtcckpmijdckocaaDoor.X
