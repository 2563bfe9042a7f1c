/- Proved here: plain facts on the tokens of one source behind another, and of a source up to its error. No program in sight. -/
import Derived.KernelRfl
import Derived.Test.YtcckpmijdckocaaDoorQBase
namespace Go.Proofs.YtcckpmijdckocaaDoor.QJ
open Go.RowKit Go.Proofs.YtcckpmijdckocaaDoor.X Go.Proofs.YtcckpmijdckocaaDoor.X.LX Go.Proofs.YtcckpmijdckocaaDoor.K Go.Proofs.YtcckpmijdckocaaDoorW.PrintWords Go.Proofs.YtcckpmijdckocaaDoor.QT Go.Proofs.YtcckpmijdckocaaDoor.QN Go.Proofs.YtcckpmijdckocaaDoor.QR Go.Proofs.YtcckpmijdckocaaDoor.QE
set_option linter.unusedVariables false
set_option linter.unusedSimpArgs false
theorem tw_app (q : UInt8 → Bool) (x : UInt8) (hx : q x = false) (m : List UInt8) : ∀ l : List UInt8, (l ++ x :: m).takeWhile q = l.takeWhile q
  | [] => by rw [List.nil_append, List.takeWhile_cons, hx]; rfl
  | c :: l => by
    rw [List.cons_append, List.takeWhile_cons, List.takeWhile_cons]
    cases q c
    · rfl
    · simp only [if_true, tw_app q x hx m l]
theorem tw_short (q : UInt8 → Bool) (m : List UInt8) : ∀ l : List UInt8, (l.takeWhile q).length < l.length → (l ++ m).takeWhile q = l.takeWhile q
  | [], h => by simp at h
  | c :: l, h => by
    rw [List.cons_append, List.takeWhile_cons, List.takeWhile_cons]
    rw [List.takeWhile_cons] at h
    cases hc : q c
    · rfl
    · rw [hc] at h
      simp only [if_true, List.length_cons] at h ⊢
      rw [tw_short q m l (by omega)]
theorem tw_take (q : UInt8 → Bool) (d : Nat) : ∀ l : List UInt8, (l.take ((l.takeWhile q).length + d)).takeWhile q = l.takeWhile q
  | [] => by simp
  | c :: l => by
    rw [List.takeWhile_cons]
    cases hc : q c
    · cases d with
      | zero => rfl
      | succ d =>
        simp only [Bool.false_eq_true, if_false, List.length_nil, Nat.zero_add, List.take_succ_cons, List.takeWhile_cons, hc]
    · simp only [if_true, List.length_cons]
      rw [show (l.takeWhile q).length + 1 + d = ((l.takeWhile q).length + d) + 1 by omega, List.take_succ_cons, List.takeWhile_cons, hc]
      simp only [if_true, tw_take q d l]
theorem sp_not_part {x : UInt8} (h : isSp x = true) : isPart x = false ∧ isDig x = false ∧ (x == 47) = false := by
  have hd : ∀ n < 256, isSp (UInt8.ofNat n) = true → isPart (UInt8.ofNat n) = false ∧ isDig (UInt8.ofNat n) = false ∧ (UInt8.ofNat n == 47) = false := by decide +kernel
  have := hd x.toNat x.toNat_lt
  rw [UInt8.ofNat_toNat] at this
  exact this h
/-- The five ways of a byte. -/
theorem kinds (c : UInt8) : (isSp c = true ∧ isLet c = false ∧ isDig c = false ∧ isSign c = false) ∨ (isSp c = false ∧ isLet c = true ∧ isDig c = false ∧ isSign c = false) ∨ (isSp c = false ∧ isLet c = false ∧ isDig c = true ∧ isSign c = false) ∨ (isSp c = false ∧ isLet c = false ∧ isDig c = false ∧ isSign c = true) ∨ (isSp c = false ∧ isLet c = false ∧ isDig c = false ∧ isSign c = false) :=
  byte_all (P := fun c => (isSp c = true ∧ isLet c = false ∧ isDig c = false ∧ isSign c = false) ∨ (isSp c = false ∧ isLet c = true ∧ isDig c = false ∧ isSign c = false) ∨ (isSp c = false ∧ isLet c = false ∧ isDig c = true ∧ isSign c = false) ∨ (isSp c = false ∧ isLet c = false ∧ isDig c = false ∧ isSign c = true) ∨ (isSp c = false ∧ isLet c = false ∧ isDig c = false ∧ isSign c = false)) (by decide +kernel) c
theorem pf_app {c : UInt8} {r m : List UInt8} {x : UInt8} (hx : (x == 47) = false) : [47, 47].isPrefixOf (c :: (r ++ x :: m)) = [47, 47].isPrefixOf (c :: r) := by
  cases r with
  | nil =>
    simp only [List.nil_append, List.isPrefixOf, Bool.and_true, Bool.and_false]
    rw [show ((47 : UInt8) == x) = false from by rw [Bool.beq_comm]; exact hx, Bool.and_false]
  | cons y r => simp only [List.cons_append, List.isPrefixOf]
/-- A step does not see what stands behind a byte of white space (a comment, where it ends ahead of it). -/
theorem step_app {p : Nat} {c : UInt8} {r m : List UInt8} {x : UInt8} (hsp : isSp c = false) (hx : isSp x = true) (hc : [47, 47].isPrefixOf (c :: r) = true → x = 10 ∨ ((c :: r).takeWhile (· != 10)).length < (c :: r).length) : stepL p (c :: r ++ x :: m) = stepL p (c :: r) := by
  obtain ⟨x1, x2, x3⟩ := sp_not_part hx
  rw [List.cons_append]
  rcases kinds c with ⟨h, _⟩ | ⟨_, h, _⟩ | ⟨_, _, h, _⟩ | ⟨_, _, _, h⟩ | ⟨h1, h2, h3, h4⟩
  · rw [hsp] at h; cases h
  · rw [step_let h, step_let h, ← List.cons_append, tw_app isPart x x1]
  · rw [step_dig h, step_dig h, ← List.cons_append, tw_app isDig x x2]
  · rw [step_sign h, step_sign h, pf_app x3]
    by_cases hp : [47, 47].isPrefixOf (c :: r) = true
    · rw [if_pos hp, if_pos hp, ← List.cons_append]
      rcases hc hp with rfl | hlt
      · rw [tw_app (· != 10) 10 (by decide)]
      · rw [tw_short (· != 10) (x :: m) (c :: r) hlt]
    · rw [if_neg hp, if_neg hp]
  · rw [step_other h1 h2 h3 h4, step_other h1 h2 h3 h4]
theorem pre_pre (a b : List S35) (r : Res) : pre a (pre b r) = pre (a ++ b) r := by cases r <;> simp [pre, List.append_assoc]
def seq : Res → Res → Res
  | .ok us, r => pre us r
  | .error q, _ => .error q
theorem seq_pre (a : List S35) (r s : Res) : seq (pre a r) s = pre a (seq r s) := by
  cases r with
  | error q => rfl
  | ok us => simp only [pre, seq, pre_pre]; cases s <;> simp [pre, List.append_assoc]
/-- Two sources with a line feed between them. -/
theorem toks_join (m : List UInt8) : ∀ (n : Nat) (l : List UInt8) (p : Nat), l.length ≤ n → toks p (l ++ 10 :: m) = seq (toks p l) (toks (p + l.length + 1) m)
  | _, [], p, _ => by
    rw [List.nil_append, toks_sp (by decide), toks_nil]
    simp [seq, pre_nil]
  | 0, _ :: _, _, h => by simp at h
  | n + 1, c :: r, p, h => by
    have hr : r.length ≤ n := by simpa using h
    cases hsp : isSp c
    · have hst := step_app (p := p) (r := r) (m := m) hsp (x := 10) (by decide) (fun _ => .inl rfl)
      cases hs : stepL p (c :: r) with
      | none =>
        rw [hs] at hst
        rw [List.cons_append] at hst ⊢
        rw [toks_bad hst, toks_bad hs]
        rfl
      | some x =>
        obtain ⟨ts, k⟩ := x
        have hk := LS.stepL_pos hs
        rw [hs] at hst
        rw [toks_step hs, seq_pre]
        rw [List.cons_append] at hst ⊢
        rw [toks_step hst, ← List.cons_append, List.drop_append_of_le_length (by simp; omega), toks_join m n _ _ (by simp; omega)]
        congr 3
        simp
        omega
    · rw [List.cons_append, toks_sp hsp, toks_sp hsp, toks_join m n r _ hr]
      congr 2
      simp
      omega
/-- An error remains, whatever is written behind a space. -/
theorem toks_err (m : List UInt8) {x : UInt8} (hx : isSp x = true) : ∀ (n : Nat) (l : List UInt8) (p q : Nat), l.length ≤ n → toks p l = .error q → toks p (l ++ x :: m) = .error q
  | _, [], p, q, _, h => by rw [toks_nil] at h; cases h
  | 0, _ :: _, _, _, h, _ => by simp at h
  | n + 1, c :: r, p, q, h, he => by
    have hr : r.length ≤ n := by simpa using h
    cases hsp : isSp c
    · have hcom : [47, 47].isPrefixOf (c :: r) = true → x = 10 ∨ ((c :: r).takeWhile (· != 10)).length < (c :: r).length := by
        intro hp
        right
        rcases Nat.lt_or_ge ((c :: r).takeWhile (· != 10)).length (c :: r).length with h1 | h1
        · exact h1
        · exfalso
          have hsg : isSign c = true := by
            simp only [List.isPrefixOf] at hp
            rw [Bool.and_eq_true, beq_iff_eq] at hp
            rw [← hp.1]; decide
          have hs := step_sign (p := p) (r := r) hsg
          rw [if_pos hp] at hs
          rw [toks_step hs, pre_nil, List.drop_of_length_le h1, toks_nil] at he
          cases he
      have hst := step_app (p := p) (r := r) (m := m) hsp hx hcom
      cases hs : stepL p (c :: r) with
      | none =>
        rw [hs] at hst
        rw [toks_bad hs] at he
        rw [List.cons_append] at hst ⊢
        rw [toks_bad hst, he]
      | some y =>
        obtain ⟨ts, k⟩ := y
        have hk := LS.stepL_pos hs
        rw [hs] at hst
        rw [toks_step hs] at he
        cases hd : toks (p + k) ((c :: r).drop k) with
        | ok us => rw [hd] at he; cases he
        | error q' =>
          rw [hd] at he
          have hq : q' = q := by simpa [pre] using he
          subst hq
          rw [List.cons_append] at hst ⊢
          rw [toks_step hst, ← List.cons_append, List.drop_append_of_le_length (by simp; omega), toks_err m hx n _ _ _ (by simp; omega) hd]
          rfl
    · rw [toks_sp hsp] at he
      rw [List.cons_append, toks_sp hsp]
      exact toks_err m hx n r _ _ hr he
/-- A step sees no more than it reads (for a sign: nothing that would begin a comment). -/
theorem step_take {p : Nat} {c : UInt8} {r : List UInt8} {ts : List S35} {k : Nat} (h : stepL p (c :: r) = some (ts, k)) (d : Nat) : stepL p (c :: r.take (k - 1 + d)) = some (ts, k) := by
  have hk := LS.stepL_pos h
  have htk : c :: r.take (k - 1 + d) = (c :: r).take (k + d) := by rw [show k + d = (k - 1 + d) + 1 by omega, List.take_succ_cons]
  rcases kinds c with ⟨h1, _⟩ | ⟨_, h1, _⟩ | ⟨_, _, h1, _⟩ | ⟨_, _, _, h1⟩ | ⟨h1, h2, h3, h4⟩
  · rw [step_sp h1] at h ⊢
    obtain ⟨rfl, rfl⟩ := Prod.mk.inj (Option.some.inj h)
    rw [htk, tw_take]
  · rw [step_let h1] at h ⊢
    split at h
    · rename_i hn
      obtain ⟨rfl, rfl⟩ := Prod.mk.inj (Option.some.inj h)
      rw [htk, tw_take, if_pos hn]
    · cases h
  · rw [step_dig h1] at h ⊢
    cases hn : numOf ((c :: r).takeWhile isDig) with
    | none => rw [hn] at h; cases h
    | some v =>
      rw [hn] at h
      obtain ⟨rfl, rfl⟩ := Prod.mk.inj (Option.some.inj h)
      rw [htk, tw_take, hn]
  · rw [step_sign h1] at h ⊢
    by_cases hp : [47, 47].isPrefixOf (c :: r) = true
    · rw [if_pos hp] at h
      obtain ⟨rfl, rfl⟩ := Prod.mk.inj (Option.some.inj h)
      have hp2 : [47, 47].isPrefixOf ((c :: r).take (((c :: r).takeWhile (· != 10)).length + d)) = true := by
        cases r with
        | nil => simp [List.isPrefixOf] at hp
        | cons y r =>
          simp only [List.isPrefixOf, Bool.and_eq_true, beq_iff_eq, Bool.and_true] at hp
          obtain ⟨rfl, rfl⟩ := hp
          have hge2 : ∃ j, ((47 :: 47 :: r).takeWhile (· != (10 : UInt8))).length = j + 2 := by
            rw [List.takeWhile_cons, if_pos (by decide), List.takeWhile_cons, if_pos (by decide)]
            exact ⟨_, rfl⟩
          obtain ⟨j, hj⟩ := hge2
          rw [hj, show j + 2 + d = (j + d) + 1 + 1 by omega]
          simp [List.isPrefixOf]
      rw [htk, if_pos hp2, tw_take]
    · rw [if_neg hp] at h
      obtain ⟨rfl, rfl⟩ := Prod.mk.inj (Option.some.inj h)
      have hp2 : ¬ [47, 47].isPrefixOf (c :: r.take (1 - 1 + d)) = true := by
        intro e
        apply hp
        cases r with
        | nil => simp [List.isPrefixOf] at e
        | cons y r =>
          cases d with
          | zero => simp [List.isPrefixOf] at e
          | succ d => simpa [List.isPrefixOf] using e
      rw [if_neg hp2]
  · rw [step_other h1 h2 h3 h4] at h
    cases h
/-- What stands before the place of an error has tokens, and what stands from there on begins with it. -/
theorem toks_split : ∀ (n : Nat) (l : List UInt8) (p q : Nat), l.length ≤ n → toks p l = .error q → ∃ d us, q = p + d ∧ d < l.length ∧ toks p (l.take d) = .ok us ∧ toks q (l.drop d) = .error q
  | _, [], p, q, _, h => by rw [toks_nil] at h; cases h
  | 0, _ :: _, _, _, h, _ => by simp at h
  | n + 1, c :: r, p, q, h, he => by
    have hr : r.length ≤ n := by simpa using h
    cases hs : stepL p (c :: r) with
    | none =>
      have he2 := toks_bad hs
      rw [he2] at he
      have hq : p = q := by simpa using he
      subst hq
      exact ⟨0, [], rfl, by simp, rfl, he2⟩
    | some x =>
      obtain ⟨ts, k⟩ := x
      have hk := LS.stepL_pos hs
      rw [toks_step hs] at he
      cases hd : toks (p + k) ((c :: r).drop k) with
      | ok us => rw [hd] at he; cases he
      | error q' =>
        rw [hd] at he
        have hq : q' = q := by simpa [pre] using he
        subst hq
        obtain ⟨d, us, h1, h2, h3, h4⟩ := toks_split n _ _ _ (by simp; omega) hd
        rw [List.length_drop, List.length_cons] at h2
        refine ⟨k + d, ts ++ us, by omega, by rw [List.length_cons]; omega, ?_, by rw [← List.drop_drop]; exact h4⟩
        have hst := step_take hs d
        have htk : (c :: r).take (k + d) = c :: r.take (k - 1 + d) := by rw [show k + d = (k - 1 + d) + 1 by omega, List.take_succ_cons]
        rw [htk, toks_step hst]
        have hdr : (c :: r.take (k - 1 + d)).drop k = ((c :: r).drop k).take d := by rw [← htk, List.drop_take, Nat.add_sub_cancel_left]
        rw [hdr, h3]
        rfl
theorem shR_err {d q : Nat} {r : Res} (h : shR d r = .error (q + d)) : r = .error q := by
  cases r with
  | ok us => cases h
  | error q' =>
    have : q' + d = q + d := by simpa [shR] using h
    rw [show q' = q by omega]
theorem bs_app (a b : ByteArray) : bs (a ++ b) = bs a ++ bs b := by simp [bs]
end Go.Proofs.YtcckpmijdckocaaDoor.QJ
