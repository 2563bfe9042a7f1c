/- Proved here: plain facts on decimal digits: what strconv's two functions, as plain Lean functions, say of a row of digits. No program in sight. -/
import Derived.KernelRfl
import Derived.Test.YtcckpmijdckocaaDoorXLexa
import Derived.Test.YtcckpmijdckocaaDoorX11
import Derived.Test.YtcckpmijdckocaaDoorX9
namespace Go.Proofs.YtcckpmijdckocaaDoor.QN
open Go.RowKit Go.Proofs.YtcckpmijdckocaaDoor.X Go.Proofs.YtcckpmijdckocaaDoor.X.LX Go.Proofs.YtcckpmijdckocaaDoor.K Go.Proofs.YtcckpmijdckocaaDoorW.PrintWords
set_option linter.unusedVariables false
set_option linter.unusedSimpArgs false
/-- The number that digits spell. -/
def dval (l : List UInt8) : Nat := l.foldl (fun a c => 10 * a + (c.toNat - 48)) 0
def dfrom (a : Nat) (l : List UInt8) : Nat := l.foldl (fun a c => 10 * a + (c.toNat - 48)) a
theorem dig_iff (c : UInt8) : isDig c = true ↔ 48 ≤ c.toNat ∧ c.toNat ≤ 57 := by
  unfold isDig
  rw [Bool.and_eq_true, decide_eq_true_eq, decide_eq_true_eq, UInt8.le_iff_toNat_le, UInt8.le_iff_toNat_le]
  exact Iff.rfl
theorem dval_snoc (l : List UInt8) (c : UInt8) : dval (l ++ [c]) = 10 * dval l + (c.toNat - 48) := by simp [dval]
theorem dfrom_le (a : Nat) : ∀ l : List UInt8, a ≤ dfrom a l := by
  intro l
  induction l generalizing a with
  | nil => exact Nat.le_refl _
  | cons c l ih =>
    have h := ih (10 * a + (c.toNat - 48))
    unfold dfrom at h ⊢
    rw [List.foldl_cons]
    omega
theorem parse_dig : ∀ (l : List UInt8) (a : Nat), (∀ c ∈ l, isDig c = true) → a < 18446744073709551616 →
    Lib.parseUint10 a l = if dfrom a l < 18446744073709551616 then .ok (dfrom a l) else .range
  | [], a, _, ha => by rw [Lib.parseUint10]; exact (if_pos ha).symm
  | c :: l, a, h, ha => by
    have hc := (dig_iff c).1 (h c (by simp))
    rw [Lib.parseUint10, if_pos hc]
    have he : dfrom a (c :: l) = dfrom (10 * a + (c.toNat - 48)) l := rfl
    have hle := dfrom_le (10 * a + (c.toNat - 48)) l
    rw [he]
    by_cases h1 : 1844674407370955162 ≤ a
    · rw [if_pos h1, if_neg (by omega)]
    · rw [if_neg h1]
      by_cases h2 : 18446744073709551616 ≤ a * 10 + (c.toNat - 48)
      · rw [if_pos h2, if_neg (by omega)]
      · rw [if_neg h2, parse_dig l _ (fun d hd => h d (by simp [hd])) (by omega), Nat.mul_comm a 10]
theorem atoi_dig {l : List UInt8} (h : ∀ c ∈ l, isDig c = true) (h0 : l ≠ []) : Lib.atoiAll l = if dval l < 9223372036854775808 then .ok (dval l : Int) else .range := by
  cases l with
  | nil => exact absurd rfl h0
  | cons c r =>
    have hc := (dig_iff c).1 (h c (by simp))
    have hp : Lib.parseMag (c :: r) = if dval (c :: r) < 18446744073709551616 then .ok (dval (c :: r)) else .range := by
      unfold Lib.parseMag
      rw [if_neg (by simp)]
      exact parse_dig (c :: r) 0 h (by decide)
    unfold Lib.atoiAll
    have h45 : ¬ c.toNat = 45 := by omega
    have h43 : ¬ (c.toNat = 43 ∨ c.toNat = 45) := by omega
    simp only [if_neg h43]
    rw [hp]
    by_cases h1 : dval (c :: r) < 18446744073709551616
    · rw [if_pos h1]
      by_cases h2 : dval (c :: r) < 9223372036854775808
      · rw [if_pos h2]
        simp only
        rw [if_neg (by omega), if_neg (by omega), if_neg h45]
      · rw [if_neg h2]
        simp only
        rw [if_pos (by omega)]
    · rw [if_neg h1, if_neg (by omega)]
theorem dig_small {u : Nat} (h : u < 10) : Lib.decDigits u = [UInt8.ofNat (48 + u)] := Lib.decDigits_one h
theorem dig_step {u : Nat} (h : ¬ u < 10) : Lib.decDigits u = Lib.decDigits (u / 10) ++ [UInt8.ofNat (48 + u % 10)] := by
  rw [Lib.decDigits, dif_neg h]
theorem ofNat_dig {c : UInt8} (h : isDig c = true) : UInt8.ofNat (48 + (c.toNat - 48)) = c := by
  have := (dig_iff c).1 h
  rw [show 48 + (c.toNat - 48) = c.toNat by omega, UInt8.ofNat_toNat]
/-- No leading zero. -/
def plainB (l : List UInt8) : Bool := match l with | [] => false | [_] => true | c :: _ => c != 48
theorem dval_pos : ∀ (l : List UInt8), (∀ c ∈ l, isDig c = true) → ∀ c r, l = c :: r → c ≠ 48 → 1 ≤ dval l := by
  intro l h c r e hc
  subst e
  have h1 := (dig_iff c).1 (h c (by simp))
  have h2 := dfrom_le (10 * 0 + (c.toNat - 48)) r
  have h3 : c.toNat ≠ 48 := fun e => hc (UInt8.toNat_inj.1 (by rw [e]; rfl))
  show 1 ≤ dfrom (10 * 0 + (c.toNat - 48)) r
  omega
theorem digits_of (n : Nat) : ∀ l : List UInt8, l.length = n → (∀ c ∈ l, isDig c = true) → plainB l = true → Lib.decDigits (dval l) = l := by
  induction n with
  | zero =>
    intro l hl h hp
    rw [List.length_eq_zero_iff.1 hl] at hp
    cases hp
  | succ n ih =>
    intro l hl h hp
    rcases List.eq_nil_or_concat l with rfl | ⟨l', c, rfl⟩
    · cases hl
    · rw [List.concat_eq_append] at hl h hp ⊢
      rw [List.length_append] at hl
      have hc := h c (by simp)
      have hc' := (dig_iff c).1 hc
      rw [dval_snoc]
      cases l' with
      | nil =>
        rw [show dval [] = 0 from rfl, dig_small (by omega), Nat.mul_zero, Nat.zero_add, ofNat_dig hc]
        rfl
      | cons d r =>
        have hd48 : d ≠ 48 := by
          cases r <;> simpa [plainB] using hp
        have hpos := dval_pos (d :: r) (fun x hx => h x (by simp at hx ⊢; rcases hx with hx | hx <;> simp [hx])) d r rfl hd48
        rw [dig_step (by omega), show (10 * dval (d :: r) + (c.toNat - 48)) / 10 = dval (d :: r) by omega, show (10 * dval (d :: r) + (c.toNat - 48)) % 10 = c.toNat - 48 by omega, ofNat_dig hc]
        rw [ih (d :: r) (by simpa using hl) (fun x hx => h x (by simp at hx ⊢; rcases hx with hx | hx <;> simp [hx])) ?_]
        cases r with
        | nil => rfl
        | cons e r => simpa [plainB] using hd48
theorem digits_all (u : Nat) : (∀ c ∈ Lib.decDigits u, isDig c = true) ∧ plainB (Lib.decDigits u) = true ∧ dval (Lib.decDigits u) = u ∧ Lib.decDigits u ≠ [] ∧ (1 ≤ u → (Lib.decDigits u).head? ≠ some 48) := by
  induction u using Nat.strongRecOn with
  | _ u ih =>
    have hdg : ∀ d, d < 10 → isDig (UInt8.ofNat (48 + d)) = true ∧ (UInt8.ofNat (48 + d)).toNat = 48 + d := by decide
    by_cases h : u < 10
    · rw [dig_small h]
      have h1 := hdg u h
      refine ⟨fun c hc => by rw [List.mem_singleton.1 hc]; exact h1.1, rfl, ?_, by simp, fun hu => ?_⟩
      · show 10 * 0 + ((UInt8.ofNat (48 + u)).toNat - 48) = u
        rw [h1.2]
        omega
      · intro e
        have e2 : (UInt8.ofNat (48 + u)).toNat = 48 := by rw [Option.some.inj e]; rfl
        rw [h1.2] at e2
        omega
    · rw [dig_step h]
      obtain ⟨i1, i2, i3, i4, i5⟩ := ih (u / 10) (by omega)
      have h1 := hdg (u % 10) (by omega)
      have i6 := i5 (by omega)
      refine ⟨fun c hc => ?_, ?_, ?_, by simp, fun _ => ?_⟩
      · rcases List.mem_append.1 hc with hc | hc
        · exact i1 c hc
        · rw [List.mem_singleton.1 hc]; exact h1.1
      · cases hd : Lib.decDigits (u / 10) with
        | nil => exact absurd hd i4
        | cons a r =>
          rw [hd] at i6
          have : a ≠ 48 := fun e => i6 (by rw [e]; rfl)
          cases r <;> simpa [plainB] using this
      · rw [dval_snoc, i3, h1.2]
        omega
      · rw [List.head?_append]
        cases hd : Lib.decDigits (u / 10) with
        | nil => exact absurd hd i4
        | cons a r => rw [hd] at i6; simpa using i6
/-- Of digits: the number, where there is no leading zero and it is at most 2^40. -/
theorem numOf_dig {l : List UInt8} (h : ∀ c ∈ l, isDig c = true) (h0 : l ≠ []) : numOf l = if plainB l = true ∧ dval l ≤ 1099511627776 then some (dval l : Int) else none := by
  unfold numOf
  rw [atoi_dig h h0]
  by_cases h1 : dval l < 9223372036854775808
  · rw [if_pos h1]
    simp only
    have hi : Lib.itoa (dval l : Int) = Lib.decDigits (dval l) := by
      unfold Lib.itoa
      rw [if_neg (by omega)]
      simp
    by_cases hp : plainB l = true
    · have he : Lib.itoa (dval l : Int) = l := hi.trans (digits_of l.length l rfl h hp)
      by_cases h2 : dval l ≤ 1099511627776
      · rw [if_pos ⟨he, by omega, by omega⟩, if_pos ⟨hp, h2⟩]
      · rw [if_neg (fun e => h2 (by omega)), if_neg (fun e => h2 e.2)]
    · rw [if_neg (fun e => hp (by have h3 := (digits_all (dval l)).2.1; rw [← hi, e.1] at h3; exact h3)), if_neg (fun e => hp e.1)]
  · rw [if_neg h1, if_neg (fun e => h1 (by omega))]
end Go.Proofs.YtcckpmijdckocaaDoor.QN
namespace Go.Proofs.YtcckpmijdckocaaDoor.QT
open Go.RowKit Go.Proofs.YtcckpmijdckocaaDoor.X Go.Proofs.YtcckpmijdckocaaDoor.X.LX Go.Proofs.YtcckpmijdckocaaDoor.K Go.Proofs.YtcckpmijdckocaaDoorW.PrintWords
abbrev Res := Except Nat (List S35)
def pre (ts : List S35) : Res → Res
  | .ok us => .ok (ts ++ us)
  | .error q => .error q
def run : Nat → Nat → List UInt8 → Res
  | _, _, [] => .ok []
  | 0, p, _ :: _ => .error p
  | k + 1, p, c :: r => match stepL p (c :: r) with
    | none => .error p
    | some (ts, n) => pre ts (run k (p + n) ((c :: r).drop n))
/-- A result, as Lex returns it behind tokens that it has. -/
def res (acc : List S35) : Res → List S35 × Int × Int
  | .ok us => (acc ++ us, 0, 0)
  | .error q => ([], (q : Int), 30)
theorem res_ok (us : List S35) : res [] (.ok us) = (us, 0, 0) := rfl
theorem res_err (acc : List S35) (q : Nat) : res acc (.error q) = ([], (q : Int), 30) := rfl
theorem res_pre (acc ts : List S35) (r : Res) : res acc (pre ts r) = res (acc ++ ts) r := by
  cases r <;> simp [res, pre, List.append_assoc]
theorem lexR_run : ∀ (k p : Nat) (l : List UInt8) (acc : List S35), lexR k p l acc = res acc (run k p l)
  | 0, p, [], acc => by simp [lexR, run, res]
  | k + 1, p, [], acc => by simp [lexR, run, res]
  | 0, p, c :: r, acc => rfl
  | k + 1, p, c :: r, acc => by
    simp only [lexR, run]
    cases stepL p (c :: r) with
    | none => rfl
    | some x =>
      obtain ⟨ts, n⟩ := x
      simp only
      rw [lexR_run k, res_pre]
theorem run_fuel : ∀ (k k' p : Nat) (l : List UInt8), l.length ≤ k → l.length ≤ k' → run k p l = run k' p l
  | _, _, _, [], _, _ => by simp [run]
  | 0, _, _, _ :: _, h, _ => by simp at h
  | _, 0, _, _ :: _, _, h => by simp at h
  | k + 1, k' + 1, p, c :: r, h, h' => by
    simp only [run]
    cases hs : stepL p (c :: r) with
    | none => rfl
    | some x =>
      obtain ⟨ts, n⟩ := x
      have hn := LS.stepL_pos hs
      simp only
      rw [run_fuel k k' (p + n) _ (by simp at h ⊢; omega) (by simp at h' ⊢; omega)]
/-- The tokens of bytes that stand at place p, or the place of the error. -/
def toks (p : Nat) (l : List UInt8) : Res := run l.length p l
theorem toks_nil (p : Nat) : toks p [] = .ok [] := rfl
theorem toks_step {p : Nat} {c : UInt8} {r : List UInt8} {ts : List S35} {n : Nat} (h : stepL p (c :: r) = some (ts, n)) : toks p (c :: r) = pre ts (toks (p + n) ((c :: r).drop n)) := by
  have hn := LS.stepL_pos h
  unfold toks
  rw [List.length_cons, run, h]
  simp only
  rw [run_fuel r.length _ _ _ (by simp; omega) (Nat.le_refl _)]
theorem toks_bad {p : Nat} {c : UInt8} {r : List UInt8} (h : stepL p (c :: r) = none) : toks p (c :: r) = .error p := by
  unfold toks
  rw [List.length_cons, run, h]
theorem lexf (a : ByteArray) (h : a.size ≤ 65536) : lex_Lex.f a = some (res [] (toks 0 (bs a))) := by
  unfold lex_Lex.f
  rw [if_pos h, lexR_run, toks, bs_len]
theorem lexf_big (a : ByteArray) (h : 65536 < a.size) : lex_Lex.f a = some ([], 0, 2) := by
  unfold lex_Lex.f
  rw [if_neg (by omega)]
/-! the five ways of a step -/
theorem cls_of_sp {c : UInt8} (h : isSp c = true) : cls c = 1 := (sp_cls c).2 h
theorem step_sp {p : Nat} {c : UInt8} {r : List UInt8} (h : isSp c = true) : stepL p (c :: r) = some ([], ((c :: r).takeWhile fun c => cls c == 1).length) := by
  simp only [stepL]
  rw [if_pos (cls_of_sp h)]
theorem step_let {p : Nat} {c : UInt8} {r : List UInt8} (h : isLet c = true) : stepL p (c :: r) = if nameL ((c :: r).takeWhile isPart) = true then some ([⟨1, mk ((c :: r).takeWhile isPart), 0, p⟩], ((c :: r).takeWhile isPart).length) else none := by
  have hc := (let_cls c).2 h
  simp only [stepL]
  rw [if_neg (by rw [hc]; decide), if_pos hc]
theorem step_dig {p : Nat} {c : UInt8} {r : List UInt8} (h : isDig c = true) : stepL p (c :: r) = match numOf ((c :: r).takeWhile isDig) with | some v => some ([⟨2, ⟨#[]⟩, v, p⟩], ((c :: r).takeWhile isDig).length) | none => none := by
  have hc := (dig_cls c).2 h
  simp only [stepL]
  rw [if_neg (by rw [hc]; decide), if_neg (by rw [hc]; decide), if_pos hc]
  rfl
theorem step_sign {p : Nat} {c : UInt8} {r : List UInt8} (h : isSign c = true) : stepL p (c :: r) = if [47, 47].isPrefixOf (c :: r) = true then some ([], ((c :: r).takeWhile (· != 10)).length) else some ([⟨3, mk [c], 0, p⟩], 1) := by
  have hc := (sign_cls c).2 h
  simp only [stepL]
  rw [if_neg (by rw [hc]; decide), if_neg (by rw [hc]; decide), if_neg (by rw [hc]; decide), if_pos hc]
theorem step_other {p : Nat} {c : UInt8} {r : List UInt8} (h1 : isSp c = false) (h2 : isLet c = false) (h3 : isDig c = false) (h4 : isSign c = false) : stepL p (c :: r) = none := by
  simp only [stepL]
  rw [if_neg, if_neg, if_neg, if_neg]
  · intro e; rw [(sign_cls c).1 e] at h4; cases h4
  · intro e; rw [(dig_cls c).1 e] at h3; cases h3
  · intro e; rw [(let_cls c).1 e] at h2; cases h2
  · intro e; rw [(sp_cls c).1 e] at h1; cases h1
theorem pre_nil (r : Res) : pre [] r = r := by cases r <;> rfl
theorem sp_fun : (fun c : UInt8 => cls c == 1) = isSp := by
  funext c
  have := sp_cls c
  cases h : isSp c
  · rw [h] at this
    exact beq_eq_false_iff_ne.2 (fun e => by have := this.1 e; cases this)
  · rw [this.2 h]; rfl
theorem drop_sp : ∀ (r : List UInt8) (p : Nat), toks (p + (r.takeWhile isSp).length) (r.drop (r.takeWhile isSp).length) = toks p r
  | [], p => rfl
  | c :: r, p => by
    rw [List.takeWhile_cons]
    cases h : isSp c
    · rfl
    · have hs := step_sp (p := p) (r := r) h
      rw [sp_fun, List.takeWhile_cons, if_pos h] at hs
      rw [toks_step hs, pre_nil]
      simp
/-- White space has no tokens. -/
theorem toks_sp {p : Nat} {c : UInt8} {r : List UInt8} (h : isSp c = true) : toks p (c :: r) = toks (p + 1) r := by
  have hs := step_sp (p := p) (r := r) h
  rw [sp_fun, List.takeWhile_cons, if_pos h] at hs
  rw [toks_step hs, pre_nil, List.length_cons, List.drop_succ_cons, ← drop_sp r (p + 1)]
  congr 1
  omega
/-- A comment has none. -/
theorem toks_com {p : Nat} {r : List UInt8} : toks p (47 :: 47 :: r) = toks (p + ((47 :: 47 :: r).takeWhile (· != 10)).length) ((47 :: 47 :: r).drop ((47 :: 47 :: r).takeWhile (· != 10)).length) := by
  have hs := step_sign (p := p) (c := 47) (r := 47 :: r) (by decide)
  rw [if_pos (by simp [List.isPrefixOf])] at hs
  rw [toks_step hs, pre_nil]
theorem toks_let {p : Nat} {c : UInt8} {r : List UInt8} (h : isLet c = true) : toks p (c :: r) = if nameL ((c :: r).takeWhile isPart) = true then pre [⟨1, mk ((c :: r).takeWhile isPart), 0, p⟩] (toks (p + ((c :: r).takeWhile isPart).length) ((c :: r).drop ((c :: r).takeWhile isPart).length)) else .error p := by
  have hs := step_let (p := p) (r := r) h
  by_cases hn : nameL ((c :: r).takeWhile isPart) = true
  · rw [if_pos hn] at hs ⊢
    exact toks_step hs
  · rw [if_neg hn] at hs ⊢
    exact toks_bad hs
theorem toks_dig {p : Nat} {c : UInt8} {r : List UInt8} (h : isDig c = true) : toks p (c :: r) = match numOf ((c :: r).takeWhile isDig) with | some v => pre [⟨2, ⟨#[]⟩, v, p⟩] (toks (p + ((c :: r).takeWhile isDig).length) ((c :: r).drop ((c :: r).takeWhile isDig).length)) | none => .error p := by
  have hs := step_dig (p := p) (r := r) h
  cases hn : numOf ((c :: r).takeWhile isDig) with
  | none => rw [hn] at hs; exact toks_bad hs
  | some v => rw [hn] at hs; exact toks_step hs
theorem toks_sign {p : Nat} {c : UInt8} {r : List UInt8} (h : isSign c = true) (h2 : [47, 47].isPrefixOf (c :: r) = false) : toks p (c :: r) = pre [⟨3, mk [c], 0, p⟩] (toks (p + 1) r) := by
  have hs := step_sign (p := p) (r := r) h
  rw [h2, if_neg (by decide)] at hs
  exact toks_step hs
theorem toks_other {p : Nat} {c : UInt8} {r : List UInt8} (h1 : isSp c = false) (h2 : isLet c = false) (h3 : isDig c = false) (h4 : isSign c = false) : toks p (c :: r) = .error p := toks_bad (step_other h1 h2 h3 h4)
/-! places -/
def shT (d : Nat) (x : S35) : S35 := ⟨x.f0, x.f1, x.f2, x.f3 + d⟩
def shR (d : Nat) : Res → Res
  | .ok us => .ok (us.map (shT d))
  | .error q => .error (q + d)
theorem step_sh (p d : Nat) (c : UInt8) (r : List UInt8) : stepL (p + d) (c :: r) = (stepL p (c :: r)).map fun x => (x.1.map (shT d), x.2) := by
  simp only [stepL]
  split
  · rfl
  · split
    · split <;> simp [shT]
    · split
      · split <;> simp [shT]
      · split
        · split <;> simp [shT]
        · rfl
theorem run_sh : ∀ (k p d : Nat) (l : List UInt8), run k (p + d) l = shR d (run k p l)
  | _, _, _, [] => by simp [run, shR]
  | 0, _, _, _ :: _ => by simp [run, shR]
  | k + 1, p, d, c :: r => by
    simp only [run]
    rw [step_sh]
    cases stepL p (c :: r) with
    | none => rfl
    | some x =>
      obtain ⟨ts, n⟩ := x
      simp only [Option.map_some]
      rw [show p + d + n = p + n + d by omega, run_sh k (p + n) d]
      cases run k (p + n) ((c :: r).drop n) <;> simp [pre, shR]
theorem toks_sh (p d : Nat) (l : List UInt8) : toks (p + d) l = shR d (toks p l) := run_sh _ _ _ _
end Go.Proofs.YtcckpmijdckocaaDoor.QT
namespace Go.Proofs.YtcckpmijdckocaaDoor.QR
open Go.RowKit Go.Proofs.YtcckpmijdckocaaDoor.X Go.Proofs.YtcckpmijdckocaaDoor.X.LX Go.Proofs.YtcckpmijdckocaaDoor.K Go.Proofs.YtcckpmijdckocaaDoorW.PrintWords Go.Proofs.YtcckpmijdckocaaDoor.QT Go.Proofs.YtcckpmijdckocaaDoor.QN
theorem byte_all {P : UInt8 → Prop} (h : ∀ n < 256, P (UInt8.ofNat n)) (c : UInt8) : P c := by
  have := h c.toNat c.toNat_lt
  rwa [UInt8.ofNat_toNat] at this
theorem sp_f (c : UInt8) : fastiref03_Space.f (c.toNat : Int) = some (isSp c) := byte_all (P := fun c => fastiref03_Space.f (c.toNat : Int) = some (isSp c)) (by decide +kernel) c
theorem let_f (c : UInt8) : fastiref03_Letter.f (c.toNat : Int) = some (isLet c) := byte_all (P := fun c => fastiref03_Letter.f (c.toNat : Int) = some (isLet c)) (by decide +kernel) c
theorem dig_f (c : UInt8) : fastiref03_Figure.f (c.toNat : Int) = some (isDig c) := byte_all (P := fun c => fastiref03_Figure.f (c.toNat : Int) = some (isDig c)) (by decide +kernel) c
theorem part_f (c : UInt8) : fastiref03_part.f (c.toNat : Int) = some (isPart c) := byte_all (P := fun c => fastiref03_part.f (c.toNat : Int) = some (isPart c)) (by decide +kernel) c
theorem sign_f0 (c : UInt8) : fastiref03_Sign.f 20 (c.toNat : Int) = some (isSign c) := byte_all (P := fun c => fastiref03_Sign.f 20 (c.toNat : Int) = some (isSign c)) (by decide +kernel) c
theorem sign_f (c : UInt8) : Ev (fun k => fastiref03_Sign.f k (c.toNat : Int)) (isSign c) := Ev.of (fastiref03_Sign.mono _) (sign_f0 c)
theorem drop_at (a : ByteArray) {p : Nat} (h : p < a.size) : ∃ c r, (bs a).drop p = c :: r ∧ bt a (p : Int) = (c.toNat : Int) ∧ (bs a).drop (p + 1) = r ∧ p + r.length + 1 = a.size := by
  refine ⟨a[p], (bs a).drop (p + 1), by rw [drop_get (by rw [bs_len]; exact h), bs_get a p h], bt_get a p h, rfl, ?_⟩
  rw [List.length_drop, bs_len]
  omega
theorem size_mk (l : List UInt8) : (mk l).size = l.length := by rw [← bs_len, bs_mk]
/-! names -/
theorem name_l0 (a : ByteArray) (hs : a.size < 4611686018427387904) : ∀ (d i : Nat), a.size - i = d → i ≤ a.size → Ev (fun k => fastiref03_Name.l0 k a (i : Int)) (((bs a).drop i).all isPart) := by
  intro d
  induction d with
  | zero =>
    intro i hd hi
    obtain rfl : i = a.size := by omega
    refine Ev.eq fun k => ?_
    simp only [fastiref03_Name.l0]
    rw [if_neg (by omega), List.drop_of_length_le (by rw [bs_len]; exact Nat.le_refl _)]
    rfl
  | succ d ih =>
    intro i hd hi
    obtain ⟨c, r, h1, h2, h3, h4⟩ := drop_at a (show i < a.size by omega)
    have hw : wrap64 ((i : Int) + 1) = ((i + 1 : Nat) : Int) := w64s i (by omega)
    rw [h1, List.all_cons]
    have hn := ih (i + 1) (by omega) (by omega)
    rw [h3] at hn
    cases hp : isPart c
    · refine Ev.eq fun k => ?_
      simp only [fastiref03_Name.l0]
      rw [if_pos (by omega), if_pos (by omega), h2, part_f, hp]
      rfl
    · refine Ev.step (fun k => ?_) hn
      simp only [fastiref03_Name.l0]
      rw [if_pos (by omega), if_pos (by omega), h2, part_f, hp, hw]
      rfl
theorem name_ref (a : ByteArray) : Ev (fun k => fastiref03_Name.f k a) (nameL (bs a)) := by
  unfold fastiref03_Name.f
  have hl := bs_len a
  cases hb : bs a with
  | nil =>
    rw [hb, List.length_nil] at hl
    refine Ev.step (f := fun _ => some false) (fun k => ?_) (Ev.now _)
    rw [if_pos (by omega)]
    rfl
  | cons c r =>
    rw [hb, List.length_cons] at hl
    simp only [nameL]
    by_cases h32 : (a.size : Int) > 32
    · rw [decide_eq_false (show ¬ r.length ≤ 31 by omega)]
      refine Ev.step (f := fun _ => some false) (fun k => ?_) (Ev.now _)
      rw [if_neg (by omega), if_pos h32]
      rfl
    · have hlt : 0 < a.size := by omega
      obtain ⟨c', r', h1, h2, h3, h4⟩ := drop_at a hlt
      rw [List.drop_zero, hb] at h1
      obtain ⟨rfl, rfl⟩ := List.cons.inj h1
      have h2' : bt a 0 = (c.toNat : Int) := h2
      have hn := name_l0 a (by omega) a.size 0 (by omega) (by omega)
      rw [List.drop_zero, hb] at hn
      rw [decide_eq_true (show r.length ≤ 31 by omega), Bool.true_and]
      cases hi : isLet c
      · refine Ev.step (f := fun _ => some false) (fun k => ?_) (Ev.now _)
        rw [if_neg (by omega), if_neg h32, if_pos (by omega), h2', let_f, hi]
        rfl
      · refine Ev.step (f := fun k => fastiref03_Name.l0 k a 0) (fun k => ?_) hn
        rw [if_neg (by omega), if_neg h32, if_pos (by omega), h2', let_f, hi]
        rfl
theorem valid_ref (x : S35) : Ev (fun k => fastiref03_Valid.f k x.f0 x.f1 x.f2 x.f3) (validB x) := by
  unfold fastiref03_Valid.f validB
  by_cases h1 : x.f0 = 1
  · simp only [if_pos h1]
    have h := Ev.bind (f := fun _ (t : Bool) => if t = true then some (x.f2 == 0) else some false) (r := nameL (bs x.f1) && x.f2 == 0) (name_ref x.f1) (Ev.all fun k => by cases nameL (bs x.f1) <;> simp)
    exact h
  · simp only [if_neg h1]
    by_cases h2 : x.f0 = 2
    · simp only [if_pos h2]
      refine Ev.all fun k => ?_
      rw [tl]
      cases hb : bs x.f1 with
      | nil => by_cases h : (0 : Int) ≤ x.f2 <;> simp [h]
      | cons c r => simp
    · simp only [if_neg h2]
      by_cases h3 : x.f0 = 3
      · simp only [if_pos h3]
        have hl := bs_len x.f1
        cases hb : bs x.f1 with
        | nil =>
          rw [hb] at hl
          simp only [List.length_nil] at hl
          refine Ev.all fun k => ?_
          rw [if_neg (by omega)]
        | cons c r =>
          rw [hb, List.length_cons] at hl
          cases r with
          | nil =>
            simp only [List.length_nil] at hl
            obtain ⟨c', r', e1, e2, _, _⟩ := drop_at x.f1 (show 0 < x.f1.size by omega)
            rw [List.drop_zero, hb] at e1
            obtain ⟨rfl, rfl⟩ := List.cons.inj e1
            have e2' : bt x.f1 0 = (c.toNat : Int) := e2
            simp only [if_pos (show (x.f1.size : Int) = 1 by omega), if_pos (show 0 < (x.f1.size : Int) by omega), e2']
            exact Ev.bind (f := fun _ (t : Bool) => if t = true then some (x.f2 == 0) else some false) (sign_f c) (Ev.all fun k => by cases isSign c <;> simp)
          | cons d r =>
            simp only [List.length_cons] at hl
            refine Ev.all fun k => ?_
            rw [if_neg (by omega)]
      · simp only [if_neg h3]
        exact Ev.all fun k => rfl
/-! numbers -/
theorem dfrom_cons (a : Nat) (c : UInt8) (l : List UInt8) : dfrom a (c :: l) = dfrom (10 * a + (c.toNat - 48)) l := by unfold dfrom; rw [List.foldl_cons]
theorem acc_a (x y : Nat) (h0 : 48 ≤ x) (h1 : x ≤ 57) (hy : x - 48 = y) : ((x : Int) - 48) % 256 = (y : Int) := by omega
theorem acc_b (v : Nat) (hv : v ≤ 1099511627776) : wrap64 (10 * (v : Int)) = 10 * (v : Int) := w64 (by omega) (by omega)
theorem acc_c (v y : Nat) (hv : v ≤ 1099511627776) (hy : y ≤ 9) : wrap64 (10 * (v : Int) + (y : Int)) = ((10 * v + y : Nat) : Int) := by
  rw [w64 (by omega) (by omega)]
  omega
theorem acc_step (v x y : Nat) (hv : v ≤ 1099511627776) (h0 : 48 ≤ x) (h1 : x ≤ 57) (hy : x - 48 = y) : wrap64 (wrap64 (10 * (v : Int)) + ((x : Int) - 48) % 256) = ((10 * v + y : Nat) : Int) := by
  have hy9 : y ≤ 9 := by rw [← hy]; exact Nat.sub_le_of_le_add h1
  exact (congrArg (fun z => wrap64 (wrap64 (10 * (v : Int)) + z)) (acc_a x y h0 h1 hy)).trans ((congrArg (fun z => wrap64 (z + (y : Int))) (acc_b v hv)).trans (acc_c v y hv hy9))
def numB (l : List UInt8) : Int × Bool := if dval l ≤ 1099511627776 then ((dval l : Int), plainB l) else (0, false)
theorem numB_le {l : List UInt8} (h : dval l ≤ 1099511627776) : numB l = ((dval l : Int), plainB l) := if_pos h
theorem numB_gt {l : List UInt8} (h : ¬ dval l ≤ 1099511627776) : numB l = (0, false) := if_neg h
theorem number_stop (k : Nat) (a : ByteArray) (v i : Int) (h1 : i < (a.size : Int)) (h2 : 0 ≤ i) (w : Int) (hw : wrap64 (wrap64 (10 * v) + (bt a i - 48) % 256) = w) (h3 : w > 1099511627776) : fastiref03_number.l0 (k + 1) a v i = some (0, false) := by
  simp only [fastiref03_number.l0]
  rw [if_pos h1, if_pos h2, hw, if_pos h3]
theorem number_go (k : Nat) (a : ByteArray) (v i : Int) (h1 : i < (a.size : Int)) (h2 : 0 ≤ i) (w : Int) (hw : wrap64 (wrap64 (10 * v) + (bt a i - 48) % 256) = w) (h3 : ¬ w > 1099511627776) : fastiref03_number.l0 (k + 1) a v i = fastiref03_number.l0 k a w (wrap64 (i + 1)) := by
  simp only [fastiref03_number.l0]
  rw [if_pos h1, if_pos h2, hw, if_neg h3]
theorem number_end (k : Nat) (a : ByteArray) (v : Int) (c : UInt8) (r : List UInt8) (e1 : bs a = c :: r) (e2 : bt a 0 = (c.toNat : Int)) (e4 : r.length + 1 = a.size) : fastiref03_number.l0 (k + 1) a v (a.size : Int) = some (v, plainB (c :: r)) := by
  simp only [fastiref03_number.l0]
  rw [if_neg (by omega)]
  by_cases h1 : (a.size : Int) = 1
  · rw [if_pos h1]
    have : r = [] := List.length_eq_zero_iff.1 (by omega)
    rw [this]
    rfl
  · rw [if_neg h1, if_pos (by omega), e2]
    have hne : r ≠ [] := fun e => by rw [e] at e4; simp at e4; omega
    have : plainB (c :: r) = (c != 48) := by cases r with | nil => exact absurd rfl hne | cons x y => rfl
    rw [this]
    have h48 : ((c.toNat : Int) != 48) = (c != 48) := by
      by_cases h : c = 48
      · subst h; rfl
      · have : ¬ c.toNat = 48 := fun e => h (UInt8.toNat_inj.1 (by rw [e]; rfl))
        rw [bne_iff_ne.2 h, bne_iff_ne.2 (by omega)]
    rw [h48]
theorem number_l0 (a : ByteArray) (hs : a.size ≤ 65536) (hd : ∀ c ∈ bs a, isDig c = true) (h0 : 0 < a.size) : ∀ (d i : Nat) (v : Nat), a.size - i = d → i ≤ a.size → v ≤ 1099511627776 → dfrom v ((bs a).drop i) = dval (bs a) →
    Ev (fun k => fastiref03_number.l0 k a (v : Int) (i : Int)) (numB (bs a)) := by
  intro d
  induction d with
  | zero =>
    intro i v hdi hi hv he
    obtain rfl : i = a.size := by omega
    rw [List.drop_of_length_le (by rw [bs_len]; exact Nat.le_refl _)] at he
    have hv2 : v = dval (bs a) := he
    obtain ⟨c, r, e1, e2, _, e4⟩ := drop_at a h0
    rw [List.drop_zero] at e1
    have h := numB_le (l := bs a) (by rw [← hv2]; exact hv)
    rw [h, ← hv2, e1]
    exact Ev.eq fun k => number_end k a v c r e1 e2 (by omega)
  | succ d ih =>
    intro i v hdi hi hv he
    obtain ⟨c, r, e1, e2, e3, e4⟩ := drop_at a (show i < a.size by omega)
    have hc := (dig_iff c).1 (hd c (by have : c ∈ (bs a).drop i := by rw [e1]; simp
                                       exact List.mem_of_mem_drop this))
    rw [e1, dfrom_cons] at he
    obtain ⟨x, hx⟩ : ∃ x, c.toNat = x := ⟨_, rfl⟩
    obtain ⟨y, hy⟩ : ∃ y, x - 48 = y := ⟨_, rfl⟩
    rw [hx] at hc e2 he
    rw [hy] at he
    obtain ⟨u, hu⟩ : ∃ u, 10 * v + y = u := ⟨_, rfl⟩
    have hlt : i < a.size := by omega
    have hd1 : a.size - (i + 1) = d := by omega
    rw [hu] at he
    have hle := dfrom_le u r
    rw [he] at hle
    have hw : wrap64 ((i : Int) + 1) = ((i + 1 : Nat) : Int) := w64s i (by omega)
    have c1 : (i : Int) < (a.size : Int) := Int.ofNat_lt.2 hlt
    have c2 : 0 ≤ (i : Int) := Int.natCast_nonneg i
    by_cases hb : u ≤ 1099511627776
    · have hn := ih (i + 1) u hd1 hlt hb (by rw [e3]; exact he)
      have hb' : ¬ (u : Int) > 1099511627776 := by clear hw; omega
      have hw1 := acc_step v x y hv hc.1 hc.2 hy
      rw [hu, ← e2] at hw1
      refine Ev.step (fun k => ?_) hn
      rw [number_go k a v i c1 c2 u hw1 hb', hw]
    · have hb' : (u : Int) > 1099511627776 := by clear hw; omega
      have hb2 : ¬ dval (bs a) ≤ 1099511627776 := by clear hw; omega
      have hw1 := acc_step v x y hv hc.1 hc.2 hy
      rw [hu, ← e2] at hw1
      rw [numB_gt (l := bs a) hb2]
      exact Ev.eq fun k => number_stop k a v i c1 c2 u hw1 hb'
theorem number_ref (l : List UInt8) (hl : l.length ≤ 65536) (hd : ∀ c ∈ l, isDig c = true) (h0 : l ≠ []) : Ev (fun k => fastiref03_number.f k (mk l)) (numB l) := by
  have h := number_l0 (mk l) (by rw [size_mk]; exact hl) (by rw [bs_mk]; exact hd) (by rw [size_mk]; exact List.length_pos_iff.2 h0) (mk l).size 0 0 (by omega) (by omega) (by decide) (by rw [List.drop_zero]; rfl)
  rw [bs_mk] at h
  exact h
end Go.Proofs.YtcckpmijdckocaaDoor.QR
namespace Go.Proofs.YtcckpmijdckocaaDoor.QE
open Go.RowKit Go.Proofs.YtcckpmijdckocaaDoor.X Go.Proofs.YtcckpmijdckocaaDoor.X.LX Go.Proofs.YtcckpmijdckocaaDoor.K Go.Proofs.YtcckpmijdckocaaDoorW.PrintWords Go.Proofs.YtcckpmijdckocaaDoor.QT Go.Proofs.YtcckpmijdckocaaDoor.QN Go.Proofs.YtcckpmijdckocaaDoor.QR
theorem sane_ok : Ev (fun k => fastilaw03_sane.f k) true := by
  refine Ev.of fastilaw03_sane.mono (k := 60) ?_
  kernel_rfl
theorem rd35 {l : List S35} {i : Nat} (h : i < l.length) : rd_T35 l (i : Int) = l[i] := LS.rd35_lt h
theorem same_l0 (a b : List S35) (hl : a.length = b.length) (hs : a.length < 4611686018427387904) : ∀ (d i : Nat), a.length - i = d → i ≤ a.length → Ev (fun k => fastiref03_Same.l0 k a b (i : Int)) (LS.eqL (a.drop i) (b.drop i)) := by
  intro d
  induction d with
  | zero =>
    intro i hd hi
    obtain rfl : i = a.length := by omega
    rw [List.drop_of_length_le (Nat.le_refl _), List.drop_of_length_le (by omega)]
    refine Ev.eq fun k => ?_
    simp only [fastiref03_Same.l0]
    rw [if_neg (by omega)]
    rfl
  | succ d ih =>
    intro i hd hi
    have hia : i < a.length := by omega
    have hib : i < b.length := by omega
    have hw : wrap64 ((i : Int) + 1) = ((i + 1 : Nat) : Int) := w64s i (by omega)
    have c1 : (i : Int) < (a.length : Int) := by omega
    have c2 : 0 ≤ (i : Int) := by omega
    have c3 : (i : Int) < (b.length : Int) := by omega
    have hn := ih (i + 1) (by omega) (by omega)
    rw [drop_get hia, drop_get hib, LS.eqL]
    obtain ⟨x, hx⟩ : ∃ x, a[i] = x := ⟨_, rfl⟩
    obtain ⟨y, hy⟩ : ∃ y, b[i] = y := ⟨_, rfl⟩
    have e1 := rd35 hia
    have e2 := rd35 hib
    rw [hx] at e1
    rw [hy] at e2
    rw [hx, hy, LS.tokEq]
    by_cases h0 : x.f0 = y.f0
    · by_cases h1 : x.f1.toList = y.f1.toList
      · by_cases h2 : x.f2 = y.f2
        · rw [decide_eq_true h0, beq_iff_eq.2 h1, decide_eq_true h2]
          refine Ev.step (fun k => ?_) hn
          simp only [fastiref03_Same.l0]
          rw [if_pos c1, if_pos c2, if_pos c3, e1, e2, if_pos h0, if_pos h1, if_pos h2, hw]
        · rw [decide_eq_false h2, Bool.and_false, Bool.false_and]
          refine Ev.eq fun k => ?_
          simp only [fastiref03_Same.l0]
          rw [if_pos c1, if_pos c2, if_pos c3, e1, e2, if_pos h0, if_pos h1, if_neg h2]
      · rw [beq_eq_false_iff_ne.2 h1, Bool.and_false, Bool.false_and, Bool.false_and]
        refine Ev.eq fun k => ?_
        simp only [fastiref03_Same.l0]
        rw [if_pos c1, if_pos c2, if_pos c3, e1, e2, if_pos h0, if_neg h1]
    · rw [decide_eq_false h0, Bool.false_and, Bool.false_and, Bool.false_and]
      refine Ev.eq fun k => ?_
      simp only [fastiref03_Same.l0]
      rw [if_pos c1, if_pos c2, if_pos c3, e1, e2, if_neg h0]
theorem same_ref (a b : List S35) (hs : a.length < 4611686018427387904) : Ev (fun k => fastiref03_Same.f k a b) (LS.eqL a b) := by
  unfold fastiref03_Same.f
  by_cases hl : a.length = b.length
  · simp only [if_pos (show (a.length : Int) = (b.length : Int) by omega)]
    have h := same_l0 a b hl hs a.length 0 (by omega) (by omega)
    simpa using h
  · simp only [if_neg (show ¬ (a.length : Int) = (b.length : Int) by omega)]
    rw [LS.eqL_len a b hl]
    exact Ev.now _
theorem tok_refl (x : S35) : LS.tokEq x x = true := by simp [LS.tokEq]
theorem eqL_refl : ∀ a : List S35, LS.eqL a a = true
  | [] => rfl
  | x :: a => by rw [LS.eqL, tok_refl, eqL_refl a]; rfl
theorem equal_l0 (a : List S35) (hs : a.length < 4611686018427387904) : ∀ (d i : Nat), a.length - i = d → i ≤ a.length → Ev (fun k => fastiref03_Equal.l0 k a a (i : Int)) true := by
  intro d
  induction d with
  | zero =>
    intro i hd hi
    refine Ev.eq fun k => ?_
    simp only [fastiref03_Equal.l0]
    rw [if_neg (by omega)]
  | succ d ih =>
    intro i hd hi
    have hw : wrap64 ((i : Int) + 1) = ((i + 1 : Nat) : Int) := w64s i (by omega)
    refine Ev.step (fun k => ?_) (ih (i + 1) (by omega) (by omega))
    simp only [fastiref03_Equal.l0]
    rw [if_pos (by omega), if_pos (by omega), if_pos (by omega), if_pos trivial, hw]
theorem equal_refl (a : List S35) (hs : a.length < 4611686018427387904) : Ev (fun k => fastiref03_Equal.f k a a) true := by
  unfold fastiref03_Equal.f
  have h := same_ref a a hs
  rw [eqL_refl] at h
  exact Ev.bind (f := fun k (t : Bool) => if t = true then fastiref03_Equal.l0 k a a 0 else some false) h (equal_l0 a hs a.length 0 (by omega) (by omega))
theorem step_len {p : Nat} {c : UInt8} {r : List UInt8} {ts : List S35} {n : Nat} (h : stepL p (c :: r) = some (ts, n)) : ts.length ≤ 1 := by
  simp only [stepL] at h
  split at h
  · obtain ⟨rfl, _⟩ := Prod.mk.inj (Option.some.inj h); simp
  · split at h
    · split at h
      · obtain ⟨rfl, _⟩ := Prod.mk.inj (Option.some.inj h); simp
      · cases h
    · split at h
      · split at h
        · obtain ⟨rfl, _⟩ := Prod.mk.inj (Option.some.inj h); simp
        · cases h
      · split at h
        · split at h
          · obtain ⟨rfl, _⟩ := Prod.mk.inj (Option.some.inj h); simp
          · obtain ⟨rfl, _⟩ := Prod.mk.inj (Option.some.inj h); simp
        · cases h
theorem run_len : ∀ (k p : Nat) (l : List UInt8) (us : List S35), run k p l = .ok us → us.length ≤ l.length
  | _, _, [], us, h => by simp [run] at h; subst h; simp
  | 0, _, _ :: _, _, h => by simp [run] at h
  | k + 1, p, c :: r, us, h => by
    simp only [run] at h
    cases hs : stepL p (c :: r) with
    | none => rw [hs] at h; cases h
    | some x =>
      obtain ⟨ts, n⟩ := x
      rw [hs] at h
      simp only at h
      have hn := LS.stepL_pos hs
      have hl := step_len hs
      cases hr : run k (p + n) ((c :: r).drop n) with
      | error q => rw [hr] at h; cases h
      | ok vs =>
        rw [hr] at h
        have hv := run_len k _ _ _ hr
        have : us = ts ++ vs := by simpa [pre] using h.symm
        subst this
        rw [List.length_append]
        rw [List.length_drop, List.length_cons] at hv
        rw [List.length_cons]
        omega
theorem toks_len {p : Nat} {l : List UInt8} {us : List S35} (h : toks p l = .ok us) : us.length ≤ l.length := run_len _ _ _ _ h
theorem res_len (p : Nat) (l : List UInt8) : (res [] (toks p l)).1.length ≤ l.length := by
  cases h : toks p l with
  | ok us => simpa [res] using toks_len h
  | error q => simp [res]
end Go.Proofs.YtcckpmijdckocaaDoor.QE
namespace Go.Proofs.YtcckpmijdckocaaDoor.QJ
open Go.RowKit Go.Proofs.YtcckpmijdckocaaDoor.X Go.Proofs.YtcckpmijdckocaaDoor.X.LX Go.Proofs.YtcckpmijdckocaaDoor.K Go.Proofs.YtcckpmijdckocaaDoorW.PrintWords Go.Proofs.YtcckpmijdckocaaDoor.QT Go.Proofs.YtcckpmijdckocaaDoor.QN Go.Proofs.YtcckpmijdckocaaDoor.QR Go.Proofs.YtcckpmijdckocaaDoor.QE
theorem tw_app (q : UInt8 → Bool) (x : UInt8) (hx : q x = false) (m : List UInt8) : ∀ l : List UInt8, (l ++ x :: m).takeWhile q = l.takeWhile q
  | [] => by rw [List.nil_append, List.takeWhile_cons, hx]; rfl
  | c :: l => by
    rw [List.cons_append, List.takeWhile_cons, List.takeWhile_cons]
    cases q c
    · rfl
    · simp only [if_true, tw_app q x hx m l]
theorem tw_short (q : UInt8 → Bool) (m : List UInt8) : ∀ l : List UInt8, (l.takeWhile q).length < l.length → (l ++ m).takeWhile q = l.takeWhile q
  | [], h => by simp at h
  | c :: l, h => by
    rw [List.cons_append, List.takeWhile_cons, List.takeWhile_cons]
    rw [List.takeWhile_cons] at h
    cases hc : q c
    · rfl
    · rw [hc] at h
      simp only [if_true, List.length_cons] at h ⊢
      rw [tw_short q m l (by omega)]
theorem tw_take (q : UInt8 → Bool) (d : Nat) : ∀ l : List UInt8, (l.take ((l.takeWhile q).length + d)).takeWhile q = l.takeWhile q
  | [] => by simp
  | c :: l => by
    rw [List.takeWhile_cons]
    cases hc : q c
    · cases d with
      | zero => rfl
      | succ d =>
        simp only [Bool.false_eq_true, if_false, List.length_nil, Nat.zero_add, List.take_succ_cons, List.takeWhile_cons, hc]
    · simp only [if_true, List.length_cons]
      rw [show (l.takeWhile q).length + 1 + d = ((l.takeWhile q).length + d) + 1 by omega, List.take_succ_cons, List.takeWhile_cons, hc]
      simp only [if_true, tw_take q d l]
theorem sp_not_part {x : UInt8} (h : isSp x = true) : isPart x = false ∧ isDig x = false ∧ (x == 47) = false := by
  have hd : ∀ n < 256, isSp (UInt8.ofNat n) = true → isPart (UInt8.ofNat n) = false ∧ isDig (UInt8.ofNat n) = false ∧ (UInt8.ofNat n == 47) = false := by decide +kernel
  have := hd x.toNat x.toNat_lt
  rw [UInt8.ofNat_toNat] at this
  exact this h
/-- The five ways of a byte. -/
theorem kinds (c : UInt8) : (isSp c = true ∧ isLet c = false ∧ isDig c = false ∧ isSign c = false) ∨ (isSp c = false ∧ isLet c = true ∧ isDig c = false ∧ isSign c = false) ∨ (isSp c = false ∧ isLet c = false ∧ isDig c = true ∧ isSign c = false) ∨ (isSp c = false ∧ isLet c = false ∧ isDig c = false ∧ isSign c = true) ∨ (isSp c = false ∧ isLet c = false ∧ isDig c = false ∧ isSign c = false) :=
  byte_all (P := fun c => (isSp c = true ∧ isLet c = false ∧ isDig c = false ∧ isSign c = false) ∨ (isSp c = false ∧ isLet c = true ∧ isDig c = false ∧ isSign c = false) ∨ (isSp c = false ∧ isLet c = false ∧ isDig c = true ∧ isSign c = false) ∨ (isSp c = false ∧ isLet c = false ∧ isDig c = false ∧ isSign c = true) ∨ (isSp c = false ∧ isLet c = false ∧ isDig c = false ∧ isSign c = false)) (by decide +kernel) c
theorem pf_app {c : UInt8} {r m : List UInt8} {x : UInt8} (hx : (x == 47) = false) : [47, 47].isPrefixOf (c :: (r ++ x :: m)) = [47, 47].isPrefixOf (c :: r) := by
  cases r with
  | nil =>
    simp only [List.nil_append, List.isPrefixOf, Bool.and_true, Bool.and_false]
    rw [show ((47 : UInt8) == x) = false from by rw [Bool.beq_comm]; exact hx, Bool.and_false]
  | cons y r => simp only [List.cons_append, List.isPrefixOf]
/-- A step does not see what stands behind a byte of white space (a comment, where it ends ahead of it). -/
theorem step_app {p : Nat} {c : UInt8} {r m : List UInt8} {x : UInt8} (hsp : isSp c = false) (hx : isSp x = true) (hc : [47, 47].isPrefixOf (c :: r) = true → x = 10 ∨ ((c :: r).takeWhile (· != 10)).length < (c :: r).length) : stepL p (c :: r ++ x :: m) = stepL p (c :: r) := by
  obtain ⟨x1, x2, x3⟩ := sp_not_part hx
  rw [List.cons_append]
  rcases kinds c with ⟨h, _⟩ | ⟨_, h, _⟩ | ⟨_, _, h, _⟩ | ⟨_, _, _, h⟩ | ⟨h1, h2, h3, h4⟩
  · rw [hsp] at h; cases h
  · rw [step_let h, step_let h, ← List.cons_append, tw_app isPart x x1]
  · rw [step_dig h, step_dig h, ← List.cons_append, tw_app isDig x x2]
  · rw [step_sign h, step_sign h, pf_app x3]
    by_cases hp : [47, 47].isPrefixOf (c :: r) = true
    · rw [if_pos hp, if_pos hp, ← List.cons_append]
      rcases hc hp with rfl | hlt
      · rw [tw_app (· != 10) 10 (by decide)]
      · rw [tw_short (· != 10) (x :: m) (c :: r) hlt]
    · rw [if_neg hp, if_neg hp]
  · rw [step_other h1 h2 h3 h4, step_other h1 h2 h3 h4]
theorem pre_pre (a b : List S35) (r : Res) : pre a (pre b r) = pre (a ++ b) r := by cases r <;> simp [pre, List.append_assoc]
def seq : Res → Res → Res
  | .ok us, r => pre us r
  | .error q, _ => .error q
theorem seq_pre (a : List S35) (r s : Res) : seq (pre a r) s = pre a (seq r s) := by
  cases r with
  | error q => rfl
  | ok us => simp only [pre, seq, pre_pre]; cases s <;> simp [pre, List.append_assoc]
/-- Two sources with a line feed between them. -/
theorem toks_join (m : List UInt8) : ∀ (n : Nat) (l : List UInt8) (p : Nat), l.length ≤ n → toks p (l ++ 10 :: m) = seq (toks p l) (toks (p + l.length + 1) m)
  | _, [], p, _ => by
    rw [List.nil_append, toks_sp (by decide), toks_nil]
    simp [seq, pre_nil]
  | 0, _ :: _, _, h => by simp at h
  | n + 1, c :: r, p, h => by
    have hr : r.length ≤ n := by simpa using h
    cases hsp : isSp c
    · have hst := step_app (p := p) (r := r) (m := m) hsp (x := 10) (by decide) (fun _ => .inl rfl)
      cases hs : stepL p (c :: r) with
      | none =>
        rw [hs] at hst
        rw [List.cons_append] at hst ⊢
        rw [toks_bad hst, toks_bad hs]
        rfl
      | some x =>
        obtain ⟨ts, k⟩ := x
        have hk := LS.stepL_pos hs
        rw [hs] at hst
        rw [toks_step hs, seq_pre]
        rw [List.cons_append] at hst ⊢
        rw [toks_step hst, ← List.cons_append, List.drop_append_of_le_length (by simp; omega), toks_join m n _ _ (by simp; omega)]
        congr 3
        simp
        omega
    · rw [List.cons_append, toks_sp hsp, toks_sp hsp, toks_join m n r _ hr]
      congr 2
      simp
      omega
/-- An error remains, whatever is written behind a space. -/
theorem toks_err (m : List UInt8) {x : UInt8} (hx : isSp x = true) : ∀ (n : Nat) (l : List UInt8) (p q : Nat), l.length ≤ n → toks p l = .error q → toks p (l ++ x :: m) = .error q
  | _, [], p, q, _, h => by rw [toks_nil] at h; cases h
  | 0, _ :: _, _, _, h, _ => by simp at h
  | n + 1, c :: r, p, q, h, he => by
    have hr : r.length ≤ n := by simpa using h
    cases hsp : isSp c
    · have hcom : [47, 47].isPrefixOf (c :: r) = true → x = 10 ∨ ((c :: r).takeWhile (· != 10)).length < (c :: r).length := by
        intro hp
        right
        rcases Nat.lt_or_ge ((c :: r).takeWhile (· != 10)).length (c :: r).length with h1 | h1
        · exact h1
        · exfalso
          have hsg : isSign c = true := by
            simp only [List.isPrefixOf] at hp
            rw [Bool.and_eq_true, beq_iff_eq] at hp
            rw [← hp.1]; decide
          have hs := step_sign (p := p) (r := r) hsg
          rw [if_pos hp] at hs
          rw [toks_step hs, pre_nil, List.drop_of_length_le h1, toks_nil] at he
          cases he
      have hst := step_app (p := p) (r := r) (m := m) hsp hx hcom
      cases hs : stepL p (c :: r) with
      | none =>
        rw [hs] at hst
        rw [toks_bad hs] at he
        rw [List.cons_append] at hst ⊢
        rw [toks_bad hst, he]
      | some y =>
        obtain ⟨ts, k⟩ := y
        have hk := LS.stepL_pos hs
        rw [hs] at hst
        rw [toks_step hs] at he
        cases hd : toks (p + k) ((c :: r).drop k) with
        | ok us => rw [hd] at he; cases he
        | error q' =>
          rw [hd] at he
          have hq : q' = q := by simpa [pre] using he
          subst hq
          rw [List.cons_append] at hst ⊢
          rw [toks_step hst, ← List.cons_append, List.drop_append_of_le_length (by simp; omega), toks_err m hx n _ _ _ (by simp; omega) hd]
          rfl
    · rw [toks_sp hsp] at he
      rw [List.cons_append, toks_sp hsp]
      exact toks_err m hx n r _ _ hr he
/-- A step sees no more than it reads (for a sign: nothing that would begin a comment). -/
theorem step_take {p : Nat} {c : UInt8} {r : List UInt8} {ts : List S35} {k : Nat} (h : stepL p (c :: r) = some (ts, k)) (d : Nat) : stepL p (c :: r.take (k - 1 + d)) = some (ts, k) := by
  have hk := LS.stepL_pos h
  have htk : c :: r.take (k - 1 + d) = (c :: r).take (k + d) := by rw [show k + d = (k - 1 + d) + 1 by omega, List.take_succ_cons]
  rcases kinds c with ⟨h1, _⟩ | ⟨_, h1, _⟩ | ⟨_, _, h1, _⟩ | ⟨_, _, _, h1⟩ | ⟨h1, h2, h3, h4⟩
  · rw [step_sp h1] at h ⊢
    obtain ⟨rfl, rfl⟩ := Prod.mk.inj (Option.some.inj h)
    rw [htk, tw_take]
  · rw [step_let h1] at h ⊢
    split at h
    · rename_i hn
      obtain ⟨rfl, rfl⟩ := Prod.mk.inj (Option.some.inj h)
      rw [htk, tw_take, if_pos hn]
    · cases h
  · rw [step_dig h1] at h ⊢
    cases hn : numOf ((c :: r).takeWhile isDig) with
    | none => rw [hn] at h; cases h
    | some v =>
      rw [hn] at h
      obtain ⟨rfl, rfl⟩ := Prod.mk.inj (Option.some.inj h)
      rw [htk, tw_take, hn]
  · rw [step_sign h1] at h ⊢
    by_cases hp : [47, 47].isPrefixOf (c :: r) = true
    · rw [if_pos hp] at h
      obtain ⟨rfl, rfl⟩ := Prod.mk.inj (Option.some.inj h)
      have hp2 : [47, 47].isPrefixOf ((c :: r).take (((c :: r).takeWhile (· != 10)).length + d)) = true := by
        cases r with
        | nil => simp [List.isPrefixOf] at hp
        | cons y r =>
          simp only [List.isPrefixOf, Bool.and_eq_true, beq_iff_eq, Bool.and_true] at hp
          obtain ⟨rfl, rfl⟩ := hp
          have hge2 : ∃ j, ((47 :: 47 :: r).takeWhile (· != (10 : UInt8))).length = j + 2 := by
            rw [List.takeWhile_cons, if_pos (by decide), List.takeWhile_cons, if_pos (by decide)]
            exact ⟨_, rfl⟩
          obtain ⟨j, hj⟩ := hge2
          rw [hj, show j + 2 + d = (j + d) + 1 + 1 by omega]
          simp [List.isPrefixOf]
      rw [htk, if_pos hp2, tw_take]
    · rw [if_neg hp] at h
      obtain ⟨rfl, rfl⟩ := Prod.mk.inj (Option.some.inj h)
      have hp2 : ¬ [47, 47].isPrefixOf (c :: r.take (1 - 1 + d)) = true := by
        intro e
        apply hp
        cases r with
        | nil => simp [List.isPrefixOf] at e
        | cons y r =>
          cases d with
          | zero => simp [List.isPrefixOf] at e
          | succ d => simpa [List.isPrefixOf] using e
      rw [if_neg hp2]
  · rw [step_other h1 h2 h3 h4] at h
    cases h
/-- What stands before the place of an error has tokens, and what stands from there on begins with it. -/
theorem toks_split : ∀ (n : Nat) (l : List UInt8) (p q : Nat), l.length ≤ n → toks p l = .error q → ∃ d us, q = p + d ∧ d < l.length ∧ toks p (l.take d) = .ok us ∧ toks q (l.drop d) = .error q
  | _, [], p, q, _, h => by rw [toks_nil] at h; cases h
  | 0, _ :: _, _, _, h, _ => by simp at h
  | n + 1, c :: r, p, q, h, he => by
    have hr : r.length ≤ n := by simpa using h
    cases hs : stepL p (c :: r) with
    | none =>
      have he2 := toks_bad hs
      rw [he2] at he
      have hq : p = q := by simpa using he
      subst hq
      exact ⟨0, [], rfl, by simp, rfl, he2⟩
    | some x =>
      obtain ⟨ts, k⟩ := x
      have hk := LS.stepL_pos hs
      rw [toks_step hs] at he
      cases hd : toks (p + k) ((c :: r).drop k) with
      | ok us => rw [hd] at he; cases he
      | error q' =>
        rw [hd] at he
        have hq : q' = q := by simpa [pre] using he
        subst hq
        obtain ⟨d, us, h1, h2, h3, h4⟩ := toks_split n _ _ _ (by simp; omega) hd
        rw [List.length_drop, List.length_cons] at h2
        refine ⟨k + d, ts ++ us, by omega, by rw [List.length_cons]; omega, ?_, by rw [← List.drop_drop]; exact h4⟩
        have hst := step_take hs d
        have htk : (c :: r).take (k + d) = c :: r.take (k - 1 + d) := by rw [show k + d = (k - 1 + d) + 1 by omega, List.take_succ_cons]
        rw [htk, toks_step hst]
        have hdr : (c :: r.take (k - 1 + d)).drop k = ((c :: r).drop k).take d := by rw [← htk, List.drop_take, Nat.add_sub_cancel_left]
        rw [hdr, h3]
        rfl
theorem shR_err {d q : Nat} {r : Res} (h : shR d r = .error (q + d)) : r = .error q := by
  cases r with
  | ok us => cases h
  | error q' =>
    have : q' + d = q + d := by simpa [shR] using h
    rw [show q' = q by omega]
theorem bs_app (a b : ByteArray) : bs (a ++ b) = bs a ++ bs b := by simp [bs]
end Go.Proofs.YtcckpmijdckocaaDoor.QJ
