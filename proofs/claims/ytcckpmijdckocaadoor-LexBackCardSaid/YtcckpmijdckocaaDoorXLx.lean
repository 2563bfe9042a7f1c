/- Proved here: plain words of the lexer (LX), and what class and valid return -/
import Derived.Test.YtcckpmijdckocaaDoorX0
import Derived.Test.YtcckpmijdckocaaDoorK
import Derived.Test.YtcckpmijdckocaaDoorX2
import Derived.Test.YtcckpmijdckocaaDoorXShelf
import Derived.Test.YtcckpmijdckocaaDoorXGlob
namespace Go.Proofs.YtcckpmijdckocaaDoor.X
open Go.RowKit Go.Proofs.YtcckpmijdckocaaDoorW.PrintWords Go.Proofs.YtcckpmijdckocaaDoorW.PrintLast Go.Proofs.YtcckpmijdckocaaDoorW.PrintMore
attribute [local go_sem] max2_int min2_int max_two min_two max_three min_three max_four min_four
set_option linter.unusedVariables false
set_option linter.unusedSimpArgs false
namespace LX
open Go.Proofs.YtcckpmijdckocaaDoor.K
/-- Letters, digits, white space, signs. -/
def isLet (c : UInt8) : Bool := (97 ≤ c && c ≤ 122) || (65 ≤ c && c ≤ 90)
def isDig (c : UInt8) : Bool := 48 ≤ c && c ≤ 57
def isSp (c : UInt8) : Bool := c == 32 || c == 9 || c == 10 || c == 13
def isSign (c : UInt8) : Bool := c == 123 || c == 125 || c == 40 || c == 41 || c == 59 || c == 44 || c == 61 || c == 58 || c == 46 || c == 60 || c == 62 || c == 33 || c == 43 || c == 45 || c == 42 || c == 47
def isPart (c : UInt8) : Bool := isLet c || isDig c || c == 95
/-- The class of a byte. -/
def cls (c : UInt8) : Int := if isLet c then 2 else if isDig c then 3 else if c == 95 then 5 else if isSp c then 1 else if isSign c then 4 else 0
def clsOk (n : Nat) : Bool := match lex_class.f 5 (n : Int) with | some v => v == cls (UInt8.ofNat n) | none => false
theorem cls_all : ∀ n : Nat, n < 256 → clsOk n = true := by decide +kernel
theorem cls_at (x : UInt8) : lex_class.f 5 (x.toNat : Int) = some (cls x) := by
  have h := cls_all x.toNat x.toNat_lt
  unfold clsOk at h
  cases hf : lex_class.f 5 (x.toNat : Int) with
  | none => rw [hf] at h; cases h
  | some v =>
    rw [hf] at h
    have h' : v = cls (UInt8.ofNat x.toNat) := by simpa using h
    rw [h', UInt8.ofNat_toNat]
theorem bt_get (s : ByteArray) (i : Nat) (h : i < s.size) : bt s (i : Int) = ((s[i]'h).toNat : Int) := by simp [bt, h]
theorem class_at (x : UInt8) (w : World) : Calls Tryd.prog 30 #[.int .u8 (x.toNat : Int)] w fun e w' => e = .returned (.int .i64 (cls x)) ∧ Below w.heap.size w w' := lex_class.calls 5 _ _ w (cls_at x)
/-- The bytes of a string, as a list. -/
abbrev bs (s : ByteArray) : List UInt8 := s.data.toList
theorem bs_len (s : ByteArray) : (bs s).length = s.size := data_length s
theorem bs_get (s : ByteArray) (i : Nat) (h : i < s.size) : (bs s)[i]'(by rw [bs_len]; exact h) = s[i]'h := by
  show s.data.toList[i] = s.data[i]
  simp
/-- A string out of bytes. -/
abbrev mk (l : List UInt8) : ByteArray := ⟨l.toArray⟩
theorem bs_mk (l : List UInt8) : bs (mk l) = l := by simp [bs, mk]
theorem mk_bs (s : ByteArray) : mk (bs s) = s := by simp [bs, mk]
theorem bs_inj {a b : ByteArray} (h : bs a = bs b) : a = b := by rw [← mk_bs a, ← mk_bs b, h]
theorem bs_extract (s : ByteArray) (a b : Nat) : bs (s.extract a b) = ((bs s).drop a).take (b - a) := by
  rw [bs, bs, ByteArray.data_extract, Array.toList_extract]
theorem mk_extract (s : ByteArray) (a n : Nat) : s.extract a (a + n) = mk (((bs s).drop a).take n) := by
  apply bs_inj
  rw [bs_extract, bs_mk, Nat.add_sub_cancel_left]
theorem tl (s : ByteArray) : s.toList = bs s := Lib.toList_data s
/-- Is it a name? -/
def nameL : List UInt8 → Bool
  | [] => false
  | c :: r => decide (r.length ≤ 31) && isLet c && (c :: r).all isPart
theorem part_cls (c : UInt8) : (cls c = 2 ∨ cls c = 3 ∨ cls c = 5) ↔ isPart c = true := by
  unfold cls isPart
  cases h1 : isLet c <;> cases h2 : isDig c <;> cases h3 : c == 95 <;> cases h4 : isSp c <;> cases h5 : isSign c <;> simp
theorem let_cls (c : UInt8) : cls c = 2 ↔ isLet c = true := by
  unfold cls
  cases h1 : isLet c <;> cases h2 : isDig c <;> cases h3 : c == 95 <;> cases h4 : isSp c <;> cases h5 : isSign c <;> simp
theorem sign_cls (c : UInt8) : cls c = 4 ↔ isSign c = true := by
  have h : ∀ n < 256, (cls (UInt8.ofNat n) == 4) = isSign (UInt8.ofNat n) := by decide +kernel
  have h' := h c.toNat c.toNat_lt
  rw [UInt8.ofNat_toNat] at h'
  rw [← h']
  simp
theorem dig_cls (c : UInt8) : cls c = 3 ↔ isDig c = true := by
  have h : ∀ n < 256, (cls (UInt8.ofNat n) == 3) = isDig (UInt8.ofNat n) := by decide +kernel
  have h' := h c.toNat c.toNat_lt
  rw [UInt8.ofNat_toNat] at h'
  rw [← h']
  simp
theorem sp_cls (c : UInt8) : cls c = 1 ↔ isSp c = true := by
  have h : ∀ n < 256, (cls (UInt8.ofNat n) == 1) = isSp (UInt8.ofNat n) := by decide +kernel
  have h' := h c.toNat c.toNat_lt
  rw [UInt8.ofNat_toNat] at h'
  rw [← h']
  simp
theorem name_l0 (a : ByteArray) (hs : a.size ≤ 32) : ∀ (d i k : Nat), a.size - i = d → i ≤ a.size → d + 6 < k → lex_Name.l0 k a (a.size : Int) (i : Int) = some (((bs a).drop i).all isPart) := by
  intro d
  induction d with
  | zero =>
    intro i k hd hi hk
    obtain ⟨k, rfl⟩ : ∃ m, k = m + 1 := ⟨k - 1, by omega⟩
    obtain rfl : i = a.size := by omega
    simp only [lex_Name.l0]
    rw [if_neg (by omega), List.drop_of_length_le (by rw [bs_len]; exact Nat.le_refl _)]
    rfl
  | succ d ih =>
    intro i k hd hi hk
    obtain ⟨k, rfl⟩ : ∃ m, k = m + 1 := ⟨k - 1, by omega⟩
    have hlt : i < a.size := by omega
    have hc : lex_class.f k (bt a (i : Int)) = some (cls a[i]) := by rw [bt_get a i hlt]; exact at_rounds (lex_class.mono _) (by omega) (cls_at _)
    have hn := ih (i + 1) k (by omega) (by omega) (by omega)
    have hw : wrap64 ((i : Int) + 1) = ((i + 1 : Nat) : Int) := w64s i (by omega)
    have hd2 : (bs a).drop i = a[i] :: (bs a).drop (i + 1) := by rw [drop_get (by rw [bs_len]; exact hlt), bs_get a i hlt]
    simp only [lex_Name.l0]
    rw [if_pos (by omega), if_pos (by omega), if_pos (by omega), hc]
    simp only [Option.bind_some, hw, hn, hd2, List.all_cons]
    have hp := part_cls a[i]
    by_cases h : isPart a[i] = true
    · rw [h, Bool.true_and]
      rcases hp.2 h with h1 | h1 | h1 <;> rw [h1] <;> simp
    · have hf : isPart a[i] = false := by simpa using h
      rw [hf, Bool.false_and]
      have h2 : ¬ cls a[i] = 2 := fun e => h (hp.1 (.inl e))
      have h3 : ¬ cls a[i] = 3 := fun e => h (hp.1 (.inr (.inl e)))
      have h5 : ¬ cls a[i] = 5 := fun e => h (hp.1 (.inr (.inr e)))
      simp [h2, h3, h5]
theorem name_at (a : ByteArray) : lex_Name.f 50 a = some (nameL (bs a)) := by
  unfold lex_Name.f
  rw [tl]
  cases hb : bs a with
  | nil => rw [if_pos rfl]; rfl
  | cons c r =>
    have hl : r.length + 1 = a.size := by rw [← bs_len, hb]; rfl
    rw [if_neg (by simp)]
    by_cases h32 : (a.size : Int) > 32
    · rw [if_pos h32]
      have : nameL (c :: r) = false := by simp only [nameL]; rw [decide_eq_false (show ¬ r.length ≤ 31 by omega)]; rfl
      rw [this]; rfl
    · rw [if_neg h32, if_pos (by omega)]
      have hlt : 0 < a.size := by omega
      have hg : a[0] = c := by
        have h0 := bs_get a 0 hlt
        simp only [hb, List.getElem_cons_zero] at h0
        exact h0.symm
      have hc : lex_class.f 50 (bt a 0) = some (cls c) := by rw [show (0 : Int) = ((0 : Nat) : Int) from rfl, bt_get a 0 hlt, hg]; exact at_rounds (lex_class.mono _) (by omega) (cls_at _)
      rw [hc, Option.bind_some]
      have hall := name_l0 a (by omega) a.size 0 49 (by omega) (by omega) (by omega)
      rw [List.drop_zero, hb] at hall
      have hlc := let_cls c
      show lex_Name.j0 (49 + 1) a (cls c != 2) = _
      simp only [lex_Name.j0]
      simp only [nameL]
      rw [decide_eq_true (by omega : r.length ≤ 31), Bool.true_and]
      cases hi : isLet c
      · have : ¬ cls c = 2 := fun e => by rw [hlc, hi] at e; cases e
        rw [if_pos (by simpa using this)]; rfl
      · have : cls c = 2 := hlc.2 hi
        rw [if_neg (by simp [this]), Bool.true_and]
        exact hall
/-- Is a token valid? -/
def validB (x : S35) : Bool :=
  if x.f0 = 1 then nameL (bs x.f1) && x.f2 == 0
  else if x.f0 = 2 then (bs x.f1).isEmpty && decide (0 ≤ x.f2) && decide (x.f2 ≤ 1099511627776)
  else if x.f0 = 3 then (match bs x.f1 with | [c] => isSign c && x.f2 == 0 | _ => false)
  else false
theorem valid_f (x : S35) : lex_valid.f 50 x.f0 x.f1 x.f2 x.f3 = some (validB x) := by
  unfold lex_valid.f validB
  by_cases h1 : x.f0 = 1
  · rw [if_pos h1, if_pos h1, name_at, Option.bind_some]
    cases nameL (bs x.f1) <;> simp
  · rw [if_neg h1, if_neg h1]
    by_cases h2 : x.f0 = 2
    · rw [if_pos h2, if_pos h2, tl]
      cases hb : bs x.f1 with
      | nil => by_cases h : (0 : Int) ≤ x.f2 <;> simp [h]
      | cons c r => simp
    · rw [if_neg h2, if_neg h2]
      by_cases h3 : x.f0 = 3
      · rw [if_pos h3, if_pos h3]
        have hl := bs_len x.f1
        cases hb : bs x.f1 with
        | nil => rw [hb] at hl; rw [if_neg (by simp at hl; omega)]
        | cons c r =>
          rw [hb, List.length_cons] at hl
          cases r with
          | nil =>
            have hlt : 0 < x.f1.size := by simp at hl; omega
            have hg : x.f1[0] = c := by
              have h0 := bs_get x.f1 0 hlt
              simp only [hb, List.getElem_cons_zero] at h0
              exact h0.symm
            have hc : lex_class.f 50 (bt x.f1 0) = some (cls c) := by rw [show (0 : Int) = ((0 : Nat) : Int) from rfl, bt_get x.f1 0 hlt, hg]; exact at_rounds (lex_class.mono _) (by omega) (cls_at _)
            rw [if_pos (by simp at hl; omega), if_pos (by omega), hc, Option.bind_some]
            have := sign_cls c
            cases hi : isSign c
            · have h4 : ¬ cls c = 4 := fun e => by rw [this, hi] at e; cases e
              simp [h4, hi]
            · have h4 : cls c = 4 := this.2 hi
              simp [h4, hi]
          | cons d r => rw [if_neg (by simp at hl; omega)]
      · rw [if_neg h3, if_neg h3]
theorem valid_at (x : S35) (w : World) : Calls Tryd.prog 36 #[.agg #[.int .i64 x.f0, .string x.f1, .int .i64 x.f2, .int .i64 x.f3]] w fun e w' => e = .returned (.bool (validB x)) ∧ Below w.heap.size w w' := lex_valid.calls 50 _ _ _ _ _ w (valid_f x)
/-- The number that digits spell, where they are a token. -/
def numOf (t : List UInt8) : Option Int :=
  match Lib.atoiAll t with
  | .ok v => if Lib.itoa v = t ∧ 0 ≤ v ∧ v ≤ 1099511627776 then some v else none
  | _ => none
/-- What is done at place p, where l is what follows: the tokens that come to the list, and how many bytes are read; 'none': an error here. -/
def stepL (p : Nat) (l : List UInt8) : Option (List S35 × Nat) :=
  match l with
  | [] => none
  | c :: _ =>
    if cls c = 1 then some ([], (l.takeWhile fun c => cls c == 1).length)
    else if cls c = 2 then (if nameL (l.takeWhile isPart) then some ([⟨1, mk (l.takeWhile isPart), 0, p⟩], (l.takeWhile isPart).length) else none)
    else if cls c = 3 then (match numOf (l.takeWhile isDig) with | some v => some ([⟨2, ⟨#[]⟩, v, p⟩], (l.takeWhile isDig).length) | none => none)
    else if cls c = 4 then (if [47, 47].isPrefixOf l then some ([], (l.takeWhile (· != 10)).length) else some ([⟨3, mk [c], 0, p⟩], 1))
    else none
def lexR : Nat → Nat → List UInt8 → List S35 → List S35 × Int × Int
  | _, _, [], acc => (acc, 0, 0)
  | 0, p, _ :: _, _ => ([], (p : Int), 30)
  | k + 1, p, c :: r, acc => match stepL p (c :: r) with
    | none => ([], (p : Int), 30)
    | some (ts, n) => lexR k (p + n) ((c :: r).drop n) (acc ++ ts)
end LX
def lex_Lex.f (a0 : ByteArray) : Option ((List (S35)) × Int × Int) := if a0.size ≤ 65536 then some (LX.lexR a0.size 0 (LX.bs a0) []) else some ([], 0, 2)
end Go.Proofs.YtcckpmijdckocaaDoor.X
