/- Proved here: plain facts on the text of tokens: what the program's Text and the reference's answer (QX.textR), and which tokens are few. No program in sight. -/
import Derived.KernelRfl
import Derived.Test.YtcckpmijdckocaaDoorQBase
import Derived.Test.YtcckpmijdckocaaDoorX10
import Derived.Test.YtcckpmijdckocaaDoorX7
import Derived.Test.YtcckpmijdckocaaDoorX8
import Derived.Test.YtcckpmijdckocaaDoorX5
import Derived.Test.YtcckpmijdckocaaDoorX6
namespace Go.Proofs.YtcckpmijdckocaaDoor.QX
open Go.RowKit Go.Proofs.YtcckpmijdckocaaDoor.X Go.Proofs.YtcckpmijdckocaaDoor.X.LX Go.Proofs.YtcckpmijdckocaaDoor.K Go.Proofs.YtcckpmijdckocaaDoorW.PrintWords Go.Proofs.YtcckpmijdckocaaDoor.QT Go.Proofs.YtcckpmijdckocaaDoor.QN Go.Proofs.YtcckpmijdckocaaDoor.QR Go.Proofs.YtcckpmijdckocaaDoor.QE
set_option linter.unusedVariables false
set_option linter.unusedSimpArgs false
/-- The text of a token. -/
def word (x : S35) : List UInt8 := if x.f0 = 2 then Lib.itoa x.f2 else bs x.f1
def textL (l : List S35) : List UInt8 := Lib.join (l.map word) [32]
def textR (l : List S35) : ByteArray × Int := if l.all validB = true then (mk (textL l), 0) else ((⟨#[]⟩ : ByteArray), 30)
theorem join_snoc (xs : List (List UInt8)) (y : List UInt8) : Lib.join (xs ++ [y]) [32] = if xs = [] then y else Lib.join xs [32] ++ [32] ++ y := by
  cases xs with
  | nil => rw [if_pos rfl, List.nil_append, Lib.join_one]
  | cons x r =>
    rw [if_neg (by simp), List.cons_append, Lib.join_cons, Lib.join_cons]
    simp [Lib.joinTail]
theorem textL_snoc (l : List S35) (x : S35) : textL (l ++ [x]) = if l = [] then word x else textL l ++ [32] ++ word x := by
  unfold textL
  rw [List.map_append, List.map_singleton, join_snoc]
  by_cases h : l = []
  · subst h; rfl
  · rw [if_neg h, if_neg (by simpa using h)]
theorem valid_num {x : S35} (h : validB x = true) (h2 : x.f0 = 2) : 0 ≤ x.f2 ∧ x.f2 ≤ 1099511627776 ∧ bs x.f1 = [] := by
  unfold validB at h
  rw [if_neg (by rw [h2]; decide), if_pos h2] at h
  simp only [Bool.and_eq_true, decide_eq_true_eq, List.isEmpty_iff] at h
  exact ⟨h.1.2, h.2, h.1.1⟩
theorem itoa_f {n : Int} (h : 0 ≤ n ∧ n ≤ 1099511627776) : strconv_Itoa.f n = some (mk (Lib.itoa n)) := by
  unfold strconv_Itoa.f
  rw [if_pos ⟨by omega, by omega⟩]
theorem valid_ev (x : S35) : Ev (fun k => lex_valid.f k x.f0 x.f1 x.f2 x.f3) (validB x) := Ev.of (lex_valid.mono _ _ _ _) (valid_f x)
theorem name_ev (a : ByteArray) : Ev (fun k => lex_Name.f k a) (nameL (bs a)) := Ev.of (lex_Name.mono _) (name_at a)
theorem same_f (a b : List S35) (h : a.length < 4611686018427387904) : lex_Same.f a b = some (LS.eqL a b) := if_pos h
def sumS (l : List S35) : Nat := (l.map fun x => x.f1.size).sum
theorem itoa_len {n : Int} (h0 : 0 ≤ n) (h1 : n ≤ 1099511627776) : (Lib.itoa n).length ≤ 13 := by
  obtain ⟨m, rfl⟩ : ∃ m : Nat, n = (m : Int) := ⟨n.toNat, (Int.toNat_of_nonneg h0).symm⟩
  have hi : Lib.itoa (m : Int) = Lib.decDigits m := by
    unfold Lib.itoa
    rw [if_neg (by omega)]
    simp
  rw [hi]
  have hd : ∀ (k m : Nat), m < 10 ^ (k + 1) → (Lib.decDigits m).length ≤ k + 1 := by
    intro k
    induction k with
    | zero => intro m hm; rw [dig_small (by omega)]; simp
    | succ k ih =>
      intro m hm
      by_cases h : m < 10
      · rw [dig_small h]; simp
      · rw [dig_step h, List.length_append, List.length_singleton]
        have := ih (m / 10) (by rw [Nat.pow_succ] at hm; omega)
        omega
  exact hd 12 m (by omega)
theorem word_len {x : S35} (h : validB x = true) : (word x).length ≤ x.f1.size + 13 := by
  unfold word
  split
  · rename_i h2
    have hb := valid_num h h2
    have := itoa_len hb.1 hb.2.1
    omega
  · rw [bs_len]; omega
theorem sumS_app (a b : List S35) : sumS (a ++ b) = sumS a + sumS b := by simp [sumS]
theorem textL_len : ∀ (n : Nat) (l : List S35), l.length = n → (∀ x ∈ l, validB x = true) → (textL l).length ≤ sumS l + 14 * l.length := by
  intro n
  induction n with
  | zero =>
    intro l hl _
    rw [List.length_eq_zero_iff.1 hl]
    simp [textL, Lib.join, List.intercalate]
  | succ n ih =>
    intro l hl h
    rcases List.eq_nil_or_concat l with rfl | ⟨l', x, rfl⟩
    · cases hl
    rw [List.concat_eq_append] at hl h ⊢
    rw [List.length_append, List.length_singleton] at hl
    have h1 := ih l' (by omega) (fun y hy => h y (by simp [hy]))
    have h2 := word_len (h x (by simp))
    have h3 : sumS (l' ++ [x]) = sumS l' + x.f1.size := by simp [sumS]
    rw [textL_snoc, h3, List.length_append, List.length_singleton]
    split
    · omega
    · simp only [List.length_append, List.length_singleton]; omega
theorem sumS_take (l : List S35) (i : Nat) : sumS (l.take i) ≤ sumS l := by
  have h := sumS_app (l.take i) (l.drop i)
  rw [List.take_append_drop] at h
  omega
theorem pre_len (l : List S35) (hB : sumS l + 14 * l.length ≤ 140737488355328) (i : Nat) (hv : (l.take i).all validB = true) : (textL (l.take i)).length ≤ 140737488355328 := by
  have h1 := textL_len _ (l.take i) rfl (fun x hx => List.all_eq_true.1 hv x hx)
  have h2 := sumS_take l i
  have h3 : (l.take i).length ≤ l.length := by rw [List.length_take]; omega
  omega
/-! the program's Text -/
def wsAt (l : List S35) (i : Nat) : List ByteArray := (l.take i).map (fun x => mk (word x)) ++ List.replicate (l.length - i) (⟨#[]⟩ : ByteArray)
theorem wsAt_len (l : List S35) (i : Nat) (h : i ≤ l.length) : (wsAt l i).length = l.length := by simp [wsAt]; omega
theorem wsAt_set (l : List S35) (i : Nat) (h : i < l.length) : (wsAt l i).set i (mk (word l[i])) = wsAt l (i + 1) := by
  unfold wsAt
  have hl : ((l.take i).map (fun x => mk (word x))).length = i := by simp; omega
  rw [List.set_append_right _ _ (by omega), hl, Nat.sub_self, show l.length - i = (l.length - (i + 1)) + 1 by omega, List.replicate_succ, List.set_cons_zero, take_get h, List.map_append, List.append_assoc]
  rfl
theorem join_f (l : List S35) (h1 : l.length ≤ 65536) (h2 : (textL l).length ≤ 140737488355328) : strings_Join.f (wsAt l l.length) (⟨#[32]⟩ : ByteArray) = some (mk (textL l)) := by
  have hm : (wsAt l l.length).map (·.data.toList) = l.map word := by
    unfold wsAt
    rw [List.take_of_length_le (Nat.le_refl _), Nat.sub_self, List.replicate_zero, List.append_nil, List.map_map]
    exact List.map_congr_left (fun x _ => bs_mk _)
  unfold strings_Join.f
  rw [hm, wsAt_len l _ (Nat.le_refl _)]
  exact if_pos ⟨by omega, h2⟩
theorem text_l0 (l : List S35) (h1 : l.length ≤ 65536) (hB : sumS l + 14 * l.length ≤ 140737488355328) : ∀ (d i : Nat), l.length - i = d → i ≤ l.length → (l.take i).all validB = true →
    Ev (fun k => lex_Text.l0 k (wsAt l i) l (l.length : Int) (i : Int)) (if (l.drop i).all validB = true then (mk (textL l), 0) else ((⟨#[]⟩ : ByteArray), 30)) := by
  intro d
  induction d with
  | zero =>
    intro i hd hi hva
    obtain rfl : i = l.length := by omega
    have h2 := pre_len l hB _ hva
    rw [List.take_of_length_le (Nat.le_refl _)] at h2
    rw [List.drop_of_length_le (Nat.le_refl _), List.all_nil, if_pos rfl]
    refine Ev.eq fun k => ?_
    simp only [lex_Text.l0]
    rw [if_neg (by omega), join_f l h1 h2]
    rfl
  | succ d ih =>
    intro i hd hi hva
    have hlt : i < l.length := by omega
    have hw : wrap64 ((i : Int) + 1) = ((i + 1 : Nat) : Int) := w64s i (by omega)
    have c1 : (i : Int) < (l.length : Int) := by omega
    have c2 : 0 ≤ (i : Int) := by omega
    have c3 : (i : Int) < ((wsAt l i).length : Int) := by rw [wsAt_len l i hi]; omega
    obtain ⟨x, hx⟩ : ∃ x, l[i] = x := ⟨_, rfl⟩
    have hn0 := ih (i + 1) (by omega) (by omega)
    rw [take_get hlt, hx, List.all_append, hva, Bool.true_and, List.all_cons, List.all_nil, Bool.and_true] at hn0
    have e1 := rd35 hlt
    rw [hx] at e1
    have hset := wsAt_set l i hlt
    rw [hx] at hset
    rw [drop_get hlt, hx, List.all_cons]
    have hv := valid_ev x
    suffices h : Ev (fun k => (lex_valid.f k x.f0 x.f1 x.f2 x.f3).bind fun t => if t = true then lex_Text.l0 k (wsAt l (i + 1)) l (l.length : Int) ((i + 1 : Nat) : Int) else some ((⟨#[]⟩ : ByteArray), 30)) (if (validB x && (l.drop (i + 1)).all validB) = true then (mk (textL l), 0) else ((⟨#[]⟩ : ByteArray), 30)) by
      by_cases hvx : validB x = true
      · refine Ev.step (fun k => ?_) h
        simp only [lex_Text.l0]
        rw [if_pos c1, if_pos c2, if_pos c1, e1]
        by_cases h20 : x.f0 = 2
        · have hwd : word x = Lib.itoa x.f2 := if_pos h20
          rw [hwd] at hset
          have hb := valid_num hvx h20
          simp only [if_pos h20, itoa_f ⟨hb.1, hb.2.1⟩, Option.bind_some, if_pos c3, Int.toNat_natCast, hset, hw]
        · have hwd : word x = bs x.f1 := if_neg h20
          rw [hwd, mk_bs] at hset
          simp only [if_neg h20, if_pos c3, Int.toNat_natCast, hset, hw]
      · rw [if_neg (by simp [hvx])] at h ⊢
        rw [show validB x = false by simpa using hvx] at hv
        obtain ⟨K, hK⟩ := hv
        refine ⟨K + 1, fun k hk => ?_⟩
        obtain ⟨k, rfl⟩ : ∃ m, k = m + 1 := ⟨k - 1, by omega⟩
        have hk' : lex_valid.f k x.f0 x.f1 x.f2 x.f3 = some false := hK k (by omega)
        simp only [lex_Text.l0]
        rw [if_pos c1, if_pos c2, if_pos c1, e1, hk']
        rfl
    cases hvx : validB x
    · rw [hvx] at hv
      rw [Bool.false_and, if_neg (by decide)]
      exact Ev.bind (f := fun k (t : Bool) => if t = true then lex_Text.l0 k (wsAt l (i + 1)) l (l.length : Int) ((i + 1 : Nat) : Int) else some ((⟨#[]⟩ : ByteArray), 30)) hv (Ev.all fun k => rfl)
    · rw [hvx] at hv
      rw [Bool.true_and]
      exact Ev.bind (f := fun k (t : Bool) => if t = true then lex_Text.l0 k (wsAt l (i + 1)) l (l.length : Int) ((i + 1 : Nat) : Int) else some ((⟨#[]⟩ : ByteArray), 30)) hv (by simp only [if_true]; exact hn0 hvx)
theorem text_ev (l : List S35) (h1 : l.length ≤ 65536) (hB : sumS l + 14 * l.length ≤ 140737488355328) : Ev (fun k => lex_Text.f k l) (textR l) := by
  have h := text_l0 l h1 hB l.length 0 (by omega) (by omega) rfl
  rw [List.drop_zero] at h
  have hw : wsAt l 0 = List.replicate l.length (⟨#[]⟩ : ByteArray) := by simp [wsAt]
  rw [hw] at h
  unfold lex_Text.f
  simp only [if_pos (show 0 ≤ (l.length : Int) by omega), Int.toNat_natCast, if_pos (show l.length ≤ 17592186044416 by omega)]
  exact h
/-! the reference's Text -/
theorem dec_digit {n : Nat} (h : n < 10) : strOfNums [(wrap64 (48 + (n : Int))) % 256] = mk [UInt8.ofNat (48 + n)] := by
  have h10 : ∀ m : Nat, m < 10 → strOfNums [(wrap64 (48 + (m : Int))) % 256] = mk [UInt8.ofNat (48 + m)] := by decide +kernel
  exact h10 n h
theorem tdiv10 (n : Nat) : Int.tdiv (n : Int) 10 = ((n / 10 : Nat) : Int) := rfl
theorem tmod10 (n : Nat) : Int.tmod (n : Int) 10 = ((n % 10 : Nat) : Int) := rfl
theorem wrapn {n : Nat} (h : n ≤ 1099511627776) : wrap64 (n : Int) = (n : Int) := w64 (by omega) (by omega)
def dg (n : Nat) : UInt8 := UInt8.ofNat (48 + n % 10)
theorem mk_app (a b : List UInt8) : mk a ++ mk b = mk (a ++ b) := by
  apply bs_inj
  simp [bs, mk]
theorem dec_l0 : ∀ (n : Nat) (t : List UInt8), n ≤ 1099511627776 → t.length + n ≤ 2199023255552 → Ev (fun k => fastiref03_Decimal.l0 k (n : Int) (mk (dg n :: t))) (mk (Lib.decDigits n ++ t)) := by
  intro n
  induction n using Nat.strongRecOn with
  | _ n ih =>
    intro t hn ht
    by_cases h : n < 10
    · rw [dig_small h]
      refine Ev.eq fun k => ?_
      simp only [fastiref03_Decimal.l0]
      rw [if_neg (by omega)]
      have : dg n = UInt8.ofNat (48 + n) := by unfold dg; rw [Nat.mod_eq_of_lt h]
      rw [this]
      rfl
    · have hi := ih (n / 10) (by omega) (dg n :: t) (by omega) (by simp; omega)
      rw [dig_step h]
      have e1 : strOfNums [(wrap64 (48 + ((n / 10 % 10 : Nat) : Int))) % 256] = mk [dg (n / 10)] := by
        rw [dec_digit (Nat.mod_lt _ (by decide))]
        rfl
      have e2 : (mk [dg (n / 10)]).size + (mk (dg n :: t)).size ≤ 9223372036854775807 := by
        rw [size_mk, size_mk]
        simp
        omega
      have e3 : mk [dg (n / 10)] ++ mk (dg n :: t) = mk (dg (n / 10) :: dg n :: t) := mk_app _ _
      have e4 : Lib.decDigits (n / 10) ++ [UInt8.ofNat (48 + n % 10)] ++ t = Lib.decDigits (n / 10) ++ dg n :: t := by simp [dg]
      rw [e4]
      refine Ev.step (fun k => ?_) hi
      simp only [fastiref03_Decimal.l0]
      rw [if_pos (show (n : Int) ≥ 10 by omega), tdiv10, wrapn (show n / 10 ≤ 1099511627776 by omega), tmod10]
      simp only [Option.bind_some, e1]
      rw [if_pos e2, e3]
theorem dec_ev {n : Int} (h0 : 0 ≤ n) (h1 : n ≤ 1099511627776) : Ev (fun k => fastiref03_Decimal.f k n) (mk (Lib.itoa n)) := by
  obtain ⟨m, rfl⟩ : ∃ m : Nat, n = (m : Int) := ⟨n.toNat, (Int.toNat_of_nonneg h0).symm⟩
  have h := dec_l0 m [] (by omega) (by simp; omega)
  have e1 : strOfNums [(wrap64 (48 + ((m % 10 : Nat) : Int))) % 256] = mk [dg m] := by
    rw [dec_digit (Nat.mod_lt _ (by decide))]
    rfl
  have hi : Lib.itoa (m : Int) = Lib.decDigits m := by
    unfold Lib.itoa
    rw [if_neg (by omega)]
    simp
  rw [List.append_nil] at h
  unfold fastiref03_Decimal.f
  rw [tmod10, e1, hi]
  exact h
theorem word_ev (x : S35) (h : validB x = true) (h2 : x.f0 = 2) : Ev (fun k => fastiref03_Decimal.f k x.f2) (mk (word x)) := by
  have hb := valid_num h h2
  unfold word
  rw [if_pos h2]
  exact dec_ev hb.1 hb.2.1
theorem word_else (x : S35) (h2 : ¬ x.f0 = 2) : x.f1 = mk (word x) := by
  unfold word
  rw [if_neg h2, mk_bs]
theorem rtext_l0 (l : List S35) (h1 : l.length ≤ 65536) (hB : sumS l + 14 * l.length ≤ 140737488355328) : ∀ (d i : Nat), l.length - i = d → i ≤ l.length → (l.take i).all validB = true →
    Ev (fun k => fastiref03_Text.l0 k l (mk (textL (l.take i))) (i : Int)) (if (l.drop i).all validB = true then (mk (textL l), 0) else ((⟨#[]⟩ : ByteArray), 30)) := by
  intro d
  induction d with
  | zero =>
    intro i hd hi hva
    obtain rfl : i = l.length := by omega
    rw [List.drop_of_length_le (Nat.le_refl _), List.take_of_length_le (Nat.le_refl _), List.all_nil, if_pos rfl]
    refine Ev.eq fun k => ?_
    simp only [fastiref03_Text.l0]
    rw [if_neg (by omega)]
  | succ d ih =>
    intro i hd hi hva
    have hlt : i < l.length := by omega
    have hw : wrap64 ((i : Int) + 1) = ((i + 1 : Nat) : Int) := w64s i (by omega)
    have c1 : (i : Int) < (l.length : Int) := by omega
    have c2 : 0 ≤ (i : Int) := by omega
    obtain ⟨x, hx⟩ : ∃ x, l[i] = x := ⟨_, rfl⟩
    have hn0 := ih (i + 1) (by omega) (by omega)
    have hva1 : (l.take (i + 1)).all validB = validB x := by rw [take_get hlt, hx, List.all_append, hva, Bool.true_and, List.all_cons, List.all_nil, Bool.and_true]
    rw [hva1] at hn0
    have e1 := rd35 hlt
    rw [hx] at e1
    have hsn : textL (l.take (i + 1)) = if l.take i = [] then word x else textL (l.take i) ++ [32] ++ word x := by rw [take_get hlt, hx, textL_snoc]
    rw [drop_get hlt, hx, List.all_cons]
    have hv := valid_ref x
    cases hvx : validB x
    · rw [hvx] at hv
      rw [Bool.false_and, if_neg (by decide)]
      obtain ⟨K, hK⟩ := hv
      refine ⟨K + 1, fun k hk => ?_⟩
      obtain ⟨k, rfl⟩ : ∃ m, k = m + 1 := ⟨k - 1, by omega⟩
      have hk' : fastiref03_Valid.f k x.f0 x.f1 x.f2 x.f3 = some false := hK k (by omega)
      simp only [fastiref03_Text.l0]
      rw [if_pos c1, if_pos c2, e1, hk']
      rfl
    · rw [hvx] at hv hva1
      have hn := hn0 hvx
      have hlen := pre_len l hB (i + 1) hva1
      rw [Bool.true_and]
      by_cases hi0 : i = 0
      · subst hi0
        rw [List.take_zero, if_pos rfl] at hsn
        have e0 : textL (l.take 0) = [] := rfl
        rw [hsn] at hn hlen
        have c4 : ¬ ((0 : Nat) : Int) > 0 := by decide
        have hsz : (mk ([] : List UInt8)).size + (mk (word x)).size ≤ 9223372036854775807 := by rw [size_mk, size_mk]; simp; omega
        have hap : mk ([] : List UInt8) ++ mk (word x) = mk (word x) := mk_app _ _
        rw [e0]
        by_cases h20 : x.f0 = 2
        · refine Ev.step (f := fun k => (fastiref03_Valid.f k x.f0 x.f1 x.f2 x.f3).bind fun t => if t = true then ((fastiref03_Decimal.f k x.f2).bind fun u => if (mk ([] : List UInt8)).size + u.size ≤ 9223372036854775807 then fastiref03_Text.l0 k l (mk ([] : List UInt8) ++ u) ((0 + 1 : Nat) : Int) else none) else some ((⟨#[]⟩ : ByteArray), 30)) (fun k => ?_) ?_
          · simp only [fastiref03_Text.l0]
            rw [if_pos c1, if_pos c2, e1]
            simp only [if_neg c4, if_pos h20, hw]
          · refine Ev.bind hv ?_
            simp only [if_true]
            refine Ev.bind (word_ev x hvx h20) ?_
            simp only [if_pos hsz, hap]
            exact hn
        · refine Ev.step (f := fun k => (fastiref03_Valid.f k x.f0 x.f1 x.f2 x.f3).bind fun t => if t = true then (if (mk ([] : List UInt8)).size + x.f1.size ≤ 9223372036854775807 then fastiref03_Text.l0 k l (mk ([] : List UInt8) ++ x.f1) ((0 + 1 : Nat) : Int) else none) else some ((⟨#[]⟩ : ByteArray), 30)) (fun k => ?_) ?_
          · simp only [fastiref03_Text.l0]
            rw [if_pos c1, if_pos c2, e1]
            simp only [if_neg c4, if_neg h20, hw]
          · refine Ev.bind hv ?_
            have e5 := word_else x h20
            rw [e5]
            simp only [if_true, if_pos hsz, hap]
            exact hn
      · have hne : ¬ l.take i = [] := fun e => by
          have := congrArg List.length e
          rw [List.length_take, List.length_nil] at this
          omega
        rw [if_neg hne] at hsn
        rw [hsn] at hn hlen
        have c4 : (i : Int) > 0 := by omega
        obtain ⟨s, hs⟩ : ∃ s, textL (l.take i) = s := ⟨_, rfl⟩
        rw [hs] at hn hlen ⊢
        simp only [List.length_append, List.length_singleton] at hlen
        have hs1 : (mk s).size + 1 ≤ 9223372036854775807 := by rw [size_mk]; omega
        have ha1 : mk s ++ (⟨#[32]⟩ : ByteArray) = mk (s ++ [32]) := mk_app _ _
        have hsz : (mk (s ++ [32])).size + (mk (word x)).size ≤ 9223372036854775807 := by rw [size_mk, size_mk]; simp; omega
        have hap : mk (s ++ [32]) ++ mk (word x) = mk (s ++ [32] ++ word x) := mk_app _ _
        by_cases h20 : x.f0 = 2
        · refine Ev.step (f := fun k => (fastiref03_Valid.f k x.f0 x.f1 x.f2 x.f3).bind fun t => if t = true then ((fastiref03_Decimal.f k x.f2).bind fun u => if (mk (s ++ [32])).size + u.size ≤ 9223372036854775807 then fastiref03_Text.l0 k l (mk (s ++ [32]) ++ u) ((i + 1 : Nat) : Int) else none) else some ((⟨#[]⟩ : ByteArray), 30)) (fun k => ?_) ?_
          · simp only [fastiref03_Text.l0]
            rw [if_pos c1, if_pos c2, e1]
            simp only [if_pos c4, if_pos h20, hw, if_pos hs1, ha1]
          · refine Ev.bind hv ?_
            simp only [if_true]
            refine Ev.bind (word_ev x hvx h20) ?_
            simp only [if_pos hsz, hap]
            exact hn
        · refine Ev.step (f := fun k => (fastiref03_Valid.f k x.f0 x.f1 x.f2 x.f3).bind fun t => if t = true then (if (mk (s ++ [32])).size + x.f1.size ≤ 9223372036854775807 then fastiref03_Text.l0 k l (mk (s ++ [32]) ++ x.f1) ((i + 1 : Nat) : Int) else none) else some ((⟨#[]⟩ : ByteArray), 30)) (fun k => ?_) ?_
          · simp only [fastiref03_Text.l0]
            rw [if_pos c1, if_pos c2, e1]
            simp only [if_pos c4, if_neg h20, hw, if_pos hs1, ha1]
          · refine Ev.bind hv ?_
            have e5 := word_else x h20
            rw [e5]
            simp only [if_true, if_pos hsz, hap]
            exact hn
theorem rtext_ev (l : List S35) (h1 : l.length ≤ 65536) (hB : sumS l + 14 * l.length ≤ 140737488355328) : Ev (fun k => fastiref03_Text.f k l) (textR l) := by
  have h := rtext_l0 l h1 hB l.length 0 (by omega) (by omega) rfl
  rw [List.drop_zero] at h
  exact h
/-! few tokens -/
theorem few_l0 (l : List S35) (hl : l.length ≤ 200) (hz : ∀ x ∈ l, x.f1.size ≤ 140737488351232) : ∀ (d i : Nat), l.length - i = d → i ≤ l.length →
    Ev (fun k => fastiref03_Few.l0 k l ((sumS (l.take i) : Nat) : Int) (i : Int)) (decide (sumS l ≤ 2000)) := by
  have hb : ∀ i, i ≤ l.length → sumS (l.take i) ≤ i * 140737488351232 := by
    intro i
    induction i with
    | zero => intro _; simp [sumS]
    | succ i ih =>
      intro hi
      have h1 := ih (by omega)
      have h2 := hz l[i] (List.getElem_mem _)
      rw [take_get (show i < l.length by omega)]
      simp only [sumS, List.map_append, List.sum_append, List.map_singleton, List.sum_singleton] at h1 ⊢
      omega
  intro d
  induction d with
  | zero =>
    intro i hd hi
    obtain rfl : i = l.length := by omega
    refine Ev.eq fun k => ?_
    simp only [fastiref03_Few.l0]
    rw [if_neg (by omega), if_pos (by omega), List.take_of_length_le (Nat.le_refl _)]
    congr 1
    rw [decide_eq_decide]
    omega
  | succ d ih =>
    intro i hd hi
    have hlt : i < l.length := by omega
    have hw : wrap64 ((i : Int) + 1) = ((i + 1 : Nat) : Int) := w64s i (by omega)
    have hn := ih (i + 1) (by omega) (by omega)
    have hs : sumS (l.take (i + 1)) = sumS (l.take i) + l[i].f1.size := by rw [take_get hlt, sumS_app]; simp [sumS]
    have hbi := hb (i + 1) (by omega)
    rw [hs] at hn hbi
    have hw2 : wrap64 (((sumS (l.take i) : Nat) : Int) + (l[i].f1.size : Int)) = ((sumS (l.take i) + l[i].f1.size : Nat) : Int) := by
      rw [w64 (by omega) (by omega)]
      omega
    refine Ev.step (fun k => ?_) hn
    simp only [fastiref03_Few.l0]
    rw [if_pos (by omega), if_pos (by omega), rd35 hlt, hw2, hw]
theorem few_many (l : List S35) (hl : 200 < l.length) (hs : l.length < 4611686018427387904) : ∀ (d i : Nat) (v : Int), l.length - i = d → i ≤ l.length → Ev (fun k => fastiref03_Few.l0 k l v (i : Int)) false := by
  intro d
  induction d with
  | zero =>
    intro i v hd hi
    refine Ev.eq fun k => ?_
    simp only [fastiref03_Few.l0]
    rw [if_neg (by omega), if_neg (by omega)]
  | succ d ih =>
    intro i v hd hi
    have hw : wrap64 ((i : Int) + 1) = ((i + 1 : Nat) : Int) := w64s i (by omega)
    refine Ev.step (fun k => ?_) (ih (i + 1) (wrap64 (v + (((rd_T35 l (i : Int)).f1).size : Int))) (by omega) (by omega))
    simp only [fastiref03_Few.l0]
    rw [if_pos (by omega), if_pos (by omega), hw]
def fewB (l : List S35) : Bool := decide (l.length ≤ 200) && decide (sumS l ≤ 2000)
theorem few_ev (l : List S35) (hs : l.length < 4611686018427387904) (hz : ∀ x ∈ l, x.f1.size ≤ 140737488351232) : Ev (fun k => fastiref03_Few.f k l) (fewB l) := by
  unfold fewB
  by_cases h : l.length ≤ 200
  · rw [decide_eq_true h, Bool.true_and]
    exact few_l0 l h hz l.length 0 (by omega) (by omega)
  · rw [decide_eq_false h, Bool.false_and]
    exact few_many l (by omega) hs l.length 0 0 (by omega) (by omega)
theorem few_of {l : List S35} (h : fewB l = true) : l.length ≤ 200 ∧ sumS l ≤ 2000 := by
  unfold fewB at h
  rw [Bool.and_eq_true, decide_eq_true_eq, decide_eq_true_eq] at h
  exact h
theorem tw_all (q : UInt8 → Bool) : ∀ l : List UInt8, (∀ x ∈ l, q x = true) → l.takeWhile q = l
  | [], _ => rfl
  | c :: l, h => by rw [List.takeWhile_cons, if_pos (h c (by simp)), tw_all q l (fun x hx => h x (by simp [hx]))]
/-! what Lex returns is valid, and no longer than the source -/
theorem step_valid {p : Nat} {c : UInt8} {r : List UInt8} {ts : List S35} {n : Nat} (h : stepL p (c :: r) = some (ts, n)) : (∀ x ∈ ts, validB x = true) ∧ (ts.map fun x => (word x).length).sum ≤ n := by
  simp only [stepL] at h
  split at h
  · obtain ⟨rfl, _⟩ := Prod.mk.inj (Option.some.inj h)
    exact ⟨fun x hx => (by cases hx), by simp⟩
  · split at h
    · split at h
      · rename_i hn
        obtain ⟨rfl, rfl⟩ := Prod.mk.inj (Option.some.inj h)
        refine ⟨fun x hx => ?_, ?_⟩
        · rw [List.mem_singleton.1 hx]
          simp [validB, bs_mk, hn]
        · simp [word, bs_mk]
      · cases h
    · split at h
      · split at h
        · rename_i v hv
          obtain ⟨rfl, rfl⟩ := Prod.mk.inj (Option.some.inj h)
          unfold numOf at hv
          split at hv
          · rename_i u hu
            split at hv
            · rename_i hc
              obtain rfl := Option.some.inj hv
              refine ⟨fun x hx => ?_, ?_⟩
              · rw [List.mem_singleton.1 hx]
                simp [validB, bs, hc.2.1, hc.2.2]
              · simp [word, hc.1]
            · cases hv
          · cases hv
        · cases h
      · split at h
        · rename_i h4
          split at h
          · obtain ⟨rfl, _⟩ := Prod.mk.inj (Option.some.inj h)
            exact ⟨fun x hx => (by cases hx), by simp⟩
          · obtain ⟨rfl, rfl⟩ := Prod.mk.inj (Option.some.inj h)
            refine ⟨fun x hx => ?_, ?_⟩
            · rw [List.mem_singleton.1 hx]
              simp [validB, bs_mk, (sign_cls c).1 h4]
            · simp [word, bs_mk]
        · cases h
theorem run_valid : ∀ (k p : Nat) (l : List UInt8) (us : List S35), run k p l = .ok us → (∀ x ∈ us, validB x = true) ∧ (us.map fun x => (word x).length).sum ≤ l.length
  | _, _, [], us, h => by
    simp [run] at h
    subst h
    exact ⟨fun x hx => (by cases hx), by simp⟩
  | 0, _, _ :: _, _, h => by simp [run] at h
  | k + 1, p, c :: r, us, h => by
    simp only [run] at h
    cases hs : stepL p (c :: r) with
    | none => rw [hs] at h; cases h
    | some x =>
      obtain ⟨ts, n⟩ := x
      rw [hs] at h
      simp only at h
      have hn := LS.stepL_pos hs
      have hl := step_valid hs
      cases hr : run k (p + n) ((c :: r).drop n) with
      | error q => rw [hr] at h; cases h
      | ok vs =>
        rw [hr] at h
        have hv := run_valid k _ _ _ hr
        have : us = ts ++ vs := by simpa [pre] using h.symm
        subst this
        refine ⟨fun x hx => ?_, ?_⟩
        · rcases List.mem_append.1 hx with hx | hx
          · exact hl.1 x hx
          · exact hv.1 x hx
        · have h2 := hv.2
          rw [List.length_drop, List.length_cons] at h2
          rw [List.map_append, List.sum_append, List.length_cons]
          have := hl.2
          omega
theorem toks_valid {p : Nat} {l : List UInt8} {us : List S35} (h : toks p l = .ok us) : ∀ x ∈ us, validB x = true := (run_valid _ _ _ _ h).1
theorem toks_words {p : Nat} {l : List UInt8} {us : List S35} (h : toks p l = .ok us) : (us.map fun x => (word x).length).sum ≤ l.length := (run_valid _ _ _ _ h).2
end Go.Proofs.YtcckpmijdckocaaDoor.QX
