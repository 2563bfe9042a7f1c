/- Proved here: plain facts: the text of a valid token, or of valid tokens, has them as its tokens. No program in sight. -/
import Derived.KernelRfl
import Derived.Test.YtcckpmijdckocaaDoorQText
namespace Go.Proofs.YtcckpmijdckocaaDoor.QB
open Go.RowKit Go.Proofs.YtcckpmijdckocaaDoor.X Go.Proofs.YtcckpmijdckocaaDoor.X.LX Go.Proofs.YtcckpmijdckocaaDoor.K Go.Proofs.YtcckpmijdckocaaDoorW.PrintWords Go.Proofs.YtcckpmijdckocaaDoor.QT Go.Proofs.YtcckpmijdckocaaDoor.QN Go.Proofs.YtcckpmijdckocaaDoor.QR Go.Proofs.YtcckpmijdckocaaDoor.QE Go.Proofs.YtcckpmijdckocaaDoor.QX Go.Proofs.YtcckpmijdckocaaDoor.QJ
set_option linter.unusedVariables false
set_option linter.unusedSimpArgs false
/-- Nothing follows, or white space. -/
def Sep (m : List UInt8) : Prop := m = [] ∨ ∃ y r, m = y :: r ∧ isSp y = true
theorem tw_sep (q : UInt8 → Bool) (hq : ∀ y, isSp y = true → q y = false) (w m : List UInt8) (hw : ∀ x ∈ w, q x = true) (hm : Sep m) : (w ++ m).takeWhile q = w := by
  rcases hm with rfl | ⟨y, r, rfl, hy⟩
  · rw [List.append_nil]; exact tw_all q w hw
  · rw [tw_app q y (hq y hy), tw_all q w hw]
/-- The token of a valid one's text. -/
theorem tok_word {x : S35} (h : validB x = true) (p : Nat) {m : List UInt8} (hm : Sep m) : toks p (word x ++ m) = pre [⟨x.f0, x.f1, x.f2, p⟩] (toks (p + (word x).length) m) := by
  have hdrop : (word x ++ m).drop (word x).length = m := List.drop_left
  by_cases h1 : x.f0 = 1
  · have hw : word x = bs x.f1 := by unfold word; rw [if_neg (by rw [h1]; decide)]
    have hv : nameL (bs x.f1) = true ∧ x.f2 = 0 := by
      unfold validB at h
      rw [if_pos h1] at h
      simpa using h
    rw [hw] at hdrop ⊢
    cases hb : bs x.f1 with
    | nil => rw [hb] at hv; cases hv.1
    | cons c r =>
      have hn := hv.1
      rw [hb] at hn hdrop
      have h' := hn
      simp only [nameL, Bool.and_eq_true, decide_eq_true_eq] at h'
      have htw : (c :: r ++ m).takeWhile isPart = c :: r := tw_sep isPart (fun y hy => (sp_not_part hy).1) _ _ (fun z hz => List.all_eq_true.1 h'.2 z hz) hm
      rw [List.cons_append] at htw hdrop ⊢
      rw [toks_let h'.1.2, htw, if_pos hn, hdrop, h1, hv.2, ← hb, mk_bs]
  · by_cases h2 : x.f0 = 2
    · have hb := valid_num h h2
      obtain ⟨n, hn⟩ : ∃ n : Nat, x.f2 = (n : Int) := ⟨x.f2.toNat, (Int.toNat_of_nonneg hb.1).symm⟩
      have hi : Lib.itoa (n : Int) = Lib.decDigits n := by
        unfold Lib.itoa
        rw [if_neg (by omega)]
        simp
      have hw : word x = Lib.decDigits n := by unfold word; rw [if_pos h2, hn, hi]
      obtain ⟨d1, d2, d3, d4, _⟩ := digits_all n
      have h0 : x.f1 = ⟨#[]⟩ := bs_inj (by rw [hb.2.2])
      have hnum : numOf (Lib.decDigits n) = some (n : Int) := by
        rw [numOf_dig d1 d4, d3, if_pos ⟨d2, by omega⟩]
      rw [hw] at hdrop ⊢
      cases hd : Lib.decDigits n with
      | nil => exact absurd hd d4
      | cons c r =>
        rw [hd] at d1 hdrop hnum
        have htw : (c :: r ++ m).takeWhile isDig = c :: r := tw_sep isDig (fun y hy => (sp_not_part hy).2.1) _ _ d1 hm
        rw [List.cons_append] at htw hdrop ⊢
        rw [toks_dig (d1 c (by simp)), htw, hnum]
        simp only
        rw [hdrop, h2, hn, h0]
    · have hw : word x = bs x.f1 := by unfold word; rw [if_neg h2]
      unfold validB at h
      rw [if_neg h1, if_neg h2] at h
      by_cases h3 : x.f0 = 3
      · rw [if_pos h3] at h
        rw [hw] at hdrop ⊢
        have hinj : bs x.f1 = bs x.f1 := rfl
        cases hb : bs x.f1 with
        | nil => rw [hb] at h; cases h
        | cons c r =>
          cases r with
          | cons d r => rw [hb] at h; cases h
          | nil =>
            rw [hb] at h
            simp only [Bool.and_eq_true, beq_iff_eq] at h
            have hp : [47, 47].isPrefixOf (c :: m) = false := by
              rcases hm with rfl | ⟨y, r, rfl, hy⟩
              · simp [List.isPrefixOf]
              · simp only [List.isPrefixOf, Bool.and_true]
                rw [show ((47 : UInt8) == y) = false from by rw [Bool.beq_comm]; exact (sp_not_part hy).2.2, Bool.and_false]
            rw [List.singleton_append, toks_sign h.1 hp, h3, h.2, ← hb, mk_bs, hb]
            rfl
      · rw [if_neg h3] at h
        cases h
theorem textL_cons (x y : S35) (r : List S35) : textL (x :: y :: r) = word x ++ 32 :: textL (y :: r) := by
  unfold textL
  rw [List.map_cons, List.map_cons, Lib.join_cons, Lib.join_cons]
  simp [Lib.joinTail]
theorem textL_one (x : S35) : textL [x] = word x := Lib.join_one _ _
theorem tok_at (x : S35) (p : Int) : LS.tokEq x ⟨x.f0, x.f1, x.f2, p⟩ = true := by simp [LS.tokEq]
/-- The text of valid tokens has them as its tokens. -/
theorem toks_text : ∀ (l : List S35) (p : Nat), (∀ x ∈ l, validB x = true) → ∃ us, toks p (textL l) = .ok us ∧ LS.eqL l us = true
  | [], p, _ => ⟨[], rfl, rfl⟩
  | [x], p, h => by
    have h1 := tok_word (h x (by simp)) p (m := []) (.inl rfl)
    rw [List.append_nil, toks_nil] at h1
    rw [textL_one, h1]
    exact ⟨_, rfl, by rw [List.append_nil, LS.eqL, tok_at]; rfl⟩
  | x :: y :: r, p, h => by
    have h1 := tok_word (h x (by simp)) p (m := 32 :: textL (y :: r)) (.inr ⟨32, _, rfl, by decide⟩)
    obtain ⟨us, h2, h3⟩ := toks_text (y :: r) (p + (word x).length + 1) (fun z hz => h z (by simp [hz]))
    rw [textL_cons, h1, toks_sp (by decide), h2]
    exact ⟨_, rfl, by rw [List.singleton_append, LS.eqL, tok_at, h3]; rfl⟩
theorem textL_wlen : ∀ l : List S35, (textL l).length ≤ (l.map fun x => (word x).length).sum + l.length
  | [] => by simp [textL, Lib.join, List.intercalate]
  | [x] => by rw [textL_one]; simp
  | x :: y :: r => by
    have h := textL_wlen (y :: r)
    rw [textL_cons, List.length_append, List.length_cons, List.map_cons, List.sum_cons, List.length_cons]
    omega
theorem sumS_words : ∀ l : List S35, (∀ x ∈ l, validB x = true) → sumS l ≤ (l.map fun x => (word x).length).sum
  | [], _ => by simp [sumS]
  | x :: l, h => by
    have h1 := sumS_words l (fun y hy => h y (by simp [hy]))
    have h2 : x.f1.size ≤ (word x).length := by
      by_cases h2 : x.f0 = 2
      · have hb := valid_num (h x (by simp)) h2
        have : x.f1.size = 0 := by rw [← bs_len, hb.2.2]; rfl
        omega
      · unfold word
        rw [if_neg h2, bs_len]
        exact Nat.le_refl _
    have h3 : sumS (x :: l) = x.f1.size + sumS l := by simp [sumS]
    rw [h3, List.map_cons, List.sum_cons]
    omega
theorem textR_ok {l : List S35} (h : ∀ x ∈ l, validB x = true) : textR l = (mk (textL l), 0) := if_pos (List.all_eq_true.2 h)
theorem textR_not {l : List S35} (h : ¬ l.all validB = true) : textR l = ((⟨#[]⟩ : ByteArray), 30) := if_neg h
end Go.Proofs.YtcckpmijdckocaaDoor.QB
