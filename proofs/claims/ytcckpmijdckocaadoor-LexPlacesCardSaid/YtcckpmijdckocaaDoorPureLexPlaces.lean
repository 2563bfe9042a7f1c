/- Proved here: the pure statement of LexPlaces: the texts of the tokens stand at their places, with white space and comments between them. No program in sight. -/
import Derived.KernelRfl
import Derived.Test.YtcckpmijdckocaaDoorQText
import Derived.Test.YtcckpmijdckocaaDoorX14L6
namespace Go.Proofs.YtcckpmijdckocaaDoor.Pure
open Go.RowKit Go.Proofs.YtcckpmijdckocaaDoor.X Go.Proofs.YtcckpmijdckocaaDoor.X.LX Go.Proofs.YtcckpmijdckocaaDoor.K Go.Proofs.YtcckpmijdckocaaDoorW.PrintWords Go.Proofs.YtcckpmijdckocaaDoor.QT Go.Proofs.YtcckpmijdckocaaDoor.QN Go.Proofs.YtcckpmijdckocaaDoor.QR Go.Proofs.YtcckpmijdckocaaDoor.QE Go.Proofs.YtcckpmijdckocaaDoor.QX Go.Proofs.YtcckpmijdckocaaDoor.QJ
set_option linter.unusedVariables false
set_option linter.unusedSimpArgs false
/-- How the statement passes over what stands between tokens: is it inside a comment? -/
def nextB (b : Bool) (c : UInt8) (r : List UInt8) : Bool := c != 10 && (b || (c == 47 && (r.head? == some 47)))
def gm : Bool → List UInt8 → Option Bool
  | b, [] => some b
  | b, c :: r => if nextB b c r = false ∧ isSp c = false then none else gm (nextB b c r) r
theorem gm_sp {c : UInt8} (hc : isSp c = true) (r : List UInt8) : gm false (c :: r) = gm false r := by
  have h47 : (c == 47) = false := (sp_not_part hc).2.2
  have hn : nextB false c r = false := by unfold nextB; rw [h47, Bool.false_and, Bool.or_false, Bool.and_false]
  rw [gm, hn, if_neg (fun e => by rw [hc] at e; cases e.2)]
theorem gm_in : ∀ (t d : List UInt8), (∀ c ∈ t, c ≠ 10) → gm true (t ++ d) = gm true d
  | [], _, _ => rfl
  | c :: t, d, h => by
    have hn : nextB true c (t ++ d) = true := by unfold nextB; rw [bne_iff_ne.2 (h c (by simp))]; rfl
    rw [List.cons_append, gm, hn, if_neg (fun e => by cases e.1), gm_in t d (fun x hx => h x (by simp [hx]))]
theorem gm_com (t d : List UInt8) (h : ∀ c ∈ t, c ≠ 10) : gm false (47 :: 47 :: t ++ d) = gm true d := by
  have hn : nextB false 47 (47 :: t ++ d) = true := by unfold nextB; simp
  rw [List.cons_append, gm, hn, if_neg (fun e => by cases e.1)]
  exact gm_in (47 :: t) d (fun c hc => (List.mem_cons.1 hc).elim (fun e => by rw [e]; decide) (fun h' => h c h'))
theorem gm_lf (b : Bool) (d : List UInt8) : gm b (10 :: d) = gm false d := by
  have hn : nextB b 10 d = false := by unfold nextB; simp
  rw [gm, hn, if_neg (fun e => by cases e.2)]
/-- Where the first token stands, and what stands ahead of it. -/
def Gap (p : Nat) (l : List UInt8) : List S35 → Prop
  | [] => ∃ b, gm false l = some b
  | x :: us => ∃ g rest, l = g ++ (word x ++ rest) ∧ x.f3 = ((p + g.length : Nat) : Int) ∧ gm false g = some false ∧ word x ≠ [] ∧ toks (p + g.length + (word x).length) rest = .ok us
theorem gap_pre (c : UInt8) {p : Nat} {l : List UInt8} {us : List S35} (hc : isSp c = true) (h : Gap (p + 1) l us) : Gap p (c :: l) us := by
  cases us with
  | nil =>
    obtain ⟨b, h⟩ := h
    exact ⟨b, by rw [gm_sp hc]; exact h⟩
  | cons x us =>
    obtain ⟨g, rest, h1, h2, h3, h4, h5⟩ := h
    refine ⟨c :: g, rest, by rw [h1]; rfl, by rw [h2, List.length_cons]; congr 1; omega, by rw [gm_sp hc]; exact h3, h4, ?_⟩
    rw [List.length_cons, show p + (g.length + 1) = p + 1 + g.length by omega]
    exact h5
theorem gap_of : ∀ (n : Nat) (l : List UInt8) (p : Nat) (us : List S35), l.length ≤ n → toks p l = .ok us → Gap p l us
  | _, [], p, us, _, h => by
    rw [toks_nil] at h
    obtain rfl : us = [] := by simpa using h.symm
    exact ⟨false, rfl⟩
  | 0, _ :: _, _, _, h, _ => by simp at h
  | n + 1, c :: r, p, us, h, he => by
    have hr : r.length ≤ n := by simpa using h
    rcases kinds c with ⟨h1, _⟩ | ⟨_, h1, _⟩ | ⟨_, _, h1, _⟩ | ⟨_, _, _, h1⟩ | ⟨h1, h2, h3, h4⟩
    · rw [toks_sp h1] at he
      exact gap_pre c h1 (gap_of n r _ us hr he)
    · rw [toks_let h1] at he
      split at he
      · cases hd : toks (p + ((c :: r).takeWhile isPart).length) ((c :: r).drop ((c :: r).takeWhile isPart).length) with
        | error q => rw [hd] at he; cases he
        | ok vs =>
          rw [hd] at he
          obtain rfl : us = _ :: vs := by simpa [pre] using he.symm
          have hw : word ⟨1, mk ((c :: r).takeWhile isPart), 0, (p : Int)⟩ = (c :: r).takeWhile isPart := by unfold word; rw [if_neg (by show ¬ (1 : Int) = 2; decide), bs_mk]
          refine ⟨[], (c :: r).drop ((c :: r).takeWhile isPart).length, ?_, rfl, rfl, ?_, ?_⟩
          · rw [hw, List.nil_append]
            conv => lhs; rw [← List.take_append_drop ((c :: r).takeWhile isPart).length (c :: r), LS.take_while]
          · rw [hw, List.takeWhile_cons, if_pos (by unfold isPart; rw [h1]; rfl)]
            simp
          · rw [hw]
            exact hd
      · cases he
    · rw [toks_dig h1] at he
      cases hn : numOf ((c :: r).takeWhile isDig) with
      | none => rw [hn] at he; cases he
      | some v =>
        rw [hn] at he
        simp only at he
        cases hd : toks (p + ((c :: r).takeWhile isDig).length) ((c :: r).drop ((c :: r).takeWhile isDig).length) with
        | error q => rw [hd] at he; cases he
        | ok vs =>
          rw [hd] at he
          obtain rfl : us = _ :: vs := by simpa [pre] using he.symm
          have hit : Lib.itoa v = (c :: r).takeWhile isDig := by
            unfold numOf at hn
            split at hn
            · split at hn
              · rename_i hc
                obtain rfl := Option.some.inj hn
                exact hc.1
              · cases hn
            · cases hn
          have hw : word ⟨2, (⟨#[]⟩ : ByteArray), v, (p : Int)⟩ = (c :: r).takeWhile isDig := by unfold word; rw [if_pos (by rfl)]; exact hit
          refine ⟨[], (c :: r).drop ((c :: r).takeWhile isDig).length, ?_, rfl, rfl, ?_, ?_⟩
          · rw [hw, List.nil_append]
            conv => lhs; rw [← List.take_append_drop ((c :: r).takeWhile isDig).length (c :: r), LS.take_while]
          · rw [hw, List.takeWhile_cons, if_pos h1]
            simp
          · rw [hw]
            exact hd
    · cases hp : [47, 47].isPrefixOf (c :: r)
      · rw [toks_sign h1 hp] at he
        cases hd : toks (p + 1) r with
        | error q => rw [hd] at he; cases he
        | ok vs =>
          rw [hd] at he
          obtain rfl : us = _ :: vs := by simpa [pre] using he.symm
          have hw : word ⟨3, mk [c], 0, (p : Int)⟩ = [c] := by unfold word; rw [if_neg (by show ¬ (3 : Int) = 2; decide), bs_mk]
          refine ⟨[], r, by rw [hw]; rfl, rfl, rfl, by rw [hw]; simp, ?_⟩
          rw [hw]
          exact hd
      · cases r with
        | nil => simp [List.isPrefixOf] at hp
        | cons y t0 =>
          simp only [List.isPrefixOf, Bool.and_eq_true, beq_iff_eq, Bool.and_true] at hp
          obtain ⟨rfl, rfl⟩ := hp
          rw [toks_com] at he
          have htw : (47 :: 47 :: t0).takeWhile (· != (10 : UInt8)) = 47 :: 47 :: t0.takeWhile (· != 10) := by
            rw [List.takeWhile_cons, if_pos (by decide), List.takeWhile_cons, if_pos (by decide)]
          have hno : ∀ z ∈ t0.takeWhile (· != (10 : UInt8)), z ≠ 10 := fun z hz => by
            have := List.all_eq_true.1 (List.all_takeWhile (p := (· != (10 : UInt8))) (l := t0)) z hz
            simpa using this
          have hsplit : t0 = t0.takeWhile (· != 10) ++ t0.drop (t0.takeWhile (· != 10)).length := by
            conv => lhs; rw [← List.take_append_drop (t0.takeWhile (· != 10)).length t0, LS.take_while]
          obtain ⟨t, ht⟩ : ∃ t, t0.takeWhile (· != (10 : UInt8)) = t := ⟨_, rfl⟩
          obtain ⟨d, hd⟩ : ∃ d, t0.drop t.length = d := ⟨_, rfl⟩
          rw [ht] at htw hno hsplit
          rw [hd] at hsplit
          have hdrop : (47 :: 47 :: t0).drop (47 :: 47 :: t : List UInt8).length = d := by
            rw [List.length_cons, List.length_cons, List.drop_succ_cons, List.drop_succ_cons, hd]
          rw [htw, hdrop] at he
          have hl : (47 :: 47 :: t0 : List UInt8) = 47 :: 47 :: t ++ d := by rw [hsplit]; simp
          cases d with
          | nil =>
            rw [toks_nil] at he
            obtain rfl : us = [] := by simpa using he.symm
            exact ⟨true, by rw [hl, gm_com t [] hno]; rfl⟩
          | cons y d =>
            have hy : y = 10 := by
              rcases Decidable.em (y = 10) with h | h
              · exact h
              · exfalso
                have h2 : t0.takeWhile (· != (10 : UInt8)) = t ++ (y :: d).takeWhile (· != 10) := by
                  rw [hsplit, List.takeWhile_append]
                  rw [tw_all (· != (10 : UInt8)) t (fun z hz => bne_iff_ne.2 (hno z hz))]
                  simp
                rw [ht, List.takeWhile_cons, if_pos (bne_iff_ne.2 h)] at h2
                have := congrArg List.length h2
                simp at this
            subst hy
            rw [toks_sp (by decide)] at he
            have hlen : d.length ≤ n := by
              have := congrArg List.length hsplit
              simp at this
              simp at hr
              omega
            have hg := gap_of n d _ us hlen he
            cases us with
            | nil =>
              obtain ⟨b, hg⟩ := hg
              exact ⟨b, by rw [hl, gm_com t _ hno, gm_lf]; exact hg⟩
            | cons x us =>
              obtain ⟨g, rest, g1, g2, g3, g4, g5⟩ := hg
              refine ⟨47 :: 47 :: t ++ 10 :: g, rest, by rw [hl, g1]; simp, ?_, ?_, g4, ?_⟩
              · rw [g2]
                congr 1
                simp
                omega
              · rw [gm_com t _ hno, gm_lf]
                exact g3
              · rw [show p + (47 :: 47 :: t ++ 10 :: g : List UInt8).length = p + (47 :: 47 :: t : List UInt8).length + 1 + g.length by simp; omega]
                exact g5
    · rw [toks_other h1 h2 h3 h4] at he
      cases he
/-! a token's text, digit by digit -/
theorem spell_l0 : ∀ (n : Nat) (t : List UInt8), n ≤ 1099511627776 → t.length + n ≤ 2199023255552 → Ev (fun k => fastilaw03_spelled.l0 k (mk t) (n : Int)) (mk (Lib.decDigits n ++ t)) := by
  intro n
  induction n using Nat.strongRecOn with
  | _ n ih =>
    intro t hn ht
    have e1 : strOfNums [(wrap64 (48 + ((n % 10 : Nat) : Int))) % 256] = mk [dg n] := by
      rw [dec_digit (Nat.mod_lt _ (by decide))]
      rfl
    have e2 : (mk [dg n]).size + (mk t).size ≤ 9223372036854775807 := by rw [size_mk, size_mk]; simp; omega
    have e3 : mk [dg n] ++ mk t = mk (dg n :: t) := mk_app _ _
    by_cases h : n < 10
    · rw [dig_small h]
      have : dg n = UInt8.ofNat (48 + n) := by unfold dg; rw [Nat.mod_eq_of_lt h]
      refine Ev.eq fun k => ?_
      simp only [fastilaw03_spelled.l0, tmod10, Option.bind_some, e1, if_pos e2, e3]
      rw [if_pos (show (n : Int) < 10 by omega), this]
      rfl
    · have hi := ih (n / 10) (by omega) (dg n :: t) (by omega) (by simp; omega)
      have e4 : Lib.decDigits n ++ t = Lib.decDigits (n / 10) ++ dg n :: t := by rw [dig_step h]; simp [dg]
      rw [e4]
      refine Ev.step (fun k => ?_) hi
      simp only [fastilaw03_spelled.l0, tmod10, Option.bind_some, e1, if_pos e2, e3]
      rw [if_neg (show ¬ (n : Int) < 10 by omega), tdiv10, wrapn (show n / 10 ≤ 1099511627776 by omega)]
theorem spelled_ev {x : S35} (h : validB x = true) : Ev (fun k => fastilaw03_spelled.f k x.f0 x.f1 x.f2 x.f3) (mk (word x)) := by
  unfold fastilaw03_spelled.f
  by_cases h2 : x.f0 = 2
  · have hb := valid_num h h2
    obtain ⟨n, hn⟩ : ∃ n : Nat, x.f2 = (n : Int) := ⟨x.f2.toNat, (Int.toNat_of_nonneg hb.1).symm⟩
    have hi : Lib.itoa (n : Int) = Lib.decDigits n := by
      unfold Lib.itoa
      rw [if_neg (by omega)]
      simp
    have hw : word x = Lib.decDigits n := by unfold word; rw [if_pos h2, hn, hi]
    have hs := spell_l0 n [] (by omega) (by simp; omega)
    rw [List.append_nil] at hs
    simp only [if_pos h2, hn, hw]
    exact hs
  · simp only [if_neg h2]
    rw [← word_else x h2]
    exact Ev.now _
/-! the statement's loops -/
theorem places_l1 (a : ByteArray) (hs : a.size ≤ 3000) (us : List S35) (kk : Int) (R : Bool) : ∀ (g rest : List UInt8) (b b' : Bool) (i : Nat), (bs a).drop i = g ++ rest → i + g.length ≤ a.size → gm b g = some b' →
    Ev (fun k => fastilaw03_LexPlaces.l1 k a us ((i + g.length : Nat) : Int) kk ((i + g.length : Nat) : Int) b') R → Ev (fun k => fastilaw03_LexPlaces.l1 k a us (i : Int) kk ((i + g.length : Nat) : Int) b) R
  | [], rest, b, b', i, _, _, hg, h => by
    obtain rfl : b = b' := by simpa [gm] using hg
    exact h
  | c :: g, rest, b, b', i, hd, hl, hg, h => by
    rw [List.length_cons] at hl
    obtain ⟨c', r', f1, f2, f3, f4⟩ := drop_at a (show i < a.size by omega)
    rw [hd, List.cons_append] at f1
    obtain ⟨rfl, rfl⟩ := List.cons.inj f1
    have hlen : i + (c :: g).length = i + 1 + g.length := by rw [List.length_cons]; omega
    rw [hlen] at h ⊢
    rw [gm] at hg
    split at hg
    · cases hg
    rename_i hns
    have hih := places_l1 a hs us kk R g rest (nextB b c g) b' (i + 1) f3 (by omega) hg h
    have hw1 : wrap64 ((i : Int) + 1) = ((i + 1 : Nat) : Int) := w64s i (by omega)
    have c1 : (i : Int) < ((i + 1 + g.length : Nat) : Int) := by omega
    have c2 : 0 ≤ (i : Int) := by omega
    have c3 : (i : Int) < (a.size : Int) := by omega
    refine Ev.step (fun k => ?_) hih
    simp only [fastilaw03_LexPlaces.l1]
    rw [if_pos c1, if_pos c2, if_pos c3, f2]
    have h10 : ((c.toNat : Int) = 10) ↔ c = 10 := ⟨fun e => UInt8.toNat_inj.1 (by rw [show c.toNat = 10 by omega]; rfl), fun e => by rw [e]; rfl⟩
    have h47 : ((c.toNat : Int) = 47) ↔ c = 47 := ⟨fun e => UInt8.toNat_inj.1 (by rw [show c.toNat = 47 by omega]; rfl), fun e => by rw [e]; rfl⟩
    by_cases e10 : c = 10
    · subst e10
      have hn : nextB b 10 g = false := by unfold nextB; simp
      rw [if_pos (h10.2 rfl), sp_f, hn, hw1]
      rfl
    · rw [if_neg (fun e => e10 (h10.1 e))]
      cases b
      · rw [if_neg (by decide)]
        by_cases e47 : c = 47
        · subst e47
          rw [if_pos (h47.2 rfl)]
          cases g with
          | nil =>
            have hn : nextB false 47 [] = false := rfl
            rw [hn] at hns
            exact absurd ⟨rfl, by decide⟩ hns
          | cons y g =>
            obtain ⟨y', r2, q1, q2, q3, q4⟩ := drop_at a (show i + 1 < a.size by simp at hl; omega)
            rw [f3, List.cons_append] at q1
            obtain ⟨rfl, rfl⟩ := List.cons.inj q1
            have c4 : ((i + 1 : Nat) : Int) < ((i + 1 + (y :: g).length : Nat) : Int) := by simp; omega
            have c5 : 0 ≤ ((i + 1 : Nat) : Int) := by omega
            have c6 : ((i + 1 : Nat) : Int) < (a.size : Int) := by simp at hl; omega
            rw [hw1, if_pos c4, if_pos c5, if_pos c6, q2]
            by_cases y47 : y = 47
            · subst y47
              rw [if_pos (by rfl)]
              rfl
            · have hn : nextB false 47 (y :: g) = false := by
                unfold nextB
                simp only [List.head?_cons, Bool.false_or]
                rw [show ((some y : Option UInt8) == some 47) = false from by simpa using y47]
                simp
              rw [hn] at hns
              exact absurd ⟨rfl, by decide⟩ hns
        · rw [if_neg (fun e => e47 (h47.1 e))]
          have hn : nextB false c g = false := by
            unfold nextB
            rw [show (c == 47) = false from beq_eq_false_iff_ne.2 e47]
            simp
          rw [hn] at hns ⊢
          have hsp : isSp c = true := by
            cases hq : isSp c
            · exact absurd ⟨rfl, hq⟩ hns
            · rfl
          rw [sp_f, hsp, hw1]
          rfl
      · have hn : nextB true c g = true := by unfold nextB; rw [bne_iff_ne.2 e10]; rfl
        rw [if_pos rfl, hn, hw1]
theorem places_l0 (a : ByteArray) (hs : a.size ≤ 3000) (us : List S35) (hus : us.length ≤ 3000) (hv : ∀ x ∈ us, validB x = true) : ∀ (d kk i : Nat), us.length - kk = d → kk ≤ us.length → i ≤ a.size → toks i ((bs a).drop i) = .ok (us.drop kk) → Ev (fun k => fastilaw03_LexPlaces.l0 k a us (i : Int) (kk : Int)) true := by
  intro d
  induction d with
  | zero =>
    intro kk i hd hk hi ht
    obtain rfl : kk = us.length := by omega
    rw [List.drop_of_length_le (Nat.le_refl _)] at ht
    obtain ⟨b, hg⟩ := gap_of _ _ _ _ (Nat.le_refl _) ht
    have hlen : i + ((bs a).drop i).length = a.size := by rw [List.length_drop, bs_len]; omega
    have h := places_l1 a hs us (us.length : Int) true ((bs a).drop i) [] false b i (by rw [List.append_nil]) (by omega) hg (Ev.eq fun k => by
      simp only [fastilaw03_LexPlaces.l1]
      rw [if_neg (by omega), if_pos trivial])
    rw [hlen] at h
    refine Ev.step (f := fun k => fastilaw03_LexPlaces.j1 k a us (i : Int) (us.length : Int) (a.size : Int)) (fun k => ?_) ?_
    · simp only [fastilaw03_LexPlaces.l0]
      rw [if_pos (by omega), if_neg (by omega)]
    refine Ev.step (f := fun k => fastilaw03_LexPlaces.j2 k a us (i : Int) (us.length : Int) (a.size : Int) false) (fun k => ?_) ?_
    · simp only [fastilaw03_LexPlaces.j1]
      rw [if_neg (by omega), decide_eq_false (by omega)]
    refine Ev.step (fun k => ?_) h
    simp only [fastilaw03_LexPlaces.j2]
    rfl
  | succ d ih =>
    intro kk i hd hk hi ht
    have hlt : kk < us.length := by omega
    rw [drop_get hlt] at ht
    obtain ⟨x, hx⟩ : ∃ x, us[kk] = x := ⟨_, rfl⟩
    rw [hx] at ht
    have hvx := hv x (by rw [← hx]; exact List.getElem_mem _)
    obtain ⟨g, rest, g1, g2, g3, g4, g5⟩ := gap_of _ _ _ _ (Nat.le_refl _) ht
    have hlen := congrArg List.length g1
    rw [List.length_drop, bs_len, List.length_append, List.length_append] at hlen
    have hwpos : 0 < (word x).length := List.length_pos_iff.2 g4
    obtain ⟨e, he⟩ : ∃ e, i + g.length = e := ⟨_, rfl⟩
    obtain ⟨f, hf⟩ : ∃ f, e + (word x).length = f := ⟨_, rfl⟩
    have hde : (bs a).drop e = word x ++ rest := by rw [← he, ← List.drop_drop, g1, List.drop_left]
    have hdf : (bs a).drop f = rest := by rw [← hf, ← List.drop_drop, hde, List.drop_left]
    rw [he] at g2 g5
    rw [hf] at g5
    have hfs : f ≤ a.size := by omega
    have hn := ih (kk + 1) f (by omega) (by omega) hfs (by rw [hdf]; exact g5)
    have e1 := rd35 hlt
    rw [hx] at e1
    have hex : a.extract e f = mk (word x) := by rw [← hf, mk_extract, hde, List.take_left]
    have c1 : ¬ (e : Int) < (e : Int) := by omega
    have c2 : ¬ (kk : Int) = (us.length : Int) := by omega
    have c3 : 0 ≤ (kk : Int) := by omega
    have c4 : (kk : Int) < (us.length : Int) := by omega
    have c5 : 0 ≤ (e : Int) := by omega
    have s0 : ¬ ((mk (word x)).size : Int) = 0 := by rw [size_mk]; omega
    have s1 : ¬ (f : Int) > (a.size : Int) := by omega
    have s2 : (e : Int) ≤ (f : Int) := by omega
    have s3 : (f : Int) ≤ (a.size : Int) := by omega
    have s4 : (e : Int) + (((word x).length : Nat) : Int) = (f : Int) := by omega
    have s5 : -9223372036854775808 ≤ (e : Int) + (((word x).length : Nat) : Int) := by omega
    have s6 : (e : Int) + (((word x).length : Nat) : Int) ≤ 9223372036854775807 := by omega
    have hie : i + g.length ≤ a.size := by omega
    have i1 : (kk : Int) ≤ (us.length : Int) := by omega
    have i2 : ¬ (e : Int) < (i : Int) := by omega
    have i3 : ¬ (e : Int) > (a.size : Int) := by omega
    have hkk : kk < 4611686018427387904 := by omega
    have hw1 : wrap64 ((kk : Int) + 1) = ((kk + 1 : Nat) : Int) := w64s kk hkk
    have hw2 : wrap64 ((e : Int) + ((mk (word x)).size : Int)) = (f : Int) := by
      rw [size_mk, w64 s5 s6]
      exact s4
    have hend : Ev (fun k => fastilaw03_LexPlaces.l1 k a us (e : Int) (kk : Int) (e : Int) false) true := by
      refine Ev.step (f := fun k => (fastilaw03_spelled.f k x.f0 x.f1 x.f2 x.f3).bind fun t261 => (if (t261.size : Int) = 0 then (some false) else (if (wrap64 ((e : Int) + (t261.size : Int))) > (a.size : Int) then (some false) else (if (e : Int) ≤ (wrap64 ((e : Int) + (t261.size : Int))) then (if (wrap64 ((e : Int) + (t261.size : Int))) ≤ (a.size : Int) then (if (a.extract e ((wrap64 ((e : Int) + (t261.size : Int))) : Int).toNat).toList = t261.toList then (fastilaw03_LexPlaces.l0 k a us (wrap64 ((e : Int) + (t261.size : Int))) ((kk + 1 : Nat) : Int)) else (some false)) else (none)) else (none))))) (fun k => ?_) ?_
      · simp only [fastilaw03_LexPlaces.l1, if_neg c1, if_neg c2, if_pos c3, if_pos c4, e1, Bool.false_eq_true, if_false, if_pos c5, Int.toNat_natCast, hw1]
      · refine Ev.bind (spelled_ev hvx) ?_
        simp only [if_neg s0, hw2, if_neg s1, if_pos s2, if_pos s3, Int.toNat_natCast, hex, if_true]
        exact hn
    clear hw1 hw2
    have hl1 := places_l1 a hs us (kk : Int) true g (word x ++ rest) false false i g1 hie g3 (by rw [he]; exact hend)
    rw [he] at hl1
    refine Ev.step (f := fun k => fastilaw03_LexPlaces.j1 k a us (i : Int) (kk : Int) (e : Int)) (fun k => ?_) ?_
    · simp only [fastilaw03_LexPlaces.l0]
      rw [if_pos i1, if_pos c4, if_pos c3, e1, g2]
    refine Ev.step (f := fun k => fastilaw03_LexPlaces.j2 k a us (i : Int) (kk : Int) (e : Int) false) (fun k => ?_) ?_
    · simp only [fastilaw03_LexPlaces.j1]
      rw [if_neg i2, decide_eq_false i3]
    refine Ev.step (fun k => ?_) hl1
    simp only [fastilaw03_LexPlaces.j2]
    rfl
theorem LexPlaces : fastilaw03_LexPlaces.Pure := by
  intro a ha
  refine Ev.rounds ?_
  unfold fastilaw03_LexPlaces.f
  refine Ev.bind sane_ok ?_
  simp only [if_true]
  by_cases h3 : (a.size : Int) > 3000
  · simp only [if_pos h3]
    exact Ev.now _
  simp only [if_neg h3]
  rw [lexf a (by omega)]
  simp only [Option.bind_some]
  cases ht : toks 0 (bs a) with
  | error q =>
    rw [res_err]
    exact Ev.all fun k => rfl
  | ok us =>
    have hl := toks_len ht
    rw [bs_len] at hl
    have h := places_l0 a (by omega) us (by omega) (toks_valid ht) us.length 0 0 (by omega) (by omega) (by omega) (by rw [List.drop_zero, List.drop_zero]; exact ht)
    rw [res_ok]
    simp only [if_true]
    exact h
end Go.Proofs.YtcckpmijdckocaaDoor.Pure
