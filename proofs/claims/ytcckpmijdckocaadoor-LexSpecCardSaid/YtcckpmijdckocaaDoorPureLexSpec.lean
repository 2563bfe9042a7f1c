/- Proved here: the pure statement of LexSpec: on every source the program's Lex and the reference's answer the same. No program in sight. -/
import Derived.KernelRfl
import Derived.Test.YtcckpmijdckocaaDoorQBase
import Derived.Test.YtcckpmijdckocaaDoorX13L3
namespace Go.Proofs.YtcckpmijdckocaaDoor.Pure
open Go.RowKit Go.Proofs.YtcckpmijdckocaaDoor.X Go.Proofs.YtcckpmijdckocaaDoor.X.LX Go.Proofs.YtcckpmijdckocaaDoor.K Go.Proofs.YtcckpmijdckocaaDoorW.PrintWords Go.Proofs.YtcckpmijdckocaaDoor.QT Go.Proofs.YtcckpmijdckocaaDoor.QN Go.Proofs.YtcckpmijdckocaaDoor.QR Go.Proofs.YtcckpmijdckocaaDoor.QE
set_option linter.unusedVariables false
set_option linter.unusedSimpArgs false
theorem com_l1 (a : ByteArray) (hs : a.size ≤ 65536) (acc : List S35) (R : List S35 × Int × Int) : ∀ (d i : Nat), a.size - i = d → i ≤ a.size →
    Ev (fun k => fastiref03_Lex.l0 k a acc ((i + (((bs a).drop i).takeWhile (· != 10)).length : Nat) : Int)) R → Ev (fun k => fastiref03_Lex.l1 k a acc (i : Int)) R := by
  intro d
  induction d with
  | zero =>
    intro i hd hi h
    obtain rfl : i = a.size := by omega
    rw [List.drop_of_length_le (by rw [bs_len]; exact Nat.le_refl _)] at h
    refine Ev.step (fun k => ?_) h
    simp only [fastiref03_Lex.l1]
    rw [if_neg (by omega)]
    rfl
  | succ d ih =>
    intro i hd hi h
    obtain ⟨c, r, e1, e2, e3, e4⟩ := drop_at a (show i < a.size by omega)
    rw [e1, List.takeWhile_cons] at h
    have c1 : (i : Int) < (a.size : Int) := by omega
    have c2 : 0 ≤ (i : Int) := by omega
    by_cases hc : c = 10
    · subst hc
      refine Ev.step (fun k => ?_) h
      simp only [fastiref03_Lex.l1]
      rw [if_pos c1, if_pos c2, e2, if_pos (by rfl)]
      rfl
    · rw [if_pos (by simpa using hc)] at h
      have hw : wrap64 ((i : Int) + 1) = ((i + 1 : Nat) : Int) := w64s i (by omega)
      have hn := ih (i + 1) (by omega) (by omega) (by rw [e3]; rw [List.length_cons] at h; rw [show i + 1 + (r.takeWhile (· != 10)).length = i + ((r.takeWhile (· != 10)).length + 1) by omega]; exact h)
      refine Ev.step (fun k => ?_) hn
      have hne : ¬ (c.toNat : Int) = 10 := fun e => hc (UInt8.toNat_inj.1 (by rw [show c.toNat = 10 by omega]; rfl))
      simp only [fastiref03_Lex.l1]
      rw [if_pos c1, if_pos c2, e2, if_neg hne, hw]
/-- What stands behind the loop over a name. -/
def tl2 (a : ByteArray) (acc : List S35) (p e : Nat) (k : Nat) : Option (List S35 × Int × Int) :=
  (fastiref03_Name.f k (a.extract p e)).bind fun t => if t = true then fastiref03_Lex.l0 k a (acc ++ [⟨1, a.extract p e, 0, (p : Int)⟩]) (e : Int) else some ([], (p : Int), 30)
theorem let_l2 (a : ByteArray) (hs : a.size ≤ 65536) (acc : List S35) (hacc : acc.length ≤ 65536) (p : Nat) (R : List S35 × Int × Int) : ∀ (d i : Nat), a.size - i = d → p ≤ i → i ≤ a.size →
    Ev (tl2 a acc p (i + (((bs a).drop i).takeWhile isPart).length)) R → Ev (fun k => fastiref03_Lex.l2 k a acc (i : Int) (p : Int)) R := by
  intro d
  induction d with
  | zero =>
    intro i hd hp hi h
    obtain rfl : i = a.size := by omega
    rw [List.drop_of_length_le (by rw [bs_len]; exact Nat.le_refl _)] at h
    refine Ev.step (fun k => ?_) h
    simp only [fastiref03_Lex.l2]
    rw [if_neg (by omega), if_pos (by omega), if_pos (by omega), if_pos (by omega), Int.toNat_natCast, Int.toNat_natCast, if_pos (by omega)]
    rfl
  | succ d ih =>
    intro i hd hp hi h
    obtain ⟨c, r, e1, e2, e3, e4⟩ := drop_at a (show i < a.size by omega)
    rw [e1, List.takeWhile_cons] at h
    have c1 : (i : Int) < (a.size : Int) := by omega
    have c2 : 0 ≤ (i : Int) := by omega
    cases hc : isPart c
    · rw [hc] at h
      refine Ev.step (fun k => ?_) h
      simp only [fastiref03_Lex.l2]
      rw [if_pos c1, if_pos c2, e2, part_f, hc]
      simp only [Option.bind_some, Bool.false_eq_true, if_false]
      rw [if_pos (by omega), if_pos (by omega), if_pos (by omega), Int.toNat_natCast, Int.toNat_natCast, if_pos (by omega)]
      rfl
    · rw [hc] at h
      have hw : wrap64 ((i : Int) + 1) = ((i + 1 : Nat) : Int) := w64s i (by omega)
      have hn := ih (i + 1) (by omega) (by omega) (by omega) (by rw [e3]; simp only [if_true, List.length_cons] at h; rw [show i + 1 + (r.takeWhile isPart).length = i + ((r.takeWhile isPart).length + 1) by omega]; exact h)
      refine Ev.step (fun k => ?_) hn
      simp only [fastiref03_Lex.l2]
      rw [if_pos c1, if_pos c2, e2, part_f, hc, hw]
      rfl
theorem dig_l3 (a : ByteArray) (hs : a.size ≤ 65536) (acc : List S35) (p : Nat) (R : List S35 × Int × Int) : ∀ (d i : Nat), a.size - i = d → p ≤ i → i ≤ a.size →
    Ev (fun k => fastiref03_Lex.j5 k a acc ((i + (((bs a).drop i).takeWhile isDig).length : Nat) : Int) (p : Int)) R → Ev (fun k => fastiref03_Lex.l3 k a acc (i : Int) (p : Int)) R := by
  intro d
  induction d with
  | zero =>
    intro i hd hp hi h
    obtain rfl : i = a.size := by omega
    rw [List.drop_of_length_le (by rw [bs_len]; exact Nat.le_refl _)] at h
    refine Ev.step (fun k => ?_) h
    simp only [fastiref03_Lex.l3]
    rw [if_neg (by omega)]
    rfl
  | succ d ih =>
    intro i hd hp hi h
    obtain ⟨c, r, e1, e2, e3, e4⟩ := drop_at a (show i < a.size by omega)
    rw [e1, List.takeWhile_cons] at h
    have c1 : (i : Int) < (a.size : Int) := by omega
    have c2 : 0 ≤ (i : Int) := by omega
    cases hc : isDig c
    · rw [hc] at h
      refine Ev.step (fun k => ?_) h
      simp only [fastiref03_Lex.l3]
      rw [if_pos c1, if_pos c2, e2, dig_f, hc]
      rfl
    · rw [hc] at h
      have hw : wrap64 ((i : Int) + 1) = ((i + 1 : Nat) : Int) := w64s i (by omega)
      have hn := ih (i + 1) (by omega) (by omega) (by omega) (by rw [e3]; simp only [if_true, List.length_cons] at h; rw [show i + 1 + (r.takeWhile isDig).length = i + ((r.takeWhile isDig).length + 1) by omega]; exact h)
      refine Ev.step (fun k => ?_) hn
      simp only [fastiref03_Lex.l3]
      rw [if_pos c1, if_pos c2, e2, dig_f, hc, hw]
      rfl
theorem ref_l0 (a : ByteArray) (hs : a.size ≤ 65536) : ∀ (d p : Nat) (acc : List S35), a.size - p ≤ d → p ≤ a.size → acc.length ≤ p → Ev (fun k => fastiref03_Lex.l0 k a acc (p : Int)) (res acc (toks p ((bs a).drop p))) := by
  intro d
  induction d with
  | zero =>
    intro p acc hd hp hacc
    obtain rfl : p = a.size := by omega
    rw [List.drop_of_length_le (by rw [bs_len]; exact Nat.le_refl _), toks_nil]
    refine Ev.eq fun k => ?_
    simp only [fastiref03_Lex.l0]
    rw [if_neg (by omega), res, List.append_nil]
  | succ d ih =>
    intro p acc hd hp hacc
    rcases Nat.lt_or_ge p a.size with hlt | hge
    rotate_left
    · exact ih p acc (by omega) hp hacc
    obtain ⟨c, r, e1, e2, e3, e4⟩ := drop_at a hlt
    have hw : wrap64 ((p : Int) + 1) = ((p + 1 : Nat) : Int) := w64s p (by omega)
    have c1 : (p : Int) < (a.size : Int) := by omega
    have c2 : 0 ≤ (p : Int) := by omega
    rw [e1]
    cases hsp : isSp c
    rotate_left
    · rw [toks_sp hsp]
      have hn := ih (p + 1) acc (by omega) (by omega) (by omega)
      rw [e3] at hn
      refine Ev.step (fun k => ?_) hn
      simp only [fastiref03_Lex.l0]
      rw [if_pos c1, if_pos c2, e2, sp_f, hsp, hw]
      rfl
    -- no white space: a comment, or what j1 tells
    suffices h : Ev (fun k => fastiref03_Lex.j1 k a acc (p : Int) (p : Int) ([47, 47].isPrefixOf (c :: r))) (res acc (toks p (c :: r))) by
      refine Ev.step (fun k => ?_) h
      simp only [fastiref03_Lex.l0]
      rw [if_pos c1, if_pos c2, e2, sp_f, hsp, hw]
      simp only [Option.bind_some, Bool.false_eq_true, if_false]
      by_cases h47 : c = 47
      · subst h47
        rw [if_pos (by rfl)]
        cases r with
        | nil =>
          simp only [List.length_nil] at e4
          rw [if_neg (by omega)]
          rfl
        | cons x r =>
          simp only [List.length_cons] at e4
          obtain ⟨x', r', f1, f2, f3, f4⟩ := drop_at a (show p + 1 < a.size by omega)
          rw [e3] at f1
          obtain ⟨rfl, rfl⟩ := List.cons.inj f1
          rw [if_pos (by omega), if_pos (by omega), f2]
          have : ((x.toNat : Int) == 47) = [47, 47].isPrefixOf (47 :: x :: r) := by
            simp only [List.isPrefixOf, beq_self_eq_true, Bool.true_and, Bool.and_true]
            by_cases h : x = 47
            · subst h; rfl
            · have : ¬ x.toNat = 47 := fun e => h (UInt8.toNat_inj.1 (by rw [e]; rfl))
              rw [beq_eq_false_iff_ne.2 (show ¬ (x.toNat : Int) = 47 by omega), beq_eq_false_iff_ne.2 (fun e => h e.symm)]
          rw [this]
      · have : ¬ (c.toNat : Int) = 47 := fun e => h47 (UInt8.toNat_inj.1 (by rw [show c.toNat = 47 by omega]; rfl))
        rw [if_neg this]
        have hpf : [47, 47].isPrefixOf (c :: r) = false := by
          simp only [List.isPrefixOf]
          rw [beq_eq_false_iff_ne.2 (fun e => h47 e.symm), Bool.false_and]
        rw [hpf]
    cases hcom : [47, 47].isPrefixOf (c :: r)
    rotate_left
    · -- a comment
      cases r with
      | nil => simp [List.isPrefixOf] at hcom
      | cons x r =>
        simp only [List.isPrefixOf, Bool.and_eq_true, beq_iff_eq, Bool.and_true] at hcom
        obtain ⟨rfl, rfl⟩ := hcom
        rw [toks_com]
        have hlen : ((47 :: 47 :: r).takeWhile (· != (10 : UInt8))).length ≤ (47 :: 47 :: r : List UInt8).length := (List.takeWhile_sublist _).length_le
        have hge2 : 2 ≤ ((47 :: 47 :: r).takeWhile (· != (10 : UInt8))).length := by
          rw [List.takeWhile_cons, if_pos (by decide), List.takeWhile_cons, if_pos (by decide)]
          simp
        simp only [List.length_cons] at hlen e4
        obtain ⟨m, hm⟩ : ∃ m, ((47 :: 47 :: r).takeWhile (· != (10 : UInt8))).length = m := ⟨_, rfl⟩
        rw [hm] at hlen hge2 ⊢
        have hn := ih (p + m) acc (by omega) (by omega) (by omega)
        rw [← List.drop_drop, e1] at hn
        have h1 := com_l1 a hs acc _ (a.size - p) p rfl hp (by rw [e1, hm]; exact hn)
        refine Ev.step (fun k => ?_) h1
        simp only [fastiref03_Lex.j1]
        rfl
    suffices h : Ev (fun k => (fastiref03_Letter.f (bt a (p : Int))).bind fun t163 => (if t163 = true then (fastiref03_Lex.l2 k a acc (p : Int) (p : Int)) else ((fastiref03_Figure.f (bt a (p : Int))).bind fun t173 => (if t173 = true then (fastiref03_Lex.l3 k a acc (p : Int) (p : Int)) else ((fastiref03_Sign.f k (bt a (p : Int))).bind fun t180 => (if t180 = true then fastiref03_Lex.l0 k a (acc ++ [⟨3, a.extract p (p + 1), 0, (p : Int)⟩]) ((p + 1 : Nat) : Int) else (some (([] : List (S35)), (p : Int), 30)))))))) (res acc (toks p (c :: r))) by
      refine Ev.step (fun k => ?_) h
      have hN : acc.length < 3518437208883 := by omega
      have hp1 : (p : Int) ≤ ((p + 1 : Nat) : Int) := by omega
      have hp2 : ((p + 1 : Nat) : Int) ≤ (a.size : Int) := by omega
      simp only [fastiref03_Lex.j1, Bool.false_eq_true, if_false, hw, if_pos c2, if_pos c1, if_pos hp1, if_pos hp2, if_pos hN, Int.toNat_natCast]
    rw [e2]
    simp only [let_f, dig_f, Option.bind_some]
    cases hlet : isLet c
    rotate_left
    · -- a name
      simp only [if_true]
      rw [toks_let hlet]
      have hlen : ((c :: r).takeWhile isPart).length ≤ (c :: r).length := (List.takeWhile_sublist _).length_le
      have hge1 : 1 ≤ ((c :: r).takeWhile isPart).length := by
        rw [List.takeWhile_cons, if_pos (by unfold isPart; rw [hlet]; rfl)]
        simp
      simp only [List.length_cons] at hlen
      have htk : ((c :: r).take ((c :: r).takeWhile isPart).length) = (c :: r).takeWhile isPart := LS.take_while _ _
      obtain ⟨t, ht⟩ : ∃ t, (c :: r).takeWhile isPart = t := ⟨_, rfl⟩
      rw [ht] at hlen hge1 htk ⊢
      have hex : a.extract p (p + t.length) = mk t := by rw [mk_extract, e1, htk]
      refine let_l2 a hs acc (by omega) p _ (a.size - p) p rfl (Nat.le_refl _) hp ?_
      rw [e1, ht]
      unfold tl2
      rw [hex]
      have hnm := name_ref (mk t)
      rw [bs_mk] at hnm
      cases hok : nameL t
      · rw [hok] at hnm
        exact Ev.bind (f := fun k (b : Bool) => if b = true then fastiref03_Lex.l0 k a (acc ++ [(⟨1, mk t, 0, (p : Int)⟩ : S35)]) ((p + t.length : Nat) : Int) else some ([], (p : Int), 30)) hnm (Ev.all fun k => rfl)
      · rw [hok] at hnm
        rw [if_pos rfl, res_pre]
        have hn := ih (p + t.length) (acc ++ [⟨1, mk t, 0, (p : Int)⟩]) (by omega) (by omega) (by simp; omega)
        rw [← List.drop_drop, e1] at hn
        exact Ev.bind (f := fun k (b : Bool) => if b = true then fastiref03_Lex.l0 k a (acc ++ [(⟨1, mk t, 0, (p : Int)⟩ : S35)]) ((p + t.length : Nat) : Int) else some ([], (p : Int), 30)) hnm (by simp only [if_true]; exact hn)
    cases hdig : isDig c
    rotate_left
    · -- a number
      simp only [Bool.false_eq_true, if_false, if_true]
      rw [toks_dig hdig]
      have hlen : ((c :: r).takeWhile isDig).length ≤ (c :: r).length := (List.takeWhile_sublist _).length_le
      have hge1 : 1 ≤ ((c :: r).takeWhile isDig).length := by
        rw [List.takeWhile_cons, if_pos hdig]
        simp
      simp only [List.length_cons] at hlen
      have htk : ((c :: r).take ((c :: r).takeWhile isDig).length) = (c :: r).takeWhile isDig := LS.take_while _ _
      have hall : ∀ x ∈ (c :: r).takeWhile isDig, isDig x = true := fun x hx => by
        have := List.all_takeWhile (p := isDig) (l := c :: r)
        exact List.all_eq_true.1 this x hx
      obtain ⟨t, ht⟩ : ∃ t, (c :: r).takeWhile isDig = t := ⟨_, rfl⟩
      rw [ht] at hlen hge1 htk hall ⊢
      have hne : t ≠ [] := fun e => by rw [e] at hge1; simp at hge1
      have hex : a.extract p (p + t.length) = mk t := by rw [mk_extract, e1, htk]
      refine dig_l3 a hs acc p _ (a.size - p) p rfl (Nat.le_refl _) hp ?_
      rw [e1, ht]
      have hnum := number_ref t (by omega) hall hne
      suffices h : Ev (fun k => (fastiref03_number.f k (mk t)).bind fun b => if b.2 = true then fastiref03_Lex.l0 k a (acc ++ [⟨2, ⟨#[]⟩, b.1, (p : Int)⟩]) ((p + t.length : Nat) : Int) else some ([], (p : Int), 30)) (res acc (match numOf t with | some v => pre [⟨2, ⟨#[]⟩, v, (p : Int)⟩] (toks (p + t.length) ((c :: r).drop t.length)) | none => .error p)) by
        refine Ev.step (fun k => ?_) h
        have hN : acc.length < 3518437208883 := by omega
        have hp1 : (p : Int) ≤ ((p + t.length : Nat) : Int) := by omega
        have hp2 : ((p + t.length : Nat) : Int) ≤ (a.size : Int) := by omega
        simp only [fastiref03_Lex.j5, if_pos c2, if_pos hp1, if_pos hp2, if_pos hN, Int.toNat_natCast, hex]
      rw [numOf_dig hall hne]
      refine Ev.bind (f := fun k (b : Int × Bool) => if b.2 = true then fastiref03_Lex.l0 k a (acc ++ [⟨2, ⟨#[]⟩, b.1, (p : Int)⟩]) ((p + t.length : Nat) : Int) else some ([], (p : Int), 30)) hnum ?_
      by_cases hb : dval t ≤ 1099511627776
      · rw [numB_le hb]
        cases hpl : plainB t
        · rw [if_neg (fun e => by cases e.1)]
          exact Ev.all fun k => rfl
        · rw [if_pos ⟨rfl, hb⟩]
          simp only [res_pre, if_true]
          have hn := ih (p + t.length) (acc ++ [⟨2, ⟨#[]⟩, (dval t : Int), (p : Int)⟩]) (by omega) (by omega) (by simp; omega)
          rw [← List.drop_drop, e1] at hn
          exact hn
      · rw [numB_gt hb, if_neg (fun e => hb e.2)]
        exact Ev.all fun k => rfl
    -- a sign, or nothing
    simp only [Bool.false_eq_true, if_false]
    have hsg := sign_f c
    have hex : a.extract p (p + 1) = mk [c] := by rw [mk_extract, e1]; rfl
    rw [hex]
    refine Ev.bind (f := fun k (b : Bool) => if b = true then fastiref03_Lex.l0 k a (acc ++ [⟨3, mk [c], 0, (p : Int)⟩]) ((p + 1 : Nat) : Int) else some ([], (p : Int), 30)) hsg ?_
    cases hs4 : isSign c
    · rw [toks_other hsp hlet hdig hs4]
      exact Ev.all fun k => rfl
    · rw [toks_sign hs4 hcom, res_pre]
      have hn := ih (p + 1) (acc ++ [⟨3, mk [c], 0, (p : Int)⟩]) (by omega) (by omega) (by simp; omega)
      rw [e3] at hn
      exact hn
theorem ref_lex (a : ByteArray) (hs : a.size ≤ 65536) : Ev (fun k => fastiref03_Lex.f k a) (res [] (toks 0 (bs a))) := by
  have h := ref_l0 a hs a.size 0 [] (by omega) (by omega) (by simp)
  rw [List.drop_zero] at h
  unfold fastiref03_Lex.f
  simp only [if_neg (show ¬ (a.size : Int) > 65536 by omega)]
  exact h
theorem LexSpec : fastilaw03_LexSpec.Pure := by
  intro a ha
  refine Ev.rounds ?_
  unfold fastilaw03_LexSpec.f
  refine Ev.bind (f := fun k (t : Bool) => _) sane_ok ?_
  simp only [if_true]
  by_cases hb : (a.size : Int) > 70000
  · simp only [if_pos hb]
    exact Ev.now _
  · simp only [if_neg hb]
    by_cases hs : a.size ≤ 65536
    · rw [lexf a hs]
      simp only [Option.bind_some]
      refine Ev.bind (ref_lex a hs) ?_
      have he := equal_refl (res [] (toks 0 (bs a))).1 (by have := res_len 0 (bs a); rw [bs_len] at this; omega)
      refine Ev.bind he ?_
      simp only [if_true]
      exact Ev.all fun k => by simp
    · rw [lexf_big a (by omega)]
      simp only [Option.bind_some]
      have hr : Ev (fun k => fastiref03_Lex.f k a) ([], 0, 2) := by
        unfold fastiref03_Lex.f
        simp only [if_pos (show (a.size : Int) > 65536 by omega)]
        exact Ev.now _
      refine Ev.bind hr ?_
      refine Ev.bind (equal_refl [] (by simp)) ?_
      exact Ev.all fun k => by simp
end Go.Proofs.YtcckpmijdckocaaDoor.Pure
