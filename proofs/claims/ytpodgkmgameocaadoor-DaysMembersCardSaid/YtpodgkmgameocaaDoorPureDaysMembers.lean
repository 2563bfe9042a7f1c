/- Proved here: DaysMembers' plain law. -/
import Derived.Test.YtpodgkmgameocaaDoorQMembers
import Derived.Test.YtpodgkmgameocaaDoorX21
namespace Go.Proofs.YtpodgkmgameocaaDoor.DQ
open Go.RowKit Go.Proofs.YtpodgkmgameocaaDoorW.PrintWords Go.Proofs.YtpodgkmgameocaaDoorW.PrintMore Go.Proofs.YtpodgkmgameocaaDoor.X Go.Proofs.YtpodgkmgameocaaDoor.K
set_option linter.unusedVariables false
set_option linter.unusedSimpArgs false
theorem lhas_loop (l : List S45) (n : Int) (hl : l.length < 1000000) (d : Nat) : ∀ i : Nat, l.length - i = d → i ≤ l.length → Ev (fun k => fastilaw12_has.l0 k n l (l.length : Int) (i : Int)) (has (l.drop i) n) := by
  induction d with
  | zero =>
    intro i hd hi
    refine Ev.eq fun k => ?_
    rw [fastilaw12_has.l0, if_neg (by omega), List.drop_of_length_le (by omega)]
    rfl
  | succ d ih =>
    intro i hd hi
    have h1 : i < l.length := by omega
    rw [drop_get h1, has_cons]
    by_cases h2 : l[i].f0 ≤ n
    · by_cases h3 : n ≤ l[i].f1
      · rw [decide_eq_true h2, decide_eq_true h3]
        refine Ev.eq fun k => ?_
        rw [fastilaw12_has.l0, if_pos (by omega), if_pos (by omega), if_pos (by omega), SS.rd45_lt h1, if_pos h2, if_pos h3]
        rfl
      · rw [decide_eq_false h3, Bool.and_false, Bool.false_or]
        refine Ev.step (fun k => ?_) (ih (i + 1) (by omega) (by omega))
        rw [fastilaw12_has.l0, if_pos (by omega), if_pos (by omega), if_pos (by omega), SS.rd45_lt h1, if_pos h2, if_neg h3, w64s i (by omega)]
    · rw [decide_eq_false h2, Bool.false_and, Bool.false_or]
      refine Ev.step (fun k => ?_) (ih (i + 1) (by omega) (by omega))
      rw [fastilaw12_has.l0, if_pos (by omega), if_pos (by omega), if_pos (by omega), SS.rd45_lt h1, if_neg h2, w64s i (by omega)]
theorem lhas_ev (l : List S45) (n : Int) (hl : l.length < 1000000) : Ev (fun k => fastilaw12_has.f k l n) (has l n) := by
  have := lhas_loop l n hl _ 0 rfl (Nat.zero_le _)
  rwa [List.drop_zero] at this
theorem comb_set (f : Bool → Bool → Bool) (hff : f false false = false) {a b : List S45} (ha : SS.chk a = 0) (hb : SS.chk b = 0) (h : (setS f a b).length ≤ 256) : SS.comb f a b = (setS f a b, 0) := by
  rw [comb_eq f hff, if_pos ha, if_pos hb, if_neg (by omega)]
/-- The difference and the meet have together the first set again. -/
theorem set_again {a b : List S45} (ha : SS.chk a = 0) (hb : SS.chk b = 0) (hl : a.length + b.length ≤ 256) :
    SS.comb (fun u v => u || v) (setS (fun u v => u && v) a b) (setS (fun u v => u && !v) a b) = (a, 0) := by
  obtain ⟨m1, m2, m3⟩ := set_all (fun u v => u && v) rfl ha hb
  obtain ⟨w1, w2, w3⟩ := set_all (fun u v => u && !v) rfl ha hb
  have cm := chk_of m1 (by omega)
  have cw := chk_of w1 (by omega)
  obtain ⟨u1, u2, u3⟩ := set_all (fun u v => u || v) rfl cm cw
  have e : setS (fun u v => u || v) (setS (fun u v => u && v) a b) (setS (fun u v => u && !v) a b) = a := by
    refine canon_ext u1 (chk_canon ha) fun x => ?_
    rw [u3, m3, w3]
    cases has a x <;> cases has b x <;> rfl
  rw [comb_set _ rfl cm cw (by rw [e]; have := (chk_good ha).1; omega), e]
section
variable {a b u m w : List S45} (la : a.length ≤ 128) (lb : b.length ≤ 128) (lu : u.length ≤ 256) (lm : m.length ≤ 256) (lw : w.length ≤ 256)
  (hu : ∀ x, has u x = (has a x || has b x)) (hm : ∀ x, has m x = (has a x && has b x)) (hw : ∀ x, has w x = (has a x && !has b x)) (hag : SS.comb (fun u v => u || v) m w = (a, 0))
theorem mem_l1 (la : a.length ≤ 128) (lb : b.length ≤ 128) (lu : u.length ≤ 256) (lm : m.length ≤ 256) (lw : w.length ≤ 256)
    (hu : ∀ x, has u x = (has a x || has b x)) (hm : ∀ x, has m x = (has a x && has b x)) (hw : ∀ x, has w x = (has a x && !has b x)) (hag : SS.comb (fun u v => u || v) m w = (a, 0))
    (X : List Int) (hX : X.length < 1000000) (d : Nat) : ∀ i : Nat, X.length - i = d → i ≤ X.length → Ev (fun k => fastilaw12_DaysMembers.l1 k a b u m w X (X.length : Int) (i : Int)) true := by
  induction d with
  | zero =>
    intro i hd hi
    have hsame := same_ev a a (by omega)
    rw [decide_eq_true rfl] at hsame
    refine Ev.step (f := fun k => (fastiref12_Same.f k a a).bind fun t => some t) (fun k => ?_) (Ev.bind hsame (Ev.now _))
    rw [fastilaw12_DaysMembers.l1, if_neg (by omega)]
    unfold days_Union.f
    rw [hag]
    simp only [Option.bind_some, if_true]
  | succ d ih =>
    intro i hd hi
    have h1 : i < X.length := by omega
    obtain ⟨n, hn⟩ : ∃ n, rd X (i : Int) = n := ⟨_, rfl⟩
    have iha := ih (i + 1) (by omega) (by omega)
    refine Ev.step (f := fun k => (fastilaw12_has.f k a n).bind fun t359 => (fastilaw12_has.f k b n).bind fun t360 => (fastilaw12_has.f k u n).bind fun t361 => (if t359 = true then (if (t361 != true) = true then (some false) else ((fastilaw12_has.f k m n).bind fun t362 => (if (t362 != t360) = true then (some false) else ((fastilaw12_has.f k w n).bind fun t363 => (if (t363 != (!t360)) = true then (some false) else (fastilaw12_DaysMembers.l1 k a b u m w X (X.length : Int) ((i + 1 : Nat) : Int))))))) else (if (t361 != t360) = true then (some false) else ((fastilaw12_has.f k m n).bind fun t364 => (if (t364 != false) = true then (some false) else ((fastilaw12_has.f k w n).bind fun t365 => (if (t365 != false) = true then (some false) else (fastilaw12_DaysMembers.l1 k a b u m w X (X.length : Int) ((i + 1 : Nat) : Int))))))))) (fun k => ?_) ?_
    · rw [fastilaw12_DaysMembers.l1, if_pos (by omega), if_pos (by omega), if_pos (by omega), hn, w64s i (by omega)]
    · refine Ev.bind (lhas_ev a n (by omega)) (Ev.bind (lhas_ev b n (by omega)) (Ev.bind (lhas_ev u n (by omega)) ?_))
      have eu := hu n
      have em := hm n
      have ew := hw n
      have vm := lhas_ev m n (by omega)
      have vw := lhas_ev w n (by omega)
      rw [em] at vm
      rw [ew] at vw
      rw [eu]
      cases hA : has a n
      · rw [hA] at vm vw
        simp only [Bool.false_and, Bool.false_eq_true, if_false, Bool.false_or, bne_self_eq_false] at vm vw ⊢
        refine Ev.bind vm ?_
        simp only [bne_self_eq_false, Bool.false_eq_true, if_false]
        refine Ev.bind vw ?_
        simp only [bne_self_eq_false, Bool.false_eq_true, if_false]
        exact iha
      · rw [hA] at vm vw
        simp only [Bool.true_and, if_true, Bool.true_or, bne_self_eq_false, Bool.false_eq_true, if_false] at vm vw ⊢
        refine Ev.bind vm ?_
        simp only [bne_self_eq_false, Bool.false_eq_true, if_false]
        refine Ev.bind vw ?_
        simp only [bne_self_eq_false, Bool.false_eq_true, if_false]
        exact iha
theorem mem_l0 (la : a.length ≤ 128) (lb : b.length ≤ 128) (lu : u.length ≤ 256) (lm : m.length ≤ 256) (lw : w.length ≤ 256)
    (hu : ∀ x, has u x = (has a x || has b x)) (hm : ∀ x, has m x = (has a x && has b x)) (hw : ∀ x, has w x = (has a x && !has b x)) (hag : SS.comb (fun u v => u || v) m w = (a, 0))
    (Y : List S45) (hY : Y.length ≤ 1000) (d : Nat) : ∀ (i : Nat) (X : List Int), Y.length - i = d → i ≤ Y.length → X.length ≤ 1 + 4 * i → Ev (fun k => fastilaw12_DaysMembers.l0 k a b u m w X Y (Y.length : Int) (i : Int)) true := by
  induction d with
  | zero =>
    intro i X hd hi hX
    have h := mem_l1 la lb lu lm lw hu hm hw hag X (by omega) _ 0 rfl (Nat.zero_le _)
    refine Ev.step (fun k => ?_) h
    rw [fastilaw12_DaysMembers.l0, if_neg (by omega)]
    rfl
  | succ d ih =>
    intro i X hd hi hX
    have h1 : i < Y.length := by omega
    refine Ev.step (fun k => ?_) (ih (i + 1) (X ++ [wrap64 (((rd_T45 Y (i : Int)).f0) - 1), (rd_T45 Y (i : Int)).f0, (rd_T45 Y (i : Int)).f1, wrap64 (((rd_T45 Y (i : Int)).f1) + 1)]) (by omega) (by omega) (by simp; omega))
    rw [fastilaw12_DaysMembers.l0, if_pos (by omega), if_pos (by omega), if_pos (by omega)]
    simp only [Option.bind_some]
    rw [if_pos (by simp; omega), w64s i (by omega)]
end
end Go.Proofs.YtpodgkmgameocaaDoor.DQ
namespace Go.Proofs.YtpodgkmgameocaaDoor.Pure
open Go Go.RowKit Go.Proofs.YtpodgkmgameocaaDoorW.PrintWords Go.Proofs.YtpodgkmgameocaaDoorW.PrintMore Go.Proofs.YtpodgkmgameocaaDoor.X Go.Proofs.YtpodgkmgameocaaDoor.K Go.Proofs.YtpodgkmgameocaaDoor.DQ
theorem DaysMembers (l0 l1 : List S45) (a2 : Int) (_ : (Lit.int .i64 a2).wf = true) : ∃ k, fastilaw12_DaysMembers.f k l0 l1 a2 = some true := by
  have skip : Ev (fun k => fastilaw12_DaysMembers.j0 k l0 l1 a2 true) true := Ev.eq fun k => by rw [fastilaw12_DaysMembers.j0, if_pos rfl]
  have key : Ev (fun k => fastilaw12_DaysMembers.f k l0 l1 a2) true := by
    unfold fastilaw12_DaysMembers.f
    refine Ev.bind (a := true) (Ev.now _) ?_
    simp only [if_true]
    by_cases g0 : (l0.length : Int) > 128
    · simp only [if_pos g0]
      exact skip
    · simp only [if_neg g0]
      by_cases g1 : (l1.length : Int) > 128
      · simp only [if_pos g1]
        exact skip
      · simp only [if_neg g1]
        refine Ev.bind (SS.chk_ev l0) ?_
        by_cases h0 : SS.chk l0 = 0
        · simp only [if_pos h0]
          refine Ev.bind (SS.chk_ev l1) ?_
          by_cases h1 : SS.chk l1 = 0
          · obtain ⟨u1, u2, u3⟩ := set_all (fun u v => u || v) rfl h0 h1
            obtain ⟨m1, m2, m3⟩ := set_all (fun u v => u && v) rfl h0 h1
            obtain ⟨v1, v2, v3⟩ := set_all (fun u v => u && !v) rfl h0 h1
            have cu := comb_set (fun u v => u || v) rfl h0 h1 (by omega)
            have cm := comb_set (fun u v => u && v) rfl h0 h1 (by omega)
            have cw := comb_set (fun u v => u && !v) rfl h0 h1 (by omega)
            have ku := chk_of u1 (by omega)
            have km := chk_of m1 (by omega)
            have kw := chk_of v1 (by omega)
            have ag := set_again h0 h1 (by omega)
            have eu := SS.chk_ev (setS (fun u v => u || v) l0 l1)
            have em := SS.chk_ev (setS (fun u v => u && v) l0 l1)
            have ew := SS.chk_ev (setS (fun u v => u && !v) l0 l1)
            rw [ku] at eu
            rw [km] at em
            rw [kw] at ew
            have lY : (l0 ++ l1).length ≤ 1000 := by rw [List.length_append]; omega
            have h := mem_l0 (a := l0) (b := l1) (by omega) (by omega) (by omega) (by omega) (by omega) u3 m3 v3 ag (l0 ++ l1) lY _ 0 [a2] rfl (Nat.zero_le _) (by simp)
            have hj1 : Ev (fun k => fastilaw12_DaysMembers.j1 k l0 l1 a2 (setS (fun u v => u || v) l0 l1) (setS (fun u v => u && v) l0 l1) (setS (fun u v => u && !v) l0 l1) false) true := by
              refine Ev.step (fun k => ?_) h
              rw [fastilaw12_DaysMembers.j1, if_neg (by decide)]
              simp only [Option.bind_some, List.nil_append]
              rw [if_pos (by simp; omega), if_pos (by omega)]
              rfl
            rw [h1]
            refine Ev.step (f := fun k => (days_Check.f k (setS (fun u v => u || v) l0 l1)).bind fun t330 => (if t330 = 0 then ((days_Check.f k (setS (fun u v => u && v) l0 l1)).bind fun t331 => (if t331 = 0 then ((days_Check.f k (setS (fun u v => u && !v) l0 l1)).bind fun t332 => (fastilaw12_DaysMembers.j1 k l0 l1 a2 (setS (fun u v => u || v) l0 l1) (setS (fun u v => u && v) l0 l1) (setS (fun u v => u && !v) l0 l1) (t332 != 0))) else (fastilaw12_DaysMembers.j1 k l0 l1 a2 (setS (fun u v => u || v) l0 l1) (setS (fun u v => u && v) l0 l1) (setS (fun u v => u && !v) l0 l1) true))) else (fastilaw12_DaysMembers.j1 k l0 l1 a2 (setS (fun u v => u || v) l0 l1) (setS (fun u v => u && v) l0 l1) (setS (fun u v => u && !v) l0 l1) true))) (fun k => ?_) ?_
            · rw [show ((0 : Int) != 0) = false from rfl, fastilaw12_DaysMembers.j0, if_neg (by decide)]
              unfold days_Union.f days_Meet.f days_Without.f
              rw [cu, cm, cw]
              simp only [Option.bind_some, if_true]
            · refine Ev.bind eu ?_
              simp only [if_true]
              refine Ev.bind em ?_
              simp only [if_true]
              refine Ev.bind ew ?_
              exact hj1
          · have e : (SS.chk l1 != 0) = true := by simpa using h1
            rw [e]
            exact skip
        · simp only [if_neg h0]
          exact skip
  obtain ⟨k, hk⟩ := key
  exact ⟨k, hk k (Nat.le_refl _)⟩
end Go.Proofs.YtpodgkmgameocaaDoor.Pure
