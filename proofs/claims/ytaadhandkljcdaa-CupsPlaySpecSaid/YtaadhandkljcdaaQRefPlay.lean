/- Plain laws of this project about the reference's play (layer 23): it comes to the same state as the program's. Conditions: those that each theorem names. -/
import Derived.Test.YtaadhandkljcdaaQState
import Derived.Test.YtaadhandkljcdaaX19
import Derived.Test.YtaadhandkljcdaaK
/- Plain laws of this project about the reference's play (layer 23): it comes to the same state as the program's. Conditions: those that each theorem names. -/
namespace Go.Proofs.Ytaadhandkljcdaa.Q
open Go.RowKit Go.Proofs.Ytaadhandkljcdaa.X Go.Proofs.YtaadhandkljcdaaW.PrintWords Go.Proofs.YtaadhandkljcdaaW.PrintLast Go.Proofs.Ytaadhandkljcdaa.K Go.Proofs.Ytaadhandkljcdaa.X.CQ
set_option linter.unusedVariables false
set_option linter.unusedSimpArgs false
/-- The reference's state is this one. -/
structure Rel (n : Nat) (p : PS) (m : Nat) (ws tm : List Int) (ou : List Bool) : Prop where
  wl : ws.length = n - 1
  tl : tm.length = n - 1
  ol : ou.length = n
  w : ∀ i : Nat, i < n - 1 → ws.getD i 0 = (CQ.look p.win (i : Int)).getD (-1)
  t : ∀ i : Nat, i < n - 1 → tm.getD i 0 = (CQ.look p.games (i : Int)).getD 0 ∧ 0 ≤ tm.getD i 0 ∧ tm.getD i 0 ≤ (m : Int)
  o : ∀ x : Nat, x < n → ou.getD x false = (CQ.look p.out (x : Int)).getD false
theorem getD_set {α : Type} {l : List α} {i : Nat} (hi : i < l.length) (j : Nat) (v d : α) : (l.set i v).getD j d = if i = j then v else l.getD j d := by
  simp only [List.getD_eq_getElem?_getD, List.getElem?_set]
  by_cases h : i = j
  · subst h; simp [hi]
  · simp [h]
theorem entrant_eq {n : Nat} {ts : List S42} {p : PS} {m : Nat} {ws tm : List Int} {ou : List Bool} (hw : Wf n ts) (hr : Rel n p m ws tm ou) {i : Nat} (hi : i < n - 1) (b : Bool) :
    fastiref23_entrant.f (sd ts i b).f0 (sd ts i b).f1 (sd ts i b).f2 ws = some ((whoO (CQ.look p.win) (sd ts i b)).getD (-1)) := by
  unfold fastiref23_entrant.f whoO
  by_cases e : (sd ts i b).f0 = 1
  · rw [if_pos e, if_pos e]; rfl
  · rw [if_neg e, if_neg e]
    rcases hw.ok i b hi with h | h
    · exact absurd h.1 e
    · obtain ⟨j, hj⟩ : ∃ j : Nat, (sd ts i b).f1 = (j : Int) := ⟨_, (Int.toNat_of_nonneg h.2.1).symm⟩
      rw [hj] at h ⊢
      rw [if_pos h.2.1, if_pos (by rw [hr.wl]; omega), rdn, hr.w j (by omega)]
theorem who_ge {n : Nat} {ts : List S42} {p : PS} (hw : Wf n ts) (hp : Inv n ts p) {i : Nat} (hi : i < n - 1) (b : Bool) : (0 ≤ (whoO (CQ.look p.win) (sd ts i b)).getD (-1)) ↔ (whoO (CQ.look p.win) (sd ts i b)).isSome = true := by
  cases h : whoO (CQ.look p.win) (sd ts i b) with
  | none => simp
  | some x => simp [(who_range hw hp hi h).1]
theorem win_ge {n : Nat} {ts : List S42} {p : PS} (hp : Inv n ts p) (k : Int) : ((CQ.look p.win k).getD (-1) < 0) ↔ CQ.look p.win k = none := by
  cases h : CQ.look p.win k with
  | none => simp
  | some x => have := (hp.key k x h).2.2; simp; omega
theorem ready_eq {n : Nat} {ts : List S42} {p : PS} {m : Nat} {ws tm : List Int} {ou : List Bool} (hw : Wf n ts) (hp : Inv n ts p) (hr : Rel n p m ws tm ou) {i : Nat} (hi : i < n - 1) :
    fastiref23_ready.f ts ws tm ou (i : Int) = some (CP.openS (CQ.look p.win) (ts.getD i z42) (i : Int)).2.2 := by
  have e0 := entrant_eq hw hr hi false
  have e1 := entrant_eq hw hr hi true
  have t0 : rd_T42 ts (i : Int) = ts.getD i z42 := rfl
  unfold fastiref23_ready.f
  rw [if_pos (by omega), if_pos (by rw [hr.wl]; omega), rdn, hr.w i hi, t0, open_sd]
  by_cases hn : CQ.look p.win (i : Int) = none
  · rw [if_pos ((win_ge hp _).2 hn), if_pos (by rw [hw.len]; omega)]
    have s0 : sd ts i false = (ts.getD i z42).f1 := rfl
    have s1 : sd ts i true = (ts.getD i z42).f2 := rfl
    rw [← s0, ← s1, e0, e1, hn]
    simp only [Option.bind_some, Option.isNone_none, Bool.true_and, ge_iff_le]
    have g0 := who_ge hw hp hi false
    have g1 := who_ge hw hp hi true
    by_cases h0 : (whoO (CQ.look p.win) (sd ts i false)).isSome = true
    · rw [if_pos (g0.2 h0), h0]
      by_cases h1 : (whoO (CQ.look p.win) (sd ts i true)).isSome = true
      · rw [h1, decide_eq_true (g1.2 h1)]; rfl
      · rw [decide_eq_false (fun h => h1 (g1.1 h)), Bool.eq_false_iff.2 h1]; rfl
    · rw [if_neg (fun h => h0 (g0.1 h)), Bool.eq_false_iff.2 h0]; rfl
  · rw [if_neg (fun h => hn ((win_ge hp _).1 h))]
    cases hl : CQ.look p.win (i : Int) with
    | none => exact absurd hl hn
    | some x => simp
theorem step_val {ts : List S42} {x : S45} {p : PS} {hm aw : Int} (hok : okScore ts x = true) (hn : CQ.look p.win x.f0 = none) (h1 : whoO (CQ.look p.win) (sd ts x.f0.toNat false) = some hm) (h2 : whoO (CQ.look p.win) (sd ts x.f0.toNat true) = some aw) {g : Int} (hg : (CQ.look p.games x.f0).getD 0 = g) {q1 q2 : Int} (hq : (if (g + 1).tmod 2 = 0 then (aw, hm) else (hm, aw)) = (q1, q2)) :
    stepP ts x p = some (if x.f1 = x.f2 then ⟨p.win, (x.f0, g + 1) :: p.games, p.out⟩ else if x.f1 < x.f2 then ⟨(x.f0, q2) :: p.win, (x.f0, g + 1) :: p.games, (q1, true) :: p.out⟩ else ⟨(x.f0, q1) :: p.win, (x.f0, g + 1) :: p.games, (q2, true) :: p.out⟩) := by
  unfold stepP
  rw [if_pos hok, open_eq hn h1 h2]
  simp only [if_true, hg, hq]
  by_cases e : x.f1 = x.f2
  · rw [if_pos e, if_pos e]
  · rw [if_neg e, if_neg e]
    by_cases l : x.f1 < x.f2
    · rw [if_pos l, if_pos l]
    · rw [if_neg l, if_neg l]
theorem step_bad1 {ts : List S42} {x : S45} {p : PS} (hok : okScore ts x = false) : stepP ts x p = none := by unfold stepP; rw [if_neg (by rw [hok]; decide)]
theorem step_bad2 {ts : List S42} {x : S45} {p : PS} (ho : (CP.openS (CQ.look p.win) (ts.getD x.f0.toNat z42) x.f0).2.2 = false) : stepP ts x p = none := by
  unfold stepP
  simp only [ho]
  split <;> rfl
theorem l1_flag (ts : List S42) (xs : List S45) (j : Nat) (hj : j < xs.length) (ws tm : List Int) (ou : List Bool) (k : Nat) :
    fastiref23_play.l1 (k + 1) ts xs (j : Int) ws tm ou = fastiref23_play.j2 k ts xs (j : Int) (!okScore ts xs[j]) ws tm ou xs[j].f0 xs[j].f1 xs[j].f2 := by
  have hx : rd_T45 xs (j : Int) = xs[j] := by rw [rd_T45, Int.toNat_natCast, List.getD_eq_getElem?_getD, List.getElem?_eq_getElem hj]; rfl
  obtain ⟨x, hxx⟩ : ∃ x, xs[j] = x := ⟨_, rfl⟩
  rw [hxx] at hx ⊢
  simp only [fastiref23_play.l1]
  rw [if_pos (by omega), if_pos (by omega), hx]
  unfold okScore
  by_cases h1 : x.f0 < 0
  · rw [if_pos h1, decide_eq_false (by omega : ¬ 0 ≤ x.f0)]; rfl
  · rw [if_neg h1, decide_eq_true (by omega : 0 ≤ x.f0)]
    by_cases h2 : x.f0 ≥ (ts.length : Int)
    · rw [if_pos h2, decide_eq_false (by omega : ¬ x.f0 < (ts.length : Int))]; rfl
    · rw [if_neg h2, decide_eq_true (by omega : x.f0 < (ts.length : Int))]
      by_cases h3 : x.f1 < 0
      · rw [if_pos h3, decide_eq_false (by omega : ¬ 0 ≤ x.f1)]; rfl
      · rw [if_neg h3, decide_eq_true (by omega : 0 ≤ x.f1)]
        by_cases h4 : x.f1 > 99
        · rw [if_pos h4, decide_eq_false (by omega : ¬ x.f1 ≤ 99)]; simp
        · rw [if_neg h4, decide_eq_true (by omega : x.f1 ≤ 99)]
          by_cases h5 : x.f2 < 0
          · rw [if_pos h5, decide_eq_false (by omega : ¬ 0 ≤ x.f2)]; rfl
          · rw [if_neg h5, decide_eq_true (by omega : 0 ≤ x.f2)]
            by_cases h6 : x.f2 > 99
            · rw [decide_eq_true h6, decide_eq_false (by omega : ¬ x.f2 ≤ 99)]; rfl
            · rw [decide_eq_false h6, decide_eq_true (by omega : x.f2 ≤ 99)]; rfl
theorem rel_step {n : Nat} {p : PS} {m : Nat} {ws tm : List Int} {ou : List Bool} (hr : Rel n p m ws tm ou) {i : Nat} (hi : i < n - 1) {g : Int} (hg : (CQ.look p.games (i : Int)).getD 0 = g) :
    Rel n ⟨p.win, ((i : Int), g + 1) :: p.games, p.out⟩ (m + 1) ws (tm.set i (g + 1)) ou := by
  refine ⟨hr.wl, by rw [List.length_set, hr.tl], hr.ol, hr.w, fun j hj => ?_, hr.o⟩
  have h := hr.t j hj
  rw [getD_set (by rw [hr.tl]; exact hi)]
  show (if i = j then g + 1 else tm.getD j 0) = (CQ.look (((i : Int), g + 1) :: p.games) (j : Int)).getD 0 ∧ _
  rw [look_cons]
  by_cases e : i = j
  · subst e
    rw [if_pos rfl, if_pos rfl]
    rw [hg] at h
    refine ⟨rfl, ?_, ?_⟩ <;> omega
  · rw [if_neg e, if_neg (by omega)]
    refine ⟨h.1, h.2.1, ?_⟩
    have := h.2.2
    omega
theorem rel_win {n : Nat} {p : PS} {m : Nat} {ws tm : List Int} {ou : List Bool} (hr : Rel n p m ws tm ou) {i : Nat} (hi : i < n - 1) {w : Int} {l : Nat} (hl : l < n) :
    Rel n ⟨((i : Int), w) :: p.win, p.games, ((l : Int), true) :: p.out⟩ m (ws.set i w) tm (ou.set l true) := by
  refine ⟨by rw [List.length_set, hr.wl], hr.tl, by rw [List.length_set, hr.ol], fun j hj => ?_, hr.t, fun x hx => ?_⟩
  · rw [getD_set (by rw [hr.wl]; exact hi)]
    show _ = (CQ.look (((i : Int), w) :: p.win) (j : Int)).getD (-1)
    rw [look_cons]
    by_cases e : i = j
    · subst e; rw [if_pos rfl, if_pos rfl]; rfl
    · rw [if_neg e, if_neg (by omega)]; exact hr.w j hj
  · rw [getD_set (by rw [hr.ol]; exact hl)]
    show _ = (CQ.look (((l : Int), true) :: p.out) (x : Int)).getD false
    rw [look_cons]
    by_cases e : l = x
    · subst e; rw [if_pos rfl, if_pos rfl]; rfl
    · rw [if_neg e, if_neg (by omega)]; exact hr.o x hx
theorem odd_even {g : Int} (h : 0 ≤ g) : g.tmod 2 = 1 ↔ (g + 1).tmod 2 = 0 := by
  rw [Int.tmod_eq_emod_of_nonneg h, Int.tmod_eq_emod_of_nonneg (by omega)]
  omega
/-- The reference's loop over the scores. -/
theorem play_loop {n : Nat} {ts : List S42} (hw : Wf n ts) (xs : List S45) (hx : xs.length ≤ 500) (d : Nat) : ∀ (j : Nat) (p : PS) (ws tm : List Int) (ou : List Bool), xs.length - j = d → j ≤ xs.length → Inv n ts p → Rel n p j ws tm ou →
    ∃ ws' tm' ou' b, Ev (fun k => fastiref23_play.l1 k ts xs (j : Int) ws tm ou) (ws', tm', ou', b) ∧ b = (playS ts (xs.drop j) p).isSome ∧ ∀ q, playS ts (xs.drop j) p = some q → Rel n q xs.length ws' tm' ou' := by
  induction d with
  | zero =>
    intro j p ws tm ou hd hj hp hr
    obtain rfl : j = xs.length := by omega
    refine ⟨ws, tm, ou, true, Ev.eq fun k => ?_, by rw [List.drop_length]; rfl, fun q hq => ?_⟩
    · simp only [fastiref23_play.l1]
      rw [if_neg (by omega)]
    · rw [List.drop_length] at hq
      cases hq
      exact hr
  | succ d ih =>
    intro j p ws tm ou hd hj hp hr
    have hjl : j < xs.length := by omega
    have hdrop : playS ts (xs.drop j) p = (stepP ts xs[j] p).bind fun q => playS ts (xs.drop (j + 1)) q := by rw [List.drop_eq_getElem_cons hjl]; rfl
    rw [hdrop]
    have hflag := l1_flag ts xs j hjl ws tm ou
    obtain ⟨x, hxx⟩ : ∃ x, xs[j] = x := ⟨_, rfl⟩
    rw [hxx]
    simp only [hxx] at hflag
    cases hok : okScore ts x with
    | false =>
      rw [step_bad1 hok]
      refine ⟨ws, tm, ou, false, Ev.step hflag (Ev.eq fun k => ?_), rfl, fun q hq => by cases hq⟩
      simp only [fastiref23_play.j2, hok, Bool.not_false, if_true]
    | true =>
      have hok' := hok
      simp only [okScore, Bool.and_eq_true, decide_eq_true_eq] at hok'
      rw [hw.len] at hok'
      obtain ⟨i, hi⟩ : ∃ i : Nat, x.f0 = (i : Int) := ⟨_, (Int.toNat_of_nonneg (by omega)).symm⟩
      have hin : i < n - 1 := by omega
      have hrd := ready_eq hw hp hr hin
      cases ho : (CP.openS (CQ.look p.win) (ts.getD i z42) (i : Int)).2.2 with
      | false =>
        rw [step_bad2 (by rw [hi, Int.toNat_natCast]; exact ho)]
        refine ⟨ws, tm, ou, false, Ev.step hflag (Ev.eq fun k => ?_), rfl, fun q hq => by cases hq⟩
        simp only [fastiref23_play.j2, hok, Bool.not_true, Bool.false_eq_true, if_false, hi]
        rw [hrd, ho]
        rfl
      | true =>
        obtain ⟨hn, hm, aw, h1, h2⟩ := (open_iff _ _ _).1 ho
        have hg := hr.t i hin
        obtain ⟨g, hgg⟩ : ∃ g, (CQ.look p.games (i : Int)).getD 0 = g := ⟨_, rfl⟩
        rw [hgg] at hg
        have hg1 := hg.1
        rw [hg1] at hg
        have e0 := entrant_eq hw hr hin false
        have e1 := entrant_eq hw hr hin true
        have h1' : whoO (CQ.look p.win) (sd ts i false) = some hm := h1
        have h2' : whoO (CQ.look p.win) (sd ts i true) = some aw := h2
        rw [h1'] at e0
        rw [h2'] at e1
        have r1 := who_range hw hp hin h1'
        have r2 := who_range hw hp hin h2'
        obtain ⟨q1, q2, hq, hr1, hr2, hj3⟩ : ∃ q1 q2 : Int, (if (g + 1).tmod 2 = 0 then (aw, hm) else (hm, aw)) = (q1, q2) ∧ (0 ≤ q1 ∧ q1 < (n : Int)) ∧ (0 ≤ q2 ∧ q2 < (n : Int)) ∧
            ∀ k, fastiref23_play.j2 (k + 1) ts xs (j : Int) (!true) ws tm ou (i : Int) x.f1 x.f2 = fastiref23_play.j3 k ts xs (j : Int) q1 q2 ws tm ou (i : Int) x.f1 x.f2 := by
          have t0 : rd_T42 ts (i : Int) = ts.getD i z42 := rfl
          have s0 : sd ts i false = (ts.getD i z42).f1 := rfl
          have s1 : sd ts i true = (ts.getD i z42).f2 := rfl
          rw [s0] at e0
          rw [s1] at e1
          have hgm : Int.tmod (rd tm (i : Int)) 2 = 1 ↔ (g + 1).tmod 2 = 0 := by rw [rdn, hg1]; exact odd_even hg.2.1
          by_cases par : (g + 1).tmod 2 = 0
          · refine ⟨aw, hm, if_pos par, r2, r1, fun k => ?_⟩
            simp only [fastiref23_play.j2, Bool.not_true, Bool.false_eq_true, if_false]
            rw [hrd, ho]
            simp only [Option.bind_some, if_true]
            rw [if_pos (by omega), if_pos (by rw [hw.len]; omega), t0, e0, e1]
            simp only [Option.bind_some, Option.getD_some]
            rw [if_pos (by rw [hr.tl]; omega), if_pos (hgm.2 par)]
          · refine ⟨hm, aw, if_neg par, r1, r2, fun k => ?_⟩
            simp only [fastiref23_play.j2, Bool.not_true, Bool.false_eq_true, if_false]
            rw [hrd, ho]
            simp only [Option.bind_some, if_true]
            rw [if_pos (by omega), if_pos (by rw [hw.len]; omega), t0, e0, e1]
            simp only [Option.bind_some, Option.getD_some]
            rw [if_pos (by rw [hr.tl]; omega), if_neg (fun h => par (hgm.1 h))]
        have hsv := step_val (ts := ts) (x := x) (p := p) (hm := hm) (aw := aw) hok (by rw [hi]; exact hn) (by rw [hi, Int.toNat_natCast]; exact h1') (by rw [hi, Int.toNat_natCast]; exact h2') (g := g) (by rw [hi]; exact hgg) hq
        rw [hi] at hsv
        have hw1 : wrap64 (rd tm (i : Int) + 1) = g + 1 := by rw [rdn, hg1, w64 (by omega) (by omega)]
        have fin : ∀ (q : PS) (ws' tm' : List Int) (ou' : List Bool), stepP ts x p = some q → Rel n q (j + 1) ws' tm' ou' → (∀ k, fastiref23_play.j3 (k + 1) ts xs (j : Int) q1 q2 ws tm ou (i : Int) x.f1 x.f2 = fastiref23_play.l1 k ts xs ((j + 1 : Nat) : Int) ws' tm' ou') →
            ∃ ws' tm' ou' b, Ev (fun k => fastiref23_play.l1 k ts xs (j : Int) ws tm ou) (ws', tm', ou', b) ∧ b = ((stepP ts x p).bind fun q => playS ts (xs.drop (j + 1)) q).isSome ∧ ∀ q, ((stepP ts x p).bind fun q => playS ts (xs.drop (j + 1)) q) = some q → Rel n q xs.length ws' tm' ou' := by
          intro q ws' tm' ou' hs hrel hk
          obtain ⟨a, b, c, d', hev, hb, hall⟩ := ih (j + 1) q ws' tm' ou' (by omega) (by omega) (inv_step hw hp hs) hrel
          refine ⟨a, b, c, d', Ev.step hflag ?_, by rw [hs]; exact hb, by rw [hs]; exact hall⟩
          simp only [hok, hi]
          exact Ev.step hj3 (Ev.step hk hev)
        have hws : (j : Int) + 1 = ((j + 1 : Nat) : Int) := by omega
        by_cases c1 : x.f1 = x.f2
        · rw [if_pos c1] at hsv
          refine fin _ ws (tm.set i (g + 1)) ou hsv (rel_step hr hin hgg) fun k => ?_
          simp only [fastiref23_play.j3]
          rw [if_pos (by omega), if_pos (by rw [hr.tl]; omega), hw1]
          simp only [Option.bind_some]
          rw [if_neg (by omega), if_neg (by omega), w64s j (by omega), Int.toNat_natCast]
        · rw [if_neg c1] at hsv
          obtain ⟨z1, hz1⟩ : ∃ z : Nat, q1 = (z : Int) := ⟨_, (Int.toNat_of_nonneg hr1.1).symm⟩
          obtain ⟨z2, hz2⟩ : ∃ z : Nat, q2 = (z : Int) := ⟨_, (Int.toNat_of_nonneg hr2.1).symm⟩
          subst hz1 hz2
          by_cases c2 : x.f1 < x.f2
          · rw [if_pos c2] at hsv
            refine fin _ (ws.set i (z2 : Int)) (tm.set i (g + 1)) (ou.set z1 true) hsv (rel_win (rel_step hr hin hgg) hin (by omega)) fun k => ?_
            simp only [fastiref23_play.j3]
            rw [if_pos (by omega), if_pos (by rw [hr.tl]; omega), hw1]
            simp only [Option.bind_some]
            rw [if_neg (by omega), if_pos c2, if_pos (by rw [hr.wl]; omega), if_pos (by omega), if_pos (by rw [hr.ol]; omega), w64s j (by omega), Int.toNat_natCast, Int.toNat_natCast]
          · rw [if_neg c2] at hsv
            refine fin _ (ws.set i (z1 : Int)) (tm.set i (g + 1)) (ou.set z2 true) hsv (rel_win (rel_step hr hin hgg) hin (by omega)) fun k => ?_
            simp only [fastiref23_play.j3]
            rw [if_pos (by omega), if_pos (by rw [hr.tl]; omega), hw1]
            simp only [Option.bind_some]
            rw [if_pos (by omega), if_pos (by rw [hr.wl]; omega), if_pos (by omega), if_pos (by rw [hr.ol]; omega), if_neg c2, w64s j (by omega), Int.toNat_natCast, Int.toNat_natCast]
theorem getD_replicate {α : Type} (m : Nat) (v d : α) (i : Nat) (h : i < m) : (List.replicate m v).getD i d = v := by
  simp [List.getD_eq_getElem?_getD, List.getElem?_replicate, h]
theorem rel_start {n : Nat} (h : 2 ≤ n) : Rel n ⟨[], [], []⟩ 0 (List.replicate (n - 1) (-1)) (List.replicate (n - 1) 0) (List.replicate n false) :=
  ⟨by simp, by simp, by simp, fun i hi => by rw [getD_replicate _ _ _ _ hi]; rfl, fun i hi => by rw [getD_replicate _ _ _ _ hi]; exact ⟨rfl, by omega, by omega⟩, fun x hx => by rw [getD_replicate _ _ _ _ hx]; rfl⟩
theorem play_start {ts : List S42} (xs : List S45) (ou : List Bool) (hl : ts.length ≤ 63) {r : List Int × List Int × List Bool × Bool} (d : Nat) : ∀ i : Nat, ts.length - i = d → i ≤ ts.length → Ev (fun k => fastiref23_play.l1 k ts xs 0 (List.replicate ts.length (-1)) (List.replicate ts.length 0) ou) r →
    Ev (fun k => fastiref23_play.l0 k ts xs (i : Int) (List.replicate i (-1)) (List.replicate i 0) ou) r := by
  induction d with
  | zero =>
    intro i hd hi h
    obtain rfl : i = ts.length := by omega
    refine Ev.step (fun k => ?_) h
    simp only [fastiref23_play.l0]
    rw [if_neg (by omega)]
  | succ d ih =>
    intro i hd hi h
    refine Ev.step (fun k => ?_) (ih (i + 1) (by omega) (by omega) h)
    simp only [fastiref23_play.l0]
    rw [if_pos (by omega), if_pos (by rw [List.length_replicate]; omega), if_pos (by rw [List.length_replicate]; omega), w64s i (by omega), List.replicate_succ' (n := i), List.replicate_succ' (n := i)]
/-- The reference's play, for a permitted number. -/
theorem refplay {n : Nat} (h2 : 2 ≤ n) (h64 : n ≤ 64) (xs : List S45) (hx : xs.length ≤ 500) :
    ∃ ws tm ou b, Ev (fun k => fastiref23_play.f k (n : Int) (CK.ties n) xs) (ws, tm, ou, b) ∧ b = (playS (CK.ties n) xs ⟨[], [], []⟩).isSome ∧ ∀ q, playS (CK.ties n) xs ⟨[], [], []⟩ = some q → Inv n (CK.ties n) q ∧ Rel n q xs.length ws tm ou := by
  have hw := wf h2 h64
  obtain ⟨ws, tm, ou, b, hev, hb, hall⟩ := play_loop hw xs hx xs.length 0 _ _ _ _ rfl (Nat.zero_le _) (inv_start hw) (rel_start h2)
  refine ⟨ws, tm, ou, b, ?_, hb, fun q hq => ⟨inv_play hw (inv_start hw) hq, hall q hq⟩⟩
  have h := play_start (ts := CK.ties n) xs (List.replicate n false) (by rw [hw.len]; omega) (CK.ties n).length 0 rfl (Nat.zero_le _) (r := (ws, tm, ou, b)) (by rw [hw.len]; exact hev)
  refine Ev.congr (fun k => ?_) h
  unfold fastiref23_play.f
  rw [if_pos (by omega), if_pos (by omega), Int.toNat_natCast]
  rfl
end Go.Proofs.Ytaadhandkljcdaa.Q
