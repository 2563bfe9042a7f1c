/- Plain laws of this project about tournaments (layer 23): two neighbouring scores about different ties exchanged. No program in sight. -/
import Derived.Test.YtaadhandkljcdaaQState
import Derived.Test.YtaadhandkljcdaaK
/- Plain laws of this project about tournaments (layer 23): two neighbouring scores about different ties exchanged. No program in sight. -/
namespace Go.Proofs.Ytaadhandkljcdaa.Q
open Go.RowKit Go.Proofs.Ytaadhandkljcdaa.X Go.Proofs.YtaadhandkljcdaaW.PrintWords Go.Proofs.YtaadhandkljcdaaW.PrintLast Go.Proofs.Ytaadhandkljcdaa.K Go.Proofs.Ytaadhandkljcdaa.X.CQ
set_option linter.unusedVariables false
set_option linter.unusedSimpArgs false
/-- Two states that answer alike. -/
structure Eqv (p q : PS) : Prop where
  w : CQ.look p.win = CQ.look q.win
  g : CQ.look p.games = CQ.look q.games
  o : ∀ x, (CQ.look p.out x).getD false = (CQ.look q.out x).getD false
theorem Eqv.refl (p : PS) : Eqv p p := ⟨rfl, rfl, fun _ => rfl⟩
def wl (x : S45) (hm aw g : Int) : Int × Int := if x.f1 < x.f2 then ((if (g + 1).tmod 2 = 0 then (aw, hm) else (hm, aw)).2, (if (g + 1).tmod 2 = 0 then (aw, hm) else (hm, aw)).1) else (if (g + 1).tmod 2 = 0 then (aw, hm) else (hm, aw))
def res (x : S45) (p : PS) (hm aw g : Int) : PS := if x.f1 = x.f2 then ⟨p.win, (x.f0, g + 1) :: p.games, p.out⟩ else ⟨(x.f0, (wl x hm aw g).1) :: p.win, (x.f0, g + 1) :: p.games, ((wl x hm aw g).2, true) :: p.out⟩
theorem step_res {ts : List S42} {x : S45} {p : PS} {hm aw g : Int} (hok : okScore ts x = true) (hn : CQ.look p.win x.f0 = none) (h1 : whoO (CQ.look p.win) (sd ts x.f0.toNat false) = some hm) (h2 : whoO (CQ.look p.win) (sd ts x.f0.toNat true) = some aw) (hg : (CQ.look p.games x.f0).getD 0 = g) :
    stepP ts x p = some (res x p hm aw g) := by
  unfold stepP res
  rw [if_pos hok, open_eq hn h1 h2]
  simp only [if_true, hg]
  by_cases e : x.f1 = x.f2
  · rw [if_pos e, if_pos e]
  · rw [if_neg e, if_neg e]; rfl
theorem step_ok {ts : List S42} {x : S45} {p q : PS} (h : stepP ts x p = some q) : okScore ts x = true := by
  unfold stepP at h
  by_cases hok : okScore ts x = true
  · exact hok
  · rw [if_neg hok] at h; cases h
theorem step_known {ts : List S42} {x : S45} {p q : PS} (h : stepP ts x p = some q) : ∃ hm aw, CQ.look p.win x.f0 = none ∧ whoO (CQ.look p.win) (sd ts x.f0.toNat false) = some hm ∧ whoO (CQ.look p.win) (sd ts x.f0.toNat true) = some aw := by
  obtain ⟨hm, aw, _, _, hn, h1, h2, _⟩ := step_inv h
  exact ⟨hm, aw, hn, h1, h2⟩
theorem look_put {α : Type} {l m : List (Int × α)} (h : CQ.look l = CQ.look m) (k : Int) (v : α) : CQ.look ((k, v) :: l) = CQ.look ((k, v) :: m) := by
  funext x
  rw [look_cons, look_cons, h]
theorem look_swap {α : Type} (l : List (Int × α)) {j k : Int} (h : j ≠ k) (u v : α) : CQ.look ((j, u) :: (k, v) :: l) = CQ.look ((k, v) :: (j, u) :: l) := by
  funext x
  simp only [look_cons]
  by_cases e : x = j
  · subst e; simp [h]
  · simp [e]
theorem res_eqv {x : S45} {p p' : PS} (he : Eqv p p') (hm aw g : Int) : Eqv (res x p hm aw g) (res x p' hm aw g) := by
  unfold res
  by_cases e : x.f1 = x.f2
  · rw [if_pos e, if_pos e]
    exact ⟨he.w, look_put he.g _ _, he.o⟩
  · rw [if_neg e, if_neg e]
    refine ⟨look_put he.w _ _, look_put he.g _ _, fun y => ?_⟩
    show (CQ.look (_ :: p.out) y).getD false = (CQ.look (_ :: p'.out) y).getD false
    rw [look_cons, look_cons]
    by_cases h : y = (wl x hm aw g).2
    · rw [if_pos h, if_pos h]
    · rw [if_neg h, if_neg h]; exact he.o y
theorem step_eqv {ts : List S42} {x : S45} {p p' q : PS} (he : Eqv p p') (h : stepP ts x p = some q) : ∃ q', stepP ts x p' = some q' ∧ Eqv q q' := by
  have hok := step_ok h
  obtain ⟨hm, aw, hn, h1, h2⟩ := step_known h
  rw [step_res hok hn h1 h2 rfl] at h
  cases h
  refine ⟨_, step_res (p := p') hok (by rw [← he.w]; exact hn) (by rw [← he.w]; exact h1) (by rw [← he.w]; exact h2) (by rw [← he.g]), res_eqv he _ _ _⟩
theorem play_eqv {ts : List S42} : ∀ {xs : List S45} {p p' q : PS}, Eqv p p' → playS ts xs p = some q → ∃ q', playS ts xs p' = some q' ∧ Eqv q q'
  | [], p, p', q, he, h => by cases h; exact ⟨p', rfl, he⟩
  | x :: xs, p, p', q, he, h => by
    unfold playS at h
    obtain ⟨r, hr, h⟩ := Option.bind_eq_some_iff.1 h
    obtain ⟨r', hr', he'⟩ := step_eqv he hr
    obtain ⟨q', hq', hee⟩ := play_eqv he' h
    refine ⟨q', ?_, hee⟩
    unfold playS
    rw [hr']
    exact hq'
theorem alive_eqv {p q : PS} (h : Eqv p q) (n : Nat) : CS.aliveTo p n = CS.aliveTo q n := by
  unfold CS.aliveTo
  rw [List.filter_congr fun (x : Nat) _ => by rw [h.o (x : Int)]]
theorem next_eqv {ts : List S42} {p q : PS} (h : Eqv p q) (m : Nat) : CS.nextTo ts p m = CS.nextTo ts q m := by
  unfold CS.nextTo
  rw [h.w]
/-- What a score leaves known. -/
theorem res_win (x : S45) (p : PS) (hm aw g : Int) : (res x p hm aw g).win = p.win ∨ ∃ v, (res x p hm aw g).win = (x.f0, v) :: p.win := by
  unfold res
  by_cases e : x.f1 = x.f2
  · rw [if_pos e]; exact .inl rfl
  · rw [if_neg e]; exact .inr ⟨_, rfl⟩
theorem res_games (x : S45) (p : PS) (hm aw g : Int) : (res x p hm aw g).games = (x.f0, g + 1) :: p.games := by
  unfold res
  split <;> rfl
theorem res_keeps {x : S45} {p : PS} {hm aw g : Int} (hn : CQ.look p.win x.f0 = none) {s : S40} {v : Int} (h : whoO (CQ.look p.win) s = some v) : whoO (CQ.look (res x p hm aw g).win) s = some v := by
  rcases res_win x p hm aw g with e | ⟨w, e⟩
  · rw [e]; exact h
  · rw [e, show CQ.look ((x.f0, w) :: p.win) = (fun y => if y = x.f0 then some w else CQ.look p.win y) from funext fun y => look_cons _ _ _ _]
    exact who_keeps hn h
theorem res_other {x : S45} {p : PS} {hm aw g : Int} {k : Int} (hk : k ≠ x.f0) : CQ.look (res x p hm aw g).win k = CQ.look p.win k ∧ CQ.look (res x p hm aw g).games k = CQ.look p.games k := by
  constructor
  · rcases res_win x p hm aw g with e | ⟨w, e⟩
    · rw [e]
    · rw [e, look_cons, if_neg hk]
  · rw [res_games, look_cons, if_neg hk]
theorem res_swap {a b : S45} (hab : a.f0 ≠ b.f0) (p : PS) (ha aa ga hb ab gb : Int) : Eqv (res b (res a p ha aa ga) hb ab gb) (res a (res b p hb ab gb) ha aa ga) := by
  unfold res
  by_cases e1 : a.f1 = a.f2 <;> by_cases e2 : b.f1 = b.f2 <;> simp only [e1, e2, if_true, if_false]
  · exact ⟨rfl, look_swap _ (Ne.symm hab) _ _, fun _ => rfl⟩
  · exact ⟨rfl, look_swap _ (Ne.symm hab) _ _, fun _ => rfl⟩
  · exact ⟨rfl, look_swap _ (Ne.symm hab) _ _, fun _ => rfl⟩
  · refine ⟨look_swap _ (Ne.symm hab) _ _, look_swap _ (Ne.symm hab) _ _, fun y => ?_⟩
    simp only [look_cons]
    split <;> split <;> rfl
theorem swap_two {ts : List S42} {a b : S45} {p q2 r2 : PS} (hab : a.f0 ≠ b.f0) (h1 : playS ts [a, b] p = some q2) (h2 : playS ts [b, a] p = some r2) : Eqv q2 r2 := by
  unfold playS at h1 h2
  obtain ⟨q1, hq1, h1⟩ := Option.bind_eq_some_iff.1 h1
  obtain ⟨r1, hr1, h2⟩ := Option.bind_eq_some_iff.1 h2
  unfold playS at h1 h2
  obtain ⟨q2', hq2, h1⟩ := Option.bind_eq_some_iff.1 h1
  obtain ⟨r2', hr2, h2⟩ := Option.bind_eq_some_iff.1 h2
  cases h1
  cases h2
  have oka := step_ok hq1
  have okb := step_ok hr1
  obtain ⟨ha, aa, na, a1, a2⟩ := step_known hq1
  obtain ⟨hb, ab, nb, b1, b2⟩ := step_known hr1
  rw [step_res oka na a1 a2 rfl] at hq1
  rw [step_res okb nb b1 b2 rfl] at hr1
  cases hq1
  cases hr1
  rw [step_res (hm := hb) (aw := ab) okb (by rw [(res_other (Ne.symm hab)).1]; exact nb) (res_keeps na b1) (res_keeps na b2) (by rw [(res_other (Ne.symm hab)).2])] at hq2
  rw [step_res (hm := ha) (aw := aa) oka (by rw [(res_other hab).1]; exact na) (res_keeps nb a1) (res_keeps nb a2) (by rw [(res_other hab).2])] at hr2
  cases hq2
  cases hr2
  exact res_swap hab p _ _ _ _ _ _
theorem play_append (ts : List S42) : ∀ (xs ys : List S45) (p : PS), playS ts (xs ++ ys) p = (playS ts xs p).bind (playS ts ys)
  | [], ys, p => rfl
  | x :: xs, ys, p => by
    show (stepP ts x p).bind (fun q => playS ts (xs ++ ys) q) = ((stepP ts x p).bind fun q => playS ts xs q).bind _
    cases stepP ts x p with
    | none => rfl
    | some q => exact play_append ts xs ys q
theorem swap_play {ts : List S42} {a b : S45} (hab : a.f0 ≠ b.f0) {pre post : List S45} {p q r : PS} (h1 : playS ts (pre ++ a :: b :: post) p = some q) (h2 : playS ts (pre ++ b :: a :: post) p = some r) : Eqv q r := by
  rw [play_append] at h1 h2
  obtain ⟨m, hm, h1⟩ := Option.bind_eq_some_iff.1 h1
  obtain ⟨m', hm', h2⟩ := Option.bind_eq_some_iff.1 h2
  rw [hm] at hm'
  cases hm'
  have e1 : a :: b :: post = [a, b] ++ post := rfl
  have e2 : b :: a :: post = [b, a] ++ post := rfl
  rw [e1, play_append] at h1
  rw [e2, play_append] at h2
  obtain ⟨m1, hm1, h1⟩ := Option.bind_eq_some_iff.1 h1
  obtain ⟨m2, hm2, h2⟩ := Option.bind_eq_some_iff.1 h2
  obtain ⟨r', hr', he⟩ := play_eqv (swap_two hab hm1 hm2) h1
  rw [hr'] at h2
  cases h2
  exact he
end Go.Proofs.Ytaadhandkljcdaa.Q
