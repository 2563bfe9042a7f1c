/- Plain laws of this project about tournaments (layer 23): what playing scores keeps true. No program and no memory in sight. -/
import Derived.Test.YtaadhandkljcdaaXPlayc
/- Plain laws of this project about tournaments (layer 23): what playing scores keeps true. No program and no memory in sight. -/
namespace Go.Proofs.Ytaadhandkljcdaa.Q
open Go.Proofs.Ytaadhandkljcdaa.X Go.Proofs.Ytaadhandkljcdaa.X.CQ
set_option linter.unusedVariables false
set_option linter.unusedSimpArgs false
theorem look_cons {α : Type} (l : List (Int × α)) (k v : _) (x : Int) : CQ.look ((k, v) :: l) x = if x = k then some v else CQ.look l x := by
  unfold CQ.look
  by_cases h : x = k
  · subst h; simp
  · have h2 : (k == x) = false := by rw [beq_eq_false_iff_ne]; exact fun e => h e.symm
    rw [if_neg h]; simp [h2]
theorem look_nil {α : Type} (x : Int) : CQ.look ([] : List (Int × α)) x = none := rfl
/-- One of a tie's two sides. -/
def sd (ts : List S42) (i : Nat) (b : Bool) : S40 := if b then (ts.getD i z42).f2 else (ts.getD i z42).f1
def pairs (ts : List S42) : List (Int × Int) := ts.flatMap fun t => [(t.f1.f0, t.f1.f1), (t.f2.f0, t.f2.f1)]
def sideOk (n i : Nat) (s : S40) : Bool := (s.f0 == 1 && decide (0 ≤ s.f1) && decide (s.f1 < (n : Int))) || (s.f0 == 3 && decide (0 ≤ s.f1) && decide (s.f1 < (i : Int)))
def allOk (n : Nat) : Nat → List S42 → Bool
  | _, [] => true
  | i, t :: l => sideOk n i t.f1 && sideOk n i t.f2 && allOk n (i + 1) l
def wfB (n : Nat) : Bool := (CK.ties n).length == n - 1 && allOk n 0 (CK.ties n) && decide (pairs (CK.ties n)).Nodup
theorem wf_all : ∀ n : Nat, n < 65 → 2 ≤ n → wfB n = true := by decide +kernel
theorem allOk_at {n : Nat} : ∀ {ts : List S42} {i : Nat}, allOk n i ts = true → ∀ j, j < ts.length → sideOk n (i + j) (ts.getD j z42).f1 = true ∧ sideOk n (i + j) (ts.getD j z42).f2 = true
  | [], _, _, j, hj => by simp at hj
  | t :: l, i, h, 0, _ => by
    simp only [allOk, Bool.and_eq_true] at h
    exact ⟨h.1.1, h.1.2⟩
  | t :: l, i, h, j + 1, hj => by
    simp only [allOk, Bool.and_eq_true] at h
    have := allOk_at h.2 j (by simpa using hj)
    rw [show i + (j + 1) = i + 1 + j by omega]
    exact this
theorem pairs_at : ∀ {ts : List S42} {i : Nat} (b : Bool), i < ts.length → (pairs ts)[2 * i + b.toNat]? = some ((sd ts i b).f0, (sd ts i b).f1)
  | [], _, _, hi => by simp at hi
  | t :: l, 0, b, _ => by cases b <;> rfl
  | t :: l, i + 1, b, hi => by
    have h := pairs_at (ts := l) (i := i) b (by simpa using hi)
    unfold pairs at h ⊢
    rw [List.flatMap_cons, show 2 * (i + 1) + b.toNat = (2 * i + b.toNat) + 2 by omega]
    exact h
theorem nodup_inj {α : Type} {l : List α} (h : l.Nodup) {i j : Nat} {x : α} (hi : l[i]? = some x) (hj : l[j]? = some x) : i = j := by
  obtain ⟨hi', rfl⟩ := List.getElem?_eq_some_iff.1 hi
  obtain ⟨hj', hx⟩ := List.getElem?_eq_some_iff.1 hj
  exact ((List.getElem_inj h).1 hx).symm
/-- What the ties of a number of entrants are like. -/
structure Wf (n : Nat) (ts : List S42) : Prop where
  len : ts.length = n - 1
  two : 2 ≤ n
  le : n ≤ 64
  ok : ∀ i b, i < n - 1 → ((sd ts i b).f0 = 1 ∧ 0 ≤ (sd ts i b).f1 ∧ (sd ts i b).f1 < (n : Int)) ∨ ((sd ts i b).f0 = 3 ∧ 0 ≤ (sd ts i b).f1 ∧ (sd ts i b).f1 < (i : Int))
  uni : ∀ i b j c, i < n - 1 → j < n - 1 → (sd ts i b).f0 = (sd ts j c).f0 → (sd ts i b).f1 = (sd ts j c).f1 → i = j ∧ b = c
theorem sideOk_iff {n i : Nat} {s : S40} (h : sideOk n i s = true) : (s.f0 = 1 ∧ 0 ≤ s.f1 ∧ s.f1 < (n : Int)) ∨ (s.f0 = 3 ∧ 0 ≤ s.f1 ∧ s.f1 < (i : Int)) := by
  simp only [sideOk, Bool.or_eq_true, Bool.and_eq_true, beq_iff_eq, decide_eq_true_eq] at h
  omega
theorem wf {n : Nat} (h2 : 2 ≤ n) (h64 : n ≤ 64) : Wf n (CK.ties n) := by
  have h := wf_all n (by omega) h2
  simp only [wfB, Bool.and_eq_true, beq_iff_eq, decide_eq_true_eq] at h
  obtain ⟨⟨hl, ha⟩, hn⟩ := h
  refine ⟨hl, h2, h64, fun i b hi => ?_, fun i b j c hi hj e0 e1 => ?_⟩
  · have := allOk_at ha i (by omega)
    rw [Nat.zero_add] at this
    cases b
    · exact sideOk_iff this.1
    · exact sideOk_iff this.2
  · have h1 := pairs_at b (by omega : i < (CK.ties n).length)
    have h3 := pairs_at c (by omega : j < (CK.ties n).length)
    rw [e0, e1] at h1
    have := nodup_inj hn h1 h3
    have hb : b.toNat < 2 := by cases b <;> decide
    have hc : c.toNat < 2 := by cases c <;> decide
    refine ⟨by omega, ?_⟩
    have e : b.toNat = c.toNat := by omega
    cases b <;> cases c <;> simp_all
/-- Who a side is, if known. -/
def whoO (f : Int → Option Int) (s : S40) : Option Int := if s.f0 = 1 then some s.f1 else f s.f1
theorem who_some {f : Int → Option Int} {s : S40} {x : Int} (h : whoO f s = some x) : CP.whoS f s = (x, true) := by
  unfold whoO at h
  unfold CP.whoS
  by_cases hs : s.f0 = 1
  · rw [if_pos hs] at h ⊢; cases h; rfl
  · rw [if_neg hs] at h ⊢; rw [h]; rfl
theorem who_none {f : Int → Option Int} {s : S40} (h : whoO f s = none) : (CP.whoS f s).2 = false := by
  unfold whoO at h
  unfold CP.whoS
  by_cases hs : s.f0 = 1
  · rw [if_pos hs] at h; cases h
  · rw [if_neg hs] at h ⊢; rw [h]; rfl
theorem open_iff (f : Int → Option Int) (t : S42) (i : Int) : (CP.openS f t i).2.2 = true ↔ f i = none ∧ ∃ h a, whoO f t.f1 = some h ∧ whoO f t.f2 = some a := by
  unfold CP.openS
  cases hf : f i with
  | some v => simp
  | none =>
    simp only [Option.isSome_none, Bool.false_eq_true, if_false, true_and, Bool.and_eq_true]
    cases h1 : whoO f t.f1 with
    | none => simp [who_none h1]
    | some x =>
      cases h2 : whoO f t.f2 with
      | none => simp [who_none h2]
      | some y => simp [who_some h1, who_some h2]
theorem open_sd (ts : List S42) (f : Int → Option Int) (i : Nat) : (CP.openS f (ts.getD i z42) (i : Int)).2.2 = ((f i).isNone && (whoO f (sd ts i false)).isSome && (whoO f (sd ts i true)).isSome) := by
  rw [Bool.eq_iff_iff, open_iff]
  simp only [Bool.and_eq_true, Option.isNone_iff_eq_none, Option.isSome_iff_exists]
  constructor
  · rintro ⟨h, x, y, h1, h2⟩; exact ⟨⟨h, x, h1⟩, y, h2⟩
  · rintro ⟨⟨h, x, h1⟩, y, h2⟩; exact ⟨h, x, y, h1, h2⟩
theorem open_eq {f : Int → Option Int} {t : S42} {i h a : Int} (hf : f i = none) (h1 : whoO f t.f1 = some h) (h2 : whoO f t.f2 = some a) : CP.openS f t i = (h, a, true) := by
  unfold CP.openS
  rw [hf]
  simp [who_some h1, who_some h2]
/-- What a score does to the state: the tie can be played; it is decided for one of its two, or stays open. -/
theorem step_inv {ts : List S42} {x : S45} {p q : PS} (h : stepP ts x p = some q) :
    ∃ hm aw, 0 ≤ x.f0 ∧ x.f0 < (ts.length : Int) ∧ CQ.look p.win x.f0 = none ∧ whoO (CQ.look p.win) (sd ts x.f0.toNat false) = some hm ∧ whoO (CQ.look p.win) (sd ts x.f0.toNat true) = some aw ∧
      q.games = (x.f0, (CQ.look p.games x.f0).getD 0 + 1) :: p.games ∧
      ((x.f1 = x.f2 ∧ q.win = p.win ∧ q.out = p.out) ∨ (x.f1 ≠ x.f2 ∧ ∃ w l, ((w = hm ∧ l = aw) ∨ (w = aw ∧ l = hm)) ∧ q.win = (x.f0, w) :: p.win ∧ q.out = (l, true) :: p.out)) := by
  unfold stepP at h
  by_cases hok : okScore ts x = true
  · rw [if_pos hok] at h
    simp only [okScore, Bool.and_eq_true, decide_eq_true_eq] at hok
    by_cases ho : (CP.openS (CQ.look p.win) (ts.getD x.f0.toNat z42) x.f0).2.2 = true
    · simp only [ho, if_true] at h
      obtain ⟨hn, hm, aw, h1, h2⟩ := (open_iff _ _ _).1 ho
      refine ⟨hm, aw, hok.1.1.1.1.1, hok.1.1.1.1.2, hn, h1, h2, ?_⟩
      rw [open_eq hn h1 h2] at h
      by_cases he : x.f1 = x.f2
      · rw [if_pos he] at h
        cases h
        exact ⟨rfl, .inl ⟨he, rfl, rfl⟩⟩
      · rw [if_neg he] at h
        cases h
        refine ⟨rfl, .inr ⟨he, _, _, ?_, rfl, rfl⟩⟩
        by_cases hp : ((CQ.look p.games x.f0).getD 0 + 1).tmod 2 = 0
        · rw [if_pos hp]
          by_cases hl : x.f1 < x.f2
          · rw [if_pos hl]; exact .inl ⟨rfl, rfl⟩
          · rw [if_neg hl]; exact .inr ⟨rfl, rfl⟩
        · rw [if_neg hp]
          by_cases hl : x.f1 < x.f2
          · rw [if_pos hl]; exact .inr ⟨rfl, rfl⟩
          · rw [if_neg hl]; exact .inl ⟨rfl, rfl⟩
    · simp only [ho] at h
      cases h
  · rw [if_neg hok] at h
    cases h
/-- What stays true while scores are played. -/
structure Inv (n : Nat) (ts : List S42) (p : PS) : Prop where
  one : ∀ i b j c x, i < n - 1 → j < n - 1 → CQ.look p.win (i : Int) = none → CQ.look p.win (j : Int) = none → whoO (CQ.look p.win) (sd ts i b) = some x → whoO (CQ.look p.win) (sd ts j c) = some x → i = j ∧ b = c
  alive : ∀ i b x, i < n - 1 → CQ.look p.win (i : Int) = none → whoO (CQ.look p.win) (sd ts i b) = some x → CQ.look p.out x = none
  key : ∀ k x, CQ.look p.win k = some x → 0 ≤ k ∧ k < ((n - 1 : Nat) : Int) ∧ 0 ≤ x ∧ x < (n : Int)
  both : ∀ i b, i < n - 1 → CQ.look p.win (i : Int) ≠ none → whoO (CQ.look p.win) (sd ts i b) ≠ none
  gone : ∀ x v, CQ.look p.out x = some v → v = true ∧ 0 ≤ x ∧ x < (n : Int)
theorem inv_start {n : Nat} {ts : List S42} (h : Wf n ts) : Inv n ts ⟨[], [], []⟩ := by
  refine ⟨fun i b j c x hi hj _ _ h1 h2 => ?_, fun _ _ _ _ _ _ => rfl, fun k x hk => (by cases hk), fun i b _ hk => absurd rfl hk, fun x v hk => (by cases hk)⟩
  unfold whoO at h1 h2
  by_cases e1 : (sd ts i b).f0 = 1
  · by_cases e2 : (sd ts j c).f0 = 1
    · rw [if_pos e1] at h1
      rw [if_pos e2] at h2
      exact h.uni i b j c hi hj (e1.trans e2.symm) ((Option.some.inj h1).trans (Option.some.inj h2).symm)
    · rw [if_neg e2] at h2; cases h2
  · rw [if_neg e1] at h1; cases h1
theorem who_range {n : Nat} {ts : List S42} {p : PS} (hw : Wf n ts) (hp : Inv n ts p) {i : Nat} {b : Bool} {x : Int} (hi : i < n - 1) (h : whoO (CQ.look p.win) (sd ts i b) = some x) : 0 ≤ x ∧ x < (n : Int) := by
  unfold whoO at h
  by_cases e : (sd ts i b).f0 = 1
  · rw [if_pos e] at h
    cases h
    rcases hw.ok i b hi with h1 | h1
    · exact h1.2
    · omega
  · rw [if_neg e] at h
    exact (hp.key _ _ h).2.2
/-- A tie is decided: who a side is then. -/
theorem who_put {f : Int → Option Int} {k w : Int} {s : S40} {x : Int} (h : whoO (fun y => if y = k then some w else f y) s = some x) : whoO f s = some x ∨ (s.f0 ≠ 1 ∧ s.f1 = k ∧ x = w) := by
  unfold whoO at h ⊢
  by_cases e : s.f0 = 1
  · rw [if_pos e] at h ⊢; exact .inl h
  · rw [if_neg e] at h ⊢
    by_cases hk : s.f1 = k
    · simp only [hk, if_true] at h
      exact .inr ⟨e, hk, (Option.some.inj h).symm⟩
    · simp only [hk, if_false] at h
      exact .inl h
theorem who_keeps {f : Int → Option Int} {k w : Int} {s : S40} {x : Int} (hf : f k = none) (h : whoO f s = some x) : whoO (fun y => if y = k then some w else f y) s = some x := by
  unfold whoO at h ⊢
  by_cases e : s.f0 = 1
  · rw [if_pos e] at h ⊢; exact h
  · rw [if_neg e] at h ⊢
    by_cases hk : s.f1 = k
    · rw [hk, hf] at h; cases h
    · simp only [hk, if_false]; exact h
theorem inv_decide {n : Nat} {ts : List S42} {p : PS} (hw : Wf n ts) (hp : Inv n ts p) {i : Nat} (hi : i < n - 1) (hn : CQ.look p.win (i : Int) = none) {b : Bool} {w l : Int}
    (h1 : whoO (CQ.look p.win) (sd ts i b) = some w) (h2 : whoO (CQ.look p.win) (sd ts i (!b)) = some l) (g : List (Int × Int)) : Inv n ts ⟨((i : Int), w) :: p.win, g, (l, true) :: p.out⟩ := by
  have hl : CQ.look (((i : Int), w) :: p.win) = fun y => if y = (i : Int) then some w else CQ.look p.win y := funext fun y => look_cons _ _ _ _
  have ho : CQ.look ((l, true) :: p.out) = fun y => if y = l then some true else CQ.look p.out y := funext fun y => look_cons _ _ _ _
  have hwr := who_range hw hp hi h1
  have hlr := who_range hw hp hi h2
  have hwl : w ≠ l := fun e => by
    have := (hp.one i b i (!b) w hi hi hn hn h1 (e ▸ h2)).2
    cases b <;> cases this
  have keyOf : ∀ j c, j < n - 1 → (sd ts j c).f0 ≠ 1 → (sd ts j c).f0 = 3 := fun j c hj h => by rcases hw.ok j c hj with h' | h' <;> omega
  refine ⟨?_, ?_, ?_, ?_, ?_⟩
  · intro j c j' c' x hj hj' hd hd' e e'
    simp only [hl] at hd hd' e e'
    by_cases ej : (j : Int) = (i : Int)
    · simp [ej] at hd
    by_cases ej' : (j' : Int) = (i : Int)
    · simp [ej'] at hd'
    simp only [ej, ej', if_false] at hd hd'
    rcases who_put e with u | ⟨a1, a2, a3⟩ <;> rcases who_put e' with u' | ⟨b1, b2, b3⟩
    · exact hp.one j c j' c' x hj hj' hd hd' u u'
    · subst b3
      have := (hp.one j c i b x hj hi hd hn u h1).1
      omega
    · subst a3
      have := (hp.one j' c' i b x hj' hi hd' hn u' h1).1
      omega
    · exact hw.uni j c j' c' hj hj' ((keyOf j c hj a1).trans (keyOf j' c' hj' b1).symm) (a2.trans b2.symm)
  · intro j c x hj hd e
    simp only [hl] at hd e
    simp only [ho]
    by_cases ej : (j : Int) = (i : Int)
    · simp [ej] at hd
    simp only [ej, if_false] at hd
    rcases who_put e with e | ⟨a1, a2, rfl⟩
    · by_cases exl : x = l
      · subst exl
        have := (hp.one j c i (!b) x hj hi hd hn e h2).1
        omega
      · rw [if_neg exl]
        exact hp.alive j c x hj hd e
    · rw [if_neg hwl]
      exact hp.alive i b x hi hn h1
  · intro k x hk
    simp only [hl] at hk
    by_cases e : k = (i : Int)
    · rw [if_pos e] at hk
      cases hk
      subst e
      exact ⟨by omega, by omega, hwr⟩
    · rw [if_neg e] at hk
      exact hp.key k x hk
  · intro j c hj hd
    simp only [hl] at hd ⊢
    intro hno
    have hold : whoO (CQ.look p.win) (sd ts j c) = none := by
      cases e : whoO (CQ.look p.win) (sd ts j c) with
      | none => rfl
      | some x => rw [who_keeps hn e] at hno; cases hno
    by_cases ej : j = i
    · subst ej
      cases b <;> cases c <;> simp_all
    · have : ¬ (j : Int) = (i : Int) := by omega
      simp only [this, if_false] at hd
      exact hp.both j c hj hd hold
  · intro x v hx
    simp only [ho] at hx
    by_cases e : x = l
    · rw [if_pos e] at hx
      cases hx
      subst e
      exact ⟨rfl, hlr⟩
    · rw [if_neg e] at hx
      exact hp.gone x v hx
theorem inv_games {n : Nat} {ts : List S42} {p : PS} (hp : Inv n ts p) (g : List (Int × Int)) : Inv n ts ⟨p.win, g, p.out⟩ := ⟨hp.one, hp.alive, hp.key, hp.both, hp.gone⟩
theorem inv_step {n : Nat} {ts : List S42} {x : S45} {p q : PS} (hw : Wf n ts) (hp : Inv n ts p) (h : stepP ts x p = some q) : Inv n ts q := by
  obtain ⟨hm, aw, h0, hlt, hn, h1, h2, hg, hcase⟩ := step_inv h
  obtain ⟨qw, qg, qo⟩ := q
  simp only at hg hcase
  rw [hw.len] at hlt
  obtain ⟨i, hi⟩ : ∃ i : Nat, x.f0 = (i : Int) := ⟨x.f0.toNat, (Int.toNat_of_nonneg h0).symm⟩
  rw [hi] at hn h1 h2 hlt hcase
  rw [Int.toNat_natCast] at h1 h2
  rcases hcase with ⟨_, rfl, rfl⟩ | ⟨_, w, l, hwl, rfl, rfl⟩
  · exact inv_games hp _
  · rcases hwl with ⟨rfl, rfl⟩ | ⟨rfl, rfl⟩
    · exact inv_decide hw hp (by omega) hn (b := false) h1 h2 _
    · exact inv_decide hw hp (by omega) hn (b := true) h2 h1 _
theorem inv_play {n : Nat} {ts : List S42} (hw : Wf n ts) : ∀ {xs : List S45} {p q : PS}, Inv n ts p → playS ts xs p = some q → Inv n ts q
  | [], p, q, hp, h => by cases h; exact hp
  | x :: xs, p, q, hp, h => by
    unfold playS at h
    obtain ⟨r, hr, h⟩ := Option.bind_eq_some_iff.1 h
    exact inv_play hw (inv_step hw hp hr) h
end Go.Proofs.Ytaadhandkljcdaa.Q
