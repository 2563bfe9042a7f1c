/- Proved here: the plain law behind CupsPlaySpec: Check and Play answer as the reference, for all numbers and at most 500 scores. -/
import Derived.Test.YtaadhandkljcdaaQRefPlay
namespace Go.Proofs.Ytaadhandkljcdaa.Q
open Go.RowKit Go.Proofs.Ytaadhandkljcdaa.X Go.Proofs.YtaadhandkljcdaaW.PrintWords Go.Proofs.YtaadhandkljcdaaW.PrintLast Go.Proofs.Ytaadhandkljcdaa.K Go.Proofs.Ytaadhandkljcdaa.X.CQ
set_option linter.unusedVariables false
set_option linter.unusedSimpArgs false
theorem sane_ev : Ev (fun _ => fastilaw23_sane.f) true := Ev.all fun _ => rfl
def flat42 (t : S42) : List Int := [t.f0, t.f1.f0, t.f1.f1, t.f1.f2, t.f2.f0, t.f2.f1, t.f2.f2]
theorem flat42_inj {a b : S42} (h : flat42 a = flat42 b) : a = b := by
  obtain ⟨a0, ⟨a1, a2, a3⟩, a4, a5, a6⟩ := a
  obtain ⟨b0, ⟨b1, b2, b3⟩, b4, b5, b6⟩ := b
  simp only [flat42, List.cons.injEq, and_true] at h
  obtain ⟨rfl, rfl, rfl, rfl, rfl, rfl, rfl⟩ := h
  rfl
theorem map_flat_inj : ∀ {l m : List S42}, l.map flat42 = m.map flat42 → l = m
  | [], [], _ => rfl
  | [], b :: m, h => by simp at h
  | a :: l, [], h => by simp at h
  | a :: l, b :: m, h => by
    simp only [List.map_cons, List.cons.injEq] at h
    rw [flat42_inj h.1, map_flat_inj h.2]
def refmakeB (n : Nat) : Bool := decide ((fastiref23_Make.f 300 (n : Int)).map (fun r => (r.1.map flat42, r.2)) = some ((CK.ties n).map flat42, 0))
theorem refmake_flat : ∀ n : Nat, n < 65 → 2 ≤ n → refmakeB n = true := by decide +kernel
theorem refmake_in (n : Nat) (h : n < 65) (h2 : 2 ≤ n) : fastiref23_Make.f 300 (n : Int) = some (CK.ties n, 0) := by
  have e := of_decide_eq_true (refmake_flat n h h2)
  obtain ⟨⟨l, z⟩, h1, h3⟩ := Option.map_eq_some_iff.1 e
  simp only [Prod.mk.injEq] at h3
  rw [h1, map_flat_inj h3.1, h3.2]
theorem refmake_ev {n : Nat} (h2 : 2 ≤ n) (h64 : n ≤ 64) : Ev (fun k => fastiref23_Make.f k (n : Int)) (CK.ties n, 0) := Ev.of (fastiref23_Make.mono _) (refmake_in n (by omega) h2)
theorem in_bad (a0 : Int) (h : ¬ (2 ≤ a0 ∧ a0 ≤ 64)) : fastiref23_in.f a0 = some false := by
  unfold fastiref23_in.f
  by_cases h2 : a0 ≥ 2
  · rw [if_pos h2]
    have : ¬ a0 ≤ 64 := by omega
    simp [this]
  · rw [if_neg h2]
theorem refmake_bad (a0 : Int) (h : ¬ (2 ≤ a0 ∧ a0 ≤ 64)) : Ev (fun k => fastiref23_Make.f k a0) ([], 1) := Ev.all fun k => by
  unfold fastiref23_Make.f
  rw [in_bad a0 h]
  rfl
theorem same_loop (l : List Int) (hl : l.length ≤ 1000) (d : Nat) : ∀ i : Nat, l.length - i = d → i ≤ l.length → Ev (fun k => fastiref23_SameInts.l0 k l l (i : Int)) true := by
  induction d with
  | zero =>
    intro i hd hi
    refine Ev.eq fun k => ?_
    simp only [fastiref23_SameInts.l0]
    rw [if_neg (by omega)]
  | succ d ih =>
    intro i hd hi
    refine Ev.step (fun k => ?_) (ih (i + 1) (by omega) (by omega))
    simp only [fastiref23_SameInts.l0]
    simp only [show (i : Int) < (l.length : Int) by omega, show (0 : Int) ≤ (i : Int) by omega, if_true]
    rw [w64s i (by omega)]
theorem same_ev (l : List Int) (hl : l.length ≤ 1000) : Ev (fun k => fastiref23_SameInts.f k l l) true := by
  refine Ev.congr (fun k => ?_) (same_loop l hl l.length 0 rfl (Nat.zero_le _))
  unfold fastiref23_SameInts.f
  rw [if_pos rfl]
  rfl
/-- The reference's loops over entrants and ties. -/
theorem next_loop {n : Nat} {ts : List S42} {p : PS} {m : Nat} {ws tm : List Int} {ou : List Bool} (hw : Wf n ts) (hp : Inv n ts p) (hr : Rel n p m ws tm ou) (al : List Int) (d : Nat) : ∀ i : Nat, n - 1 - i = d → i ≤ n - 1 →
    Ev (fun k => fastiref23_Play.l1 k ts al (CS.nextTo ts p i) (i : Int) ws tm ou) (al, CS.nextTo ts p (n - 1), 0) := by
  have hn := hw.le
  induction d with
  | zero =>
    intro i hd hi
    obtain rfl : i = n - 1 := by omega
    refine Ev.eq fun k => ?_
    simp only [fastiref23_Play.l1]
    rw [if_neg (by rw [hw.len]; omega)]
  | succ d ih =>
    intro i hd hi
    refine Ev.step (fun k => ?_) (ih (i + 1) (by omega) (by omega))
    have hl := CS.next_len ts p i
    simp only [fastiref23_Play.l1]
    rw [if_pos (by rw [hw.len]; omega), ready_eq hw hp hr (by omega)]
    cases ho : (CP.openS (CQ.look p.win) (ts.getD i z42) (i : Int)).2.2 with
    | true =>
      simp only [Option.bind_some, if_true]
      rw [if_pos (by omega), w64s i (by omega), CS.next_more ho]
    | false =>
      simp only [Option.bind_some, Bool.false_eq_true, if_false]
      rw [w64s i (by omega), CS.next_not ho]
theorem alive_loop {n : Nat} {ts : List S42} {p : PS} {m : Nat} {ws tm : List Int} {ou : List Bool} (hw : Wf n ts) (hp : Inv n ts p) (hr : Rel n p m ws tm ou) (d : Nat) : ∀ i : Nat, n - i = d → i ≤ n →
    Ev (fun k => fastiref23_Play.l0 k (n : Int) ts (CS.aliveTo p i) (i : Int) ws tm ou) (CS.aliveTo p n, CS.nextTo ts p (n - 1), 0) := by
  have hn := hw.le
  induction d with
  | zero =>
    intro i hd hi
    obtain rfl : n = i := by omega
    refine Ev.step (fun k => ?_) (next_loop hw hp hr (CS.aliveTo p n) (n - 1) 0 (by omega) (Nat.zero_le _))
    simp only [fastiref23_Play.l0]
    rw [if_neg (by omega)]
    rfl
  | succ d ih =>
    intro i hd hi
    refine Ev.step (fun k => ?_) (ih (i + 1) (by omega) (by omega))
    have hl := CS.alive_len p i
    have ho := hr.o i (by omega)
    simp only [fastiref23_Play.l0]
    rw [if_pos (by omega), if_pos (by omega), if_pos (by rw [hr.ol]; omega), rdOf, Int.toNat_natCast, ho]
    cases hb : (CQ.look p.out (i : Int)).getD false with
    | true =>
      rw [if_pos rfl, w64s i (by omega), CS.alive_in hb]
    | false =>
      rw [if_neg (by decide), if_pos (by omega), w64s i (by omega), CS.alive_more hb]
theorem refPlay_bad (a0 : Int) (h : ¬ (2 ≤ a0 ∧ a0 ≤ 64)) (xs : List S45) : Ev (fun k => fastiref23_Play.f k a0 xs) ([], [], 1) := by
  unfold fastiref23_Play.f
  exact Ev.bind (refmake_bad a0 h) (Ev.all fun k => rfl)
theorem refCheck_bad (a0 : Int) (h : ¬ (2 ≤ a0 ∧ a0 ≤ 64)) (xs : List S45) : Ev (fun k => fastiref23_Check.f k a0 xs) 1 := by
  unfold fastiref23_Check.f
  exact Ev.bind (refmake_bad a0 h) (Ev.all fun k => rfl)
theorem refPlay_ok {n : Nat} (h2 : 2 ≤ n) (h64 : n ≤ 64) (xs : List S45) (hx : xs.length ≤ 500) :
    Ev (fun k => fastiref23_Play.f k (n : Int) xs) (match playS (CK.ties n) xs ⟨[], [], []⟩ with | some p => (CS.aliveTo p n, CS.nextTo (CK.ties n) p (n - 1), 0) | none => ([], [], 230)) := by
  obtain ⟨ws, tm, ou, b, hev, hb, hall⟩ := refplay h2 h64 xs hx
  unfold fastiref23_Play.f
  refine Ev.bind (refmake_ev h2 h64) ?_
  simp only [if_true]
  refine Ev.bind hev ?_
  cases hq : playS (CK.ties n) xs ⟨[], [], []⟩ with
  | none =>
    rw [hq] at hb
    subst hb
    exact Ev.all fun k => rfl
  | some q =>
    rw [hq] at hb
    subst hb
    obtain ⟨hi, hr⟩ := hall q hq
    exact alive_loop (wf h2 h64) hi hr n 0 (by omega) (Nat.zero_le _)
theorem refCheck_ok {n : Nat} (h2 : 2 ≤ n) (h64 : n ≤ 64) (xs : List S45) (hx : xs.length ≤ 500) :
    Ev (fun k => fastiref23_Check.f k (n : Int) xs) (if (playS (CK.ties n) xs ⟨[], [], []⟩).isSome = true then 0 else 230) := by
  obtain ⟨ws, tm, ou, b, hev, hb, hall⟩ := refplay h2 h64 xs hx
  unfold fastiref23_Check.f
  refine Ev.bind (refmake_ev h2 h64) ?_
  simp only [if_true]
  refine Ev.bind hev ?_
  subst hb
  cases (playS (CK.ties n) xs ⟨[], [], []⟩).isSome <;> exact Ev.all fun k => rfl
end Go.Proofs.Ytaadhandkljcdaa.Q
namespace Go.Proofs.Ytaadhandkljcdaa.Pure
open Go.RowKit Go.Proofs.Ytaadhandkljcdaa.X Go.Proofs.YtaadhandkljcdaaW.PrintWords Go.Proofs.YtaadhandkljcdaaW.PrintLast Go.Proofs.Ytaadhandkljcdaa.K Go.Proofs.Ytaadhandkljcdaa.X.CQ Go.Proofs.Ytaadhandkljcdaa.Q
theorem CupsPlaySpec (a0 : Int) (l1 : List S45) (_ : (Lit.int .i64 a0).wf = true) : ∃ k, fastilaw23_CupsPlaySpec.f k a0 l1 = some true := by
  refine Ev.rounds (g := fun k => fastilaw23_CupsPlaySpec.f k a0 l1) ?_
  unfold fastilaw23_CupsPlaySpec.f
  refine Ev.bind sane_ev ?_
  simp only [if_true]
  by_cases hl : (l1.length : Int) > 500
  · simp only [if_pos hl]; exact Ev.now _
  simp only [if_neg hl]
  have hl' : l1.length ≤ 500 := by omega
  by_cases h : 2 ≤ a0 ∧ a0 ≤ 64
  · obtain ⟨n, rfl⟩ : ∃ n : Nat, a0 = (n : Int) := ⟨a0.toNat, (Int.toNat_of_nonneg (by omega)).symm⟩
    have h2 : 2 ≤ n := by omega
    have h64 : n ≤ 64 := by omega
    have rp := refPlay_ok h2 h64 l1 hl'
    have rc := refCheck_ok h2 h64 l1 hl'
    unfold cups_Play.f cups_Check.f
    rw [if_pos h, if_pos h, Int.toNat_natCast]
    obtain ⟨o, ho⟩ : ∃ o, playS (CK.ties n) l1 ⟨[], [], []⟩ = o := ⟨_, rfl⟩
    rw [ho] at rp rc ⊢
    simp only [Option.bind_some]
    cases o with
    | none =>
      refine Ev.bind rp (Ev.bind rc ?_)
      simp only [Option.isSome_none, Bool.false_eq_true, if_false, if_true]
      refine Ev.bind (same_ev [] (by simp)) ?_
      simp only [if_true]
      refine Ev.bind (same_ev [] (by simp)) ?_
      exact Ev.now _
    | some p =>
      refine Ev.bind rp (Ev.bind rc ?_)
      simp only [Option.isSome_some, if_true]
      refine Ev.bind (same_ev _ (by have := CS.alive_len p n; omega)) ?_
      simp only [if_true]
      refine Ev.bind (same_ev _ (by have := CS.next_len (CK.ties n) p (n - 1); omega)) ?_
      exact Ev.now _
  · unfold cups_Play.f cups_Check.f
    rw [if_neg h, if_neg h]
    simp only [Option.bind_some]
    refine Ev.bind (refPlay_bad a0 h l1) (Ev.bind (refCheck_bad a0 h l1) ?_)
    simp only [if_true]
    refine Ev.bind (same_ev [] (by simp)) ?_
    simp only [if_true]
    refine Ev.bind (same_ev [] (by simp)) ?_
    exact Ev.now _
end Go.Proofs.Ytaadhandkljcdaa.Pure
