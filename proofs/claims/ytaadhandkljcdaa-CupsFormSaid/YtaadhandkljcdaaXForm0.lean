/- Proved here: what CupsForm's loops count, for 2 to 64 (evaluated by the kernel) -/
import Derived.Test.YtaadhandkljcdaaX0
import Derived.Test.YtaadhandkljcdaaX3
import Derived.Test.YtaadhandkljcdaaXPlayc
namespace Go.Proofs.Ytaadhandkljcdaa.X
open Go.RowKit Go.Proofs.YtaadhandkljcdaaW.PrintWords Go.Proofs.YtaadhandkljcdaaW.PrintLast Go.Proofs.YtaadhandkljcdaaW.PrintMore
attribute [local go_sem] max2_int min2_int max_two min_two max_three min_three max_four min_four
set_option linter.unusedVariables false
set_option linter.unusedSimpArgs false
namespace CF
open Go.Proofs.Ytaadhandkljcdaa.K CM CB
attribute [local go_sem] Oper.semAt_some
def byS (n : Nat) : Int := wrap64 (shl .i64 1 (CK.rr n : Int) - (n : Int))
theorem rounds_val {n : Nat} (h2 : 2 ≤ n) (h : n ≤ 64) : cups_Rounds.f (n : Int) = some ((CK.rr n : Int), byS n, 0) := by
  have h0 : ∀ n : Nat, n < 65 → 2 ≤ n → cups_Rounds.f (n : Int) = some ((CK.rr n : Int), byS n, 0) := by decide +kernel
  exact h0 n (by omega) h2
def tie (n i : Nat) : S42 := (CK.ties n).getD i z42
def sdd (n i : Nat) (b : Bool) : S40 := if b then (tie n i).f2 else (tie n i).f1
/-- A side is counted. -/
def bump (s : S40) (p : List Int × List Int) : List Int × List Int := if s.f0 = 1 then (p.1.set s.f1.toNat (wrap64 (p.1.getD s.f1.toNat 0 + 1)), p.2) else (p.1, p.2.set s.f1.toNat (wrap64 (p.2.getD s.f1.toNat 0 + 1)))
def st (n : Nat) : Nat → List Int × List Int
  | 0 => (List.replicate n 0, List.replicate (n - 1) 0)
  | i + 1 => bump (sdd n i true) (bump (sdd n i false) (st n i))
def sideB (n i : Nat) (b : Bool) : Bool :=
  decide ((sdd n i b).f2 = 0) && decide (0 ≤ (sdd n i b).f1) && ((decide ((sdd n i b).f0 = 1) && decide ((sdd n i b).f1 < (n : Int)) && ((decide ((tie n i).f0 = 0) && decide (byS n ≤ (sdd n i b).f1)) || (decide ((tie n i).f0 = 1) && decide ((sdd n i b).f1 < byS n)))) ||
    (decide ((sdd n i b).f0 = 3) && decide ((sdd n i b).f1 < (i : Int)) && decide ((tie n (sdd n i b).f1.toNat).f0 = (tie n i).f0 - 1)))
def tieB (n i : Nat) : Bool := sideB n i false && sideB n i true && decide (0 ≤ (tie n i).f0) && decide ((tie n i).f0 ≤ 10) && (decide (i = 0) || (decide ((tie n (i - 1)).f0 ≤ (tie n i).f0) && decide ((tie n i).f0 ≤ (tie n (i - 1)).f0 + 1)))
def formB (n : Nat) : Bool := decide ((CK.ties n).length = n - 1) && (List.range (n - 1)).all (tieB n) && decide (st n (n - 1) = (List.replicate n 1, List.replicate (n - 2) 1 ++ [0])) && decide ((tie n (n - 2)).f0 = (CK.rr n : Int) - 1) && decide (CK.rr n ≤ 6)
theorem form_all : ∀ n : Nat, n < 65 → 2 ≤ n → formB n = true := by decide +kernel
structure Fm (n : Nat) : Prop where
  len : (CK.ties n).length = n - 1
  sid : ∀ i b, i < n - 1 → (sdd n i b).f2 = 0 ∧ 0 ≤ (sdd n i b).f1 ∧ (((sdd n i b).f0 = 1 ∧ (sdd n i b).f1 < (n : Int) ∧ (((tie n i).f0 = 0 ∧ byS n ≤ (sdd n i b).f1) ∨ ((tie n i).f0 = 1 ∧ (sdd n i b).f1 < byS n))) ∨ ((sdd n i b).f0 = 3 ∧ (sdd n i b).f1 < (i : Int) ∧ (tie n (sdd n i b).f1.toNat).f0 = (tie n i).f0 - 1))
  rnd : ∀ i, i < n - 1 → 0 ≤ (tie n i).f0 ∧ (tie n i).f0 ≤ 10 ∧ (i = 0 ∨ ((tie n (i - 1)).f0 ≤ (tie n i).f0 ∧ (tie n i).f0 ≤ (tie n (i - 1)).f0 + 1))
  fin : st n (n - 1) = (List.replicate n 1, List.replicate (n - 2) 1 ++ [0])
  top : (tie n (n - 2)).f0 = (CK.rr n : Int) - 1
  rr6 : CK.rr n ≤ 6
theorem fm {n : Nat} (h2 : 2 ≤ n) (h64 : n ≤ 64) : Fm n := by
  have h := form_all n (by omega) h2
  simp only [formB, Bool.and_eq_true, decide_eq_true_eq, List.all_eq_true, List.mem_range] at h
  obtain ⟨⟨⟨⟨h1, h2⟩, h3⟩, h4⟩, h5⟩ := h
  refine ⟨h1, fun i b hi => ?_, fun i hi => ?_, h3, h4, h5⟩
  · have h := h2 i hi
    simp only [tieB, sideB, Bool.and_eq_true, Bool.or_eq_true, decide_eq_true_eq] at h
    cases b
    · obtain ⟨⟨⟨⟨h, _⟩, _⟩, _⟩, _⟩ := h
      exact ⟨h.1.1, h.1.2, h.2.imp (fun h => ⟨h.1.1, h.1.2, h.2⟩) (fun h => ⟨h.1.1, h.1.2, h.2⟩)⟩
    · obtain ⟨⟨⟨⟨_, h⟩, _⟩, _⟩, _⟩ := h
      exact ⟨h.1.1, h.1.2, h.2.imp (fun h => ⟨h.1.1, h.1.2, h.2⟩) (fun h => ⟨h.1.1, h.1.2, h.2⟩)⟩
  · have h := h2 i hi
    simp only [tieB, Bool.and_eq_true, Bool.or_eq_true, decide_eq_true_eq] at h
    exact ⟨h.1.1.2, h.1.2, h.2⟩
theorem bump_len (s : S40) (p : List Int × List Int) : (bump s p).1.length = p.1.length ∧ (bump s p).2.length = p.2.length := by
  unfold bump
  split <;> simp
theorem st_len (n : Nat) : ∀ i, (st n i).1.length = n ∧ (st n i).2.length = n - 1
  | 0 => by simp [st]
  | i + 1 => by
    have h := st_len n i
    simp only [st]
    rw [(bump_len _ _).1, (bump_len _ _).2, (bump_len _ _).1, (bump_len _ _).2]
    exact h
/-- The memory while ties are looked at. -/
structure Fs (n L : Nat) (w W : World) (At : Option Addr) (ct gS gW : Nat) (p : List Int × List Int) : Prop where
  et : W.ownsRow w.heap.size 42 7 (.slice At L ct) L ((CK.ties n).flatMap enc42)
  es : W.heap[gS]? = some (.cells (nums .i64 p.1).toArray 3 (0, 0))
  ew : W.heap[gW]? = some (.cells (nums .i64 p.2).toArray 3 (0, 0))
  hb : Below w.heap.size w W
  ne : gS ≠ gW
  bs : w.heap.size ≤ gS
  bw : w.heap.size ≤ gW
theorem Fs.alloc {n L : Nat} {w W : World} {At : Option Addr} {ct gS gW : Nat} {p : List Int × List Int} (h : Fs n L w W At ct gS gW p) (o : Obj) : Fs n L w (W.alloc o) At ct gS gW p :=
  ⟨h.et.alloc o, blk_alloc h.es o, blk_alloc h.ew o, below_alloc h.hb o, h.ne, h.bs, h.bw⟩
theorem Fs.drewN {n L : Nat} {w W : World} {At : Option Addr} {ct gS gW : Nat} {p : List Int × List Int} (h : Fs n L w W At ct gS gW p) (k : Nat) : Fs n L w (W.drewN k) At ct gS gW p :=
  ⟨own_move h.et (fun _ _ => rfl), h.es, h.ew, pw_below_drewN h.hb k, h.ne, h.bs, h.bw⟩
theorem Fs.drew {n L : Nat} {w W : World} {At : Option Addr} {ct gS gW : Nat} {p : List Int × List Int} (h : Fs n L w W At ct gS gW p) : Fs n L w W.drew At ct gS gW p :=
  ⟨own_move h.et (fun _ _ => rfl), h.es, h.ew, below_drew1 h.hb, h.ne, h.bs, h.bw⟩
theorem Fs.seed {n L : Nat} {w W : World} {At : Option Addr} {ct gS gW : Nat} {p : List Int × List Int} (h : Fs n L w W At ct gS gW p) (q : Nat) (v : Int) : Fs n L w (W.setCell ⟨gS, q, none⟩ (.int .i64 v)) At ct gS gW (p.1.set q v, p.2) :=
  ⟨own_setCell h.et (own_ne h.et h.es (by decide)) _, store_row h.es q v, (CM.set_ne (Ne.symm h.ne) _).trans h.ew, below_set h.hb h.bs, h.ne, h.bs, h.bw⟩
theorem Fs.wins {n L : Nat} {w W : World} {At : Option Addr} {ct gS gW : Nat} {p : List Int × List Int} (h : Fs n L w W At ct gS gW p) (q : Nat) (v : Int) : Fs n L w (W.setCell ⟨gW, q, none⟩ (.int .i64 v)) At ct gS gW (p.1, p.2.set q v) :=
  ⟨own_setCell h.et (own_ne h.et h.ew (by decide)) _, (CM.set_ne h.ne _).trans h.es, store_row h.ew q v, below_set h.hb h.bw, h.ne, h.bs, h.bw⟩
theorem tie_at {n L : Nat} {w W : World} {At : Option Addr} {ct gS gW : Nat} {p : List Int × List Int} (h : Fs n L w W At ct gS gW p) (hL : (CK.ties n).length = L) {i : Nat} (hi : i < L) : ∃ g, At = some ⟨g, 0, none⟩ ∧ W.cell? ⟨g, i * 7, none⟩ = some (.int .i64 (tie n i).f0) ∧
    (W.cell? ⟨g, i * 7 + 1, none⟩ = some (.int .i64 (tie n i).f1.f0) ∧ W.cell? ⟨g, i * 7 + 1 + 1, none⟩ = some (.int .i64 (tie n i).f1.f1) ∧ W.cell? ⟨g, i * 7 + 1 + 2, none⟩ = some (.int .i64 (tie n i).f1.f2)) ∧
      W.cell? ⟨g, i * 7 + 4, none⟩ = some (.int .i64 (tie n i).f2.f0) ∧ W.cell? ⟨g, i * 7 + 4 + 1, none⟩ = some (.int .i64 (tie n i).f2.f1) ∧ W.cell? ⟨g, i * 7 + 4 + 2, none⟩ = some (.int .i64 (tie n i).f2.f2) := by
  subst hL
  obtain ⟨g, cap, e, hg, hg2⟩ := CP.own_some h.et (by omega)
  cases e
  have ht : tie n i = (CK.ties n)[i] := by unfold tie; rw [List.getD_eq_getElem?_getD, List.getElem?_eq_getElem hi]; rfl
  rw [ht]
  obtain ⟨h1, h2⟩ := CP.tie_cells h.et hi
  exact ⟨g, rfl, CP.own_cell1 h.et _ (CP.enc42_at hi 0 (by omega)), h1, h2⟩
theorem bump_seed (q : Nat) (p : List Int × List Int) (hq : q < p.1.length) : bump ⟨1, (q : Int), 0⟩ p = (p.1.set q (wrap64 (p.1[q] + 1)), p.2) := by
  unfold bump
  rw [if_pos rfl]
  simp only [Int.toNat_natCast, List.getD_eq_getElem?_getD, List.getElem?_eq_getElem hq, Option.getD_some]
theorem bump_win (q : Nat) (p : List Int × List Int) (hq : q < p.2.length) : bump ⟨3, (q : Int), 0⟩ p = (p.1, p.2.set q (wrap64 (p.2[q] + 1))) := by
  unfold bump
  rw [if_neg (show ¬ ((3 : Int) = 1) by decide)]
  simp only [Int.toNat_natCast, List.getD_eq_getElem?_getD, List.getElem?_eq_getElem hq, Option.getD_some]
def stk (n i : Nat) (b : Bool) : List Int × List Int := if b then bump (sdd n i false) (st n i) else st n i
theorem stk_len (n i : Nat) (b : Bool) : (stk n i b).1.length = n ∧ (stk n i b).2.length = n - 1 := by
  cases b
  · exact st_len n i
  · show (bump (sdd n i false) (st n i)).1.length = n ∧ (bump (sdd n i false) (st n i)).2.length = n - 1
    rw [(bump_len _ _).1, (bump_len _ _).2]
    exact st_len n i
def stq (n i : Nat) (kk : Int) : List Int × List Int := if kk = 0 then stk n i false else if kk = 1 then stk n i true else st n (i + 1)
end CF
end Go.Proofs.Ytaadhandkljcdaa.X
