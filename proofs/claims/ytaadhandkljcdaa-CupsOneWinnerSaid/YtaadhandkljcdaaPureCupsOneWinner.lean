/- Proved here: the plain law behind CupsOneWinner: as many entrants are eliminated as ties are decided, for at most 500 scores. -/
import Derived.Test.YtaadhandkljcdaaQCount
import Derived.Test.YtaadhandkljcdaaX10
namespace Go.Proofs.Ytaadhandkljcdaa.Pure
open Go.RowKit Go.Proofs.Ytaadhandkljcdaa.X Go.Proofs.YtaadhandkljcdaaW.PrintWords Go.Proofs.YtaadhandkljcdaaW.PrintLast Go.Proofs.Ytaadhandkljcdaa.K Go.Proofs.Ytaadhandkljcdaa.X.CQ Go.Proofs.Ytaadhandkljcdaa.Q
set_option linter.unusedVariables false
set_option linter.unusedSimpArgs false
theorem dec_loop (xs : List S45) (hx : xs.length ≤ 500) (d : Nat) : ∀ (i m : Nat), xs.length - i = d → i ≤ xs.length → m ≤ i → Ev (fun k => fastilaw23_decided.l0 k xs (m : Int) (i : Int)) ((m + dec (xs.drop i) : Nat) : Int) := by
  induction d with
  | zero =>
    intro i m hd hi hm
    obtain rfl : i = xs.length := by omega
    rw [List.drop_length]
    refine Ev.eq fun k => ?_
    simp only [fastilaw23_decided.l0]
    rw [if_neg (by omega)]
    rfl
  | succ d ih =>
    intro i m hd hi hm
    have hil : i < xs.length := by omega
    have hrx : rd_T45 xs (i : Int) = xs[i] := by rw [rd_T45, Int.toNat_natCast, List.getD_eq_getElem?_getD, List.getElem?_eq_getElem hil]; rfl
    rw [List.drop_eq_getElem_cons hil]
    by_cases e : xs[i].f1 = xs[i].f2
    · have h := ih (i + 1) m (by omega) (by omega) (by omega)
      have hd' : dec (xs[i] :: xs.drop (i + 1)) = dec (xs.drop (i + 1)) := by unfold dec; rw [List.filter_cons, if_neg (by simp [e])]
      rw [hd']
      refine Ev.step (fun k => ?_) h
      simp only [fastilaw23_decided.l0]
      rw [if_pos (by omega), if_pos (by omega), hrx, if_pos e, w64s i (by omega)]
    · have h := ih (i + 1) (m + 1) (by omega) (by omega) (by omega)
      have hd' : dec (xs[i] :: xs.drop (i + 1)) = dec (xs.drop (i + 1)) + 1 := by unfold dec; rw [List.filter_cons, if_pos (by simp [e]), List.length_cons]
      rw [hd', show m + (dec (xs.drop (i + 1)) + 1) = m + 1 + dec (xs.drop (i + 1)) by omega]
      refine Ev.step (fun k => ?_) h
      simp only [fastilaw23_decided.l0]
      rw [if_pos (by omega), if_pos (by omega), hrx, if_neg e, w64s i (by omega), w64s m (by omega)]
theorem next_check {n : Nat} {ts : List S42} {p : PS} (hw : Wf n ts) (hp : Inv n ts p) (al : List Int) (hal : al.length ≤ 64) (h1 : 1 ≤ al.length) (h2 : 2 * (CS.nextTo ts p (n - 1)).length ≤ al.length) (h3 : 0 < (CS.nextTo ts p (n - 1)).length ↔ 1 < al.length) (d : Nat) : ∀ i : Nat, (CS.nextTo ts p (n - 1)).length - i = d → i ≤ (CS.nextTo ts p (n - 1)).length →
    Ev (fun k => fastilaw23_CupsOneWinner.l0 k al (CS.nextTo ts p (n - 1)) ts (i : Int)) true := by
  induction d with
  | zero =>
    intro i hd hi
    refine Ev.eq fun k => ?_
    simp only [fastilaw23_CupsOneWinner.l0]
    rw [if_neg (by omega), if_pos (by omega), w64 (by omega) (by omega), if_pos (by omega)]
    congr 1
    rw [beq_iff_eq, decide_eq_decide]
    omega
  | succ d ih =>
    intro i hd hi
    have hil : i < (CS.nextTo ts p (n - 1)).length := by omega
    have hg := next_get hil
    refine Ev.step (fun k => ?_) (ih (i + 1) (by omega) (by omega))
    simp only [fastilaw23_CupsOneWinner.l0]
    rw [if_pos (by omega), if_pos (by omega), rd_lt hil, if_neg (by omega), if_neg (by rw [hw.len]; omega)]
    by_cases e : (i : Int) > 0
    · have hlt := next_lt (ts := ts) (p := p) (m := n - 1) (i := i - 1) (j := i) (by omega) hil (by omega)
      rw [if_pos e, w64p i (by omega) (by omega), if_pos (by omega), if_pos (by omega), rd_lt (by omega), if_neg (by omega), w64s i (by omega)]
    · rw [if_neg e, w64s i (by omega)]
theorem CupsOneWinner (a0 : Int) (l1 : List S45) (_ : (Lit.int .i64 a0).wf = true) : ∃ k, fastilaw23_CupsOneWinner.f k a0 l1 = some true := by
  refine Ev.rounds (g := fun k => fastilaw23_CupsOneWinner.f k a0 l1) ?_
  unfold fastilaw23_CupsOneWinner.f
  simp only [fastilaw23_sane.f, Option.bind_some, if_true]
  by_cases hl : (l1.length : Int) > 500
  · simp only [if_pos hl]; exact Ev.now _
  simp only [if_neg hl]
  have hl' : l1.length ≤ 500 := by omega
  by_cases h : 2 ≤ a0 ∧ a0 ≤ 64
  · obtain ⟨n, rfl⟩ : ∃ n : Nat, a0 = (n : Int) := ⟨a0.toNat, (Int.toNat_of_nonneg (by omega)).symm⟩
    have h2 : 2 ≤ n := by omega
    have h64 : n ≤ 64 := by omega
    simp only [make_in h2 h64]
    cases ho : playS (CK.ties n) l1 ⟨[], [], []⟩ with
    | none =>
      simp only [play_none h2 h64 ho, check_none h2 h64 ho]
      exact Ev.all fun k => rfl
    | some p =>
      simp only [play_some h2 h64 ho]
      have hw := wf h2 h64
      have hp := inv_play hw (inv_start hw) ho
      obtain ⟨c1, c2⟩ := count_end h2 h64 ho
      have hal := alive_cnt p n
      have hnx := next_cnt (CK.ties n) p (n - 1)
      have ht := two_open hw hp
      simp only [if_true, Option.bind_some]
      simp only [hw.len, w64 (x := (n : Int) - 1) (by omega) (by omega), if_pos (show (((n - 1 : Nat)) : Int) = (n : Int) - 1 by omega)]
      refine Ev.bind (g := fun k => fastilaw23_decided.f k l1) (f := fun k t121 => fastilaw23_CupsOneWinner.j0 k (CS.aliveTo p n) (CS.nextTo (CK.ties n) p (n - 1)) (CK.ties n) (((CS.aliveTo p n).length : Int) != wrap64 ((n : Int) - t121))) (dec_loop l1 hl' l1.length 0 0 rfl (Nat.zero_le _) (Nat.le_refl _)) ?_
      rw [List.drop_zero, Nat.zero_add, w64 (by omega) (by omega)]
      have e : (((CS.aliveTo p n).length : Int) != (n : Int) - ((dec l1 : Nat) : Int)) = false := by rw [bne_eq_false_iff_eq]; omega
      rw [e]
      refine Ev.step (f := fun k => fastilaw23_CupsOneWinner.l0 k (CS.aliveTo p n) (CS.nextTo (CK.ties n) p (n - 1)) (CK.ties n) ((0 : Nat) : Int)) (fun k => ?_) (next_check hw hp (CS.aliveTo p n) (by omega) (by omega) (by omega) ?_ _ 0 rfl (Nat.zero_le _))
      · simp only [fastilaw23_CupsOneWinner.j0, Bool.false_eq_true, if_false]
        rfl
      · constructor
        · intro hpos
          omega
        · intro hgt
          have hu : 0 < cnt (undecB p) (n - 1) := by omega
          obtain ⟨i, hi, hu⟩ := cnt_ex hu
          obtain ⟨j, hj, hj2⟩ := open_ex hw i hi (by simpa [undecB] using hu)
          rw [hnx]
          exact cnt_pos hj hj2
  · simp only [play_out h, check_out h]
    exact Ev.all fun k => rfl
end Go.Proofs.Ytaadhandkljcdaa.Pure
