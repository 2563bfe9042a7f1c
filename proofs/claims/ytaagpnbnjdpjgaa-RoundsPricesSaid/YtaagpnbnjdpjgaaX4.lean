/- Proved here: for functions of the program and of the reference, what each call returns (theorems '.calls'), under the conditions that each theorem names. Printed by this project's own driver over the kit's printer; parts marked EXT are written by hand. Lean checks it. -/
import Derived.Test.YtaagpnbnjdpjgaaX0
import Derived.Test.YtaagpnbnjdpjgaaX1
import Derived.Test.YtaagpnbnjdpjgaaX2
import Derived.Test.YtaagpnbnjdpjgaaX3
import Derived.Test.YtaagpnbnjdpjgaaK
import Derived.Test.YtaagpnbnjdpjgaaR
namespace Go.Proofs.Ytaagpnbnjdpjgaa.X
open Go.RowKit Go.Proofs.YtaagpnbnjdpjgaaW.PrintWords Go.Proofs.YtaagpnbnjdpjgaaW.PrintLast Go.Proofs.YtaagpnbnjdpjgaaW.PrintMore
attribute [local go_sem] max2_int min2_int max_two min_two max_three min_three max_four min_four   -- for this text's walks alone
set_option linter.unusedVariables false
set_option linter.unusedSimpArgs false

-- EXT rounds_Most: function 11
-- def rounds_Most.f (l0 : List Int) (a1 : Int) : Option (Int × Int) := 
-- theorem rounds_Most.calls (A0 : Option Addr) (c0 : Nat) (l0 : List Int) (a1 : Int) (r1 : Int) (r2 : Int) (w : World) (hr0 : Kd.C (Kd.int .i64) w A0 l0.length l0) (hc0 : l0.length ≤ c0) (h : rounds_Most.f l0 a1 = some (r1, r2)) :
--     Calls Try.prog 11 #[.slice A0 l0.length c0, .int .i64 a1] w fun e w' => e = .returned (.tuple #[.int .i64 r1, .int .i64 r2]) ∧ Below w.heap.size w w'
-- NEEDS: fasti/rounds.check, slices.BinarySearch[[]int,int]
-- INFO: 3
-- IMPORTS: Derived.Test.YtaagpnbnjdpjgaaK, Derived.Test.YtaagpnbnjdpjgaaR
open Go.Proofs.Ytaagpnbnjdpjgaa.K (asc lb)
namespace PC
open Go.Proofs.Ytaagpnbnjdpjgaa.K

theorem min_loop (l : List Int) (hl : l.length < 4611686018427387904) (d : Nat) : ∀ (i : Nat) (m : Int), l.length - i = d → Ev (fun k => slices_Min_int_int.l0 k l m (i : Int)) ((l.drop i).foldl mn m) := by
  induction d with
  | zero =>
    intro i m hd
    rw [List.drop_eq_nil_of_le (by omega)]
    exact Ev.eq fun k => by simp only [slices_Min_int_int.l0]; rw [if_neg (by omega)]; rfl
  | succ d ih =>
    intro i m hd
    rw [drop_rd (by omega : i < l.length), List.foldl_cons]
    refine Ev.step (f := fun k => slices_Min_int_int.l0 k l (mn m (rd l (i : Int))) ((i + 1 : Nat) : Int)) (fun k => ?_) (ih (i + 1) _ (by omega))
    simp only [slices_Min_int_int.l0]; rw [if_pos (by omega), if_pos (by omega), w64s i (by omega)]
theorem max_loop (l : List Int) (hl : l.length < 4611686018427387904) (d : Nat) : ∀ (i : Nat) (m : Int), l.length - i = d → Ev (fun k => slices_Max_int_int.l0 k l m (i : Int)) ((l.drop i).foldl mx m) := by
  induction d with
  | zero =>
    intro i m hd
    rw [List.drop_eq_nil_of_le (by omega)]
    exact Ev.eq fun k => by simp only [slices_Max_int_int.l0]; rw [if_neg (by omega)]; rfl
  | succ d ih =>
    intro i m hd
    rw [drop_rd (by omega : i < l.length), List.foldl_cons]
    refine Ev.step (f := fun k => slices_Max_int_int.l0 k l (mx m (rd l (i : Int))) ((i + 1 : Nat) : Int)) (fun k => ?_) (ih (i + 1) _ (by omega))
    simp only [slices_Max_int_int.l0]; rw [if_pos (by omega), if_pos (by omega), w64s i (by omega)]
theorem min_ev (l : List Int) (hl : l.length < 4611686018427387904) (h0 : 0 < l.length) : ∃ m, Ev (fun k => slices_Min_int_int.f k l) m ∧ ∀ c, c ≤ m ↔ ∀ x ∈ l, c ≤ x := by
  refine ⟨(l.drop 1).foldl mn (rd l 0), ?_, fun c => ?_⟩
  · refine Ev.congr (f := fun k => slices_Min_int_int.l0 k l (rd l 0) ((1 : Nat) : Int)) (fun k => ?_) (min_loop l hl _ 1 _ rfl)
    unfold slices_Min_int_int.f; rw [if_neg (by omega), if_pos (by omega)]; rfl
  · rw [foldl_mn]
    have e := drop_rd (l := l) (i := 0) h0
    simp only [List.drop_zero] at e
    rw [show (((0 : Nat) : Int)) = 0 from rfl] at e
    constructor
    · intro h x hx; rw [e] at hx; rcases List.mem_cons.1 hx with rfl | hx
      · exact h.1
      · exact h.2 x hx
    · intro h; exact ⟨h _ (by rw [e]; exact List.mem_cons_self), fun x hx => h x (by rw [e]; exact List.mem_cons_of_mem _ hx)⟩
theorem max_ev (l : List Int) (hl : l.length < 4611686018427387904) (h0 : 0 < l.length) : ∃ m, Ev (fun k => slices_Max_int_int.f k l) m ∧ ∀ c, m ≤ c ↔ ∀ x ∈ l, x ≤ c := by
  refine ⟨(l.drop 1).foldl mx (rd l 0), ?_, fun c => ?_⟩
  · refine Ev.congr (f := fun k => slices_Max_int_int.l0 k l (rd l 0) ((1 : Nat) : Int)) (fun k => ?_) (max_loop l hl _ 1 _ rfl)
    unfold slices_Max_int_int.f; rw [if_neg (by omega), if_pos (by omega)]; rfl
  · rw [foldl_mx]
    have e := drop_rd (l := l) (i := 0) h0
    simp only [List.drop_zero] at e
    rw [show (((0 : Nat) : Int)) = 0 from rfl] at e
    constructor
    · intro h x hx; rw [e] at hx; rcases List.mem_cons.1 hx with rfl | hx
      · exact h.1
      · exact h.2 x hx
    · intro h; exact ⟨h _ (by rw [e]; exact List.mem_cons_self), fun x hx => h x (by rw [e]; exact List.mem_cons_of_mem _ hx)⟩

/-- Is a row of prices one for n days? -/
def rowOk (n : Nat) (row : List Int) : Bool := decide (row.length = n) && row.all (fun p => decide (-1 ≤ p)) && row.all (fun p => decide (p ≤ 1048576))
/-- Are days, rest and prices valid? -/
def okB (l0 : List Int) (a1 : Int) (l2 : List (List Int)) : Bool :=
  decide (0 < l0.length) && asc l0 && l0.all (fun d => decide (0 ≤ d)) && l0.all (fun d => decide (d ≤ 73048)) && decide (1 ≤ a1) && decide (a1 ≤ 400) && l2.all (rowOk l0.length)
/-- What 'check' answers. -/
def checkS (l0 : List Int) (a1 : Int) (l2 : List (List Int)) : Int :=
  if 400 < l0.length ∨ 40 < l2.length then 2 else if okB l0 a1 l2 = true then 0 else 320

theorem rd_L1_lt {l : List (List Int)} {i : Nat} (h : i < l.length) : rd_L1 l (i : Int) = l[i] := by simp [rd_L1, List.getElem?_eq_getElem h]
theorem rows_loop (x0 : List Int) (h0 : 0 < x0.length) (hx : x0.length ≤ 400) (rows : List (List Int)) (hr : rows.length ≤ 40) (d : Nat) : ∀ i : Nat, rows.length - i = d →
    Ev (fun k => rounds_check.l1 k x0 rows (rows.length : Int) (i : Int)) (if (rows.drop i).all (rowOk x0.length) = true then 0 else 320) := by
  induction d with
  | zero =>
    intro i hd
    rw [List.drop_eq_nil_of_le (by omega)]
    exact Ev.eq fun k => by simp only [rounds_check.l1]; rw [if_neg (by omega)]; rfl
  | succ d ih =>
    intro i hd
    have hi : i < rows.length := by omega
    rw [drop_get hi, List.all_cons]
    by_cases hlen : rows[i].length = x0.length
    · obtain ⟨m, hm, hm'⟩ := min_ev rows[i] (by omega) (by omega)
      obtain ⟨M, hM, hM'⟩ := max_ev rows[i] (by omega) (by omega)
      have hstep : ∀ k, rounds_check.l1 (k + 1) x0 rows (rows.length : Int) (i : Int) = (slices_Min_int_int.f k rows[i]).bind fun t => if t < -1 then some 320 else (slices_Max_int_int.f k rows[i]).bind fun t => if t > 1048576 then some 320 else rounds_check.l1 k x0 rows (rows.length : Int) ((i + 1 : Nat) : Int) := by
        intro k
        simp only [rounds_check.l1]; rw [if_pos (by omega), if_pos (by omega), if_pos (by omega), rd_L1_lt hi, if_pos (by omega), w64s i (by omega)]
      refine Ev.step hstep ?_
      refine Ev.bind hm ?_
      by_cases h1 : m < -1
      · have : ¬ (rows[i].all (fun p => decide (-1 ≤ p)) = true) := by
          rw [List.all_eq_true]; intro h
          have := (hm' (-1)).2 (fun x hx => by simpa using h x hx)
          omega
        simp only [h1, if_true]
        have e : rowOk x0.length rows[i] = false := by rw [Bool.eq_false_iff]; intro h; simp only [rowOk, Bool.and_eq_true] at h; exact this h.1.2
        rw [e, Bool.false_and, if_neg (by decide)]
        exact Ev.all fun _ => rfl
      · have a1 : rows[i].all (fun p => decide (-1 ≤ p)) = true := by
          rw [List.all_eq_true]; intro x hx; simpa using (hm' (-1)).1 (by omega) x hx
        simp only [h1, if_false]
        refine Ev.bind hM ?_
        by_cases h2 : M > 1048576
        · have : ¬ (rows[i].all (fun p => decide (p ≤ 1048576)) = true) := by
            rw [List.all_eq_true]; intro h
            have := (hM' 1048576).2 (fun x hx => by simpa using h x hx)
            omega
          simp only [h2, if_true]
          have e : rowOk x0.length rows[i] = false := by rw [Bool.eq_false_iff]; intro h; simp only [rowOk, Bool.and_eq_true] at h; exact this h.2
          rw [e, Bool.false_and, if_neg (by decide)]
          exact Ev.all fun _ => rfl
        · have a2 : rows[i].all (fun p => decide (p ≤ 1048576)) = true := by
            rw [List.all_eq_true]; intro x hx; simpa using (hM' 1048576).1 (by omega) x hx
          simp only [h2, if_false]
          have e : rowOk x0.length rows[i] = true := by simp only [rowOk, a1, a2, hlen, decide_true, Bool.and_true]
          rw [e, Bool.true_and]
          exact ih (i + 1) (by omega)
    · have e : rowOk x0.length rows[i] = false := by simp only [rowOk, hlen, decide_false, Bool.false_and]
      rw [e, Bool.false_and, if_neg (by decide)]
      exact Ev.eq fun k => by simp only [rounds_check.l1]; rw [if_pos (by omega), if_pos (by omega), if_pos (by omega), rd_L1_lt hi, if_neg (by omega)]
theorem days_loop (x0 : List Int) (h0 : 0 < x0.length) (hx : x0.length ≤ 400) (rows : List (List Int)) (hr : rows.length ≤ 40) (d : Nat) : ∀ i : Nat, x0.length - 1 - i = d → i < x0.length →
    Ev (fun k => rounds_check.l0 k x0 rows ((x0.drop 1).length : Int) (i : Int)) (if asc (x0.drop i) = true ∧ rows.all (rowOk x0.length) = true then 0 else 320) := by
  induction d with
  | zero =>
    intro i hd hi
    have e : asc (x0.drop i) = true := by rw [drop_get hi, List.drop_eq_nil_of_le (by omega)]; rfl
    have h := rows_loop x0 h0 hx rows hr _ 0 rfl
    rw [List.drop_zero] at h
    simp only [e, true_and]
    exact Ev.step (f := fun k => rounds_check.l1 k x0 rows (rows.length : Int) ((0 : Nat) : Int)) (fun k => by simp only [rounds_check.l0]; rw [if_neg (by rw [List.length_drop]; omega)]; rfl) h
  | succ d ih =>
    intro i hd hi
    have hlt : (i : Int) < ((x0.drop 1).length : Int) := by rw [List.length_drop]; omega
    have e : asc (x0.drop i) = (decide (x0[i] < x0[i + 1]) && asc (x0.drop (i + 1))) := by
      rw [drop_get hi, drop_get (by omega : i + 1 < x0.length)]; rfl
    rw [e]
    by_cases h : x0[i] < x0[i + 1]
    · simp only [h, decide_true, Bool.true_and]
      refine Ev.step (f := fun k => rounds_check.l0 k x0 rows ((x0.drop 1).length : Int) ((i + 1 : Nat) : Int)) (fun k => ?_) (ih (i + 1) (by omega) (by omega))
      simp only [rounds_check.l0]; rw [if_pos hlt, if_pos (by omega), if_pos (by omega), w64s i (by omega), if_pos (by omega), if_pos (by omega), rd_lt hi, rd_lt (by omega : i + 1 < x0.length), if_neg (by omega)]
    · simp only [h, decide_false, Bool.false_and, Bool.false_eq_true, false_and, if_false]
      refine Ev.eq fun k => ?_
      simp only [rounds_check.l0]; rw [if_pos hlt, if_pos (by omega), if_pos (by omega), w64s i (by omega), if_pos (by omega), if_pos (by omega), rd_lt hi, rd_lt (by omega : i + 1 < x0.length), if_pos (by omega)]

theorem last_ok {l : List Int} (h0 : 0 < l.length) (hs : asc l = true) : l.all (fun d => decide (d ≤ 73048)) = decide (l[l.length - 1] ≤ 73048) := by
  rw [Bool.eq_iff_iff, List.all_eq_true, decide_eq_true_eq]
  constructor
  · intro h; simpa using h _ (List.getElem_mem _)
  · intro h x hx
    obtain ⟨i, hi, rfl⟩ := List.mem_iff_getElem.1 hx
    have := asc_le hs (i := i) (j := l.length - 1) (by omega) (by omega)
    simp only [decide_eq_true_eq]; omega
theorem first_ok {l : List Int} (h0 : 0 < l.length) (hs : asc l = true) : l.all (fun d => decide (0 ≤ d)) = decide (0 ≤ l[0]) := by
  rw [Bool.eq_iff_iff, List.all_eq_true, decide_eq_true_eq]
  constructor
  · intro h; simpa using h _ (List.getElem_mem _)
  · intro h x hx
    obtain ⟨i, hi, rfl⟩ := List.mem_iff_getElem.1 hx
    have := asc_le hs (i := 0) (j := i) (by omega) (by omega)
    simp only [decide_eq_true_eq]; omega
theorem check_ev (l0 : List Int) (a1 : Int) (l2 : List (List Int)) : Ev (fun k => rounds_check.f k l0 a1 l2) (checkS l0 a1 l2) := by
  unfold checkS
  by_cases hbig : 400 < l0.length ∨ 40 < l2.length
  · rw [if_pos hbig]
    refine Ev.step (f := fun _ => some 2) (fun k => ?_) (Ev.now 2)
    unfold rounds_check.f
    by_cases h : 400 < l0.length
    · rw [if_pos (by omega)]; simp only [rounds_check.j0, if_true]
    · rw [if_neg (by omega)]; simp only [rounds_check.j0]; rw [if_pos (by simp; omega)]
  · rw [if_neg hbig]
    have hd : decide ((l2.length : Int) > 40) = false := by simp; omega
    have hf : ∀ k, rounds_check.f k l0 a1 l2 = rounds_check.j0 k l0 a1 l2 false := by
      intro k; unfold rounds_check.f; rw [if_neg (by omega), hd]
    refine Ev.congr hf ?_
    have j320 : ∀ k, rounds_check.j1 (k + 1) l0 l2 true = some 320 := fun k => by simp only [rounds_check.j1, if_true]
    by_cases h0 : 0 < l0.length
    · have hlast : wrap64 ((l0.length : Int) - 1) = ((l0.length - 1 : Nat) : Int) := w64p _ h0 (by omega)
      have r0 : rd l0 0 = l0[0] := rd_lt (i := 0) h0
      have r1 : rd l0 ((l0.length - 1 : Nat) : Int) = l0[l0.length - 1] := rd_lt (by omega)
      have hj : ∀ k, rounds_check.j0 (k + 1) l0 a1 l2 false = if l0[0] < 0 then rounds_check.j1 k l0 l2 true else if l0[l0.length - 1] > 73048 then rounds_check.j1 k l0 l2 true else if a1 < 1 then rounds_check.j1 k l0 l2 true else rounds_check.j1 k l0 l2 (decide (a1 > 400)) := by
        intro k
        simp only [rounds_check.j0]; rw [if_neg (by decide), if_neg (by omega), if_pos (by omega), r0, hlast]
        simp only [if_pos (show (0 : Int) ≤ ((l0.length - 1 : Nat) : Int) by omega), if_pos (show ((l0.length - 1 : Nat) : Int) < (l0.length : Int) by omega), r1]
      have hbad : (l0[0] < 0 ∨ l0[l0.length - 1] > 73048 ∨ a1 < 1 ∨ a1 > 400) → Ev (fun k => rounds_check.j0 k l0 a1 l2 false) 320 := by
        intro h
        refine Ev.step hj ?_
        refine Ev.step (f := fun _ => some 320) (fun k => ?_) (Ev.now _)
        simp only [j320]
        by_cases h1 : l0[0] < 0
        · rw [if_pos h1]
        · rw [if_neg h1]
          by_cases h2 : l0[l0.length - 1] > 73048
          · rw [if_pos h2]
          · rw [if_neg h2]
            by_cases h3 : a1 < 1
            · rw [if_pos h3]
            · rw [if_neg h3, show decide (a1 > 400) = true by simp; omega, j320]
      by_cases hb : l0[0] < 0 ∨ l0[l0.length - 1] > 73048 ∨ a1 < 1 ∨ a1 > 400
      · have hok : ¬ okB l0 a1 l2 = true := by
          intro h
          simp only [okB, Bool.and_eq_true, decide_eq_true_eq, List.all_eq_true] at h
          obtain ⟨⟨⟨⟨⟨⟨_, _⟩, h3⟩, h4⟩, h5⟩, h6⟩, _⟩ := h
          have g0 := h3 _ (List.getElem_mem (l := l0) (n := 0) h0)
          have g1 := h4 _ (List.getElem_mem (l := l0) (n := l0.length - 1) (by omega))
          omega
        rw [if_neg hok]
        exact hbad hb
      · have hg : ∀ k, rounds_check.j0 (k + 1) l0 a1 l2 false = rounds_check.j1 k l0 l2 false := by
          intro k
          rw [hj, if_neg (by omega), if_neg (by omega), if_neg (by omega), show decide (a1 > 400) = false by simp; omega]
        have hg1 : ∀ k, rounds_check.j1 (k + 1) l0 l2 false = rounds_check.l0 k l0 l2 ((l0.drop 1).length : Int) ((0 : Nat) : Int) := by
          intro k
          simp only [rounds_check.j1]; rw [if_neg (by decide), if_pos (by omega)]; rfl
        have h := days_loop l0 h0 (by omega) l2 (by omega) _ 0 rfl h0
        rw [List.drop_zero] at h
        refine Ev.step hg (Ev.step hg1 ?_)
        by_cases hs : asc l0 = true
        · have e : okB l0 a1 l2 = l2.all (rowOk l0.length) := by
            rw [okB, first_ok h0 hs, last_ok h0 hs]
            simp only [h0, hs, decide_true, Bool.true_and, Bool.and_true]
            rw [show decide (0 ≤ l0[0]) = true by simp; omega, show decide (l0[l0.length - 1] ≤ 73048) = true by simp; omega, show decide (1 ≤ a1) = true by simp; omega, show decide (a1 ≤ 400) = true by simp; omega]
            simp only [Bool.true_and]
          rw [e]
          simpa only [hs, true_and] using h
        · have e : okB l0 a1 l2 = false := by simp only [okB, hs, Bool.and_false, Bool.false_and]
          rw [e, if_neg (by decide)]
          simpa only [hs, false_and, if_false, Bool.false_eq_true] using h
    · have hok : ¬ okB l0 a1 l2 = true := by
        intro h
        simp only [okB, Bool.and_eq_true, decide_eq_true_eq] at h
        exact h0 h.1.1.1.1.1.1
      rw [if_neg hok]
      refine Ev.step (f := fun k => rounds_check.j1 k l0 l2 true) (fun k => ?_) (Ev.step (f := fun _ => some 320) j320 (Ev.now _))
      simp only [rounds_check.j0]; rw [if_neg (by decide), if_pos (by omega)]

theorem bs_loop (l : List Int) (t : Int) (hs : asc l = true) (hl : l.length < 1000000) (d : Nat) : ∀ i j : Nat, i ≤ lb l t → lb l t ≤ j → j ≤ l.length → j - i ≤ d →
    Ev (fun k => slices_BinarySearch_int_int.l0 k l t (l.length : Int) (i : Int) (j : Int)) ((lb l t : Int), decide (lb l t < l.length ∧ rd l (lb l t : Int) = t)) := by
  have less : ∀ a b : Int, cmp_Less_int.f a b = some (decide (a < b)) := fun a b => by simp [cmp_Less_int.f, cmp_isNaN_int.f]
  have fin : ∀ k, slices_BinarySearch_int_int.l0 (k + 1) l t (l.length : Int) (lb l t : Int) (lb l t : Int) = some ((lb l t : Int), decide (lb l t < l.length ∧ rd l (lb l t : Int) = t)) := by
    intro k
    simp only [slices_BinarySearch_int_int.l0, slices_isNaN_int.f, Option.bind_some]
    rw [if_neg (by omega)]
    by_cases h : lb l t < l.length
    · rw [if_pos (by omega), if_pos (by omega), if_pos (by omega)]
      by_cases h2 : rd l (lb l t : Int) = t
      · rw [if_pos h2]; simp [h, h2]
      · rw [if_neg h2]; simp [h, h2]
    · rw [if_neg (by omega)]; simp [h]
  induction d with
  | zero =>
    intro i j h1 h2 h3 h4
    obtain rfl : i = lb l t := by omega
    obtain rfl : j = lb l t := by omega
    exact Ev.eq fin
  | succ d ih =>
    intro i j h1 h2 h3 h4
    by_cases hij : i < j
    · have hh : wrap64 ((IntKind.u64.wrap (wrap64 ((i : Int) + (j : Int)))) / 2) = (((i + j) / 2 : Nat) : Int) := by
        have e1 : wrap64 ((i : Int) + (j : Int)) = (i : Int) + (j : Int) := w64 (by omega) (by omega)
        have e : IntKind.u64.wrap ((i : Int) + (j : Int)) = (i : Int) + (j : Int) := by
          rw [IntKind.wrap_u64]; omega
        rw [e1, e, w64 (by omega) (by omega)]; omega
      have hm : (i + j) / 2 < l.length := by omega
      by_cases hlt : l[(i + j) / 2] < t
      · have := (lb_iff hs t hm).1 hlt
        refine Ev.step (f := fun k => slices_BinarySearch_int_int.l0 k l t (l.length : Int) (((i + j) / 2 + 1 : Nat) : Int) (j : Int)) (fun k => ?_) (ih _ _ (by omega) h2 h3 (by omega))
        simp only [slices_BinarySearch_int_int.l0, less, Option.bind_some]
        rw [if_pos (by omega), hh, if_pos (by omega), if_pos (by omega), rd_lt hm, if_pos (by simpa using hlt), w64s _ (by omega)]
      · have : ¬ (i + j) / 2 < lb l t := fun h => hlt ((lb_iff hs t hm).2 h)
        refine Ev.step (f := fun k => slices_BinarySearch_int_int.l0 k l t (l.length : Int) (i : Int) (((i + j) / 2 : Nat) : Int)) (fun k => ?_) (ih _ _ h1 (by omega) (by omega) (by omega))
        simp only [slices_BinarySearch_int_int.l0, less, Option.bind_some]
        rw [if_pos (by omega), hh, if_pos (by omega), if_pos (by omega), rd_lt hm, if_neg (by simpa using hlt)]
    · obtain rfl : i = lb l t := by omega
      obtain rfl : j = lb l t := by omega
      exact Ev.eq fin
theorem bs_ev (l : List Int) (t : Int) (hs : asc l = true) (hl : l.length < 1000000) : Ev (fun k => slices_BinarySearch_int_int.f k l t) ((lb l t : Int), decide (lb l t < l.length ∧ rd l (lb l t : Int) = t)) :=
  Ev.congr (fun k => rfl) (bs_loop l t hs hl l.length 0 l.length (Nat.zero_le _) (lb_le _ _) (Nat.le_refl _) (by omega))
end PC
namespace PC
attribute [local go_sem] Oper.semAt_some
open Go.Proofs.Ytaagpnbnjdpjgaa.K Go.Shelf

/-- The indices from the first day on that is at least d. -/
def fromL (l : List Int) (d : Int) : List (Fin l.length) := (List.finRange l.length).drop (lb l d)
theorem drewN_grownBy (W : World) (n : Nat) (row : Option Nat) : W.grownBy (W.drewN n) row := ⟨rfl, rfl, rfl, Nat.le_refl _, fun _ _ _ => rfl⟩

set_option maxHeartbeats 1000000 in
theorem from_in (n : Nat) (A : Option Addr) (len c : Nat) (d : Int) (w : World) :
    CallsIn Fence.wide n Try.prog 22 #[.slice A len c, .int .i64 d] w fun e w' => e = .returned (.func (.func 32) #[] #[.pointer (some ⟨w.heap.size, 0, none⟩), .pointer (some ⟨w.heap.size + 1, 0, none⟩)]) ∧
      w' = (w.alloc (.cells #[.slice A len c] 22)).alloc (.cells #[.int .i64 d] 3) := by
  refine callsIn_of_wp Try.func22 rfl trivial ?_ rfl
  simp only [Try.ntmps22, List.size_toArray, List.length_cons, List.length_nil, Nat.reduceAdd, Nat.reduceSub, Array.replicate_succ, Array.replicate_zero, List.push_toArray, List.append_toArray, List.nil_append, List.cons_append]
  gi_wp2
  go_ret
  exact ⟨rfl, rfl⟩

/-- What a round keeps of what the iterator reads. -/
def KpF (n₀ Bs : Nat) (W W' : World) : Prop := Below n₀ W W' ∧ W'.heap[Bs]? = W.heap[Bs]?
theorem KpF_t {n₀ Bs : Nat} {A B C : World} (h : KpF n₀ Bs A B) (k : KpF n₀ Bs B C) : KpF n₀ Bs A C := ⟨h.1.trans k.1, k.2.trans h.2⟩
theorem KpF_b {n₀ Bs : Nat} {w : World} (hn : n₀ ≤ w.heap.size) (hB : Bs < w.heap.size) (W : World) (l : Nat) (o o' : Obj) (hl : w.heap.size ≤ l) (h : W.heap[l]? = some o) (h1 : o.isCells = false) (h2 : o.isWalk = false) : KpF n₀ Bs W (W.putObj l o') :=
  ⟨belowK_b hn W l o o' hl h h1 h2, World.putObj_heap_other (by omega)⟩

set_option maxRecDepth 100000 in
set_option maxHeartbeats 4000000 in
theorem from1_in (n : Nat) (hn : 1 ≤ n) (l Bs Bd : Nat) (w0 : World) (A : Option Addr) (c : Nat) (l0 : List Int) (d : Int) (hr : Kd.C (Kd.int .i64) w0 A l0.length l0) (hc : l0.length ≤ c) (hs : asc l0 = true) (hl : l0.length < 1000000)
    (J Jx : List (Fin l0.length) → World → Prop)
    (W : World) (hJ : AbidesFrom W.heap.size J)
    (hY : ∀ pre (x : Fin l0.length) W1, J pre W1 → pre.length < l0.length → YieldAt Fence.wide (n - 1) Try.prog l #[.int .i64 (x.1 : Int)] W1 fun e W' =>
      (e = .returned (.bool true) ∧ J (pre ++ [x]) W' ∧ KpF w0.heap.size Bs W1 W') ∨ (e = .returned (.bool false) ∧ Jx (pre ++ [x]) W'))
    (hb : Below w0.heap.size w0 W) (hBs : W.heap[Bs]? = some (.cells #[.slice A l0.length c] 22 (0, 0))) (hBd : W.cell? ⟨Bd, 0, none⟩ = some (.int .i64 d)) (h0 : J [] W) :
    CallsIn Fence.wide n Try.prog 32 #[.func (.yield l) #[] #[], .pointer (some ⟨Bs, 0, none⟩), .pointer (some ⟨Bd, 0, none⟩)] W fun e W' => (∃ v, e = .returned v) ∧
      ((∃ ys, ys = fromL l0 d ∧ J ys W') ∨ (∃ pre, pre <+: fromL l0 d ∧ Jx pre W')) := by
  obtain ⟨k0, hk0⟩ := (bs_ev l0 d hs hl).rounds
  have hcs := blk_cell hBs 0
  have hlb := lb_le l0 d
  have hr1 := Kd.C_below hr hb
  refine callsIn_of_wp Try.func32 rfl trivial ?_ rfl
  simp only [Try.ntmps32, List.size_toArray, List.length_cons, List.length_nil, Nat.reduceAdd, Nat.reduceSub, Array.replicate_succ, Array.replicate_zero, List.push_toArray, List.append_toArray, List.nil_append, List.cons_append]
  gi_wp2_with fail
  refine ⟨trivial, ?_⟩
  refine (callsIn_wide.2 (slices_BinarySearch_int_int.calls k0 A c l0 d _ _ _ hr1 hc hk0)).mono ?_
  rintro e w' ⟨rfl, ⟨nd, rfl⟩⟩
  gi_wp2_with fail
  have hJ0 : J [] (W.drewN nd) := hJ _ _ _ none h0 (drewN_grownBy W nd none) (fun r e => by cases e)
  have hK0 : KpF w0.heap.size Bs W (W.drewN nd) := ⟨pw_below_drewN (Below.refl _ _) nd, rfl⟩
  generalize W.drewN nd = W2 at hJ0 hK0 ⊢
  clear hk0 h0 hr1 hcs hBd
  have HB := Aside0.mk hBs
  clear hBs
  gi_loopw [4] (fun i wr => ∃ k : Nat, lb l0 d ≤ k ∧ k ≤ l0.length ∧ i = .int .i64 k ∧ J (((List.finRange l0.length).take k).drop (lb l0 d)) wr ∧ KpF w0.heap.size Bs W wr)
    (fun i _ => l0.length - (intOf i).toNat)
  case atStart => exact ⟨lb l0 d, Nat.le_refl _, hlb, rfl, by rw [List.drop_eq_nil_of_le (by simp; omega)]; exact hJ0, hK0⟩
  case round =>
    obtain ⟨k, hk0, hk1, rfl, hJs, hKs⟩ := hrel
    have hcs := (blk_cell (hKs.2.trans HB.out) 0)
    simp only [List.getElem?_toArray, List.getElem?_cons_zero] at hcs
    by_cases hlt : k < l0.length
    · have hlen : (((List.finRange l0.length).take k).drop (lb l0 d)).length < l0.length := by simp; omega
      obtain ⟨fn, tmps, assign, body, hy, hR⟩ := hY _ ⟨k, hlt⟩ wr hJs hlen
      have HKs := Aside0.mk hKs
      clear hJs hKs hlen
      dsimp only at hy
      gi_wp2
      refine hR.mono ?_
      rintro e W3 (⟨rfl, hJ3, hk3⟩ | ⟨rfl, hJx3⟩)
      · have hsnoc : ((List.finRange l0.length).take k).drop (lb l0 d) ++ [⟨k, hlt⟩] = ((List.finRange l0.length).take (k + 1)).drop (lb l0 d) := by
          rw [take_get (by simpa using hlt), List.drop_append_of_le_length (by simp; omega)]; simp
        rw [hsnoc] at hJ3
        have H3 := Aside0.mk hJ3
        clear hsnoc hJ3
        gi_wp2
        go_roundw
        case rel => exact ⟨k + 1, by omega, by omega, by go_num, H3.out, KpF_t HKs.out hk3⟩
        case measure => simp [intOf]; omega
      · have hsnoc : ((List.finRange l0.length).take k).drop (lb l0 d) ++ [⟨k, hlt⟩] <+: fromL l0 d := by
          have e : ((List.finRange l0.length).take k).drop (lb l0 d) ++ [⟨k, hlt⟩] = ((List.finRange l0.length).take (k + 1)).drop (lb l0 d) := by
            rw [take_get (by simpa using hlt), List.drop_append_of_le_length (by simp; omega)]; simp
          rw [e, List.drop_take]
          exact List.take_prefix _ _
        have H3 := Aside0.mk hsnoc
        clear hsnoc
        gi_wp2
        refine bodyPost_ret (results_none rfl _ _ _) rfl ?_
        exact ⟨⟨_, rfl⟩, .inr ⟨_, H3.out, hJx3⟩⟩
    · obtain rfl : k = l0.length := by omega
      have e : ((List.finRange l0.length).take l0.length).drop (lb l0 d) = fromL l0 d := by rw [List.take_of_length_le (by simp)]; rfl
      rw [e] at hJs
      clear e
      have HJs := Aside0.mk hJs
      clear hJs hKs hlt
      gi_wp2
      go_end0
      exact ⟨⟨_, rfl⟩, .inl ⟨_, rfl, HJs.out⟩⟩
end PC
namespace PC
attribute [local go_sem] Oper.semAt_some
open Go.Proofs.Ytaagpnbnjdpjgaa.K Go.Proofs.Ytaagpnbnjdpjgaa.R Go.Shelf Go.BigFrame

theorem from_stops (n : Nat) (hn : 1 ≤ n) (Bs Bd : Nat) (w0 : World) (A : Option Addr) (c : Nat) (l0 : List Int) (d : Int) (hr : Kd.C (Kd.int .i64) w0 A l0.length l0) (hc : l0.length ≤ c) (hs : asc l0 = true) (hl : l0.length < 1000000)
    (w : World) (hb : Below w0.heap.size w0 w) (hBs : w.heap[Bs]? = some (.cells #[.slice A l0.length c] 22 (0, 0))) (hBd : w.heap[Bd]? = some (.cells #[.int .i64 d] 3 (0, 0))) :
    SeqStopsK Fence.wide n Try.prog 32 #[.pointer (some ⟨Bs, 0, none⟩), .pointer (some ⟨Bd, 0, none⟩)] (fun x : Fin l0.length => #[Value.int .i64 (x.1 : Int)]) (KpF w0.heap.size Bs) (fun ys => ys = fromL l0 d) (fun pre => pre <+: fromL l0 d) l0.length w :=
  fun l J Jx W hW hJ _ hY h0 => from1_in n hn l Bs Bd w0 A c l0 d hr hc hs hl J Jx W hJ hY (hb.trans (hW.mono hb.size)) ((hW.block _ (blk_lt hBs)).trans hBs) (blk_cell ((hW.block _ (blk_lt hBd)).trans hBd) 0) h0

/-- One step of the count. -/
def mostStep (l0 : List Int) (rest : Int) (s : Int × Int) (i : Fin l0.length) : Int × Int := if s.2 ≤ rd l0 (i.1 : Int) then (wrap64 (s.1 + 1), wrap64 (rd l0 (i.1 : Int) + rest)) else s
def mostS (l0 : List Int) (rest : Int) (pre : List (Fin l0.length)) : Int × Int := pre.foldl (mostStep l0 rest) (0, rd l0 0)
theorem mostS_snoc (l0 : List Int) (rest : Int) (pre : List (Fin l0.length)) (x : Fin l0.length) : mostS l0 rest (pre ++ [x]) = mostStep l0 rest (mostS l0 rest pre) x := by simp [mostS]
end PC
def rounds_Most.f (l0 : List Int) (a1 : Int) : Option (Int × Int) :=
  if PC.checkS l0 a1 [] = 0 then some ((PC.mostS l0 a1 (PC.fromL l0 (rd l0 0))).1, 0) else some (0, PC.checkS l0 a1 [])
namespace PC
open Go.Proofs.Ytaagpnbnjdpjgaa.K Go.Proofs.Ytaagpnbnjdpjgaa.R Go.Shelf Go.BigFrame
attribute [local go_sem] Oper.semAt_some
theorem most_bad (A0 : Option Addr) (c0 : Nat) (l0 : List Int) (a1 : Int) (w : World) (hr0 : Kd.C (Kd.int .i64) w A0 l0.length l0) (hc0 : l0.length ≤ c0) (h : ¬ checkS l0 a1 [] = 0) :
    Calls Try.prog 11 #[.slice A0 l0.length c0, .int .i64 a1] w fun e w' => e = .returned (.tuple #[.int .i64 0, .int .i64 (checkS l0 a1 [])]) ∧ Below w.heap.size w w' := by
  obtain ⟨k0, hk0⟩ := (check_ev l0 a1 []).rounds
  have hne : (checkS l0 a1 [] != 0) = true := bne_iff_ne.2 h
  have hrW := fun W hb => Kd.C_below (w1 := W) hr0 hb
  go_enter Try.func11, Try.ntmps11
  go_wp2_with fail
  have hB3 : Below w.heap.size w (((w.alloc (.cells #[.slice A0 l0.length c0] 22)).alloc (.cells #[.int .i64 a1] 3)).alloc (.cells #[.int .i64 0] 3)) := below_alloc (below_alloc (below_alloc (Below.refl _ _) _) _) _
  refine (rounds_check.calls k0 A0 c0 l0 a1 none 0 [] (checkS l0 a1 []) _ (hrW _ hB3) hc0 (Kd.C_nil _ _) (Nat.le_refl _) hk0).mono ?_
  rintro e w1 ⟨rfl, hb1⟩
  have hb4 := below_then hB3 hB3.size hb1
  have hB4 : w1.heap[w.heap.size + 2]? = some (.cells #[.int .i64 0] 3 (0, 0)) := blk_below (by have := blk_new ((w.alloc (.cells #[.slice A0 l0.length c0] 22)).alloc (.cells #[.int .i64 a1] 3)) (.cells #[.int .i64 0] 3); simpa using this) hb1
  have hc4 := blk_cell hB4 0
  have hf4 := blk_frozen hB4 0
  have HB4 := Aside0.mk hB4
  have HB := Aside0.mk hb4
  clear hB4 hb4 hb1 hB3 hrW
  simp only [List.getElem?_toArray, List.getElem?_cons_zero] at hc4
  have HE := Aside0.mk hk0
  clear hk0
  go_wp2
  have hc5 : (w1.setCell ⟨w.heap.size + 1 + 1, 0, none⟩ (.int .i64 0)).cell? ⟨w.heap.size + 1 + 1, 0, none⟩ = some (.int .i64 0) := World.cell?_setCell_same' _ _ _ (by rw [hc4]; rfl)
  exact bodyPost_ret (v := .tuple #[.int .i64 0, .int .i64 (checkS l0 a1 [])]) (by simp [results, Try.results11, go_sem, hc5]) rfl ⟨rfl, below_set HB.out (by omega)⟩

theorem okB_of {l0 : List Int} {a1 : Int} {l2 : List (List Int)} (h : checkS l0 a1 l2 = 0) : okB l0 a1 l2 = true ∧ l0.length ≤ 400 ∧ l2.length ≤ 40 := by
  unfold checkS at h
  by_cases h1 : 400 < l0.length ∨ 40 < l2.length
  · rw [if_pos h1] at h; simp at h
  · rw [if_neg h1] at h
    by_cases h2 : okB l0 a1 l2 = true
    · exact ⟨h2, by omega, by omega⟩
    · rw [if_neg h2] at h; simp at h
theorem okB_parts {l0 : List Int} {a1 : Int} {l2 : List (List Int)} (h : okB l0 a1 l2 = true) : 0 < l0.length ∧ asc l0 = true ∧ (∀ d ∈ l0, 0 ≤ d ∧ d ≤ 73048) ∧ 1 ≤ a1 ∧ a1 ≤ 400 ∧ ∀ row ∈ l2, row.length = l0.length ∧ ∀ p ∈ row, -1 ≤ p ∧ p ≤ 1048576 := by
  simp only [okB, rowOk, Bool.and_eq_true, decide_eq_true_eq, List.all_eq_true] at h
  obtain ⟨⟨⟨⟨⟨⟨h1, h2⟩, h3⟩, h4⟩, h5⟩, h6⟩, h7⟩ := h
  exact ⟨h1, h2, fun d hd => ⟨h3 d hd, h4 d hd⟩, h5, h6, fun row hr => ⟨(h7 row hr).1.1, fun p hp => ⟨(h7 row hr).1.2 p hp, (h7 row hr).2 p hp⟩⟩⟩

set_option maxRecDepth 100000 in
set_option maxHeartbeats 4000000 in
theorem most_good (A0 : Option Addr) (c0 : Nat) (l0 : List Int) (a1 : Int) (w : World) (hr0 : Kd.C (Kd.int .i64) w A0 l0.length l0) (hc0 : l0.length ≤ c0) (h : checkS l0 a1 [] = 0) :
    Calls Try.prog 11 #[.slice A0 l0.length c0, .int .i64 a1] w fun e w' => e = .returned (.tuple #[.int .i64 (mostS l0 a1 (fromL l0 (rd l0 0))).1, .int .i64 0]) ∧ Below w.heap.size w w' := by
  obtain ⟨k0, hk0⟩ := (check_ev l0 a1 []).rounds
  obtain ⟨hok, hl4, _⟩ := okB_of h
  obtain ⟨hpos, hasc, _, hra, hrb, _⟩ := okB_parts hok
  have hrW := fun W hb => Kd.C_below (w1 := W) hr0 hb
  rw [h] at hk0
  clear h hok
  refine (callsIn_wide (n := 3)).1 ?_
  refine callsIn_of_wp_marks Try.func11 rfl trivial ?_
  simp only [Try.ntmps11, List.size_toArray, List.length_cons, List.length_nil, Nat.reduceAdd, Nat.reduceSub, Array.replicate_succ, Array.replicate_zero, List.push_toArray, List.append_toArray, List.nil_append, List.cons_append]
  gi_wp2_with fail
  have hB3 : Below w.heap.size w (((w.alloc (.cells #[.slice A0 l0.length c0] 22)).alloc (.cells #[.int .i64 a1] 3)).alloc (.cells #[.int .i64 0] 3)) := below_alloc (below_alloc (below_alloc (Below.refl _ _) _) _) _
  refine ⟨trivial, ?_⟩
  refine (callsIn_wide.2 (rounds_check.calls k0 A0 c0 l0 a1 none 0 [] 0 _ (hrW _ hB3) hc0 (Kd.C_nil _ _) (Nat.le_refl _) hk0)).mono ?_
  rintro e w1 ⟨rfl, hb1⟩
  have hb4 := below_then hB3 hB3.size hb1
  have hB2 : w1.heap[w.heap.size]? = some (.cells #[.slice A0 l0.length c0] 22 (0, 0)) := blk_below (blk_alloc (blk_alloc (blk_new w _) _) _) hb1
  have hB3' : w1.heap[w.heap.size + 1]? = some (.cells #[.int .i64 a1] 3 (0, 0)) := blk_below (blk_alloc (by have := blk_new (w.alloc (.cells #[.slice A0 l0.length c0] 22)) (.cells #[.int .i64 a1] 3); simpa using this) _) hb1
  have hB4 : w1.heap[w.heap.size + 2]? = some (.cells #[.int .i64 0] 3 (0, 0)) := blk_below (by have := blk_new ((w.alloc (.cells #[.slice A0 l0.length c0] 22)).alloc (.cells #[.int .i64 a1] 3)) (.cells #[.int .i64 0] 3); simpa using this) hb1
  have hz : w.heap.size + 3 ≤ w1.heap.size := by have := hb1.size; simp at this; omega
  have hc2 := blk_cell hB2 0
  obtain ⟨ad, rfl, hx⟩ := Kd.at_int (hrW _ hb4) 0 (by omega) (by omega)
  simp only [List.getElem?_toArray, List.getElem?_cons_zero] at hc2
  have hx0 : w1.cell? ad = some (.int .i64 (rd l0 0)) := by have h0 := hx; rw [show (0 : Int).toNat = 0 from rfl, Addr.add_zero'] at h0; exact h0
  clear hx
  clear hk0 hB3 hb1
  have HB := Aside0.mk hb4
  have HB2 := Aside0.mk hB2
  have HB3 := Aside0.mk hB3'
  have HB4 := Aside0.mk hB4
  clear hb4 hB2 hB3' hB4
  have hc2a : ((w1.alloc (.cells #[.int .i64 (rd l0 0)] 3))).cell? ⟨w.heap.size, 0, none⟩ = some (.slice (some ad) l0.length c0) := blk_cell (blk_alloc HB2.out _) 0
  gi_wp2_with fail
  refine ⟨trivial, ?_⟩
  refine (from_in 2 _ _ _ _ _).mono ?_
  rintro e w2 ⟨rfl, hw2⟩
  obtain ⟨W0, hW0⟩ : ∃ W0, (w1.alloc (.cells #[.int .i64 (rd l0 0)] 3)) = W0 := ⟨_, rfl⟩
  rw [hW0] at hw2 hc2a ⊢
  have hzW : W0.heap.size = w1.heap.size + 1 := by rw [← hW0]; simp
  have bW := below_alloc HB.out (.cells #[.int .i64 (rd l0 0)] 3)
  have b2 := blk_alloc HB2.out (.cells #[.int .i64 (rd l0 0)] 3)
  have b3 := blk_alloc HB3.out (.cells #[.int .i64 (rd l0 0)] 3)
  have b4 := blk_alloc HB4.out (.cells #[.int .i64 (rd l0 0)] 3)
  have b6 := blk_new w1 (.cells #[.int .i64 (rd l0 0)] 3)
  rw [hW0] at bW b2 b3 b4 b6
  have bs := blk_alloc (blk_new W0 (.cells #[.slice (some ad) l0.length c0] 22)) (.cells #[.int .i64 (rd l0 0)] 3)
  have bd := blk_new (W0.alloc (.cells #[.slice (some ad) l0.length c0] 22)) (.cells #[.int .i64 (rd l0 0)] 3)
  rw [World.size_alloc] at bd
  have bw2 := below_alloc (below_alloc bW (.cells #[.slice (some ad) l0.length c0] 22)) (.cells #[.int .i64 (rd l0 0)] 3)
  have c2 := blk_alloc (blk_alloc b2 (.cells #[.slice (some ad) l0.length c0] 22)) (.cells #[.int .i64 (rd l0 0)] 3)
  have c3 := blk_alloc (blk_alloc b3 (.cells #[.slice (some ad) l0.length c0] 22)) (.cells #[.int .i64 (rd l0 0)] 3)
  have c4 := blk_alloc (blk_alloc b4 (.cells #[.slice (some ad) l0.length c0] 22)) (.cells #[.int .i64 (rd l0 0)] 3)
  have c6 := blk_alloc (blk_alloc b6 (.cells #[.slice (some ad) l0.length c0] 22)) (.cells #[.int .i64 (rd l0 0)] 3)
  have hz2 : w2.heap.size = W0.heap.size + 2 := by rw [hw2]; simp
  rw [← hw2] at bs bd bw2 c2 c3 c4 c6
  rw [hzW] at bs bd
  clear b2 b3 b4 b6 HB2 HB3 HB4 HB hc2 hx0 hc2a hw2 bW
  gi_wp2_with fail
  refine wpIn_rangeFunc_ownG (show Fence.wide.round = none from rfl) (show 1 ≤ 3 by omega) (gf := 32) (lb := #[.pointer (some ⟨w1.heap.size + 1, 0, none⟩), .pointer (some ⟨w1.heap.size + 1 + 1, 0, none⟩)]) rfl trivial (enters_of Try.func32 (by kernel_rfl) rfl)
    (from_stops 2 (by omega) (w1.heap.size + 1) (w1.heap.size + 1 + 1) w (some ad) c0 l0 (rd l0 0) hr0 hc0 hasc (by omega) w2 bw2 bs bd) KpF_t (KpF_b (w := w2) (by omega) (by omega)) (Below.refl _ _) (fun _ => rfl)
    (fun pre W => (W.heap[w.heap.size]? = some (.cells #[.slice (some ad) l0.length c0] 22 (0, 0)) ∧ W.heap[w.heap.size + 1]? = some (.cells #[.int .i64 a1] 3 (0, 0)) ∧ W.heap[w.heap.size + 2]? = some (.cells #[.int .i64 (mostS l0 a1 pre).1] 3 (0, 0)) ∧
      W.heap[w1.heap.size]? = some (.cells #[.int .i64 (mostS l0 a1 pre).2] 3 (0, 0))) ∧ Below w.heap.size w W)
    (fun _ _ _ => False) ?hI (fun _ _ _ _ _ hs _ _ => hs.elim) ⟨⟨c2, c3, c4, c6⟩, bw2⟩
    (fun x => { tmps := #[.slice (some ad) l0.length c0, .int .i64 a1, .pointer (some ⟨w.heap.size, 0, none⟩), .pointer (some ⟨w.heap.size + 1, 0, none⟩), .pointer (some ⟨w.heap.size + 1 + 1, 0, none⟩), .int .i64 0, .pointer (some ⟨w1.heap.size, 0, none⟩), .int .i64 (x.1 : Int), .slice (some ad) l0.length c0, .int .i64 a1, .int .i64 0, .int .i64 0, .bool false, undef, .slice (some ad) l0.length c0, .pointer (some ad), .int .i64 (rd l0 0), .slice (some ad) l0.length c0, .int .i64 (rd l0 0), .func (.func 32) #[] #[.pointer (some ⟨w1.heap.size + 1, 0, none⟩), .pointer (some ⟨w1.heap.size + 1 + 1, 0, none⟩)], .int .i64 (x.1 : Int), undef, undef, undef, undef, undef, undef, undef, undef, undef, undef, undef, undef, undef, undef, undef], defers := [] }) ?assign ?body ?done ?stop
  case hI =>
    refine OwnFrom.and (fun s W W' row hs hg hr => ?_) (ownFrom_below (Nat.le_refl _) (by omega))
    have kp : ∀ {b : Nat} {cs : Array Value} {t : TypeId}, W.heap[b]? = some (.cells cs t (0, 0)) → W'.heap[b]? = some (.cells cs t (0, 0)) := fun {b cs t} hb => (hg.block b (blk_lt hb) (fun e => by
      obtain ⟨_, o, ho, hc⟩ := hr b e.symm
      rw [hb] at ho; cases ho; cases hc)).trans hb
    exact ⟨kp hs.1, kp hs.2.1, kp hs.2.2.1, kp hs.2.2.2⟩
  case assign =>
    intro l x W K hK
    gi_wp2
    exact hK
  case body =>
    rintro l pre x W ⟨⟨e2, e3, e4, e6⟩, hB⟩ _
    have hmx : Try.prog.follows .mixedOrders = true := by kernel_rfl
    have f2 := blk_cell e2 0
    have f3 := blk_cell e3 0
    have f4 := blk_cell e4 0
    have f6 := blk_cell e6 0
    have g4 := blk_frozen e4 0
    have g6 := blk_frozen e6 0
    simp only [List.getElem?_toArray, List.getElem?_cons_zero] at f2 f3 f4 f6
    obtain ⟨ad', ea, hx⟩ := Kd.at_int (hrW _ hB) (x.1 : Int) (by omega) (by have := x.2; omega)
    obtain rfl : ad = ad' := Option.some.inj ea
    rw [Int.toNat_natCast] at hx
    have hx0 : (0 : Int) ≤ (x.1 : Int) := by omega
    have hx1 : x.1 < l0.length := x.2
    have hsn := Aside0.mk (mostS_snoc l0 a1 pre x)
    by_cases hc : (mostS l0 a1 pre).2 ≤ rd l0 (x.1 : Int)
    · have hc' : decide ((mostS l0 a1 pre).2 ≤ rd l0 (x.1 : Int)) = true := decide_eq_true hc
      have HC := Aside0.mk hc
      clear hc
      gi_wp2
      refine wpIn_region_quiet_round rfl (by kernel_rfl) (by kernel_rfl) (by kernel_rfl) ?_
      repeat (gi_big_quiet_step (fail))
      refine wpQuietIn_nil ?_
      intro _ hw'
      obtain ⟨nq, hw''⟩ := hw'
      subst hw''
      gi_wp2
      obtain ⟨W3, hW3⟩ : ∃ W3, (W.drewN nq).setCell ⟨w.heap.size + 1 + 1, 0, none⟩ (.int .i64 (wrap64 ((mostS l0 a1 pre).1 + 1))) = W3 := ⟨_, rfl⟩
      rw [hW3]
      have d2 := blk_far (p := ⟨w.heap.size + 1 + 1, 0, none⟩) (blk_drewN e2 nq) (by simp; omega) (.int .i64 (wrap64 ((mostS l0 a1 pre).1 + 1)))
      have d3 := blk_far (p := ⟨w.heap.size + 1 + 1, 0, none⟩) (blk_drewN e3 nq) (by simp) (.int .i64 (wrap64 ((mostS l0 a1 pre).1 + 1)))
      have d4 := blk_set (blk_drewN e4 nq) 0 (.int .i64 (wrap64 ((mostS l0 a1 pre).1 + 1)))
      have d6 := blk_far (p := ⟨w.heap.size + 1 + 1, 0, none⟩) (blk_drewN e6 nq) (by simp; omega) (.int .i64 (wrap64 ((mostS l0 a1 pre).1 + 1)))
      have dB := below_set (j := 0) (g := w.heap.size + 1 + 1) (v := .int .i64 (wrap64 ((mostS l0 a1 pre).1 + 1))) (pw_below_drewN hB nq) (by omega)
      have dk := fun k h => Below.heap_setCell (W.drewN nq) ⟨w.heap.size + 1 + 1, 0, none⟩ (.int .i64 (wrap64 ((mostS l0 a1 pre).1 + 1))) k h
      rw [show w.heap.size + 2 = w.heap.size + 1 + 1 from rfl] at d4
      rw [hW3] at d2 d3 d4 d6 dB dk
      clear f2 f3 f4 f6 g4 g6 hx
      have f2 := blk_cell d2 0
      have f3 := blk_cell d3 0
      have f6 := blk_cell d6 0
      have g6 := blk_frozen d6 0
      simp only [List.getElem?_toArray, List.getElem?_cons_zero] at f2 f3 f6
      obtain ⟨ad', ea, hx⟩ := Kd.at_int (hrW _ dB) (x.1 : Int) (by omega) (by have := x.2; omega)
      obtain rfl : ad = ad' := Option.some.inj ea
      rw [Int.toNat_natCast] at hx
      clear dB
      gi_region_with_o (fail)
      all_goals gi_wp2
      all_goals
        have hs : mostS l0 a1 (pre ++ [x]) = (wrap64 ((mostS l0 a1 pre).1 + 1), wrap64 (rd l0 (x.1 : Int) + a1)) := by rw [hsn.out]; unfold mostStep; exact if_pos HC.out
        have dB := below_set (j := 0) (g := w.heap.size + 1 + 1) (v := .int .i64 (wrap64 ((mostS l0 a1 pre).1 + 1))) (pw_below_drewN hB nq) (by omega)
        rw [hW3] at dB
        have hz3 : W3.heap.size = W.heap.size := by rw [← hW3]; simp
        rw [i64_w]
        refine ⟨⟨by show W.heap.size ≤ (W3.setCell _ _).heap.size; simp [hz3], fun k o hk ho _ => ((Below.heap_setCell W3 _ _ k (by simp; omega)).trans (dk k (by simp; omega))).trans ho⟩, ⟨?_, (Below.heap_setCell W3 _ _ _ (by simp)).trans (dk _ (by simp; omega))⟩, ⟨?_, ?_, ?_, ?_⟩, ?_⟩
        · refine below_drew (Below.setCell (p := ⟨w1.heap.size, 0, none⟩) ?_ (by simp; omega) _)
          rw [← hW3]
          exact Below.setCell (p := ⟨w.heap.size + 1 + 1, 0, none⟩) (pw_below_drewN (Below.refl _ _) nq) (by simp; omega) _
        · exact blk_far (p := ⟨w1.heap.size, 0, none⟩) d2 (by simp; omega) _
        · exact blk_far (p := ⟨w1.heap.size, 0, none⟩) d3 (by simp; omega) _
        · rw [hs]; exact blk_far (p := ⟨w1.heap.size, 0, none⟩) d4 (by simp; omega) _
        · rw [hs]; exact blk_set d6 0 _
        · exact below_drew (below_set dB (by omega))
    · have hc' : decide ((mostS l0 a1 pre).2 ≤ rd l0 (x.1 : Int)) = false := decide_eq_false hc
      have HC := Aside0.mk hc
      clear hc
      gi_wp2
      refine wpIn_region_quiet_round rfl (by kernel_rfl) (by kernel_rfl) (by kernel_rfl) ?_
      repeat (gi_big_quiet_step (fail))
      refine wpQuietIn_nil ?_
      intro _ hw'
      obtain ⟨nq, hw''⟩ := hw'
      subst hw''
      gi_wp2
      have hs : mostS l0 a1 (pre ++ [x]) = mostS l0 a1 pre := by rw [hsn.out]; unfold mostStep; exact if_neg (by have := HC.out; omega)
      exact ⟨⟨Nat.le_refl _, fun _ _ _ h _ => h⟩, ⟨pw_below_drewN (Below.refl _ _) _, rfl⟩, ⟨e2, e3, by rw [hs]; exact e4, by rw [hs]; exact e6⟩, pw_below_drewN hB _⟩
  case done =>
    rintro D ys W hD rfl ⟨⟨e2, e3, e4, e6⟩, hB⟩ hK
    have f4 := blk_cell e4 0
    have g4 := blk_frozen e4 0
    simp only [List.getElem?_toArray, List.getElem?_cons_zero] at f4
    gi_wp2
    have hK' := (Below.heap_setCell W ⟨w.heap.size + 1 + 1, 0, none⟩ (.int .i64 (mostS l0 a1 (fromL l0 (rd l0 0))).1) D (by simp; omega)).trans hK
    refine ⟨by simp, .inl ⟨_, _, rfl, run_takeDeferred hK', ?_⟩⟩
    have hc5 := cell_kept (World.cell?_setCell_same' W ⟨w.heap.size + 1 + 1, 0, none⟩ (.int .i64 (mostS l0 a1 (fromL l0 (rd l0 0))).1) (by rw [show w.heap.size + 1 + 1 = w.heap.size + 2 from rfl, f4]; rfl)) (grownBy_putObj' _ D (.deferred none)) (fun r e => by cases e; exact ⟨_, hK', rfl⟩)
    refine ⟨.tuple #[.int .i64 (mostS l0 a1 (fromL l0 (rd l0 0))).1, .int .i64 0], by simp [results, Try.results11, go_sem, hc5], rfl, ?_⟩
    exact (below_set hB (by omega)).trans (belowK_b (w := w) (Nat.le_refl _) _ D _ _ (by omega) hK' rfl rfl)
  case stop =>
    rintro D c pre W _ _ h _
    exact h.elim
end PC
theorem rounds_Most.calls (A0 : Option Addr) (c0 : Nat) (l0 : List Int) (a1 : Int) (r1 : Int) (r2 : Int) (w : World) (hr0 : Kd.C (Kd.int .i64) w A0 l0.length l0) (hc0 : l0.length ≤ c0) (h : rounds_Most.f l0 a1 = some (r1, r2)) :
    Calls Try.prog 11 #[.slice A0 l0.length c0, .int .i64 a1] w fun e w' => e = .returned (.tuple #[.int .i64 r1, .int .i64 r2]) ∧ Below w.heap.size w w' := by
  unfold rounds_Most.f at h
  by_cases hc : PC.checkS l0 a1 [] = 0
  · rw [if_pos hc] at h
    cases h
    exact PC.most_good A0 c0 l0 a1 w hr0 hc0 hc
  · rw [if_neg hc] at h
    cases h
    exact PC.most_bad A0 c0 l0 a1 w hr0 hc0 hc

end Go.Proofs.Ytaagpnbnjdpjgaa.X
