/- Proved here: closed forms of the sets of days (SS) -/
import Derived.Test.YtpodgkmgameocaaDoorX0
import Derived.Test.YtpodgkmgameocaaDoorK
import Derived.Test.YtpodgkmgameocaaDoorX5
import Derived.Lib.SlicesCompact
namespace Go.Proofs.YtpodgkmgameocaaDoor.X
open Go.RowKit Go.Proofs.YtpodgkmgameocaaDoorW.PrintWords Go.Proofs.YtpodgkmgameocaaDoorW.PrintLast Go.Proofs.YtpodgkmgameocaaDoorW.PrintMore
attribute [local go_sem] max2_int min2_int max_two min_two max_three min_three max_four min_four
set_option linter.unusedVariables false
set_option linter.unusedSimpArgs false
namespace SS
open Go.Proofs.YtpodgkmgameocaaDoor.K
/-- A span that a list may hold behind a span that ends at 'last'. -/
def okS (last : Int) (x : S45) : Bool := decide (0 ≤ x.f0) && decide (x.f0 ≤ 73048) && decide (0 ≤ x.f1) && decide (x.f1 ≤ 73048) && decide (x.f0 ≤ x.f1) && decide (last + 2 ≤ x.f0)
def chkGo : Int → List S45 → Int
  | _, [] => 0
  | last, x :: l => if okS last x = true then chkGo x.f1 l else 120
/-- What days.Check returns. -/
def chk (l : List S45) : Int := if 256 < l.length then 2 else chkGo (-2) l
theorem day_f (x : Int) : days_day.f x = some (decide (0 ≤ x ∧ x ≤ 73048)) := by
  unfold days_day.f
  by_cases h : x ≥ 0
  · rw [if_pos h]
    by_cases h2 : x ≤ 73048
    · rw [decide_eq_true h2, decide_eq_true ⟨h, h2⟩]
    · rw [decide_eq_false h2, decide_eq_false (fun h' => h2 h'.2)]
  · rw [if_neg h, decide_eq_false (fun h' => h h'.1)]
theorem rd45_lt {l : List S45} {i : Nat} (h : i < l.length) : rd_T45 l (i : Int) = l[i] := by
  unfold rd_T45
  rw [Int.toNat_natCast, getD_lt h]
theorem chk_loop (l : List S45) (hl : l.length ≤ 256) (d : Nat) : ∀ (i : Nat) (last : Int), l.length - i = d → i ≤ l.length → -2 ≤ last → last ≤ 73048 → Ev (fun k => days_Check.l0 k last l (l.length : Int) (i : Int)) (chkGo last (l.drop i)) := by
  induction d with
  | zero =>
    intro i last hd hi h0 h1
    obtain rfl : i = l.length := by omega
    rw [List.drop_length]
    refine Ev.eq fun k => ?_
    rw [days_Check.l0, if_neg (by omega)]
    rfl
  | succ d ih =>
    intro i last hd hi h0 h1
    have hlt : i < l.length := by omega
    rw [drop_get hlt, chkGo]
    have e1 : wrap64 (last + 2) = last + 2 := w64 (by omega) (by omega)
    by_cases hok : okS last l[i] = true
    · rw [if_pos hok]
      unfold okS at hok
      simp only [Bool.and_eq_true, decide_eq_true_eq] at hok
      obtain ⟨⟨⟨⟨⟨a0, a1⟩, b0⟩, b1⟩, c⟩, e⟩ := hok
      refine Ev.step (fun k => ?_) (ih (i + 1) l[i].f1 (by omega) (by omega) (by omega) (by omega))
      rw [days_Check.l0, if_pos (by omega), if_pos (by omega), if_pos (by omega), rd45_lt hlt, day_f, day_f, decide_eq_true ⟨a0, a1⟩, decide_eq_true ⟨b0, b1⟩]
      simp only [Option.bind_some, if_true]
      rw [if_neg (by omega), e1, if_neg (by omega), w64s i (by omega)]
    · rw [if_neg hok]
      refine Ev.eq fun k => ?_
      rw [days_Check.l0, if_pos (by omega), if_pos (by omega), if_pos (by omega), rd45_lt hlt, day_f, day_f, e1]
      simp only [Option.bind_some]
      by_cases ha : 0 ≤ l[i].f0 ∧ l[i].f0 ≤ 73048
      · rw [decide_eq_true ha, if_pos rfl]
        by_cases hb : 0 ≤ l[i].f1 ∧ l[i].f1 ≤ 73048
        · rw [decide_eq_true hb, if_pos rfl]
          by_cases hc : l[i].f0 > l[i].f1
          · rw [if_pos hc]
          · rw [if_neg hc, if_pos]
            apply Classical.byContradiction
            intro he
            apply hok
            unfold okS
            simp only [Bool.and_eq_true, decide_eq_true_eq]
            exact ⟨⟨⟨⟨⟨ha.1, ha.2⟩, hb.1⟩, hb.2⟩, by omega⟩, by omega⟩
        · rw [decide_eq_false hb, if_neg (by decide)]
      · rw [decide_eq_false ha, if_neg (by decide)]
theorem chk_ev (l : List S45) : Ev (fun k => days_Check.f k l) (chk l) := by
  unfold chk
  by_cases h : 256 < l.length
  · rw [if_pos h]
    refine Ev.eq fun k => ?_
    unfold days_Check.f
    rw [if_pos (by omega)]
  · rw [if_neg h]
    have := chk_loop l (by omega) _ 0 (-2) rfl (Nat.zero_le _) (by omega) (by omega)
    rw [List.drop_zero] at this
    obtain ⟨k, hk⟩ := this
    refine ⟨k, fun n hn => ?_⟩
    show days_Check.f n l = some _
    unfold days_Check.f
    rw [if_neg (by omega)]
    exact hk n hn
/-- The points at which one of two lists begins or has ended. -/
def atL (l : List S45) : List Int := l.flatMap fun x => [x.f0, x.f1 + 1]
def ins (x : Int) : List Int → List Int
  | [] => [x]
  | y :: l => if x ≤ y then x :: y :: l else y :: ins x l
def isort : List Int → List Int
  | [] => []
  | x :: l => ins x (isort l)
theorem ins_perm (x : Int) : ∀ l, (ins x l).Perm (x :: l)
  | [] => .refl _
  | y :: l => by
    unfold ins
    split
    · exact .refl _
    · exact ((ins_perm x l).cons y).trans (.swap x y l)
theorem isort_perm : ∀ l, (isort l).Perm l
  | [] => .refl _
  | x :: l => (ins_perm x (isort l)).trans ((isort_perm l).cons x)
theorem ins_asc (x : Int) : ∀ l : List Int, l.Pairwise (· ≤ ·) → (ins x l).Pairwise (· ≤ ·)
  | [], _ => by simp [ins]
  | y :: l, h => by
    unfold ins
    have h1 := List.pairwise_cons.1 h
    split
    · rename_i hxy
      refine List.pairwise_cons.2 ⟨fun z hz => ?_, h⟩
      rcases List.mem_cons.1 hz with rfl | hz
      · exact hxy
      · exact Int.le_trans hxy (h1.1 z hz)
    · refine List.pairwise_cons.2 ⟨fun z hz => ?_, ins_asc x l h1.2⟩
      rcases List.mem_cons.1 ((ins_perm x l).mem_iff.1 hz) with rfl | hz
      · omega
      · exact h1.1 z hz
theorem isort_asc : ∀ l : List Int, (isort l).Pairwise (· ≤ ·)
  | [] => .nil
  | x :: l => ins_asc x _ (isort_asc l)
theorem sort_eq (l : List Int) : (l.mergeSort fun x y => decide (x ≤ y)) = isort l := by
  refine List.Perm.eq_of_pairwise (le := (· ≤ ·)) (fun a b _ _ h1 h2 => Int.le_antisymm h1 h2) ?_ (isort_asc l) ((List.mergeSort_perm _ _).trans (isort_perm l).symm)
  have := List.pairwise_mergeSort (le := fun x y : Int => decide (x ≤ y)) (fun a b c => by simp only [decide_eq_true_eq]; exact Int.le_trans) (fun a b => by simp only [Bool.or_eq_true, decide_eq_true_eq]; exact Int.le_total a b) l
  exact this.imp (fun h => of_decide_eq_true h)
/-- A list behind the spans that end before a day. -/
def adv (n : Int) (l : List S45) : List S45 := l.dropWhile fun x => decide (x.f1 < n)
def isIn (n : Int) : List S45 → Bool
  | [] => false
  | x :: _ => decide (x.f0 ≤ n)
/-- The last span ends at a day. -/
def shut (n : Int) : List S45 → List S45
  | [] => []
  | [x] => [⟨x.f0, n⟩]
  | x :: l => x :: shut n l
/-- What days.turns yields: each point, and whether it is in a and in b. -/
def walkEv : List Int → List S45 → List S45 → List (Int × Bool × Bool)
  | [], _, _ => []
  | n :: ns, la, lb => (n, isIn n (adv n la), isIn n (adv n lb)) :: walkEv ns (adv n la) (adv n lb)
/-- The state of the round: whether a span is open, and the result so far. -/
structure CSt where
  op : Bool
  out : List S45
def step (f : Bool → Bool → Bool) (s : CSt) (x : Int × Bool × Bool) : CSt :=
  match f x.2.1 x.2.2, s.op with
  | true, false => ⟨true, s.out ++ [⟨x.1, x.1⟩]⟩
  | false, true => ⟨false, shut (x.1 - 1) s.out⟩
  | _, o => ⟨o, s.out⟩
/-- A sorted list with each number once. -/
def uniq : List Int → List Int
  | [] => []
  | [x] => [x]
  | x :: y :: l => if x = y then uniq (y :: l) else x :: uniq (y :: l)
theorem uniq_snoc (a b : Int) : ∀ l : List Int, uniq (l ++ [a, b]) = uniq (l ++ [a]) ++ (if a = b then [] else [b])
  | [] => by
    show (if a = b then uniq [b] else a :: uniq [b]) = [a] ++ _
    by_cases h : a = b
    · rw [if_pos h, if_pos h, h]; rfl
    · rw [if_neg h, if_neg h]; rfl
  | [x] => by
    have ih := uniq_snoc a b []
    show (if x = a then uniq (a :: [b]) else x :: uniq (a :: [b])) = (if x = a then uniq [a] else x :: uniq [a]) ++ _
    simp only [List.nil_append] at ih
    by_cases h : x = a
    · rw [if_pos h, if_pos h]; exact ih
    · rw [if_neg h, if_neg h, ih]; rfl
  | x :: y :: l => by
    have ih := uniq_snoc a b (y :: l)
    show (if x = y then uniq (y :: l ++ [a, b]) else x :: uniq (y :: l ++ [a, b])) = (if x = y then uniq (y :: l ++ [a]) else x :: uniq (y :: l ++ [a])) ++ _
    by_cases h : x = y
    · rw [if_pos h, if_pos h]; exact ih
    · rw [if_neg h, if_neg h, ih]; rfl
theorem upTo_eq (zs : List Int) : ∀ m, m ≤ zs.length → Lib.compactUpTo zs.toArray m = uniq (zs.take m)
  | 0, _ => by simp [Lib.compactUpTo, uniq]
  | 1, h => by
    have h0 : 0 < zs.length := by omega
    rw [Lib.compactUpTo_succ, Lib.keeps_lt_one _ _ (by omega), take_get h0]
    have e : zs.toArray[0]! = zs[0] := by simp [h0]
    rw [e]
    simp [Lib.compactUpTo, uniq]
  | m + 2, h => by
    have ih := upTo_eq zs (m + 1) (by omega)
    have h0 : m < zs.length := by omega
    have h1 : m + 1 < zs.length := by omega
    have e0 : zs.toArray[m]! = zs[m] := by simp [h0]
    have e1 : zs.toArray[m + 1]! = zs[m + 1] := by simp [h1]
    rw [Lib.compactUpTo_succ, ih, take_get h1, take_get h0, List.append_assoc]
    show _ = uniq (zs.take m ++ [zs[m], zs[m + 1]])
    rw [uniq_snoc]
    congr 1
    by_cases c : zs[m] = zs[m + 1]
    · rw [Lib.keeps_neg (by omega) (by rw [e1, show m + 1 - 1 = m by omega, e0, c]), if_neg (by decide), if_pos c]
    · rw [Lib.keeps_pos (by rw [e1, show m + 1 - 1 = m by omega, e0]; exact fun e => c e.symm), if_pos rfl, if_neg c, e1]
theorem compact_eq (zs : List Int) : Lib.compact zs = uniq zs := by
  have := upTo_eq zs zs.length (Nat.le_refl _)
  rwa [List.take_length] at this
def pts (a b : List S45) : List Int := uniq (isort (atL (a ++ b)))
def evs (a b : List S45) : List (Int × Bool × Bool) := walkEv (pts a b) a b
/-- What days.combine returns. -/
def comb (f : Bool → Bool → Bool) (a b : List S45) : List S45 × Int :=
  if chk a = 0 then
    if chk b = 0 then
      if 256 < ((evs a b).foldl (step f) ⟨false, []⟩).out.length then ([], 2) else (((evs a b).foldl (step f) ⟨false, []⟩).out, 0)
    else ([], chk b)
  else ([], chk a)
example : comb (fun a b => a && !b) [⟨1, 9⟩] [⟨3, 5⟩] = ([⟨1, 2⟩, ⟨6, 9⟩], 0) := by kernel_rfl
end SS
end Go.Proofs.YtpodgkmgameocaaDoor.X
