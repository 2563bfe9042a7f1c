/- Proved here: plain laws of layer 32's printed functions (Earliest; no word of the reference), under the conditions that each theorem names. -/
import Derived.Test.YtaagpnbnjdpjgaaQ
import Derived.Test.YtaagpnbnjdpjgaaX5
namespace Go.Proofs.Ytaagpnbnjdpjgaa.Q
open Go.RowKit Go.Proofs.Ytaagpnbnjdpjgaa.X Go.Proofs.YtaagpnbnjdpjgaaW.PrintWords Go.Proofs.YtaagpnbnjdpjgaaW.PrintLast Go.Proofs.Ytaagpnbnjdpjgaa.K
set_option linter.unusedVariables false
set_option linter.unusedSimpArgs false

theorem find_congr {α : Type} {p q : α → Bool} : ∀ {l : List α}, (∀ x ∈ l, p x = q x) → l.find? p = l.find? q
  | [], _ => rfl
  | a :: l, h => by
    rw [List.find?_cons, List.find?_cons, h a List.mem_cons_self, find_congr (fun x hx => h x (List.mem_cons_of_mem _ hx))]
def fitB (l0 row : List Int) (next : Int) (i : Fin l0.length) : Bool := decide (0 ≤ rd row (i.1 : Int)) && decide (next ≤ rd l0 (i.1 : Int))
def pos (l0 : List Int) : Option (Fin l0.length) → Int
  | some i => (i.1 : Int)
  | none => -1
theorem firstOk_eq (l0 row : List Int) (next : Int) (hs : asc l0 = true) : PC.firstOk l0 row next = (List.finRange l0.length).find? (fitB l0 row next) := by
  unfold PC.firstOk PC.fromL
  have hmem : ∀ (i : Fin l0.length) (n : Nat), i ∈ (List.finRange l0.length).drop n → n ≤ i.1 := fun i n h => by
    obtain ⟨j, hj, e⟩ := List.getElem_of_mem h
    simp at e
    rw [← e]
    exact Nat.le_add_right _ _
  have hmem2 : ∀ (i : Fin l0.length) (n : Nat), i ∈ (List.finRange l0.length).take n → i.1 < n := fun i n h => by
    obtain ⟨j, hj, e⟩ := List.getElem_of_mem h
    simp at e hj
    rw [← e]
    exact Nat.lt_of_lt_of_le hj (Nat.min_le_left _ _)
  have hno : ((List.finRange l0.length).take (lb l0 next)).find? (fitB l0 row next) = none := by
    refine List.find?_eq_none.2 fun i hi => ?_
    have h1 := hmem2 i _ hi
    have h2 := lb_below l0 next i.2 h1
    rw [fitB, rd_lt i.2, decide_eq_false (show ¬ next ≤ l0[i.1] by omega), Bool.and_false]
    decide
  have hsp : (List.finRange l0.length).find? (fitB l0 row next) = ((List.finRange l0.length).drop (lb l0 next)).find? (fitB l0 row next) := by
    have := List.find?_append (xs := (List.finRange l0.length).take (lb l0 next)) (ys := (List.finRange l0.length).drop (lb l0 next)) (p := fitB l0 row next)
    rw [List.take_append_drop, hno, Option.none_or] at this
    exact this
  rw [hsp]
  refine find_congr fun i hi => ?_
  have h1 := hmem i _ hi
  have h2 : next ≤ l0[i.1] := lb_above hs next i.2 h1
  rw [fitB, rd_lt i.2, decide_eq_true h2, Bool.and_true]
theorem early_dead (l0 : List Int) (a1 : Int) (hd : ∀ x ∈ l0, 0 ≤ x ∧ x ≤ 73048) (hs : asc l0 = true) : ∀ rows, PC.earlyGo l0 a1 rows 73049 = List.replicate rows.length (-1)
  | [] => rfl
  | row :: rows => by
    have : PC.firstOk l0 row 73049 = none := by
      rw [firstOk_eq _ _ _ hs]
      refine List.find?_eq_none.2 fun i _ => ?_
      have := hd _ (List.getElem_mem i.2)
      rw [fitB, rd_lt i.2, decide_eq_false (show ¬ (73049 : Int) ≤ l0[i.1] by omega), Bool.and_false]
      decide
    rw [PC.earlyGo, this]
    show -1 :: PC.earlyGo l0 a1 rows 73049 = _
    rw [early_dead l0 a1 hd hs rows]; rfl
theorem early_start (l0 : List Int) (a1 : Int) (hd : ∀ x ∈ l0, 0 ≤ x ∧ x ≤ 73048) (hs : asc l0 = true) (h0 : 0 < l0.length) (n : Int) (hn : n ≤ 0) (rows : List (List Int)) : PC.earlyGo l0 a1 rows (rd l0 0) = PC.earlyGo l0 a1 rows n := by
  cases rows with
  | nil => rfl
  | cons row rows =>
    have : PC.firstOk l0 row (rd l0 0) = PC.firstOk l0 row n := by
      rw [firstOk_eq _ _ _ hs, firstOk_eq _ _ _ hs]
      refine find_congr fun i _ => ?_
      have h1 := hd _ (List.getElem_mem i.2)
      have h2 : rd l0 0 ≤ l0[i.1] := by
        rw [show (0 : Int) = ((0 : Nat) : Int) from rfl, rd_lt h0]
        exact asc_le hs (Nat.zero_le _) i.2
      rw [fitB, fitB, rd_lt i.2, decide_eq_true h2, decide_eq_true (show n ≤ l0[i.1] by omega)]
    rw [PC.earlyGo, PC.earlyGo, this]
def earlyA (l0 : List Int) (a1 : Int) (l2 : List (List Int)) : List Int × Int := if PC.checkS l0 a1 l2 = 0 then (PC.earlyGo l0 a1 l2 (rd l0 0), 0) else ([], PC.checkS l0 a1 l2)
theorem early_eq (l0 : List Int) (a1 : Int) (l2 : List (List Int)) : rounds_Earliest.f l0 a1 l2 = some (earlyA l0 a1 l2) := by
  unfold rounds_Earliest.f earlyA
  split <;> rfl
end Go.Proofs.Ytaagpnbnjdpjgaa.Q
