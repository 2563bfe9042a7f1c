/- Proved here: plain laws of layer 32's printed functions (Earliest), under the conditions that each theorem names. -/
import Derived.Test.YtaagpnbnjdpjgaaQMost
import Derived.Test.YtaagpnbnjdpjgaaX11
import Derived.Test.YtaagpnbnjdpjgaaX5
namespace Go.Proofs.Ytaagpnbnjdpjgaa.Q
open Go.RowKit Go.Proofs.Ytaagpnbnjdpjgaa.X Go.Proofs.YtaagpnbnjdpjgaaW.PrintWords Go.Proofs.YtaagpnbnjdpjgaaW.PrintLast Go.Proofs.Ytaagpnbnjdpjgaa.K
set_option linter.unusedVariables false
set_option linter.unusedSimpArgs false

theorem find_congr {α : Type} {p q : α → Bool} : ∀ {l : List α}, (∀ x ∈ l, p x = q x) → l.find? p = l.find? q
  | [], _ => rfl
  | a :: l, h => by
    rw [List.find?_cons, List.find?_cons, h a List.mem_cons_self, find_congr (fun x hx => h x (List.mem_cons_of_mem _ hx))]
def fitB (l0 row : List Int) (next : Int) (i : Fin l0.length) : Bool := decide (0 ≤ rd row (i.1 : Int)) && decide (next ≤ rd l0 (i.1 : Int))
def pos (l0 : List Int) : Option (Fin l0.length) → Int
  | some i => (i.1 : Int)
  | none => -1
theorem firstOk_eq (l0 row : List Int) (next : Int) (hs : asc l0 = true) : PC.firstOk l0 row next = (List.finRange l0.length).find? (fitB l0 row next) := by
  unfold PC.firstOk PC.fromL
  have hmem : ∀ (i : Fin l0.length) (n : Nat), i ∈ (List.finRange l0.length).drop n → n ≤ i.1 := fun i n h => by
    obtain ⟨j, hj, e⟩ := List.getElem_of_mem h
    simp at e
    rw [← e]
    exact Nat.le_add_right _ _
  have hmem2 : ∀ (i : Fin l0.length) (n : Nat), i ∈ (List.finRange l0.length).take n → i.1 < n := fun i n h => by
    obtain ⟨j, hj, e⟩ := List.getElem_of_mem h
    simp at e hj
    rw [← e]
    exact Nat.lt_of_lt_of_le hj (Nat.min_le_left _ _)
  have hno : ((List.finRange l0.length).take (lb l0 next)).find? (fitB l0 row next) = none := by
    refine List.find?_eq_none.2 fun i hi => ?_
    have h1 := hmem2 i _ hi
    have h2 := lb_below l0 next i.2 h1
    rw [fitB, rd_lt i.2, decide_eq_false (show ¬ next ≤ l0[i.1] by omega), Bool.and_false]
    decide
  have hsp : (List.finRange l0.length).find? (fitB l0 row next) = ((List.finRange l0.length).drop (lb l0 next)).find? (fitB l0 row next) := by
    have := List.find?_append (xs := (List.finRange l0.length).take (lb l0 next)) (ys := (List.finRange l0.length).drop (lb l0 next)) (p := fitB l0 row next)
    rw [List.take_append_drop, hno, Option.none_or] at this
    exact this
  rw [hsp]
  refine find_congr fun i hi => ?_
  have h1 := hmem i _ hi
  have h2 : next ≤ l0[i.1] := lb_above hs next i.2 h1
  rw [fitB, rd_lt i.2, decide_eq_true h2, Bool.and_true]
theorem reffirst_loop (x0 : List Int) (x1 : Int) (x2 : List Int) (x3 : Int) (hx : x0.length ≤ 400) (h2 : x2.length = x0.length) (h3 : -400 ≤ x3) (h4 : x3 ≤ 73048) (h5 : 1 ≤ x1) (h6 : x1 ≤ 400) (d : Nat) : ∀ i : Nat, x0.length - i = d → i ≤ x0.length →
    Ev (fun k => fastiref32_first.l0 k x0 x1 x2 x3 (i : Int)) (pos x0 (((List.finRange x0.length).drop i).find? (fitB x0 x2 (x3 + x1)))) := by
  induction d with
  | zero =>
    intro i hd hi
    obtain rfl : i = x0.length := by omega
    rw [List.drop_of_length_le (by simp)]
    refine Ev.eq fun k => ?_
    simp only [fastiref32_first.l0]
    rw [if_neg (by omega)]; rfl
  | succ d ih =>
    intro i hd hi
    have hi' : i < x0.length := by omega
    rw [fin_drop hi', List.find?_cons]
    have hw := w64 (x := x3 + x1) (by omega) (by omega)
    by_cases h : 0 ≤ rd x2 (i : Int)
    · by_cases hh : x3 + x1 ≤ rd x0 (i : Int)
      · have : fitB x0 x2 (x3 + x1) ⟨i, hi'⟩ = true := by rw [fitB, decide_eq_true h, decide_eq_true hh]; rfl
        rw [this]
        refine Ev.eq fun k => ?_
        simp only [fastiref32_first.l0]
        rw [if_pos (by omega), if_pos (by omega), if_pos (by omega), if_pos h, hw, if_pos hh]; rfl
      · have : fitB x0 x2 (x3 + x1) ⟨i, hi'⟩ = false := by rw [fitB, decide_eq_false hh, Bool.and_false]
        rw [this]
        refine Ev.step (fun k => ?_) (ih (i + 1) (by omega) (by omega))
        simp only [fastiref32_first.l0]
        rw [if_pos (by omega), if_pos (by omega), if_pos (by omega), if_pos h, hw, if_neg hh, w64s i (by omega)]
    · have : fitB x0 x2 (x3 + x1) ⟨i, hi'⟩ = false := by rw [fitB, decide_eq_false h, Bool.false_and]
      rw [this]
      refine Ev.step (fun k => ?_) (ih (i + 1) (by omega) (by omega))
      simp only [fastiref32_first.l0]
      rw [if_pos (by omega), if_pos (by omega), if_pos (by omega), if_neg h, w64s i (by omega)]
theorem reffirst_ev (x0 : List Int) (x1 : Int) (x2 : List Int) (x3 : Int) (hs : asc x0 = true) (hx : x0.length ≤ 400) (h2 : x2.length = x0.length) (h3 : -400 ≤ x3) (h4 : x3 ≤ 73048) (h5 : 1 ≤ x1) (h6 : x1 ≤ 400) :
    Ev (fun k => fastiref32_first.f k x0 x1 x2 x3) (pos x0 (PC.firstOk x0 x2 (x3 + x1))) := by
  have := reffirst_loop x0 x1 x2 x3 hx h2 h3 h4 h5 h6 _ 0 rfl (Nat.zero_le _)
  rw [List.drop_zero] at this
  rw [firstOk_eq x0 x2 _ hs]
  exact this
theorem early_dead (l0 : List Int) (a1 : Int) (hd : ∀ x ∈ l0, 0 ≤ x ∧ x ≤ 73048) (hs : asc l0 = true) : ∀ rows, PC.earlyGo l0 a1 rows 73049 = List.replicate rows.length (-1)
  | [] => rfl
  | row :: rows => by
    have : PC.firstOk l0 row 73049 = none := by
      rw [firstOk_eq _ _ _ hs]
      refine List.find?_eq_none.2 fun i _ => ?_
      have := hd _ (List.getElem_mem i.2)
      rw [fitB, rd_lt i.2, decide_eq_false (show ¬ (73049 : Int) ≤ l0[i.1] by omega), Bool.and_false]
      decide
    rw [PC.earlyGo, this]
    show -1 :: PC.earlyGo l0 a1 rows 73049 = _
    rw [early_dead l0 a1 hd hs rows]; rfl
theorem early_start (l0 : List Int) (a1 : Int) (hd : ∀ x ∈ l0, 0 ≤ x ∧ x ≤ 73048) (hs : asc l0 = true) (h0 : 0 < l0.length) (n : Int) (hn : n ≤ 0) (rows : List (List Int)) : PC.earlyGo l0 a1 rows (rd l0 0) = PC.earlyGo l0 a1 rows n := by
  cases rows with
  | nil => rfl
  | cons row rows =>
    have : PC.firstOk l0 row (rd l0 0) = PC.firstOk l0 row n := by
      rw [firstOk_eq _ _ _ hs, firstOk_eq _ _ _ hs]
      refine find_congr fun i _ => ?_
      have h1 := hd _ (List.getElem_mem i.2)
      have h2 : rd l0 0 ≤ l0[i.1] := by
        rw [show (0 : Int) = ((0 : Nat) : Int) from rfl, rd_lt h0]
        exact asc_le hs (Nat.zero_le _) i.2
      rw [fitB, fitB, rd_lt i.2, decide_eq_true h2, decide_eq_true (show n ≤ l0[i.1] by omega)]
    rw [PC.earlyGo, PC.earlyGo, this]
theorem refearly_loop (x0 : List Int) (x1 : Int) (x2 : List (List Int)) (hs : asc x0 = true) (hday : ∀ x ∈ x0, 0 ≤ x ∧ x ≤ 73048) (hx : x0.length ≤ 400) (h2 : x2.length ≤ 40) (hrow : ∀ row ∈ x2, row.length = x0.length) (h5 : 1 ≤ x1) (h6 : x1 ≤ 400) (d : Nat) : ∀ (i : Nat) (acc : List Int), x2.length - i = d → i ≤ x2.length → acc.length = i →
    (∀ last : Int, -400 ≤ last → last ≤ 73048 → Ev (fun k => fastiref32_Earliest.l0 k x0 x1 x2 acc last false (i : Int)) (acc ++ PC.earlyGo x0 x1 (x2.drop i) (last + x1), 0)) ∧
    (∀ last : Int, Ev (fun k => fastiref32_Earliest.l0 k x0 x1 x2 acc last true (i : Int)) (acc ++ PC.earlyGo x0 x1 (x2.drop i) 73049, 0)) := by
  induction d with
  | zero =>
    intro i acc hd hi ha
    obtain rfl : i = x2.length := by omega
    rw [List.drop_length]
    refine ⟨fun last _ _ => Ev.eq fun k => ?_, fun last => Ev.eq fun k => ?_⟩
    · simp only [fastiref32_Earliest.l0]
      rw [if_neg (by omega)]; simp [PC.earlyGo]
    · simp only [fastiref32_Earliest.l0]
      rw [if_neg (by omega)]; simp [PC.earlyGo]
  | succ d ih =>
    intro i acc hd hi ha
    have hi' : i < x2.length := by omega
    have hrl := hrow _ (List.getElem_mem hi')
    rw [List.drop_eq_getElem_cons hi']
    refine ⟨fun last hl0 hl1 => ?_, fun last => ?_⟩
    · have hf := reffirst_ev x0 x1 x2[i] last hs hx hrl hl0 hl1 h5 h6
      have hstep : ∀ k, fastiref32_Earliest.l0 (k + 1) x0 x1 x2 acc last false (i : Int) = (fastiref32_first.f k x0 x1 x2[i] last).bind fun t => if t < 0 then fastiref32_Earliest.l0 k x0 x1 x2 (acc ++ [t]) last true ((i + 1 : Nat) : Int) else if 0 ≤ t then if t < (x0.length : Int) then fastiref32_Earliest.l0 k x0 x1 x2 (acc ++ [t]) (rd x0 t) false ((i + 1 : Nat) : Int) else none else none := fun k => by
        simp only [fastiref32_Earliest.l0]
        rw [if_pos (by omega), if_neg (by decide), if_pos (by omega), PC.rd_L1_lt hi', w64s i (by omega)]
        congr 1
        funext t
        rw [if_pos (by omega)]
        rfl
      refine Ev.step hstep (Ev.bind hf ?_)
      rw [PC.earlyGo]
      cases hq : PC.firstOk x0 x2[i] (last + x1) with
      | none =>
        have h := (ih (i + 1) (acc ++ [-1]) (by omega) (by omega) (by simp [ha])).2 last
        rw [List.append_assoc] at h
        exact Ev.congr (fun k => if_pos (show (-1 : Int) < 0 by decide)) h
      | some j =>
        have hdj := hday _ (List.getElem_mem j.2)
        have h := (ih (i + 1) (acc ++ [(j.1 : Int)]) (by omega) (by omega) (by simp [ha])).1 (rd x0 (j.1 : Int)) (by rw [rd_lt j.2]; omega) (by rw [rd_lt j.2]; omega)
        rw [List.append_assoc] at h
        refine Ev.congr (fun k => ?_) h
        have e : pos x0 (some j) = (j.1 : Int) := rfl
        simp only [e]
        have := j.2
        rw [if_neg (by omega), if_pos (by omega), if_pos (by omega)]
    · have h := (ih (i + 1) (acc ++ [-1]) (by omega) (by omega) (by simp [ha])).2 last
      rw [List.append_assoc] at h
      have e : PC.earlyGo x0 x1 (x2[i] :: x2.drop (i + 1)) 73049 = -1 :: PC.earlyGo x0 x1 (x2.drop (i + 1)) 73049 := by
        rw [early_dead x0 x1 hday hs, early_dead x0 x1 hday hs]; rfl
      rw [e]
      refine Ev.step (fun k => ?_) h
      simp only [fastiref32_Earliest.l0]
      rw [if_pos (by omega), if_pos trivial, if_pos (by omega), w64s i (by omega)]
      simp
def earlyA (l0 : List Int) (a1 : Int) (l2 : List (List Int)) : List Int × Int := if PC.checkS l0 a1 l2 = 0 then (PC.earlyGo l0 a1 l2 (rd l0 0), 0) else ([], PC.checkS l0 a1 l2)
theorem early_eq (l0 : List Int) (a1 : Int) (l2 : List (List Int)) : rounds_Earliest.f l0 a1 l2 = some (earlyA l0 a1 l2) := by
  unfold rounds_Earliest.f earlyA
  split <;> rfl
theorem refearly_ev (l0 : List Int) (a1 : Int) (l2 : List (List Int)) : Ev (fun k => fastiref32_Earliest.f k l0 a1 l2) (earlyA l0 a1 l2) := by
  unfold earlyA
  refine Ev.bind (rcheck_ev l0 a1 l2) ?_
  by_cases h : PC.checkS l0 a1 l2 = 0
  · obtain ⟨hok, hl4, hl2⟩ := PC.okB_of h
    obtain ⟨hpos, hasc, hday, hra, hrb, hrow⟩ := PC.okB_parts hok
    rw [if_pos h]
    have h' := (refearly_loop l0 a1 l2 hasc hday hl4 hl2 (fun row hr => (hrow row hr).1) hra hrb _ 0 [] rfl (Nat.zero_le _) rfl).1 (-400) (by omega) (by omega)
    rw [List.drop_zero, List.nil_append, ← early_start l0 a1 hday hasc hpos (-400 + a1) (by omega)] at h'
    refine Ev.congr (fun k => ?_) h'
    rw [if_pos h]; rfl
  · rw [if_neg h]
    refine Ev.all fun k => ?_
    rw [if_neg h]
end Go.Proofs.Ytaagpnbnjdpjgaa.Q
