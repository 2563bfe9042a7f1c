/- Proved here: plain laws of layer 32's printed functions (Placed and Less of the reference, and the statement RoundsBest), under the conditions that each theorem names. -/
import Derived.Test.YtaagpnbnjdpjgaaQBest
import Derived.Test.YtaagpnbnjdpjgaaX14
import Derived.Test.YtaagpnbnjdpjgaaQ
namespace Go.Proofs.Ytaagpnbnjdpjgaa.Q
open Go.RowKit Go.Proofs.Ytaagpnbnjdpjgaa.X Go.Proofs.YtaagpnbnjdpjgaaW.PrintWords Go.Proofs.YtaagpnbnjdpjgaaW.PrintLast Go.Proofs.Ytaagpnbnjdpjgaa.K
set_option linter.unusedVariables false
set_option linter.unusedSimpArgs false

/-- What a placement costs, if it is one: the first index not before i. -/
def plc (l0 : List Int) (a1 : Int) : List (List Int) → Nat → List Int → Option Int
  | [], _, [] => some 0
  | row :: rows, i, x :: xs => if ((i : Int) ≤ x ∧ x < (l0.length : Int)) ∧ 0 ≤ rd row x then (plc l0 a1 rows (lb l0 (rd l0 x + a1)) xs).map (rd row x + ·) else none
  | _, _, _ => none
theorem plc_vl (l0 : List Int) (a1 : Int) : ∀ (rows : List (List Int)) (i : Nat) (xs : List Int) (c : Int), plc l0 a1 rows i xs = some c ↔ Vl l0 a1 rows i xs c
  | [], i, [], c => by simp [plc, Vl, eq_comm]
  | [], i, x :: xs, c => by simp [plc, Vl]
  | row :: rows, i, [], c => by simp [plc, Vl]
  | row :: rows, i, x :: xs, c => by
    constructor
    · intro h
      rw [plc] at h
      split at h
      · rename_i hc
        obtain ⟨c', h1, rfl⟩ := Option.map_eq_some_iff.1 h
        obtain ⟨y, rfl⟩ : ∃ y : Nat, x = (y : Int) := ⟨x.toNat, by omega⟩
        exact ⟨y, xs, c', rfl, by omega, by omega, hc.2, (plc_vl l0 a1 rows _ xs c').1 h1, rfl⟩
      · cases h
    · rintro ⟨y, ys, c', h1, h2, h3, h4, h5, rfl⟩
      obtain ⟨rfl, rfl⟩ := List.cons.inj h1
      rw [plc, if_pos ⟨⟨by omega, by omega⟩, h4⟩, (plc_vl l0 a1 rows _ xs c').2 h5]
      rfl
def plcA (o : Option Int) (cost : Int) : Int × Bool := match o with
  | some c => (cost + c, true)
  | none => (0, false)
theorem placed_loop (x0 : List Int) (x1 : Int) (x2 : List (List Int)) (hs : asc x0 = true) (hday : ∀ x ∈ x0, 0 ≤ x ∧ x ≤ 73048) (hl : x0.length ≤ 400) (h2 : x2.length ≤ 40) (hrow : ∀ row ∈ x2, row.length = x0.length ∧ ∀ p ∈ row, -1 ≤ p ∧ p ≤ 1048576) (h5 : 1 ≤ x1) (h6 : x1 ≤ 400) (x3 : List Int) (h3 : x3.length = x2.length) (d : Nat) : ∀ (i b : Nat) (cost : Int), x3.length - i = d → i ≤ x3.length → 0 ≤ cost → cost ≤ 1048576 * (i : Int) →
    ((i = 0 ∧ b = 0) ∨ (0 < i ∧ 0 ≤ rd x3 ((i - 1 : Nat) : Int) ∧ rd x3 ((i - 1 : Nat) : Int) < (x0.length : Int) ∧ b = lb x0 (rd x0 (rd x3 ((i - 1 : Nat) : Int)) + x1))) →
    Ev (fun k => fastiref32_Placed.l0 k x0 x1 x2 x3 cost (i : Int)) (plcA (plc x0 x1 (x2.drop i) b (x3.drop i)) cost) := by
  induction d with
  | zero =>
    intro i b cost hd hi _ _ _
    obtain rfl : i = x3.length := by omega
    rw [List.drop_length, List.drop_of_length_le (by omega)]
    refine Ev.eq fun k => ?_
    simp only [fastiref32_Placed.l0]
    rw [if_neg (by omega)]
    simp [plc, plcA]
  | succ d ih =>
    intro i b cost hd hi hc0 hc1 hb
    have hi' : i < x3.length := by omega
    have hi2 : i < x2.length := by omega
    have hrl := hrow _ (List.getElem_mem hi2)
    rw [drop_get hi', List.drop_eq_getElem_cons hi2, plc]
    have e3 : rd x3 (i : Int) = x3[i] := rd_lt hi'
    have e2 : rd_L1 x2 (i : Int) = x2[i] := PC.rd_L1_lt hi2
    have false_ : ∀ (h : ¬ (((b : Int) ≤ x3[i] ∧ x3[i] < (x0.length : Int)) ∧ 0 ≤ rd x2[i] x3[i])), (∀ k, fastiref32_Placed.l0 (k + 1) x0 x1 x2 x3 cost (i : Int) = some (0, false)) →
        Ev (fun k => fastiref32_Placed.l0 k x0 x1 x2 x3 cost (i : Int)) (plcA (if ((b : Int) ≤ x3[i] ∧ x3[i] < (x0.length : Int)) ∧ 0 ≤ rd x2[i] x3[i] then (plc x0 x1 (x2.drop (i + 1)) (lb x0 (rd x0 x3[i] + x1)) (x3.drop (i + 1))).map (rd x2[i] x3[i] + ·) else none) cost) := fun h hk => by
      rw [if_neg h]
      exact Ev.eq hk
    by_cases c1 : 0 ≤ x3[i]
    · by_cases c2 : x3[i] < (x0.length : Int)
      · by_cases c3 : 0 ≤ rd x2[i] x3[i]
        · obtain ⟨y, hy⟩ : ∃ y : Nat, x3[i] = (y : Int) := ⟨x3[i].toNat, by omega⟩
          have hyl : y < x0.length := by omega
          have hp := hrl.2 _ (List.getElem_mem (show y < x2[i].length by omega))
          have hpy : rd x2[i] (y : Int) = x2[i][y] := rd_lt (by omega)
          have hdy := hday _ (List.getElem_mem hyl)
          have hry : rd x0 (y : Int) = x0[y] := rd_lt hyl
          have go : (b : Int) ≤ x3[i] → (∀ k, fastiref32_Placed.l0 (k + 1) x0 x1 x2 x3 cost (i : Int) = fastiref32_Placed.l0 k x0 x1 x2 x3 (cost + rd x2[i] x3[i]) ((i + 1 : Nat) : Int)) →
              Ev (fun k => fastiref32_Placed.l0 k x0 x1 x2 x3 cost (i : Int)) (plcA (if ((b : Int) ≤ x3[i] ∧ x3[i] < (x0.length : Int)) ∧ 0 ≤ rd x2[i] x3[i] then (plc x0 x1 (x2.drop (i + 1)) (lb x0 (rd x0 x3[i] + x1)) (x3.drop (i + 1))).map (rd x2[i] x3[i] + ·) else none) cost) := fun hle hk => by
            rw [if_pos ⟨⟨hle, c2⟩, c3⟩]
            have h := ih (i + 1) (lb x0 (rd x0 x3[i] + x1)) (cost + rd x2[i] x3[i]) (by omega) (by omega) (by omega) (by rw [hy, hpy]; omega) (.inr ⟨by omega, by rw [Nat.add_sub_cancel, e3]; exact c1, by rw [Nat.add_sub_cancel, e3]; exact c2, by rw [Nat.add_sub_cancel, e3]⟩)
            have e : plcA (plc x0 x1 (x2.drop (i + 1)) (lb x0 (rd x0 x3[i] + x1)) (x3.drop (i + 1))) (cost + rd x2[i] x3[i]) = plcA ((plc x0 x1 (x2.drop (i + 1)) (lb x0 (rd x0 x3[i] + x1)) (x3.drop (i + 1))).map (rd x2[i] x3[i] + ·)) cost := by
              cases plc x0 x1 (x2.drop (i + 1)) (lb x0 (rd x0 x3[i] + x1)) (x3.drop (i + 1)) with
              | none => rfl
              | some c => simp only [plcA, Option.map_some, Int.add_assoc]
            rw [← e]
            exact Ev.step hk h
          have hw : wrap64 (cost + rd x2[i] x3[i]) = cost + rd x2[i] x3[i] := w64 (by omega) (by rw [hy, hpy]; omega)
          rcases hb with ⟨rfl, rfl⟩ | ⟨h0, g1, g2, hb⟩
          · refine go (by omega) (fun k => ?_)
            simp only [fastiref32_Placed.l0]
            rw [if_pos (by omega), if_pos (by omega), e3, if_neg (by omega), if_neg (by omega), if_pos (by omega), if_pos c1, e2, if_pos (by omega), if_neg (by omega), if_neg (by omega), hw, w64s 0 (by omega)]
          · obtain ⟨z, hz⟩ : ∃ z : Nat, rd x3 ((i - 1 : Nat) : Int) = (z : Int) := ⟨(rd x3 ((i - 1 : Nat) : Int)).toNat, by omega⟩
            rw [hz] at g1 g2 hb
            have hzl : z < x0.length := by omega
            have hdz := hday _ (List.getElem_mem hzl)
            have hrz : rd x0 (z : Int) = x0[z] := rd_lt hzl
            have hwz : wrap64 (rd x0 (z : Int) + x1) = rd x0 (z : Int) + x1 := w64 (by omega) (by omega)
            have hiff : (b ≤ y) ↔ ¬ (x0[y] < rd x0 (z : Int) + x1) := by
              rw [hb, lb_iff hs _ hyl]
              omega
            by_cases c4 : (z : Int) ≥ x3[i]
            · refine false_ (fun h => ?_) (fun k => ?_)
              · have : b ≤ y := by omega
                have h9 := hiff.1 this
                have : x0[y] ≤ x0[z] := asc_le hs (by omega) hzl
                omega
              · simp only [fastiref32_Placed.l0]
                rw [if_pos (by omega), if_pos (by omega), e3, if_neg (by omega), if_neg (by omega), if_pos (by omega), if_pos c1, e2, if_pos (by omega), if_neg (by omega), if_pos (by omega), w64p i h0 (by omega), if_pos (by omega), if_pos (by omega), hz, if_pos c4]
            · by_cases c5 : rd x0 (y : Int) < rd x0 (z : Int) + x1
              · refine false_ (fun h => ?_) (fun k => ?_)
                · have : b ≤ y := by omega
                  have h9 := hiff.1 this
                  omega
                · simp only [fastiref32_Placed.l0]
                  rw [if_pos (by omega), if_pos (by omega), e3, if_neg (by omega), if_neg (by omega), if_pos (by omega), if_pos c1, e2, if_pos (by omega), if_neg (by omega), if_pos (by omega), w64p i h0 (by omega), if_pos (by omega), if_pos (by omega), hz, if_neg c4, if_pos c2, if_pos g1, if_pos g2, hwz, hy, if_pos c5]
              · refine go (by have := hiff.2 (by omega); omega) (fun k => ?_)
                simp only [fastiref32_Placed.l0]
                rw [if_pos (by omega), if_pos (by omega), e3, if_neg (by omega), if_neg (by omega), if_pos (by omega), if_pos c1, e2, if_pos (by omega), if_neg (by omega), if_pos (by omega), w64p i h0 (by omega), if_pos (by omega), if_pos (by omega), hz, if_neg c4, if_pos c2, if_pos g1, if_pos g2, hwz, hw, w64s i (by omega)]
                rw [if_neg (by rw [hy]; exact c5)]
        · refine false_ (fun h => c3 h.2) (fun k => ?_)
          simp only [fastiref32_Placed.l0]
          rw [if_pos (by omega), if_pos (by omega), e3, if_neg (by omega), if_neg (by omega), if_pos (by omega), if_pos c1, e2, if_pos (by omega), if_pos (by omega)]
      · refine false_ (fun h => c2 h.1.2) (fun k => ?_)
        simp only [fastiref32_Placed.l0]
        rw [if_pos (by omega), if_pos (by omega), e3, if_neg (by omega), if_pos (by omega)]
    · refine false_ (fun h => by have := h.1.1; omega) (fun k => ?_)
      simp only [fastiref32_Placed.l0]
      rw [if_pos (by omega), if_pos (by omega), e3, if_pos (by omega)]
theorem placed_ev (x0 : List Int) (x1 : Int) (x2 : List (List Int)) (hs : asc x0 = true) (hday : ∀ x ∈ x0, 0 ≤ x ∧ x ≤ 73048) (hl : x0.length ≤ 400) (h2 : x2.length ≤ 40) (hrow : ∀ row ∈ x2, row.length = x0.length ∧ ∀ p ∈ row, -1 ≤ p ∧ p ≤ 1048576) (h5 : 1 ≤ x1) (h6 : x1 ≤ 400) (x3 : List Int) : Ev (fun k => fastiref32_Placed.f k x0 x1 x2 x3) (plcA (plc x0 x1 x2 0 x3) 0) := by
  by_cases h3 : x3.length = x2.length
  · have h := placed_loop x0 x1 x2 hs hday hl h2 hrow h5 h6 x3 h3 _ 0 0 0 rfl (Nat.zero_le _) (by omega) (by omega) (.inl ⟨rfl, rfl⟩)
    refine Ev.congr (fun k => ?_) h
    unfold fastiref32_Placed.f
    rw [if_pos (by omega)]; rfl
  · have hn : ∀ (rows : List (List Int)) (i : Nat) (xs : List Int), xs.length ≠ rows.length → plc x0 x1 rows i xs = none := fun rows => by
      induction rows with
      | nil => intro i xs h; cases xs with
        | nil => simp at h
        | cons a l => rfl
      | cons r rs ih => intro i xs h; cases xs with
        | nil => rfl
        | cons a l => rw [plc, ih _ l (by simpa using h)]; split <;> rfl
    rw [hn x2 0 x3 h3]
    refine Ev.all fun k => ?_
    unfold fastiref32_Placed.f
    rw [if_neg (by omega)]; rfl
theorem less_loop (a b : List Int) (ha : a.length < 4611686018427387904) (d : Nat) : ∀ i : Nat, a.length - i = d → i ≤ a.length → Ev (fun k => fastiref32_Less.l0 k a b (i : Int)) (lexlt (a.drop i) (b.drop i)) := by
  induction d with
  | zero =>
    intro i hd hi
    obtain rfl : i = a.length := by omega
    rw [List.drop_length]
    refine Ev.step (f := fun k => fastiref32_Less.j1 k a b (a.length : Int) false) (fun k => ?_) (Ev.eq fun k => ?_)
    · simp only [fastiref32_Less.l0]; rw [if_neg (by omega)]
    · simp only [fastiref32_Less.j1]; rw [if_neg (by decide)]; simp [lexlt]
  | succ d ih =>
    intro i hd hi
    have hi' : i < a.length := by omega
    by_cases hb : i < b.length
    · rw [drop_get hi', drop_get hb, lexlt]
      have h1 : ∀ k, fastiref32_Less.l0 (k + 1) a b (i : Int) = fastiref32_Less.j1 k a b (i : Int) true := fun k => by
        simp only [fastiref32_Less.l0]; rw [if_pos (by omega), decide_eq_true (by omega)]
      have h2 : ∀ k, fastiref32_Less.j1 (k + 1) a b (i : Int) true = if a[i] = b[i] then fastiref32_Less.l0 k a b ((i + 1 : Nat) : Int) else some (decide (a[i] < b[i])) := fun k => by
        simp only [fastiref32_Less.j1]; rw [if_pos trivial, if_pos (by omega), if_pos (by omega), if_pos (by omega), rd_lt hi', rd_lt hb, w64s i (by omega)]
      by_cases e : a[i] = b[i]
      · rw [if_pos e]
        exact Ev.step h1 (Ev.step (fun k => by rw [h2, if_pos e]) (ih (i + 1) (by omega) (by omega)))
      · rw [if_neg e]
        exact Ev.step h1 (Ev.eq (fun k => by rw [h2, if_neg e]))
    · rw [List.drop_of_length_le (show b.length ≤ i by omega)]
      refine Ev.step (f := fun k => fastiref32_Less.j1 k a b (i : Int) false) (fun k => ?_) (Ev.eq fun k => ?_)
      · simp only [fastiref32_Less.l0]; rw [if_pos (by omega), decide_eq_false (by omega)]
      · simp only [fastiref32_Less.j1]; rw [if_neg (by decide)]; rw [drop_get hi']; rfl
theorem less_ev (a b : List Int) (ha : a.length < 4611686018427387904) : Ev (fun k => fastiref32_Less.f k a b) (lexlt a b) := by
  have := less_loop a b ha _ 0 rfl (Nat.zero_le _)
  rwa [List.drop_zero, List.drop_zero] at this
end Go.Proofs.Ytaagpnbnjdpjgaa.Q
