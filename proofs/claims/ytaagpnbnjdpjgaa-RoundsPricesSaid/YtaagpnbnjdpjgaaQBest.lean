/- Proved here: plain laws of layer 32's printed functions (the table's cells are the least costs), under the conditions that each theorem names. -/
import Derived.Test.YtaagpnbnjdpjgaaX6
import Derived.Test.YtaagpnbnjdpjgaaK
namespace Go.Proofs.Ytaagpnbnjdpjgaa.Q
open Go.RowKit Go.Proofs.Ytaagpnbnjdpjgaa.X Go.Proofs.YtaagpnbnjdpjgaaW.PrintWords Go.Proofs.YtaagpnbnjdpjgaaW.PrintLast Go.Proofs.Ytaagpnbnjdpjgaa.K
set_option linter.unusedVariables false
set_option linter.unusedSimpArgs false

/-- b names the least of the values that are not negative, of the indices from i on below n, and the least such index. -/
def IsBest (n : Nat) (f : Nat → Int) (i : Nat) (b : Int × Int) : Prop :=
  (b = (0, -1) ∧ ∀ j, i ≤ j → j < n → f j < 0) ∨
  ∃ x : Nat, b.2 = (x : Int) ∧ i ≤ x ∧ x < n ∧ f x = b.1 ∧ 0 ≤ b.1 ∧ (∀ j, i ≤ j → j < n → 0 ≤ f j → b.1 ≤ f j) ∧ ∀ j, i ≤ j → j < x → 0 ≤ f j → b.1 < f j
theorem IsBest.uniq {n : Nat} {f g : Nat → Int} {i : Nat} {b c : Int × Int} (hf : ∀ j, i ≤ j → j < n → f j = g j) (h : IsBest n f i b) (h' : IsBest n g i c) : b = c := by
  rcases h with ⟨rfl, h⟩ | ⟨x, h1, h2, h3, h4, h5, h6, h7⟩
  · rcases h' with ⟨rfl, _⟩ | ⟨y, k1, k2, k3, k4, k5, _⟩
    · rfl
    · have := h y k2 k3
      rw [hf y k2 k3, k4] at this
      omega
  · rcases h' with ⟨rfl, h'⟩ | ⟨y, k1, k2, k3, k4, k5, k6, k7⟩
    · have := h' x h2 h3
      rw [← hf x h2 h3, h4] at this
      omega
    · have e1 := h6 y k2 k3 (by rw [hf y k2 k3, k4]; exact k5)
      have e2 := k6 x h2 h3 (by rw [← hf x h2 h3, h4]; exact h5)
      rw [hf y k2 k3, k4] at e1
      rw [← hf x h2 h3, h4] at e2
      have hxy : x = y := by
        rcases Nat.lt_trichotomy x y with h | h | h
        · have := k7 x h2 h (by rw [← hf x h2 h3, h4]; exact h5)
          rw [← hf x h2 h3, h4] at this
          omega
        · exact h
        · have := h7 y k2 h (by rw [hf y k2 k3, k4]; exact k5)
          rw [hf y k2 k3, k4] at this
          omega
      exact Prod.ext (by omega) (by rw [h1, k1, hxy])
/-- What a round costs on the day of index i, with all later rounds; -1 if it cannot be. -/
def ow (l0 : List Int) (a1 : Int) (row : List Int) (later : Nat → Int × Int) (i : Nat) : Int :=
  if 0 ≤ rd row (i : Int) ∧ 0 ≤ (later (lb l0 (rd l0 (i : Int) + a1))).2 then rd row (i : Int) + (later (lb l0 (rd l0 (i : Int) + a1))).1 else -1
theorem plRow_best (l0 : List Int) (a1 : Int) (row : List Int) (later : Nat → Int × Int) (hl : ∀ j, 0 ≤ (later j).1) : ∀ d, d ≤ l0.length → IsBest l0.length (ow l0 a1 row later) (l0.length - d) (PC.plRow l0 a1 row later d)
  | 0, _ => .inl ⟨rfl, fun j h1 h2 => by omega⟩
  | d + 1, hd => by
    have ih := plRow_best l0 a1 row later hl d (by omega)
    simp only [PC.plRow]
    obtain ⟨i, hi⟩ : ∃ i, l0.length - (d + 1) = i := ⟨_, rfl⟩
    rw [show l0.length - d = i + 1 by omega] at ih
    rw [hi]
    have hin : i < l0.length := by omega
    by_cases ho : 0 ≤ rd row (i : Int) ∧ 0 ≤ (later (lb l0 (rd l0 (i : Int) + a1))).2
    · have hlt := hl (lb l0 (rd l0 (i : Int) + a1))
      have hoi : ow l0 a1 row later i = rd row (i : Int) + (later (lb l0 (rd l0 (i : Int) + a1))).1 := if_pos ho
      by_cases hc : (PC.plRow l0 a1 row later d).2 < 0 ∨ rd row (i : Int) + (later (lb l0 (rd l0 (i : Int) + a1))).1 ≤ (PC.plRow l0 a1 row later d).1
      · rw [if_pos ⟨ho, hc⟩]
        refine .inr ⟨i, rfl, Nat.le_refl _, hin, hoi, by have := ho.1; show 0 ≤ rd row (i : Int) + _; omega, fun j hj1 hj2 hj3 => ?_, fun j hj1 hj2 => by omega⟩
        show rd row (i : Int) + _ ≤ _
        by_cases e : j = i
        · rw [e, hoi]; exact Int.le_refl _
        · rcases ih with ⟨hb, hn⟩ | ⟨x, h1, h2, h3, h4, h5, h6, h7⟩
          · have := hn j (by omega) hj2; omega
          · have := h6 j (by omega) hj2 hj3
            rcases hc with hc | hc
            · omega
            · omega
      · rw [if_neg (fun h => hc h.2)]
        rcases ih with ⟨hb, hn⟩ | ⟨x, h1, h2, h3, h4, h5, h6, h7⟩
        · exact absurd (.inl (by rw [hb]; decide)) hc
        · have hc' : ¬ (rd row (i : Int) + (later (lb l0 (rd l0 (i : Int) + a1))).1 ≤ (PC.plRow l0 a1 row later d).1) := fun h => hc (.inr h)
          refine .inr ⟨x, h1, by omega, h3, h4, h5, fun j hj1 hj2 hj3 => ?_, fun j hj1 hj2 hj3 => ?_⟩
          · by_cases e : j = i
            · rw [e, hoi]; omega
            · exact h6 j (by omega) hj2 hj3
          · by_cases e : j = i
            · rw [e, hoi]; omega
            · exact h7 j (by omega) hj2 hj3
    · have hoi : ow l0 a1 row later i = -1 := if_neg ho
      rw [if_neg (fun h => ho h.1)]
      rcases ih with ⟨hb, hn⟩ | ⟨x, h1, h2, h3, h4, h5, h6, h7⟩
      · refine .inl ⟨hb, fun j hj1 hj2 => ?_⟩
        by_cases e : j = i
        · rw [e, hoi]; decide
        · exact hn j (by omega) hj2
      · refine .inr ⟨x, h1, by omega, h3, h4, h5, fun j hj1 hj2 hj3 => ?_, fun j hj1 hj2 hj3 => ?_⟩
        · by_cases e : j = i
          · rw [e, hoi] at hj3; omega
          · exact h6 j (by omega) hj2 hj3
        · by_cases e : j = i
          · rw [e, hoi] at hj3; omega
          · exact h7 j (by omega) hj2 hj3
theorem pl_nonneg (l0 : List Int) (a1 : Int) : ∀ rows i, 0 ≤ (PC.pl l0 a1 rows i).1
  | [], i => by simp [PC.pl]
  | row :: rows, i => by
    simp only [PC.pl]
    rcases plRow_best l0 a1 row (PC.pl l0 a1 rows) (pl_nonneg l0 a1 rows) (l0.length - i) (by omega) with ⟨h, _⟩ | ⟨x, _, _, _, _, h, _⟩
    · rw [h]; decide
    · exact h
theorem pl_best (l0 : List Int) (a1 : Int) (row : List Int) (rows : List (List Int)) (i : Nat) (hi : i ≤ l0.length) : IsBest l0.length (ow l0 a1 row (PC.pl l0 a1 rows)) i (PC.pl l0 a1 (row :: rows) i) := by
  have := plRow_best l0 a1 row (PC.pl l0 a1 rows) (pl_nonneg l0 a1 rows) (l0.length - i) (by omega)
  rwa [show l0.length - (l0.length - i) = i by omega] at this

/-! Placements: 'Vl rows i at c': the indices 'at', the first not before i, each next one far enough from the one before, none forbidden; c is what they cost. -/
def Vl (l0 : List Int) (a1 : Int) : List (List Int) → Nat → List Int → Int → Prop
  | [], _, xs, c => xs = [] ∧ c = 0
  | row :: rows, i, xs, c => ∃ (x : Nat) (ys : List Int) (c' : Int), xs = (x : Int) :: ys ∧ i ≤ x ∧ x < l0.length ∧ 0 ≤ rd row (x : Int) ∧ Vl l0 a1 rows (lb l0 (rd l0 (x : Int) + a1)) ys c' ∧ c = rd row (x : Int) + c'
/-- Lexicographically less. -/
def lexlt : List Int → List Int → Bool
  | a :: us, b :: vs => if a = b then lexlt us vs else decide (a < b)
  | _, _ => false
theorem pick_vl (l0 : List Int) (a1 : Int) : ∀ (rows : List (List Int)) (i : Nat), i ≤ l0.length → 0 ≤ (PC.pl l0 a1 rows i).2 → Vl l0 a1 rows i (PC.pick l0 a1 rows (PC.pl l0 a1 rows i).2) (PC.pl l0 a1 rows i).1
  | [], i, _, _ => ⟨rfl, rfl⟩
  | row :: rows, i, hi, h => by
    obtain ⟨x, h1, h2, h3, h4, h5, h6⟩ := PC.pl_at l0 a1 row rows i hi h
    refine ⟨x, _, _, ?_, h2, h3, h4, pick_vl l0 a1 rows _ (lb_le _ _) h5, h6⟩
    rw [h1, PC.pick]
theorem vl_best (l0 : List Int) (a1 : Int) : ∀ (rows : List (List Int)) (i : Nat) (xs : List Int) (c : Int), i ≤ l0.length → Vl l0 a1 rows i xs c →
    0 ≤ (PC.pl l0 a1 rows i).2 ∧ (PC.pl l0 a1 rows i).1 ≤ c ∧ (c = (PC.pl l0 a1 rows i).1 → lexlt xs (PC.pick l0 a1 rows (PC.pl l0 a1 rows i).2) = false)
  | [], i, xs, c, _, h => by
    obtain ⟨rfl, rfl⟩ := h
    exact ⟨by simp [PC.pl], by simp [PC.pl], fun _ => rfl⟩
  | row :: rows, i, xs, c, hi, h => by
    obtain ⟨x, ys, c', rfl, h2, h3, h4, h5, rfl⟩ := h
    obtain ⟨g1, g2, g3⟩ := vl_best l0 a1 rows _ ys c' (lb_le _ _) h5
    have hx : ow l0 a1 row (PC.pl l0 a1 rows) x = rd row (x : Int) + (PC.pl l0 a1 rows (lb l0 (rd l0 (x : Int) + a1))).1 := if_pos ⟨h4, g1⟩
    have hn := pl_nonneg l0 a1 rows (lb l0 (rd l0 (x : Int) + a1))
    rcases pl_best l0 a1 row rows i hi with ⟨_, hneg⟩ | ⟨y, k1, k2, k3, k4, k5, k6, k7⟩
    · have := hneg x h2 h3; omega
    · have e1 := k6 x h2 h3 (by omega)
      refine ⟨by omega, by omega, fun hc => ?_⟩
      have e2 : ow l0 a1 row (PC.pl l0 a1 rows) x = (PC.pl l0 a1 (row :: rows) i).1 := by omega
      have hyx : y ≤ x := by
        rcases Nat.lt_or_ge x y with h | h
        · have := k7 x h2 h (by omega); omega
        · exact h
      rw [k1, PC.pick]
      by_cases e : x = y
      · subst e
        rw [lexlt, if_pos rfl]
        exact g3 (by omega)
      · rw [lexlt, if_neg (by omega)]
        exact decide_eq_false (by omega)
def placeA (l0 : List Int) (a1 : Int) (l2 : List (List Int)) : List Int × Int × Bool × Int := if PC.checkS l0 a1 l2 = 0 then ((PC.placeS l0 a1 l2).1, (PC.placeS l0 a1 l2).2.1, (PC.placeS l0 a1 l2).2.2, 0) else ([], 0, false, PC.checkS l0 a1 l2)
theorem place_eq (l0 : List Int) (a1 : Int) (l2 : List (List Int)) : rounds_Place.f l0 a1 l2 = some (placeA l0 a1 l2) := by
  unfold rounds_Place.f placeA
  split <;> rfl
end Go.Proofs.Ytaagpnbnjdpjgaa.Q
