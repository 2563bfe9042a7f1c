/- Proved here: plain laws about layer 32's Place where one row of prices is lowered or raised, under the conditions that each theorem names. -/
import Derived.Test.YtaagpnbnjdpjgaaQBest
import Derived.Test.YtaagpnbnjdpjgaaX12
namespace Go.Proofs.Ytaagpnbnjdpjgaa.Q
open Go.RowKit Go.Proofs.Ytaagpnbnjdpjgaa.X Go.Proofs.YtaagpnbnjdpjgaaW.PrintWords Go.Proofs.YtaagpnbnjdpjgaaW.PrintLast Go.Proofs.YtaagpnbnjdpjgaaW.PrintMore Go.Proofs.Ytaagpnbnjdpjgaa.K
set_option linter.unusedVariables false
set_option linter.unusedSimpArgs false

theorem vl_less (l0 : List Int) (a1 : Int) : ∀ (rows : List (List Int)) (i : Nat) (xs : List Int) (c : Int) (k : Nat) (row : List Int), Vl l0 a1 rows i xs c →
    (∀ x : Nat, x < l0.length → 0 ≤ rd (rows.getD k []) (x : Int) → 0 ≤ rd row (x : Int) ∧ rd row (x : Int) ≤ rd (rows.getD k []) (x : Int)) → ∃ c', c' ≤ c ∧ Vl l0 a1 (rows.set k row) i xs c'
  | [], _, _, c, _, _, h, _ => ⟨c, Int.le_refl _, h⟩
  | r :: rs, i, xs, c, 0, row, h, hr => by
    obtain ⟨x, ys, c', rfl, h2, h3, h4, h5, rfl⟩ := h
    obtain ⟨h6, h7⟩ := hr x h3 h4
    exact ⟨rd row (x : Int) + c', Int.add_le_add_right h7 _, x, ys, c', rfl, h2, h3, h6, h5, rfl⟩
  | r :: rs, i, xs, c, k + 1, row, h, hr => by
    obtain ⟨x, ys, c', rfl, h2, h3, h4, h5, rfl⟩ := h
    obtain ⟨d, hd, hv⟩ := vl_less l0 a1 rs _ ys c' k row h5 hr
    exact ⟨rd r (x : Int) + d, Int.add_le_add_left hd _, x, ys, d, rfl, h2, h3, h4, hv, rfl⟩
theorem vl_more (l0 : List Int) (a1 b : Int) : ∀ (rows : List (List Int)) (i : Nat) (xs : List Int) (c : Int) (k : Nat) (row : List Int), k < rows.length → Vl l0 a1 rows i xs c →
    (∀ x : Nat, x < l0.length → 0 ≤ rd (rows.getD k []) (x : Int) → 0 ≤ rd row (x : Int) ∧ rd row (x : Int) = rd (rows.getD k []) (x : Int) + b) → Vl l0 a1 (rows.set k row) i xs (c + b)
  | [], _, _, _, _, _, hk, _, _ => by simp at hk
  | r :: rs, i, xs, c, 0, row, _, h, hr => by
    obtain ⟨x, ys, c', rfl, h2, h3, h4, h5, rfl⟩ := h
    obtain ⟨h6, h7⟩ := hr x h3 h4
    refine ⟨x, ys, c', rfl, h2, h3, h6, h5, ?_⟩
    rw [h7]
    show rd r (x : Int) + c' + b = rd r (x : Int) + b + c'
    omega
  | r :: rs, i, xs, c, k + 1, row, hk, h, hr => by
    obtain ⟨x, ys, c', rfl, h2, h3, h4, h5, rfl⟩ := h
    exact ⟨x, ys, c' + b, rfl, h2, h3, h4, vl_more l0 a1 b rs _ ys c' k row (by simpa using hk) h5 hr, by omega⟩
theorem lexlt_eq : ∀ {a b : List Int}, a.length = b.length → lexlt a b = false → lexlt b a = false → a = b
  | [], [], _, _, _ => rfl
  | [], _ :: _, h, _, _ => by simp at h
  | _ :: _, [], h, _, _ => by simp at h
  | a :: us, b :: vs, h, h1, h2 => by
    unfold lexlt at h1 h2
    by_cases e : a = b
    · subst e
      rw [if_pos rfl] at h1 h2
      rw [lexlt_eq (by simpa using h) h1 h2]
    · rw [if_neg e] at h1
      rw [if_neg (fun h => e h.symm)] at h2
      have h3 := of_decide_eq_false h1
      have h4 := of_decide_eq_false h2
      omega
theorem pick_len2 (l0 : List Int) (a1 : Int) : ∀ (rows : List (List Int)) (n : Int), (PC.pick l0 a1 rows n).length = rows.length
  | [], _ => rfl
  | r :: rs, n => by rw [PC.pick]; simp [pick_len2 l0 a1 rs]
theorem check_set {l0 : List Int} {a1 : Int} {l2 : List (List Int)} (h : PC.checkS l0 a1 l2 = 0) (k : Nat) (row : List Int) (hr : PC.rowOk l0.length row = true) : PC.checkS l0 a1 (l2.set k row) = 0 := by
  obtain ⟨h1, h2, h3⟩ := PC.okB_of h
  unfold PC.checkS
  rw [if_neg (by rw [List.length_set]; omega), if_pos]
  unfold PC.okB at h1 ⊢
  rw [Bool.and_eq_true] at h1 ⊢
  refine ⟨h1.1, List.all_eq_true.2 fun r hr' => ?_⟩
  rcases List.mem_or_eq_of_mem_set hr' with h4 | h4
  · exact List.all_eq_true.1 h1.2 r h4
  · rw [h4]; exact hr
theorem place_less {l0 : List Int} {a1 : Int} {l2 : List (List Int)} (k : Nat) (row : List Int)
    (hr : ∀ x : Nat, x < l0.length → 0 ≤ rd (l2.getD k []) (x : Int) → 0 ≤ rd row (x : Int) ∧ rd row (x : Int) ≤ rd (l2.getD k []) (x : Int)) (h : (PC.placeS l0 a1 l2).2.2 = true) :
    (PC.placeS l0 a1 (l2.set k row)).2.2 = true ∧ (PC.placeS l0 a1 (l2.set k row)).2.1 ≤ (PC.placeS l0 a1 l2).2.1 := by
  unfold PC.placeS at h ⊢
  by_cases h0 : (PC.pl l0 a1 l2 0).2 < 0
  · rw [if_pos h0] at h; cases h
  · rw [if_neg h0]
    obtain ⟨c', hc, hv⟩ := vl_less l0 a1 l2 0 _ _ k row (pick_vl l0 a1 l2 0 (Nat.zero_le _) (by omega)) hr
    obtain ⟨b1, b2, _⟩ := vl_best l0 a1 _ 0 _ _ (Nat.zero_le _) hv
    rw [if_neg (by omega)]
    exact ⟨rfl, Int.le_trans b2 hc⟩
theorem place_raised {l0 : List Int} {a1 : Int} {l2 : List (List Int)} (k : Nat) (row : List Int) (b : Int) (hk : k < l2.length)
    (hr : ∀ x : Nat, x < l0.length → 0 ≤ rd (l2.getD k []) (x : Int) → 0 ≤ rd row (x : Int) ∧ rd row (x : Int) = rd (l2.getD k []) (x : Int) + b)
    (hr' : ∀ x : Nat, x < l0.length → 0 ≤ rd row (x : Int) → 0 ≤ rd (l2.getD k []) (x : Int) ∧ rd (l2.getD k []) (x : Int) = rd row (x : Int) + -b) :
    (PC.placeS l0 a1 (l2.set k row)).2.2 = (PC.placeS l0 a1 l2).2.2 ∧ ((PC.placeS l0 a1 l2).2.2 = true → (PC.placeS l0 a1 (l2.set k row)).2.1 = (PC.placeS l0 a1 l2).2.1 + b ∧ (PC.placeS l0 a1 l2).1 = (PC.placeS l0 a1 (l2.set k row)).1) := by
  have up : 0 ≤ (PC.pl l0 a1 l2 0).2 → Vl l0 a1 (l2.set k row) 0 (PC.pick l0 a1 l2 (PC.pl l0 a1 l2 0).2) ((PC.pl l0 a1 l2 0).1 + b) := fun h => vl_more l0 a1 b l2 0 _ _ k row hk (pick_vl l0 a1 l2 0 (Nat.zero_le _) h) hr
  have back : (l2.set k row).set k (l2.getD k []) = l2 := by
    rw [List.set_set, List.getD_eq_getElem?_getD, List.getElem?_eq_getElem hk, Option.getD_some, List.set_getElem_self]
  have down : 0 ≤ (PC.pl l0 a1 (l2.set k row) 0).2 → Vl l0 a1 l2 0 (PC.pick l0 a1 (l2.set k row) (PC.pl l0 a1 (l2.set k row) 0).2) ((PC.pl l0 a1 (l2.set k row) 0).1 + -b) := fun h => by
    have := vl_more l0 a1 (-b) (l2.set k row) 0 _ _ k (l2.getD k []) (by rw [List.length_set]; exact hk) (pick_vl l0 a1 _ 0 (Nat.zero_le _) h) (by
      rw [show (l2.set k row).getD k [] = row by rw [List.getD_eq_getElem?_getD, List.getElem?_set_self hk]; rfl]
      exact hr')
    rwa [back] at this
  unfold PC.placeS
  by_cases h0 : (PC.pl l0 a1 l2 0).2 < 0
  · rw [if_pos h0, if_pos]
    · exact ⟨rfl, fun h => by cases h⟩
    · by_cases h1 : (PC.pl l0 a1 (l2.set k row) 0).2 < 0
      · exact h1
      · have := (vl_best l0 a1 _ 0 _ _ (Nat.zero_le _) (down (by omega))).1
        omega
  · obtain ⟨b1, b2, b3⟩ := vl_best l0 a1 _ 0 _ _ (Nat.zero_le _) (up (by omega))
    obtain ⟨d1, d2, d3⟩ := vl_best l0 a1 _ 0 _ _ (Nat.zero_le _) (down b1)
    rw [if_neg h0, if_neg (by omega)]
    refine ⟨rfl, fun _ => ⟨by show (PC.pl l0 a1 (l2.set k row) 0).1 = (PC.pl l0 a1 l2 0).1 + b; omega, ?_⟩⟩
    exact lexlt_eq (by rw [pick_len2, pick_len2, List.length_set]) (b3 (by omega)) (d3 (by omega))
end Go.Proofs.Ytaagpnbnjdpjgaa.Q
