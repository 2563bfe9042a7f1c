/- Proved here: plain laws about layer 32's Most (how many rounds can be placed where nothing is forbidden), under the conditions that each theorem names. -/
import Derived.Test.YtaagpnbnjdpjgaaQBest
import Derived.Test.YtaagpnbnjdpjgaaQMost
namespace Go.Proofs.Ytaagpnbnjdpjgaa.Q
open Go.RowKit Go.Proofs.Ytaagpnbnjdpjgaa.X Go.Proofs.YtaagpnbnjdpjgaaW.PrintWords Go.Proofs.YtaagpnbnjdpjgaaW.PrintLast Go.Proofs.Ytaagpnbnjdpjgaa.K
set_option linter.unusedVariables false
set_option linter.unusedSimpArgs false

theorem grd_both (a1 : Int) (h1 : 1 ≤ a1) : ∀ l : List Int, asc l = true → (∀ n n', n ≤ n' → grd a1 l n' ≤ grd a1 l n) ∧ ∀ m m', m ≤ m' + a1 → grd a1 l m' ≤ grd a1 l m + 1
  | [], _ => ⟨fun _ _ _ => Nat.le_refl _, fun _ _ _ => by simp [grd]⟩
  | d :: ds, hs => by
    obtain ⟨i1, i2⟩ := grd_both a1 h1 ds (asc_cons hs)
    refine ⟨fun n n' h => ?_, fun m m' hm => ?_⟩
    · rw [grd, grd]
      by_cases h2 : n' ≤ d
      · rw [if_pos h2, if_pos (by omega)]; exact Nat.le_refl _
      · rw [if_neg h2]
        by_cases h3 : n ≤ d
        · rw [if_pos h3]
          exact i2 (d + a1) n' (by omega)
        · rw [if_neg h3]
          exact i1 n n' h
    · rw [grd, grd]
      by_cases c1 : m' ≤ d
      · rw [if_pos c1]
        by_cases c2 : m ≤ d
        · rw [if_pos c2]; omega
        · rw [if_neg c2]
          have := i1 m (d + a1) (by omega)
          omega
      · rw [if_neg c1]
        by_cases c2 : m ≤ d
        · rw [if_pos c2]
          have := i2 (d + a1) m' (by omega)
          omega
        · rw [if_neg c2]
          exact i2 m m' hm
theorem grd_anti (a1 : Int) (l : List Int) (n n' : Int) (hs : asc l = true) (h1 : 1 ≤ a1) (h : n ≤ n') : grd a1 l n' ≤ grd a1 l n := (grd_both a1 h1 l hs).1 n n' h
theorem grd_step (a1 : Int) : ∀ (l : List Int) (n : Int), asc l = true → 1 ≤ a1 → grd a1 l n = if lb l n < l.length then grd a1 l (rd l (lb l n : Int) + a1) + 1 else 0
  | [], n, _, _ => by simp [grd, lb]
  | d :: ds, n, hs, h1 => by
    have hs' := asc_cons hs
    rw [lb_cons]
    by_cases h : d < n
    · rw [if_pos h, grd, if_neg (by omega), grd_step a1 ds n hs' h1]
      have e : rd (d :: ds) ((lb ds n + 1 : Nat) : Int) = rd ds (lb ds n : Int) := by simp [rd]
      rw [e]
      by_cases hl : lb ds n < ds.length
      · rw [if_pos hl, if_pos (by simp; omega)]
        have hd := asc_lt hs _ (by rw [rd_lt hl]; exact List.getElem_mem hl : rd ds (lb ds n : Int) ∈ ds)
        have : grd a1 (d :: ds) (rd ds (lb ds n : Int) + a1) = grd a1 ds (rd ds (lb ds n : Int) + a1) := by rw [grd, if_neg (by omega)]
        rw [this]
      · rw [if_neg hl, if_neg (by simp; omega)]
    · rw [if_neg h, grd, if_pos (by omega), if_pos (by simp)]
      have e : rd (d :: ds) ((0 : Nat) : Int) = d := by simp [rd]
      rw [e]
      have : grd a1 (d :: ds) (d + a1) = grd a1 ds (d + a1) := by rw [grd, if_neg (by omega)]
      rw [this]
/-- Nothing forbidden, m rounds from index lb n on: there is a placement exactly if m is at most what the greedy way takes. -/
theorem vl_zero (l0 : List Int) (a1 : Int) (hs : asc l0 = true) (h1 : 1 ≤ a1) (z : List Int) (hz : ∀ i, i < l0.length → rd z (i : Int) = 0) : ∀ (m : Nat) (n : Int), m ≤ grd a1 l0 n → ∃ xs, Vl l0 a1 (List.replicate m z) (lb l0 n) xs 0
  | 0, _, _ => ⟨[], rfl, rfl⟩
  | m + 1, n, h => by
    rw [grd_step a1 l0 n hs h1] at h
    by_cases hl : lb l0 n < l0.length
    · rw [if_pos hl] at h
      obtain ⟨ys, hy⟩ := vl_zero l0 a1 hs h1 z hz m (rd l0 (lb l0 n : Int) + a1) (by omega)
      exact ⟨_, lb l0 n, ys, 0, rfl, Nat.le_refl _, hl, by rw [hz _ hl]; decide, hy, by rw [hz _ hl]; rfl⟩
    · rw [if_neg hl] at h; omega
theorem vl_zero' (l0 : List Int) (a1 : Int) (hs : asc l0 = true) (h1 : 1 ≤ a1) (z : List Int) : ∀ (m : Nat) (n : Int) (xs : List Int) (c : Int), Vl l0 a1 (List.replicate m z) (lb l0 n) xs c → m ≤ grd a1 l0 n
  | 0, _, _, _, _ => Nat.zero_le _
  | m + 1, n, xs, c, h => by
    obtain ⟨x, ys, c', rfl, h2, h3, h4, h5, _⟩ := h
    have ih := vl_zero' l0 a1 hs h1 z m _ ys c' h5
    have hl : lb l0 n < l0.length := by omega
    rw [grd_step a1 l0 n hs h1, if_pos hl]
    have hle : l0[lb l0 n] ≤ l0[x] := asc_le hs h2 h3
    have := grd_anti a1 l0 (rd l0 (lb l0 n : Int) + a1) (rd l0 (x : Int) + a1) hs h1 (by rw [rd_lt hl, rd_lt h3]; omega)
    omega
/-- Days that are pairwise far enough from each other: no more than the greedy way takes. -/
theorem far_le (a1 : Int) (h1 : 1 ≤ a1) : ∀ (ds : List Int) (n : Int) (l : List Int), asc ds = true → (∀ x ∈ l, x ∈ ds ∧ n ≤ x) → l.Pairwise (fun x y => a1 ≤ x - y ∨ a1 ≤ y - x) → l.length ≤ grd a1 ds n
  | [], n, l, _, hm, _ => by
    cases l with
    | nil => exact Nat.le_refl _
    | cons x l => exact absurd (hm x List.mem_cons_self).1 (by simp)
  | d :: ds, n, l, hs, hm, hp => by
    have hs' := asc_cons hs
    rw [grd]
    by_cases h : n ≤ d
    · rw [if_pos h]
      have hf : l.length ≤ (l.filter fun x => decide (d + a1 ≤ x)).length + 1 := by
        have hge : ∀ x ∈ l, d ≤ x := fun x hx => by
          rcases List.mem_cons.1 (hm x hx).1 with rfl | h'
          · exact Int.le_refl _
          · exact Int.le_of_lt (asc_lt hs x h')
        have hone : ∀ l : List Int, (∀ x ∈ l, d ≤ x) → l.Pairwise (fun x y => a1 ≤ x - y ∨ a1 ≤ y - x) → l.length ≤ (l.filter fun x => decide (d + a1 ≤ x)).length + 1 := fun l => by
          induction l with
          | nil => intro _ _; simp
          | cons a l ih =>
            intro hge hp
            rw [List.filter_cons]
            obtain ⟨hp1, hp2⟩ := List.pairwise_cons.1 hp
            by_cases ha : d + a1 ≤ a
            · rw [if_pos (by simpa using ha)]
              have := ih (fun x hx => hge x (List.mem_cons_of_mem _ hx)) hp2
              simp only [List.length_cons]; omega
            · rw [if_neg (by simpa using ha)]
              have hall : l.filter (fun x => decide (d + a1 ≤ x)) = l := by
                refine List.filter_eq_self.2 fun x hx => ?_
                have h3 := hp1 x hx
                have h4 := hge a List.mem_cons_self
                have h5 := hge x (List.mem_cons_of_mem _ hx)
                simp only [decide_eq_true_eq]
                omega
              rw [hall]; simp
        exact hone l hge hp
      have ih := far_le a1 h1 ds (d + a1) (l.filter fun x => decide (d + a1 ≤ x)) hs' (fun x hx => by
        obtain ⟨hx1, hx2⟩ := List.mem_filter.1 hx
        have hx3 : d + a1 ≤ x := of_decide_eq_true hx2
        rcases List.mem_cons.1 (hm x hx1).1 with rfl | h'
        · omega
        · exact ⟨h', hx3⟩) (hp.filter _)
      omega
    · rw [if_neg h]
      refine far_le a1 h1 ds n l hs' (fun x hx => ?_) hp
      have hx' := hm x hx
      rcases List.mem_cons.1 hx'.1 with rfl | h'
      · omega
      · exact ⟨h', hx'.2⟩
end Go.Proofs.Ytaagpnbnjdpjgaa.Q
