/- Proved here: plain laws of layer 32's printed functions (the reference's Place), under the conditions that each theorem names. -/
import Derived.Test.YtaagpnbnjdpjgaaQBest
import Derived.Test.YtaagpnbnjdpjgaaX12
namespace Go.Proofs.Ytaagpnbnjdpjgaa.Q
open Go.RowKit Go.Proofs.Ytaagpnbnjdpjgaa.X Go.Proofs.YtaagpnbnjdpjgaaW.PrintWords Go.Proofs.YtaagpnbnjdpjgaaW.PrintLast Go.Proofs.Ytaagpnbnjdpjgaa.K
set_option linter.unusedVariables false
set_option linter.unusedSimpArgs false

/-- What the reference's table holds for the rounds of these rows: own costs. -/
def owF (l0 : List Int) (a1 : Int) : List (List Int) → Nat → Int
  | [], _ => 0
  | row :: rows, i => ow l0 a1 row (PC.pl l0 a1 rows) i
def owL (l0 : List Int) (a1 : Int) (rows : List (List Int)) : List Int := (List.range l0.length).map (owF l0 a1 rows)
theorem owL_len (l0 : List Int) (a1 : Int) (rows : List (List Int)) : (owL l0 a1 rows).length = l0.length := by simp [owL]
theorem owL_rd (l0 : List Int) (a1 : Int) (rows : List (List Int)) {i : Nat} (hi : i < l0.length) : rd (owL l0 a1 rows) (i : Int) = owF l0 a1 rows i := by
  rw [rd_lt (by rw [owL_len]; exact hi)]
  simp [owL]
theorem owF_bound (l0 : List Int) (a1 : Int) (row : List Int) (rows : List (List Int)) (h : ∀ r ∈ row :: rows, ∀ p ∈ r, p ≤ 1048576) {i : Nat} : -1 ≤ owF l0 a1 (row :: rows) i ∧ owF l0 a1 (row :: rows) i ≤ 1048576 * ((row :: rows).length : Int) := by
  have hb := PC.pl_bound l0 a1 rows (fun r hr => h r (List.mem_cons_of_mem _ hr)) (lb l0 (rd l0 (i : Int) + a1))
  have hp : rd row (i : Int) ≤ 1048576 := by
    unfold rd
    rw [List.getD_eq_getElem?_getD]
    cases hq : row[(i : Int).toNat]? with
    | none => simp
    | some p => exact h row List.mem_cons_self p (List.mem_of_getElem? hq)
  simp only [owF, ow, List.length_cons]
  split <;> omega

/-! least: the least index of the least cost. State: the best of the indices before i. -/
def better (f : Nat → Int) (from_ : Nat) (i : Nat) (x : Int) : Prop :=
  (x = -1 ∧ ∀ j, from_ ≤ j → j < i → f j < 0) ∨ ∃ y : Nat, x = (y : Int) ∧ from_ ≤ y ∧ y < i ∧ 0 ≤ f y ∧ (∀ j, from_ ≤ j → j < i → 0 ≤ f j → f y ≤ f j) ∧ ∀ j, from_ ≤ j → j < y → 0 ≤ f j → f y < f j
theorem better_best {n : Nat} {f : Nat → Int} {from_ : Nat} {x : Int} (h : better f from_ n x) {b : Int × Int} (hb : IsBest n f from_ b) : x = b.2 := by
  rcases h with ⟨rfl, h⟩ | ⟨y, rfl, h2, h3, h4, h5, h6⟩
  · exact congrArg Prod.snd (IsBest.uniq (b := (0, -1)) (fun _ _ _ => rfl) (.inl ⟨rfl, fun j h1 h2 => h j h1 h2⟩) hb)
  · exact congrArg Prod.snd (IsBest.uniq (b := (f y, (y : Int))) (fun _ _ _ => rfl) (.inr ⟨y, rfl, h2, h3, rfl, h4, h5, h6⟩) hb)
theorem least_loop (l0 cs : List Int) (t : Int) (f : Nat → Int) (hs : asc l0 = true) (hl : l0.length ≤ 400) (hc : cs.length = l0.length) (hf : ∀ i, i < l0.length → rd cs (i : Int) = f i) (b : Int × Int) (hb : IsBest l0.length f (lb l0 t) b) (d : Nat) :
    ∀ (i : Nat) (x : Int), l0.length - i = d → i ≤ l0.length → better f (lb l0 t) i x → Ev (fun k => fastiref32_least.l0 k l0 cs t x (i : Int)) b.2 := by
  induction d with
  | zero =>
    intro i x hd hi hx
    obtain rfl : i = l0.length := by omega
    rw [← better_best hx hb]
    refine Ev.eq fun k => ?_
    simp only [fastiref32_least.l0]
    rw [if_neg (by omega)]
  | succ d ih =>
    intro i x hd hi hx
    have hi' : i < l0.length := by omega
    have hstep : ∀ k, fastiref32_least.l0 (k + 1) l0 cs t x (i : Int) = (if rd l0 (i : Int) ≥ t then (if (i : Int) < (cs.length : Int) then (if f i ≥ 0 then (if x < 0 then fastiref32_least.l0 k l0 cs t (i : Int) ((i + 1 : Nat) : Int) else (if 0 ≤ x then (if x < (cs.length : Int) then (if f i < rd cs x then fastiref32_least.l0 k l0 cs t (i : Int) ((i + 1 : Nat) : Int) else fastiref32_least.l0 k l0 cs t x ((i + 1 : Nat) : Int)) else none) else none)) else fastiref32_least.l0 k l0 cs t x ((i + 1 : Nat) : Int)) else none) else fastiref32_least.l0 k l0 cs t x ((i + 1 : Nat) : Int)) := fun k => by
      simp only [fastiref32_least.l0]
      rw [if_pos (by omega), if_pos (by omega), hf i hi', w64s i (by omega)]
    have keep : (lb l0 t ≤ i → 0 ≤ f i → ∃ y : Nat, x = (y : Int) ∧ f y ≤ f i) → better f (lb l0 t) (i + 1) x := fun hk => by
      rcases hx with ⟨rfl, h⟩ | ⟨y, rfl, h2, h3, h4, h5, h6⟩
      · refine .inl ⟨rfl, fun j h1 h2 => ?_⟩
        by_cases e : j = i
        · subst e
          rcases Int.lt_or_le (f j) 0 with h | h
          · exact h
          · obtain ⟨y, hy, _⟩ := hk h1 h; omega
        · exact h j h1 (by omega)
      · refine .inr ⟨y, rfl, h2, by omega, h4, fun j k1 k2 k3 => ?_, h6⟩
        by_cases e : j = i
        · subst e
          obtain ⟨y', hy, hy2⟩ := hk k1 k3
          obtain rfl : y = y' := by omega
          exact hy2
        · exact h5 j k1 (by omega) k3
    have take : lb l0 t ≤ i → 0 ≤ f i → (∀ y : Nat, x = (y : Int) → f i < f y) → better f (lb l0 t) (i + 1) (i : Int) := fun h1 h2 hk => by
      refine .inr ⟨i, rfl, h1, by omega, h2, fun j k1 k2 k3 => ?_, fun j k1 k2 k3 => ?_⟩
      · by_cases e : j = i
        · rw [e]; exact Int.le_refl _
        · rcases hx with ⟨_, h⟩ | ⟨y, hy, g2, g3, g4, g5, g6⟩
          · have := h j k1 (by omega); omega
          · have e1 := hk y hy
            have e2 := g5 j k1 (by omega) k3
            omega
      · rcases hx with ⟨_, h⟩ | ⟨y, hy, g2, g3, g4, g5, g6⟩
        · have := h j k1 (by omega); omega
        · have e1 := hk y hy
          have e2 := g5 j k1 (by omega) k3
          omega
    by_cases h1 : t ≤ rd l0 (i : Int)
    · have hlb : lb l0 t ≤ i := by
        rcases Nat.lt_or_ge i (lb l0 t) with h | h
        · have := lb_below l0 t hi' h
          rw [rd_lt hi'] at h1
          omega
        · exact h
      by_cases h2 : 0 ≤ f i
      · by_cases h3 : x < 0
        · refine Ev.step (fun k => ?_) (ih (i + 1) (i : Int) (by omega) (by omega) (take hlb h2 (fun y hy => by omega)))
          rw [hstep, if_pos h1, if_pos (by omega), if_pos h2, if_pos h3]
        · rcases hx with ⟨rfl, _⟩ | ⟨y, rfl, g2, g3, g4, g5, g6⟩
          · exact absurd (by decide) h3
          · by_cases h4 : f i < f y
            · refine Ev.step (fun k => ?_) (ih (i + 1) (i : Int) (by omega) (by omega) (take hlb h2 (fun y' hy => by have e : y = y' := (by omega); rw [← e]; exact h4)))
              rw [hstep, if_pos h1, if_pos (by omega), if_pos h2, if_neg h3, if_pos (by omega), if_pos (by omega), hf y (by omega), if_pos h4]
            · refine Ev.step (fun k => ?_) (ih (i + 1) (y : Int) (by omega) (by omega) (keep (fun _ _ => ⟨y, rfl, by omega⟩)))
              rw [hstep, if_pos h1, if_pos (by omega), if_pos h2, if_neg h3, if_pos (by omega), if_pos (by omega), hf y (by omega), if_neg h4]
      · refine Ev.step (fun k => ?_) (ih (i + 1) x (by omega) (by omega) (keep (fun _ h => absurd h h2)))
        rw [hstep, if_pos h1, if_pos (by omega), if_neg h2]
    · refine Ev.step (fun k => ?_) (ih (i + 1) x (by omega) (by omega) (keep (fun h _ => by
        have := lb_above hs t hi' h
        rw [rd_lt hi'] at h1
        omega)))
      rw [hstep, if_neg h1]
theorem least_ev (l0 : List Int) (a1 : Int) (row : List Int) (rows : List (List Int)) (t : Int) (hs : asc l0 = true) (hl : l0.length ≤ 400) : Ev (fun k => fastiref32_least.f k l0 (owL l0 a1 (row :: rows)) t) (PC.pl l0 a1 (row :: rows) (lb l0 t)).2 :=
  least_loop l0 _ t (owF l0 a1 (row :: rows)) hs hl (owL_len _ _ _) (fun i hi => owL_rd _ _ _ hi) _ (pl_best l0 a1 row rows _ (lb_le _ _)) _ 0 (-1) rfl (Nat.zero_le _) (.inl ⟨rfl, fun j _ h => by omega⟩)

/-! costs. -/
def lesser (f : Nat → Int) (from_ : Nat) (i : Nat) (x : Int) : Prop :=
  (x = -1 ∧ ∀ j, from_ ≤ j → j < i → f j < 0) ∨ ∃ y : Nat, x = f y ∧ from_ ≤ y ∧ y < i ∧ 0 ≤ f y ∧ ∀ j, from_ ≤ j → j < i → 0 ≤ f j → f y ≤ f j
theorem lesser_best {n : Nat} {f : Nat → Int} {from_ : Nat} {x : Int} (h : lesser f from_ n x) {b : Int × Int} (hb : IsBest n f from_ b) : x = if b.2 < 0 then -1 else b.1 := by
  rcases hb with ⟨rfl, hb⟩ | ⟨z, k1, k2, k3, k4, k5, k6, k7⟩
  · rcases h with ⟨rfl, h⟩ | ⟨y, rfl, h2, h3, h4, h5⟩
    · rfl
    · have := hb y h2 h3; omega
  · rw [if_neg (by omega)]
    rcases h with ⟨rfl, h⟩ | ⟨y, rfl, h2, h3, h4, h5⟩
    · have := h z k2 k3; omega
    · have e1 := h5 z k2 k3 (by omega)
      have e2 := k6 y h2 h3 h4
      omega
/-- The end of a row's entry: what is added for the index i, best being known. -/
theorem costs_tail (x0 : List Int) (x1 : Int) (row ls : List Int) (e : Bool) (acc : List Int) (i : Nat) (x : Int) (j : Int) (hi : i < x0.length) (hr : row.length = x0.length) (hl : x0.length ≤ 400) (ha : acc.length = i) (hw : -1 ≤ rd row (i : Int)) (hw2 : rd row (i : Int) ≤ 1048576) (hx : x ≤ 1048576 * 40) (k : Nat) :
    fastiref32_costs.j3 (k + 1) x0 x1 row ls e acc (i : Int) x j false = fastiref32_costs.l0 k x0 x1 row ls e (acc ++ [if rd row (i : Int) < 0 ∨ x < 0 then -1 else rd row (i : Int) + x]) ((i + 1 : Nat) : Int) := by
  simp only [fastiref32_costs.j3]
  rw [if_neg (by decide), if_pos (by omega), if_pos (by omega)]
  by_cases h1 : rd row (i : Int) < 0
  · rw [if_pos h1, if_pos (by omega), if_pos (.inl h1), w64s i (by omega)]
  · rw [if_neg h1]
    by_cases h2 : x < 0
    · rw [if_pos h2, if_pos (by omega), if_pos (.inr h2), w64s i (by omega)]
    · rw [if_neg h2, if_pos (by omega), if_neg (by omega), w64s i (by omega), w64 (by omega) (by omega)]
theorem costs_end (x0 : List Int) (x1 : Int) (row : List Int) (hr : row.length = x0.length) (hl : x0.length ≤ 400) (hw : ∀ p ∈ row, -1 ≤ p ∧ p ≤ 1048576) (d : Nat) : ∀ (i : Nat) (acc : List Int), x0.length - i = d → i ≤ x0.length → acc.length = i →
    Ev (fun k => fastiref32_costs.l0 k x0 x1 row [] true acc (i : Int)) (acc ++ (owL x0 x1 [row]).drop i) := by
  induction d with
  | zero =>
    intro i acc hd hi ha
    obtain rfl : i = x0.length := by omega
    rw [List.drop_of_length_le (by rw [owL_len]; exact Nat.le_refl _), List.append_nil]
    refine Ev.eq fun k => ?_
    simp only [fastiref32_costs.l0]
    rw [if_neg (by omega)]
  | succ d ih =>
    intro i acc hd hi ha
    have hi' : i < x0.length := by omega
    have hp := hw _ (List.getElem_mem (show i < row.length by omega))
    have hrd : rd row (i : Int) = row[i] := rd_lt (by omega)
    have e : (if rd row (i : Int) < 0 ∨ (0 : Int) < 0 then -1 else rd row (i : Int) + 0) = owF x0 x1 [row] i := by
      simp only [owF, ow, PC.pl, Int.le_refl, and_true, Int.lt_irrefl, or_false]
      by_cases h : rd row (i : Int) < 0
      · rw [if_pos h, if_neg (by omega)]
      · rw [if_neg h, if_pos (by omega)]
    have h := ih (i + 1) (acc ++ [owF x0 x1 [row] i]) (by omega) (by omega) (by simp [ha])
    rw [List.append_assoc] at h
    have hd' : (owL x0 x1 [row]).drop i = owF x0 x1 [row] i :: (owL x0 x1 [row]).drop (i + 1) := by
      rw [drop_get (by rw [owL_len]; exact hi')]
      congr 1
      simp [owL]
    rw [hd']
    refine Ev.step (f := fun k => fastiref32_costs.j1 k x0 x1 row [] true acc (i : Int) 0) (fun k => ?_) (Ev.step (f := fun k => fastiref32_costs.l1 k x0 x1 row [] true acc (i : Int) 0 ((i + 1 : Nat) : Int)) (fun k => ?_) (Ev.step (f := fun k => fastiref32_costs.j3 k x0 x1 row [] true acc (i : Int) 0 ((i + 1 : Nat) : Int) false) (fun k => ?_) (Ev.step (fun k => ?_) h)))
    · simp only [fastiref32_costs.l0]
      rw [if_pos (by omega), if_pos trivial]
    · simp only [fastiref32_costs.j1]
      rw [w64s i (by omega)]
    · simp only [fastiref32_costs.l1]
      split <;> rfl
    · rw [costs_tail x0 x1 row [] true acc i 0 _ hi' hr hl ha (by omega) (by omega) (by omega), e]
theorem costs_best (x0 : List Int) (x1 : Int) (row : List Int) (r2 : List Int) (rows : List (List Int)) (acc : List Int) (i : Nat) (hi : i < x0.length) (hs : asc x0 = true) (hday : ∀ x ∈ x0, 0 ≤ x ∧ x ≤ 73048) (h5 : 1 ≤ x1) (h6 : x1 ≤ 400) (hl : x0.length ≤ 400) (hb : ∀ r ∈ r2 :: rows, ∀ p ∈ r, p ≤ 1048576)
    (R : List Int) (hR : Ev (fun k => fastiref32_costs.j3 k x0 x1 row (owL x0 x1 (r2 :: rows)) false acc (i : Int) (if (PC.pl x0 x1 (r2 :: rows) (lb x0 (rd x0 (i : Int) + x1))).2 < 0 then -1 else (PC.pl x0 x1 (r2 :: rows) (lb x0 (rd x0 (i : Int) + x1))).1) (x0.length : Int) false) R) (d : Nat) :
    ∀ (j : Nat) (x : Int), x0.length - j = d → j ≤ x0.length → lesser (owF x0 x1 (r2 :: rows)) (lb x0 (rd x0 (i : Int) + x1)) j x → Ev (fun k => fastiref32_costs.l1 k x0 x1 row (owL x0 x1 (r2 :: rows)) false acc (i : Int) x (j : Int)) R := by
  have hdi := hday _ (List.getElem_mem hi)
  have hrdi : rd x0 (i : Int) = x0[i] := rd_lt hi
  have hlen := owL_len x0 x1 (r2 :: rows)
  induction d with
  | zero =>
    intro j x hd hj hx
    obtain rfl : j = x0.length := by omega
    rw [← lesser_best hx (pl_best x0 x1 r2 rows _ (lb_le _ _))] at hR
    refine Ev.step (fun k => ?_) hR
    simp only [fastiref32_costs.l1]
    rw [if_neg (by omega)]
  | succ d ih =>
    intro j x hd hj hx
    have hj' : j < x0.length := by omega
    obtain ⟨f, hf⟩ : ∃ f, owF x0 x1 (r2 :: rows) = f := ⟨_, rfl⟩
    have hfj := owL_rd x0 x1 (r2 :: rows) hj'
    rw [hf] at hx ih hfj
    have hstep : ∀ k, fastiref32_costs.l1 (k + 1) x0 x1 row (owL x0 x1 (r2 :: rows)) false acc (i : Int) x (j : Int) = fastiref32_costs.j3 k x0 x1 row (owL x0 x1 (r2 :: rows)) false acc (i : Int) x (j : Int) true := fun k => by
      simp only [fastiref32_costs.l1]
      rw [if_pos (by omega)]; rfl
    have hj3 : ∀ k, fastiref32_costs.j3 (k + 1) x0 x1 row (owL x0 x1 (r2 :: rows)) false acc (i : Int) x (j : Int) true = if rd x0 (j : Int) ≥ rd x0 (i : Int) + x1 then (if f j ≥ 0 then (if x < 0 then fastiref32_costs.l1 k x0 x1 row (owL x0 x1 (r2 :: rows)) false acc (i : Int) (f j) ((j + 1 : Nat) : Int) else (if f j < x then fastiref32_costs.l1 k x0 x1 row (owL x0 x1 (r2 :: rows)) false acc (i : Int) (f j) ((j + 1 : Nat) : Int) else fastiref32_costs.l1 k x0 x1 row (owL x0 x1 (r2 :: rows)) false acc (i : Int) x ((j + 1 : Nat) : Int))) else fastiref32_costs.l1 k x0 x1 row (owL x0 x1 (r2 :: rows)) false acc (i : Int) x ((j + 1 : Nat) : Int)) else fastiref32_costs.l1 k x0 x1 row (owL x0 x1 (r2 :: rows)) false acc (i : Int) x ((j + 1 : Nat) : Int) := fun k => by
      simp only [fastiref32_costs.j3]
      rw [if_pos trivial, if_pos (by omega), if_pos (by omega), if_pos (by omega), if_pos (by omega), w64 (x := rd x0 (i : Int) + x1) (by omega) (by omega), hfj, w64s j (by omega)]
      split
      · rw [if_pos (by omega)]
      · rfl
    have go : ∀ x', (∀ k, fastiref32_costs.j3 (k + 1) x0 x1 row (owL x0 x1 (r2 :: rows)) false acc (i : Int) x (j : Int) true = fastiref32_costs.l1 k x0 x1 row (owL x0 x1 (r2 :: rows)) false acc (i : Int) x' ((j + 1 : Nat) : Int)) → lesser f (lb x0 (rd x0 (i : Int) + x1)) (j + 1) x' →
        Ev (fun k => fastiref32_costs.l1 k x0 x1 row (owL x0 x1 (r2 :: rows)) false acc (i : Int) x (j : Int)) R := fun x' he hl' => Ev.step hstep (Ev.step he (ih (j + 1) x' (by omega) (by omega) hl'))
    by_cases h1 : rd x0 (i : Int) + x1 ≤ rd x0 (j : Int)
    · have hlb : lb x0 (rd x0 (i : Int) + x1) ≤ j := by
        rcases Nat.lt_or_ge j (lb x0 (rd x0 (i : Int) + x1)) with h | h
        · have := lb_below x0 _ hj' h
          rw [rd_lt hj'] at h1
          omega
        · exact h
      by_cases h2 : 0 ≤ f j
      · have take : (∀ y : Nat, x = f y → 0 ≤ f y → f j ≤ f y) → lesser f (lb x0 (rd x0 (i : Int) + x1)) (j + 1) (f j) := fun hk => by
          refine .inr ⟨j, rfl, hlb, by omega, h2, fun q k1 k2 k3 => ?_⟩
          by_cases e : q = j
          · rw [e]; exact Int.le_refl _
          · rcases hx with ⟨_, h⟩ | ⟨y, hy, g2, g3, g4, g5⟩
            · have := h q k1 (by omega); omega
            · have e1 := hk y hy g4
              have e2 := g5 q k1 (by omega) k3
              omega
        by_cases h3 : x < 0
        · refine go (f j) (fun k => ?_) (take (fun y hy _ => by omega))
          rw [hj3, if_pos h1, if_pos h2, if_pos h3]
        · by_cases h4 : f j < x
          · refine go (f j) (fun k => ?_) (take (fun y hy _ => by omega))
            rw [hj3, if_pos h1, if_pos h2, if_neg h3, if_pos h4]
          · refine go x (fun k => ?_) ?_
            · rw [hj3, if_pos h1, if_pos h2, if_neg h3, if_neg h4]
            · rcases hx with ⟨h, _⟩ | ⟨y, hy, g2, g3, g4, g5⟩
              · omega
              · refine .inr ⟨y, hy, g2, by omega, g4, fun q k1 k2 k3 => ?_⟩
                by_cases e : q = j
                · rw [e]; omega
                · exact g5 q k1 (by omega) k3
      · refine go x (fun k => ?_) ?_
        · rw [hj3, if_pos h1, if_neg h2]
        · rcases hx with ⟨h, h'⟩ | ⟨y, hy, g2, g3, g4, g5⟩
          · refine .inl ⟨h, fun q k1 k2 => ?_⟩
            by_cases e : q = j
            · rw [e]; omega
            · exact h' q k1 (by omega)
          · refine .inr ⟨y, hy, g2, by omega, g4, fun q k1 k2 k3 => ?_⟩
            by_cases e : q = j
            · rw [e] at k3; omega
            · exact g5 q k1 (by omega) k3
    · have hlb : j < lb x0 (rd x0 (i : Int) + x1) := by
        rw [rd_lt hj'] at h1
        exact (lb_iff hs _ hj').1 (by omega)
      refine go x (fun k => ?_) ?_
      · rw [hj3, if_neg h1]
      · rcases hx with ⟨h, h'⟩ | ⟨y, hy, g2, g3, g4, g5⟩
        · exact .inl ⟨h, fun q k1 k2 => by omega⟩
        · exact .inr ⟨y, hy, g2, by omega, g4, fun q k1 k2 k3 => by omega⟩
theorem costs_row (x0 : List Int) (x1 : Int) (row r2 : List Int) (rows : List (List Int)) (hr : row.length = x0.length) (hl : x0.length ≤ 400) (hw : ∀ p ∈ row, -1 ≤ p ∧ p ≤ 1048576) (hs : asc x0 = true) (hday : ∀ x ∈ x0, 0 ≤ x ∧ x ≤ 73048) (h5 : 1 ≤ x1) (h6 : x1 ≤ 400) (hb : ∀ r ∈ r2 :: rows, ∀ p ∈ r, p ≤ 1048576) (hn : rows.length < 40) (d : Nat) :
    ∀ (i : Nat) (acc : List Int), x0.length - i = d → i ≤ x0.length → acc.length = i → Ev (fun k => fastiref32_costs.l0 k x0 x1 row (owL x0 x1 (r2 :: rows)) false acc (i : Int)) (acc ++ (owL x0 x1 (row :: r2 :: rows)).drop i) := by
  induction d with
  | zero =>
    intro i acc hd hi ha
    obtain rfl : i = x0.length := by omega
    rw [List.drop_of_length_le (by rw [owL_len]; exact Nat.le_refl _), List.append_nil]
    refine Ev.eq fun k => ?_
    simp only [fastiref32_costs.l0]
    rw [if_neg (by omega)]
  | succ d ih =>
    intro i acc hd hi ha
    have hi' : i < x0.length := by omega
    have hp := hw _ (List.getElem_mem (show i < row.length by omega))
    have hrd : rd row (i : Int) = row[i] := rd_lt (by omega)
    have hdi := hday _ (List.getElem_mem hi')
    have hrdi : rd x0 (i : Int) = x0[i] := rd_lt hi'
    have hlb : i + 1 ≤ lb x0 (rd x0 (i : Int) + x1) := (lb_iff hs _ hi').1 (by omega)
    have hbd := PC.pl_bound x0 x1 (r2 :: rows) hb (lb x0 (rd x0 (i : Int) + x1))
    simp only [List.length_cons] at hbd
    have h := ih (i + 1) (acc ++ [owF x0 x1 (row :: r2 :: rows) i]) (by omega) (by omega) (by simp [ha])
    rw [List.append_assoc] at h
    have hd' : (owL x0 x1 (row :: r2 :: rows)).drop i = owF x0 x1 (row :: r2 :: rows) i :: (owL x0 x1 (row :: r2 :: rows)).drop (i + 1) := by
      rw [drop_get (by rw [owL_len]; exact hi')]
      congr 1
      simp [owL]
    rw [hd']
    obtain ⟨bb, hbb⟩ : ∃ bb, PC.pl x0 x1 (r2 :: rows) (lb x0 (rd x0 (i : Int) + x1)) = bb := ⟨_, rfl⟩
    have e : (if rd row (i : Int) < 0 ∨ (if bb.2 < 0 then -1 else bb.1) < 0 then -1 else rd row (i : Int) + (if bb.2 < 0 then -1 else bb.1)) = owF x0 x1 (row :: r2 :: rows) i := by
      have h0 := pl_nonneg x0 x1 (r2 :: rows) (lb x0 (rd x0 (i : Int) + x1))
      simp only [owF, ow, hbb]
      rw [hbb] at h0
      by_cases h1 : rd row (i : Int) < 0
      · rw [if_pos (.inl h1), if_neg (by omega)]
      · by_cases h2 : bb.2 < 0
        · rw [if_pos h2, if_pos (.inr (by decide)), if_neg (by omega)]
        · rw [if_neg h2, if_neg (by omega), if_pos (by omega)]
    refine Ev.step (f := fun k => fastiref32_costs.j1 k x0 x1 row (owL x0 x1 (r2 :: rows)) false acc (i : Int) (-1)) (fun k => ?_) (Ev.step (f := fun k => fastiref32_costs.l1 k x0 x1 row (owL x0 x1 (r2 :: rows)) false acc (i : Int) (-1) ((i + 1 : Nat) : Int)) (fun k => ?_)
      (costs_best x0 x1 row r2 rows acc i hi' hs hday h5 h6 hl hb _ ?_ _ (i + 1) (-1) rfl (by omega) (.inl ⟨rfl, fun q h1 h2 => by omega⟩)))
    · simp only [fastiref32_costs.l0]
      rw [if_pos (by omega), if_neg (by decide)]
    · simp only [fastiref32_costs.j1]
      rw [w64s i (by omega)]
    · refine Ev.step (fun k => ?_) h
      rw [hbb] at hbd ⊢
      rw [costs_tail x0 x1 row _ false acc i _ _ hi' hr hl ha (by omega) (by omega) (by split <;> omega), e]
theorem costs_ev1 (x0 : List Int) (x1 : Int) (row : List Int) (hr : row.length = x0.length) (hl : x0.length ≤ 400) (hw : ∀ p ∈ row, -1 ≤ p ∧ p ≤ 1048576) :
    Ev (fun k => fastiref32_costs.f k x0 x1 row [] true) (owL x0 x1 [row]) := by
  have h := costs_end x0 x1 row hr hl hw _ 0 [] rfl (Nat.zero_le _) rfl
  rwa [List.drop_zero, List.nil_append] at h
theorem costs_ev2 (x0 : List Int) (x1 : Int) (row r2 : List Int) (rs : List (List Int)) (hr : row.length = x0.length) (hl : x0.length ≤ 400) (hw : ∀ r ∈ row :: r2 :: rs, ∀ p ∈ r, -1 ≤ p ∧ p ≤ 1048576) (hs : asc x0 = true) (hday : ∀ x ∈ x0, 0 ≤ x ∧ x ≤ 73048) (h5 : 1 ≤ x1) (h6 : x1 ≤ 400) (hn : rs.length < 40) :
    Ev (fun k => fastiref32_costs.f k x0 x1 row (owL x0 x1 (r2 :: rs)) false) (owL x0 x1 (row :: r2 :: rs)) := by
  have h := costs_row x0 x1 row r2 rs hr hl (hw row List.mem_cons_self) hs hday h5 h6 (fun r hr' p hp => (hw r (List.mem_cons_of_mem _ hr') p hp).2) hn _ 0 [] rfl (Nat.zero_le _) rfl
  rwa [List.drop_zero, List.nil_append] at h
end Go.Proofs.Ytaagpnbnjdpjgaa.Q
