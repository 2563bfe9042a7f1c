/- Proved here: the plain law of the statement RoundsPlaceSpec; no condition beyond the statement's own. -/
import Derived.Test.YtaagpnbnjdpjgaaQEarly
import Derived.Test.YtaagpnbnjdpjgaaQPlace
import Derived.Test.YtaagpnbnjdpjgaaX13
namespace Go.Proofs.Ytaagpnbnjdpjgaa.Q
open Go.RowKit Go.Proofs.Ytaagpnbnjdpjgaa.X Go.Proofs.YtaagpnbnjdpjgaaW.PrintWords Go.Proofs.YtaagpnbnjdpjgaaW.PrintLast Go.Proofs.Ytaagpnbnjdpjgaa.K
set_option linter.unusedVariables false
set_option linter.unusedSimpArgs false

theorem refplace_pick (x0 : List Int) (x1 : Int) (x2 : List (List Int)) (hs : asc x0 = true) (hday : ∀ x ∈ x0, 0 ≤ x ∧ x ≤ 73048) (hl : x0.length ≤ 400) (h2 : x2.length ≤ 40) (h5 : 1 ≤ x1) (h6 : x1 ≤ 400) (tb : List (List Int)) (htl : tb.length = x2.length) (htb : ∀ j, j < x2.length → tb[j]? = some (owL x0 x1 (x2.drop j))) (cost : Int) (d : Nat) : ∀ (k0 : Nat) (x : Nat) (acc : List Int), x2.length - k0 = d → k0 ≤ x2.length → x < x0.length → acc.length = k0 →
    0 ≤ (PC.pl x0 x1 (x2.drop k0) (lb x0 (rd x0 (x : Int) + x1))).2 → Ev (fun k => fastiref32_Place.l1 k x0 x1 (x2.length : Int) tb (x : Int) cost acc (k0 : Int)) (acc ++ PC.pick x0 x1 (x2.drop k0) (PC.pl x0 x1 (x2.drop k0) (lb x0 (rd x0 (x : Int) + x1))).2, cost, true, 0) := by
  induction d with
  | zero =>
    intro k0 x acc hd hk hx ha _
    obtain rfl : k0 = x2.length := by omega
    rw [List.drop_length, PC.pick, List.append_nil]
    refine Ev.eq fun k => ?_
    simp only [fastiref32_Place.l1]
    rw [if_neg (by omega)]
  | succ d ih =>
    intro k0 x acc hd hk hx ha hge
    have hk' : k0 < x2.length := by omega
    have hdx := hday _ (List.getElem_mem hx)
    have hrx : rd x0 (x : Int) = x0[x] := rd_lt hx
    have hdk : x2.drop k0 = x2[k0] :: x2.drop (k0 + 1) := List.drop_eq_getElem_cons hk'
    have htk : rd_L1 tb (k0 : Int) = owL x0 x1 (x2[k0] :: x2.drop (k0 + 1)) := by
      rw [← hdk]
      have := htb k0 hk'
      simp [rd_L1, this]
    rw [hdk] at hge ⊢
    obtain ⟨y, e1, e2, e3, e4, e5, e6⟩ := PC.pl_at x0 x1 x2[k0] (x2.drop (k0 + 1)) _ (lb_le _ _) hge
    have hle := least_ev x0 x1 x2[k0] (x2.drop (k0 + 1)) (rd x0 (x : Int) + x1) hs hl
    rw [e1] at hle ⊢
    rw [PC.pick]
    have h := ih (k0 + 1) y (acc ++ [(y : Int)]) (by omega) (by omega) e3 (by simp [ha]) e5
    rw [List.append_assoc] at h
    refine Ev.step (f := fun k => (fastiref32_least.f k x0 (owL x0 x1 (x2[k0] :: x2.drop (k0 + 1))) (rd x0 (x : Int) + x1)).bind fun t => fastiref32_Place.l1 k x0 x1 (x2.length : Int) tb t cost (acc ++ [t]) ((k0 + 1 : Nat) : Int)) (fun k => ?_) (Ev.bind hle h)
    simp only [fastiref32_Place.l1]
    rw [if_pos (by omega), if_pos (by omega), if_pos (by omega), if_pos (by omega), if_pos (by omega), htk, w64 (x := rd x0 (x : Int) + x1) (by omega) (by omega), w64s k0 (by omega)]
    congr 1
    funext t
    rw [if_pos (by omega)]
theorem refplace_top (x0 : List Int) (x1 : Int) (x2 : List (List Int)) (hs : asc x0 = true) (hday : ∀ x ∈ x0, 0 ≤ x ∧ x ≤ 73048) (h0 : 0 < x0.length) (hl : x0.length ≤ 400) (h2 : x2.length ≤ 40) (h5 : 1 ≤ x1) (h6 : x1 ≤ 400) (tb : List (List Int)) (hne : 0 < x2.length) (htl : tb.length = x2.length) (htb : ∀ j, j < x2.length → tb[j]? = some (owL x0 x1 (x2.drop j))) :
    Ev (fun k => fastiref32_Place.l0 k x0 x1 x2 (x2.length : Int) tb (-1)) ((PC.placeS x0 x1 x2).1, (PC.placeS x0 x1 x2).2.1, (PC.placeS x0 x1 x2).2.2, 0) := by
  obtain ⟨row, rows, rfl⟩ : ∃ row rows, x2 = row :: rows := by
    cases x2 with
    | nil => simp at hne
    | cons a l => exact ⟨a, l, rfl⟩
  have ht0 : rd_L1 tb 0 = owL x0 x1 (row :: rows) := by
    have := htb 0 hne
    rw [List.drop_zero] at this
    simp [rd_L1, this]
  have hz : lb x0 0 = 0 := by
    cases x0 with
    | nil => rfl
    | cons a l => have := hday a List.mem_cons_self; rw [lb_cons, if_neg (by omega)]
  have hle := least_ev x0 x1 row rows 0 hs hl
  rw [hz] at hle
  have hstep : ∀ k, fastiref32_Place.l0 (k + 1) x0 x1 (row :: rows) ((row :: rows).length : Int) tb (-1) = (fastiref32_least.f k x0 (owL x0 x1 (row :: rows)) 0).bind fun t => if t < 0 then some (([] : List Int), 0, false, 0) else if 0 ≤ t then if t < ((owL x0 x1 (row :: rows)).length : Int) then fastiref32_Place.l1 k x0 x1 ((row :: rows).length : Int) tb t (rd (owL x0 x1 (row :: rows)) t) [t] 1 else none else none := fun k => by
    simp only [fastiref32_Place.l0]
    rw [if_neg (by omega), if_pos (by omega), ht0]
  refine Ev.step hstep (Ev.bind hle ?_)
  unfold PC.placeS
  by_cases hn : (PC.pl x0 x1 (row :: rows) 0).2 < 0
  · rw [if_pos hn]
    exact Ev.all fun k => if_pos hn
  · rw [if_neg hn]
    obtain ⟨y, e1, e2, e3, e4, e5, e6⟩ := PC.pl_at x0 x1 row rows 0 (Nat.zero_le _) (by omega)
    have hcost : rd (owL x0 x1 (row :: rows)) (y : Int) = (PC.pl x0 x1 (row :: rows) 0).1 := by
      rw [owL_rd _ _ _ e3, e6]
      exact if_pos ⟨e4, e5⟩
    rw [e1] at hn ⊢
    have h := refplace_pick x0 x1 (row :: rows) hs hday hl h2 h5 h6 tb htl htb (PC.pl x0 x1 (row :: rows) 0).1 _ 1 y [(y : Int)] rfl (by simp) e3 rfl e5
    refine Ev.congr (fun k => ?_) h
    rw [if_neg hn, if_pos (by omega), if_pos (by rw [owL_len]; omega), hcost]
    rfl
theorem refplace_loop (x0 : List Int) (x1 : Int) (x2 : List (List Int)) (hs : asc x0 = true) (hday : ∀ x ∈ x0, 0 ≤ x ∧ x ≤ 73048) (h0 : 0 < x0.length) (hl : x0.length ≤ 400) (h2 : x2.length ≤ 40) (hrow : ∀ row ∈ x2, row.length = x0.length ∧ ∀ p ∈ row, -1 ≤ p ∧ p ≤ 1048576) (h5 : 1 ≤ x1) (h6 : x1 ≤ 400) (hne : 0 < x2.length) : ∀ (c : Nat) (tb : List (List Int)), c ≤ x2.length → tb.length = x2.length → (∀ j, c ≤ j → j < x2.length → tb[j]? = some (owL x0 x1 (x2.drop j))) →
    Ev (fun k => fastiref32_Place.l0 k x0 x1 x2 (x2.length : Int) tb ((c : Int) - 1)) ((PC.placeS x0 x1 x2).1, (PC.placeS x0 x1 x2).2.1, (PC.placeS x0 x1 x2).2.2, 0)
  | 0, tb, _, htl, htb => refplace_top x0 x1 x2 hs hday h0 hl h2 h5 h6 tb hne htl (fun j hj => htb j (Nat.zero_le _) hj)
  | c + 1, tb, hc, htl, htb => by
    have hc' : c < x2.length := by omega
    have hdk : x2.drop c = x2[c] :: x2.drop (c + 1) := List.drop_eq_getElem_cons hc'
    have ih := refplace_loop x0 x1 x2 hs hday h0 hl h2 hrow h5 h6 hne c (tb.set c (owL x0 x1 (x2.drop c))) (by omega) (by simp [htl]) (fun j h1 h2 => by
      by_cases e : j = c
      · subst e; rw [List.getElem?_set_self (by omega)]
      · rw [List.getElem?_set_ne (by omega)]; exact htb j (by omega) h2)
    have hww : ∀ r ∈ x2.drop c, ∀ p ∈ r, -1 ≤ p ∧ p ≤ 1048576 := fun r hr => (hrow r (List.mem_of_mem_drop hr)).2
    have hrl := (hrow _ (List.getElem_mem hc')).1
    rw [show ((c + 1 : Nat) : Int) - 1 = (c : Int) by omega]
    by_cases hlast : c + 1 < x2.length
    · have hdk2 : x2.drop (c + 1) = x2[c + 1] :: x2.drop (c + 2) := List.drop_eq_getElem_cons hlast
      have ht1 : rd_L1 tb ((c + 1 : Nat) : Int) = owL x0 x1 (x2[c + 1] :: x2.drop (c + 2)) := by
        rw [← hdk2]
        have := htb (c + 1) (Nat.le_refl _) hlast
        simp only [rd_L1, Int.toNat_natCast, List.getD_eq_getElem?_getD, this, Option.getD_some]
      rw [hdk, hdk2] at hww
      have hcs := costs_ev2 x0 x1 x2[c] x2[c + 1] (x2.drop (c + 2)) hrl hl hww hs hday h5 h6 (by rw [List.length_drop]; omega)
      rw [← hdk2, ← hdk] at hcs
      rw [hdk2] at hcs
      refine Ev.step (f := fun k => (fastiref32_costs.f k x0 x1 x2[c] (owL x0 x1 (x2[c + 1] :: x2.drop (c + 2))) false).bind fun t => fastiref32_Place.l0 k x0 x1 x2 (x2.length : Int) (tb.set c t) ((c : Int) - 1)) (fun k => ?_) (Ev.bind hcs ih)
      simp only [fastiref32_Place.l0]
      rw [if_pos (by omega), w64 (x := (x2.length : Int) - 1) (by omega) (by omega), if_pos (by omega), w64s c (by omega), if_pos (by omega), if_pos (by omega), if_pos (by omega), if_pos (by omega), PC.rd_L1_lt hc', ht1, show ((c : Int) == (x2.length : Int) - 1) = false from by simp; omega, w64 (x := (c : Int) - 1) (by omega) (by omega)]
      congr 1
      funext t
      rw [if_pos (by omega), Int.toNat_natCast]
    · have hdk2 : x2.drop (c + 1) = [] := List.drop_of_length_le (by omega)
      rw [hdk, hdk2] at hww
      have hcs := costs_ev1 x0 x1 x2[c] hrl hl (hww _ List.mem_cons_self)
      rw [← hdk2, ← hdk] at hcs
      refine Ev.step (f := fun k => (fastiref32_costs.f k x0 x1 x2[c] [] true).bind fun t => fastiref32_Place.l0 k x0 x1 x2 (x2.length : Int) (tb.set c t) ((c : Int) - 1)) (fun k => ?_) (Ev.bind hcs ih)
      simp only [fastiref32_Place.l0]
      rw [if_pos (by omega), w64 (x := (x2.length : Int) - 1) (by omega) (by omega), if_neg (by omega), if_pos (by omega), if_pos (by omega), PC.rd_L1_lt hc', show ((c : Int) == (x2.length : Int) - 1) = true from by simp; omega, w64 (x := (c : Int) - 1) (by omega) (by omega)]
      congr 1
      funext t
      rw [if_pos (by omega), Int.toNat_natCast]
def placeA (l0 : List Int) (a1 : Int) (l2 : List (List Int)) : List Int × Int × Bool × Int := if PC.checkS l0 a1 l2 = 0 then ((PC.placeS l0 a1 l2).1, (PC.placeS l0 a1 l2).2.1, (PC.placeS l0 a1 l2).2.2, 0) else ([], 0, false, PC.checkS l0 a1 l2)
theorem place_eq (l0 : List Int) (a1 : Int) (l2 : List (List Int)) : rounds_Place.f l0 a1 l2 = some (placeA l0 a1 l2) := by
  unfold rounds_Place.f placeA
  split <;> rfl
theorem refplace_ev (l0 : List Int) (a1 : Int) (l2 : List (List Int)) : Ev (fun k => fastiref32_Place.f k l0 a1 l2) (placeA l0 a1 l2) := by
  unfold placeA
  refine Ev.bind (rcheck_ev l0 a1 l2) ?_
  by_cases h : PC.checkS l0 a1 l2 = 0
  · obtain ⟨hok, hl4, hl2⟩ := PC.okB_of h
    obtain ⟨hpos, hasc, hday, hra, hrb, hrow⟩ := PC.okB_parts hok
    rw [if_pos h]
    by_cases hn : l2.length = 0
    · obtain rfl : l2 = [] := List.length_eq_zero_iff.1 hn
      refine Ev.all fun k => ?_
      rw [if_pos h, if_pos (by simp)]
      rfl
    · have h' := refplace_loop l0 a1 l2 hasc hday hpos hl4 hl2 hrow hra hrb (by omega) l2.length (List.replicate l2.length []) (Nat.le_refl _) (by simp) (fun j h1 h2 => by omega)
      refine Ev.congr (fun k => ?_) h'
      rw [if_pos h, if_neg (by omega), if_pos (by omega), Int.toNat_natCast, if_pos (by omega), w64 (x := (l2.length : Int) - 1) (by omega) (by omega)]
  · rw [if_neg h]
    refine Ev.all fun k => ?_
    rw [if_neg h]
theorem roundsPlaceSpec (l0 : List Int) (a1 : Int) (l2 : List (List Int)) : ∃ k, fastilaw32_RoundsPlaceSpec.f k l0 a1 l2 = some true := by
  refine Ev.rounds (r := true) (Ev.bind sane_ev ?_)
  refine Ev.congr (fun k => if_pos rfl) ?_
  refine Ev.bind (few_ev l0 l2) ?_
  cases hf : fewS l0 l2
  · exact Ev.all fun k => by simp
  · refine Ev.congr (fun k => if_pos rfl) ?_
    have hb1 : (earlyA l0 a1 l2).1.length < 4611686018427387904 := by
      have hg : ∀ (rows : List (List Int)) (n : Int), (PC.earlyGo l0 a1 rows n).length = rows.length := fun rows => by
        induction rows with
        | nil => intro n; rfl
        | cons r rs ih => intro n; rw [PC.earlyGo]; split <;> simp [ih]
      have : l2.length ≤ 50 := by simp [fewS] at hf; exact hf.1.2
      unfold earlyA
      split
      · show (PC.earlyGo l0 a1 l2 (rd l0 0)).length < _
        rw [hg]; omega
      · simp
    have hb2 : (placeA l0 a1 l2).1.length < 4611686018427387904 := by
      have hg : ∀ (rows : List (List Int)) (n : Int), (PC.pick l0 a1 rows n).length = rows.length := fun rows => by
        induction rows with
        | nil => intro n; rfl
        | cons r rs ih => intro n; rw [PC.pick]; simp [ih]
      have : l2.length ≤ 50 := by simp [fewS] at hf; exact hf.1.2
      unfold placeA PC.placeS
      split
      · show (if _ then _ else _ : List Int × Int × Bool).1.length < _
        split
        · simp
        · show (PC.pick l0 a1 l2 _).length < _
          rw [hg]; omega
      · simp
    have s1 := same_ev (earlyA l0 a1 l2).1 (earlyA l0 a1 l2).1 hb1
    have s2 := same_ev (placeA l0 a1 l2).1 (placeA l0 a1 l2).1 hb2
    rw [decide_eq_true rfl] at s1 s2
    refine Ev.bind (Ev.all fun k => early_eq l0 a1 l2) (Ev.bind (refearly_ev l0 a1 l2) (Ev.bind (Ev.all fun k => place_eq l0 a1 l2) (Ev.bind (refplace_ev l0 a1 l2) (Ev.bind s1 ?_))))
    refine Ev.congr (fun k => (if_pos rfl).trans (if_pos rfl)) (Ev.bind s2 (Ev.all fun k => ?_))
    rw [if_pos rfl, if_pos rfl, if_pos (by simp)]
    simp
end Go.Proofs.Ytaagpnbnjdpjgaa.Q
