/- Proved here: the plain law of the statement RoundsMost of layer 32 (what the printed function tells is true), with no condition beyond the statement's own. -/
import Derived.Test.YtaagpnbnjdpjgaaQGreedy
import Derived.Test.YtaagpnbnjdpjgaaX17
namespace Go.Proofs.Ytaagpnbnjdpjgaa.Q
open Go.RowKit Go.Proofs.Ytaagpnbnjdpjgaa.X Go.Proofs.YtaagpnbnjdpjgaaW.PrintWords Go.Proofs.YtaagpnbnjdpjgaaW.PrintLast Go.Proofs.YtaagpnbnjdpjgaaW.PrintMore Go.Proofs.Ytaagpnbnjdpjgaa.K
set_option linter.unusedVariables false
set_option linter.unusedSimpArgs false

theorem pick_len' (l0 : List Int) (a1 : Int) : ∀ (rows : List (List Int)) (n : Int), (PC.pick l0 a1 rows n).length = rows.length
  | [], _ => rfl
  | r :: rs, n => by rw [PC.pick]; simp [pick_len' l0 a1 rs]
theorem zeros_rd (n i : Nat) : rd (List.replicate n (0 : Int)) (i : Int) = 0 := by
  rw [rdn, List.getD_eq_getElem?_getD, List.getElem?_replicate]
  split <;> rfl
theorem zeros_check {l0 : List Int} {a1 : Int} (h : PC.checkS l0 a1 [] = 0) (m : Nat) (hm : m ≤ 40) : PC.checkS l0 a1 (List.replicate m (List.replicate l0.length 0)) = 0 := by
  obtain ⟨h1, h2, _⟩ := PC.okB_of h
  unfold PC.checkS
  rw [if_neg (by rw [List.length_replicate]; omega), if_pos]
  unfold PC.okB at h1 ⊢
  rw [Bool.and_eq_true] at h1 ⊢
  refine ⟨h1.1, List.all_eq_true.2 fun row hr => ?_⟩
  rw [(List.mem_replicate.1 hr).2]
  simp only [PC.rowOk, Bool.and_eq_true, decide_eq_true_eq, List.length_replicate, List.all_eq_true, true_and]
  exact ⟨fun p hp => by rw [(List.mem_replicate.1 hp).2]; decide, fun p hp => by rw [(List.mem_replicate.1 hp).2]; decide⟩
theorem lb_first {l0 : List Int} (h : 0 < l0.length) : lb l0 (rd l0 0) = 0 := by
  cases l0 with
  | nil => simp at h
  | cons a l => rw [lb_cons, if_neg (by simp [rd])]
theorem grd_le (a1 : Int) : ∀ (l : List Int) (m : Int), grd a1 l m ≤ l.length
  | [], m => by simp [grd]
  | d :: ds, m => by
    rw [grd, List.length_cons]
    have := grd_le a1 ds (d + a1)
    have := grd_le a1 ds m
    split <;> omega
/-- One row more than the greedy way takes: no placement. -/
theorem place_more {l0 : List Int} {a1 : Int} (h : PC.checkS l0 a1 [] = 0) (n : Nat) (hn : grd a1 l0 (rd l0 0) = n) (hm : n ≤ 39) :
    rounds_Place.f l0 a1 (List.replicate (n + 1) (List.replicate l0.length 0)) = some ([], 0, false, 0) := by
  obtain ⟨hok, hl, _⟩ := PC.okB_of h
  obtain ⟨hpos, hasc, _, h5, _, _⟩ := PC.okB_parts hok
  rw [place_eq, placeA, if_pos (zeros_check h _ (by omega)), PC.placeS]
  by_cases hlt : (PC.pl l0 a1 (List.replicate (n + 1) (List.replicate l0.length 0)) 0).2 < 0
  · rw [if_pos hlt]
  · exfalso
    have hv := pick_vl l0 a1 (List.replicate (n + 1) (List.replicate l0.length 0)) 0 (Nat.zero_le _) (by omega)
    rw [← lb_first hpos] at hv
    have := vl_zero' l0 a1 hasc h5 _ _ _ _ _ hv
    omega
/-- As many rows as the greedy way takes: a placement that costs nothing. -/
theorem place_zero {l0 : List Int} {a1 : Int} (h : PC.checkS l0 a1 [] = 0) (n : Nat) (hn : grd a1 l0 (rd l0 0) = n) (hm : n ≤ 39) :
    ∃ at_, at_.length = n ∧ rounds_Place.f l0 a1 (List.replicate n (List.replicate l0.length 0)) = some (at_, 0, true, 0) := by
  obtain ⟨hok, hl, _⟩ := PC.okB_of h
  obtain ⟨hpos, hasc, _, h5, _, _⟩ := PC.okB_parts hok
  obtain ⟨xs, hv⟩ := vl_zero l0 a1 hasc h5 (List.replicate l0.length 0) (fun i _ => zeros_rd _ _) n (rd l0 0) (by omega)
  rw [lb_first hpos] at hv
  obtain ⟨b1, b2, _⟩ := vl_best l0 a1 _ 0 xs 0 (Nat.zero_le _) hv
  have b3 := pl_nonneg l0 a1 (List.replicate n (List.replicate l0.length 0)) 0
  refine ⟨PC.pick l0 a1 (List.replicate n (List.replicate l0.length 0)) (PC.pl l0 a1 (List.replicate n (List.replicate l0.length 0)) 0).2, ?_, ?_⟩
  · rw [pick_len', List.length_replicate]
  · rw [place_eq, placeA, if_pos (zeros_check h _ (by omega)), PC.placeS, if_neg (by omega)]
    have : (PC.pl l0 a1 (List.replicate n (List.replicate l0.length 0)) 0).1 = 0 := by omega
    simp only [this]
theorem fill_set (i : Nat) (z : List Int) (L : List (List Int)) : (List.replicate i z ++ [] :: L).set i z = List.replicate (i + 1) z ++ L := by
  rw [List.set_append, if_neg (by simp), List.length_replicate, Nat.sub_self, List.set_cons_zero, List.replicate_succ', List.append_assoc]
  rfl
/-- The rows are filled one after the other. -/
theorem fill_loop (l0 : List Int) (a1 : Int) (h : PC.checkS l0 a1 [] = 0) (n : Nat) (hn : grd a1 l0 (rd l0 0) = n) (hm : n ≤ 39) (d : Nat) : ∀ i : Nat, n + 1 - i = d → i ≤ n + 1 →
    Ev (fun k => fastilaw32_RoundsMost.l2 k l0 a1 (n : Int) (List.replicate i (List.replicate l0.length 0) ++ List.replicate (n + 1 - i) []) ((n + 1 : Nat) : Int) (i : Int)) true := by
  have hl := (PC.okB_of h).2.1
  induction d with
  | zero =>
    intro i hd hi
    obtain rfl : i = n + 1 := by omega
    obtain ⟨at_, hat, hz⟩ := place_zero h n hn hm
    refine Ev.eq fun k => ?_
    simp only [fastilaw32_RoundsMost.l2]
    rw [if_neg (by omega), Nat.sub_self, List.replicate_zero, List.append_nil, place_more h n hn hm, Option.bind_some, if_pos (by omega), if_pos (by rw [List.length_replicate]; omega), Int.toNat_natCast,
      List.take_replicate, show min n (n + 1) = n by omega, hz, Option.bind_some]
    simp [hat]
  | succ d ih =>
    intro i hd hi
    refine Ev.step (fun k => ?_) (ih (i + 1) (by omega) (by omega))
    simp only [fastilaw32_RoundsMost.l2]
    have hlen : ((List.replicate i (List.replicate l0.length (0 : Int)) ++ List.replicate (n + 1 - i) []).length : Int) = ((n + 1 : Nat) : Int) := by
      rw [List.length_append, List.length_replicate, List.length_replicate]; omega
    rw [if_pos (by omega), if_pos (by omega), if_pos (by omega), if_pos (by omega), if_pos (by omega), w64s i (by omega)]
    congr 1
    rw [Int.toNat_natCast, Int.toNat_natCast, show n + 1 - i = (n + 1 - (i + 1)) + 1 by omega, List.replicate_succ, fill_set]
/-- Is a day far enough from those chosen? -/
theorem near_loop (l0 l2 lv : List Int) (a1 dd : Int) (n : Int) (k0 : Nat) (h5 : 1 ≤ a1) (hlv : lv.length ≤ 400) (hd : 0 ≤ dd ∧ dd ≤ 73048) (hb : ∀ x ∈ lv, 0 ≤ x ∧ x ≤ 73048) (hk : k0 < l2.length) (hl2 : l2.length < 4611686018427387904) (r : Bool)
    (H1 : (∀ x ∈ lv, a1 ≤ x - dd ∨ a1 ≤ dd - x) → Ev (fun k => fastilaw32_RoundsMost.l0 k l0 a1 n (lv ++ [dd]) l2 (l2.length : Int) ((k0 + 1 : Nat) : Int)) r)
    (H2 : Ev (fun k => fastilaw32_RoundsMost.l0 k l0 a1 n lv l2 (l2.length : Int) ((k0 + 1 : Nat) : Int)) r) (d : Nat) : ∀ (i : Nat) (far : Bool), lv.length - i = d → i ≤ lv.length → (far = true → ∀ x ∈ lv.take i, a1 ≤ x - dd ∨ a1 ≤ dd - x) →
    Ev (fun k => fastilaw32_RoundsMost.l1 k l0 a1 n lv dd far l2 (l2.length : Int) (k0 : Int) lv (lv.length : Int) (i : Int)) r := by
  induction d with
  | zero =>
    intro i far hd hi hf
    obtain rfl : i = lv.length := by omega
    cases far
    · refine Ev.step (fun k => ?_) H2
      simp only [fastilaw32_RoundsMost.l1]
      rw [if_neg (by omega), if_neg (by decide), w64s k0 (by omega)]
    · refine Ev.step (fun k => ?_) (H1 (by simpa using hf rfl))
      simp only [fastilaw32_RoundsMost.l1]
      rw [if_neg (by omega), if_pos trivial, if_pos (by omega), w64s k0 (by omega)]
  | succ d ih =>
    intro i far hd hi hf
    have hil : i < lv.length := by omega
    cases far
    · refine Ev.step (fun k => ?_) (ih (i + 1) false (by omega) (by omega) (fun h => by cases h))
      simp only [fastilaw32_RoundsMost.l1]
      rw [if_pos (by omega), if_pos (by omega), if_pos (by omega), if_neg (by decide), w64s i (by omega)]
    · have hx := hb lv[i] (List.getElem_mem hil)
      have hmx : (mx (wrap64 (lv[i] - dd)) (wrap64 (dd - lv[i])) ≥ a1) ↔ (a1 ≤ lv[i] - dd ∨ a1 ≤ dd - lv[i]) := by
        rw [w64 (by omega) (by omega), w64 (by omega) (by omega)]
        unfold mx
        split <;> omega
      refine Ev.step (fun k => ?_) (ih (i + 1) (decide (mx (wrap64 (lv[i] - dd)) (wrap64 (dd - lv[i])) ≥ a1)) (by omega) (by omega) (fun h => ?_))
      · simp only [fastilaw32_RoundsMost.l1]
        rw [if_pos (by omega), if_pos (by omega), if_pos (by omega), if_pos trivial, w64s i (by omega), rd_lt hil]
      · rw [take_get hil]
        intro x hx'
        rcases List.mem_append.1 hx' with h1 | h1
        · exact hf rfl x h1
        · rw [List.mem_singleton.1 h1]; exact hmx.1 (of_decide_eq_true h)
theorem pick_loop (l0 l2 : List Int) (a1 : Int) (h : PC.checkS l0 a1 [] = 0) (n : Nat) (hn : grd a1 l0 (rd l0 0) = n) (hl2 : l2.length < 4611686018427387904) (hw : ∀ x ∈ l2, 0 ≤ x ∧ x ≤ 65535) (d : Nat) : ∀ (i : Nat) (lv : List Int), l2.length - i = d → i ≤ l2.length →
    (∀ x ∈ lv, x ∈ l0 ∧ rd l0 0 ≤ x) → lv.Pairwise (fun x y => a1 ≤ x - y ∨ a1 ≤ y - x) →
    Ev (fun k => fastilaw32_RoundsMost.l0 k l0 a1 (n : Int) lv l2 (l2.length : Int) (i : Int)) true := by
  obtain ⟨hok, hl, _⟩ := PC.okB_of h
  obtain ⟨hpos, hasc, hday, h5, _, _⟩ := PC.okB_parts hok
  induction d with
  | zero =>
    intro i lv hd hi hm hp
    obtain rfl : i = l2.length := by omega
    have hf := far_le a1 h5 l0 (rd l0 0) lv hasc hm hp
    have hg := grd_le a1 l0 (rd l0 0)
    by_cases h39 : n ≤ 39
    · have hfl := fill_loop l0 a1 h n hn h39 (n + 1) 0 (by omega) (by omega)
      rw [List.replicate_zero, List.nil_append, Nat.sub_zero] at hfl
      refine Ev.step (fun k => ?_) hfl
      simp only [fastilaw32_RoundsMost.l0]
      rw [if_neg (by omega), if_neg (by omega), if_neg (by omega), w64s n (by omega), if_pos (by omega), if_pos (by omega), Int.toNat_natCast, Option.bind_some, List.length_replicate]
      rfl
    · refine Ev.eq fun k => ?_
      simp only [fastilaw32_RoundsMost.l0]
      rw [if_neg (by omega), if_neg (by omega), if_pos (by omega)]
  | succ d ih =>
    intro i lv hd hi hm hp
    have hil : i < l2.length := by omega
    have hx := hw _ (List.getElem_mem hil)
    obtain ⟨sv, hsv⟩ : ∃ sv : Nat, l2[i] = (sv : Int) := ⟨l2[i].toNat, (Int.toNat_of_nonneg hx.1).symm⟩
    have hrem : (sv : Int).tmod (l0.length : Int) = ((sv % l0.length : Nat) : Int) := by simp [Int.tmod]
    have hix : sv % l0.length < l0.length := Nat.mod_lt _ hpos
    have hf := far_le a1 h5 l0 (rd l0 0) lv hasc hm hp
    have hg := grd_le a1 l0 (rd l0 0)
    have hdm : rd l0 ((sv % l0.length : Nat) : Int) ∈ l0 := rd_mem hix
    have hd0 : rd l0 0 ≤ rd l0 ((sv % l0.length : Nat) : Int) := by
      rw [rd_lt hix, show (0 : Int) = ((0 : Nat) : Int) from rfl, rd_lt hpos]
      exact asc_le hasc (Nat.zero_le _) hix
    refine Ev.step (fun k => ?_) (near_loop l0 l2 lv a1 (rd l0 ((sv % l0.length : Nat) : Int)) n i h5 (by omega) (hday _ hdm) (fun x hx => hday x (hm x hx).1) hil hl2 true (fun hall => ?_) (ih (i + 1) lv (by omega) (by omega) hm hp) lv.length 0 true (by omega) (Nat.zero_le _) (fun _ x hx => by simp at hx))
    · simp only [fastilaw32_RoundsMost.l0]
      rw [if_pos (by omega), if_pos (by omega), if_pos (by omega), if_neg (by omega), rd_lt hil, w64 (by omega) (by omega), hsv, hrem, if_pos (by omega), if_pos (by omega)]
      rfl
    · refine ih (i + 1) _ (by omega) (by omega) (fun x hx => ?_) ?_
      · rcases List.mem_append.1 hx with h1 | h1
        · exact hm x h1
        · rw [List.mem_singleton.1 h1]; exact ⟨hdm, hd0⟩
      · rw [List.pairwise_append]
        refine ⟨hp, List.pairwise_singleton _ _, fun x hx z hz => ?_⟩
        rw [List.mem_singleton.1 hz]
        exact hall x hx
theorem roundsMost : fastilaw32_RoundsMost.Pure := by
  intro l0 a1 l2 _ _ _ _ _ hb2 hw2
  have hw : ∀ x ∈ l2, 0 ≤ x ∧ x ≤ 65535 := fun x hx => by
    have := hw2 x hx
    simp [Lit.wf, IntKind.min, IntKind.max, IntKind.signed, IntKind.bits] at this
    omega
  refine Ev.rounds (r := true) (Ev.bind sane_ev ?_)
  refine Ev.congr (fun k => if_pos rfl) ?_
  refine Ev.bind (few_ev l0 []) ?_
  cases hf : fewS l0 []
  · refine Ev.step (f := fun _ => some true) (fun k => ?_) (Ev.now true)
    simp only [fastilaw32_RoundsMost.j0]
    simp
  · refine Ev.congr (fun k => if_pos rfl) ?_
    refine Ev.bind (rcheck_ev l0 a1 []) ?_
    by_cases hc : PC.checkS l0 a1 [] = 0
    · obtain ⟨hok, hl, _⟩ := PC.okB_of hc
      obtain ⟨hpos, hasc, hday, h5, _, _⟩ := PC.okB_parts hok
      have hg := grd_le a1 l0 (rd l0 0)
      have hg1 : 1 ≤ grd a1 l0 (rd l0 0) := by
        rw [grd_step a1 l0 _ hasc h5, if_pos (by rw [lb_first hpos]; exact hpos)]
        omega
      have hma : mostA l0 a1 = (((grd a1 l0 (rd l0 0) : Nat) : Int), 0) := if_pos hc
      have hp := pick_loop l0 l2 a1 hc _ rfl (by omega) hw l2.length 0 [] (by omega) (Nat.zero_le _) (fun x hx => by cases hx) List.Pairwise.nil
      refine Ev.step (f := fun k => fastilaw32_RoundsMost.j1 k l0 a1 l2 ((grd a1 l0 (rd l0 0) : Nat) : Int) false) (fun k => ?_) (Ev.step (fun k => ?_) hp)
      · simp only [fastilaw32_RoundsMost.j0]
        rw [hc, most_eq, hma, Option.bind_some, if_neg (by decide), if_pos rfl, if_neg (by omega), decide_eq_false (by omega)]
      · simp only [fastilaw32_RoundsMost.j1]
        rw [if_neg (by decide)]
        rfl
    · refine Ev.step (f := fun _ => some true) (fun k => ?_) (Ev.now true)
      simp only [fastilaw32_RoundsMost.j0]
      rw [if_pos (by simpa using hc)]
end Go.Proofs.Ytaagpnbnjdpjgaa.Q
