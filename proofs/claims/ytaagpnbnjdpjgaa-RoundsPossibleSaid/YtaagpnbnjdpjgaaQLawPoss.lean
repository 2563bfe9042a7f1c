/- Proved here: the plain law of the statement RoundsPossible; no condition beyond the statement's own. -/
import Derived.Test.YtaagpnbnjdpjgaaQPlaced
import Derived.Test.YtaagpnbnjdpjgaaQEarlyA
import Derived.Test.YtaagpnbnjdpjgaaX16
namespace Go.Proofs.Ytaagpnbnjdpjgaa.Q
open Go.RowKit Go.Proofs.Ytaagpnbnjdpjgaa.X Go.Proofs.YtaagpnbnjdpjgaaW.PrintWords Go.Proofs.YtaagpnbnjdpjgaaW.PrintLast Go.Proofs.Ytaagpnbnjdpjgaa.K
set_option linter.unusedVariables false
set_option linter.unusedSimpArgs false

theorem early_len (l0 : List Int) (a1 : Int) : ∀ (rows : List (List Int)) (n : Int), (PC.earlyGo l0 a1 rows n).length = rows.length
  | [], _ => rfl
  | r :: rs, n => by rw [PC.earlyGo]; split <;> simp [early_len l0 a1 rs]
theorem pick_len (l0 : List Int) (a1 : Int) : ∀ (rows : List (List Int)) (n : Int), (PC.pick l0 a1 rows n).length = rows.length
  | [], _ => rfl
  | r :: rs, n => by rw [PC.pick]; simp [pick_len l0 a1 rs]
theorem vl_len (l0 : List Int) (a1 : Int) : ∀ (rows : List (List Int)) (i : Nat) (xs : List Int) (c : Int), Vl l0 a1 rows i xs c → xs.length = rows.length
  | [], _, _, _, h => by rw [h.1]; rfl
  | r :: rs, i, xs, c, h => by
    obtain ⟨x, ys, c', rfl, _, _, _, h5, _⟩ := h
    simp [vl_len l0 a1 rs _ ys c' h5]
theorem early_range (l0 : List Int) (a1 : Int)  : ∀ (rows : List (List Int)) (n : Int), ∀ x ∈ PC.earlyGo l0 a1 rows n, -1 ≤ x ∧ x < (l0.length : Int)
  | [], _, x, hx => by simp [PC.earlyGo] at hx
  | r :: rs, n, x, hx => by
    rw [PC.earlyGo] at hx
    split at hx
    · rename_i i _
      rcases List.mem_cons.1 hx with rfl | hx
      · have := i.2; omega
      · exact early_range l0 a1 rs _ x hx
    · rcases List.mem_cons.1 hx with rfl | hx
      · omega
      · exact early_range l0 a1 rs _ x hx
theorem early_stay (l0 : List Int) (a1 : Int) (hs : asc l0 = true) (hday : ∀ x ∈ l0, 0 ≤ x ∧ x ≤ 73048) : ∀ (rows : List (List Int)) (n : Int) (i j : Nat), i < j → j < rows.length → rd (PC.earlyGo l0 a1 rows n) (i : Int) < 0 → rd (PC.earlyGo l0 a1 rows n) (j : Int) < 0
  | [], _, i, j, _, h, _ => by simp at h
  | r :: rs, n, i, j, hij, hj, h => by
    have hcons : ∀ (y : Int) (l : List Int) (q : Nat), rd (y :: l) ((q + 1 : Nat) : Int) = rd l (q : Int) := fun y l q => by simp [rd]
    rw [PC.earlyGo] at h ⊢
    obtain ⟨j', rfl⟩ : ∃ j', j = j' + 1 := ⟨j - 1, by omega⟩
    split
    · rename_i x hx
      rw [hx] at h
      cases i with
      | zero =>
        have h' : (x.1 : Int) < 0 := h
        omega
      | succ i' =>
        rw [hcons] at h ⊢
        exact early_stay l0 a1 hs hday rs _ i' j' (by omega) (by simpa using hj) h
    · rename_i hx
      rw [hcons, early_dead l0 a1 hday hs]
      have : j' < rs.length := by simpa using hj
      rw [rd_lt (by simpa using this)]
      simp
theorem early_le (l0 : List Int) (a1 : Int) (hs : asc l0 = true) : ∀ (rows : List (List Int)) (i : Nat) (n : Int) (xs : List Int) (c : Int), (∀ j (hj : j < l0.length), i ≤ j → n ≤ l0[j]) → Vl l0 a1 rows i xs c →
    ∀ k, k < rows.length → 0 ≤ rd (PC.earlyGo l0 a1 rows n) (k : Int) ∧ rd (PC.earlyGo l0 a1 rows n) (k : Int) ≤ rd xs (k : Int)
  | [], _, _, _, _, _, _, k, hk => by simp at hk
  | r :: rs, i, n, xs, c, hn, hv, k, hk => by
    have hcons : ∀ (y : Int) (l : List Int) (q : Nat), rd (y :: l) ((q + 1 : Nat) : Int) = rd l (q : Int) := fun y l q => by simp [rd]
    obtain ⟨x, ys, c', rfl, h2, h3, h4, h5, _⟩ := hv
    have hfit : fitB l0 r n ⟨x, h3⟩ = true := by rw [fitB, decide_eq_true h4, rd_lt h3, decide_eq_true (hn x h3 h2)]; rfl
    have hf := firstOk_eq l0 r n hs
    obtain ⟨y, hy, hyx⟩ : ∃ y : Fin l0.length, PC.firstOk l0 r n = some y ∧ y.1 ≤ x := by
      rw [hf]
      cases hq : (List.finRange l0.length).find? (fitB l0 r n) with
      | none =>
        have := List.find?_eq_none.1 hq ⟨x, h3⟩ (List.mem_finRange _)
        exact absurd hfit this
      | some y =>
        refine ⟨y, rfl, ?_⟩
        obtain ⟨_, us, vs, he, hno⟩ := List.find?_eq_some_iff_append.1 hq
        rcases Nat.lt_or_ge x y.1 with hlt | hge
        · have hlen : us.length = y.1 := by
            have hg : (List.finRange l0.length)[us.length]? = some y := by rw [he]; simp
            obtain ⟨hl, hg⟩ := List.getElem?_eq_some_iff.1 hg
            rw [← hg]; simp
          have hx : (⟨x, h3⟩ : Fin l0.length) ∈ us := by
            have hg : (List.finRange l0.length)[x]? = some ⟨x, h3⟩ := by simp [h3]
            rw [he, List.getElem?_append_left (by omega)] at hg
            exact List.mem_of_getElem? hg
          have := hno _ hx
          rw [hfit] at this
          simp at this
        · exact hge
    rw [PC.earlyGo, hy]
    have hyl := y.2
    cases k with
    | zero =>
      show 0 ≤ (y.1 : Int) ∧ (y.1 : Int) ≤ (x : Int)
      omega
    | succ k' =>
      rw [hcons, hcons]
      refine early_le l0 a1 hs rs _ _ ys c' (fun j hj hle => ?_) h5 k' (by simpa using hk)
      have h7 : l0[y.1] ≤ l0[x] := asc_le hs hyx h3
      have h8 := lb_above hs _ hj hle
      rw [rd_lt h3] at h8
      rw [rd_lt hyl]
      omega
theorem early_vl (l0 : List Int) (a1 : Int) (hs : asc l0 = true) : ∀ (rows : List (List Int)) (n : Int), (∀ row ∈ rows, True) → (∀ k, k < rows.length → 0 ≤ rd (PC.earlyGo l0 a1 rows n) (k : Int)) → ∃ c, Vl l0 a1 rows (lb l0 n) (PC.earlyGo l0 a1 rows n) c
  | [], _, _, _ => ⟨0, rfl, rfl⟩
  | r :: rs, n, _, h => by
    have hcons : ∀ (y : Int) (l : List Int) (q : Nat), rd (y :: l) ((q + 1 : Nat) : Int) = rd l (q : Int) := fun y l q => by simp [rd]
    rw [PC.earlyGo] at h ⊢
    cases hq : PC.firstOk l0 r n with
    | none =>
      rw [hq] at h
      have := h 0 (by simp)
      simp [rd] at this
    | some y =>
      rw [hq] at h
      have hfit : fitB l0 r n y = true := by rw [firstOk_eq l0 r n hs] at hq; exact List.find?_some hq
      simp only [fitB, Bool.and_eq_true, decide_eq_true_eq] at hfit
      rw [rd_lt y.2] at hfit
      obtain ⟨c, hc⟩ := early_vl l0 a1 hs rs (rd l0 (y.1 : Int) + a1) (fun _ _ => trivial) (fun k hk => by have := h (k + 1) (by simpa using hk); rwa [hcons] at this)
      have hle : lb l0 n ≤ y.1 := by
        rcases Nat.lt_or_ge y.1 (lb l0 n) with h' | h'
        · have := lb_below l0 n y.2 h'; omega
        · exact h'
      exact ⟨_, y.1, _, c, rfl, hle, y.2, hfit.1, hc, rfl⟩

/-! The statement's loops. -/
theorem rd_mem_or (l : List Int) (i : Nat) (h : i < l.length) : rd l (i : Int) ∈ l := by rw [rd_lt h]; exact List.getElem_mem h
theorem poss_last (x3 at_ E : List Int) (ok is : Bool) (hE : E.length < 4611686018427387904) (h1 : ok = true → at_.length = E.length ∧ ∀ k, k < E.length → rd E (k : Int) ≤ rd at_ (k : Int)) (h2 : is = true → x3.length = E.length ∧ ∀ k, k < E.length → rd E (k : Int) ≤ rd x3 (k : Int)) (h3 : is = true → ok = true) (d : Nat) :
    ∀ i : Nat, E.length - i = d → i ≤ E.length → Ev (fun k => fastilaw32_RoundsPossible.l1 k x3 at_ ok is E (E.length : Int) (i : Int)) true := by
  induction d with
  | zero =>
    intro i hd hi
    refine Ev.eq fun k => ?_
    simp only [fastilaw32_RoundsPossible.l1]
    rw [if_neg (by omega)]
    cases his : is
    · rw [if_neg (by decide)]
    · rw [if_pos rfl, h3 his]
  | succ d ih =>
    intro i hd hi
    have hi' : i < E.length := by omega
    refine Ev.step (fun k => ?_) (ih (i + 1) (by omega) (by omega))
    simp only [fastilaw32_RoundsPossible.l1]
    rw [if_pos (by omega), if_pos (by omega), if_pos (by omega), w64s i (by omega)]
    have part : (if is = true then if (i : Int) < (x3.length : Int) then if rd x3 (i : Int) < rd E (i : Int) then some false else fastilaw32_RoundsPossible.l1 k x3 at_ ok is E (E.length : Int) ((i + 1 : Nat) : Int) else none else fastilaw32_RoundsPossible.l1 k x3 at_ ok is E (E.length : Int) ((i + 1 : Nat) : Int)) = fastilaw32_RoundsPossible.l1 k x3 at_ ok is E (E.length : Int) ((i + 1 : Nat) : Int) := by
      cases his : is
      · rw [if_neg (by decide)]
      · have := h2 his
        have h9 := this.2 i hi'
        rw [if_pos rfl, if_pos (by omega), if_neg (by omega)]
    rw [part]
    cases hok : ok
    · rw [if_neg (by decide)]
    · have := h1 hok
      have h9 := this.2 i hi'
      rw [if_pos rfl, if_pos (by omega), if_neg (by omega)]
theorem poss_loop (x0 : List Int) (x1 : Int) (x2 : List (List Int)) (x3 at_ E : List Int) (ok : Bool) (hE : E.length < 4611686018427387904) (hr : ∀ x ∈ E, -1 ≤ x ∧ x < (x0.length : Int)) (hst : ∀ i j, i < j → j < E.length → rd E (i : Int) < 0 → rd E (j : Int) < 0)
    (R : Bool) (hR : ∀ p : Bool, (p = true ↔ ∀ j, j < E.length → 0 ≤ rd E (j : Int)) → Ev (fun k => (fastiref32_Placed.f k x0 x1 x2 E).bind fun b => if (b.2 != p) = true then fastilaw32_RoundsPossible.j3 k x0 x1 x2 x3 E at_ ok true else fastilaw32_RoundsPossible.j3 k x0 x1 x2 x3 E at_ ok (ok != p)) R) (d : Nat) :
    ∀ (i : Nat) (p : Bool), E.length - i = d → i ≤ E.length → (p = true ↔ ∀ j, j < i → 0 ≤ rd E (j : Int)) → Ev (fun k => fastilaw32_RoundsPossible.l0 k x0 x1 x2 x3 E at_ ok p E (E.length : Int) (i : Int)) R := by
  induction d with
  | zero =>
    intro i p hd hi hp
    obtain rfl : i = E.length := by omega
    refine Ev.step (fun k => ?_) (hR p hp)
    simp only [fastilaw32_RoundsPossible.l0]
    rw [if_neg (by omega)]
  | succ d ih =>
    intro i p hd hi hp
    have hi' : i < E.length := by omega
    have hx := hr _ (rd_mem_or E i hi')
    cases hpc : p
    · have hex : rd E (i : Int) < 0 := by
        rcases Int.lt_or_le (rd E (i : Int)) 0 with h | h
        · exact h
        · exfalso
          have hall : ∀ j, j < i → 0 ≤ rd E (j : Int) := fun j hj => by
            rcases Int.lt_or_le (rd E (j : Int)) 0 with h' | h'
            · have := hst j i hj hi' h'; omega
            · exact h'
          have := hp.2 hall
          rw [hpc] at this; cases this
      refine Ev.step (fun k => ?_) (ih (i + 1) false (by omega) (by omega) ⟨(fun h => by cases h), fun h => by have := h i (by omega); omega⟩)
      simp only [fastilaw32_RoundsPossible.l0]
      rw [if_pos (by omega), if_pos (by omega), if_pos (by omega), if_neg (by decide), if_neg (by omega), if_neg (by omega), decide_eq_true hex, if_neg (by decide), w64s i (by omega)]
    · by_cases h0 : 0 ≤ rd E (i : Int)
      · refine Ev.step (fun k => ?_) (ih (i + 1) true (by omega) (by omega) ⟨fun _ j hj => ?_, fun _ => rfl⟩)
        · simp only [fastilaw32_RoundsPossible.l0]
          rw [if_pos (by omega), if_pos (by omega), if_pos (by omega), if_pos trivial, if_neg (by omega), if_neg (by omega), decide_eq_false (show ¬ rd E (i : Int) < 0 by omega), decide_eq_true (show rd E (i : Int) ≥ 0 from h0), if_neg (by decide), w64s i (by omega)]
        · by_cases e : j = i
          · rw [e]; exact h0
          · exact hp.1 hpc j (by omega)
      · refine Ev.step (fun k => ?_) (ih (i + 1) false (by omega) (by omega) ⟨(fun h => by cases h), fun h => absurd (h i (by omega)) h0⟩)
        simp only [fastilaw32_RoundsPossible.l0]
        rw [if_pos (by omega), if_pos (by omega), if_pos (by omega), if_pos trivial, if_neg (by omega), if_neg (by omega), decide_eq_true (show rd E (i : Int) < 0 by omega), decide_eq_false (show ¬ rd E (i : Int) ≥ 0 from h0), if_neg (by decide), w64s i (by omega)]
theorem roundsPossible (l0 : List Int) (a1 : Int) (l2 : List (List Int)) (l3 : List Int) : ∃ k, fastilaw32_RoundsPossible.f k l0 a1 l2 l3 = some true := by
  refine Ev.rounds (r := true) (Ev.bind sane_ev ?_)
  refine Ev.congr (fun k => if_pos rfl) ?_
  refine Ev.bind (few_ev l0 l2) ?_
  have jt : Ev (fun k => fastilaw32_RoundsPossible.j0 k l0 a1 l2 l3 true) true := Ev.eq fun k => by simp only [fastilaw32_RoundsPossible.j0]; rw [if_pos trivial]
  cases hf : fewS l0 l2
  · exact Ev.congr (fun k => if_neg (by decide)) jt
  · refine Ev.congr (fun k => if_pos rfl) ?_
    refine Ev.bind (rcheck_ev l0 a1 l2) ?_
    by_cases hc : PC.checkS l0 a1 l2 = 0
    · obtain ⟨hok, hl4, hl2⟩ := PC.okB_of hc
      obtain ⟨hpos, hasc, hday, hra, hrb, hrow⟩ := PC.okB_parts hok
      have hpa : placeA l0 a1 l2 = ((PC.placeS l0 a1 l2).1, (PC.placeS l0 a1 l2).2.1, (PC.placeS l0 a1 l2).2.2, 0) := if_pos hc
      have hea : earlyA l0 a1 l2 = (PC.earlyGo l0 a1 l2 (rd l0 0), 0) := if_pos hc
      have hz : lb l0 (rd l0 0) = 0 := by
        cases l0 with
        | nil => rfl
        | cons a l => rw [lb_cons, if_neg (by simp [rd])]
      have h0 : ∀ j (hj : j < l0.length), 0 ≤ j → rd l0 0 ≤ l0[j] := fun j hj _ => lb_above hasc _ hj (by omega)
      obtain ⟨E, hE⟩ : ∃ E, PC.earlyGo l0 a1 l2 (rd l0 0) = E := ⟨_, rfl⟩
      have hEl : E.length = l2.length := by rw [← hE]; exact early_len _ _ _ _
      have hEr : ∀ x ∈ E, -1 ≤ x ∧ x < (l0.length : Int) := by rw [← hE]; exact early_range l0 a1 l2 _
      have hEs : ∀ i j, i < j → j < E.length → rd E (i : Int) < 0 → rd E (j : Int) < 0 := fun i j h1 h2 => by rw [← hE]; exact early_stay l0 a1 hasc hday l2 _ i j h1 (by omega)
      have hEv : (∀ j, j < E.length → 0 ≤ rd E (j : Int)) → ∃ c, Vl l0 a1 l2 0 E c := fun h => by
        have := early_vl l0 a1 hasc l2 (rd l0 0) (fun _ _ => trivial) (by rw [hE]; intro k hk; exact h k (by omega))
        rwa [hz, hE] at this
      have hEle : ∀ xs c, Vl l0 a1 l2 0 xs c → xs.length = E.length ∧ ∀ k, k < E.length → 0 ≤ rd E (k : Int) ∧ rd E (k : Int) ≤ rd xs (k : Int) := fun xs c hv => by
        refine ⟨by rw [vl_len l0 a1 l2 0 xs c hv, hEl], fun k hk => ?_⟩
        have := early_le l0 a1 hasc l2 0 (rd l0 0) xs c h0 hv k (by omega)
        rwa [hE] at this
      obtain ⟨P, hP⟩ : ∃ P, PC.placeS l0 a1 l2 = P := ⟨_, rfl⟩
      have hokI : P.2.2 = true ↔ ∀ j, j < E.length → 0 ≤ rd E (j : Int) := by
        have hP' := hP
        unfold PC.placeS at hP'
        by_cases hn : (PC.pl l0 a1 l2 0).2 < 0
        · rw [if_pos hn] at hP'
          subst hP'
          refine ⟨(fun h => by cases h), fun h => ?_⟩
          obtain ⟨c, hv⟩ := hEv h
          have := (vl_best l0 a1 l2 0 E c (Nat.zero_le _) hv).1
          omega
        · rw [if_neg hn] at hP'
          subst hP'
          exact ⟨fun _ j hj => ((hEle _ _ (pick_vl l0 a1 l2 0 (Nat.zero_le _) (by omega))).2 j hj).1, fun _ => rfl⟩
      have hPat : P.2.2 = true → P.1.length = E.length ∧ ∀ k, k < E.length → rd E (k : Int) ≤ rd P.1 (k : Int) := fun h => by
        have hP' := hP
        unfold PC.placeS at hP'
        by_cases hn : (PC.pl l0 a1 l2 0).2 < 0
        · rw [if_pos hn] at hP'
          subst hP'
          cases h
        · rw [if_neg hn] at hP'
          subst hP'
          have := hEle _ _ (pick_vl l0 a1 l2 0 (Nat.zero_le _) (by omega))
          exact ⟨this.1, fun k hk => (this.2 k hk).2⟩
      rw [hc]
      have hj1 : Ev (fun k => fastilaw32_RoundsPossible.j1 k l0 a1 l2 l3 E P.1 P.2.2 false) true := by
        refine Ev.step (f := fun k => fastilaw32_RoundsPossible.l0 k l0 a1 l2 l3 E P.1 P.2.2 true E (E.length : Int) ((0 : Nat) : Int)) (fun k => ?_)
          (poss_loop l0 a1 l2 l3 P.1 E P.2.2 (by omega) hEr hEs true (fun p hp => ?_) _ 0 true rfl (Nat.zero_le _) ⟨fun _ j h => by omega, fun _ => rfl⟩)
        · simp only [fastilaw32_RoundsPossible.j1]; rw [if_neg (by decide)]; rfl
        · have hpp : P.2.2 = p := by
            cases hq : p
            · cases hq2 : P.2.2
              · rfl
              · have := hp.2 (hokI.1 hq2); rw [hq] at this; cases this
            · exact hokI.2 (hp.1 hq)
          refine Ev.bind (placed_ev l0 a1 l2 hasc hday hl4 hl2 hrow hra hrb E) ?_
          have hb : (plcA (plc l0 a1 l2 0 E) 0).2 = p := by
            cases hq : plc l0 a1 l2 0 E with
            | none =>
              show false = p
              cases hpc : p
              · rfl
              · obtain ⟨c, hv⟩ := hEv (hp.1 hpc)
                rw [(plc_vl _ _ _ _ _ _).2 hv] at hq; cases hq
            | some c =>
              show true = p
              exact (hp.2 (fun j hj => ((hEle E c ((plc_vl _ _ _ _ _ _).1 hq)).2 j hj).1)).symm
          refine Ev.congr (fun k => if_neg (by rw [hb]; simp)) ?_
          rw [show (P.2.2 != p) = false by rw [hpp]; simp]
          refine Ev.step (f := fun k => (fastiref32_Placed.f k l0 a1 l2 l3).bind fun b => fastilaw32_RoundsPossible.l1 k l3 P.1 P.2.2 b.2 E (E.length : Int) 0) (fun k => ?_) (Ev.bind (placed_ev l0 a1 l2 hasc hday hl4 hl2 hrow hra hrb l3) ?_)
          · simp only [fastilaw32_RoundsPossible.j3]; rw [if_neg (by decide)]
          · have hv3 : (plcA (plc l0 a1 l2 0 l3) 0).2 = true → ∃ c, Vl l0 a1 l2 0 l3 c := fun h => by
              cases hq : plc l0 a1 l2 0 l3 with
              | none => rw [hq] at h; cases h
              | some c => exact ⟨c, (plc_vl _ _ _ _ _ _).1 hq⟩
            exact poss_last l3 P.1 E P.2.2 _ (by omega) hPat (fun h => by obtain ⟨c, hv⟩ := hv3 h; have := hEle _ _ hv; exact ⟨this.1, fun k hk => (this.2 k hk).2⟩)
              (fun h => by obtain ⟨c, hv⟩ := hv3 h; exact hokI.2 (fun j hj => ((hEle _ _ hv).2 j hj).1)) _ 0 rfl (Nat.zero_le _)
      refine Ev.step (f := fun k => fastilaw32_RoundsPossible.j1 k l0 a1 l2 l3 E P.1 P.2.2 false) (fun k => ?_) hj1
      show fastilaw32_RoundsPossible.j0 (k + 1) l0 a1 l2 l3 false = _
      simp only [fastilaw32_RoundsPossible.j0]
      rw [if_neg (by decide), early_eq, place_eq, hea, hpa, hE, hP]
      simp only [Option.bind_some]
      rw [if_pos trivial, if_pos trivial, if_pos (by omega)]
      cases hok2 : P.2.2
      · rw [if_neg (by decide)]
      · rw [if_pos rfl]
        have := (hPat hok2).1
        rw [show ((P.1.length : Int) != (l2.length : Int)) = false by simp; omega]
    · refine Ev.congr (fun k => ?_) jt
      rw [show (PC.checkS l0 a1 l2 != 0) = true by simpa using hc]
end Go.Proofs.Ytaagpnbnjdpjgaa.Q
