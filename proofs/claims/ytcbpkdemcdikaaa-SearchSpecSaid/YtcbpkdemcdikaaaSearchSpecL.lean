/- Proved here: parts of the walk and of the plain law of SearchSpec, put into one text (names and lines made short by a program). -/
import Derived.Test.YtcbpkdemcdikaaaSearchSpecK
import Derived.Test.YtcbpkdemcdikaaaSearchSpecJ
namespace Go.Proofs.Ytcbpkdemcdikaaa.QS
open Go.RowKit Go.Proofs.Ytcbpkdemcdikaaa.X Go.Proofs.Ytcbpkdemcdikaaa.X.SF Go.Proofs.Ytcbpkdemcdikaaa.X.DF Go.Proofs.Ytcbpkdemcdikaaa.K Go.Proofs.YtcbpkdemcdikaaaW.PrintWords Go.Proofs.Ytcbpkdemcdikaaa.QB Go.Proofs.Ytcbpkdemcdikaaa.QC Go.Proofs.Ytcbpkdemcdikaaa.QP Go.Proofs.Ytcbpkdemcdikaaa.QK
set_option linter.unusedVariables false
set_option linter.unusedSimpArgs false
theorem same_ref (a b : List Int) (hl : a.length ≤ 4096) : Ev (fun k => fastiref15_SameInts.f k a b) (decide (a = b)) := by
  unfold fastiref15_SameInts.f
  by_cases he : a.length = b.length
  · have L := ce (fun k i => fastiref15_SameInts.l0 k a b (i : Int)) (fun i => decide (rd a (i : Int) = rd b (i : Int))) a.length true false ?_ ?_ ?_
    · rw [ite_tf] at L
      have e : decide (a = b) = (List.range a.length).all fun i => decide (rd a (i : Int) = rd b (i : Int)) := by
        rw [Bool.eq_iff_iff, decide_eq_true_eq, List.all_eq_true]
        constructor
        · rintro rfl i _
          exact decide_eq_true rfl
        · intro h
          refine List.ext_getElem he fun i h1 h2 => ?_
          have := of_decide_eq_true (h i (List.mem_range.2 h1))
          rwa [eh h1, eh h2] at this
      rw [e]
      exact Ev.congr (fun k => if_pos (by omega)) L
    · intro i hi hP r h'
      have hP := of_decide_eq_true hP
      refine Ev.step (f := fun k => fastiref15_SameInts.l0 k a b (wrap64 ((i : Int) + 1))) (fun k => ?_) (by rw [gV i (by omega)]; exact h')
      simp only [fastiref15_SameInts.l0]
      rw [if_pos (by omega), if_pos (by omega), if_pos (by omega), if_pos hP]
    · intro i hi hP
      have hP := of_decide_eq_false hP
      refine Ev.eq fun k => ?_
      simp only [fastiref15_SameInts.l0]
      rw [if_pos (by omega), if_pos (by omega), if_pos (by omega), if_neg hP]
    · intro _
      refine Ev.eq fun k => ?_
      simp only [fastiref15_SameInts.l0]
      rw [if_neg (by omega)]
  · rw [decide_eq_false (fun h => he (by rw [h]))]
    exact Ev.congr (fun k => if_neg (by omega)) (Ev.now _)
def fI (rs : List S49) (x : List Int) : Int := cn (fun r => brokenB r x) rs 0
theorem first_ref (ds : M) (rs : List S49) (x : List Int) (h : Ok ds rs) (hx : ∀ a ∈ x, 0 ≤ a ∧ a ≤ 73048) : Ev (fun k => fastiref15_first.f k ds rs x) (fI rs x) := by
  unfold fastiref15_first.f fI
  have hrl := h.rl
  have H : ∀ m i : Nat, i + m = rs.length → Ev (fun k => fastiref15_first.l0 k x (i : Int) ds rs) (cn (fun r => brokenB r x) (rs.drop i) i) := by
    intro m
    induction m with
    | zero =>
      intro i hi
      rw [List.drop_of_length_le (by omega)]
      refine Ev.eq fun k => ?_
      simp only [fastiref15_first.l0]
      rw [if_neg (by omega)]
      rfl
    | succ m ih =>
      intro i hi
      have hil : i < rs.length := by omega
      have B := breaks_ref rs[i] (ds.length : Int) x (h.val _ (List.getElem_mem hil)) (h.rok _ (List.getElem_mem hil)).1 hx
      rw [fj hil]
      refine Ev.step (f := fun k => (fastiref15_Breaks.f k rs[i].f0 rs[i].f1 rs[i].f2 rs[i].f3 x).bind fun t => if t = true then some (i : Int) else fastiref15_first.l0 k x (wrap64 ((i : Int) + 1)) ds rs) (fun k => ?_)
        (Ev.bind1 (f := fun k t => if t = true then some (i : Int) else fastiref15_first.l0 k x (wrap64 ((i : Int) + 1)) ds rs) B ?_)
      · simp only [fastiref15_first.l0]
        rw [if_pos (by omega), if_pos (by omega), T49n, bL hil]
      · rw [cn]
        cases hb : brokenB rs[i] x
        · simp only [Bool.false_eq_true, if_false, gV i (show i < 4611686018427387904 by omega)]
          exact ih (i + 1) (by omega)
        · simp only [if_true]
          exact Ev.now _
  have := H rs.length 0 (by omega)
  rw [List.drop_zero] at this
  exact this
theorem fI_ge (rs : List S49) (x : List Int) : fI rs x ≥ 0 ↔ badB rs x = true := iV _ rs 0
def pr (o : Option (List Int)) : List Int × Bool := (o.getD [], o.isSome)
theorem solve_ref (ds : M) (rs : List S49) (h : Ok ds rs) : ∀ (rem : M) (x : List Int), ds.drop x.length = rem → x.length ≤ ds.length → (∀ a ∈ x, 0 ≤ a ∧ a ≤ 73048) →
    Ev (fun k => fastiref15_solve.f k ds rs x) (pr (if badB rs x = true then none else sol (badB rs) rem x)) := by
  have hdl := h.len
  intro rem
  induction rem with
  | nil =>
    intro x hrem hle hx
    have hxl : x.length = ds.length := by
      have := congrArg List.length hrem
      rw [List.length_drop, List.length_nil] at this
      omega
    have F := first_ref ds rs x h hx
    refine Ev.step (f := fun k => (fastiref15_first.f k ds rs x).bind fun t362 => (if t362 ≥ 0 then (some (([] : List Int), false)) else (if (x.length : Int) = (ds.length : Int) then (some (x, true)) else (if 0 ≤ (x.length : Int) then (if (x.length : Int) < (ds.length : Int) then (fastiref15_solve.l0 k x (ax ds (x.length : Int)) 0 ds rs) else (none)) else (none))))) (fun k => rfl)
      (Ev.bind1 (f := fun k t362 => (if t362 ≥ 0 then (some (([] : List Int), false)) else (if (x.length : Int) = (ds.length : Int) then (some (x, true)) else (if 0 ≤ (x.length : Int) then (if (x.length : Int) < (ds.length : Int) then (fastiref15_solve.l0 k x (ax ds (x.length : Int)) 0 ds rs) else (none)) else (none))))) F ?_)
    by_cases hb : badB rs x = true
    · simp only [if_pos ((fI_ge rs x).2 hb), if_pos hb]
      exact Ev.now _
    · simp only [if_neg (fun h => hb ((fI_ge rs x).1 h)), if_neg hb, if_pos (show (x.length : Int) = (ds.length : Int) by omega)]
      exact Ev.now _
  | cons d rem ih =>
    intro x hrem hle hx
    have hxl : x.length < ds.length := by
      have := congrArg List.length hrem
      rw [List.length_drop, List.length_cons] at this
      omega
    have hdx : ds[x.length] = d ∧ ds.drop (x.length + 1) = rem := by
      rw [fj hxl] at hrem
      exact List.cons.inj hrem
    have hdm : d ∈ ds := hdx.1 ▸ List.getElem_mem hxl
    have hd16 := h.dl d hdm
    have F := first_ref ds rs x h hx
    refine Ev.step (f := fun k => (fastiref15_first.f k ds rs x).bind fun t362 => (if t362 ≥ 0 then (some (([] : List Int), false)) else (if (x.length : Int) = (ds.length : Int) then (some (x, true)) else (if 0 ≤ (x.length : Int) then (if (x.length : Int) < (ds.length : Int) then (fastiref15_solve.l0 k x (ax ds (x.length : Int)) 0 ds rs) else (none)) else (none))))) (fun k => rfl)
      (Ev.bind1 (f := fun k t362 => (if t362 ≥ 0 then (some (([] : List Int), false)) else (if (x.length : Int) = (ds.length : Int) then (some (x, true)) else (if 0 ≤ (x.length : Int) then (if (x.length : Int) < (ds.length : Int) then (fastiref15_solve.l0 k x (ax ds (x.length : Int)) 0 ds rs) else (none)) else (none))))) F ?_)
    by_cases hb : badB rs x = true
    · simp only [if_pos ((fI_ge rs x).2 hb), if_pos hb]
      exact Ev.now _
    · simp only [if_neg (fun h => hb ((fI_ge rs x).1 h)), if_neg hb, if_neg (show ¬ ((x.length : Int) = (ds.length : Int)) by omega), if_pos (show (0 : Int) ≤ (x.length : Int) by omega), if_pos (show (x.length : Int) < (ds.length : Int) by omega)]
      have hg : ax ds (x.length : Int) = d := by rw [L1n, bL hxl]; exact hdx.1
      rw [hg, sol]
      have H : ∀ m j : Nat, j + m = d.length → Ev (fun k => fastiref15_solve.l0 k x d (j : Int) ds rs) (pr ((d.drop j).findSome? fun v => if badB rs (x ++ [v]) = true then none else sol (badB rs) rem (x ++ [v]))) := by
        intro m
        induction m with
        | zero =>
          intro j hj
          rw [List.drop_of_length_le (by omega)]
          refine Ev.eq fun k => ?_
          simp only [fastiref15_solve.l0]
          rw [if_neg (by omega)]
          rfl
        | succ m ihm =>
          intro j hj
          have hjl : j < d.length := by omega
          have hv := dom_range (h.dom d hdm) (List.getElem_mem hjl)
          have R := ih (x ++ [d[j]]) (by rw [List.length_append]; exact hdx.2) (by rw [List.length_append, List.length_singleton]; omega) (fun a ha => by
            rcases List.mem_append.1 ha with ha | ha
            · exact hx a ha
            · rw [List.mem_singleton.1 ha]; exact hv)
          have N := ihm (j + 1) (by omega)
          rw [fj hjl, List.findSome?_cons]
          refine Ev.step (f := fun k => (fastiref15_solve.f k ds rs (x ++ [d[j]])).bind fun bt377 => if bt377.2 = true then some (bt377.1, true) else fastiref15_solve.l0 k x d (wrap64 ((j : Int) + 1)) ds rs) (fun k => ?_)
            (Ev.bind1 (f := fun k bt377 => if bt377.2 = true then some (bt377.1, true) else fastiref15_solve.l0 k x d (wrap64 ((j : Int) + 1)) ds rs) R ?_)
          · have g1 : ([] : List Int).length + x.length < 17592186044416 := by simp; omega
            have g2 : ([] ++ x).length + [d[j]].length < 17592186044416 := by simp; omega
            simp only [fastiref15_solve.l0, Option.bind_some, eh hjl]
            rw [if_pos (by omega), if_pos g1, if_pos (by omega), if_pos g2, List.nil_append]
          · cases ho : (if badB rs (x ++ [d[j]]) = true then none else sol (badB rs) rem (x ++ [d[j]])) with
            | none =>
              simp only [pr, Option.isSome_none, Bool.false_eq_true, if_false, gV j (show j < 4611686018427387904 by omega)]
              exact N
            | some y =>
              simp only [pr, Option.isSome_some, if_true, Option.getD_some]
              exact Ev.now _
      exact H d.length 0 (by omega)
theorem bad_nil {ds : M} {rs : List S49} (h : Ok ds rs) : badB rs [] = false := by
  unfold badB
  rw [List.any_eq_false]
  intro r hr hb
  obtain ⟨_, h0, _, _, hk⟩ := valid_ok (h.val r hr) (h.rok r hr).1
  have := brokenB_no r [] 0 h0 (by
    have := (hk _ (List.getElem_mem h0)).1
    have e : rd r.f2 ((0 : Nat) : Int) = r.f2[0] := eh h0
    rw [e]
    simpa using this)
  rw [this] at hb
  cases hb
def solR (ds : M) (rs : List S49) : List Int × Bool × Int := if chk ds rs = 0 then ((sol (badB rs) ds []).getD [], (sol (badB rs) ds []).isSome, 0) else ([], false, chk ds rs)
theorem Solve_ref (ds : M) (rs : List S49) : Ev (fun k => fastiref15_Solve.f k ds rs) (solR ds rs) := by
  unfold fastiref15_Solve.f solR
  refine Ev.bind1 (f := fun k t => if t = 0 then ((fastiref15_solve.f k ds rs ([] : List Int)).bind fun bt383 => some (bt383.1, bt383.2, 0)) else some ([], false, t)) (iU ds rs) ?_
  by_cases hc : chk ds rs = 0
  · have h := chk_ok hc
    simp only [if_pos hc]
    have S := solve_ref ds rs h ds [] rfl (Nat.zero_le _) (fun a ha => by cases ha)
    rw [if_neg (by rw [bad_nil h]; simp)] at S
    exact Ev.bind1 (f := fun k (bt383 : List Int × Bool) => some (bt383.1, bt383.2, (0 : Int))) S (Ev.now _)
  · simp only [if_neg hc]
    exact Ev.now _
theorem ok_guard {ds : M} {rs : List S49} (h : Ok ds rs) : rs.all okB = true := by
  rw [List.all_eq_true]
  intro r hr
  exact (valid_ok (h.val r hr) (h.rok r hr).1).1
theorem Solve_prog (ds : M) (rs : List S49) : Ev (fun k => search_Solve.f k ds rs) (solR ds rs) := by
  unfold search_Solve.f solR
  refine Ev.bind1 (f := fun k t => if t = 0 then ((search_solve.f ds rs).bind fun kj => some (kj.1, kj.2, 0)) else some ([], false, t)) (gU ds rs) ?_
  by_cases hc : chk ds rs = 0
  · have h := chk_ok hc
    have e : search_solve.f ds rs = some ((sol (badB rs) ds []).getD [], (sol (badB rs) ds []).isSome) := by
      unfold search_solve.f
      rw [ok_guard h, decide_eq_true h.pos, decide_eq_true (show ds.length ≤ 1000 by have := h.len; omega)]
      rfl
    simp only [if_pos hc, e, Option.bind_some]
    exact Ev.now _
  · simp only [if_neg hc]
    exact Ev.now _
end Go.Proofs.Ytcbpkdemcdikaaa.QS
