/- Proved here: the pure statement of LexJoined: the tokens of two sources, one after the other. No program in sight. -/
import Derived.KernelRfl
import Derived.Test.YtcckpmijdckocaaDoorQJoin
import Derived.Test.YtcckpmijdckocaaDoorX15L7
namespace Go.Proofs.YtcckpmijdckocaaDoor.Pure
open Go.RowKit Go.Proofs.YtcckpmijdckocaaDoor.X Go.Proofs.YtcckpmijdckocaaDoor.X.LX Go.Proofs.YtcckpmijdckocaaDoor.K Go.Proofs.YtcckpmijdckocaaDoorW.PrintWords Go.Proofs.YtcckpmijdckocaaDoor.QT Go.Proofs.YtcckpmijdckocaaDoor.QN Go.Proofs.YtcckpmijdckocaaDoor.QR Go.Proofs.YtcckpmijdckocaaDoor.QE Go.Proofs.YtcckpmijdckocaaDoor.QJ
set_option linter.unusedVariables false
set_option linter.unusedSimpArgs false
theorem run_at : ∀ (k p : Nat) (l : List UInt8) (us : List S35), run k p l = .ok us → ∀ x ∈ us, 0 ≤ x.f3 ∧ x.f3 ≤ p + l.length
  | _, _, [], us, h => by
    simp [run] at h
    subst h
    intro x hx
    cases hx
  | 0, _, _ :: _, _, h => by simp [run] at h
  | k + 1, p, c :: r, us, h => by
    simp only [run] at h
    cases hs : stepL p (c :: r) with
    | none => rw [hs] at h; cases h
    | some y =>
      obtain ⟨ts, n⟩ := y
      rw [hs] at h
      simp only at h
      have hn := LS.stepL_pos hs
      cases hr : run k (p + n) ((c :: r).drop n) with
      | error q => rw [hr] at h; cases h
      | ok vs =>
        rw [hr] at h
        have hv := run_at k _ _ _ hr
        have : us = ts ++ vs := by simpa [pre] using h.symm
        subst this
        intro x hx
        rcases List.mem_append.1 hx with hx | hx
        · have hp : x.f3 = (p : Int) := by
            simp only [stepL] at hs
            split at hs
            · obtain ⟨rfl, _⟩ := Prod.mk.inj (Option.some.inj hs); cases hx
            · split at hs
              · split at hs
                · obtain ⟨rfl, _⟩ := Prod.mk.inj (Option.some.inj hs); rw [List.mem_singleton.1 hx]
                · cases hs
              · split at hs
                · split at hs
                  · obtain ⟨rfl, _⟩ := Prod.mk.inj (Option.some.inj hs); rw [List.mem_singleton.1 hx]
                  · cases hs
                · split at hs
                  · split at hs
                    · obtain ⟨rfl, _⟩ := Prod.mk.inj (Option.some.inj hs); cases hx
                    · obtain ⟨rfl, _⟩ := Prod.mk.inj (Option.some.inj hs); rw [List.mem_singleton.1 hx]
                  · cases hs
          rw [hp]
          omega
        · have := hv x hx
          rw [List.length_drop, List.length_cons] at this
          rw [List.length_cons]
          omega
theorem toks_at {p : Nat} {l : List UInt8} {us : List S35} (h : toks p l = .ok us) : ∀ x ∈ us, 0 ≤ x.f3 ∧ x.f3 ≤ p + l.length := run_at _ _ _ _ h
theorem joined_l0 (a0 : ByteArray) (ha : a0.size ≤ 3000) (z us ys : List S35) (hy : ∀ x ∈ ys, 0 ≤ x.f3 ∧ x.f3 ≤ 3000) (hu : us.length + ys.length ≤ 65536) (hz : z = us ++ ys.map (shT (a0.size + 1))) : ∀ (d i : Nat), ys.length - i = d → i ≤ ys.length →
    Ev (fun k => fastilaw03_LexJoined.l0 k a0 z 0 0 (us ++ (ys.take i).map (shT (a0.size + 1))) ys (ys.length : Int) (i : Int)) true := by
  intro d
  induction d with
  | zero =>
    intro i hd hi
    obtain rfl : i = ys.length := by omega
    have he := equal_refl z (by rw [hz]; simp; omega)
    rw [List.take_of_length_le (Nat.le_refl _), ← hz]
    refine Ev.step (f := fun k => (fastiref03_Equal.f k z z).bind fun t => some t) (fun k => ?_) (Ev.bind he (Ev.now _))
    simp only [fastilaw03_LexJoined.l0]
    rw [if_neg (by omega), if_pos trivial, if_pos trivial]
  | succ d ih =>
    intro i hd hi
    have hlt : i < ys.length := by omega
    have hw : wrap64 ((i : Int) + 1) = ((i + 1 : Nat) : Int) := w64s i (by omega)
    have hn := ih (i + 1) (by omega) (by omega)
    have hb := hy ys[i] (List.getElem_mem _)
    have hw1 : wrap64 ((a0.size : Int) + 1) = ((a0.size + 1 : Nat) : Int) := w64s _ (by omega)
    have hw2 : wrap64 (ys[i].f3 + ((a0.size + 1 : Nat) : Int)) = ys[i].f3 + ((a0.size + 1 : Nat) : Int) := w64 (by omega) (by omega)
    have hl : (us ++ (ys.take i).map (shT (a0.size + 1))).length < 3518437208883 := by
      rw [List.length_append, List.length_map, List.length_take]
      omega
    rw [take_get hlt, List.map_append, ← List.append_assoc] at hn
    refine Ev.step (fun k => ?_) hn
    simp only [fastilaw03_LexJoined.l0]
    rw [if_pos (by omega), if_pos (by omega), if_pos (by omega), if_pos hl, rd35 hlt, hw1, hw2, hw]
    rfl
theorem LexJoined : fastilaw03_LexJoined.Pure := by
  intro a b ha hb
  refine Ev.rounds ?_
  unfold fastilaw03_LexJoined.f
  refine Ev.bind sane_ok ?_
  simp only [if_true]
  have hw : wrap64 ((a.size : Int) + (b.size : Int)) = (a.size : Int) + (b.size : Int) := w64 (by omega) (by omega)
  rw [hw]
  by_cases h3 : (a.size : Int) + (b.size : Int) > 3000
  · simp only [if_pos h3]
    exact Ev.now _
  simp only [if_neg h3]
  have hone : (⟨#[10]⟩ : ByteArray).size = 1 := rfl
  have hs2 : ((a ++ (⟨#[10]⟩ : ByteArray)) ++ b).size ≤ 65536 := by
    rw [ByteArray.size_append, ByteArray.size_append]
    omega
  have c3 : a.size + 1 ≤ 9223372036854775807 := by omega
  have c4 : (a ++ (⟨#[10]⟩ : ByteArray)).size + b.size ≤ 9223372036854775807 := by
    rw [ByteArray.size_append]
    omega
  have hj : toks 0 (bs ((a ++ (⟨#[10]⟩ : ByteArray)) ++ b)) = seq (toks 0 (bs a)) (shR (a.size + 1) (toks 0 (bs b))) := by
    rw [bs_app, bs_app]
    have : bs (⟨#[10]⟩ : ByteArray) = [10] := rfl
    rw [this, List.append_assoc, List.singleton_append, toks_join (bs b) _ (bs a) 0 (Nat.le_refl _), bs_len, ← toks_sh]
    simp only [Nat.zero_add]
    try rfl
  rw [lexf a (by omega), lexf b (by omega), lexf _ hs2, hj]
  simp only [Option.bind_some, if_pos c3, if_pos c4]
  have n1 : ¬ ((30 : Int) = 0) := by decide
  cases hx : toks 0 (bs a) with
  | error q =>
    rw [show seq (.error q) (shR (a.size + 1) (toks 0 (bs b))) = .error q from rfl, res_err]
    exact Ev.all fun k => by simp
  | ok us =>
    cases hy : toks 0 (bs b) with
    | error q =>
      have hq := toks_split _ _ _ _ (Nat.le_refl _) hy
      obtain ⟨d, _, hq1, hq2, _, _⟩ := hq
      rw [bs_len] at hq2
      have hwq : wrap64 (wrap64 ((q : Int) + (a.size : Int)) + 1) = ((q + (a.size + 1) : Nat) : Int) := by
        rw [w64 (x := (q : Int) + (a.size : Int)) (by omega) (by omega), w64 (by omega) (by omega)]
        omega
      rw [show seq (.ok us) (shR (a.size + 1) (.error q)) = .error (q + (a.size + 1)) from rfl, res_err, res_err, res_ok]
      simp only [hwq]
      exact Ev.all fun k => by simp
    | ok ys =>
      have hlu := toks_len hx
      have hly := toks_len hy
      rw [bs_len] at hlu hly
      have hay := toks_at hy
      rw [bs_len] at hay
      have h := joined_l0 a (by omega) (us ++ ys.map (shT (a.size + 1))) us ys (fun x hx => by have := hay x hx; omega) (by omega) rfl ys.length 0 (by omega) (by omega)
      rw [show seq (.ok us) (shR (a.size + 1) (.ok ys)) = .ok (us ++ ys.map (shT (a.size + 1))) from rfl, res_ok, res_ok, res_ok]
      simp only [if_true]
      have hl : ([] : List S35).length + us.length < 3518437208883 := by simp; omega
      simp only [if_pos hl]
      simpa using h
end Go.Proofs.YtcckpmijdckocaaDoor.Pure
