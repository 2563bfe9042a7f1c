/- Proved here: an argument of type []api.Token (a whole number, a string, two whole numbers), as a statement hands it in, is read as a list, under the condition that the argument is well formed. -/
import Derived.Deep.SlicePairs
import Derived.SizedLaws
import Derived.Test.YtcckpmijdckocaaDoorX0
namespace Go.Proofs.YtcckpmijdckocaaDoor.T3
open Go.RowKit Go.Deep Go.ChangeShapes Go.WideShapes Go.Proofs.YtcckpmijdckocaaDoorW.PrintWords Go.Proofs.YtcckpmijdckocaaDoorW.PrintLast Go.Proofs.YtcckpmijdckocaaDoorW.PrintMore Go.Proofs.YtcckpmijdckocaaDoor.X
theorem weights_all {H : Type} {P : Program} {e : TypeId} : ∀ {l : List (DataW H)} {d : DataW H}, d ∈ l → ∀ n ∈ d.weights P e, n ∈ DataW.weightsAll P e l
  | [], _, h, _, _ => by cases h
  | a :: l, d, h, n, hn => by
    simp only [DataW.weightsAll, List.mem_append]
    rcases List.mem_cons.1 h with rfl | h
    · exact .inl hn
    · exact .inr (weights_all h n hn)
theorem open_tokens {H : Type} {enc : TypeId × Value → H} {P : Program} {W : World} {base : Nat} {held : Bool} {t e : TypeId} {f0 f1 f2 f3 : Field} {fuel : Nat} {A : Option Addr} {len cap : Nat} {d : DataW H} {q : List MemPlace} (ht : P.underlying t = some (.slice e)) (he : P.underlying e = some (.struct #[f0, f1, f2, f3]))
    (ce : P.cellsOf e = 4) (o0 : f0.offset = 0) (o1 : f1.offset = 1) (o2 : f2.offset = 2) (o3 : f3.offset = 3) (c0 : P.cellsOf f0.type = 1) (c1 : P.cellsOf f1.type = 1) (c2 : P.cellsOf f2.type = 1) (c3 : P.cellsOf f3.type = 1)
    (u0 : P.underlying f0.type = some (.int .i64)) (u1 : P.underlying f1.type = some .string) (u2 : P.underlying f2.type = some (.int .i64)) (u3 : P.underlying f3.type = some (.int .i64))
    (h : DataW.trod enc P W base (fun _ => true) held fuel t (Value.slice A len cap).cells.toList = some (d, q)) (hz : ∀ n ∈ d.weights P t, n ≤ 140737488351232) (hby : P.bytesOf e = 40) :
    ∃ l : List S35, len = l.length ∧ Kd.C k35 W A l.length l ∧ l.length ≤ cap ∧ l.length * 40 ≤ 140737488351232 ∧ ∀ x ∈ l, x.f1.size ≤ 140737488351232 := by
  rcases open_slice ht h with ⟨hcs, _⟩ | ⟨a, len', cap', m, n, D, Pl, hcs, _, hl, hm, hmm, hdq, hx⟩
  · simp [Value.cells] at hcs
    obtain ⟨rfl, rfl, rfl⟩ := hcs
    exact ⟨[], rfl, ⟨rfl, by simp, fun h => by simp at h⟩, Nat.le_refl _, by simp, fun x hx => by cases hx⟩
  · simp [Value.cells] at hcs
    obtain ⟨rfl, rfl, rfl⟩ := hcs
    simp only [if_true] at hmm
    subst hmm
    have hd := (Prod.mk.inj hdq).1
    have each : ∀ i, i < m → ∃ q : S35, W.cell? (a.add (i * 4)) = some (.int .i64 q.f0) ∧ W.cell? (a.add (i * 4 + 1)) = some (.string q.f1) ∧ W.cell? (a.add (i * 4 + 2)) = some (.int .i64 q.f2) ∧ W.cell? (a.add (i * 4 + 3)) = some (.int .i64 q.f3) ∧ ∃ z0 z2 z3, D i = .agg [z0, .lit (.string q.f1.data.toList), z2, z3] := by
      intro i hi
      obtain ⟨cs', h1, h2⟩ := hx i hi
      rw [ce] at h1
      obtain ⟨_, hlen, hcell⟩ := World.cells?_some h1
      obtain ⟨xs, k, hk, hxy, _, hxl, hf⟩ := DataW.trod_struct he h2
      match xs, hxl, cs', hlen with
      | [y0, y1, y2, y3], _, [v0, v1, v2, v3], _ =>
        have g0 := hf 0 f0 rfl
        have g1 := hf 1 f1 rfl
        have g2 := hf 2 f2 rfl
        have g3 := hf 3 f3 rfl
        simp [o0, o1, o2, o3, c0, c1, c2, c3] at g0 g1 g2 g3
        obtain ⟨n0, e0, _⟩ := DataW.trod_int u0 g0
        obtain ⟨n1, e1, hy1, _⟩ := DataW.trod_string u1 g1
        obtain ⟨n2, e2, _⟩ := DataW.trod_int u2 g2
        obtain ⟨n3, e3, _⟩ := DataW.trod_int u3 g3
        cases e0
        cases e1
        cases e2
        cases e3
        have z0 := hcell 0 (by omega)
        have z1 := hcell 1 (by omega)
        have z2 := hcell 2 (by omega)
        have z3 := hcell 3 (by omega)
        rw [Go.Deep.add_add] at z0 z1 z2 z3
        have hD := (Prod.mk.inj hxy).1
        exact ⟨⟨n0, n1, n2, n3⟩, by simpa using z0, by simpa using z1, by simpa using z2, by simpa using z3, y0.1, y2.1, y3.1, by rw [hD, hy1]; rfl⟩
    haveI : Inhabited S35 := ⟨z35⟩
    obtain ⟨q, hq⟩ := choose_lt each
    have hsz : ∀ j, j < len → (q j).f1.size ≤ 140737488351232 := fun j hj => by
      obtain ⟨_, _, _, _, z0, z2, z3, hD⟩ := hq j (by omega)
      refine hz _ ?_
      rw [hd]
      simp only [DataW.weights, ht, List.mem_cons, List.mem_append]
      right
      left
      refine weights_all (List.mem_map.2 ⟨j, List.mem_range.2 hj, hD⟩) _ ?_
      simp [DataW.weights, he, DataW.weightsEach]
    have hl40 : len * 40 ≤ 140737488351232 := by
      have h1 := hz ((len + (m - len)) * 40) (by rw [hd]; simp [DataW.weights, ht, hby])
      omega
    refine ⟨(List.range len).map q, by simp, ⟨rfl, by simp only [maxLen] at hm; simp; omega, fun hp => ⟨a, rfl, fun j p hj => ?_⟩⟩, by simpa using hl, by simpa using hl40, ?_⟩
    · rw [List.getElem?_map] at hj
      obtain ⟨r, hr1, rfl⟩ := Option.map_eq_some_iff.1 hj
      obtain ⟨hjl, rfl⟩ := List.getElem?_eq_some_iff.1 hr1
      simp only [List.getElem_range, List.length_range] at hjl ⊢
      obtain ⟨h1, h2, h3, h4, _⟩ := hq j (by omega)
      refine ⟨_, rfl, k35_mk W (q j), fun i u hu => ?_⟩
      show W.cell? (a.add (j * 4 + i)) = _
      match i, hu with
      | 0, hu => cases hu; exact h1
      | 1, hu => cases hu; exact h2
      | 2, hu => cases hu; exact h3
      | 3, hu => cases hu; exact h4
      | i + 4, hu => simp at hu
    · intro x hx
      obtain ⟨j, hj, rfl⟩ := List.mem_map.1 hx
      exact hsz j (List.mem_range.1 hj)
end Go.Proofs.YtcckpmijdckocaaDoor.T3
