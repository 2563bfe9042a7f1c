/- Proved here: an argument of type []api.Span (two whole numbers), or a struct of three whole numbers,, as a statement hands it in, is read as a list, under the condition that the argument is well formed. -/
import Derived.Deep.SlicePairs
import Derived.Test.YtpodgkmgameocaaDoorX0
namespace Go.Proofs.YtpodgkmgameocaaDoor.T2
open Go.RowKit Go.Deep Go.ChangeShapes Go.WideShapes Go.Proofs.YtpodgkmgameocaaDoorW.PrintWords Go.Proofs.YtpodgkmgameocaaDoorW.PrintLast Go.Proofs.YtpodgkmgameocaaDoorW.PrintMore Go.Proofs.YtpodgkmgameocaaDoor.X
theorem open_spans {H : Type} {enc : TypeId × Value → H} {P : Program} {W : World} {base : Nat} {held : Bool} {t e : TypeId} {f0 f1 : Field} {fuel : Nat} {A : Option Addr} {len cap : Nat} {x : DataW H × List MemPlace} (ht : P.underlying t = some (.slice e)) (he : P.underlying e = some (.struct #[f0, f1]))
    (ce : P.cellsOf e = 2) (o0 : f0.offset = 0) (o1 : f1.offset = 1) (c0 : P.cellsOf f0.type = 1) (c1 : P.cellsOf f1.type = 1)
    (u0 : P.underlying f0.type = some (.int .i64)) (u1 : P.underlying f1.type = some (.int .i64))
    (h : DataW.trod enc P W base (fun _ => true) held fuel t (Value.slice A len cap).cells.toList = some x) :
    ∃ l : List S45, len = l.length ∧ Kd.C k45 W A l.length l ∧ l.length ≤ cap := by
  rcases open_slice ht h with ⟨hcs, _⟩ | ⟨a, len', cap', m, n, D, Pl, hcs, _, hl, hm, hmm, _, hx⟩
  · simp [Value.cells] at hcs
    obtain ⟨rfl, rfl, rfl⟩ := hcs
    exact ⟨[], rfl, ⟨rfl, by simp, fun h => by simp at h⟩, Nat.le_refl _⟩
  · simp [Value.cells] at hcs
    obtain ⟨rfl, rfl, rfl⟩ := hcs
    simp only [if_true] at hmm
    subst hmm
    have each : ∀ i, i < m → ∃ q : S45, W.cell? (a.add (i * 2)) = some (.int .i64 q.f0) ∧ W.cell? (a.add (i * 2 + 1)) = some (.int .i64 q.f1) := by
      intro i hi
      obtain ⟨cs', h1, h2⟩ := hx i hi
      rw [ce] at h1
      obtain ⟨_, hlen, hcell⟩ := World.cells?_some h1
      obtain ⟨xs, k, hk, hxy, _, hxl, hf⟩ := DataW.trod_struct he h2
      match xs, hxl, cs', hlen with
      | [y0, y1], _, [v0, v1], _ =>
        have g0 := hf 0 f0 rfl
        have g1 := hf 1 f1 rfl
        simp [o0, o1, c0, c1] at g0 g1
        obtain ⟨n0, e0, _⟩ := DataW.trod_int u0 g0
        obtain ⟨n1, e1, _⟩ := DataW.trod_int u1 g1
        cases e0
        cases e1
        have z0 := hcell 0 (by omega)
        have z1 := hcell 1 (by omega)
        rw [Go.Deep.add_add] at z0 z1
        exact ⟨⟨n0, n1⟩, by simpa using z0, by simpa using z1⟩
    haveI : Inhabited S45 := ⟨z45⟩
    obtain ⟨q, hq⟩ := choose_lt each
    refine ⟨(List.range len).map q, by simp, ⟨rfl, by simp only [maxLen] at hm; simp; omega, fun hp => ⟨a, rfl, fun j p hj => ?_⟩⟩, by simpa using hl⟩
    rw [List.getElem?_map] at hj
    obtain ⟨r, hr1, rfl⟩ := Option.map_eq_some_iff.1 hj
    obtain ⟨hjl, rfl⟩ := List.getElem?_eq_some_iff.1 hr1
    simp only [List.getElem_range, List.length_range] at hjl ⊢
    obtain ⟨h1, h2⟩ := hq j (by omega)
    refine ⟨_, rfl, k45_mk W (q j), fun i u hu => ?_⟩
    show W.cell? (a.add (j * 2 + i)) = _
    match i, hu with
    | 0, hu => cases hu; exact h1
    | 1, hu => cases hu; exact h2
    | i + 2, hu => simp at hu
theorem open_triple {H : Type} {enc : TypeId × Value → H} {P : Program} {W : World} {base b0 : Nat} {sp : Nat → Bool} {held : Bool} {r : Reach} {t : TypeId} {f0 f1 f2 : Field} {v : Value} {d : DataW H} {ps : List MemPlace} (he : P.underlying t = some (.struct #[f0, f1, f2]))
    (ce : P.cellsOf t = 3) (o0 : f0.offset = 0) (o1 : f1.offset = 1) (o2 : f2.offset = 2) (c0 : P.cellsOf f0.type = 1) (c1 : P.cellsOf f1.type = 1) (c2 : P.cellsOf f2.type = 1)
    (u0 : P.underlying f0.type = some (.int .i64)) (u1 : P.underlying f1.type = some (.int .i64)) (u2 : P.underlying f2.type = some (.int .i64))
    (hval : Value.okWide P W r b0 t v) (h : DataW.Trod enc P W base sp held t v d ps) : ∃ x y z : Int, v = .agg #[.int .i64 x, .int .i64 y, .int .i64 z] := by
  obtain ⟨cs, rfl, hsz⟩ := okWide_struct he hval
  obtain ⟨fuel, hf⟩ := h
  rw [ce] at hsz
  obtain ⟨l⟩ := cs
  match l, hsz with
  | [v0, v1, v2], _ =>
    simp only [Value.cells] at hf
    obtain ⟨xs, k, hk, hxy, _, hxl, hg⟩ := DataW.trod_struct he hf
    match xs, hxl with
    | [y0, y1, y2], _ =>
      have g0 := hg 0 f0 rfl
      have g1 := hg 1 f1 rfl
      have g2 := hg 2 f2 rfl
      simp [o0, o1, o2, c0, c1, c2] at g0 g1 g2
      obtain ⟨n0, e0, _⟩ := DataW.trod_int u0 g0
      obtain ⟨n1, e1, _⟩ := DataW.trod_int u1 g1
      obtain ⟨n2, e2, _⟩ := DataW.trod_int u2 g2
      cases e0
      cases e1
      cases e2
      exact ⟨_, _, _, rfl⟩
end Go.Proofs.YtpodgkmgameocaaDoor.T2
