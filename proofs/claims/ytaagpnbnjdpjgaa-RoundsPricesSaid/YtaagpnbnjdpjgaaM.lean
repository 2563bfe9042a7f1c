/- Proved here: an argument of type [][]int, as a statement hands it in, is read as a list of lists, under the condition that the argument is well formed. -/
import Derived.Deep.Matrix
import Derived.Test.YtaagpnbnjdpjgaaX0
namespace Go.Proofs.Ytaagpnbnjdpjgaa.M
open Go.RowKit Go.Deep Go.Proofs.YtaagpnbnjdpjgaaW.PrintWords Go.Proofs.YtaagpnbnjdpjgaaW.PrintLast Go.Proofs.YtaagpnbnjdpjgaaW.PrintMore
theorem reads_take {W : World} {k : IntKind} {A : Option Addr} {L C : Nat} {Z : List Int} (hl : L ≤ C) (hm : C ≤ maxLen) (hz : Z.length = C) (hn : A = none → C = 0)
    (hc : ∀ a', A = some a' → ∀ c, c < C → W.cell? (a'.add c) = some (.int k (Z.getD c 0))) : Kd.C (Kd.int k) W A (Z.take L).length (Z.take L) := by
  have hL : (Z.take L).length = L := by rw [List.length_take]; omega
  refine Kd.C_of_reads (d := (0 : Int)) (h1 := fun _ => rfl) ⟨rfl, by simp only [maxLen] at hm; omega, fun hp => ?_⟩
  cases hA : A with
  | none => have := hn hA; omega
  | some a' =>
    refine ⟨a', rfl, fun j hj => ?_⟩
    rw [hL] at hj
    have := hc a' hA j (by omega)
    rw [this, List.getD_eq_getElem?_getD, List.getD_eq_getElem?_getD, List.getElem?_take_of_lt hj]
theorem open_matrix {H : Type} {enc : TypeId × Value → H} {P : Program} {W : World} {base : Nat} {held : Bool} {t e q : TypeId} {k : IntKind} {fuel : Nat} {A : Option Addr} {len cap : Nat} {x : DataW H × List MemPlace} (ht : P.underlying t = some (.slice e)) (he : P.underlying e = some (.slice q)) (hq : P.underlying q = some (.int k))
    (ce : P.cellsOf e = 1) (cq : P.cellsOf q = 1) (h : DataW.trod enc P W base (fun _ => true) held fuel t (Value.slice A len cap).cells.toList = some x) :
    ∃ l2 : List (List Int), len = l2.length ∧ Kd.C (Kd.slice q (Kd.int k)) W A l2.length l2 ∧ l2.length ≤ cap := by
  rcases open_int_rows ht he hq ce cq h with ⟨hcs, _⟩ | ⟨a, len', cap', A', L, C, Z, hcs, _, hl, hm, _, hr⟩
  · simp [Value.cells] at hcs
    obtain ⟨rfl, rfl, rfl⟩ := hcs
    exact ⟨[], rfl, ⟨rfl, by simp, fun h => by simp at h⟩, Nat.le_refl _⟩
  · simp [Value.cells] at hcs
    obtain ⟨rfl, rfl, rfl⟩ := hcs
    refine ⟨(List.range len).map fun r => (Z r).take (L r), by simp, ⟨rfl, by simp only [maxLen] at hm; simp; omega, fun hp => ⟨a, rfl, fun j p hj => ?_⟩⟩, by simpa using hl⟩
    rw [List.getElem?_map] at hj
    obtain ⟨r, hr1, rfl⟩ := Option.map_eq_some_iff.1 hj
    obtain ⟨hjl, rfl⟩ := List.getElem?_eq_some_iff.1 hr1
    simp only [List.getElem_range, List.length_range] at hjl ⊢
    obtain ⟨h1, h2, h3, h4, h5, h6, h7⟩ := hr j (by omega)
    have hL : ((Z j).take (L j)).length = L j := by rw [List.length_take]; omega
    refine ⟨[.slice (A' j) (L j) (C j)], rfl, ⟨A' j, C j, by rw [hL], by rw [hL]; exact h2, reads_take h2 h3 h4 h6 (fun a' ha => (h7 a' ha).2)⟩, fun i u hu => ?_⟩
    obtain ⟨hi, rfl⟩ := List.getElem?_eq_some_iff.1 hu
    simp only [List.length_singleton] at hi
    obtain rfl : i = 0 := by omega
    show W.cell? (a.add (j * 1 + 0)) = _
    rw [Nat.mul_one, Nat.add_zero]
    exact h1
end Go.Proofs.Ytaagpnbnjdpjgaa.M
