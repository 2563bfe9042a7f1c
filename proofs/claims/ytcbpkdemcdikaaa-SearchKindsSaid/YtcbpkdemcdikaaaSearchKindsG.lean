/- Proved here: parts of the walk and of the plain law of SearchKinds, put into one text (names and lines made short by a program). -/
import Derived.Deep.SlicePairs
import Derived.SizedLaws
import Derived.Test.YtcbpkdemcdikaaaSearchKindsC
namespace Go.Proofs.Ytcbpkdemcdikaaa.O
open Go.RowKit Go.Deep Go.ChangeShapes Go.WideShapes Go.Proofs.YtcbpkdemcdikaaaW.PrintWords Go.Proofs.YtcbpkdemcdikaaaW.PrintMore
def Opn {α : Type} (N : Nat) (P : Program) (d : Kd α) (t : TypeId) (Z : α → Prop) : Prop :=
  P.cellsOf t = d.sz ∧ ∀ {H : Type} (enc : TypeId × Value → H) (W : World) (base : Nat) (held : Bool) (fuel : Nat) (cs : List Value) (x : DataW H × List MemPlace),
    fuel ≤ N → DataW.trod enc P W base (fun _ => true) held fuel t cs = some x → (∀ n ∈ x.1.weights P t, n ≤ 140737488351232) → ∃ a : α, d.K W a cs ∧ Z a
theorem opn_int {P : Program} {t : TypeId} {k : IntKind} (hu : P.underlying t = some (.int k)) (hc : P.cellsOf t = 1) (N : Nat) : Opn N P (Kd.int k) t (fun a => (Lit.int k a).wf = true) := by
  refine ⟨hc, fun enc W base held fuel cs x _ h _ => ?_⟩
  obtain ⟨n, e1, e2, e3⟩ := DataW.trod_int hu h
  exact ⟨n, e1, by simpa using e3⟩
theorem fU {H : Type} {P : Program} {e : TypeId} : ∀ {l : List (DataW H)} {d : DataW H}, d ∈ l → ∀ n ∈ d.weights P e, n ∈ DataW.weightsAll P e l
  | [], _, h, _, _ => by cases h
  | a :: l, d, h, n, hn => by
    simp only [DataW.weightsAll, List.mem_append]
    rcases List.mem_cons.1 h with rfl | h
    · exact .inl hn
    · exact .inr (fU h n hn)
theorem opn_le {α : Type} {P : Program} {d : Kd α} {t : TypeId} {Z : α → Prop} {N M : Nat} (h : Opn N P d t Z) (hm : M ≤ N) : Opn M P d t Z :=
  ⟨h.1, fun enc W base held fuel cs x hf => h.2 enc W base held fuel cs x (by omega)⟩
theorem fT {α : Type} [Inhabited α] {N : Nat} {P : Program} {d : Kd α} {t e : TypeId} {Z : α → Prop} {by_ : Nat} (ht : P.underlying t = some (.slice e)) (hc : P.cellsOf t = 1) (hb : P.bytesOf e = by_) (ho : Opn N P d e Z) :
    Opn (N + 1) P (Kd.slice e d) t (fun l => l.length * by_ ≤ 140737488351232 ∧ ∀ x ∈ l, Z x) := by
  refine ⟨hc, fun enc W base held fuel cs x hf h hz => ?_⟩
  rcases DataW.trod_slice ht h with ⟨hcs, _⟩ | ⟨a, len, cap, elems, rest, n, hn, hcs, hx, _, hl, hm, hlen, hel, _, _⟩
  · exact ⟨[], ⟨none, 0, by rw [hcs]; rfl, Nat.le_refl _, ⟨rfl, by simp, fun h => by simp at h⟩⟩, by simp, fun x hx => by cases hx⟩
  · have hd : x.1 = .slice (elems.map (·.1)) (rest.map (·.1)) := by rw [hx]
    have hwi : ∀ y ∈ elems, ∀ n ∈ y.1.weights P e, n ≤ 140737488351232 := fun y hy n hn => by
      refine hz n ?_
      rw [hd]
      simp only [DataW.weights, ht, List.mem_cons, List.mem_append]
      right
      left
      exact fU (List.mem_map.2 ⟨y, hy, rfl⟩) n hn
    have each : ∀ i, i < len → ∃ q : α, (∃ c, d.K W q c ∧ ∀ j u, c[j]? = some u → W.cell? (a.add (i * d.sz + j)) = some u) ∧ Z q := by
      intro i hi
      have h0 := hel i hi
      rw [List.getElem?_eq_getElem (by omega)] at h0
      obtain ⟨cs', h1, h2⟩ := Option.bind_eq_some_iff.1 h0
      obtain ⟨q, hK, hZ⟩ := ho.2 enc W base held n cs' _ (by omega) h2 (hwi _ (List.getElem_mem _))
      rw [ho.1] at h1
      obtain ⟨_, hlen', hcell⟩ := World.cells?_some h1
      refine ⟨q, ⟨cs', hK, fun j u hu => ?_⟩, hZ⟩
      obtain ⟨hjl, rfl⟩ := List.getElem?_eq_some_iff.1 hu
      have := hcell j (by omega)
      rw [Go.Deep.add_add] at this
      rw [this]
      simp [hjl]
    obtain ⟨q, hq⟩ := choose_lt each
    have hl40 : len * by_ ≤ 140737488351232 := by
      have h1 := hz ((elems.length + rest.length) * by_) (by rw [hd]; simp [DataW.weights, ht, hb])
      have h2 : len * by_ ≤ (elems.length + rest.length) * by_ := Nat.mul_le_mul_right _ (by omega)
      omega
    refine ⟨(List.range len).map q, ⟨some a, cap, by rw [hcs]; simp, by simpa using hl, ⟨rfl, by simp only [maxLen] at hm; simp; omega, fun hp => ⟨a, rfl, fun j p hj => ?_⟩⟩⟩, by simpa using hl40, fun x hx => ?_⟩
    · rw [List.getElem?_map] at hj
      obtain ⟨r, hr1, rfl⟩ := Option.map_eq_some_iff.1 hj
      obtain ⟨hjl, rfl⟩ := List.getElem?_eq_some_iff.1 hr1
      simp only [List.getElem_range, List.length_range] at hjl ⊢
      obtain ⟨⟨c, h1, h2⟩, _⟩ := hq j hjl
      exact ⟨c, d.K_len h1, h1, h2⟩
    · obtain ⟨j, hj, rfl⟩ := List.mem_map.1 hx
      exact (hq j (List.mem_range.1 hj)).2
def OpnF {α : Type} (N : Nat) (P : Program) (d : Kd α) (fs : List Field) (off : Nat) (Z : α → Prop) : Prop := True ∧
  ∀ {H : Type} (enc : TypeId × Value → H) (W : World) (base : Nat) (held : Bool) (fuel : Nat) (cs : List Value), fuel ≤ N → cs.length = off + d.sz →
    (∀ (i : Nat) (f : Field), fs[i]? = some f → ∃ y : DataW H × List MemPlace, DataW.trod enc P W base (fun _ => true) held fuel f.type ((cs.drop f.offset).take (P.cellsOf f.type)) = some y ∧ ∀ n ∈ y.1.weights P f.type, n ≤ 140737488351232) →
    ∃ a : α, d.K W a (cs.drop off) ∧ Z a
theorem opnF_one {α : Type} {N : Nat} {P : Program} {d : Kd α} {f : Field} {off : Nat} {Z : α → Prop} (ho : Opn N P d f.type Z) (hf : f.offset = off) : OpnF N P d [f] off Z := by
  refine ⟨trivial, fun {H} enc W base held fuel cs hfu hl h => ?_⟩
  obtain ⟨y, h1, h2⟩ := h 0 f rfl
  rw [hf, ho.1, List.take_of_length_le (by rw [List.length_drop]; omega)] at h1
  exact ho.2 enc W base held fuel _ y hfu h1 h2
theorem eF {α β : Type} {N : Nat} {P : Program} {d : Kd α} {d2 : Kd β} {f : Field} {fs : List Field} {off : Nat} {Z : α → Prop} {Z2 : β → Prop} (ho : Opn N P d f.type Z) (hf : f.offset = off) (h2 : OpnF N P d2 fs (off + d.sz) Z2) :
    OpnF N P (Kd.pair d d2) (f :: fs) off (fun a => Z a.1 ∧ Z2 a.2) := by
  refine ⟨trivial, fun {H} enc W base held fuel cs hfu hl h => ?_⟩
  have hl' : cs.length = off + (d.sz + d2.sz) := hl
  obtain ⟨y, g1, g2⟩ := h 0 f rfl
  rw [hf, ho.1] at g1
  obtain ⟨a, hK, hZ⟩ := ho.2 enc W base held fuel _ y hfu g1 g2
  obtain ⟨b, hK2, hZ2⟩ := h2.2 enc W base held fuel cs hfu (by omega) (fun i g hg => h (i + 1) g hg)
  refine ⟨(a, b), ⟨(cs.drop off).take d.sz, cs.drop (off + d.sz), ?_, hK, hK2⟩, hZ, hZ2⟩
  rw [← List.drop_drop, List.take_append_drop]
theorem weights_each {H : Type} {P : Program} : ∀ {ts : List TypeId} {ds : List (DataW H)} {i : Nat} {t : TypeId} {d : DataW H}, ts[i]? = some t → ds[i]? = some d → ∀ n ∈ d.weights P t, n ∈ DataW.weightsEach P ts ds := DataW.weights_mem_each
theorem opn_struct {α β : Type} {N : Nat} {P : Program} {d : Kd α} {t : TypeId} {fs : Array Field} {Z : α → Prop} (g : β → α) (hg : ∀ a, ∃ b, g b = a) (ht : P.underlying t = some (.struct fs)) (hc : P.cellsOf t = d.sz) (h : OpnF N P d fs.toList 0 Z) :
    Opn (N + 1) P (Kd.iso d g) t (fun b => Z (g b)) := by
  refine ⟨hc, fun {H} enc W base held fuel cs x hfu hx hz => ?_⟩
  obtain ⟨xs, n, rfl, hxy, hlen, hxl, hf⟩ := DataW.trod_struct ht hx
  obtain ⟨a, hK, hZ⟩ := h.2 enc W base held n cs (by omega) (by rw [hlen, hc]; omega) (fun i f hfi => by
    rw [Array.getElem?_toList] at hfi
    have h1 := hf i f hfi
    have hi : i < xs.length := by
      have := (Array.getElem?_eq_some_iff.1 hfi).1
      omega
    rw [List.getElem?_eq_getElem hi] at h1
    refine ⟨xs[i], h1, fun m hm => hz m ?_⟩
    rw [hxy]
    simp only [DataW.weights, ht]
    refine weights_each (i := i) (t := f.type) (d := xs[i].1) ?_ ?_ m hm
    · simp [hfi]
    · simp [List.getElem?_eq_getElem hi])
  obtain ⟨b, rfl⟩ := hg a
  rw [List.drop_zero] at hK
  exact ⟨b, hK, hZ⟩
theorem dR {α : Type} {N : Nat} {P : Program} {d d' : Kd α} {t : TypeId} {Z Z' : α → Prop} (h : Opn N P d t Z) (hs : d.sz = d'.sz) (hd : ∀ W a cs, d.K W a cs → d'.K W a cs) (hz : ∀ a, Z a → Z' a) : Opn N P d' t Z' :=
  ⟨h.1.trans hs, fun enc W base held fuel cs x hf h1 h2 => by obtain ⟨a, h3, h4⟩ := h.2 enc W base held fuel cs x hf h1 h2; exact ⟨a, hd _ _ _ h3, hz a h4⟩⟩
end Go.Proofs.Ytcbpkdemcdikaaa.O
