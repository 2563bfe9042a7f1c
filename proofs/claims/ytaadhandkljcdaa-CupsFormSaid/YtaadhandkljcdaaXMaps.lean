/- Proved here: laws of the model's map operations (look-up, update, entry and store) at a map whose keys are whole numbers of kind int, as a function from keys to values, under the conditions that each theorem names. No program in sight. -/
import Derived.MapKept
import Derived.WideKeyEntry
import Derived.Laws.AppendOwn
namespace Go.Proofs.Ytaadhandkljcdaa.MP
open Go Go.MapKept Go.WideElems
/-- The block is a map that holds just this. -/
def MapAt (W : World) (b : Nat) (f : Int → Option Value) : Prop :=
  ∃ es clock, W.heap[b]? = some (.map es clock) ∧ Stamped es clock ∧ (∀ x ∈ es.toList, IsKey (.int .i64) x.key) ∧ ∀ k v, f k = some v ↔ ∃ x ∈ es.toList, x.key = .int .i64 k ∧ x.val = v
def putF (f : Int → Option Value) (k : Int) (v : Value) : Int → Option Value := fun x => if x = k then some v else f x
theorem MapAt.of_block {W W' : World} {b : Nat} {f : Int → Option Value} (h : MapAt W b f) (hb : W'.heap[b]? = W.heap[b]?) : MapAt W' b f := by
  obtain ⟨es, clock, h1, h2⟩ := h
  exact ⟨es, clock, hb.trans h1, h2⟩
theorem MapAt.lt {W : World} {b : Nat} {f : Int → Option Value} (h : MapAt W b f) : b < W.heap.size := by
  obtain ⟨es, clock, h1, _⟩ := h
  exact (Array.getElem?_eq_some_iff.1 h1).1
theorem MapAt.new (W : World) : MapAt (W.alloc (.map #[] 0)) W.heap.size (fun _ => none) :=
  ⟨#[], 0, (heap_alloc W _).1, stamped_empty 0, by simp, fun k v => by simp⟩
theorem idx_inj {es : Array MapEntry} {clock : Nat} (hs : Stamped es clock) {i j : Nat} {x y : MapEntry} (hx : es.toList[i]? = some x) (hy : es.toList[j]? = some y) (h : x.key = y.key) : i = j := by
  have h3 := List.pairwise_iff_getElem.1 ((stamped_iff es clock).1 hs).2.2
  obtain ⟨hi, rfl⟩ := List.getElem?_eq_some_iff.1 hx
  obtain ⟨hj, rfl⟩ := List.getElem?_eq_some_iff.1 hy
  rcases Nat.lt_trichotomy i j with h4 | h4 | h4
  · exact absurd h (h3 i j hi hj h4)
  · exact h4
  · exact absurd h.symm (h3 j i hj hi h4)
theorem found {es : Array MapEntry} {f : Int → Option Value} (hf : ∀ k v, f k = some v ↔ ∃ x ∈ es.toList, x.key = .int .i64 k ∧ x.val = v) {k : Int} {j : Nat} {e : MapEntry} (h : es.toList[j]? = some e) (hk : e.key = .int .i64 k) : f k = some e.val :=
  (hf k e.val).2 ⟨e, List.mem_of_getElem? h, hk, rfl⟩
theorem absent {es : Array MapEntry} {f : Int → Option Value} (hf : ∀ k v, f k = some v ↔ ∃ x ∈ es.toList, x.key = .int .i64 k ∧ x.val = v) {k : Int} (h : ∀ x ∈ es.toList, x.key ≠ .int .i64 k) : f k = none := by
  cases hq : f k with
  | none => rfl
  | some v =>
    obtain ⟨x, hx, hk, _⟩ := (hf k v).1 hq
    exact absurd hk (h x hx)
variable {P : Program} {W : World} {t kt et : TypeId} {b : Nat} {f : Int → Option Value}
theorem MapAt.look (hm : P.underlying t = some (.map kt et)) (hd : P.underlying kt = some (.int .i64)) (h : MapAt W b f) {z : Value} (hz : (zeroValue et).run P W = .ok z W) (k : Int) (c : Bool) :
    (Instr.lookup t (.map (some b)) (.int .i64 k) c).run P W = .ok (if c then .tuple #[(f k).getD z, .bool (f k).isSome] else (f k).getD z) W := by
  obtain ⟨es, clock, hb, hs, hks, hf⟩ := h
  have hk : IsKey (.int .i64) (.int .i64 k) := rfl
  rcases findNow_spec hk es.toList 0 hks with ⟨h1, h2⟩ | ⟨j, e, h1, h2, h3⟩
  · rw [absent hf h2]
    simp [Instr.lookup, run_underlying hm, MapKept.run_getObj_map hb, run_checkKey hd hk, run_findKey hd h1, hz, Result.andThen]
  · rw [found hf h2 h3]
    simp [Instr.lookup, run_underlying hm, MapKept.run_getObj_map hb, run_checkKey hd hk, run_findKey hd h1, Result.andThen]
/-- The map's block set. -/
theorem set_grown {o o' : Obj} (hb : W.heap[b]? = some o) : W.grownBy { W with heap := W.heap.setIfInBounds b o' } (some b) :=
  ⟨rfl, rfl, rfl, by simp, fun k _ hk => (heap_set hb).2 k (fun e => hk (by rw [e]))⟩
theorem mem_modify {es : Array MapEntry} {j : Nat} {F : MapEntry → MapEntry} {x : MapEntry} : x ∈ (es.modify j F).toList ↔ ∃ i, (if j = i then es[i]?.map F else es[i]?) = some x := by
  constructor
  · intro h
    obtain ⟨i, hi⟩ := List.mem_iff_getElem?.1 h
    refine ⟨i, ?_⟩
    rw [← Array.getElem?_modify]
    rwa [Array.getElem?_toList] at hi
  · rintro ⟨i, hi⟩
    rw [← Array.getElem?_modify, ← Array.getElem?_toList] at hi
    exact List.mem_of_getElem? hi
theorem store_at {es : Array MapEntry} {clock : Nat} {g : Int → Option Value} (hs : Stamped es clock) {j : Nat} {e1 : MapEntry} (hj : es.toList[j]? = some e1) {k : Int} (hk : e1.key = .int .i64 k) {v : Value}
    (hg : ∀ k', k' ≠ k → ∀ v', g k' = some v' ↔ ∃ x ∈ es.toList, x.key = .int .i64 k' ∧ x.val = v') {F : MapEntry → MapEntry} (hF : (F e1).key = .int .i64 k ∧ (F e1).val = v) :
    ∀ k' v', putF g k v k' = some v' ↔ ∃ x ∈ (es.modify j F).toList, x.key = .int .i64 k' ∧ x.val = v' := by
  have hj' : es[j]? = some e1 := by simpa using hj
  intro k' v'
  unfold putF
  by_cases e : k' = k
  · subst e
    rw [if_pos rfl]
    constructor
    · intro h
      cases h
      exact ⟨F e1, mem_modify.2 ⟨j, by rw [if_pos rfl, hj']; rfl⟩, hF.1, hF.2⟩
    · rintro ⟨x, hx, hxk, hxv⟩
      obtain ⟨i, hi⟩ := mem_modify.1 hx
      by_cases hij : j = i
      · subst hij
        rw [if_pos rfl, hj'] at hi
        cases hi
        rw [← hxv, hF.2]
      · rw [if_neg hij] at hi
        have hi' : es.toList[i]? = some x := by rw [Array.getElem?_toList]; exact hi
        have := idx_inj hs hi' hj (by rw [hxk, hk])
        exact absurd this.symm hij
  · rw [if_neg e, hg k' e v']
    constructor
    · rintro ⟨x, hx, hxk, hxv⟩
      obtain ⟨i, hi⟩ := List.mem_iff_getElem?.1 hx
      have hi' : es[i]? = some x := by simpa using hi
      refine ⟨x, mem_modify.2 ⟨i, ?_⟩, hxk, hxv⟩
      by_cases hij : j = i
      · subst hij
        rw [hj'] at hi'
        cases hi'
        rw [hk] at hxk
        injection hxk with _ h
        exact absurd h.symm e
      · rw [if_neg hij]; exact hi'
    · rintro ⟨x, hx, hxk, hxv⟩
      obtain ⟨i, hi⟩ := mem_modify.1 hx
      by_cases hij : j = i
      · subst hij
        rw [if_pos rfl, hj'] at hi
        cases hi
        rw [hF.1] at hxk
        injection hxk with _ h
        exact absurd h.symm e
      · rw [if_neg hij] at hi
        exact ⟨x, List.mem_of_getElem? (i := i) (by simpa using hi), hxk, hxv⟩
theorem push_at {es : Array MapEntry} {g : Int → Option Value} (hg : ∀ k v, g k = some v ↔ ∃ x ∈ es.toList, x.key = .int .i64 k ∧ x.val = v) {k : Int} (h2 : ∀ x ∈ es.toList, x.key ≠ .int .i64 k) (v : Value) (c : Nat) :
    ∀ k' v', putF g k v k' = some v' ↔ ∃ x ∈ (es.push { key := .int .i64 k, val := v, born := c }).toList, x.key = .int .i64 k' ∧ x.val = v' := by
  intro k' v'
  unfold putF
  simp only [Array.toList_push, List.mem_append, List.mem_singleton]
  by_cases e : k' = k
  · subst e
    rw [if_pos rfl]
    constructor
    · intro h
      cases h
      exact ⟨_, .inr rfl, rfl, rfl⟩
    · rintro ⟨x, hx | rfl, hxk, hxv⟩
      · exact absurd hxk (h2 x hx)
      · exact congrArg some hxv
  · rw [if_neg e, hg k' v']
    constructor
    · rintro ⟨x, hx, h⟩
      exact ⟨x, .inl hx, h⟩
    · rintro ⟨x, hx | rfl, hxk, hxv⟩
      · exact ⟨x, hx, hxk, hxv⟩
      · injection hxk with _ h
        exact absurd h.symm e
theorem MapAt.put (hm : P.underlying t = some (.map kt et)) (hd : P.underlying kt = some (.int .i64)) (h : MapAt W b f) (k : Int) (v : Value) :
    ∃ W', (Instr.mapUpdate t (.map (some b)) (.int .i64 k) v).run P W = .ok () W' ∧ MapAt W' b (putF f k v) ∧ W.grownBy W' (some b) := by
  obtain ⟨es, clock, hb, hs, hks, hf⟩ := h
  have hk : IsKey (.int .i64) (.int .i64 k) := rfl
  rcases findNow_spec hk es.toList 0 hks with ⟨h1, h2⟩ | ⟨j, e, h1, h2, h3⟩
  · refine ⟨{ W with heap := W.heap.setIfInBounds b (.map (es.push { key := .int .i64 k, val := v, born := clock }) (clock + 1)) }, ?_, ⟨_, _, (heap_set hb).1, stamped_push hs h2, ?_, push_at hf h2 v clock⟩, set_grown hb⟩
    · simp [Instr.mapUpdate, run_underlying hm, MapKept.run_getObj_map hb, run_checkKey hd hk, run_findKey hd h1, MapKept.run_setObj_map _ hb, Result.andThen]
    · intro x hx
      simp only [Array.toList_push, List.mem_append, List.mem_singleton] at hx
      rcases hx with hx | rfl
      · exact hks x hx
      · exact hk
  · have hj : es[j]? = some e := by simpa using h2
    have hkey : ∀ e', es[j]? = some e' → ({ e' with key := .int .i64 k, val := v } : MapEntry).key = e'.key := fun e' he' => by rw [hj] at he'; cases he'; exact h3.symm
    refine ⟨{ W with heap := W.heap.setIfInBounds b (.map (es.modify j fun e => { e with key := .int .i64 k, val := v }) clock) }, ?_, ⟨_, _, (heap_set hb).1, stamped_modify hs _ _ (fun _ _ => rfl) (fun e' _ he' => hkey e' he'), isKey_modify hks _ _ hkey, store_at hs h2 h3 (fun k' _ v' => hf k' v') ⟨rfl, rfl⟩⟩, set_grown hb⟩
    simp [Instr.mapUpdate, run_underlying hm, MapKept.run_getObj_map hb, run_checkKey hd hk, run_findKey hd h1, hj, h3, run_keyThatStays hk, MapKept.run_setObj_map _ hb, Result.andThen]
theorem store_entry {W2 : World} {es : Array MapEntry} {clock : Nat} {g : Int → Option Value} (hb : W2.heap[b]? = some (.map es clock)) (hs : Stamped es clock) (hks : ∀ x ∈ es.toList, IsKey (.int .i64) x.key) {j : Nat} {e1 : MapEntry} (hj : es.toList[j]? = some e1) {k : Int} (hk : e1.key = .int .i64 k)
    (hg : ∀ k', k' ≠ k → ∀ v', g k' = some v' ↔ ∃ x ∈ es.toList, x.key = .int .i64 k' ∧ x.val = v') (v : Value) :
    ∃ W3, (Instr.entryStore t (.map (some b)) (.int .i64 (e1.born : Int)) v).run P W2 = .ok () W3 ∧ MapAt W3 b (putF g k v) ∧ W2.grownBy W3 (some b) := by
  have hidx : es.findIdx? (fun e => ((e.born : Nat) : Int) == ((e1.born : Nat) : Int)) = some j := by rw [findIdx_arr]; exact findIdx_born hs.2.1 hj
  refine ⟨{ W2 with heap := W2.heap.setIfInBounds b (.map (es.modify j fun e => { e with val := v }) clock) }, ?_, ⟨_, _, (heap_set hb).1, stamped_modify hs _ _ (fun _ _ => rfl) (fun _ _ _ => rfl), isKey_modify hks _ _ (fun _ _ => rfl), store_at hs hj hk hg ⟨hk, rfl⟩⟩, set_grown hb⟩
  simp [Instr.entryStore, MapKept.run_getObj_map hb, asInt, asIntOf, hidx, MapKept.run_setObj_map _ hb, Result.andThen]
theorem MapAt.entry (hm : P.underlying t = some (.map kt et)) (hd : P.underlying kt = some (.int .i64)) (h : MapAt W b f) {z : Value} (hz : (zeroValue et).run P W = .ok z W) (k : Int) :
    ∃ W' st old, (Instr.mapEntry t (.map (some b)) (.int .i64 k)).run P W = .ok (.tuple #[old, .int .i64 st]) W' ∧ W.grownBy W' (some b) ∧
      ∀ W2 : World, W2.heap[b]? = W'.heap[b]? → ∀ v, ∃ W3, (Instr.entryStore t (.map (some b)) (.int .i64 st) v).run P W2 = .ok () W3 ∧ MapAt W3 b (putF f k v) ∧ W2.grownBy W3 (some b) := by
  obtain ⟨es, clock, hb, hs, hks, hf⟩ := h
  have hk : IsKey (.int .i64) (.int .i64 k) := rfl
  rcases findNow_spec hk es.toList 0 hks with ⟨h1, h2⟩ | ⟨j, e, h1, h2, h3⟩
  · refine ⟨{ W with heap := W.heap.setIfInBounds b (.map (es.push { key := .int .i64 k, val := z, born := clock }) (clock + 1)) }, (clock : Int), z, ?_, set_grown hb, fun W2 h4 v => ?_⟩
    · simp [Instr.mapEntry, run_underlying hm, MapKept.run_getObj_map hb, run_checkKey hd hk, run_findKey hd h1, hz, MapKept.run_setObj_map _ hb, goInt, Result.andThen]
    · refine store_entry (e1 := { key := .int .i64 k, val := z, born := clock }) (j := es.size) (h4.trans (heap_set hb).1) (stamped_push hs h2) ?_ (by simp) rfl (fun k' hk' v' => ?_) v
      · intro x hx
        simp only [Array.toList_push, List.mem_append, List.mem_singleton] at hx
        rcases hx with hx | rfl
        · exact hks x hx
        · exact hk
      · have := push_at hf h2 z clock k' v'
        rwa [putF, if_neg hk'] at this
  · have hj : es[j]? = some e := by simpa using h2
    have hself : (es.modify j fun e => { e with key := .int .i64 k }) = es := by
      apply Array.ext_getElem?
      intro i
      rw [Array.getElem?_modify]
      split
      · rename_i hji
        subst hji
        rw [hj, Option.map_some, ← h3]
      · rfl
    refine ⟨{ W with heap := W.heap.setIfInBounds b (.map es clock) }, (e.born : Int), e.val, ?_, set_grown hb, fun W2 h4 v => ?_⟩
    · simp [Instr.mapEntry, run_underlying hm, MapKept.run_getObj_map hb, run_checkKey hd hk, run_findKey hd h1, hj, h3, run_keyThatStays hk, MapKept.run_setObj_map _ hb, hself, goInt, Result.andThen]
    · exact store_entry (h4.trans (heap_set hb).1) hs hks h2 h3 (fun k' _ v' => hf k' v') v
end Go.Proofs.Ytaadhandkljcdaa.MP
