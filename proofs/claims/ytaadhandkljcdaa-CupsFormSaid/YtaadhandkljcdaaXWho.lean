/- Proved here: what who, open and must return (CP) -/
import Derived.Test.YtaadhandkljcdaaX0
import Derived.Test.YtaadhandkljcdaaK
import Derived.Test.YtaadhandkljcdaaXMaps
import Derived.Test.YtaadhandkljcdaaXMeet
import Derived.Deep.Cut
import Derived.StillTailTactics
import Derived.Deep.RegionHeld3
import Derived.BigQuiet
import Derived.Defers
import Derived.Recover
import Derived.WalkSmall
namespace Go.Proofs.Ytaadhandkljcdaa.X
open Go.RowKit Go.Proofs.YtaadhandkljcdaaW.PrintWords Go.Proofs.YtaadhandkljcdaaW.PrintLast Go.Proofs.YtaadhandkljcdaaW.PrintMore
attribute [local go_sem] max2_int min2_int max_two min_two max_three min_three max_four min_four
set_option linter.unusedVariables false
set_option linter.unusedSimpArgs false
namespace CP
open Go.Proofs.Ytaadhandkljcdaa.K Go.Proofs.Ytaadhandkljcdaa.MP CM
attribute [local go_sem] Oper.semAt_some
abbrev cupC (tv : Value) (bw bg bo : Nat) : Array Value := #[tv, .map (some bw), .map (some bg), .map (some bo)]
def ints (f : Int → Option Int) : Int → Option Value := fun k => (f k).map (Value.int .i64)
/-- Who a side is. -/
def whoS (f : Int → Option Int) (s : S40) : Int × Bool := if s.f0 = 1 then (s.f1, true) else ((f s.f1).getD 0, (f s.f1).isSome)
theorem zero3 (W : World) : (zeroValue 3).run Try.prog W = .ok (.int .i64 0) W := by kernel_rfl
theorem ints_getD (f : Int → Option Int) (k : Int) : (ints f k).getD (.int .i64 0) = .int .i64 ((f k).getD 0) := by unfold ints; cases f k <;> rfl
theorem ints_isSome (f : Int → Option Int) (k : Int) : (ints f k).isSome = (f k).isSome := by unfold ints; cases f k <;> rfl
theorem heap_alloc_lt (w : World) (o : Obj) {k : Nat} (h : k < w.heap.size) : (w.alloc o).heap[k]? = w.heap[k]? := blk_old w o h
set_option maxRecDepth 100000 in
set_option maxHeartbeats 16000000 in
theorem who_calls (gc bw bg bo : Nat) (tv : Value) (f : Int → Option Int) (s : S40) (w : World) (hC : w.heap[gc]? = some (.cells (cupC tv bw bg bo) 59 (0, 0))) (hM : MapAt w bw (ints f)) :
    Calls Try.prog 37 #[.pointer (some ⟨gc, 0, none⟩), agg40 s] w fun e w' => e = .returned (.tuple #[.int .i64 (whoS f s).1, .bool (whoS f s).2]) ∧ Below w.heap.size w w' := by
  have hb1 := fun o => below_alloc (Below.refl w.heap.size w) o
  have c1 := fun o => blk_cell (blk_alloc hC o) 1
  simp only [List.getElem?_toArray, List.getElem?_cons_zero, List.getElem?_cons_succ] at c1
  go_enter Try.func37, Try.ntmps37
  by_cases hs : s.f0 = 1
  · have hm : whoS f s = (s.f1, true) := if_pos hs
    have hs2 : (s.f0 == 1) = true := by rw [beq_iff_eq]; exact hs
    rw [hm]
    have HS := Aside0.mk hs
    have HB1 := Aside0.mk hb1
    clear hs hb1
    go_wp2_with fail
    exact bodyPost_ret (v := .tuple #[.int .i64 s.f1, .bool true]) (by simp [results, Try.results37, go_sem]) rfl ⟨rfl, HB1.out _⟩
  · have hm : whoS f s = ((f s.f1).getD 0, (f s.f1).isSome) := if_neg hs
    have hs2 : (s.f0 == 1) = false := by rw [beq_eq_false_iff_ne]; exact hs
    rw [hm]
    have HS := Aside0.mk hs
    have HB1 := Aside0.mk hb1
    have hM1 := MapAt.of_block (W' := w.alloc (.cells #[.int .i64 s.f0, .int .i64 s.f1, .int .i64 s.f2] 40)) hM (heap_alloc_lt w _ hM.lt)
    have hlk : ∀ k, (Instr.lookup 56 (.map (some bw)) (.int .i64 s.f1) true).run Try.prog ((w.alloc (.cells #[.int .i64 s.f0, .int .i64 s.f1, .int .i64 s.f2] 40)).drewN k) = .ok (.tuple #[.int .i64 ((f s.f1).getD 0), .bool (f s.f1).isSome]) ((w.alloc (.cells #[.int .i64 s.f0, .int .i64 s.f1, .int .i64 s.f2] 40)).drewN k) := fun k => by
      have h := MapAt.look (P := Try.prog) (t := 56) Try.underlying56 Try.underlying3 (MapAt.of_block (W' := (w.alloc (.cells #[.int .i64 s.f0, .int .i64 s.f1, .int .i64 s.f2] 40)).drewN k) hM1 rfl) (zero3 _) s.f1 true
      rw [h, ints_getD, ints_isSome]
      rfl
    clear hs hb1 hM1
    go_wp2_with fail
    go_quiet (fail)
    go_wp2_with fail
    exact bodyPost_ret (v := .tuple #[.int .i64 ((f s.f1).getD 0), .bool (f s.f1).isSome]) (by simp [results, Try.results37, go_sem]) rfl ⟨rfl, pw_below_drewN (HB1.out _) _⟩
/-- A tie's entrants, where it can be played. -/
def openS (f : Int → Option Int) (t : S42) (i : Int) : Int × Int × Bool := if (f i).isSome = true then (0, 0, false) else ((whoS f t.f1).1, (whoS f t.f2).1, (whoS f t.f1).2 && (whoS f t.f2).2)
theorem own_some {w : World} {base n : Nat} {e : TypeId} {size : Nat} {v : Value} {xs : List Value} (h : w.ownsRow base e size v n xs) (hn : 0 < n) : ∃ g c, v = .slice (some ⟨g, 0, none⟩) n c ∧ base ≤ g ∧ g < w.heap.size := by
  rcases h.2 with ⟨_, h1⟩ | ⟨g, cap, cur, rfl, hb, hh, _⟩
  · omega
  · exact ⟨g, cap, rfl, hb, (Array.getElem?_eq_some_iff.1 hh).1⟩
theorem own_cell1 {W : World} {base g n cap : Nat} {e : TypeId} {size : Nat} {xs : List Value} (h : W.ownsRow base e size (.slice (some ⟨g, 0, none⟩) n cap) n xs) (j : Nat) {u : Value} (hu : xs[j]? = some u) : W.cell? ⟨g, j, none⟩ = some u := by
  have hc := h.cells (g := g) rfl j u hu
  rwa [add_plain] at hc
theorem enc42_at : ∀ {ts : List S42} {i : Nat} (hi : i < ts.length) (q : Nat), q < 7 → (ts.flatMap enc42)[i * 7 + q]? = (enc42 ts[i])[q]?
  | [], _, hi, _, _ => by simp at hi
  | a :: l, 0, _, q, hq => by
    rw [List.flatMap_cons, List.getElem?_append_left (by simp [enc42, enc40]; omega)]
    simp
  | a :: l, i + 1, hi, q, hq => by
    have h := enc42_at (ts := l) (i := i) (by simpa using hi) q hq
    rw [show (i + 1) * 7 + q = 7 + (i * 7 + q) by omega, List.flatMap_cons, List.getElem?_append_right (by simp [enc42, enc40])]
    rw [show 7 + (i * 7 + q) - (enc42 a).length = i * 7 + q by simp [enc42, enc40], h]
    rfl
theorem tie_cells {W : World} {base g cap : Nat} {ts : List S42} (h : W.ownsRow base 42 7 (.slice (some ⟨g, 0, none⟩) ts.length cap) ts.length (ts.flatMap enc42)) {i : Nat} (hi : i < ts.length) :
    (W.cell? ⟨g, i * 7 + 1, none⟩ = some (.int .i64 ts[i].f1.f0) ∧ W.cell? ⟨g, i * 7 + 1 + 1, none⟩ = some (.int .i64 ts[i].f1.f1) ∧ W.cell? ⟨g, i * 7 + 1 + 2, none⟩ = some (.int .i64 ts[i].f1.f2)) ∧
      (W.cell? ⟨g, i * 7 + 4, none⟩ = some (.int .i64 ts[i].f2.f0) ∧ W.cell? ⟨g, i * 7 + 4 + 1, none⟩ = some (.int .i64 ts[i].f2.f1) ∧ W.cell? ⟨g, i * 7 + 4 + 2, none⟩ = some (.int .i64 ts[i].f2.f2)) :=
  ⟨⟨own_cell1 h _ (enc42_at hi 1 (by omega)), own_cell1 h _ (enc42_at hi 2 (by omega)), own_cell1 h _ (enc42_at hi 3 (by omega))⟩,
    own_cell1 h _ (enc42_at hi 4 (by omega)), own_cell1 h _ (enc42_at hi 5 (by omega)), own_cell1 h _ (enc42_at hi 6 (by omega))⟩
set_option maxRecDepth 100000 in
set_option maxHeartbeats 16000000 in
theorem open_calls (gc bw bg bo base : Nat) (tv : Value) (f : Int → Option Int) (ts : List S42) (i : Nat) (hi : i < ts.length) (w : World) (hC : w.heap[gc]? = some (.cells (cupC tv bw bg bo) 59 (0, 0))) (hM : MapAt w bw (ints f))
    (hT : w.ownsRow base 42 7 tv ts.length (ts.flatMap enc42)) :
    Calls Try.prog 30 #[.pointer (some ⟨gc, 0, none⟩), .int .i64 (i : Int)] w fun e w' => e = .returned (.tuple #[.int .i64 (openS f ts[i] i).1, .int .i64 (openS f ts[i] i).2.1, .bool (openS f ts[i] i).2.2]) ∧ Below w.heap.size w w' := by
  obtain ⟨g, cap, rfl, hg, hg2⟩ := own_some hT (by omega)
  have c0 := blk_cell hC 0
  have c1 := blk_cell hC 1
  simp only [List.getElem?_toArray, List.getElem?_cons_zero, List.getElem?_cons_succ] at c0 c1
  have hlk : (Instr.lookup 56 (.map (some bw)) (.int .i64 (i : Int)) true).run Try.prog w = .ok (.tuple #[.int .i64 ((f i).getD 0), .bool (f i).isSome]) w := by
    have h := MapAt.look (P := Try.prog) (t := 56) Try.underlying56 Try.underlying3 hM (zero3 _) (i : Int) true
    rw [h, ints_getD, ints_isSome]
    rfl
  obtain ⟨x, hx⟩ : ∃ x, ts[i] = x := ⟨_, rfl⟩
  obtain ⟨⟨a0, a1, a2⟩, a4, a5, a6⟩ := tie_cells hT hi
  rw [hx] at a0 a1 a2 a4 a5 a6 ⊢
  have A4 := Aside0.mk a4
  have A5 := Aside0.mk a5
  have A6 := Aside0.mk a6
  have HC := Aside0.mk hC
  clear a4 a5 a6 hC
  go_enter Try.func30, Try.ntmps30
  cases hf : (f i).isSome
  · have hm : openS f x i = ((whoS f x.f1).1, (whoS f x.f2).1, (whoS f x.f1).2 && (whoS f x.f2).2) := by unfold openS; rw [hf]; rfl
    rw [hm]
    go_wp2_with fail
    refine (who_calls gc bw bg bo _ f x.f1 w HC.out hM).mono ?_
    rintro e w1 ⟨rfl, hb1⟩
    have b4 := pw_cell_below hb1 A4.out
    have b5 := pw_cell_below hb1 A5.out
    have b6 := pw_cell_below hb1 A6.out
    have d0 := pw_cell_below hb1 c0
    have hC1 : w1.heap[gc]? = _ := (hb1.block gc (blk_lt HC.out)).trans HC.out
    have hM1 : MapAt w1 bw (ints f) := hM.of_block (hb1.block bw hM.lt)
    have HB1 := Aside0.mk hb1
    have HC1 := Aside0.mk hC1
    clear hb1 hC1
    go_wp2_with fail
    refine (who_calls gc bw bg bo _ f x.f2 w1 HC1.out hM1).mono ?_
    rintro e w2 ⟨rfl, hb2⟩
    have HB2 := Aside0.mk (below_then HB1.out HB1.out.size hb2)
    clear hb2
    cases hq : (whoS f x.f1).2
    · go_wp2_with fail
      exact bodyPost_ret (v := .tuple #[.int .i64 (whoS f x.f1).1, .int .i64 (whoS f x.f2).1, .bool false]) (by simp [results, Try.results30, go_sem]) rfl ⟨rfl, HB2.out⟩
    · go_wp2_with fail
      exact bodyPost_ret (v := .tuple #[.int .i64 (whoS f x.f1).1, .int .i64 (whoS f x.f2).1, .bool (whoS f x.f2).2]) (by simp [results, Try.results30, go_sem]) rfl ⟨rfl, HB2.out⟩
  · have hm : openS f x i = (0, 0, false) := by unfold openS; rw [hf]; rfl
    rw [hm]
    go_wp2_with fail
    exact bodyPost_ret (v := .tuple #[.int .i64 0, .int .i64 0, .bool false]) (by simp [results, Try.results30, go_sem]) rfl ⟨rfl, Below.refl _ _⟩
/-- What 'must' throws. -/
abbrev errCup : Value := .iface 23 (.int .i64 230)
set_option maxRecDepth 100000 in
theorem must_ok (w : World) : Calls Try.prog 36 #[.bool true] w fun e w' => e = .returned (.tuple #[]) ∧ w' = w := by
  go_enter Try.func36, Try.ntmps36
  go_wp2_with fail
  exact bodyPost_end (v := .tuple #[]) (by simp [results, Try.results36, go_sem]) rfl ⟨rfl, rfl⟩
set_option maxRecDepth 100000 in
theorem must_not (w : World) : Calls Try.prog 36 #[.bool false] w fun e w' => e = .panicked [{ v := errCup, recovered := false }] ∧ w' = w := by
  go_enter Try.func36, Try.ntmps36
  go_wp2_with fail
  exact ⟨rfl, rfl, rfl⟩
end CP
end Go.Proofs.Ytaadhandkljcdaa.X
