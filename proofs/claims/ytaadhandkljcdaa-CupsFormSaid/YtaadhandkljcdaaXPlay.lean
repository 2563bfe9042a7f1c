/- Proved here: what play returns for a permitted number of entrants (CQ) -/
import Derived.Test.YtaadhandkljcdaaX0
import Derived.Test.YtaadhandkljcdaaK
import Derived.Test.YtaadhandkljcdaaXMaps
import Derived.Test.YtaadhandkljcdaaXMake
import Derived.Test.YtaadhandkljcdaaXWho
import Derived.Test.YtaadhandkljcdaaXCatch
import Derived.Deep.Cut
import Derived.StillTailTactics
import Derived.Deep.RegionHeld3
import Derived.BigQuiet
import Derived.Defers
import Derived.Recover
import Derived.WalkSmall
import Derived.BigRegion
namespace Go.Proofs.Ytaadhandkljcdaa.X
open Go.RowKit Go.Proofs.YtaadhandkljcdaaW.PrintWords Go.Proofs.YtaadhandkljcdaaW.PrintLast Go.Proofs.YtaadhandkljcdaaW.PrintMore
attribute [local go_sem] max2_int min2_int max_two min_two max_three min_three max_four min_four
set_option linter.unusedVariables false
set_option linter.unusedSimpArgs false
namespace CQ
open Go.Proofs.Ytaadhandkljcdaa.K Go.Proofs.Ytaadhandkljcdaa.MP CM
attribute [local go_sem] Oper.semAt_some
/-- What a list of pairs holds at a key: the newest. -/
def look {α : Type} (l : List (Int × α)) (k : Int) : Option α := (l.find? fun p => p.1 == k).map (·.2)
/-- A tournament that is played. -/
structure PS where
  win : List (Int × Int)
  games : List (Int × Int)
  out : List (Int × Bool)
def okScore (ts : List S42) (x : S45) : Bool := decide (0 ≤ x.f0) && decide (x.f0 < (ts.length : Int)) && decide (0 ≤ x.f1) && decide (0 ≤ x.f2) && decide (x.f1 ≤ 99) && decide (x.f2 ≤ 99)
/-- One score. -/
def stepP (ts : List S42) (x : S45) (p : PS) : Option PS :=
  if okScore ts x = true then
    let o := CP.openS (look p.win) (ts.getD x.f0.toNat z42) x.f0
    if o.2.2 = true then
      let g := (look p.games x.f0).getD 0 + 1
      let q := if g.tmod 2 = 0 then (o.2.1, o.1) else (o.1, o.2.1)
      let r := if x.f1 < x.f2 then (q.2, q.1) else q
      if x.f1 = x.f2 then some ⟨p.win, (x.f0, g) :: p.games, p.out⟩ else some ⟨(x.f0, r.1) :: p.win, (x.f0, g) :: p.games, (r.2, true) :: p.out⟩
    else none
  else none
def playS (ts : List S42) : List S45 → PS → Option PS
  | [], p => some p
  | x :: xs, p => (stepP ts x p).bind fun q => playS ts xs q
def bools (f : Int → Option Bool) : Int → Option Value := fun k => (f k).map Value.bool
theorem look_ints (l : List (Int × Int)) (k v : Int) : putF (CP.ints (look l)) k (.int .i64 v) = CP.ints (look ((k, v) :: l)) := by
  funext x
  unfold putF CP.ints look
  by_cases h : x = k
  · subst h; simp
  · have h2 : (k == x) = false := by rw [beq_eq_false_iff_ne]; exact fun e => h e.symm
    rw [if_neg h]; simp [h2]
theorem look_bools (l : List (Int × Bool)) (k : Int) (v : Bool) : putF (bools (look l)) k (.bool v) = bools (look ((k, v) :: l)) := by
  funext x
  unfold putF bools look
  by_cases h : x = k
  · subst h; simp
  · have h2 : (k == x) = false := by rw [beq_eq_false_iff_ne]; exact fun e => h e.symm
    rw [if_neg h]; simp [h2]
/-- The tournament's memory. -/
structure Qt (n : Nat) (w W : World) (At : Option Addr) (ct bw : Nat) (p : PS) : Prop where
  ec : W.heap[w.heap.size]? = some (.cells #[.pointer (some ⟨bw + 1 + 1 + 1, 0, none⟩)] 53 (0, 0))
  ee : W.heap[w.heap.size + 1]? = some (.cells #[.int .i64 0] 23 (0, 0))
  eg : W.heap[bw + 1 + 1 + 1]? = some (.cells (CP.cupC (.slice At (CK.ties n).length ct) bw (bw + 1) (bw + 1 + 1)) 59 (0, 0))
  mw : MapAt W bw (CP.ints (look p.win))
  mg : MapAt W (bw + 1) (CP.ints (look p.games))
  mo : MapAt W (bw + 1 + 1) (bools (look p.out))
  ot : W.ownsRow w.heap.size 42 7 (.slice At (CK.ties n).length ct) (CK.ties n).length ((CK.ties n).flatMap enc42)
  hb : Below w.heap.size w W
  lo : w.heap.size + 2 ≤ bw
theorem Qt.again {n : Nat} {w W : World} {At : Option Addr} {ct bw : Nat} {p : PS} (h : Qt n w W At ct bw p) : Qt n w ((W.setCell ⟨w.heap.size, 0, none⟩ (.pointer (some ⟨bw + 1 + 1 + 1, 0, none⟩))).setCell ⟨w.heap.size + 1, 0, none⟩ (.int .i64 0)) At ct bw p := by
  have hlo := h.lo
  have far : ∀ {k : Nat}, k ≠ w.heap.size → k ≠ w.heap.size + 1 → ((W.setCell ⟨w.heap.size, 0, none⟩ (.pointer (some ⟨bw + 1 + 1 + 1, 0, none⟩))).setCell ⟨w.heap.size + 1, 0, none⟩ (.int .i64 0)).heap[k]? = W.heap[k]? := fun h1 h2 => (CM.set_ne h2 _).trans (CM.set_ne h1 _)
  refine ⟨?_, ?_, (far (by omega) (by omega)).trans h.eg, h.mw.of_block (far (by omega) (by omega)), h.mg.of_block (far (by omega) (by omega)), h.mo.of_block (far (by omega) (by omega)), ?_, ?_, hlo⟩
  · rw [CM.set_ne (by omega)]
    have := blk_set h.ec 0 (.pointer (some ⟨bw + 1 + 1 + 1, 0, none⟩))
    simpa using this
  · have h1 : (W.setCell ⟨w.heap.size, 0, none⟩ (.pointer (some ⟨bw + 1 + 1 + 1, 0, none⟩))).heap[w.heap.size + 1]? = _ := (CM.set_ne (by omega) _).trans h.ee
    have := blk_set h1 0 (.int .i64 0)
    simpa using this
  · exact own_setCell (own_setCell h.ot (own_ne h.ot h.ec (by decide)) _) (own_ne h.ot h.ee (by decide)) _
  · exact below_set (below_set h.hb (Nat.le_refl _)) (Nat.le_succ _)
theorem map_alloc {W : World} {b : Nat} {f : Int → Option Value} (h : MapAt W b f) (o : Obj) : MapAt (W.alloc o) b f := h.of_block (CM.blk_old W o h.lt)
theorem Qt.alloc {n : Nat} {w W : World} {At : Option Addr} {ct bw : Nat} {p : PS} (h : Qt n w W At ct bw p) (o : Obj) : Qt n w (W.alloc o) At ct bw p :=
  ⟨blk_alloc h.ec o, blk_alloc h.ee o, blk_alloc h.eg o, map_alloc h.mw o, map_alloc h.mg o, map_alloc h.mo o, h.ot.alloc o, below_alloc h.hb o, h.lo⟩
theorem Qt.below {n : Nat} {w W W' : World} {At : Option Addr} {ct bw : Nat} {p : PS} (h : Qt n w W At ct bw p) (hb : Below W.heap.size W W') : Qt n w W' At ct bw p :=
  ⟨(hb.block _ (blk_lt h.ec)).trans h.ec, (hb.block _ (blk_lt h.ee)).trans h.ee, (hb.block _ (blk_lt h.eg)).trans h.eg, h.mw.of_block (hb.block _ h.mw.lt), h.mg.of_block (hb.block _ h.mg.lt), h.mo.of_block (hb.block _ h.mo.lt),
    own_move h.ot (fun k hk => hb.block k (own_lt h.ot k hk)), below_then h.hb h.hb.size hb, h.lo⟩
theorem zero4 (W : World) : (zeroValue 4).run Try.prog W = .ok (.bool false) W := by kernel_rfl
theorem not_map {W : World} {base : Nat} {e : TypeId} {size m b : Nat} {v : Value} {xs : List Value} {f : Int → Option Value} (h : W.ownsRow base e size v m xs) (hm : MapAt W b f) : v.ownBlock ≠ some b := by
  obtain ⟨es, c, hb, _⟩ := hm
  rcases h.2 with ⟨rfl, _⟩ | ⟨g, cap, cur, rfl, _, hh, _⟩
  · simp [Value.ownBlock]
  · intro e
    obtain rfl : g = b := by simpa [Value.ownBlock] using e
    rw [hb] at hh
    cases hh
theorem Qt.games {n : Nat} {w W W' : World} {At : Option Addr} {ct bw : Nat} {p : PS} (h : Qt n w W At ct bw p) (hg : W.grownBy W' (some (bw + 1))) {q : List (Int × Int)} (hm : MapAt W' (bw + 1) (CP.ints (look q))) : Qt n w W' At ct bw ⟨p.win, q, p.out⟩ := by
  have hlo := h.lo
  have far : ∀ {k : Nat}, k < W.heap.size → k ≠ bw + 1 → W'.heap[k]? = W.heap[k]? := fun h1 h2 => hg.block _ h1 (by simpa using h2)
  exact ⟨(far (blk_lt h.ec) (by omega)).trans h.ec, (far (blk_lt h.ee) (by omega)).trans h.ee, (far (blk_lt h.eg) (by omega)).trans h.eg, h.mw.of_block (far h.mw.lt (by omega)), hm, h.mo.of_block (far h.mo.lt (by omega)),
    own_other h.ot hg (.inr (not_map h.ot h.mg)), h.hb.grown hg h.hb.size (fun k hk => by cases hk; omega), hlo⟩
theorem Qt.wins {n : Nat} {w W W' : World} {At : Option Addr} {ct bw : Nat} {p : PS} (h : Qt n w W At ct bw p) (hg : W.grownBy W' (some bw)) {q : List (Int × Int)} (hm : MapAt W' bw (CP.ints (look q))) : Qt n w W' At ct bw ⟨q, p.games, p.out⟩ := by
  have hlo := h.lo
  have far : ∀ {k : Nat}, k < W.heap.size → k ≠ bw → W'.heap[k]? = W.heap[k]? := fun h1 h2 => hg.block _ h1 (by simpa using h2)
  exact ⟨(far (blk_lt h.ec) (by omega)).trans h.ec, (far (blk_lt h.ee) (by omega)).trans h.ee, (far (blk_lt h.eg) (by omega)).trans h.eg, hm, h.mg.of_block (far h.mg.lt (by omega)), h.mo.of_block (far h.mo.lt (by omega)),
    own_other h.ot hg (.inr (not_map h.ot h.mw)), h.hb.grown hg h.hb.size (fun k hk => by cases hk; omega), hlo⟩
theorem Qt.outs {n : Nat} {w W W' : World} {At : Option Addr} {ct bw : Nat} {p : PS} (h : Qt n w W At ct bw p) (hg : W.grownBy W' (some (bw + 1 + 1))) {q : List (Int × Bool)} (hm : MapAt W' (bw + 1 + 1) (bools (look q))) : Qt n w W' At ct bw ⟨p.win, p.games, q⟩ := by
  have hlo := h.lo
  have far : ∀ {k : Nat}, k < W.heap.size → k ≠ bw + 1 + 1 → W'.heap[k]? = W.heap[k]? := fun h1 h2 => hg.block _ h1 (by simpa using h2)
  exact ⟨(far (blk_lt h.ec) (by omega)).trans h.ec, (far (blk_lt h.ee) (by omega)).trans h.ee, (far (blk_lt h.eg) (by omega)).trans h.eg, h.mw.of_block (far h.mw.lt (by omega)), h.mg.of_block (far h.mg.lt (by omega)), hm,
    own_other h.ot hg (.inr (not_map h.ot h.mo)), h.hb.grown hg h.hb.size (fun k hk => by cases hk; omega), hlo⟩
theorem map_new {W : World} {b : Nat} (h : W.heap.size = b) : MapAt (W.alloc (.map #[] 0)) b (fun _ => none) := by
  subst h
  exact MapAt.new W
theorem Qt.start {n : Nat} {w W : World} {At : Option Addr} {ct bw : Nat} (ho : W.ownsRow w.heap.size 42 7 (.slice At (CK.ties n).length ct) (CK.ties n).length ((CK.ties n).flatMap enc42)) (hb : Below w.heap.size w W) (hz : W.heap.size = bw) (hlo : w.heap.size + 2 ≤ bw)
    (hc : ((((W.alloc (.map #[] 0)).alloc (.map #[] 0)).alloc (.map #[] 0)).alloc (.cells #[.slice At (CK.ties n).length ct, .map (some bw), .map (some (bw + 1)), .map (some (bw + 1 + 1))] 59)).heap[w.heap.size]? = some (.cells #[.pointer none] 53 (0, 0)))
    (he : W.heap[w.heap.size + 1]? = some (.cells #[.int .i64 0] 23 (0, 0))) :
    Qt n w (((((W.alloc (.map #[] 0)).alloc (.map #[] 0)).alloc (.map #[] 0)).alloc (.cells #[.slice At (CK.ties n).length ct, .map (some bw), .map (some (bw + 1)), .map (some (bw + 1 + 1))] 59)).setCell ⟨w.heap.size, 0, none⟩ (.pointer (some ⟨bw + 1 + 1 + 1, 0, none⟩))) At ct bw ⟨[], [], []⟩ := by
  have m1 := map_new hz
  have m2 := map_new (W := W.alloc (.map #[] 0)) (b := bw + 1) (by simp [hz])
  have m3 := map_new (W := (W.alloc (.map #[] 0)).alloc (.map #[] 0)) (b := bw + 1 + 1) (by simp [hz])
  have far : ∀ {W' : World} {k : Nat}, k ≠ w.heap.size → (W'.setCell ⟨w.heap.size, 0, none⟩ (.pointer (some ⟨bw + 1 + 1 + 1, 0, none⟩))).heap[k]? = W'.heap[k]? := fun h => CM.set_ne h _
  refine ⟨?_, ?_, ?_, ?_, ?_, ?_, ?_, ?_, hlo⟩
  · have := blk_set hc 0 (.pointer (some ⟨bw + 1 + 1 + 1, 0, none⟩))
    simpa using this
  · rw [far (by omega)]
    exact blk_alloc (blk_alloc (blk_alloc (blk_alloc he _) _) _) _
  · rw [far (by omega)]
    exact CM.blk_at _ _ (by simp [hz])
  · exact (map_alloc (map_alloc (map_alloc m1 _) _) _).of_block (far (by omega))
  · exact (map_alloc (map_alloc m2 _) _).of_block (far (by omega))
  · exact (map_alloc m3 _).of_block (far (by omega))
  · exact own_setCell ((((ho.alloc _).alloc _).alloc _).alloc _) (own_ne ((((ho.alloc _).alloc _).alloc _).alloc _) hc (by decide)) _
  · exact below_set (below_alloc (below_alloc (below_alloc (below_alloc hb _) _) _) _) (Nat.le_refl _)
set_option maxRecDepth 100000 in
set_option maxHeartbeats 16000000 in
theorem play_good (n : Nat) (h2 : 2 ≤ n) (h64 : n ≤ 64) (A1 : Option Addr) (c1 : Nat) (l1 : List S45) (w : World) (hr1 : Kd.C k45 w A1 l1.length l1) (hc1 : l1.length ≤ c1) :
    Calls Try.prog 29 #[.int .i64 (n : Int), .slice A1 l1.length c1] w fun e w' =>
      (∃ p At ct bw, playS (CK.ties n) l1 ⟨[], [], []⟩ = some p ∧ e = .returned (.tuple #[.pointer (some ⟨bw + 1 + 1 + 1, 0, none⟩), .int .i64 0]) ∧ Qt n w w' At ct bw p) ∨ (playS (CK.ties n) l1 ⟨[], [], []⟩ = none ∧ e = .returned (.tuple #[.pointer none, .int .i64 230]) ∧ Below w.heap.size w w') := by
  have hmf : ∀ (fn : Fn) (first cap : Array Value) (w : World), (Instr.makeFunc fn first cap).run Try.prog w = .ok (.func fn first cap) w := fun _ _ _ _ => rfl
  have hmm := @run_makeMap Try.prog
  go_enter_defers Try.func29, Try.ntmps29
  go_wp2_with fail
  refine (CK.make_good n h2 h64 _).mono ?_
  rintro e w1 ⟨tv, rfl, ho1, hb1⟩
  obtain ⟨At, ct, rfl⟩ := own_slice ho1
  have e4 := (hb1.block w.heap.size (by simp; omega)).trans ((blk_old _ (.cells #[.int .i64 0] 23) (by simp)).trans (blk_new w (.cells #[.pointer none] 53)))
  have e5 := (hb1.block (w.heap.size + 1) (by simp)).trans (blk_at (w.alloc (.cells #[.pointer none] 53)) (.cells #[.int .i64 0] 23) (by simp))
  have c5 := blk_cell e5 0
  have f5 := blk_frozen e5 0
  simp only [List.getElem?_toArray, List.getElem?_cons_zero] at c5
  have e5' := blk_set e5 0 (.int .i64 0)
  simp only [List.setIfInBounds_toArray, List.set_cons_zero] at e5'
  have c5' := blk_cell e5' 0
  simp only [List.getElem?_toArray, List.getElem?_cons_zero] at c5'
  have hb1' : Below w.heap.size w w1 := (below_alloc (below_alloc (Below.refl _ _) _) _).trans (hb1.mono (by simp; omega))
  have hz1 : w.heap.size + 2 ≤ w1.heap.size := by have := hb1.size; simp at this; omega
  have E4 := Aside0.mk e4
  have E5 := Aside0.mk e5'
  have HO1 := Aside0.mk ho1
  have HB1 := Aside0.mk hb1'
  clear e4 e5 e5' ho1 hb1 hb1'
  have q4 := fun o1 o2 o3 o4 => blk_alloc (blk_alloc (blk_alloc (blk_alloc ((CM.set_ne (w := w1) (b := w.heap.size + 1) (i := 0) (k := w.heap.size) (by omega) (.int .i64 0)).trans E4.out) o1) o2) o3) o4
  have p4 := fun o1 o2 o3 o4 => blk_cell (q4 o1 o2 o3 o4) 0
  have r4 := fun o1 o2 o3 o4 => blk_frozen (q4 o1 o2 o3 o4) 0
  simp only [List.getElem?_toArray, List.getElem?_cons_zero] at p4
  have Q4 := Aside0.mk q4
  clear q4
  go_wp2_with fail
  obtain ⟨W2, hW2⟩ : ∃ W2, w1.setCell ⟨w.heap.size + 1, 0, none⟩ (.int .i64 0) = W2 := ⟨_, rfl⟩
  obtain ⟨bw, hbw⟩ : ∃ bw, w1.heap.size = bw := ⟨_, rfl⟩
  have hz2 : W2.heap.size = bw := by rw [← hW2, ← hbw]; simp
  have q4 := Q4.out
  have e5 := E5.out
  have ho2 := own_setCell HO1.out (p := ⟨w.heap.size + 1, 0, none⟩) (fun e => by have := own_base HO1.out _ e.symm; simp at this; omega) (.int .i64 0)
  have hb2 : Below w.heap.size w W2 := by rw [← hW2]; exact below_set HB1.out (by omega)
  rw [hW2] at q4 e5 ho2 ⊢
  rw [hbw] at hz1 ⊢
  have hst := Qt.start (n := n) (At := At) (ct := ct) (own_weaken ho2 (by simp; omega)) hb2 hz2 hz1 (q4 _ _ _ _) e5
  obtain ⟨W3, hW3⟩ : ∃ W3, ((((W2.alloc (.map #[] 0)).alloc (.map #[] 0)).alloc (.map #[] 0)).alloc (.cells #[.slice At (CK.ties n).length ct, .map (some bw), .map (some (bw + 1)), .map (some (bw + 1 + 1))] 59)).setCell ⟨w.heap.size, 0, none⟩ (.pointer (some ⟨bw + 1 + 1 + 1, 0, none⟩)) = W3 := ⟨_, rfl⟩
  rw [hW3] at hst ⊢
  have HST := Aside0.mk hst
  have HMM := Aside0.mk hmm
  have HR1 := Aside0.mk hr1
  clear hW2 hW3 hbw hz2 q4 e5 ho2 hb2 hst p4 r4 Q4 E4 E5 HO1 HB1 f5 c5 c5' hmf hmm hr1
  refine wp_loop_ghost_k (fun m a W => ∃ (i : Nat) (p : PS) (u : Nat → Value), m = l1.length - i ∧ i ≤ l1.length ∧ playS (CK.ties n) l1 ⟨[], [], []⟩ = playS (CK.ties n) (l1.drop i) p ∧ (∀ k, 0 ≤ (look p.games k).getD 0 ∧ (look p.games k).getD 0 ≤ (i : Int)) ∧ Qt n w W At ct bw p ∧ a = { tmps := List.toArray (u 0 :: (.slice A1 l1.length c1 : Value) :: u 2 :: u 3 :: (.pointer (some ⟨w.heap.size, 0, none⟩) : Value) :: (.pointer (some ⟨w.heap.size + 1, 0, none⟩) : Value) :: (.slice At (CK.ties n).length ct : Value) :: u 7 :: u 8 :: u 9 :: u 10 :: u 11 :: u 12 :: u 13 :: u 14 :: u 15 :: u 16 :: u 17 :: u 18 :: u 19 :: u 20 :: u 21 :: u 22 :: u 23 :: u 24 :: u 25 :: u 26 :: (.slice A1 l1.length c1 : Value) :: (.int .i64 (l1.length : Int) : Value) :: (.int .i64 (i : Int) : Value) :: u 30 :: u 31 :: u 32 :: u 33 :: u 34 :: u 35 :: u 36 :: u 37 :: u 38 :: u 39 :: u 40 :: u 41 :: u 42 :: u 43 :: u 44 :: u 45 :: u 46 :: u 47 :: u 48 :: u 49 :: u 50 :: u 51 :: u 52 :: u 53 :: u 54 :: u 55 :: u 56 :: u 57 :: u 58 :: u 59 :: u 60 :: u 61 :: u 62 :: u 63 :: u 64 :: u 65 :: u 66 :: u 67 :: u 68 :: u 69 :: u 70 :: u 71 :: u 72 :: u 73 :: u 74 :: u 75 :: u 76 :: u 77 :: u 78 :: u 79 :: u 80 :: u 81 :: u 82 :: u 83 :: u 84 :: u 85 :: u 86 :: u 87 :: u 88 :: u 89 :: u 90 :: u 91 :: u 92 :: u 93 :: u 94 :: u 95 :: u 96 :: u 97 :: u 98 :: u 99 :: u 100 :: u 101 :: u 102 :: u 103 :: u 104 :: u 105 :: u 106 :: u 107 :: u 108 :: u 109 :: u 110 :: u 111 :: u 112 :: u 113 :: u 114 :: u 115 :: u 116 :: u 117 :: u 118 :: []), defers := [{ target := .fn (.func 35) #[.pointer (some ⟨w.heap.size, 0, none⟩), .pointer (some ⟨w.heap.size + 1, 0, none⟩)], args := #[] }] }) l1.length ?start ?round
  case start =>
    have st : ∀ T : Array Value, T = List.toArray (T.getD 0 undef :: (.slice A1 l1.length c1 : Value) :: T.getD 2 undef :: T.getD 3 undef :: (.pointer (some ⟨w.heap.size, 0, none⟩) : Value) :: (.pointer (some ⟨w.heap.size + 1, 0, none⟩) : Value) :: (.slice At (CK.ties n).length ct : Value) :: T.getD 7 undef :: T.getD 8 undef :: T.getD 9 undef :: T.getD 10 undef :: T.getD 11 undef :: T.getD 12 undef :: T.getD 13 undef :: T.getD 14 undef :: T.getD 15 undef :: T.getD 16 undef :: T.getD 17 undef :: T.getD 18 undef :: T.getD 19 undef :: T.getD 20 undef :: T.getD 21 undef :: T.getD 22 undef :: T.getD 23 undef :: T.getD 24 undef :: T.getD 25 undef :: T.getD 26 undef :: (.slice A1 l1.length c1 : Value) :: (.int .i64 (l1.length : Int) : Value) :: (.int .i64 0 : Value) :: T.getD 30 undef :: T.getD 31 undef :: T.getD 32 undef :: T.getD 33 undef :: T.getD 34 undef :: T.getD 35 undef :: T.getD 36 undef :: T.getD 37 undef :: T.getD 38 undef :: T.getD 39 undef :: T.getD 40 undef :: T.getD 41 undef :: T.getD 42 undef :: T.getD 43 undef :: T.getD 44 undef :: T.getD 45 undef :: T.getD 46 undef :: T.getD 47 undef :: T.getD 48 undef :: T.getD 49 undef :: T.getD 50 undef :: T.getD 51 undef :: T.getD 52 undef :: T.getD 53 undef :: T.getD 54 undef :: T.getD 55 undef :: T.getD 56 undef :: T.getD 57 undef :: T.getD 58 undef :: T.getD 59 undef :: T.getD 60 undef :: T.getD 61 undef :: T.getD 62 undef :: T.getD 63 undef :: T.getD 64 undef :: T.getD 65 undef :: T.getD 66 undef :: T.getD 67 undef :: T.getD 68 undef :: T.getD 69 undef :: T.getD 70 undef :: T.getD 71 undef :: T.getD 72 undef :: T.getD 73 undef :: T.getD 74 undef :: T.getD 75 undef :: T.getD 76 undef :: T.getD 77 undef :: T.getD 78 undef :: T.getD 79 undef :: T.getD 80 undef :: T.getD 81 undef :: T.getD 82 undef :: T.getD 83 undef :: T.getD 84 undef :: T.getD 85 undef :: T.getD 86 undef :: T.getD 87 undef :: T.getD 88 undef :: T.getD 89 undef :: T.getD 90 undef :: T.getD 91 undef :: T.getD 92 undef :: T.getD 93 undef :: T.getD 94 undef :: T.getD 95 undef :: T.getD 96 undef :: T.getD 97 undef :: T.getD 98 undef :: T.getD 99 undef :: T.getD 100 undef :: T.getD 101 undef :: T.getD 102 undef :: T.getD 103 undef :: T.getD 104 undef :: T.getD 105 undef :: T.getD 106 undef :: T.getD 107 undef :: T.getD 108 undef :: T.getD 109 undef :: T.getD 110 undef :: T.getD 111 undef :: T.getD 112 undef :: T.getD 113 undef :: T.getD 114 undef :: T.getD 115 undef :: T.getD 116 undef :: T.getD 117 undef :: T.getD 118 undef :: []) → ∃ (i : Nat) (p : PS) (u : Nat → Value), l1.length = l1.length - i ∧ i ≤ l1.length ∧ playS (CK.ties n) l1 ⟨[], [], []⟩ = playS (CK.ties n) (l1.drop i) p ∧ (∀ k, 0 ≤ (look p.games k).getD 0 ∧ (look p.games k).getD 0 ≤ (i : Int)) ∧ Qt n w W3 At ct bw p ∧ (Act.mk T [{ target := .fn (.func 35) #[.pointer (some ⟨w.heap.size, 0, none⟩), .pointer (some ⟨w.heap.size + 1, 0, none⟩)], args := #[] }]) = { tmps := List.toArray (u 0 :: (.slice A1 l1.length c1 : Value) :: u 2 :: u 3 :: (.pointer (some ⟨w.heap.size, 0, none⟩) : Value) :: (.pointer (some ⟨w.heap.size + 1, 0, none⟩) : Value) :: (.slice At (CK.ties n).length ct : Value) :: u 7 :: u 8 :: u 9 :: u 10 :: u 11 :: u 12 :: u 13 :: u 14 :: u 15 :: u 16 :: u 17 :: u 18 :: u 19 :: u 20 :: u 21 :: u 22 :: u 23 :: u 24 :: u 25 :: u 26 :: (.slice A1 l1.length c1 : Value) :: (.int .i64 (l1.length : Int) : Value) :: (.int .i64 (i : Int) : Value) :: u 30 :: u 31 :: u 32 :: u 33 :: u 34 :: u 35 :: u 36 :: u 37 :: u 38 :: u 39 :: u 40 :: u 41 :: u 42 :: u 43 :: u 44 :: u 45 :: u 46 :: u 47 :: u 48 :: u 49 :: u 50 :: u 51 :: u 52 :: u 53 :: u 54 :: u 55 :: u 56 :: u 57 :: u 58 :: u 59 :: u 60 :: u 61 :: u 62 :: u 63 :: u 64 :: u 65 :: u 66 :: u 67 :: u 68 :: u 69 :: u 70 :: u 71 :: u 72 :: u 73 :: u 74 :: u 75 :: u 76 :: u 77 :: u 78 :: u 79 :: u 80 :: u 81 :: u 82 :: u 83 :: u 84 :: u 85 :: u 86 :: u 87 :: u 88 :: u 89 :: u 90 :: u 91 :: u 92 :: u 93 :: u 94 :: u 95 :: u 96 :: u 97 :: u 98 :: u 99 :: u 100 :: u 101 :: u 102 :: u 103 :: u 104 :: u 105 :: u 106 :: u 107 :: u 108 :: u 109 :: u 110 :: u 111 :: u 112 :: u 113 :: u 114 :: u 115 :: u 116 :: u 117 :: u 118 :: []), defers := [{ target := .fn (.func 35) #[.pointer (some ⟨w.heap.size, 0, none⟩), .pointer (some ⟨w.heap.size + 1, 0, none⟩)], args := #[] }] } := fun T hT =>
      ⟨0, ⟨[], [], []⟩, fun i => T.getD i undef, rfl, Nat.zero_le _, rfl, fun k => by simp [look], HST.out, congrArg (fun T => (Act.mk T _)) hT⟩
    exact st _ rfl
  case round =>
    rintro m a W ⟨i, p, u, rfl, hi, hps, hgm, hQ, rfl⟩ J K hJ hK
    have HQ := Aside0.mk hQ
    have HPS := Aside0.mk hps
    have HGM := Aside0.mk hgm
    clear HST hps hgm
    by_cases hil : i < l1.length
    · obtain ⟨ad, rfl, k0, k1, k2⟩ := at_T45 (Kd.C_below HR1.out hQ.hb) (i : Int) (by omega) (by omega)
      obtain ⟨x, hx⟩ : ∃ x, rd_T45 l1 (i : Int) = x := ⟨_, rfl⟩
      have hx' : l1[i] = x := by rw [← hx, rd_T45, Int.toNat_natCast, List.getD_eq_getElem?_getD, List.getElem?_eq_getElem hil]; rfl
      rw [Int.toNat_natCast, hx] at k0 k1 k2
      have HX := Aside0.mk hx'
      have fin : ∀ (T : Array Value) (p' : PS) (W' : World), T = List.toArray (T.getD 0 undef :: (.slice (some ad) l1.length c1 : Value) :: T.getD 2 undef :: T.getD 3 undef :: (.pointer (some ⟨w.heap.size, 0, none⟩) : Value) :: (.pointer (some ⟨w.heap.size + 1, 0, none⟩) : Value) :: (.slice At (CK.ties n).length ct : Value) :: T.getD 7 undef :: T.getD 8 undef :: T.getD 9 undef :: T.getD 10 undef :: T.getD 11 undef :: T.getD 12 undef :: T.getD 13 undef :: T.getD 14 undef :: T.getD 15 undef :: T.getD 16 undef :: T.getD 17 undef :: T.getD 18 undef :: T.getD 19 undef :: T.getD 20 undef :: T.getD 21 undef :: T.getD 22 undef :: T.getD 23 undef :: T.getD 24 undef :: T.getD 25 undef :: T.getD 26 undef :: (.slice (some ad) l1.length c1 : Value) :: (.int .i64 (l1.length : Int) : Value) :: (.int .i64 ((i : Int) + 1) : Value) :: T.getD 30 undef :: T.getD 31 undef :: T.getD 32 undef :: T.getD 33 undef :: T.getD 34 undef :: T.getD 35 undef :: T.getD 36 undef :: T.getD 37 undef :: T.getD 38 undef :: T.getD 39 undef :: T.getD 40 undef :: T.getD 41 undef :: T.getD 42 undef :: T.getD 43 undef :: T.getD 44 undef :: T.getD 45 undef :: T.getD 46 undef :: T.getD 47 undef :: T.getD 48 undef :: T.getD 49 undef :: T.getD 50 undef :: T.getD 51 undef :: T.getD 52 undef :: T.getD 53 undef :: T.getD 54 undef :: T.getD 55 undef :: T.getD 56 undef :: T.getD 57 undef :: T.getD 58 undef :: T.getD 59 undef :: T.getD 60 undef :: T.getD 61 undef :: T.getD 62 undef :: T.getD 63 undef :: T.getD 64 undef :: T.getD 65 undef :: T.getD 66 undef :: T.getD 67 undef :: T.getD 68 undef :: T.getD 69 undef :: T.getD 70 undef :: T.getD 71 undef :: T.getD 72 undef :: T.getD 73 undef :: T.getD 74 undef :: T.getD 75 undef :: T.getD 76 undef :: T.getD 77 undef :: T.getD 78 undef :: T.getD 79 undef :: T.getD 80 undef :: T.getD 81 undef :: T.getD 82 undef :: T.getD 83 undef :: T.getD 84 undef :: T.getD 85 undef :: T.getD 86 undef :: T.getD 87 undef :: T.getD 88 undef :: T.getD 89 undef :: T.getD 90 undef :: T.getD 91 undef :: T.getD 92 undef :: T.getD 93 undef :: T.getD 94 undef :: T.getD 95 undef :: T.getD 96 undef :: T.getD 97 undef :: T.getD 98 undef :: T.getD 99 undef :: T.getD 100 undef :: T.getD 101 undef :: T.getD 102 undef :: T.getD 103 undef :: T.getD 104 undef :: T.getD 105 undef :: T.getD 106 undef :: T.getD 107 undef :: T.getD 108 undef :: T.getD 109 undef :: T.getD 110 undef :: T.getD 111 undef :: T.getD 112 undef :: T.getD 113 undef :: T.getD 114 undef :: T.getD 115 undef :: T.getD 116 undef :: T.getD 117 undef :: T.getD 118 undef :: []) → stepP (CK.ties n) x p = some p' → (∀ k, 0 ≤ (look p'.games k).getD 0 ∧ (look p'.games k).getD 0 ≤ ((i + 1 : Nat) : Int)) → Qt n w W' At ct bw p' → Handed J (l1.length - i) { tmps := T, defers := [{ target := .fn (.func 35) #[.pointer (some ⟨w.heap.size, 0, none⟩), .pointer (some ⟨w.heap.size + 1, 0, none⟩)], args := #[] }] } W' := fun T p' W' hT h1 h2 h3 =>
        ⟨l1.length - (i + 1), by omega, hJ _ _ _ ⟨i + 1, p', fun i => T.getD i undef, rfl, by omega, by rw [HPS.out, List.drop_eq_getElem_cons hil, hx', playS, h1]; rfl, h2, h3, congrArg (fun T => (Act.mk T _)) hT⟩⟩
      clear hx hx'
      have hQa := hQ.alloc (.cells #[.int .i64 x.f0, .int .i64 x.f1, .int .i64 x.f2] 45)
      have bad : ∀ (T : Array Value) (W' : World), playS (CK.ties n) l1 ⟨[], [], []⟩ = none → Qt n w W' At ct bw p → T[4]?.getD undef = .pointer (some ⟨w.heap.size, 0, none⟩) → T[5]?.getD undef = .pointer (some ⟨w.heap.size + 1, 0, none⟩) →
          bodyPostD Try.prog Try.f29 (fun e w' => (∃ p At ct bw, playS (CK.ties n) l1 ⟨[], [], []⟩ = some p ∧ e = .returned (.tuple #[.pointer (some ⟨bw + 1 + 1 + 1, 0, none⟩), .int .i64 0]) ∧ Qt n w w' At ct bw p) ∨ (playS (CK.ties n) l1 ⟨[], [], []⟩ = none ∧ e = .returned (.tuple #[.pointer none, .int .i64 230]) ∧ Below w.heap.size w w'))
            (Exit.panic [{ v := CP.errCup, recovered := false }]) { tmps := T, defers := [{ target := .fn (.func 35) #[.pointer (some ⟨w.heap.size, 0, none⟩), .pointer (some ⟨w.heap.size + 1, 0, none⟩)], args := #[] }] } W' := fun T W' hn hq h4 h5 => by
        have hne2 : w.heap.size + 1 ≠ w.heap.size := by omega
        have ee' : (W'.setCell ⟨w.heap.size, 0, none⟩ (.pointer none)).heap[w.heap.size + 1]? = _ := (CM.set_ne hne2 _).trans hq.ee
        have c0 := blk_cell hq.ec 0
        have c1 := blk_cell hq.ee 0
        have c2 := blk_cell ee' 0
        simp only [List.getElem?_toArray, List.getElem?_cons_zero] at c0 c1 c2
        have ec2 := blk_set hq.ec 0 (.pointer none)
        simp only [List.setIfInBounds_toArray, List.set_cons_zero] at ec2
        have ec3 : ((W'.setCell ⟨w.heap.size, 0, none⟩ (.pointer none)).setCell ⟨w.heap.size + 1, 0, none⟩ (.int .i64 230)).heap[w.heap.size]? = _ := (CM.set_ne (Ne.symm hne2) _).trans ec2
        have ee3 := blk_set ee' 0 (.int .i64 230)
        simp only [List.setIfInBounds_toArray, List.set_cons_zero] at ee3
        have z0 := blk_cell ec3 0
        have z1 := blk_cell ee3 0
        simp only [List.getElem?_toArray, List.getElem?_cons_zero] at z0 z1
        refine leaves_cons (f := 35) (args := #[.pointer (some ⟨w.heap.size, 0, none⟩), .pointer (some ⟨w.heap.size + 1, 0, none⟩)]) (by simp) (by simp [go_sem]) ?_
        refine (CD.catch_panicking ⟨w.heap.size, 0, none⟩ ⟨w.heap.size + 1, 0, none⟩ _ _ [] W' c0 (blk_frozen hq.ec 0) c1 (blk_frozen hq.ee 0) (by simp) c2).mono ?_
        rintro e u' w'' ⟨rfl, rfl, rfl⟩
        simp [Leaves, settle, results, Try.results29, go_sem, h4, h5, z0, z1]
        exact ⟨hn, below_set (below_set hq.hb (Nat.le_refl _)) (Nat.le_succ _)⟩
      have HQA := Aside0.mk hQa
      have BAD := Aside0.mk bad
      have hgx3 : bw + 1 + 1 + 1 < W.heap.size := blk_lt hQ.eg
      clear hQa bad
      have hpd : playS (CK.ties n) l1 ⟨[], [], []⟩ = (stepP (CK.ties n) x p).bind fun q => playS (CK.ties n) (l1.drop (i + 1)) q := by
        rw [HPS.out, List.drop_eq_getElem_cons hil, HX.out]
        rfl
      have HPD := Aside0.mk hpd
      clear hpd
      go_upto_region 9 with fail
      go_cut [] from 30 (fun wd => okScore (CK.ties n) x = true ∧ W.alloc (.cells #[.int .i64 x.f0, .int .i64 x.f1, .int .i64 x.f2] 45) = wd)
      case first =>
        by_cases hok : (0 ≤ x.f0 ∧ x.f0 < ((CK.ties n).length : Int) ∧ 0 ≤ x.f1 ∧ 0 ≤ x.f2) ∧ x.f1 ≤ 99 ∧ x.f2 ≤ 99
        · have HOK := Aside0.mk hok
          obtain ⟨⟨o1, o2, o3, o4⟩, o5, o6⟩ := hok
          have d1 : decide (x.f0 ≥ 0) = true := decide_eq_true o1
          have d3 : decide (x.f1 ≥ 0) = true := decide_eq_true o3
          have d4 : decide (x.f2 ≥ 0) = true := decide_eq_true o4
          have d5 : decide (x.f1 ≤ 99) = true := decide_eq_true o5
          have d6 : decide (x.f2 ≤ 99) = true := decide_eq_true o6
          go_wp2_with fail
          all_goals
            refine (CP.must_ok _).mono ?_
            rintro e w' ⟨rfl, rfl⟩
            go_wp2_with fail
            go_meet
            case rel => exact ⟨by simp [okScore, HOK.out], rfl⟩
        · have hn : playS (CK.ties n) l1 ⟨[], [], []⟩ = none := by
            rw [HPD.out, stepP, if_neg]
            · rfl
            · intro h
              simp only [okScore, Bool.and_eq_true, decide_eq_true_eq] at h
              exact hok ⟨⟨h.1.1.1.1.1, h.1.1.1.1.2, h.1.1.1.2, h.1.1.2⟩, h.1.2, h.2⟩
          have HN := Aside0.mk hn
          have HNOK := Aside0.mk hok
          clear hn hok
          go_wp2_with fail
          all_goals
            have hno := HNOK.out
            first
              | rw [show decide (x.f2 ≤ 99) = false from decide_eq_false (fun h => hno ⟨⟨by omega, by omega, by omega, by omega⟩, by omega, h⟩)]
              | rw [show decide (x.f1 ≤ 99) = false from decide_eq_false (fun h => hno ⟨⟨by omega, by omega, by omega, by omega⟩, h, by omega⟩)]
              | skip
            refine (CP.must_not _).mono ?_
            rintro e w' ⟨rfl, rfl⟩
            exact BAD.out _ _ HN.out HQA.out rfl rfl
      case rest =>
        obtain ⟨hok, rfl⟩ := hcut
        have hcell := blk_new W (.cells #[.int .i64 x.f0, .int .i64 x.f1, .int .i64 x.f2] 45)
        obtain ⟨Wd, hWd⟩ : ∃ Wd, W.alloc (.cells #[.int .i64 x.f0, .int .i64 x.f1, .int .i64 x.f2] 45) = Wd := ⟨_, rfl⟩
        obtain ⟨gx, hgx⟩ : ∃ gx, W.heap.size = gx := ⟨_, rfl⟩
        have hqd := HQA.out
        rw [hWd] at hcell hqd ⊢
        rw [hgx] at hcell hgx3
        have x0 := blk_cell hcell 0
        have x1 := blk_cell hcell 1
        have x2 := blk_cell hcell 2
        simp only [List.getElem?_toArray, List.getElem?_cons_zero, List.getElem?_cons_succ] at x0 x1 x2
        have pc := blk_cell hqd.ec 0
        simp only [List.getElem?_toArray, List.getElem?_cons_zero] at pc
        have hlx : x.f0.toNat < (CK.ties n).length := by
          simp only [okScore, Bool.and_eq_true, decide_eq_true_eq] at hok
          omega
        have hx0 : 0 ≤ x.f0 := by
          simp only [okScore, Bool.and_eq_true, decide_eq_true_eq] at hok
          omega
        obtain ⟨tx, htx⟩ : ∃ tx, (CK.ties n)[x.f0.toNat] = tx := ⟨_, rfl⟩
        have hopen := CP.open_calls (bw + 1 + 1 + 1) bw (bw + 1) (bw + 1 + 1) w.heap.size (.slice At (CK.ties n).length ct) (look p.win) (CK.ties n) x.f0.toNat hlx Wd hqd.eg hqd.mw hqd.ot
        rw [htx, Int.toNat_of_nonneg hx0] at hopen
        obtain ⟨⟨hm, aw, okb⟩, hop⟩ : ∃ q, CP.openS (look p.win) tx x.f0 = q := ⟨_, rfl⟩
        rw [hop] at hopen
        have HOPEN := Aside0.mk hopen
        have HOP := Aside0.mk hop
        have HTX := Aside0.mk htx
        have HOKS := Aside0.mk hok
        have HCELL := Aside0.mk hcell
        have HQD := Aside0.mk hqd
        have HGX := Aside0.mk hgx
        clear hopen hop htx hok hcell hqd hWd HQA
        go_wp2_with fail
        refine HOPEN.out.mono ?_
        rintro e w5 ⟨rfl, hb5⟩
        have hq5 := HQD.out.below hb5
        have hcell5 := (hb5.block gx (blk_lt HCELL.out)).trans HCELL.out
        have y0 := blk_cell hcell5 0
        have y1 := blk_cell hcell5 1
        have y2 := blk_cell hcell5 2
        have qc := blk_cell hq5.ec 0
        have qg := blk_cell hq5.eg 2
        simp only [List.getElem?_toArray, List.getElem?_cons_zero, List.getElem?_cons_succ] at y0 y1 y2 qc qg
        have HQ5 := Aside0.mk hq5
        have HCELL5 := Aside0.mk hcell5
        clear hb5 hq5 hcell5 HQD HCELL x0 x1 x2 pc
        cases okb
        · have hn : playS (CK.ties n) l1 ⟨[], [], []⟩ = none := by
            rw [HPD.out, stepP, if_pos HOKS.out]
            simp only [List.getD_eq_getElem?_getD, List.getElem?_eq_getElem hlx, Option.getD_some, HTX.out, HOP.out]
            rfl
          have HN := Aside0.mk hn
          clear hn
          go_wp2_with fail
          refine (CP.must_not _).mono ?_
          rintro e w' ⟨rfl, rfl⟩
          exact BAD.out _ _ HN.out HQ5.out rfl rfl
        · go_wp2_with fail
          refine (CP.must_ok _).mono ?_
          rintro e w' ⟨rfl, hw'⟩
          obtain rfl : w5 = w' := hw'.symm
          obtain ⟨G, hG⟩ : ∃ G, (look p.games x.f0).getD 0 = G := ⟨_, rfl⟩
          have hGb := HGM.out x.f0
          rw [hG] at hGb
          have hlen : (l1.length : Int) ≤ 9223372036854775807 := by have := HR1.out.2.1; omega
          have hGw := w64 (x := G + 1) (by omega) (by omega)
          have hGw' : IntKind.i64.wrap (G + 1) = G + 1 := CK.wrap_eq (by omega) (by omega)
          have hlk : (Instr.lookup 56 (.map (some (bw + 1))) (.int .i64 x.f0) false).run Try.prog w5.drew = .ok (.int .i64 G) w5.drew := by
            have h := MapAt.look (P := Try.prog) (t := 56) Try.underlying56 Try.underlying3 (MapAt.of_block (W' := w5.drew) HQ5.out.mg rfl) (CP.zero3 _) x.f0 false
            rw [h, CP.ints_getD, hG]
            rfl
          obtain ⟨W6, hput, hm6, hg6⟩ := MapAt.put (P := Try.prog) (t := 56) Try.underlying56 Try.underlying3 (MapAt.of_block (W' := w5.drew) HQ5.out.mg rfl) x.f0 (.int .i64 (G + 1))
          have HM6 := Aside0.mk hm6
          have HG6 := Aside0.mk hg6
          have HG := Aside0.mk hG
          clear hm6 hg6 hG
          go_wp2_with fail
          go_still_tail 8, (by kernel_rfl)
          change wpList _ _ _ _ _ w5.drew
          go_wp2_with fail
          have hq6 := (HQ5.out.below (below_drew (Below.refl _ _))).games HG6.out (by rw [← look_ints]; exact HM6.out)
          have hcell6 := blk_grown (w := w5.drew) (w1 := W6) (o := .cells #[.int .i64 x.f0, .int .i64 x.f1, .int .i64 x.f2] 45) HCELL5.out HG6.out (by simp; omega)
          have hlk2 : ∀ k, (Instr.lookup 56 (.map (some (bw + 1))) (.int .i64 x.f0) false).run Try.prog (W6.drewN k) = .ok (.int .i64 (G + 1)) (W6.drewN k) := fun k => by
            have h := MapAt.look (P := Try.prog) (t := 56) Try.underlying56 Try.underlying3 (MapAt.of_block (W' := W6.drewN k) hq6.mg rfl) (CP.zero3 _) x.f0 false
            rw [h, CP.ints_getD]
            simp [look]
          have y0 := blk_cell hcell6 0
          have y1 := blk_cell hcell6 1
          have y2 := blk_cell hcell6 2
          have qc := blk_cell hq6.ec 0
          have qg := blk_cell hq6.eg 2
          simp only [List.getElem?_toArray, List.getElem?_cons_zero, List.getElem?_cons_succ] at y0 y1 y2 qc qg
          have HQ6 := Aside0.mk hq6
          have HCELL6 := Aside0.mk hcell6
          clear hq6 hcell6 hput hlk HQ5 HCELL5 HM6 HG6
          have ht0 : 0 ≤ (G + 1).tmod 2 := Int.tmod_nonneg 2 (by omega)
          have ht1 : (G + 1).tmod 2 < 2 := Int.tmod_lt_of_pos (G + 1) (by decide)
          have hrw := CK.wrap_eq (n := (G + 1).tmod 2) (by omega) (by omega)
          have hrw2 := w64 (x := (G + 1).tmod 2) (by omega) (by omega)
          go_quiet (fail)
          have hq7 := HQ6.out.below (pw_below_drewN (Below.refl _ _) nq)
          have hcell7 : (W6.drewN nq).heap[gx]? = some (.cells #[.int .i64 x.f0, .int .i64 x.f1, .int .i64 x.f2] 45 (0, 0)) := HCELL6.out
          obtain ⟨W7, hW7⟩ : ∃ W7, W6.drewN nq = W7 := ⟨_, rfl⟩
          rw [hW7] at hq7 hcell7 ⊢
          clear hW7 y0 y1 y2 qc qg hlk2 HQ6 HCELL6
          have y0 := blk_cell hcell7 0
          have y1 := blk_cell hcell7 1
          have y2 := blk_cell hcell7 2
          have qc := blk_cell hq7.ec 0
          have qw := blk_cell hq7.eg 1
          have qo := blk_cell hq7.eg 3
          simp only [List.getElem?_toArray, List.getElem?_cons_zero, List.getElem?_cons_succ] at y0 y1 y2 qc qw qo
          have HQ7 := Aside0.mk hq7
          clear hq7 hcell7
          have hbd : ∀ k, 0 ≤ (look ((x.f0, G + 1) :: p.games) k).getD 0 ∧ (look ((x.f0, G + 1) :: p.games) k).getD 0 ≤ ((i + 1 : Nat) : Int) := fun k => by
            unfold look
            by_cases e : x.f0 = k
            · subst e; simp; omega
            · have h2 : (x.f0 == k) = false := by rw [beq_eq_false_iff_ne]; exact e
              have h3 := HGM.out k
              unfold look at h3
              simp [h2]; omega
          have HBD := Aside0.mk hbd
          clear hbd
          have hstep : ∀ q, (if x.f1 = x.f2 then some (⟨p.win, (x.f0, G + 1) :: p.games, p.out⟩ : PS) else some ⟨(x.f0, (if x.f1 < x.f2 then ((if (G + 1).tmod 2 = 0 then (aw, hm) else (hm, aw)).2, (if (G + 1).tmod 2 = 0 then (aw, hm) else (hm, aw)).1) else (if (G + 1).tmod 2 = 0 then (aw, hm) else (hm, aw))).1) :: p.win, (x.f0, G + 1) :: p.games, ((if x.f1 < x.f2 then ((if (G + 1).tmod 2 = 0 then (aw, hm) else (hm, aw)).2, (if (G + 1).tmod 2 = 0 then (aw, hm) else (hm, aw)).1) else (if (G + 1).tmod 2 = 0 then (aw, hm) else (hm, aw))).2, true) :: p.out⟩) = some q → stepP (CK.ties n) x p = some q := fun q h => by
            rw [← h, stepP, if_pos HOKS.out]
            simp only [List.getD_eq_getElem?_getD, List.getElem?_eq_getElem hlx, Option.getD_some, HTX.out, HOP.out, HG.out]
            rfl
          have HSTEP := Aside0.mk hstep
          clear hstep
          have pe : (G + 1) % 2 = (G + 1).tmod 2 := (Int.tmod_eq_emod_of_nonneg (by omega)).symm
          have PE := Aside0.mk pe
          clear pe
          by_cases par : (G + 1).tmod 2 = 0
          · have pf : ((G + 1).tmod 2 == 0) = true := by rw [beq_iff_eq]; exact par
            have pf' : ((G + 1) % 2 == 0) = true := by rw [PE.out]; exact pf
            rw [par] at HSTEP
            simp only [if_true] at HSTEP
            have PAR := Aside0.mk par
            clear par
            rcases Int.lt_trichotomy x.f1 x.f2 with hcmp | hcmp | hcmp
            · have k1 : decide (x.f1 < x.f2) = true := decide_eq_true hcmp
              have k2 : (x.f1 != x.f2) = true := bne_iff_ne.2 (by omega)
              have hs := HSTEP.out ⟨(x.f0, hm) :: p.win, (x.f0, G + 1) :: p.games, (aw, true) :: p.out⟩ (by rw [if_neg (by omega), if_pos hcmp])
              have HS := Aside0.mk hs
              have HCMP := Aside0.mk hcmp
              clear hs hcmp
              obtain ⟨W8, st, old, hent, hg8, hst8⟩ := MapAt.entry (P := Try.prog) (t := 56) Try.underlying56 Try.underlying3 (MapAt.of_block (W' := W7.drew) HQ7.out.mw rfl) (CP.zero3 _) x.f0
              obtain ⟨W9, hsto, hm9, hg9⟩ := hst8 W8 rfl (.int .i64 hm)
              have hq9 := (HQ7.out.below (below_drew (Below.refl _ _))).wins (hg8.trans hg9) (by rw [← look_ints]; exact hm9)
              obtain ⟨W10, st2, old2, hent2, hg10, hst10⟩ := MapAt.entry (P := Try.prog) (t := 57) Try.underlying57 Try.underlying3 hq9.mo (zero4 _) aw
              obtain ⟨W11, hsto2, hm11, hg11⟩ := hst10 W10 rfl (.bool true)
              have hq11 := hq9.outs (hg10.trans hg11) (by rw [← look_bools]; exact hm11)
              have HQ11 := Aside0.mk hq11
              have hlo := HQ7.out.lo
              have lc : w.heap.size < W7.heap.size := blk_lt HQ7.out.ec
              have lg : bw + 1 + 1 + 1 < W7.heap.size := blk_lt HQ7.out.eg
              have lx : gx < W7.heap.size := World.block_lt_of_cell? W7 _ y0
              have kp : ∀ w' : World, (∀ k, k < W7.heap.size → k ≠ bw → k ≠ bw + 1 + 1 → w'.heap[k]? = W7.heap[k]?) → (w'.cell? ⟨w.heap.size, 0, none⟩ = some (.pointer (some ⟨bw + 1 + 1 + 1, 0, none⟩)) ∧ w'.cell? ⟨bw + 1 + 1 + 1, 1, none⟩ = some (.map (some bw))) ∧ w'.cell? ⟨bw + 1 + 1 + 1, 3, none⟩ = some (.map (some (bw + 1 + 1))) ∧ w'.cell? ⟨gx, 0, none⟩ = some (.int .i64 x.f0) := fun w' h => ⟨⟨(CK.cell_same (h _ lc (by omega) (by omega)) 0).trans qc, (CK.cell_same (h _ lg (by omega) (by omega)) 1).trans qw⟩, (CK.cell_same (h _ lg (by omega) (by omega)) 3).trans qo, (CK.cell_same (h _ lx (by omega) (by omega)) 0).trans y0⟩
              have b8 : ∀ k, k < W7.heap.size → k ≠ bw → k ≠ bw + 1 + 1 → W8.heap[k]? = W7.heap[k]? := fun k hk h1 _ => hg8.block k hk (by simpa using h1)
              have hz8 : W7.heap.size ≤ W8.heap.size := hg8.size
              have b9 : ∀ k, k < W7.heap.size → k ≠ bw → k ≠ bw + 1 + 1 → W9.heap[k]? = W7.heap[k]? := fun k hk h1 h2 => (hg9.block k (by omega) (by simpa using h1)).trans (b8 k hk h1 h2)
              have hz9 : W7.heap.size ≤ W9.heap.size := Nat.le_trans hz8 hg9.size
              have b10 : ∀ k, k < W7.heap.size → k ≠ bw → k ≠ bw + 1 + 1 → W10.heap[k]? = W7.heap[k]? := fun k hk h1 h2 => (hg10.block k (by omega) (by simpa using h2)).trans (b9 k hk h1 h2)
              have hz10 : W7.heap.size ≤ W10.heap.size := Nat.le_trans hz9 hg10.size
              have b11 : ∀ k, k < W7.heap.size → k ≠ bw → k ≠ bw + 1 + 1 → W11.heap[k]? = W7.heap[k]? := fun k hk h1 h2 => (hg11.block k (by omega) (by simpa using h2)).trans (b10 k hk h1 h2)
              have K7 := Aside0.mk (kp W7.drew (fun _ _ _ _ => rfl))
              have K8 := Aside0.mk (kp W8 b8)
              have K9 := Aside0.mk (kp W9 b9)
              have K10 := Aside0.mk (kp W10 b10)
              have K11 := Aside0.mk (kp W11 b11)
              clear kp b8 b9 b10 b11
              clear hst8 hm9 hg8 hg9 hq9 hst10 hm11 hg10 hg11 hq11
              go_wp2_with fail
              go_region_held3 (fun w' => (w'.cell? ⟨w.heap.size, 0, none⟩ = some (.pointer (some ⟨bw + 1 + 1 + 1, 0, none⟩)) ∧ w'.cell? ⟨bw + 1 + 1 + 1, 1, none⟩ = some (.map (some bw))) ∧ w'.cell? ⟨bw + 1 + 1 + 1, 3, none⟩ = some (.map (some (bw + 1 + 1))) ∧ w'.cell? ⟨gx, 0, none⟩ = some (.int .i64 x.f0)) (first | exact K7.out | exact K8.out | exact K9.out | exact K10.out | exact K11.out) (first | fail)
              all_goals go_wp2_with fail
              all_goals exact fin _ _ _ rfl HS.out HBD.out HQ11.out
            · have k1 : decide (x.f1 < x.f2) = false := decide_eq_false (by omega)
              have k2 : (x.f1 != x.f2) = false := bne_eq_false_iff_eq.2 hcmp
              have hs := HSTEP.out ⟨p.win, (x.f0, G + 1) :: p.games, p.out⟩ (by rw [if_pos hcmp])
              have HS := Aside0.mk hs
              have HCMP := Aside0.mk hcmp
              clear hs hcmp
              go_wp2_with fail
              all_goals exact fin _ _ _ rfl HS.out HBD.out HQ7.out
            · have k1 : decide (x.f1 < x.f2) = false := decide_eq_false (by omega)
              have k2 : (x.f1 != x.f2) = true := bne_iff_ne.2 (by omega)
              have hs := HSTEP.out ⟨(x.f0, aw) :: p.win, (x.f0, G + 1) :: p.games, (hm, true) :: p.out⟩ (by rw [if_neg (by omega), if_neg (by omega)])
              have HS := Aside0.mk hs
              have HCMP := Aside0.mk hcmp
              clear hs hcmp
              obtain ⟨W8, st, old, hent, hg8, hst8⟩ := MapAt.entry (P := Try.prog) (t := 56) Try.underlying56 Try.underlying3 (MapAt.of_block (W' := W7.drew) HQ7.out.mw rfl) (CP.zero3 _) x.f0
              obtain ⟨W9, hsto, hm9, hg9⟩ := hst8 W8 rfl (.int .i64 aw)
              have hq9 := (HQ7.out.below (below_drew (Below.refl _ _))).wins (hg8.trans hg9) (by rw [← look_ints]; exact hm9)
              obtain ⟨W10, st2, old2, hent2, hg10, hst10⟩ := MapAt.entry (P := Try.prog) (t := 57) Try.underlying57 Try.underlying3 hq9.mo (zero4 _) hm
              obtain ⟨W11, hsto2, hm11, hg11⟩ := hst10 W10 rfl (.bool true)
              have hq11 := hq9.outs (hg10.trans hg11) (by rw [← look_bools]; exact hm11)
              have HQ11 := Aside0.mk hq11
              have hlo := HQ7.out.lo
              have lc : w.heap.size < W7.heap.size := blk_lt HQ7.out.ec
              have lg : bw + 1 + 1 + 1 < W7.heap.size := blk_lt HQ7.out.eg
              have lx : gx < W7.heap.size := World.block_lt_of_cell? W7 _ y0
              have kp : ∀ w' : World, (∀ k, k < W7.heap.size → k ≠ bw → k ≠ bw + 1 + 1 → w'.heap[k]? = W7.heap[k]?) → (w'.cell? ⟨w.heap.size, 0, none⟩ = some (.pointer (some ⟨bw + 1 + 1 + 1, 0, none⟩)) ∧ w'.cell? ⟨bw + 1 + 1 + 1, 1, none⟩ = some (.map (some bw))) ∧ w'.cell? ⟨bw + 1 + 1 + 1, 3, none⟩ = some (.map (some (bw + 1 + 1))) ∧ w'.cell? ⟨gx, 0, none⟩ = some (.int .i64 x.f0) := fun w' h => ⟨⟨(CK.cell_same (h _ lc (by omega) (by omega)) 0).trans qc, (CK.cell_same (h _ lg (by omega) (by omega)) 1).trans qw⟩, (CK.cell_same (h _ lg (by omega) (by omega)) 3).trans qo, (CK.cell_same (h _ lx (by omega) (by omega)) 0).trans y0⟩
              have b8 : ∀ k, k < W7.heap.size → k ≠ bw → k ≠ bw + 1 + 1 → W8.heap[k]? = W7.heap[k]? := fun k hk h1 _ => hg8.block k hk (by simpa using h1)
              have hz8 : W7.heap.size ≤ W8.heap.size := hg8.size
              have b9 : ∀ k, k < W7.heap.size → k ≠ bw → k ≠ bw + 1 + 1 → W9.heap[k]? = W7.heap[k]? := fun k hk h1 h2 => (hg9.block k (by omega) (by simpa using h1)).trans (b8 k hk h1 h2)
              have hz9 : W7.heap.size ≤ W9.heap.size := Nat.le_trans hz8 hg9.size
              have b10 : ∀ k, k < W7.heap.size → k ≠ bw → k ≠ bw + 1 + 1 → W10.heap[k]? = W7.heap[k]? := fun k hk h1 h2 => (hg10.block k (by omega) (by simpa using h2)).trans (b9 k hk h1 h2)
              have hz10 : W7.heap.size ≤ W10.heap.size := Nat.le_trans hz9 hg10.size
              have b11 : ∀ k, k < W7.heap.size → k ≠ bw → k ≠ bw + 1 + 1 → W11.heap[k]? = W7.heap[k]? := fun k hk h1 h2 => (hg11.block k (by omega) (by simpa using h2)).trans (b10 k hk h1 h2)
              have K7 := Aside0.mk (kp W7.drew (fun _ _ _ _ => rfl))
              have K8 := Aside0.mk (kp W8 b8)
              have K9 := Aside0.mk (kp W9 b9)
              have K10 := Aside0.mk (kp W10 b10)
              have K11 := Aside0.mk (kp W11 b11)
              clear kp b8 b9 b10 b11
              clear hst8 hm9 hg8 hg9 hq9 hst10 hm11 hg10 hg11 hq11
              go_wp2_with fail
              go_region_held3 (fun w' => (w'.cell? ⟨w.heap.size, 0, none⟩ = some (.pointer (some ⟨bw + 1 + 1 + 1, 0, none⟩)) ∧ w'.cell? ⟨bw + 1 + 1 + 1, 1, none⟩ = some (.map (some bw))) ∧ w'.cell? ⟨bw + 1 + 1 + 1, 3, none⟩ = some (.map (some (bw + 1 + 1))) ∧ w'.cell? ⟨gx, 0, none⟩ = some (.int .i64 x.f0)) (first | exact K7.out | exact K8.out | exact K9.out | exact K10.out | exact K11.out) (first | fail)
              all_goals go_wp2_with fail
              all_goals exact fin _ _ _ rfl HS.out HBD.out HQ11.out
          · have pf : ((G + 1).tmod 2 == 0) = false := by rw [beq_eq_false_iff_ne]; exact par
            have pf' : ((G + 1) % 2 == 0) = false := by rw [PE.out]; exact pf
            rw [if_neg par] at HSTEP
            have PAR := Aside0.mk par
            clear par
            rcases Int.lt_trichotomy x.f1 x.f2 with hcmp | hcmp | hcmp
            · have k1 : decide (x.f1 < x.f2) = true := decide_eq_true hcmp
              have k2 : (x.f1 != x.f2) = true := bne_iff_ne.2 (by omega)
              have hs := HSTEP.out ⟨(x.f0, aw) :: p.win, (x.f0, G + 1) :: p.games, (hm, true) :: p.out⟩ (by rw [if_neg (by omega), if_pos hcmp])
              have HS := Aside0.mk hs
              have HCMP := Aside0.mk hcmp
              clear hs hcmp
              obtain ⟨W8, st, old, hent, hg8, hst8⟩ := MapAt.entry (P := Try.prog) (t := 56) Try.underlying56 Try.underlying3 (MapAt.of_block (W' := W7.drew) HQ7.out.mw rfl) (CP.zero3 _) x.f0
              obtain ⟨W9, hsto, hm9, hg9⟩ := hst8 W8 rfl (.int .i64 aw)
              have hq9 := (HQ7.out.below (below_drew (Below.refl _ _))).wins (hg8.trans hg9) (by rw [← look_ints]; exact hm9)
              obtain ⟨W10, st2, old2, hent2, hg10, hst10⟩ := MapAt.entry (P := Try.prog) (t := 57) Try.underlying57 Try.underlying3 hq9.mo (zero4 _) hm
              obtain ⟨W11, hsto2, hm11, hg11⟩ := hst10 W10 rfl (.bool true)
              have hq11 := hq9.outs (hg10.trans hg11) (by rw [← look_bools]; exact hm11)
              have HQ11 := Aside0.mk hq11
              have hlo := HQ7.out.lo
              have lc : w.heap.size < W7.heap.size := blk_lt HQ7.out.ec
              have lg : bw + 1 + 1 + 1 < W7.heap.size := blk_lt HQ7.out.eg
              have lx : gx < W7.heap.size := World.block_lt_of_cell? W7 _ y0
              have kp : ∀ w' : World, (∀ k, k < W7.heap.size → k ≠ bw → k ≠ bw + 1 + 1 → w'.heap[k]? = W7.heap[k]?) → (w'.cell? ⟨w.heap.size, 0, none⟩ = some (.pointer (some ⟨bw + 1 + 1 + 1, 0, none⟩)) ∧ w'.cell? ⟨bw + 1 + 1 + 1, 1, none⟩ = some (.map (some bw))) ∧ w'.cell? ⟨bw + 1 + 1 + 1, 3, none⟩ = some (.map (some (bw + 1 + 1))) ∧ w'.cell? ⟨gx, 0, none⟩ = some (.int .i64 x.f0) := fun w' h => ⟨⟨(CK.cell_same (h _ lc (by omega) (by omega)) 0).trans qc, (CK.cell_same (h _ lg (by omega) (by omega)) 1).trans qw⟩, (CK.cell_same (h _ lg (by omega) (by omega)) 3).trans qo, (CK.cell_same (h _ lx (by omega) (by omega)) 0).trans y0⟩
              have b8 : ∀ k, k < W7.heap.size → k ≠ bw → k ≠ bw + 1 + 1 → W8.heap[k]? = W7.heap[k]? := fun k hk h1 _ => hg8.block k hk (by simpa using h1)
              have hz8 : W7.heap.size ≤ W8.heap.size := hg8.size
              have b9 : ∀ k, k < W7.heap.size → k ≠ bw → k ≠ bw + 1 + 1 → W9.heap[k]? = W7.heap[k]? := fun k hk h1 h2 => (hg9.block k (by omega) (by simpa using h1)).trans (b8 k hk h1 h2)
              have hz9 : W7.heap.size ≤ W9.heap.size := Nat.le_trans hz8 hg9.size
              have b10 : ∀ k, k < W7.heap.size → k ≠ bw → k ≠ bw + 1 + 1 → W10.heap[k]? = W7.heap[k]? := fun k hk h1 h2 => (hg10.block k (by omega) (by simpa using h2)).trans (b9 k hk h1 h2)
              have hz10 : W7.heap.size ≤ W10.heap.size := Nat.le_trans hz9 hg10.size
              have b11 : ∀ k, k < W7.heap.size → k ≠ bw → k ≠ bw + 1 + 1 → W11.heap[k]? = W7.heap[k]? := fun k hk h1 h2 => (hg11.block k (by omega) (by simpa using h2)).trans (b10 k hk h1 h2)
              have K7 := Aside0.mk (kp W7.drew (fun _ _ _ _ => rfl))
              have K8 := Aside0.mk (kp W8 b8)
              have K9 := Aside0.mk (kp W9 b9)
              have K10 := Aside0.mk (kp W10 b10)
              have K11 := Aside0.mk (kp W11 b11)
              clear kp b8 b9 b10 b11
              clear hst8 hm9 hg8 hg9 hq9 hst10 hm11 hg10 hg11 hq11
              go_wp2_with fail
              go_region_held3 (fun w' => (w'.cell? ⟨w.heap.size, 0, none⟩ = some (.pointer (some ⟨bw + 1 + 1 + 1, 0, none⟩)) ∧ w'.cell? ⟨bw + 1 + 1 + 1, 1, none⟩ = some (.map (some bw))) ∧ w'.cell? ⟨bw + 1 + 1 + 1, 3, none⟩ = some (.map (some (bw + 1 + 1))) ∧ w'.cell? ⟨gx, 0, none⟩ = some (.int .i64 x.f0)) (first | exact K7.out | exact K8.out | exact K9.out | exact K10.out | exact K11.out) (first | fail)
              all_goals go_wp2_with fail
              all_goals exact fin _ _ _ rfl HS.out HBD.out HQ11.out
            · have k1 : decide (x.f1 < x.f2) = false := decide_eq_false (by omega)
              have k2 : (x.f1 != x.f2) = false := bne_eq_false_iff_eq.2 hcmp
              have hs := HSTEP.out ⟨p.win, (x.f0, G + 1) :: p.games, p.out⟩ (by rw [if_pos hcmp])
              have HS := Aside0.mk hs
              have HCMP := Aside0.mk hcmp
              clear hs hcmp
              go_wp2_with fail
              all_goals exact fin _ _ _ rfl HS.out HBD.out HQ7.out
            · have k1 : decide (x.f1 < x.f2) = false := decide_eq_false (by omega)
              have k2 : (x.f1 != x.f2) = true := bne_iff_ne.2 (by omega)
              have hs := HSTEP.out ⟨(x.f0, hm) :: p.win, (x.f0, G + 1) :: p.games, (aw, true) :: p.out⟩ (by rw [if_neg (by omega), if_neg (by omega)])
              have HS := Aside0.mk hs
              have HCMP := Aside0.mk hcmp
              clear hs hcmp
              obtain ⟨W8, st, old, hent, hg8, hst8⟩ := MapAt.entry (P := Try.prog) (t := 56) Try.underlying56 Try.underlying3 (MapAt.of_block (W' := W7.drew) HQ7.out.mw rfl) (CP.zero3 _) x.f0
              obtain ⟨W9, hsto, hm9, hg9⟩ := hst8 W8 rfl (.int .i64 hm)
              have hq9 := (HQ7.out.below (below_drew (Below.refl _ _))).wins (hg8.trans hg9) (by rw [← look_ints]; exact hm9)
              obtain ⟨W10, st2, old2, hent2, hg10, hst10⟩ := MapAt.entry (P := Try.prog) (t := 57) Try.underlying57 Try.underlying3 hq9.mo (zero4 _) aw
              obtain ⟨W11, hsto2, hm11, hg11⟩ := hst10 W10 rfl (.bool true)
              have hq11 := hq9.outs (hg10.trans hg11) (by rw [← look_bools]; exact hm11)
              have HQ11 := Aside0.mk hq11
              have hlo := HQ7.out.lo
              have lc : w.heap.size < W7.heap.size := blk_lt HQ7.out.ec
              have lg : bw + 1 + 1 + 1 < W7.heap.size := blk_lt HQ7.out.eg
              have lx : gx < W7.heap.size := World.block_lt_of_cell? W7 _ y0
              have kp : ∀ w' : World, (∀ k, k < W7.heap.size → k ≠ bw → k ≠ bw + 1 + 1 → w'.heap[k]? = W7.heap[k]?) → (w'.cell? ⟨w.heap.size, 0, none⟩ = some (.pointer (some ⟨bw + 1 + 1 + 1, 0, none⟩)) ∧ w'.cell? ⟨bw + 1 + 1 + 1, 1, none⟩ = some (.map (some bw))) ∧ w'.cell? ⟨bw + 1 + 1 + 1, 3, none⟩ = some (.map (some (bw + 1 + 1))) ∧ w'.cell? ⟨gx, 0, none⟩ = some (.int .i64 x.f0) := fun w' h => ⟨⟨(CK.cell_same (h _ lc (by omega) (by omega)) 0).trans qc, (CK.cell_same (h _ lg (by omega) (by omega)) 1).trans qw⟩, (CK.cell_same (h _ lg (by omega) (by omega)) 3).trans qo, (CK.cell_same (h _ lx (by omega) (by omega)) 0).trans y0⟩
              have b8 : ∀ k, k < W7.heap.size → k ≠ bw → k ≠ bw + 1 + 1 → W8.heap[k]? = W7.heap[k]? := fun k hk h1 _ => hg8.block k hk (by simpa using h1)
              have hz8 : W7.heap.size ≤ W8.heap.size := hg8.size
              have b9 : ∀ k, k < W7.heap.size → k ≠ bw → k ≠ bw + 1 + 1 → W9.heap[k]? = W7.heap[k]? := fun k hk h1 h2 => (hg9.block k (by omega) (by simpa using h1)).trans (b8 k hk h1 h2)
              have hz9 : W7.heap.size ≤ W9.heap.size := Nat.le_trans hz8 hg9.size
              have b10 : ∀ k, k < W7.heap.size → k ≠ bw → k ≠ bw + 1 + 1 → W10.heap[k]? = W7.heap[k]? := fun k hk h1 h2 => (hg10.block k (by omega) (by simpa using h2)).trans (b9 k hk h1 h2)
              have hz10 : W7.heap.size ≤ W10.heap.size := Nat.le_trans hz9 hg10.size
              have b11 : ∀ k, k < W7.heap.size → k ≠ bw → k ≠ bw + 1 + 1 → W11.heap[k]? = W7.heap[k]? := fun k hk h1 h2 => (hg11.block k (by omega) (by simpa using h2)).trans (b10 k hk h1 h2)
              have K7 := Aside0.mk (kp W7.drew (fun _ _ _ _ => rfl))
              have K8 := Aside0.mk (kp W8 b8)
              have K9 := Aside0.mk (kp W9 b9)
              have K10 := Aside0.mk (kp W10 b10)
              have K11 := Aside0.mk (kp W11 b11)
              clear kp b8 b9 b10 b11
              clear hst8 hm9 hg8 hg9 hq9 hst10 hm11 hg10 hg11 hq11
              go_wp2_with fail
              go_region_held3 (fun w' => (w'.cell? ⟨w.heap.size, 0, none⟩ = some (.pointer (some ⟨bw + 1 + 1 + 1, 0, none⟩)) ∧ w'.cell? ⟨bw + 1 + 1 + 1, 1, none⟩ = some (.map (some bw))) ∧ w'.cell? ⟨bw + 1 + 1 + 1, 3, none⟩ = some (.map (some (bw + 1 + 1))) ∧ w'.cell? ⟨gx, 0, none⟩ = some (.int .i64 x.f0)) (first | exact K7.out | exact K8.out | exact K9.out | exact K10.out | exact K11.out) (first | fail)
              all_goals go_wp2_with fail
              all_goals exact fin _ _ _ rfl HS.out HBD.out HQ11.out
    · obtain rfl : i = l1.length := by omega
      have c1' := blk_cell hQ.ec 0
      have f1' := blk_frozen hQ.ec 0
      simp only [List.getElem?_toArray, List.getElem?_cons_zero] at c1'
      have e2 := blk_set hQ.ec 0 (.pointer (some ⟨bw + 1 + 1 + 1, 0, none⟩))
      have hne2 : w.heap.size + 1 ≠ w.heap.size := by omega
      have e3 : (W.setCell ⟨w.heap.size, 0, none⟩ (.pointer (some ⟨bw + 1 + 1 + 1, 0, none⟩))).heap[w.heap.size + 1]? = _ := (CM.set_ne hne2 _).trans hQ.ee
      have c3 := blk_cell e3 0
      have f3 := blk_frozen e3 0
      simp only [List.getElem?_toArray, List.getElem?_cons_zero] at c3
      have hQ' := hQ.again
      have c4 := blk_cell hQ'.ec 0
      have c5 := blk_cell hQ'.ee 0
      simp only [List.getElem?_toArray, List.getElem?_cons_zero] at c4 c5
      have HQ' := Aside0.mk hQ'
      have hps : playS (CK.ties n) l1 ⟨[], [], []⟩ = some p := by
        have h := HPS.out
        rw [List.drop_length] at h
        exact h
      have HP := Aside0.mk hps
      clear hQ e2 e3 hQ' hps
      go_wp2_with fail
      refine leaves_cons (f := 35) (args := #[.pointer (some ⟨w.heap.size, 0, none⟩), .pointer (some ⟨w.heap.size + 1, 0, none⟩)]) (by simp) (by simp [go_sem]) ?_
      refine (CD.catch_idle ⟨w.heap.size, 0, none⟩ ⟨w.heap.size + 1, 0, none⟩ _).mono ?_
      rintro e u' w'' ⟨rfl, rfl, rfl⟩
      simp [Leaves, settle, results, Try.results29, go_sem, c4, c5]
      exact ⟨p, HP.out, At, ct, HQ'.out⟩
end CQ
end Go.Proofs.Ytaadhandkljcdaa.X
