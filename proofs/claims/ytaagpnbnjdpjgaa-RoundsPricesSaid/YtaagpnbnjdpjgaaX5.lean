/- Proved here: for functions of the program and of the reference, what each call returns (theorems '.calls'), under the conditions that each theorem names. Printed by this project's own driver over the kit's printer; parts marked EXT are written by hand. Lean checks it. -/
import Derived.Test.YtaagpnbnjdpjgaaX0
import Derived.Test.YtaagpnbnjdpjgaaX2
import Derived.Test.YtaagpnbnjdpjgaaX4
import Derived.Test.YtaagpnbnjdpjgaaK
import Derived.Test.YtaagpnbnjdpjgaaR
namespace Go.Proofs.Ytaagpnbnjdpjgaa.X
open Go.RowKit Go.Proofs.YtaagpnbnjdpjgaaW.PrintWords Go.Proofs.YtaagpnbnjdpjgaaW.PrintLast Go.Proofs.YtaagpnbnjdpjgaaW.PrintMore
attribute [local go_sem] max2_int min2_int max_two min_two max_three min_three max_four min_four   -- for this text's walks alone
set_option linter.unusedVariables false
set_option linter.unusedSimpArgs false

-- EXT rounds_Earliest: function 13
-- def rounds_Earliest.f (l0 : List Int) (a1 : Int) (l2 : List (List Int)) : Option (List Int × Int) := 
-- theorem rounds_Earliest.calls (A0 : Option Addr) (c0 : Nat) (l0 : List Int) (a1 : Int) (A2 : Option Addr) (c2 : Nat) (l2 : List (List Int)) (r1 : List Int) (r2 : Int) (w : World) (hr0 : Kd.C (Kd.int .i64) w A0 l0.length l0) (hc0 : l0.length ≤ c0) (hr2 : Kd.C (Kd.slice 3 (Kd.int .i64)) w A2 l2.length l2) (hc2 : l2.length ≤ c2) (h : rounds_Earliest.f l0 a1 l2 = some (r1, r2)) :
--     Calls Try.prog 13 #[.slice A0 l0.length c0, .int .i64 a1, .slice A2 l2.length c2] w fun e w' => ∃ v0_ : Value, e = .returned (.tuple #[v0_, .int .i64 r2]) ∧ Kd.R (Kd.int .i64) 3 w' w.heap.size (fun _ => True) v0_ r1 ∧ Below w.heap.size w w'
-- NEEDS: fasti/rounds.check, fasti/rounds.Most, slices.BinarySearch[[]int,int]
-- INFO: 3
-- IMPORTS: Derived.Test.YtaagpnbnjdpjgaaK, Derived.Test.YtaagpnbnjdpjgaaR
namespace PC
open Go.Proofs.Ytaagpnbnjdpjgaa.K Go.Proofs.Ytaagpnbnjdpjgaa.R Go.Shelf Go.BigFrame
attribute [local go_sem] Oper.semAt_some

/-- The first index of those that is not forbidden. -/
def firstOk (l0 row : List Int) (next : Int) : Option (Fin l0.length) := (fromL l0 next).find? fun i => decide (0 ≤ rd row (i.1 : Int))
def earlyGo (l0 : List Int) (rest : Int) : List (List Int) → Int → List Int
  | [], _ => []
  | row :: rows, next => match firstOk l0 row next with
    | some i => (i.1 : Int) :: earlyGo l0 rest rows (rd l0 (i.1 : Int) + rest)
    | none => -1 :: earlyGo l0 rest rows 73049

/-- All marks of a frame that leaves: each block is shut; all else lies as it lay. -/
structure OffD (ds : List Nat) (W W' : World) : Prop where
  os : W'.os = W.os
  tape : W'.tape = W.tape
  output : W'.output = W.output
  size : W.heap.size ≤ W'.heap.size
  block : ∀ k, k ∉ ds → W'.heap[k]? = W.heap[k]?
theorem leaves_marks {F : Fence} {n : Nat} {P : Program} {fn : Func} {tmps : Array Value} {R : Ending → World → Prop} {u : FrameMode} (hu : u ≠ .run) : ∀ (ds : List Nat) (W : World), ds.Nodup → (∀ D ∈ ds, W.heap[D]? = some (.deferred (some []))) →
    (∀ W', OffD ds W W' → LeavesIn F n P fn tmps R [] u W') → LeavesInM F n P fn tmps R (ds.map fun D => { target := .collected D, args := #[] }) u W
  | [], W, _, _, h => h W ⟨rfl, rfl, rfl, Nat.le_refl _, fun _ _ => rfl⟩
  | D :: ds, W, hn, hd, h => by
    have hK := hd D List.mem_cons_self
    have hn' := List.nodup_cons.1 hn
    refine ⟨hu, .inl ⟨_, _, rfl, run_takeDeferred hK, ?_⟩⟩
    refine leaves_marks hu ds _ hn'.2 (fun D' hD' => ?_) (fun W' hW' => h W' ?_)
    · have : D' ≠ D := fun e => hn'.1 (e ▸ hD')
      rw [World.putObj_heap_other this]; exact hd D' (List.mem_cons_of_mem _ hD')
    · have hg := grownBy_putObj' W D (.deferred none)
      refine ⟨hW'.os.trans hg.os, hW'.tape.trans hg.tape, hW'.output.trans hg.output, Nat.le_trans hg.size hW'.size, fun k hk => ?_⟩
      rw [hW'.block k (fun h => hk (List.mem_cons_of_mem _ h)), World.putObj_heap_other (fun e => hk (by rw [e]; exact List.mem_cons_self))]

theorem early_bad (A0 : Option Addr) (c0 : Nat) (l0 : List Int) (a1 : Int) (A2 : Option Addr) (c2 : Nat) (l2 : List (List Int)) (w : World) (hr0 : Kd.C (Kd.int .i64) w A0 l0.length l0) (hc0 : l0.length ≤ c0) (hr2 : Kd.C (Kd.slice 3 (Kd.int .i64)) w A2 l2.length l2) (hc2 : l2.length ≤ c2)
    (h : ¬ checkS l0 a1 l2 = 0) :
    Calls Try.prog 13 #[.slice A0 l0.length c0, .int .i64 a1, .slice A2 l2.length c2] w fun e w' => e = .returned (.tuple #[.slice none 0 0, .int .i64 (checkS l0 a1 l2)]) ∧ Below w.heap.size w w' := by
  obtain ⟨k0, hk0⟩ := (check_ev l0 a1 l2).rounds
  have hne : (checkS l0 a1 l2 != 0) = true := bne_iff_ne.2 h
  have hrW := fun W hb => Kd.C_below (w1 := W) hr0 hb
  have hrW2 := fun W hb => Kd.C_below (w1 := W) hr2 hb
  go_enter Try.func13, Try.ntmps13
  go_wp2_with fail
  have hB3 : Below w.heap.size w ((((w.alloc (.cells #[.slice A0 l0.length c0] 22)).alloc (.cells #[.int .i64 a1] 3)).alloc (.cells #[.slice A2 l2.length c2] 29)).alloc (.cells #[.slice none 0 0] 22)) := below_alloc (below_alloc (below_alloc (below_alloc (Below.refl _ _) _) _) _) _
  refine (rounds_check.calls k0 A0 c0 l0 a1 A2 c2 l2 (checkS l0 a1 l2) _ (hrW _ hB3) hc0 (hrW2 _ hB3) hc2 hk0).mono ?_
  rintro e w1 ⟨rfl, hb1⟩
  have hb4 := below_then hB3 hB3.size hb1
  have hB4 := blk_below (by have := blk_new (((w.alloc (.cells #[.slice A0 l0.length c0] 22)).alloc (.cells #[.int .i64 a1] 3)).alloc (.cells #[.slice A2 l2.length c2] 29)) (.cells #[.slice none 0 0] 22); exact this) hb1
  simp only [World.size_alloc] at hB4
  have hc4 := blk_cell hB4 0
  have hf4 := blk_frozen hB4 0
  have HB := Aside0.mk hb4
  clear hB4 hb4 hb1 hB3 hrW hrW2
  simp only [List.getElem?_toArray, List.getElem?_cons_zero] at hc4
  have HE := Aside0.mk hk0
  clear hk0
  go_wp2
  have hc5 : (w1.setCell ⟨w.heap.size + 1 + 1 + 1, 0, none⟩ (.slice none 0 0)).cell? ⟨w.heap.size + 1 + 1 + 1, 0, none⟩ = some (.slice none 0 0) := World.cell?_setCell_same' _ _ _ (by rw [hc4]; rfl)
  exact bodyPost_ret (v := .tuple #[.slice none 0 0, .int .i64 (checkS l0 a1 l2)]) (by simp [results, Try.results13, go_sem, hc5]) rfl ⟨rfl, below_set HB.out (by omega)⟩

theorem own_same {W W' : World} {base e size n : Nat} {g cap : Nat} {xs : List Value} (h : W.ownsRow base e size (.slice (some ⟨g, 0, none⟩) n cap) n xs) (hs : W'.heap[g]? = W.heap[g]?) : W'.ownsRow base e size (.slice (some ⟨g, 0, none⟩) n cap) n xs := by
  refine ⟨h.1, ?_⟩
  rcases h.2 with ⟨h1, _⟩ | ⟨g', cap', cur, he, hb, hh, hr⟩
  · cases h1
  · have : g' = g ∧ cap' = cap := by cases he; exact ⟨rfl, rfl⟩
    obtain ⟨rfl, rfl⟩ := this
    exact .inr ⟨g', cap', cur, rfl, hb, hs.trans hh, hr⟩
/-- What memory holds within a round of the outer loop: B9 is the box of k; g, cap the row of the result. -/
structure EIn (l0 : List Int) (a1 : Int) (l2 : List (List Int)) (w w1 : World) (A0 : Option Addr) (c0 : Nat) (A2 : Option Addr) (c2 : Nat) (k : Nat) (ds : List Nat) (B9 g cap : Nat) (ys : List Int) (nx : Int) (W : World) : Prop where
  b3 : W.heap[w.heap.size]? = some (.cells #[.slice A0 l0.length c0] 22 (0, 0))
  b4 : W.heap[w.heap.size + 1]? = some (.cells #[.int .i64 a1] 3 (0, 0))
  b5 : W.heap[w.heap.size + 1 + 1]? = some (.cells #[.slice A2 l2.length c2] 29 (0, 0))
  b6 : W.heap[w.heap.size + 1 + 1 + 1]? = some (.cells #[.slice (some ⟨g, 0, none⟩) (k + 1) cap] 22 (0, 0))
  own : W.ownsRow (w1.heap.size + 1) 3 1 (.slice (some ⟨g, 0, none⟩) (k + 1) cap) (k + 1) (nums .i64 ys)
  b8 : W.heap[w1.heap.size]? = some (.cells #[.int .i64 nx] 3 (0, 0))
  b9 : W.heap[B9]? = some (.cells #[.int .i64 (k : Int)] 3 (0, 0))
  below : Below w.heap.size w W
  ds : ∀ D ∈ ds, W.heap[D]? = some (.deferred (some []))
section
variable {l0 : List Int} {a1 : Int} {l2 : List (List Int)} {w w1 : World} {A0 : Option Addr} {c0 : Nat} {A2 : Option Addr} {c2 : Nat} {k : Nat} {ds : List Nat} {B9 g cap : Nat} {ys : List Int} {nx : Int} {W W' : World}
/-- Kept where what it names is kept. -/
theorem EIn.same (h : EIn l0 a1 l2 w w1 A0 c0 A2 c2 k ds B9 g cap ys nx W) (hs : ∀ b, b < w1.heap.size + 1 ∨ b = B9 ∨ b = g ∨ b ∈ ds → W'.heap[b]? = W.heap[b]?) (hz : w.heap.size + 4 ≤ w1.heap.size) (hB : Below w.heap.size w W') : EIn l0 a1 l2 w w1 A0 c0 A2 c2 k ds B9 g cap ys nx W' :=
  ⟨(hs _ (.inl (by omega))).trans h.b3, (hs _ (.inl (by omega))).trans h.b4, (hs _ (.inl (by omega))).trans h.b5, (hs _ (.inl (by omega))).trans h.b6, own_same h.own (hs _ (.inr (.inr (.inl rfl)))), (hs _ (.inl (by omega))).trans h.b8, (hs _ (.inr (.inl rfl))).trans h.b9, hB,
    fun D hD => (hs D (.inr (.inr (.inr hD)))).trans (h.ds D hD)⟩
theorem EIn.own_g (h : EIn l0 a1 l2 w w1 A0 c0 A2 c2 k ds B9 g cap ys nx W) : w1.heap.size + 1 ≤ g ∧ g < W.heap.size := ⟨own_base h.own g rfl, own_lt h.own g rfl⟩
theorem EIn.alloc (h : EIn l0 a1 l2 w w1 A0 c0 A2 c2 k ds B9 g cap ys nx W) (hz : w.heap.size + 4 ≤ w1.heap.size) (hsz : w1.heap.size + 1 ≤ W.heap.size) (o : Obj) : EIn l0 a1 l2 w w1 A0 c0 A2 c2 k ds B9 g cap ys nx (W.alloc o) :=
  h.same (fun b hb => Below.heap_alloc W o b (by
    rcases hb with hb | rfl | rfl | hb
    · omega
    · exact blk_lt h.b9
    · exact h.own_g.2
    · exact blk_lt (h.ds b hb))) hz (below_alloc h.below o)
theorem EIn.ownFrom {B : Nat} {β : Type} {f : β → List Int} {φ : β → Int} (hz : w.heap.size + 4 ≤ w1.heap.size) (hB : w.heap.size ≤ B) (hD : ∀ D ∈ ds, D < B) : OwnFrom B (fun (s : β) W => EIn l0 a1 l2 w w1 A0 c0 A2 c2 k ds B9 g cap (f s) (φ s) W) := by
  intro s X Y row hs hg hr
  have kp : ∀ {b : Nat} {cs : Array Value} {t : TypeId}, X.heap[b]? = some (.cells cs t (0, 0)) → Y.heap[b]? = X.heap[b]? := fun {b cs t} hb => hg.block b (blk_lt hb) (fun e => by
    obtain ⟨_, o, ho, hc⟩ := hr b e.symm
    rw [hb] at ho; cases ho; cases hc)
  obtain ⟨_, hgl⟩ := hs.own_g
  have hgb : Y.heap[g]? = X.heap[g]? := by
    rcases hs.own.2 with ⟨h1, _⟩ | ⟨g', cap', cur, he, hb, hh, hr'⟩
    · cases h1
    · have : g' = g := by cases he; rfl
      subst this
      exact kp hh
  refine ⟨(kp hs.b3).trans hs.b3, (kp hs.b4).trans hs.b4, (kp hs.b5).trans hs.b5, (kp hs.b6).trans hs.b6, own_same hs.own hgb, (kp hs.b8).trans hs.b8, (kp hs.b9).trans hs.b9, ?_, fun D hD' => ?_⟩
  · exact hs.below.grown hg hs.below.size (fun k hk => by have := (hr k hk).1; omega)
  · refine (hg.block D (blk_lt (hs.ds D hD')) (fun e => ?_)).trans (hs.ds D hD')
    have := (hr D e.symm).1
    have := hD D hD'
    omega
theorem EIn.put (h : EIn l0 a1 l2 w w1 A0 c0 A2 c2 k ds B9 g cap ys nx W) (hz : w.heap.size + 4 ≤ w1.heap.size) (h9 : g ≠ B9) (x : Int) : EIn l0 a1 l2 w w1 A0 c0 A2 c2 k ds B9 g cap (ys.set k x) nx (W.setCell ⟨g, k, none⟩ (.int .i64 x)) := by
  obtain ⟨h1, h2⟩ := h.own_g
  have fr : ∀ b, b ≠ g → (W.setCell ⟨g, k, none⟩ (.int .i64 x)).heap[b]? = W.heap[b]? := fun b hb => Below.heap_setCell W _ _ b hb
  refine ⟨(fr _ (by omega)).trans h.b3, (fr _ (by omega)).trans h.b4, (fr _ (by omega)).trans h.b5, (fr _ (by omega)).trans h.b6, ?_, (fr _ (by omega)).trans h.b8, (fr _ (Ne.symm h9)).trans h.b9, below_set h.below (by omega), fun D hD => (fr D (fun e => ?_)).trans (h.ds D hD)⟩
  · have := (own_store h.own (k : Int) x).1
    rwa [Int.toNat_natCast] at this
  · have := h.ds D hD
    rcases h.own.2 with ⟨h1, _⟩ | ⟨g', cap', cur, he, hb, hh, hr'⟩
    · cases h1
    · have : g' = g := by cases he; rfl
      subst this; subst e
      rw [hh] at this; cases this
theorem EIn.next (h : EIn l0 a1 l2 w w1 A0 c0 A2 c2 k ds B9 g cap ys nx W) (hz : w.heap.size + 4 ≤ w1.heap.size) (h9 : B9 ≠ w1.heap.size) (y : Int) : EIn l0 a1 l2 w w1 A0 c0 A2 c2 k ds B9 g cap ys y (W.setCell ⟨w1.heap.size, 0, none⟩ (.int .i64 y)) := by
  obtain ⟨h1, h2⟩ := h.own_g
  have fr : ∀ b, b ≠ w1.heap.size → (W.setCell ⟨w1.heap.size, 0, none⟩ (.int .i64 y)).heap[b]? = W.heap[b]? := fun b hb => Below.heap_setCell W _ _ b hb
  refine ⟨(fr _ (by omega)).trans h.b3, (fr _ (by omega)).trans h.b4, (fr _ (by omega)).trans h.b5, (fr _ (by omega)).trans h.b6, own_setCell h.own (by simp [Value.ownBlock]; omega) _, blk_set h.b8 0 _, (fr _ h9).trans h.b9, below_set h.below (by omega), fun D hD => (fr D (fun e => ?_)).trans (h.ds D hD)⟩
  have := h.ds D hD
  rw [e, h.b8] at this; cases this
theorem EIn.drewN (h : EIn l0 a1 l2 w w1 A0 c0 A2 c2 k ds B9 g cap ys nx W) (n : Nat) : EIn l0 a1 l2 w w1 A0 c0 A2 c2 k ds B9 g cap ys nx (W.drewN n) :=
  ⟨h.b3, h.b4, h.b5, h.b6, own_same h.own rfl, h.b8, h.b9, pw_below_drewN h.below n, h.ds⟩
end
theorem early_push {l0 : List Int} {a1 : Int} {l2 : List (List Int)} {w w1 : World} {A0 : Option Addr} {c0 : Nat} {A2 : Option Addr} {c2 : Nat} {k : Nat} {ds : List Nat} {A6 : Option Addr} {c6 g cap : Nat} {xs : List Int} {nx : Int} {W Wk w2 : World} {o : Obj}
    (hWk : W.alloc (.cells #[.int .i64 (k : Int)] 3) = Wk) (hz : w.heap.size + 4 ≤ w1.heap.size) (hsz : w1.heap.size + 1 ≤ W.heap.size)
    (d3 : Wk.heap[w.heap.size]? = some (.cells #[.slice A0 l0.length c0] 22 (0, 0))) (d4 : Wk.heap[w.heap.size + 1]? = some (.cells #[.int .i64 a1] 3 (0, 0))) (d5 : Wk.heap[w.heap.size + 1 + 1]? = some (.cells #[.slice A2 l2.length c2] 29 (0, 0)))
    (d6 : Wk.heap[w.heap.size + 1 + 1 + 1]? = some (.cells #[.slice A6 k c6] 22 (0, 0))) (d8 : Wk.heap[w1.heap.size]? = some (.cells #[.int .i64 nx] 3 (0, 0))) (d9 : Wk.heap[W.heap.size]? = some (.cells #[.int .i64 (k : Int)] 3 (0, 0)))
    (dB : Below w.heap.size w Wk) (dD : ∀ D ∈ ds, Wk.heap[D]? = some (.deferred (some []))) (how : W.ownsRow (w1.heap.size + 1) 3 1 (.slice A6 k c6) k (nums .i64 xs)) (down : Wk.ownsRow (w1.heap.size + 1) 3 1 (.slice A6 k c6) k (nums .i64 xs))
    (hown2 : w2.ownsRow (w1.heap.size + 1) 3 1 (.slice (some ⟨g, 0, none⟩) (k + 1) cap) (k + 1) (nums .i64 xs ++ [.int .i64 (-1)])) (hgrow : (Wk.alloc o).grownBy w2 (Value.slice A6 k c6).ownBlock)
    (hat : (Value.slice (some ⟨g, 0, none⟩) (k + 1) cap).ownBlock = (Value.slice A6 k c6).ownBlock ∨ (Value.slice (some ⟨g, 0, none⟩) (k + 1) cap).ownBlock = some (Wk.alloc o).heap.size) :
    EIn l0 a1 l2 w w1 A0 c0 A2 c2 k ds W.heap.size g cap (xs ++ [-1]) nx (w2.setCell ⟨w.heap.size + 1 + 1 + 1, 0, none⟩ (.slice (some ⟨g, 0, none⟩) (k + 1) cap)) ∧ g ≠ W.heap.size ∧ Wk.heap.size < w2.heap.size := by
  have hzk : Wk.heap.size = W.heap.size + 1 := by rw [← hWk]; simp
  have hlow : ∀ b, b < w1.heap.size + 1 → some b ≠ (Value.slice A6 k c6).ownBlock := fun b hb e => by
    have := own_base how b e.symm
    omega
  have h9 : some W.heap.size ≠ (Value.slice A6 k c6).ownBlock := fun e => by
    have := own_lt how _ e.symm
    omega
  have hne : g ≠ W.heap.size := by
    rcases hat with h | h
    · intro e; subst e; exact h9 h
    · simp [Value.ownBlock] at h; omega
  have hDr : ∀ D ∈ ds, some D ≠ (Value.slice A6 k c6).ownBlock := fun D hD e => by
    rcases how.2 with ⟨h1, _⟩ | ⟨g', cap', cur, he, hb, hh, hr'⟩
    · rw [h1] at e; simp [Value.ownBlock] at e
    · rw [he] at e
      have e : D = g' := by simpa [Value.ownBlock] using e
      subst e
      have h2 := dD D hD
      rw [← hWk, Below.heap_alloc W _ D (blk_lt hh), hh] at h2
      cases h2
  have kp : ∀ {b : Nat} {ob : Obj}, Wk.heap[b]? = some ob → some b ≠ (Value.slice A6 k c6).ownBlock → b ≠ w.heap.size + 1 + 1 + 1 → (w2.setCell ⟨w.heap.size + 1 + 1 + 1, 0, none⟩ (.slice (some ⟨g, 0, none⟩) (k + 1) cap)).heap[b]? = some ob := fun {b ob} h1 h2 h3 =>
    (Below.heap_setCell w2 _ _ b (by simpa using h3)).trans (blk_grown (blk_alloc h1 o) hgrow h2)
  have hB2 : Below w.heap.size w w2 := (below_alloc dB o).grown hgrow (below_alloc dB o).size (fun b hb => by
    have := own_base how b hb
    omega)
  refine ⟨⟨kp d3 (hlow _ (by omega)) (by omega), kp d4 (hlow _ (by omega)) (by omega), kp d5 (hlow _ (by omega)) (by omega), ?_, ?_, kp d8 (hlow _ (by omega)) (by omega), kp d9 h9 (by omega), below_set hB2 (by omega), fun D hD => kp (dD D hD) (hDr D hD) (fun e => by
    have h1 := dD D hD
    rw [e, d6] at h1; cases h1)⟩, hne, by have := hgrow.size; simp at this; omega⟩
  · exact blk_set (blk_grown (blk_alloc d6 o) hgrow (hlow _ (by omega))) 0 _
  · refine own_same ?_ (Below.heap_setCell w2 _ _ g (by have := own_base hown2 g rfl; simp; omega))
    rw [nums_append]
    exact hown2
/-- What memory holds behind k rounds. -/
def EMem (l0 : List Int) (a1 : Int) (l2 : List (List Int)) (w w1 : World) (A0 : Option Addr) (c0 : Nat) (A2 : Option Addr) (c2 : Nat) (k : Nat) (ds : List Nat) (W : World) : Prop :=
  ∃ (xs : List Int) (nx : Int) (v : Value), earlyGo l0 a1 l2 (rd l0 0) = xs ++ earlyGo l0 a1 (l2.drop k) nx ∧ xs.length = k ∧
    W.heap[w.heap.size]? = some (.cells #[.slice A0 l0.length c0] 22 (0, 0)) ∧ W.heap[w.heap.size + 1]? = some (.cells #[.int .i64 a1] 3 (0, 0)) ∧ W.heap[w.heap.size + 1 + 1]? = some (.cells #[.slice A2 l2.length c2] 29 (0, 0)) ∧
    W.heap[w.heap.size + 1 + 1 + 1]? = some (.cells #[v] 22 (0, 0)) ∧ W.ownsRow (w1.heap.size + 1) 3 1 v k (nums .i64 xs) ∧ W.heap[w1.heap.size]? = some (.cells #[.int .i64 nx] 3 (0, 0)) ∧ Below w.heap.size w W ∧ w1.heap.size + 1 ≤ W.heap.size ∧
    ds.Nodup ∧ (∀ D ∈ ds, w.heap.size ≤ D) ∧ ∀ D ∈ ds, W.heap[D]? = some (.deferred (some []))
theorem early_none {l0 row : List Int} {a1 nx : Int} {l2 : List (List Int)} {k : Nat} (hlt : k < l2.length) (hr : l2[k] = row) (h : ∀ i ∈ fromL l0 nx, rd row ((i : Fin l0.length).1 : Int) < 0) : earlyGo l0 a1 (l2.drop k) nx = -1 :: earlyGo l0 a1 (l2.drop (k + 1)) 73049 := by
  rw [List.drop_eq_getElem_cons hlt, hr, earlyGo]
  have hf : firstOk l0 row nx = none := by
    refine List.find?_eq_none.2 fun i hi => ?_
    simp only [decide_eq_true_eq]
    have := h i hi
    omega
  rw [hf]
theorem early_some {l0 row : List Int} {a1 nx : Int} {l2 : List (List Int)} {k : Nat} (hlt : k < l2.length) (hr : l2[k] = row) {ini : List (Fin l0.length)} {last : Fin l0.length} (hp : ini ++ [last] <+: fromL l0 nx) (h : ∀ i ∈ ini, rd row ((i : Fin l0.length).1 : Int) < 0) (hl : 0 ≤ rd row (last.1 : Int)) : earlyGo l0 a1 (l2.drop k) nx = (last.1 : Int) :: earlyGo l0 a1 (l2.drop (k + 1)) (rd l0 (last.1 : Int) + a1) := by
  rw [List.drop_eq_getElem_cons hlt, hr, earlyGo]
  have hf : firstOk l0 row nx = some last := by
    obtain ⟨t, ht⟩ := hp
    unfold firstOk
    rw [← ht, List.append_assoc, List.find?_append, List.find?_eq_none.2 (fun i hi => by have := h i hi; simp only [decide_eq_true_eq]; omega)]
    simp [hl]
  rw [hf]
/-- A round done. -/
theorem EIn.mem {l0 : List Int} {a1 : Int} {l2 : List (List Int)} {w w1 : World} {A0 : Option Addr} {c0 : Nat} {A2 : Option Addr} {c2 : Nat} {k : Nat} {ds : List Nat} {B9 g cap D : Nat} {xs ys : List Int} {z nx nx' : Int} {W : World}
    (h : EIn l0 a1 l2 w w1 A0 c0 A2 c2 k ds B9 g cap ys nx' W) (hD : W.heap[D]? = some (.deferred (some []))) (hDs : D ∉ ds) (hnd : ds.Nodup) (hdg : w.heap.size ≤ D) (hdge : ∀ D ∈ ds, w.heap.size ≤ D) (hsz : w1.heap.size + 1 ≤ W.heap.size) (hl : xs.length = k) (hy : ys = xs ++ [z])
    (hx : earlyGo l0 a1 l2 (rd l0 0) = xs ++ earlyGo l0 a1 (l2.drop k) nx) (hs : earlyGo l0 a1 (l2.drop k) nx = z :: earlyGo l0 a1 (l2.drop (k + 1)) nx') : EMem l0 a1 l2 w w1 A0 c0 A2 c2 (k + 1) (D :: ds) W :=
  ⟨ys, nx', _, by rw [hx, hs, hy]; simp, by rw [hy]; simp [hl], h.b3, h.b4, h.b5, h.b6, h.own, h.b8, h.below, hsz, List.nodup_cons.2 ⟨hDs, hnd⟩, fun D' hD' => by
    rcases List.mem_cons.1 hD' with rfl | hD'
    · exact hdg
    · exact hdge D' hD', fun D' hD' => by
    rcases List.mem_cons.1 hD' with rfl | hD'
    · exact hD
    · exact h.ds D' hD'⟩
set_option maxRecDepth 100000 in
set_option maxHeartbeats 4000000 in
theorem early_good (A0 : Option Addr) (c0 : Nat) (l0 : List Int) (a1 : Int) (A2 : Option Addr) (c2 : Nat) (l2 : List (List Int)) (w : World) (hr0 : Kd.C (Kd.int .i64) w A0 l0.length l0) (hc0 : l0.length ≤ c0) (hr2 : Kd.C (Kd.slice 3 (Kd.int .i64)) w A2 l2.length l2) (hc2 : l2.length ≤ c2)
    (h : checkS l0 a1 l2 = 0) :
    Calls Try.prog 13 #[.slice A0 l0.length c0, .int .i64 a1, .slice A2 l2.length c2] w fun e w' => ∃ v : Value, e = .returned (.tuple #[v, .int .i64 0]) ∧ Kd.R (Kd.int .i64) 3 w' w.heap.size (fun _ => True) v (earlyGo l0 a1 l2 (rd l0 0)) ∧ Below w.heap.size w w' := by
  obtain ⟨k0, hk0⟩ := (check_ev l0 a1 l2).rounds
  obtain ⟨hok, hl4, hl2⟩ := okB_of h
  obtain ⟨hpos, hasc, hday, hra, hrb, hrow⟩ := okB_parts hok
  have hrW := fun W hb => Kd.C_below (w1 := W) hr0 hb
  have hrW2 := fun W hb => Kd.C_below (w1 := W) hr2 hb
  rw [h] at hk0
  clear h hok
  refine (callsIn_wide (n := 3)).1 ?_
  refine callsIn_of_wp_marks Try.func13 rfl trivial ?_
  simp only [Try.ntmps13, List.size_toArray, List.length_cons, List.length_nil, Nat.reduceAdd, Nat.reduceSub, Array.replicate_succ, Array.replicate_zero, List.push_toArray, List.append_toArray, List.nil_append, List.cons_append]
  gi_wp2_with fail
  have hB3 : Below w.heap.size w ((((w.alloc (.cells #[.slice A0 l0.length c0] 22)).alloc (.cells #[.int .i64 a1] 3)).alloc (.cells #[.slice A2 l2.length c2] 29)).alloc (.cells #[.slice none 0 0] 22)) := below_alloc (below_alloc (below_alloc (below_alloc (Below.refl _ _) _) _) _) _
  refine ⟨trivial, ?_⟩
  refine (callsIn_wide.2 (rounds_check.calls k0 A0 c0 l0 a1 A2 c2 l2 0 _ (hrW _ hB3) hc0 (hrW2 _ hB3) hc2 hk0)).mono ?_
  rintro e w1 ⟨rfl, hb1⟩
  have hb4 := below_then hB3 hB3.size hb1
  have b3 := blk_below (blk_alloc (blk_alloc (blk_alloc (blk_new w (.cells #[.slice A0 l0.length c0] 22)) (.cells #[.int .i64 a1] 3)) (.cells #[.slice A2 l2.length c2] 29)) (.cells #[.slice none 0 0] 22)) hb1
  have b4 := blk_below (blk_alloc (blk_alloc (blk_new (w.alloc (.cells #[.slice A0 l0.length c0] 22)) (.cells #[.int .i64 a1] 3)) (.cells #[.slice A2 l2.length c2] 29)) (.cells #[.slice none 0 0] 22)) hb1
  have b5 := blk_below (blk_alloc (blk_new ((w.alloc (.cells #[.slice A0 l0.length c0] 22)).alloc (.cells #[.int .i64 a1] 3)) (.cells #[.slice A2 l2.length c2] 29)) (.cells #[.slice none 0 0] 22)) hb1
  have b6 := blk_below (blk_new (((w.alloc (.cells #[.slice A0 l0.length c0] 22)).alloc (.cells #[.int .i64 a1] 3)).alloc (.cells #[.slice A2 l2.length c2] 29)) (.cells #[.slice none 0 0] 22)) hb1
  simp only [World.size_alloc] at b3 b4 b5 b6
  have hz : w.heap.size + 4 ≤ w1.heap.size := by have := hb1.size; simp at this; omega
  have f3 := blk_cell b3 0
  have f5 := blk_cell b5 0
  obtain ⟨ad, rfl, hx⟩ := Kd.at_int (hrW _ hb4) 0 (by omega) (by omega)
  simp only [List.getElem?_toArray, List.getElem?_cons_zero] at f3 f5
  have hx0 : w1.cell? ad = some (.int .i64 (rd l0 0)) := by have h0 := hx; rw [show (0 : Int).toNat = 0 from rfl, Addr.add_zero'] at h0; exact h0
  clear hx hk0 hB3 hb1
  have HB := Aside0.mk hb4
  have B3 := Aside0.mk b3
  have B4 := Aside0.mk b4
  have B5 := Aside0.mk b5
  have B6 := Aside0.mk b6
  clear hb4 b3 b4 b5 b6
  have f5' : (w1.alloc (.cells #[.int .i64 (rd l0 0)] 3)).cell? ⟨w.heap.size + 1 + 1, 0, none⟩ = some (.slice A2 l2.length c2) := blk_cell (blk_alloc B5.out _) 0
  gi_wp2_with fail
  obtain ⟨W0, hW0⟩ : ∃ W0, (w1.alloc (.cells #[.int .i64 (rd l0 0)] 3)) = W0 := ⟨_, rfl⟩
  have hzW : W0.heap.size = w1.heap.size + 1 := by rw [← hW0]; simp
  have bW := below_alloc HB.out (.cells #[.int .i64 (rd l0 0)] 3)
  have b3 := blk_alloc B3.out (.cells #[.int .i64 (rd l0 0)] 3)
  have b4 := blk_alloc B4.out (.cells #[.int .i64 (rd l0 0)] 3)
  have b5 := blk_alloc B5.out (.cells #[.int .i64 (rd l0 0)] 3)
  have b6 := blk_alloc B6.out (.cells #[.int .i64 (rd l0 0)] 3)
  have b8 := blk_new w1 (.cells #[.int .i64 (rd l0 0)] 3)
  rw [hW0] at bW b3 b4 b5 b6 b8 ⊢
  clear B3 B4 B5 B6 HB f3 f5 f5' hx0 hW0
  refine wpIn_loop_ghost_k (fun m a W => ∃ (k : Nat) (ds : List Nat) (u : Nat → Value), m = l2.length - k ∧ k ≤ l2.length ∧ EMem l0 a1 l2 w w1 (some ad) c0 A2 c2 k ds W ∧
    a = { tmps := List.toArray ((.slice (some ad) l0.length c0 : Value) :: (.int .i64 a1 : Value) :: (.slice A2 l2.length c2 : Value) :: (.pointer (some ⟨w.heap.size, 0, none⟩) : Value) :: (.pointer (some ⟨w.heap.size + 1, 0, none⟩) : Value) :: (.pointer (some ⟨w.heap.size + 1 + 1, 0, none⟩) : Value) :: (.pointer (some ⟨w.heap.size + 1 + 1 + 1, 0, none⟩) : Value) :: (.int .i64 0 : Value) :: (.pointer (some ⟨w1.heap.size, 0, none⟩) : Value) :: u 9 :: u 10 :: (.slice (some ad) l0.length c0 : Value) :: (.int .i64 a1 : Value) :: (.slice A2 l2.length c2 : Value) :: (.int .i64 0 : Value) :: (.int .i64 0 : Value) :: (.bool false : Value) :: undef :: (.slice (some ad) l0.length c0 : Value) :: (.pointer (some ad) : Value) :: (.int .i64 (rd l0 0) : Value) :: (.slice A2 l2.length c2 : Value) :: (.int .i64 (l2.length : Int) : Value) :: (.int .i64 (k : Int) : Value) :: u 24 :: u 25 :: u 26 :: u 27 :: u 28 :: u 29 :: u 30 :: u 31 :: u 32 :: u 33 :: u 34 :: u 35 :: u 36 :: u 37 :: u 38 :: u 39 :: u 40 :: u 41 :: u 42 :: u 43 :: u 44 :: u 45 :: u 46 :: u 47 :: u 48 :: u 49 :: u 50 :: u 51 :: u 52 :: u 53 :: u 54 :: u 55 :: u 56 :: u 57 :: []), defers := ds.map fun D => { target := .collected D, args := #[] } }) l2.length ?start ?round
  case start =>
    refine ⟨0, [], fun i => undef, rfl, Nat.zero_le _, ⟨[], rd l0 0, .slice none 0 0, rfl, rfl, b3, b4, b5, b6, own_nil _ _ _ _, b8, bW, by omega, List.nodup_nil, (fun D h => by cases h), (fun D h => by cases h)⟩, rfl⟩
  case round =>
    rintro m a W ⟨k, ds, u, rfl, hk, ⟨xs, nx, v, hxs, hxl, e3, e4, e5, e6, hown, e8, hB, hsz, hnd, hdge, hds⟩, rfl⟩ J K hJ hK
    obtain ⟨A6, c6, rfl⟩ := own_slice hown
    have HXS := Aside0.mk hxs
    have HDS := Aside0.mk hds
    have HXL := Aside0.mk hxl
    clear b3 b4 b5 b6 b8 bW hxs hds hxl
    have fin : ∀ (T : Array Value) (D : Nat) (W' : World), T = List.toArray ((.slice (some ad) l0.length c0 : Value) :: (.int .i64 a1 : Value) :: (.slice A2 l2.length c2 : Value) :: (.pointer (some ⟨w.heap.size, 0, none⟩) : Value) :: (.pointer (some ⟨w.heap.size + 1, 0, none⟩) : Value) :: (.pointer (some ⟨w.heap.size + 1 + 1, 0, none⟩) : Value) :: (.pointer (some ⟨w.heap.size + 1 + 1 + 1, 0, none⟩) : Value) :: (.int .i64 0 : Value) :: (.pointer (some ⟨w1.heap.size, 0, none⟩) : Value) :: T.getD 9 undef :: T.getD 10 undef :: (.slice (some ad) l0.length c0 : Value) :: (.int .i64 a1 : Value) :: (.slice A2 l2.length c2 : Value) :: (.int .i64 0 : Value) :: (.int .i64 0 : Value) :: (.bool false : Value) :: undef :: (.slice (some ad) l0.length c0 : Value) :: (.pointer (some ad) : Value) :: (.int .i64 (rd l0 0) : Value) :: (.slice A2 l2.length c2 : Value) :: (.int .i64 (l2.length : Int) : Value) :: (.int .i64 ((k : Int) + 1) : Value) :: T.getD 24 undef :: T.getD 25 undef :: T.getD 26 undef :: T.getD 27 undef :: T.getD 28 undef :: T.getD 29 undef :: T.getD 30 undef :: T.getD 31 undef :: T.getD 32 undef :: T.getD 33 undef :: T.getD 34 undef :: T.getD 35 undef :: T.getD 36 undef :: T.getD 37 undef :: T.getD 38 undef :: T.getD 39 undef :: T.getD 40 undef :: T.getD 41 undef :: T.getD 42 undef :: T.getD 43 undef :: T.getD 44 undef :: T.getD 45 undef :: T.getD 46 undef :: T.getD 47 undef :: T.getD 48 undef :: T.getD 49 undef :: T.getD 50 undef :: T.getD 51 undef :: T.getD 52 undef :: T.getD 53 undef :: T.getD 54 undef :: T.getD 55 undef :: T.getD 56 undef :: T.getD 57 undef :: []) → EMem l0 a1 l2 w w1 (some ad) c0 A2 c2 (k + 1) (D :: ds) W' → k < l2.length →
        Handed J (l2.length - k) { tmps := T, defers := { target := .collected D, args := #[] } :: ds.map fun D => { target := .collected D, args := #[] } } W' := fun T D W' hT hm hlt =>
      ⟨l2.length - (k + 1), by omega, hJ _ _ _ ⟨k + 1, D :: ds, fun i => T.getD i undef, rfl, by omega, hm, by rw [show ((k + 1 : Nat) : Int) = (k : Int) + 1 by omega]; exact congrArg (fun T => (Act.mk T _)) hT⟩⟩
    by_cases hlt : k < l2.length
    · -- the box of k
      have d3 := blk_alloc e3 (.cells #[.int .i64 (k : Int)] 3)
      have d4 := blk_alloc e4 (.cells #[.int .i64 (k : Int)] 3)
      have d5 := blk_alloc e5 (.cells #[.int .i64 (k : Int)] 3)
      have d6 := blk_alloc e6 (.cells #[.int .i64 (k : Int)] 3)
      have d8 := blk_alloc e8 (.cells #[.int .i64 (k : Int)] 3)
      have d9 := blk_new W (.cells #[.int .i64 (k : Int)] 3)
      have dB := below_alloc hB (.cells #[.int .i64 (k : Int)] 3)
      have down := hown.alloc (.cells #[.int .i64 (k : Int)] 3)
      have dD : ∀ D ∈ ds, (W.alloc (.cells #[.int .i64 (k : Int)] 3)).heap[D]? = some (.deferred (some [])) := fun D hD => blk_alloc (HDS.out D hD) _
      obtain ⟨Wk, hWk⟩ : ∃ Wk, (W.alloc (.cells #[.int .i64 (k : Int)] 3)) = Wk := ⟨_, rfl⟩
      have HZK := Aside0.mk (show Wk.heap.size = W.heap.size + 1 by rw [← hWk]; simp)
      have hlk : W.heap.size < Wk.heap.size := by have := HZK.out; omega
      have HOW := Aside0.mk hown
      rw [hWk] at d3 d4 d5 d6 d8 d9 dB down dD
      have D3 := Aside0.mk d3
      have D4 := Aside0.mk d4
      have D5 := Aside0.mk d5
      have D6 := Aside0.mk d6
      have D8 := Aside0.mk d8
      have D9 := Aside0.mk d9
      have DD := Aside0.mk dD
      have HWK := Aside0.mk hWk
      have f6 := blk_cell d6 0
      have g6 := blk_frozen d6 0
      simp only [List.getElem?_toArray, List.getElem?_cons_zero] at f6
      clear e3 e4 e5 e6 e8 d3 d4 d5 d6 d8 d9 dD hown hB
      obtain ⟨i0, hi, hz0, hz1, hz2⟩ := info_parts info3
      have hle := dB.size
      gi_wp2_with (gi_at_builtin; refine wpListIn_append_own_at _ rfl _ _ 22 rfl (w1.heap.size + 1) 3 i0 (.int .i64 0) 1 8 Try.underlying22 hi hz0 hz1 hz2 rfl (by decide) _ _ _ rfl (down.alloc _) ⟨Wk.heap.size, 0, none⟩ 1 1 [.int .i64 (-1)] rfl rfl (cell_one_new _ _ _) (by simp [Value.oneCell']) (by simp only [maxLen]; omega) (by omega) (by simp; omega) ?_; intro v1 w2 hown2 hgrow _ hat; obtain ⟨g, cap, rfl⟩ := ownsRow_succ hown2; have hst := early_push hWk hz hsz D3.out D4.out D5.out D6.out D8.out D9.out dB DD.out HOW.out down hown2 hgrow hat; have f6b : w2.cell? ⟨w.heap.size + 1 + 1 + 1, 0, none⟩ = some (.slice A6 k c6) := blk_cell (blk_grown (blk_alloc D6.out _) hgrow (own_ne down D6.out (by decide))) 0; have g6b : w2.frozen? ⟨w.heap.size + 1 + 1 + 1, 0, none⟩ = false := blk_frozen (blk_grown (blk_alloc D6.out _) hgrow (own_ne down D6.out (by decide))) 0; clear hgrow hat f6 g6 hown2; obtain ⟨W3, hW3⟩ : ∃ W3, (w2.setCell ⟨w.heap.size + 1 + 1 + 1, 0, none⟩ (.slice (some ⟨g, 0, none⟩) (k + 1) cap)) = W3 := ⟨_, rfl⟩; have hz3 : w2.heap.size ≤ W3.heap.size := (by rw [← hW3]; simp); rw [hW3] at hst; obtain ⟨hE, hg9, hz23⟩ := hst; have HE := Aside0.mk hE; have f3 := blk_cell hE.b3 0; have f8 := blk_cell hE.b8 0; simp only [List.getElem?_toArray, List.getElem?_cons_zero] at f3 f8; clear hE)
      refine ⟨trivial, ?_⟩
      refine (from_in 2 _ _ _ _ _).mono ?_
      rintro e W5 ⟨rfl, hW5⟩
      have hE := HE.out
      have hsz3 : w1.heap.size + 1 ≤ W3.heap.size := by omega
      have hE5 := (hE.alloc hz hsz3 (.cells #[.slice (some ad) l0.length c0] 22)).alloc hz (by simp; omega) (.cells #[.int .i64 nx] 3)
      have bs := blk_alloc (blk_new W3 (.cells #[.slice (some ad) l0.length c0] 22)) (.cells #[.int .i64 nx] 3)
      have bd := blk_new (W3.alloc (.cells #[.slice (some ad) l0.length c0] 22)) (.cells #[.int .i64 nx] 3)
      rw [World.size_alloc] at bd
      have HZ5 := Aside0.mk (show W5.heap.size = W3.heap.size + 2 by rw [hW5]; simp)
      rw [← hW5] at hE5 bs bd
      have H5 := Aside0.mk hE5
      clear hE hE5 hW5 f3 f8 f6b g6b
      gi_wp2_with fail
      have hl5 : W3.heap.size < W5.heap.size := by have := HZ5.out; omega
      have hw5 : w.heap.size ≤ W5.heap.size := by omega
      have hDs : ∀ D ∈ ds, D < W5.heap.size := fun D hD => blk_lt (H5.out.ds D hD)
      obtain ⟨row, hrowE⟩ : ∃ row, l2[k] = row := ⟨_, rfl⟩
      refine wpIn_rangeFunc_ownG (show Fence.wide.round = none from rfl) (show 1 ≤ 3 by omega) (gf := 32) (lb := #[.pointer (some ⟨W3.heap.size, 0, none⟩), .pointer (some ⟨W3.heap.size + 1, 0, none⟩)]) rfl trivial (enters_of Try.func32 (by kernel_rfl) rfl)
        (from_stops 2 (by omega) W3.heap.size (W3.heap.size + 1) w (some ad) c0 l0 nx hr0 hc0 hasc (by omega) W5 H5.out.below bs bd) KpF_t (KpF_b (w := W5) hw5 hl5) (Below.refl _ _) (fun _ => rfl)
        (fun pre W' => EIn l0 a1 l2 w w1 (some ad) c0 A2 c2 k ds W.heap.size g cap (xs ++ [-1]) nx W' ∧ ∀ i ∈ pre, rd row ((i : Fin l0.length).1 : Int) < 0)
        (fun c pre W' => ∃ ini last, (c = .exit 2 ∧ pre = ini ++ [last] ∧ (∀ i ∈ ini, rd row ((i : Fin l0.length).1 : Int) < 0) ∧ 0 ≤ rd row (last.1 : Int)) ∧ EIn l0 a1 l2 w w1 (some ad) c0 A2 c2 k ds W.heap.size g cap (xs ++ [(last.1 : Int)]) (rd l0 (last.1 : Int) + a1) W')
        ?hI ?hIx ⟨H5.out, fun i h => by cases h⟩
        (fun x => { tmps := List.toArray ((.slice (some ad) l0.length c0 : Value) :: (.int .i64 a1 : Value) :: (.slice A2 l2.length c2 : Value) :: (.pointer (some ⟨w.heap.size, 0, none⟩) : Value) :: (.pointer (some ⟨w.heap.size + 1, 0, none⟩) : Value) :: (.pointer (some ⟨w.heap.size + 1 + 1, 0, none⟩) : Value) :: (.pointer (some ⟨w.heap.size + 1 + 1 + 1, 0, none⟩) : Value) :: (.int .i64 0 : Value) :: (.pointer (some ⟨w1.heap.size, 0, none⟩) : Value) :: (.pointer (some ⟨W.heap.size, 0, none⟩) : Value) :: (.int .i64 (x.1 : Int) : Value) :: (.slice (some ad) l0.length c0 : Value) :: (.int .i64 a1 : Value) :: (.slice A2 l2.length c2 : Value) :: (.int .i64 0 : Value) :: (.int .i64 0 : Value) :: (.bool false : Value) :: undef :: (.slice (some ad) l0.length c0 : Value) :: (.pointer (some ad) : Value) :: (.int .i64 (rd l0 0) : Value) :: (.slice A2 l2.length c2 : Value) :: (.int .i64 (l2.length : Int) : Value) :: (.int .i64 (k : Int) : Value) :: (.bool true : Value) :: (.int .i64 (k : Int) : Value) :: (.slice A6 k c6 : Value) :: (.slice (some ⟨Wk.heap.size, 0, none⟩) 1 1 : Value) :: (.slice (some ⟨g, 0, none⟩) (k + 1) cap : Value) :: (.slice (some ad) l0.length c0 : Value) :: (.int .i64 nx : Value) :: (.func (.func 32) #[] #[.pointer (some ⟨W3.heap.size, 0, none⟩), .pointer (some ⟨W3.heap.size + 1, 0, none⟩)] : Value) :: (.int .i64 (x.1 : Int) : Value) :: u 33 :: u 34 :: u 35 :: u 36 :: u 37 :: u 38 :: u 39 :: u 40 :: u 41 :: u 42 :: u 43 :: u 44 :: u 45 :: u 46 :: u 47 :: u 48 :: u 49 :: u 50 :: u 51 :: u 52 :: u 53 :: u 54 :: u 55 :: u 56 :: u 57 :: []), defers := [] }) ?assign ?body ?done ?stop
      case hI =>
        intro s X Y row' hs hg hr
        exact ⟨EIn.ownFrom (f := fun _ : Unit => xs ++ [-1]) (φ := fun _ => nx) hz hw5 hDs () X Y row' hs.1 hg hr, hs.2⟩
      case hIx =>
        rintro c s X Y row' ⟨ini, last, h1, h2⟩ hg hr
        exact ⟨ini, last, h1, EIn.ownFrom (f := fun _ : Unit => xs ++ [(last.1 : Int)]) (φ := fun _ => rd l0 (last.1 : Int) + a1) hz hw5 hDs () X Y row' h2 hg hr⟩
      case assign =>
        intro l x W K hK
        gi_wp2
        exact hK
      case body =>
        rintro l pre x Wb ⟨hE, hneg⟩ _
        have hmx : Try.prog.follows .mixedOrders = true := by kernel_rfl
        have HEb := Aside0.mk hE
        have f5 := blk_cell hE.b5 0
        have f9 := blk_cell hE.b9 0
        simp only [List.getElem?_toArray, List.getElem?_cons_zero] at f5 f9
        obtain ⟨ad2, A', c', hA2, hx2, hcw, hrw⟩ := at_L1 (hrW2 _ hE.below) (k : Int) (by omega) (by omega)
        have hr1 : rd_L1 l2 (k : Int) = row := by rw [← hrowE]; simp [rd_L1, List.getElem?_eq_getElem hlt]
        have hrl : row.length = l0.length := (hrow row (by rw [← hrowE]; exact List.getElem_mem _)).1
        have hxl := x.2
        rw [hr1] at hx2 hcw hrw
        obtain ⟨ad3, hA', hx3⟩ := Kd.at_int hrw (x.1 : Int) (by omega) (by omega)
        subst hA2 hA'
        rw [Int.toNat_natCast] at hx2 hx3
        clear hE
        have hg3 := HE.out.own_g
        by_cases hc : 0 ≤ rd row (x.1 : Int)
        · have hc' : decide (0 ≤ rd row (x.1 : Int)) = true := decide_eq_true hc
          have HC := Aside0.mk hc
          clear hc
          gi_wp2
          have hE := HEb.out
          clear f5 f9 hx2 hx3
          obtain ⟨Wa, hWa⟩ : ∃ Wa, Wb.setCell ⟨g, k, none⟩ (.int .i64 (x.1 : Int)) = Wa := ⟨_, rfl⟩
          obtain ⟨Wc, hWc⟩ : ∃ Wc, Wa.setCell ⟨w1.heap.size, 0, none⟩ (.int .i64 (rd l0 (x.1 : Int) + a1)) = Wc := ⟨_, rfl⟩
          have hset : (xs ++ [-1]).set k (x.1 : Int) = xs ++ [(x.1 : Int)] := by rw [← HXL.out, List.set_append_right _ _ (by omega)]; simp
          have hEa := hE.put hz hg9 (x.1 : Int)
          have hEc := hEa.next hz (by omega) (rd l0 (x.1 : Int) + a1)
          rw [hset, hWa] at hEa hEc
          rw [hWc] at hEc
          obtain ⟨us, hu0, hu1, hu2, hus⟩ := three_worlds Wb.drew Wa.drew Wc.drew
          have rd3 : ∀ n, (us n).cell? ⟨w.heap.size, 0, none⟩ = some (.slice (some ad) l0.length c0) := hus (fun W' => W'.cell? ⟨w.heap.size, 0, none⟩ = some (.slice (some ad) l0.length c0)) (blk_cell hE.b3 0) (blk_cell hEa.b3 0) (blk_cell hEc.b3 0)
          have rd4 : ∀ n, (us n).cell? ⟨w.heap.size + 1, 0, none⟩ = some (.int .i64 a1) := hus (fun W' => W'.cell? ⟨w.heap.size + 1, 0, none⟩ = some (.int .i64 a1)) (blk_cell hE.b4 0) (blk_cell hEa.b4 0) (blk_cell hEc.b4 0)
          have rd6 : ∀ n, (us n).cell? ⟨w.heap.size + 1 + 1 + 1, 0, none⟩ = some (.slice (some ⟨g, 0, none⟩) (k + 1) cap) := hus (fun W' => W'.cell? ⟨w.heap.size + 1 + 1 + 1, 0, none⟩ = some (.slice (some ⟨g, 0, none⟩) (k + 1) cap)) (blk_cell hE.b6 0) (blk_cell hEa.b6 0) (blk_cell hEc.b6 0)
          have rd9 : ∀ n, (us n).cell? ⟨W.heap.size, 0, none⟩ = some (.int .i64 (k : Int)) := hus (fun W' => W'.cell? ⟨W.heap.size, 0, none⟩ = some (.int .i64 (k : Int))) (blk_cell hE.b9 0) (blk_cell hEa.b9 0) (blk_cell hEc.b9 0)
          have atx : ∀ W', Below w.heap.size w W' → W'.cell? (ad.add x.1) = some (.int .i64 (rd l0 (x.1 : Int))) := fun W' hB' => by
            obtain ⟨ad', ea, hx⟩ := Kd.at_int (hrW _ hB') (x.1 : Int) (by omega) (by omega)
            obtain rfl : ad = ad' := Option.some.inj ea
            rwa [Int.toNat_natCast] at hx
          have rdx : ∀ n, (us n).cell? (ad.add x.1) = some (.int .i64 (rd l0 (x.1 : Int))) := hus (fun W' => W'.cell? (ad.add x.1) = some (.int .i64 (rd l0 (x.1 : Int)))) (atx _ (below_drew hE.below)) (atx _ (below_drew hEa.below)) (atx _ (below_drew hEc.below))
          refine wpIn_region_stores (ro := some l) 10 us hmx (by kernel_rfl) hu0 ?_
          simp only [List.take_succ_cons, List.take_zero, List.length_cons, List.length_nil, Nat.reduceAdd, Nat.reduceSub]
          repeat (gi_big_quiet_step (fail))
          refine wpQuietIn_nil ⟨fun j hj o ho => ?_, ?_⟩
          · match j, hj with
            | 0, _ =>
              simp only [Nat.add_zero, List.getElem?_cons_succ, List.getElem?_cons_zero, Option.some.injEq] at ho
              subst ho
              rw [hu0, hu1]
              have c1 := (own_at hE.own (k : Int) (by omega) (by omega)).1
              have c2 := (own_at hE.own (k : Int) (by omega) (by omega)).2
              rw [Int.toNat_natCast] at c1 c2
              refine ⟨.skip, ?_, .inl rfl⟩
              rw [← hWa]
              simp [execOp, go_sem, c1, c2]
            | 1, _ =>
              simp only [Nat.reduceAdd, List.getElem?_cons_succ, List.getElem?_cons_zero, Option.some.injEq] at ho
              subst ho
              rw [hu1, hu2]
              have c1 := blk_cell hEa.b8 0
              have c2 := blk_frozen hEa.b8 0
              simp only [List.getElem?_toArray, List.getElem?_cons_zero] at c1
              have hd0 : l0[x.1]? = some (rd l0 (x.1 : Int)) := by simp [rd, List.getD_eq_getElem?_getD, List.getElem?_eq_getElem x.2]
              have hd1 := hday _ (List.mem_of_getElem? hd0)
              refine ⟨.skip, ?_, .inl rfl⟩
              rw [← hWc]
              have hw := w64 (x := rd l0 (x.1 : Int) + a1) (by omega) (by omega)
              simp [execOp, go_sem, c1, c2, hw]
          · rw [hu2]
            gi_wp2
            have fr : ∀ b, b ≠ g → b ≠ w1.heap.size → Wc.heap[b]? = Wb.heap[b]? := fun b h1 h2 => by
              rw [← hWc, ← hWa, Below.heap_setCell _ _ _ b h2, Below.heap_setCell _ _ _ b h1]
            refine ⟨⟨?_, fun q o hq ho _ => (fr q (by omega) (by omega)).trans ho⟩, pre, x, ⟨rfl, rfl, hneg, HC.out⟩, hEc.drewN 1⟩
            show Wb.heap.size ≤ Wc.heap.size
            rw [← hWc, ← hWa]; simp
        · have hc' : decide (0 ≤ rd row (x.1 : Int)) = false := decide_eq_false hc
          gi_wp2
          refine ⟨⟨Nat.le_refl _, fun _ _ _ h _ => h⟩, ⟨Below.refl _ _, rfl⟩, HEb.out, fun i hi => ?_⟩
          rcases List.mem_append.1 hi with hi | hi
          · exact hneg i hi
          · cases List.mem_singleton.1 hi
            omega
      case done =>
        rintro D _ Wd hD rfl ⟨hE, hneg⟩ hDd
        have HEd := Aside0.mk hE
        have HDd := Aside0.mk hDd
        have HNg := Aside0.mk hneg
        have f6 := blk_cell hE.b6 0
        have f9 := blk_cell hE.b9 0
        have f8 := blk_cell hE.b8 0
        have g8 := blk_frozen hE.b8 0
        have fg := (own_at hE.own (k : Int) (by omega) (by omega)).1
        have hm1 : rd (xs ++ [-1]) (k : Int) = -1 := by rw [← HXL.out]; simp [rd]
        simp only [List.getElem?_toArray, List.getElem?_cons_zero] at f6 f9 f8
        rw [Int.toNat_natCast, hm1] at fg
        clear hE hneg hDd
        gi_wp2
        have hE := (HEd.out).next hz (by omega) 73049
        have hDd : (Wd.setCell ⟨w1.heap.size, 0, none⟩ (.int .i64 73049)).heap[D]? = some (.deferred (some [])) := (Below.heap_setCell _ _ _ D (by simp; omega)).trans HDd.out
        have hsW : w1.heap.size + 1 ≤ (Wd.setCell ⟨w1.heap.size, 0, none⟩ (.int .i64 73049)).heap.size := by have := blk_lt hDd; omega
        exact fin _ D _ rfl (hE.mem hDd (fun h => by have := hDs D h; omega) hnd (by omega) hdge hsW HXL.out rfl HXS.out (early_none hlt hrowE HNg.out)) hlt
      case stop =>
        rintro D c pre Wd hD hp ⟨ini, last, ⟨rfl, rfl, hneg, hge⟩, hE⟩ hDd
        have HEd := Aside0.mk hE
        have HDd := Aside0.mk hDd
        have HNg := Aside0.mk hneg
        have HP := Aside0.mk hp
        have HGE := Aside0.mk hge
        have f6 := blk_cell hE.b6 0
        have f9 := blk_cell hE.b9 0
        have fg := (own_at hE.own (k : Int) (by omega) (by omega)).1
        have hm1 : rd (xs ++ [(last.1 : Int)]) (k : Int) = (last.1 : Int) := by rw [← HXL.out]; simp [rd]
        simp only [List.getElem?_toArray, List.getElem?_cons_zero] at f6 f9
        rw [Int.toNat_natCast, hm1] at fg
        have hl0 : decide ((last.1 : Int) < 0) = false := decide_eq_false (by omega)
        clear hE hneg hDd hp hge
        gi_wp2
        have hsW : w1.heap.size + 1 ≤ Wd.heap.size := by have := blk_lt HDd.out; omega
        exact fin _ D _ rfl (HEd.out.mem HDd.out (fun h => by have := hDs D h; omega) hnd (by omega) hdge hsW HXL.out rfl HXS.out (early_some hlt hrowE HP.out HNg.out HGE.out)) hlt
    · obtain rfl : k = l2.length := by omega
      have f6 := blk_cell e6 0
      have g6 := blk_frozen e6 0
      simp only [List.getElem?_toArray, List.getElem?_cons_zero] at f6
      have HE6 := Aside0.mk e6
      clear e3 e4 e5 e6 e8
      have HHO := Aside0.mk hown
      have HBB := Aside0.mk hB
      clear hown hB
      gi_wp2
      obtain ⟨Wr, hWr⟩ : ∃ Wr, W.setCell ⟨w.heap.size + 1 + 1 + 1, 0, none⟩ (.slice A6 l2.length c6) = Wr := ⟨_, rfl⟩
      have r6 : Wr.heap[w.heap.size + 1 + 1 + 1]? = some (.cells #[.slice A6 l2.length c6] 22 (0, 0)) := by rw [← hWr]; exact blk_set HE6.out 0 _
      have fr : ∀ b, b ≠ w.heap.size + 1 + 1 + 1 → Wr.heap[b]? = W.heap[b]? := fun b hb => by rw [← hWr]; exact Below.heap_setCell W _ _ b hb
      have rB : Below w.heap.size w Wr := by rw [← hWr]; exact below_set HBB.out (by omega)
      have rO : Wr.ownsRow (w1.heap.size + 1) 3 1 (.slice A6 l2.length c6) l2.length (nums .i64 xs) := by
        rw [← hWr]
        exact own_setCell HHO.out (fun e => by have := own_base HHO.out _ e.symm; simp at this; omega) _
      have hxE : earlyGo l0 a1 l2 (rd l0 0) = xs := by rw [HXS.out]; simp [earlyGo]
      rw [hWr]
      refine leaves_marks (by simp) ds Wr hnd (fun D hD => (fr D (fun e => ?_)).trans (HDS.out D hD)) (fun W' hW' => ?_)
      · have := HDS.out D hD
        rw [e, HE6.out] at this; cases this
      · have hnD : ∀ b cs t, Wr.heap[b]? = some (.cells cs t (0, 0)) → b ∉ ds := fun b cs t hb hD => by
          have h1 := HDS.out b hD
          by_cases e : b = w.heap.size + 1 + 1 + 1
          · rw [e, HE6.out] at h1; cases h1
          · rw [fr b e, h1] at hb; cases hb
        have hc5 := blk_cell ((hW'.block _ (hnD _ _ _ r6)).trans r6) 0
        simp only [List.getElem?_toArray, List.getElem?_cons_zero] at hc5
        refine ⟨.tuple #[.slice A6 l2.length c6, .int .i64 0], by simp [results, Try.results13, go_sem, hc5], .slice A6 l2.length c6, rfl, ?_, ?_⟩
        · rw [hxE]
          refine Kd.R_of_own (ok := fun _ => True) ?_ (fun _ _ => trivial)
          rw [HXL.out]
          rcases rO.2 with ⟨h1, h2⟩ | ⟨g', cap', cur, he, hb, hh, hr'⟩
          · exact ⟨rO.1, .inl ⟨h1, h2⟩⟩
          · exact ⟨rO.1, .inr ⟨g', cap', cur, he, by omega, (hW'.block _ (hnD g' _ _ hh)).trans hh, hr'⟩⟩
        · exact ⟨hW'.os.trans rB.os, hW'.tape.trans rB.tape, hW'.output.trans rB.output, Nat.le_trans rB.size hW'.size, fun q hq => (hW'.block q (fun h => by have := hdge q h; omega)).trans (rB.block q hq)⟩
end PC
def rounds_Earliest.f (l0 : List Int) (a1 : Int) (l2 : List (List Int)) : Option (List Int × Int) :=
  if PC.checkS l0 a1 l2 = 0 then some (PC.earlyGo l0 a1 l2 (rd l0 0), 0) else some ([], PC.checkS l0 a1 l2)
theorem rounds_Earliest.calls (A0 : Option Addr) (c0 : Nat) (l0 : List Int) (a1 : Int) (A2 : Option Addr) (c2 : Nat) (l2 : List (List Int)) (r1 : List Int) (r2 : Int) (w : World) (hr0 : Kd.C (Kd.int .i64) w A0 l0.length l0) (hc0 : l0.length ≤ c0) (hr2 : Kd.C (Kd.slice 3 (Kd.int .i64)) w A2 l2.length l2) (hc2 : l2.length ≤ c2) (h : rounds_Earliest.f l0 a1 l2 = some (r1, r2)) :
    Calls Try.prog 13 #[.slice A0 l0.length c0, .int .i64 a1, .slice A2 l2.length c2] w fun e w' => ∃ v0_ : Value, e = .returned (.tuple #[v0_, .int .i64 r2]) ∧ Kd.R (Kd.int .i64) 3 w' w.heap.size (fun _ => True) v0_ r1 ∧ Below w.heap.size w w' := by
  unfold rounds_Earliest.f at h
  by_cases hc : PC.checkS l0 a1 l2 = 0
  · rw [if_pos hc] at h
    cases h
    exact PC.early_good A0 c0 l0 a1 A2 c2 l2 w hr0 hc0 hr2 hc2 hc
  · rw [if_neg hc] at h
    cases h
    refine (PC.early_bad A0 c0 l0 a1 A2 c2 l2 w hr0 hc0 hr2 hc2 hc).mono ?_
    rintro e w' ⟨rfl, hb⟩
    exact ⟨_, rfl, Kd.R_of_own (ok := fun _ => True) (own_nil _ _ _ _) (fun _ _ => trivial), hb⟩

end Go.Proofs.Ytaagpnbnjdpjgaa.X
