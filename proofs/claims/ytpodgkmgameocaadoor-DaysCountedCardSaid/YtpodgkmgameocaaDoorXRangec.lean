/- Proved here: a law for a range over an iterator that writes cells of its own (RC) -/
import Derived.Test.YtpodgkmgameocaaDoorX0
import Derived.RangeFuncWrites
namespace Go.Proofs.YtpodgkmgameocaaDoor.X
open Go.RowKit Go.Proofs.YtpodgkmgameocaaDoorW.PrintWords Go.Proofs.YtpodgkmgameocaaDoorW.PrintLast Go.Proofs.YtpodgkmgameocaaDoorW.PrintMore
attribute [local go_sem] max2_int min2_int max_two min_two max_three min_three max_four min_four
set_option linter.unusedVariables false
set_option linter.unusedSimpArgs false
namespace RC
open Go
/-- What the iterator may turn: the blocks from ga on that lay when the loop began, and its own first block. -/
def Zone (ga sz k : Nat) : Prop := (ga ≤ k ∧ k < sz) ∨ k = sz + 2
/-- The caller's word abides the iterator's steps. -/
def Abide {α : Type} (ga sz : Nat) (J : List α → World → Prop) : Prop := ∀ s A B row, J s A → A.grownBy B row → (∀ r, row = some r → Zone ga sz r) → J s B
/-- What a round keeps. -/
def KeepZ (gw ga sz : Nat) (A B : World) : Prop := RowKit.Below gw A B ∧ ∀ k, Zone ga sz k → k < A.heap.size → B.heap[k]? = A.heap[k]?
theorem below_putObj {B l : Nat} (W : World) (o : Obj) (h : B ≤ l) : RowKit.Below B W (W.putObj l o) :=
  ⟨rfl, rfl, rfl, by rw [World.putObj_size]; exact Nat.le_refl _, fun k hk => World.putObj_heap_other (by omega)⟩
/-- An iterator that hands over xs, and writes in its zone alone. -/
def SeqC {α : Type} (F : Fence) (n : Nat) (P : Program) (g : Nat) (lb : Array Value) (encs : α → Array Value) (gw ga : Nat) (xs : List α) (w : World) : Prop :=
  ∀ (l : Nat) (J : List α → World → Prop) (W : World), W.heap.size = w.heap.size + 2 → w.grownBy W none → Abide ga w.heap.size J →
    (∀ pre x W1, J pre W1 → pre ++ [x] <+: xs → w.heap.size + 2 < W1.heap.size → YieldAt F (n - 1) P l (encs x) W1 fun e W' => e = .returned (.bool true) ∧ J (pre ++ [x]) W' ∧ KeepZ gw ga w.heap.size W1 W') →
    J [] W → CallsIn F n P g (#[.func (.yield l) #[] #[]] ++ lb) W fun e W' => (∃ v, e = .returned v) ∧ J xs W'
/-- A round's end. -/
def postC {α : Type} (gw ga sz : Nat) (I : List α → World → Prop) (s : List α) (W : World) : Exit → Act → World → Prop
  | .normal, _, W' => RowKit.Below gw W W' ∧ (∀ k, (ga ≤ k ∧ k ≤ sz + 2) → k < W.heap.size → W'.heap[k]? = W.heap[k]?) ∧ I s W'
  | _, _, _ => False
variable {F : Fence} {n : Nat} {P : Program}
theorem wpIn_rangeC {α : Type} {g : Operand} {ps : Array Tmp} {assign body : Code} {Q : Exit → Act → World → Prop} {a : Act} {w : World}
    (hro : F.round = none) (h1 : 1 ≤ n) {gf : Nat} {lb : Array Value} (hg : a.eval g = .func (.func gf) #[] lb) (hFg : F.fn gf) (eg : ∀ args w, (callFunc gf args).run P w = .ok (.enter gf args) w)
    {encs : α → Array Value} {gw ga : Nat} {xs : List α} (hseq : SeqC F (n - 1) P gf lb encs gw ga xs w) (hgw : gw ≤ w.heap.size) (hga : ga ≤ w.heap.size) (hps : ∀ x, (encs x).size = ps.size)
    (I : List α → World → Prop) (hI : ∀ s A B row, I s A → A.grownBy B row → (∀ r, row = some r → ga ≤ r ∧ r ≤ w.heap.size + 2) → I s B) (h0 : I [] w)
    (Rel : α → Act → World → Prop) (hRel : ∀ x a A B, Rel x a A → A.grownBy B (some (w.heap.size + 1)) → Rel x a B)
    (hassign : ∀ (l : Nat) (x : α) (W : World) (K : Act → World → Prop), w.heap.size + 2 < W.heap.size → (∀ a' W', W.grownBy W' none → Rel x a' W' → K a' W') →
      assign.wpIn (F.inRound l) (n - 1 - 1) P (Exit.then K (fun _ _ _ => False)) { tmps := (ps.zip (encs x)).foldl (fun t (p, v) => t.setIfInBounds p v) a.tmps, defers := [] } W)
    (hbody : ∀ (l : Nat) (pre : List α) (x : α) (a' : Act) (W : World), I pre W → Rel x a' W → pre ++ [x] <+: xs → w.heap.size + 2 < W.heap.size → body.wpIn (F.inRound l) (n - 1 - 1) P (postC gw ga w.heap.size I (pre ++ [x]) W) a' W)
    (hdone : ∀ (W : World), I xs W → W.heap[w.heap.size]? = some (.deferred (some [])) → Q .normal { a with defers := { target := .collected w.heap.size, args := #[] } :: a.defers } W) :
    (Code.rangeFunc g ps assign body).wpIn F n P Q a w := by
  refine wpIn_rangeFunc fun fn hfn => ?_
  rw [hro]
  obtain ⟨S, hS⟩ : ∃ S, S = w.heap.size := ⟨_, rfl⟩
  obtain ⟨rec, hrec⟩ : ∃ rec : LoopState → Loop, rec = fun st => { state := st, pending := none, fn, tmps := a.tmps, params := ps, assign, body, defers := S } := ⟨_, rfl⟩
  obtain ⟨W1, hW1⟩ : ∃ W1, (w.alloc (.deferred (some []))).alloc (.loop (rec .ready)) = W1 := ⟨_, rfl⟩
  have hz1 : W1.heap.size = S + 2 := by rw [← hW1, hS]; simp
  have hL1 : W1.heap[S + 1]? = some (.loop (rec .ready)) := by
    rw [← hW1]
    have := World.alloc_heap_new (w.alloc (.deferred (some []))) (.loop (rec .ready))
    rwa [World.size_alloc, ← hS] at this
  have hD1 : W1.heap[S]? = some (.deferred (some [])) := by
    rw [← hW1, hS]
    exact (Below.heap_alloc _ _ _ (by simp)).trans (World.alloc_heap_new w _)
  have hg1 : w.grownBy W1 none := by
    rw [← hW1]
    exact (World.grownBy_alloc w _ none).trans (World.grownBy_alloc _ _ none)
  have hI1 : I [] W1 := hI _ _ _ none h0 hg1 (fun r e => by cases e)
  refine ⟨S + 1, [{ target := .collected S, args := #[] }], W1, { target := .fn (.func gf) lb, args := #[.func (.yield (S + 1)) #[] #[]] }, W1, gf, #[.func (.yield (S + 1)) #[] #[]] ++ lb, W1, ?_, ?_, ?_, ?_, fun _ => h1, ?_⟩
  · rw [← hW1, hrec, hS]; exact run_enterLoop_outer _ _ _ _ _
  · simp only [resolve, hg]
    simp [go_sem]
  · intro f' hf'
    simp [Target.leads] at hf'
    subst hf'
    exact hFg
  · simp [invoke, go_sem, eg]
  · refine (hseq (S + 1) (fun pre W => I pre W ∧ W.heap[S + 1]? = some (.loop (rec .ready)) ∧ W.heap[S]? = some (.deferred (some []))) W1 (by rw [hz1, hS]) hg1 ?_ ?_ ⟨hI1, hL1, hD1⟩).mono ?_
    · rintro s A B row ⟨h1, h2, h3⟩ hgr hr
      have lt {k : Nat} {o : Obj} (h : A.heap[k]? = some o) : k < A.heap.size := (Array.getElem?_eq_some_iff.1 h).1
      refine ⟨hI s A B row h1 hgr (fun r e => ?_), (hgr.block _ (lt h2) (fun e => ?_)).trans h2, (hgr.block _ (lt h3) (fun e => ?_)).trans h3⟩
      · rcases hr r e with h | h <;> omega
      · rcases hr _ e.symm with h | h <;> omega
      · rcases hr _ e.symm with h | h <;> omega
    · rintro pre x W ⟨hi, hl, hk⟩ hpre hsz
      have hy := run_yield (P := P) (args := encs x) hl (by rw [hrec]; exact hps x)
      rw [hrec] at hy
      refine ⟨fn, _, assign, body, hy, roundIn_of_wpIn hfn (hassign _ x W _ hsz (fun a1 W1 hgW hrelW => ?_))⟩
      have ltW {k : Nat} {o : Obj} (h : W.heap[k]? = some o) : k < W.heap.size := (Array.getElem?_eq_some_iff.1 h).1
      have hl' := (hgW.block _ (ltW hl) (fun e => by cases e)).trans hl
      have hk' := (hgW.block _ (ltW hk) (fun e => by cases e)).trans hk
      have hi' := hI _ _ _ none hi hgW (fun r e => by cases e)
      have hszW : w.heap.size + 2 < W1.heap.size := Nat.lt_of_lt_of_le hsz hgW.size
      have hBW : RowKit.Below gw W W1 := ⟨hgW.os, hgW.tape, hgW.output, hgW.size, fun k hk => hgW.block k (by omega) (fun e => by cases e)⟩
      refine ⟨_, run_beginRound hl' (by rw [hrec]), ?_⟩
      have hg2 := grownBy_putObj' W1 (S + 1) (.loop { rec .ready with state := .busy })
      have hl2 : (W1.putObj (S + 1) (.loop { rec .ready with state := .busy })).heap[S + 1]? = some (.loop { rec .ready with state := .busy }) := World.putObj_heap_same (by omega)
      have hk2 : (W1.putObj (S + 1) (.loop { rec .ready with state := .busy })).heap[S]? = some (.deferred (some [])) := (World.putObj_heap_other (by omega)).trans hk'
      refine wpIn_mono (hbody _ pre x a1 _ (hI _ _ _ _ hi' hg2 (fun r e => by cases e; omega)) (hRel _ _ _ _ hrelW (by rw [← hS]; exact hg2)) hpre (by rw [World.putObj_size]; exact hszW)) ?_
      rintro e a3 W3 hp
      cases e with
      | normal =>
        obtain ⟨hB, hk3, hi3⟩ := hp
        have hz := hB.size
        rw [World.putObj_size] at hz hk3
        have hl3 := (hk3 (S + 1) ⟨by omega, by omega⟩ (by omega)).trans hl2
        have hk4 := (hk3 S ⟨by omega, by omega⟩ (by omega)).trans hk2
        have hr := run_endRound (P := P) none hl3
        refine ⟨_, _, hr, rfl, ⟨hI _ _ _ _ hi3 (grownBy_putObj' W3 (S + 1) _) (fun r e => by cases e; omega), ?_, (World.putObj_heap_other (by omega)).trans hk4⟩, ((hBW.trans (below_putObj W1 _ (by omega))).trans hB).trans (below_putObj W3 _ (by omega)), fun k hk hlt => ?_⟩
        · rw [hrec]
          exact World.putObj_heap_same (by omega)
        · have hne : k ≠ S + 1 := by rcases hk with h | h <;> omega
          rw [World.putObj_heap_other hne, hk3 k (by rcases hk with h | h <;> omega) (Nat.lt_of_lt_of_le hlt hgW.size), World.putObj_heap_other hne, hgW.block k hlt (fun e => by cases e)]
      | ret => exact hp.elim
      | exit id => exact hp.elim
      | goto t => exact hp.elim
      | panic ch => exact hp.elim
      | outgrown => exact hp.elim
    · rintro e W2 ⟨⟨v, rfl⟩, hi, hl, hk⟩
      have hr := run_endLoop (P := P) hl (by rw [hrec]; simp)
      rw [hrec] at hr
      refine ⟨none, _, hr, ?_⟩
      rw [hS] at hk ⊢
      exact hdone _ (hI _ _ _ _ hi (grownBy_putObj' W2 (w.heap.size + 1) _) (fun r e => by cases e; omega)) ((World.putObj_heap_other (by omega)).trans hk)
end RC
end Go.Proofs.YtpodgkmgameocaaDoor.X
