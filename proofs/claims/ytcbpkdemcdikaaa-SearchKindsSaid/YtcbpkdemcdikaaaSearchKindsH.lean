/- Proved here: parts of the walk and of the plain law of SearchKinds, put into one text (names and lines made short by a program). -/
import Derived.Test.YtcbpkdemcdikaaaSearchKindsD
import Derived.RangeFuncWrites
namespace Go.Proofs.Ytcbpkdemcdikaaa.X
open Go.RowKit Go.Proofs.YtcbpkdemcdikaaaW.PrintWords Go.Proofs.YtcbpkdemcdikaaaW.PrintLast Go.Proofs.YtcbpkdemcdikaaaW.PrintMore
attribute [local go_sem] ay az aN aM ao ap aw ax
set_option linter.unusedVariables false
set_option linter.unusedSimpArgs false
namespace RO
open Go
def SeqOnce (F : Fence) (n : Nat) (P : Program) (g : Nat) (lb : Array Value) (Yes : Prop) (Y : Array Value → World → Prop) (w : World) : Prop :=
  ∀ (l : Nat) (Jx : World → Prop) (W : World), W.heap.size = w.heap.size + 2 → w.grownBy W none →
    (∀ args W1, Yes → Y args W1 → RowKit.Below W.heap.size W W1 → YieldAt F (n - 1) P l args W1 fun e W' => e = .returned (.bool false) ∧ Jx W') →
    CallsIn F n P g (#[.func (.yield l) #[] #[]] ++ lb) W fun e W' => (∃ v, e = .returned v) ∧ ((¬ Yes ∧ RowKit.Below W.heap.size W W') ∨ (Yes ∧ Jx W'))
def postO (B : Nat) (Ix : Code → World → Prop) (W : World) : Exit → Act → World → Prop
  | .ret, _, W' => KeepsFrom B W W' ∧ Ix .ret W'
  | .exit id, _, W' => KeepsFrom B W W' ∧ Ix (.exit id) W'
  | .goto t, _, W' => KeepsFrom B W W' ∧ Ix (.goto t) W'
  | _, _, _ => False
variable {F : Fence} {n : Nat} {P : Program}
theorem dU {g : Operand} {ps : Array Tmp} {assign body : Code} {Q : Exit → Act → World → Prop} {a : Act} {w : World}
    (hro : F.round = none) (h1 : 1 ≤ n) {gf : Nat} {lb : Array Value} (hg : a.eval g = .func (.func gf) #[] lb) (hFg : F.fn gf) (eg : ∀ args w, (callFunc gf args).run P w = .ok (.enter gf args) w)
    {Yes : Prop} {Y : Array Value → World → Prop} (hseq : SeqOnce F (n - 1) P gf lb Yes Y w) (hps : ∀ args W, Y args W → args.size = ps.size)
    (hY : ∀ args W o o', Y args W → W.heap[w.heap.size + 1]? = some o → o.isCells = false → Y args (W.putObj (w.heap.size + 1) o'))
    (Ix : Code → World → Prop) (hIx : ∀ c W o o', Ix c W → W.heap[w.heap.size + 1]? = some o → o.isCells = false → Ix c (W.putObj (w.heap.size + 1) o'))
    (a₁ : Array Value → Act)
    (hassign : ∀ (l : Nat) (args : Array Value) (W : World) (K : Act → World → Prop), Y args W → K (a₁ args) W →
      assign.wpIn (F.inRound l) (n - 1 - 1) P (Exit.then K (fun _ _ _ => False)) { tmps := (ps.zip args).foldl (fun t (p, v) => t.setIfInBounds p v) a.tmps, defers := [] } W)
    (hbody : ∀ (l : Nat) (args : Array Value) (W : World), Yes → Y args W → RowKit.Below w.heap.size w W → w.heap.size + 2 ≤ W.heap.size → body.wpIn (F.inRound l) (n - 1 - 1) P (postO w.heap.size Ix W) (a₁ args) W)
    (hdone : ∀ (W : World), ¬ Yes → RowKit.Below w.heap.size w W → W.heap[w.heap.size]? = some (.deferred (some [])) → Q .normal { a with defers := { target := .collected w.heap.size, args := #[] } :: a.defers } W)
    (hstop : ∀ (c : Code) (W : World), Yes → Ix c W → W.heap[w.heap.size]? = some (.deferred (some [])) → c.wpIn F n P Q { a with defers := { target := .collected w.heap.size, args := #[] } :: a.defers } W) :
    (Code.rangeFunc g ps assign body).wpIn F n P Q a w := by
  refine wpIn_rangeFunc ?_
  intro fn hfn
  rw [hro]
  obtain ⟨rec, hrec⟩ : ∃ rec : LoopState → Option Code → Loop, rec = fun st pe => { state := st, pending := pe, fn, tmps := a.tmps, params := ps, assign, body, defers := w.heap.size } := ⟨_, rfl⟩
  obtain ⟨W1, hW1⟩ : ∃ W1, (w.alloc (.deferred (some []))).alloc (.loop (rec .ready none)) = W1 := ⟨_, rfl⟩
  have hL1 : W1.heap[w.heap.size + 1]? = some (.loop (rec .ready none)) := by
    rw [← hW1]; have := World.alloc_heap_new (w.alloc (.deferred (some []))) (.loop (rec .ready none)); rwa [World.size_alloc] at this
  have hK1 : W1.heap[w.heap.size]? = some (.deferred (some [])) := by
    rw [← hW1]; exact (Below.heap_alloc _ _ _ (by simp)).trans (World.alloc_heap_new w _)
  have hz1 : W1.heap.size = w.heap.size + 2 := by rw [← hW1]; simp
  have hg1 : w.grownBy W1 none := by
    rw [← hW1]
    exact (World.grownBy_alloc w _ none).trans (World.grownBy_alloc _ _ none)
  have hb1 : RowKit.Below w.heap.size w W1 := by
    rw [← hW1]; exact ((RowKit.Below.refl _ w).alloc (Nat.le_refl _) _).alloc (by simp) _
  have put : ∀ (W : World) (o : Obj), RowKit.Below w.heap.size W (W.putObj (w.heap.size + 1) o) := fun W o =>
    ⟨rfl, rfl, rfl, by rw [World.putObj_size]; exact Nat.le_refl _, fun k hk => World.putObj_heap_other (by omega)⟩
  refine ⟨w.heap.size + 1, [{ target := .collected w.heap.size, args := #[] }], W1, { target := .fn (.func gf) lb, args := #[.func (.yield (w.heap.size + 1)) #[] #[]] }, W1, gf,
    #[.func (.yield (w.heap.size + 1)) #[] #[]] ++ lb, W1, ?_, ?_, ?_, ?_, fun _ => h1, ?_⟩
  · rw [← hW1, hrec]; exact run_enterLoop_outer _ _ _ _ _
  · simp only [resolve, hg]
    simp [go_sem]
  · intro f' hf'; simp [Target.leads] at hf'; subst hf'; exact hFg
  · simp [invoke, go_sem, eg]
  · refine (hseq (w.heap.size + 1)
      (fun W => ∃ c, Ix c W ∧ W.heap[w.heap.size + 1]? = some (.loop (rec .done (some c))) ∧ W.heap[w.heap.size]? = some (.deferred (some [])))
      W1 hz1 hg1 ?_).mono ?_
    · rintro args W hyes hyargs hbW
      have hl : W.heap[w.heap.size + 1]? = some (.loop (rec .ready none)) := (hbW.block _ (by omega)).trans hL1
      have hk : W.heap[w.heap.size]? = some (.deferred (some [])) := (hbW.block _ (by omega)).trans hK1
      have hlt : w.heap.size + 1 < W.heap.size := (Array.getElem?_eq_some_iff.1 hl).1
      have hy := run_yield (P := P) (args := args) hl (by rw [hrec]; exact hps args W hyargs)
      rw [hrec] at hy
      refine ⟨fn, _, assign, body, hy, roundIn_of_wpIn hfn (hassign _ args W _ hyargs ⟨_, run_beginRound hl (by rw [hrec]), ?_⟩)⟩
      have hl2 : (W.putObj (w.heap.size + 1) (.loop { rec .ready none with state := .busy })).heap[w.heap.size + 1]? = some (.loop { rec .ready none with state := .busy }) := World.putObj_heap_same hlt
      have hk2 : (W.putObj (w.heap.size + 1) (.loop { rec .ready none with state := .busy })).heap[w.heap.size]? = some (.deferred (some [])) := (World.putObj_heap_other (by omega)).trans hk
      refine wpIn_mono (hbody _ args _ hyes (hY args W _ _ hyargs hl rfl) (hb1.trans ((hbW.mono (by omega)).trans (put W _))) (by rw [World.putObj_size]; omega)) ?_
      have fin : ∀ (c : Code) (W3 : World), KeepsFrom w.heap.size (W.putObj (w.heap.size + 1) (.loop { rec .ready none with state := .busy })) W3 →
          (Instr.endRound (w.heap.size + 1) (some c)).run P W3 = .ok (.bool false) (W3.putObj (w.heap.size + 1) (.loop (rec .done (some c)))) ∧
          W3.heap[w.heap.size + 1]? = some (.loop { rec .ready none with state := .busy }) ∧
          (W3.putObj (w.heap.size + 1) (.loop (rec .done (some c)))).heap[w.heap.size + 1]? = some (.loop (rec .done (some c))) ∧
          (W3.putObj (w.heap.size + 1) (.loop (rec .done (some c)))).heap[w.heap.size]? = some (.deferred (some [])) := fun c W3 hk3 => by
        have hl3 := hk3.same _ _ (by omega) hl2 rfl
        have := run_endRound (P := P) (some c) hl3
        rw [hrec] at this ⊢
        exact ⟨this, by rw [hrec] at hl3; exact hl3, World.putObj_heap_same (Array.getElem?_eq_some_iff.1 hl3).1, (World.putObj_heap_other (by omega)).trans (hk3.same _ _ (Nat.le_refl _) hk2 rfl)⟩
      rintro e a3 W3 hp
      cases e with
      | normal => exact hp.elim
      | ret =>
        obtain ⟨hk3, hi3⟩ := hp
        obtain ⟨hr, hl3, hl4, hk4⟩ := fin .ret W3 hk3
        exact ⟨_, _, hr, rfl, .ret, hIx _ _ _ _ hi3 hl3 rfl, hl4, hk4⟩
      | exit id =>
        obtain ⟨hk3, hi3⟩ := hp
        obtain ⟨hr, hl3, hl4, hk4⟩ := fin (.exit id) W3 hk3
        exact ⟨_, _, hr, rfl, .exit id, hIx _ _ _ _ hi3 hl3 rfl, hl4, hk4⟩
      | goto t =>
        obtain ⟨hk3, hi3⟩ := hp
        obtain ⟨hr, hl3, hl4, hk4⟩ := fin (.goto t) W3 hk3
        exact ⟨_, _, hr, rfl, .goto t, hIx _ _ _ _ hi3 hl3 rfl, hl4, hk4⟩
      | panic ch => exact hp.elim
      | outgrown => exact hp.elim
    · rintro e W2 ⟨⟨v, rfl⟩, (⟨hno, hb2⟩ | ⟨hyes, c, hi, hl, hk⟩)⟩
      · have hl : W2.heap[w.heap.size + 1]? = some (.loop (rec .ready none)) := (hb2.block _ (by omega)).trans hL1
        have hk : W2.heap[w.heap.size]? = some (.deferred (some [])) := (hb2.block _ (by omega)).trans hK1
        exact ⟨none, _, by have := run_endLoop (P := P) hl (by rw [hrec]; simp); rw [hrec] at this; exact this, hdone _ hno (hb1.trans ((hb2.mono (by omega)).trans (put W2 _))) ((World.putObj_heap_other (by omega)).trans hk)⟩
      · exact ⟨some c, _, by have := run_endLoop (P := P) hl (by rw [hrec]; simp); rw [hrec] at this; exact this, hstop c _ hyes (hIx c _ _ _ hi hl rfl) ((World.putObj_heap_other (by omega)).trans hk)⟩
theorem g8 {g : Operand} {ps : Array Tmp} {body : Code} {Q : Exit → Act → World → Prop} {a : Act} {w : World}
    (hro : F.round = none) (h1 : 1 ≤ n) {gf : Nat} {lb : Array Value} (hg : a.eval g = .func (.func gf) #[] lb) (hFg : F.fn gf) (eg : ∀ args w, (callFunc gf args).run P w = .ok (.enter gf args) w)
    {Yes : Prop} {Y : Array Value → World → Prop} (hseq : SeqOnce F (n - 1) P gf lb Yes Y w) (hps : ∀ args W, Y args W → args.size = ps.size)
    (hY : ∀ args W o o', Y args W → W.heap[w.heap.size + 1]? = some o → o.isCells = false → Y args (W.putObj (w.heap.size + 1) o'))
    (Ix : Code → World → Prop) (hIx : ∀ c W o o', Ix c W → W.heap[w.heap.size + 1]? = some o → o.isCells = false → Ix c (W.putObj (w.heap.size + 1) o'))
    (hbody : ∀ (l : Nat) (args : Array Value) (W : World), Yes → Y args W → RowKit.Below w.heap.size w W → w.heap.size + 2 ≤ W.heap.size → body.wpIn (F.inRound l) (n - 1 - 1) P (postO w.heap.size Ix W) { tmps := (ps.zip args).foldl (fun t (p, v) => t.setIfInBounds p v) a.tmps, defers := [] } W)
    (hdone : ∀ (W : World), ¬ Yes → RowKit.Below w.heap.size w W → W.heap[w.heap.size]? = some (.deferred (some [])) → Q .normal { a with defers := { target := .collected w.heap.size, args := #[] } :: a.defers } W)
    (hstop : ∀ (c : Code) (W : World), Yes → Ix c W → W.heap[w.heap.size]? = some (.deferred (some [])) → c.wpIn F n P Q { a with defers := { target := .collected w.heap.size, args := #[] } :: a.defers } W) :
    (Code.rangeFunc g ps .skip body).wpIn F n P Q a w :=
  dU hro h1 hg hFg eg hseq hps hY Ix hIx (fun args => { tmps := (ps.zip args).foldl (fun t (p, v) => t.setIfInBounds p v) a.tmps, defers := [] }) (fun _ _ _ _ _ hK => wpIn_skip hK) hbody hdone hstop
end RO
end Go.Proofs.Ytcbpkdemcdikaaa.X
