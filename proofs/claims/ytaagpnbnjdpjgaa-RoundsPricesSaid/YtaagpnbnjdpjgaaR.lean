/- What this project needs beside the library for bodies of loops over functions: a region that draws its order, walked once, in a round's fence. -/
import Derived.Test.YtaagpnbnjdpjgaaWWords
import Derived.RangeFuncNested
import Derived.RangeFuncBound
import Derived.RangeFuncCalls
import Derived.RangeFuncLeaves
import Derived.RangeFuncBox
import Derived.Shelf.Abstract
import Derived.Shelf.RegionOpen
import Derived.OwnWalkIn
import Derived.TacticsInMore
import Derived.LoopNIn
import Derived.LoopIn
import Derived.Sort.QuietIn
import Derived.StillTailTactics
import Derived.Sort.LoopGhostIn
import Derived.Maps.OwnIn
import Derived.Maps.AppendAt
namespace Go.Proofs.Ytaagpnbnjdpjgaa.R
open Go Go.RowKit

def noDefer (o : Oper) : Bool := match o.op with | .defer _ => false | _ => true
theorem noDefer_spec {o : Oper} (h : noDefer o = true) : ∀ c, o.op ≠ .defer c := by
  intro c hc
  simp [noDefer, hc] at h

section
variable {F : Fence} {n : Nat} {P : Program} {ops : Array Oper} {Q : Exit → Act → World → Prop} {md : Region.Mode}
theorem wpOpIn_round {i : Nat} {K K' : Act → World → Prop} {a : Act} {w : World} (l : Nat) (hro : F.round = none) (hnd : ∀ o ∈ ops.toList, noDefer o = true) (hK : ∀ a w, K a w → K' a w)
    (h : wpOpIn F n P ops Q i K a w) : wpOpIn (F.inRound l) n P ops Q i K' a w := by
  have h := wpOpIn_mono hK h
  unfold wpOpIn at h ⊢
  cases ho : ops[i]? with
  | none => simpa [ho] using h
  | some o =>
    simp only [ho] at h ⊢
    have hn := noDefer_spec (hnd o (by rw [← Array.getElem?_toList] at ho; exact List.mem_of_getElem? ho))
    split
    · rename_i hw
      simp only [hw, if_true] at h
      unfold Oper.wpIn at h ⊢
      rw [hro, Oper.semAt_none] at h
      rw [show (F.inRound l).round = some l from rfl, Oper.semAt_some l _ _ hn]
      exact h
    · rename_i hw
      simp only [hw] at h
      exact h
theorem wpAnyIn_round (l : Nat) (hro : F.round = none) (hnd : ∀ o ∈ ops.toList, noDefer o = true) : ∀ (fuel : Nat) (listed : Array Bool) (a : Act) (w : World),
    wpAnyIn F n P md ops Q fuel listed a w → wpAnyIn (F.inRound l) n P md ops Q fuel listed a w
  | 0, _, _, _, h => h
  | fuel + 1, _, _, _, h => ⟨h.1, fun i hi => wpOpIn_round l hro hnd (fun a w => wpAnyIn_round l hro hnd fuel _ a w) (h.2 i hi)⟩
/-- A region that draws its order and only reads, in a round: one walk in the text's order. -/
theorem wpIn_region_quiet_round {id : Nat} {a : Act} {w : World} {ls : List Oper} {l : Nat} (hro : F.round = none) (hm : P.follows .mixedOrders = true) (hB : Region.lexB .any ls.toArray = true) (hnd : ls.all noDefer = true)
    (h : wpQuietIn F n P ls.toArray (fun w' => ∃ n, w' = w.drewN n) (fun a' => ∀ w', (∃ n, w' = w.drewN n) → Q .normal a' w') ls a) : (Code.region id ls.toArray true).wpIn (F.inRound l) n P Q a w := by
  simp only [Region.lexB, Bool.and_eq_true] at hB
  refine wpIn_region_any hm (wpAnyIn_round l hro (by simpa using hnd) _ _ _ _ ?_)
  refine wpAnyIn_of_quiet (C := fun w' => ∃ n, w' = w.drewN n) (Q := fun a' => ∀ w', (∃ n, w' = w.drewN n) → Q .normal a' w') hro (fun _ w' hw' h => h w' hw') _ _ _ _ ⟨1, rfl⟩ ?_
  have := wpAnyQIn_lex (F := F) (n := n) (C := fun w' => ∃ n, w' = w.drewN n) (md := .any) hB.1 ls 0 (Array.replicate ls.toArray.size false) a (by simp) (by simpa using hB.2) h
  simpa using this
end

/-! A region whose head only reads, and whose last operations stand in one forced order: in the wide fence, in a round or not. -/
section
variable {n : Nat} {P : Program} {ops : Array Oper} {md : Region.Mode} {ro : Option Nat} {w : World}
def wideR (ro : Option Nat) : Fence := { Fence.wide with round := ro }
theorem wpOpIn_of_stOp {i : Nat} {K : Act → Prop} {K' : Act → World → Prop} {Q' : Exit → Act → World → Prop} {a : Act} (hnd : ∀ o ∈ ops.toList, noDefer o = true) (h : ∀ a, K a → K' a w)
    (hh : stOp P ops w i K a) : wpOpIn (wideR ro) n P ops Q' i K' a w := by
  unfold stOp at hh
  unfold wpOpIn
  cases ho : ops[i]? with
  | none => simp only [ho] at hh ⊢; exact h _ hh
  | some o =>
    simp only [ho] at hh ⊢
    have hn := noDefer_spec (hnd o (by rw [← Array.getElem?_toList] at ho; exact List.mem_of_getElem? ho))
    split
    · rename_i hw
      simp only [hw, if_true] at hh
      refine ⟨fun _ _ => trivial, ?_⟩
      rw [Oper.semAt_eq _ _ _ hn]
      unfold Oper.still at hh
      generalize (execOp a.eval o).run P w = r at *
      cases r with
      | ok x w' =>
        cases x <;> simp only [Oper.stillUpon] at hh <;> simp only [Oper.uponIn]
        case enter f args =>
          obtain ⟨rfl, v, hc, hk⟩ := hh
          refine ⟨(fun hd => by cases hd), ?_⟩
          have hc' : CallsIn Fence.wide (n - 1) P f args w' _ := callsIn_wide.2 hc
          exact CallsIn.mono hc' (fun e w'' ⟨he, hw''⟩ => by subst he; subst hw''; exact h _ hk)
        case value v => obtain ⟨rfl, hk⟩ := hh; exact h _ hk
        case skip => obtain ⟨rfl, hk⟩ := hh; exact h _ hk
        all_goals exact hh.elim
      | halt x w' => simp only [Oper.stillUpon] at hh
    · rename_i hw
      simp only [hw] at hh
      exact ⟨fun _ _ => trivial, h _ hh⟩
theorem wpAnyIn_of_head {m g : Nat} {L : Array Bool → Act → Prop} {Q' : Exit → Act → World → Prop} (hnd : ∀ o ∈ ops.toList, noDefer o = true) (hL : ∀ listed a, L listed a → wpAnyIn (wideR ro) n P md ops Q' g listed a w) :
    ∀ (f : Nat) (listed : Array Bool) (a : Act), wpAnyL P md ops w m L f listed a → wpAnyIn (wideR ro) n P md ops Q' (f + g) listed a w
  | 0, listed, a, h => by rw [Nat.zero_add]; exact hL _ _ h
  | f + 1, listed, a, h => by
    rw [show f + 1 + g = (f + g) + 1 by omega]
    exact ⟨fun h0 => absurd h0 h.1, fun i hi => wpOpIn_of_stOp hnd (fun a' h' => wpAnyIn_of_head hnd hL f _ a' h') (h.2 i hi).2⟩
theorem wpAnyIn_of_seq {F : Fence} {Q' : Exit → Act → World → Prop} : ∀ (l : List Oper) (k : Nat) (listed : Array Bool) (a : Act) (w : World), (∀ j, l[j]? = ops[k + j]?) →
    Region.seqB md ops l.length k listed = true → wpListIn F n P ops Q' l a w → wpAnyIn F n P md ops Q' l.length listed a w
  | [], _, _, _, _, _, hB, h => ⟨by simpa [Region.seqB] using hB, h⟩
  | o :: l, k, listed, a, w, hl, hB, h => by
    have h0 : ops[k]? = some o := by simpa using (hl 0).symm
    simp only [List.length_cons, Region.seqB, Bool.and_eq_true, decide_eq_true_eq] at hB
    refine ⟨fun h1 => (by rw [hB.1] at h1; cases h1), fun i hi => ?_⟩
    rw [hB.1] at hi
    have hik : i = k := by simpa using hi
    subst hik
    have hw : wpOpIn F n P ops Q' i (wpListIn F n P ops Q' l) a w := by unfold wpOpIn; simp only [h0]; exact h
    exact wpOpIn_mono (fun a' w' h' => wpAnyIn_of_seq l (i + 1) _ a' w' (fun j => by have := hl (j + 1); simpa [Nat.add_assoc, Nat.add_comm 1 j] using this) hB.2 h') hw
theorem wpIn_region_still_tail {id : Nat} {Q : Exit → Act → World → Prop} {a : Act} {l : List Oper} (m : Nat) (hm : P.follows .mixedOrders = true) (hB : Region.lexTailB .any l.toArray m = true) (hnd : l.all noDefer = true)
    (h : wpStill P l.toArray w.drew (fun a' => wpListIn (wideR ro) n P l.toArray Q (l.drop m) a' w.drew) (l.take m) a) : (Code.region id l.toArray true).wpIn (wideR ro) n P Q a w := by
  simp only [Region.lexTailB, Bool.and_eq_true, decide_eq_true_eq] at hB
  obtain ⟨⟨⟨⟨hsel, hn⟩, hs⟩, hc⟩, hlex⟩ := hB
  have hn' : m < l.length := by simpa using hn
  have htl : (l.take m).length = m := by simp; omega
  have hdl : (l.drop m).length = l.toArray.size - m := by simp
  have inv0 : HeadInv .any l.toArray m (Array.replicate l.toArray.size false) :=
    ⟨by simp, fun j oj _ hl => (by rw [getD_replicate_false] at hl; cases hl), fun t _ ht => getD_in (by simpa using ht) (getD_replicate_false _ _)⟩
  have H := wpAnyL_lex (md := .any) (g := l.toArray.size - m) hsel hs hc hn (l.take m) 0 _ a (fun j hj => by
    have hj' : j < m := by rw [htl] at hj; exact hj
    simp [hj']) (by simpa using htl) inv0 (by rw [htl]; exact hlex) h
  refine wpIn_region_any hm ?_
  have := wpAnyIn_of_head (n := n) (ro := ro) (Q' := Q) (g := l.toArray.size - m) (by simpa using hnd) (fun listed a' hL => by
    have := wpAnyIn_of_seq (F := wideR ro) (n := n) (md := .any) (Q' := Q) (l.drop m) m listed a' w.drew (fun j => by simp [List.getElem?_drop]) (by rw [hdl]; exact hL.1) hL.2
    rwa [hdl] at this) _ _ _ H
  rw [htl, show m + (l.toArray.size - m) = l.toArray.size by omega] at this
  exact this
end

/-! A region whose first N operations only read (in every world of a class C), and whose other operations (stores) stand in one forced order, with reads floating among them: in the wide fence, in a round or not. -/
section
variable {F : Fence} {n : Nat} {P : Program} {ops : Array Oper} {md : Region.Mode} {ro : Option Nat} {C : World → Prop}
theorem wpAnyQIn_lexN {Q : Act → Prop} (hs : Region.noSelect ops = true) : ∀ (l : List Oper) (k : Nat) (listed : Array Bool) (a : Act), (∀ j, j < l.length → l[j]? = ops[k + j]?) →
    Region.lexFrom md ops l.length k listed = true → wpQuietIn F n P ops C Q l a → wpAnyQIn F n P md ops C Q l.length listed a
  | [], _, _, _, _, hB, h => ⟨by simpa [Region.lexFrom] using hB, h⟩
  | o :: l, k, listed, a, hl, hB, h => by
    have h0 : ops[k]? = some o := by simpa using (hl 0 (by simp)).symm
    simp only [List.length_cons, Region.lexFrom, Bool.and_eq_true] at hB
    obtain ⟨⟨hr, hf⟩, hB'⟩ := hB
    have hst : qOpIn F n P ops C k (wpQuietIn F n P ops C Q l) a := by unfold qOpIn; simp only [h0]; exact h
    obtain ⟨v, hy, hK⟩ := yieldsQuiet_of_qOpIn h0 hst
    exact wpAnyQIn_first h0 (Region.noSelect_spec hs) l.length listed a (Region.free_spec h0 hf) (by simpa using hr) hy
      (wpAnyQIn_lexN hs l (k + 1) _ _ (fun j hj => by have := hl (j + 1) (by simp; omega); simpa [Nat.add_assoc, Nat.add_comm 1 j] using this) hB' hK)

def plainOp (o : Oper) : Bool := match o.op with
  | .move _ | .assign _ | .pick .. | .load .. | .binOp .. | .unOp .. | .indexAddr .. | .index .. | .fieldAddr .. | .field .. | .extract .. | .slice .. | .convert .. => true
  | _ => false
def tailB (md : Region.Mode) (ops : Array Oper) (N : Nat) : Bool :=
  Region.noSelect ops && decide (N ≤ ops.size) && Region.lexFrom md ops N 0 (Array.replicate N false ++ Array.replicate (ops.size - N) true)
  && ((List.range ops.size).all fun t => decide (t ≤ N) || Region.waitsFor md ops t (t - 1))
  && ((List.range ops.size).all fun t => match ops[t]? with
      | some o => (decide (N ≤ t) || plainOp o) && (o.after.all fun e => !Region.binds md e || decide (e.on < t)) && noDefer o &&
          (decide (t < N) || (o.dst.isNone && o.guard.isNone && (List.range N).all fun k => Region.waitsFor md ops t k || match (ops[k]?).bind (·.dst) with | some d => !(o.looksAt ops).contains d | none => true))
      | none => false)

def left (l : Array Bool) : Nat := (l.toList.filter (!·)).length
theorem left_list : ∀ (l : List Bool) (i : Nat), l[i]? = some false → ((l.set i true).filter (!·)).length + 1 = (l.filter (!·)).length
  | [], i, h => by simp at h
  | b :: l, 0, h => by simp at h; subst h; simp
  | b :: l, i + 1, h => by
    have := left_list l i (by simpa using h)
    cases b <;> simp <;> omega
theorem left_set {l : Array Bool} {i : Nat} (h : l.getD i true = false) : left (l.setIfInBounds i true) + 1 = left l := by
  have hi : i < l.size := by
    rcases Nat.lt_or_ge i l.size with h1 | h1
    · exact h1
    · simp [Array.getElem?_eq_none h1] at h
  unfold left
  rw [Array.toList_setIfInBounds]
  refine left_list _ _ ?_
  simp [hi] at h ⊢
  exact h

/-- Some operation may come up as long as one has not. -/
theorem ready_ex (hb : ∀ t o, ops[t]? = some o → ∀ e ∈ o.after, Region.binds md e = true → e.on < t) {listed : Array Bool} (hsz : listed.size = ops.size) : ∀ (k : Nat), k < ops.size → listed.getD k true = false → Region.ready md ops listed ≠ [] := by
  intro k
  induction k using Nat.strongRecOn with
  | _ k ih =>
    intro hk hu hnil
    have hnot : k ∉ Region.ready md ops listed := by rw [hnil]; simp
    have ho : ops[k]? = some ops[k] := by simp [hk]
    rw [mem_ready] at hnot
    refine hnot ⟨hu, _, ho, fun e he hbd => ?_⟩
    have hlt := hb k _ ho e he hbd
    cases hl : listed.getD e.on false with
    | true => rfl
    | false =>
      refine (ih e.on hlt (by omega) ?_ hnil).elim
      have hin : e.on < listed.size := by omega
      simp [hin] at hl ⊢
      exact hl

theorem exec_same {aF : Act} {o : Oper} (hs : ∀ cs b, o.op ≠ .select cs b) : ∀ (fq : Nat) (L : Array Bool) (a : Act), wpAnyQIn F n P md ops C (fun a' => a' = aF) fq L a →
    (∀ k ∈ Region.ready md ops L, ∀ ok, ops[k]? = some ok → ∀ d, ok.dst = some d → d ∉ o.looksAt ops) →
    (∀ k, (∀ ok, ops[k]? = some ok → ∀ d, ok.dst = some d → d ∉ o.looksAt ops) ∨ L.getD k true = true) → execOp aF.eval o = execOp a.eval o := by
  intro fq
  induction fq with
  | zero => intro L a h _ _; rw [h.2]
  | succ f ih =>
    intro L a h h1 h2
    cases hr : Region.ready md ops L with
    | nil => rw [h.1 hr]
    | cons k rs =>
      have hk : k ∈ Region.ready md ops L := by rw [hr]; exact List.mem_cons_self
      obtain ⟨hun, ok, hok, _⟩ := mem_ready.1 hk
      obtain ⟨v, _, hK⟩ := yieldsQuiet_of_qOpIn hok (h.2 k hk)
      have e1 := execOp_put (ops := ops) o hs a ok.dst v (fun d hd => h1 k hk ok hok d hd)
      rw [← e1]
      refine ih _ _ hK (fun k' hk' ok' hok' d hd => ?_) (fun k' => ?_)
      · rcases h2 k' with h3 | h3
        · exact h3 ok' hok' d hd
        · have := (mem_ready.1 hk').1
          by_cases e : k = k'
          · subst e; rw [h3] at hun; cases hun
          · rw [getD_set_ne true e, h3] at this; cases this
      · rcases h2 k' with h3 | h3
        · exact .inl h3
        · right
          by_cases e : k = k'
          · subst e; rw [h3] at hun; cases hun
          · rw [getD_set_ne true e]; exact h3

structure TailInv (n : Nat) (P : Program) (md : Region.Mode) (ops : Array Oper) (C : World → Prop) (N : Nat) (aF : Act) (us : Nat → World) (listed : Array Bool) (a : Act) (w : World) : Prop where
  size : listed.size = ops.size
  st : ∃ (j fq : Nat) (L : Array Bool), j ≤ ops.size - N ∧ w = us j ∧ (∀ t, N ≤ t → t < ops.size → listed.getD t true = decide (t < N + j)) ∧ L.size = ops.size ∧ (∀ i, i < N → L.getD i true = listed.getD i true) ∧
    (∀ t, N ≤ t → t < ops.size → L.getD t true = true) ∧ wpAnyQIn Fence.wide n P md ops C (fun a' => a' = aF) fq L a

theorem getD_tf {L : Array Bool} {i : Nat} (hi : i < L.size) : L.getD i true = L.getD i false := by simp [hi]
theorem noDefer_all {N : Nat} (hB : tailB md ops N = true) : ∀ o ∈ ops.toList, noDefer o = true := by
  simp only [tailB, Bool.and_eq_true, List.all_eq_true, List.mem_range] at hB
  intro o ho
  obtain ⟨t, ht, rfl⟩ := List.mem_iff_getElem.1 ho
  have h := hB.2 t (by simpa using ht)
  have e : ops[t]? = some ops.toList[t] := by simp at ht; simp [ht]
  simp only [e, Bool.and_eq_true] at h
  exact h.1.2

theorem plainOp_value {o : Oper} (h : plainOp o = true) {ρ : Operand → Value} {w w' : World} {x : Next} (hr : (execOp ρ o).run P w = .ok x w') : ∃ v, x = .value v := by
  unfold plainOp at h
  have key : ∀ (s : Sem Value), ((do pure (Next.value (← s)) : Sem Next)).run P w = .ok x w' → ∃ v, x = .value v := by
    intro s hs
    simp only [Sem.run_bind, Sem.run_pure] at hs
    cases hq : s.run P w with
    | ok v1 w1 => rw [hq] at hs; simp only [Result.andThen_ok] at hs; cases hs; exact ⟨v1, rfl⟩
    | halt y w1 => rw [hq] at hs; simp [Result.andThen] at hs
  unfold execOp at hr
  cases hop : o.op <;> simp only [hop] at h hr <;> first
    | exact absurd h (by decide)
    | exact key _ hr
    | (simp only [Sem.run_pure] at hr; cases hr; exact ⟨_, rfl⟩)
    | (simp only [Sem.run_bind, Sem.run_pure] at hr
       cases hq : (asBool _).run P w with
       | ok v1 w1 => rw [hq] at hr; simp only [Result.andThen_ok] at hr; cases hr; exact ⟨_, rfl⟩
       | halt y w1 => rw [hq] at hr; simp [Result.andThen] at hr)
/-- One world of a class, of an operation that calls nothing. -/
theorem qOpIn_narrow {i : Nat} {K : Act → Prop} {a : Act} {u : World} (hu : C u) (hp : ∀ o, ops[i]? = some o → plainOp o = true) (h : qOpIn F n P ops C i K a) : qOpIn F n P ops (fun w' => w' = u) i K a := by
  unfold qOpIn at h ⊢
  cases ho : ops[i]? with
  | none => simp only [ho] at h ⊢; exact h
  | some o =>
    simp only [ho] at h ⊢
    refine ⟨fun w hw f hf => by subst hw; exact h.1 w hu f hf, ?_⟩
    have h2 := h.2
    split
    · rename_i hw
      simp only [hw, if_true] at h2
      obtain ⟨v, h3, h4⟩ := h2
      refine ⟨v, fun w hw => ?_, h4⟩
      subst hw
      have h5 := h3 w hu
      unfold Oper.quietAtIn at h5 ⊢
      cases hr : (execOp a.eval o).run P w with
      | ok x w' =>
        obtain ⟨v', rfl⟩ := plainOp_value (hp o ho) hr
        rw [hr] at h5
        exact h5
      | halt y w' => rw [hr] at h5; exact h5.elim
    · rename_i hw
      simp only [hw] at h2
      exact h2

theorem wpAnyIn_tail {N : Nat} {aF : Act} {us : Nat → World} {Q : Exit → Act → World → Prop} (hB : tailB md ops N = true) (hC : ∀ j, j ≤ ops.size - N → C (us j))
    (ht : ∀ j, j < ops.size - N → ∀ o, ops[N + j]? = some o → ∃ x, (execOp aF.eval o).run P (us j) = .ok x (us (j + 1)) ∧ (x = .skip ∨ ∃ v, x = .value v)) (hQ : Q .normal aF (us (ops.size - N))) :
    ∀ (fuel : Nat) (listed : Array Bool) (a : Act) (w : World), left listed ≤ fuel → TailInv n P md ops C N aF us listed a w → wpAnyIn (wideR ro) n P md ops Q fuel listed a w := by
  have hnd := noDefer_all hB
  simp only [tailB, Bool.and_eq_true, List.all_eq_true, List.mem_range, decide_eq_true_eq] at hB
  obtain ⟨⟨⟨⟨hsel, hN⟩, _⟩, hch⟩, hst⟩ := hB
  have hback : ∀ t o, ops[t]? = some o → ∀ e ∈ o.after, Region.binds md e = true → e.on < t := by
    intro t o ho e he hb
    have hlt := (Array.getElem?_eq_some_iff.1 ho).1
    have h := hst t hlt
    simp only [ho, Bool.and_eq_true, Array.all_eq_true_iff_forall_mem] at h
    have := h.1.1.2 e he
    simpa [hb] using this
  have done : ∀ (listed : Array Bool) (a : Act) (w : World), TailInv n P md ops C N aF us listed a w → Region.ready md ops listed = [] → Q .normal a w := by
    rintro listed a w ⟨hsz, j, fq, L, hj, rfl, htl, hLs, hLi, hLt, hq⟩ hnil
    have all : ∀ k, k < ops.size → listed.getD k true = true := by
      intro k hk
      cases hl : listed.getD k true with
      | true => rfl
      | false => exact (ready_ex hback hsz k hk hl hnil).elim
    have hrL : Region.ready md ops L = [] := by
      cases hr : Region.ready md ops L with
      | nil => rfl
      | cons i rs =>
        have hi : i ∈ Region.ready md ops L := by rw [hr]; exact List.mem_cons_self
        obtain ⟨hun, o, ho, _⟩ := mem_ready.1 hi
        have hlt := (Array.getElem?_eq_some_iff.1 ho).1
        rcases Nat.lt_or_ge i N with h1 | h1
        · rw [hLi i h1, all i hlt] at hun; cases hun
        · rw [hLt i h1 hlt] at hun; cases hun
    have ea : a = aF := by
      cases fq with
      | zero => exact hq.2
      | succ f => exact hq.1 hrL
    have ej : j = ops.size - N := by
      rcases Nat.lt_or_ge j (ops.size - N) with h1 | h1
      · have h2 := htl (N + j) (by omega) (by omega)
        rw [all _ (by omega)] at h2
        simp at h2
      · omega
    rw [ea, ej]
    exact hQ
  intro fuel
  induction fuel with
  | zero =>
    intro listed a w hf hinv
    have hnil : Region.ready md ops listed = [] := by
      cases hr : Region.ready md ops listed with
      | nil => rfl
      | cons i rs =>
        have hi : i ∈ Region.ready md ops listed := by rw [hr]; exact List.mem_cons_self
        have := left_set (mem_ready.1 hi).1
        omega
    exact ⟨hnil, done _ _ _ hinv hnil⟩
  | succ fuel ih =>
    intro listed a w hf hinv
    refine ⟨done _ _ _ hinv, fun i hi => ?_⟩
    have hleft := left_set (mem_ready.1 hi).1
    obtain ⟨hsz, j, fq, L, hj, rfl, htl, hLs, hLi, hLt, hq⟩ := hinv
    obtain ⟨hun, o, ho, hall⟩ := mem_ready.1 hi
    have hlt := (Array.getElem?_eq_some_iff.1 ho).1
    rcases Nat.lt_or_ge i N with hiN | hiN
    · -- a read
      have hiL : i ∈ Region.ready md ops L := mem_ready.2 ⟨by rw [hLi i hiN]; exact hun, o, ho, fun e he hb => by
        have h1 := hall e he hb
        have h2 := hback i o ho e he hb
        rw [← getD_tf (by omega)] at h1 ⊢
        rw [hLi _ (by omega)]; exact h1⟩
      cases fq with
      | zero => rw [hq.1] at hiL; cases hiL
      | succ f =>
        have hop := hq.2 i hiL
        have hro : (Fence.wide : Fence).round = none := rfl
        have h1 : wpOpIn Fence.wide n P ops Q i (fun a' w' => w' = us j ∧ wpAnyQIn Fence.wide n P md ops C (fun a' => a' = aF) f (L.setIfInBounds i true) a') a (us j) := by
          refine wpOpIn_of_qOpIn (C := fun w' => w' = us j) (K := wpAnyQIn Fence.wide n P md ops C (fun a' => a' = aF) f (L.setIfInBounds i true)) hro rfl (fun a' w' hw' hk => ⟨hw', hk⟩) ?_
          exact qOpIn_narrow (hC j hj) (fun o' ho' => by
            have h6 := hst i hlt
            rw [ho] at ho'; cases ho'
            simp only [ho, Bool.and_eq_true, Bool.or_eq_true, decide_eq_true_eq] at h6
            rcases h6.1.1.1 with h7 | h7
            · omega
            · exact h7) hop
        have h2 : wpOpIn (wideR ro) n P ops Q i (wpAnyIn (wideR ro) n P md ops Q fuel (listed.setIfInBounds i true)) a (us j) := by
          have hk : ∀ a' w', (w' = us j ∧ wpAnyQIn Fence.wide n P md ops C (fun a' => a' = aF) f (L.setIfInBounds i true) a') → wpAnyIn (wideR ro) n P md ops Q fuel (listed.setIfInBounds i true) a' w' := by
            rintro a' w' ⟨rfl, hk⟩
            refine ih _ _ _ (by omega) ⟨by simp [hsz], j, f, L.setIfInBounds i true, hj, rfl, fun t h1 h2 => ?_, by simp [hLs], fun k hk' => ?_, fun t h1 h2 => ?_, hk⟩
            · rw [getD_set_ne true (by omega)]; exact htl t h1 h2
            · by_cases e : i = k
              · subst e; simp [hlt, hLs, hsz]
              · rw [getD_set_ne true e, getD_set_ne true e]; exact hLi k hk'
            · rw [getD_set_ne true (by omega)]; exact hLt t h1 h2
          cases ro with
          | none => exact wpOpIn_mono hk h1
          | some l => exact wpOpIn_round l hro hnd hk h1
        exact h2
    · -- the next store
      have hij : i = N + j := by
        have h1 := htl i hiN hlt
        rw [hun] at h1
        have h2 : N + j ≤ i := by simpa using h1.symm
        rcases Nat.lt_or_ge (N + j) i with h3 | h3
        · have h4 := hch i hlt
          simp only [Bool.or_eq_true, decide_eq_true_eq] at h4
          rcases h4 with h4 | h4
          · omega
          · obtain ⟨o', ho', e, he, hb, hon⟩ := Region.waitsFor_spec h4
            have : o' = o := Option.some.inj (ho'.symm.trans ho)
            subst this
            have h5 := hall e he hb
            rw [hon, ← getD_tf (by omega), htl (i - 1) (by omega) (by omega)] at h5
            simp at h5; omega
        · omega
      subst hij
      have hjm : j < ops.size - N := by omega
      obtain ⟨x, hrun, hx⟩ := ht j hjm o ho
      have hs := hst (N + j) hlt
      simp only [ho, Bool.and_eq_true, Bool.or_eq_true, decide_eq_true_eq, Option.isNone_iff_eq_none, List.all_eq_true, List.mem_range] at hs
      obtain ⟨⟨_, hnd1⟩, hs⟩ := hs
      rcases hs with hs | ⟨⟨hdst, hgd⟩, hlook⟩
      · omega
      have hfar : ∀ k, (∀ ok, ops[k]? = some ok → ∀ d, ok.dst = some d → d ∉ o.looksAt ops) ∨ L.getD k true = true := by
        intro k
        rcases Nat.lt_or_ge k N with h1 | h1
        · rcases hlook k h1 with h2 | h2
          · right
            obtain ⟨o', ho', e, he, hb, hon⟩ := Region.waitsFor_spec h2
            have : o' = o := Option.some.inj (ho'.symm.trans ho)
            subst this
            have h5 := hall e he hb
            rw [hon, ← getD_tf (by omega)] at h5
            rw [hLi k h1]; exact h5
          · left
            intro ok hok d hd
            rw [hok] at h2
            simp only [Option.bind_some, hd, Bool.not_eq_true'] at h2
            simpa using h2
        · rcases Nat.lt_or_ge k ops.size with h2 | h2
          · exact .inr (hLt k h1 h2)
          · left; intro ok hok; rw [Array.getElem?_eq_none h2] at hok; cases hok
      have hsame := exec_same (fun cs b => Region.noSelect_spec hsel (N + j) o cs b ho) fq L a hq (fun k hk ok hok d hd => by
        rcases hfar k with h3 | h3
        · exact h3 ok hok d hd
        · rw [(mem_ready.1 hk).1] at h3; cases h3) hfar
      rw [hsame] at hrun
      have hw : Region.wanted o (yielded ops a.tmps) = true := by simp [Region.wanted, hgd]
      have hnext : wpAnyIn (wideR ro) n P md ops Q fuel (listed.setIfInBounds (N + j) true) a (us (j + 1)) := by
        refine ih _ _ _ (by omega) ⟨by simp [hsz], j + 1, fq, L, by omega, rfl, fun t h1 h2 => ?_, hLs, fun k hk' => ?_, hLt, hq⟩
        · by_cases e : N + j = t
          · subst e; simp [hlt, hsz]
          · rw [getD_set_ne true e, htl t h1 h2]
            congr 1
            apply propext
            omega
        · rw [getD_set_ne true (by omega)]; exact hLi k hk'
      unfold wpOpIn
      simp only [ho, hw, if_true]
      refine ⟨fun _ _ => trivial, ?_⟩
      rw [Oper.semAt_eq _ _ _ (noDefer_spec hnd1), hrun]
      rcases hx with rfl | ⟨v, rfl⟩
      · simp only [Oper.uponIn, hdst, Act.put]; exact hnext
      · simp only [Oper.uponIn, hdst, Act.put]; exact hnext

theorem wpIn_region_tail {id : Nat} {Q : Exit → Act → World → Prop} {a : Act} {w : World} {ls : List Oper} (N : Nat) (C : World → Prop) (aF : Act) (us : Nat → World) (hm : P.follows .mixedOrders = true) (hB : tailB .any ls.toArray N = true)
    (h0 : us 0 = w.drew) (hC : ∀ j, j ≤ ls.length - N → C (us j)) (hq : wpQuietIn Fence.wide n P ls.toArray C (fun a' => a' = aF) (ls.take N) a)
    (ht : ∀ j, j < ls.length - N → ∀ o, ls[N + j]? = some o → ∃ x, (execOp aF.eval o).run P (us j) = .ok x (us (j + 1)) ∧ (x = .skip ∨ ∃ v, x = .value v)) (hQ : Q .normal aF (us (ls.length - N))) :
    (Code.region id ls.toArray true).wpIn (wideR ro) n P Q a w := by
  refine wpIn_region_any hm ?_
  have hB' := hB
  simp only [tailB, Bool.and_eq_true, decide_eq_true_eq] at hB'
  obtain ⟨⟨⟨⟨hsel, hN⟩, hlex⟩, _⟩, _⟩ := hB'
  have hN' : N ≤ ls.length := by simpa using hN
  have hlen : (ls.take N).length = N := by simp; omega
  have hA := wpAnyQIn_lexN (F := Fence.wide) (n := n) (P := P) (C := C) (md := .any) (Q := fun a' => a' = aF) hsel (ls.take N) 0 (Array.replicate N false ++ Array.replicate (ls.toArray.size - N) true) a
    (fun j hj => by rw [hlen] at hj; simp [hj]) (by rw [hlen]; exact hlex) hq
  refine wpAnyIn_tail (N := N) (aF := aF) (us := us) (C := C) hB (by simpa using hC) (by simpa using ht) (by simpa using hQ) _ _ _ _ ?_ ?_
  · unfold left; simp
  · refine ⟨by simp, 0, (ls.take N).length, _, by omega, h0.symm, fun t h1 h2 => ?_, by simp; omega, fun i hi => ?_, fun t h1 h2 => ?_, hA⟩
    · simp at h2; simp [h2]; omega
    · simp [hi, show i < ls.length by omega, show i < N + (ls.length - N) by omega, Array.getElem_append_left]
    · simp at h2
      simp [show t < N + (ls.length - N) by omega, Array.getElem_append_right, h1]
end
section
variable {n : Nat} {P : Program} {ro : Option Nat}
theorem quiet_act {F : Fence} {ops : Array Oper} {C : World → Prop} {Qp : Act → Prop} : ∀ (l : List Oper) (a : Act), wpQuietIn F n P ops C Qp l a → ∃ aF, Qp aF ∧ wpQuietIn F n P ops C (fun a' => a' = aF) l a
  | [], a, h => ⟨a, h, rfl⟩
  | o :: l, a, h => by
    obtain ⟨ha, h⟩ := h
    by_cases hw : Region.wanted o (yielded ops a.tmps) = true
    · rw [if_pos hw] at h
      obtain ⟨v, h1, h2⟩ := h
      obtain ⟨aF, h3, h4⟩ := quiet_act l _ h2
      exact ⟨aF, h3, ha, by rw [if_pos hw]; exact ⟨v, h1, h4⟩⟩
    · rw [if_neg hw] at h
      obtain ⟨aF, h3, h4⟩ := quiet_act l _ h
      exact ⟨aF, h3, ha, by rw [if_neg hw]; exact h4⟩
/-- As 'wpIn_region_tail', for the walk's words: 'us j' is the world behind j stores; what the reads read is the same in all of them. -/
theorem wpIn_region_stores {id : Nat} {Q : Exit → Act → World → Prop} {a : Act} {w : World} {ls : List Oper} (N : Nat) (us : Nat → World) (hm : P.follows .mixedOrders = true) (hB : tailB .any ls.toArray N = true) (h0 : us 0 = w.drew)
    (hq : wpQuietIn Fence.wide n P ls.toArray (fun w' => ∃ j, w' = us j) (fun a' => (∀ j, j < ls.length - N → ∀ o, ls[N + j]? = some o → ∃ x, (execOp a'.eval o).run P (us j) = .ok x (us (j + 1)) ∧ (x = .skip ∨ ∃ v, x = .value v)) ∧ Q .normal a' (us (ls.length - N))) (ls.take N) a) :
    (Code.region id ls.toArray true).wpIn (wideR ro) n P Q a w := by
  obtain ⟨aF, ⟨h1, h2⟩, h3⟩ := quiet_act _ _ hq
  exact wpIn_region_tail N _ aF us hm hB h0 (fun j _ => ⟨j, rfl⟩) h3 h1 h2
/-- The worlds behind 0, 1, 2 stores. -/
theorem three_worlds (u0 u1 u2 : World) : ∃ us : Nat → World, us 0 = u0 ∧ us 1 = u1 ∧ us 2 = u2 ∧ ∀ Pr : World → Prop, Pr u0 → Pr u1 → Pr u2 → ∀ n, Pr (us n) :=
  ⟨fun n => match n with | 0 => u0 | 1 => u1 | _ => u2, rfl, rfl, rfl, fun _ h0 h1 h2 n => by match n with | 0 => exact h0 | 1 => exact h1 | _ + 2 => exact h2⟩
end
theorem drewN_grownBy (W : World) (n : Nat) (row : Option Nat) : W.grownBy (W.drewN n) row := ⟨rfl, rfl, rfl, Nat.le_refl _, fun _ _ _ => rfl⟩
end Go.Proofs.Ytaagpnbnjdpjgaa.R
