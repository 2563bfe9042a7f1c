/- Proved here: parts of the walk and of the plain law of SearchKinds, put into one text (names and lines made short by a program). -/
import Derived.Test.YtcbpkdemcdikaaaSearchKindsD
import Derived.Test.YtcbpkdemcdikaaaSearchKindsF
import Derived.Test.YtcbpkdemcdikaaaSearchKindsH
import Derived.Shelf.Abstract
import Derived.Laws.EntriesVeiled
import Derived.Laws.MakeOwn
import Derived.RangeFuncWrites
import Derived.RangeFuncNested
import Derived.RangeFuncBound
import Derived.RangeFuncCalls
import Derived.RangeFuncLeaves
import Derived.OwnWalkIn
import Derived.TacticsInMore
import Derived.LoopNIn
import Derived.LoopIn
import Derived.ArgAppend
import Derived.Test.YtcbpkdemcdikaaaSearchKindsC
import Derived.Test.YtcbpkdemcdikaaaSearchKindsE
namespace Go.Proofs.Ytcbpkdemcdikaaa.X
open Go.RowKit Go.Proofs.YtcbpkdemcdikaaaW.PrintWords Go.Proofs.YtcbpkdemcdikaaaW.PrintLast Go.Proofs.YtcbpkdemcdikaaaW.PrintMore
attribute [local go_sem] ay az aN aM ao ap aw ax
set_option linter.unusedVariables false
set_option linter.unusedSimpArgs false
namespace DF
open SF RO
set_option maxHeartbeats 8000000
attribute [local go_sem] Oper.semAt_some
def badB (rs : List S49) (x : List Int) : Bool := rs.any fun r => brokenB r x
theorem own_one (W : World) (cap : Nat) (h1 : 1 ≤ cap) (h2 : cap ≤ maxLen) : (W.alloc (.cells (madeCells #[.int .i64 0] cap) 3)).ownsRow W.heap.size 3 1 (.slice (some ⟨W.heap.size, 0, none⟩) 1 cap) 1 (bM .i64 [0]) := by
  refine ⟨rfl, .inr ⟨W.heap.size, cap, _, rfl, Nat.le_refl _, aV W _, h1, h2, by rw [size_madeCells]; simp [Value.cells], ?_⟩⟩
  obtain ⟨c, rfl⟩ : ∃ c, cap = c + 1 := ⟨cap - 1, by omega⟩
  simp [madeCells, Value.cells, bM, List.range_succ_eq_map]
theorem fF {W : World} {base m n c : Nat} {A : Option Addr} {xs : List Int} (h : W.ownsRow base 3 1 (.slice A n c) n (bM .i64 xs)) (hm : m ≤ xs.length) (hn : n = xs.length) : W.ownsRow base 3 1 (.slice A (xs.take m).length c) (xs.take m).length (bM .i64 (xs.take m)) := by
  have hl : (xs.take m).length = m := by rw [List.length_take]; omega
  have h1 := own_take (m := m) h (by omega)
  rw [hl]
  rwa [Nat.mul_one, show (bM .i64 xs).take m = bM .i64 (xs.take m) by simp [bM, List.map_take]] at h1
theorem ownN {W : World} {base n : Nat} {e : TypeId} {size : Nat} {v : Value} {xs : List Value} (m : Nat) (h : W.ownsRow base e size v n xs) : (W.drewN m).ownsRow base e size v n xs := h
theorem add0 (g k : Nat) : (⟨g, 0, none⟩ : Addr).add k = ⟨g, k, none⟩ := by
  by_cases h : k = 0 <;> simp [Addr.add, h]
theorem own_keep {A B : World} {base : Nat} {e : TypeId} {size n : Nat} {v : Value} {xs : List Value} (h : A.ownsRow base e size v n xs) (hk : ∀ g, v.ownBlock = some g → B.heap[g]? = A.heap[g]?) : B.ownsRow base e size v n xs := by
  refine ⟨h.1, ?_⟩
  rcases h.2 with h1 | ⟨g, cap, cur, h1, h2, h3, h4⟩
  · exact .inl h1
  · exact .inr ⟨g, cap, cur, h1, h2, (hk g (by rw [h1]; rfl)).trans h3, h4⟩
noncomputable def T7 : Bool × List (List Nat × List Nat) := dd .any (dG Try.f62 7)
theorem tab7 : dd .any (dG Try.f62 7) = T7 := rfl
theorem dC {W : World} {p : Addr} {v : Value} (h : W.cell? p = some v) (o : Obj) : (W.alloc o).cell? p = some v := ((a6 (Below.refl _ _) o).cell (World.block_lt_of_cell? W p h)).trans h
theorem ne_cut {A B : Option Addr} {n c m d n' c' m' d' : Nat} (h : NeRow (.slice A n c) (.slice B m d)) : NeRow (.slice A n' c') (.slice B m' d') := by
  cases A <;> cases B <;> exact h
theorem bY {A B : World} {base n : Nat} {e : TypeId} {size : Nat} {v : Value} {xs : List Value} (h : A.ownsRow base e size v n xs) (hb : Below A.heap.size A B) : B.ownsRow base e size v n xs :=
  own_keep h (fun g hg => hb.block g (own_lt h g hg))
theorem iter_once (n : Nat) (hn : 1 ≤ n) (b1 b2 : Nat) (A0 : Option Addr) (c0 : Nat) (ds : List (List Int)) (A1 : Option Addr) (c1 : Nat) (rs : List S49) (w : World)
    (h1 : w.heap[b1]? = some (.cells #[.slice A0 ds.length c0] 22 (0, 0))) (h2 : w.heap[b2]? = some (.cells #[.slice A1 rs.length c1] 23 (0, 0)))
    (hr0 : Kd.C (Kd.slice 3 (Kd.int .i64)) w A0 ds.length ds) (hr1 : Kd.C k49 w A1 rs.length rs) (hok : ∀ r ∈ rs, okR r) (hd : 0 < ds.length) (hdl : ds.length ≤ 1000) :
    SeqOnce Fence.wide n Try.prog 62 #[.pointer (some ⟨b1, 0, none⟩), .pointer (some ⟨b2, 0, none⟩)] (∃ x, sol (badB rs) ds [] = some x)
      (fun args W => ∃ x A c, sol (badB rs) ds [] = some x ∧ args = #[.slice A x.length c] ∧ W.ownsRow (w.heap.size + 2) 3 1 (.slice A x.length c) x.length (bM .i64 x)) w := by
  intro l Jx W hWz hWg hY
  have e1 := (hWg.block b1 (aZ h1) (fun e => by cases e)).trans h1
  have e2 := (hWg.block b2 (aZ h2) (fun e => by cases e)).trans h2
  have hbW : Below w.heap.size w W := (Below.refl _ w).grown hWg (Nat.le_refl _) (fun k e => by cases e)
  have hr0W := Kd.C_below hr0 hbW
  have hr1W := Kd.C_below hr1 hbW
  obtain ⟨i3, hi3, hii3⟩ := Option.map_eq_some_iff.1 dV
  simp only [Prod.mk.injEq] at hii3
  obtain ⟨hz3, hs3, hb3⟩ := hii3
  have hmk : ∀ W : World, (Instr.makeSlice 26 (.int .i64 1) (.int .i64 (wrap64 ((ds.length : Int) + 1)))).run Try.prog W = .ok (.slice (some ⟨W.heap.size, 0, none⟩) 1 (ds.length + 1)) (W.alloc (.cells (madeCells #[.int .i64 0] (ds.length + 1)) 3)) := fun W => by
    have h := run_makeSlice (P := Try.prog) (w := W) 26 3 i3 (.int .i64 0) Try.underlying26 hi3 hz3 .i64 .i64 1 (ds.length + 1) (by omega) (by omega) (by rw [hs3]; simp; omega) (by rw [hb3]; omega) (by omega)
    rw [hs3] at h
    rw [wr64 _ (by omega) (by omega)]
    simpa [Value.cells] using h
  have HI3 := Aside0.mk (And.intro hi3 (And.intro hz3 (And.intro hs3 hb3)))
  clear hi3 hz3 hs3 hb3 hr0 hr1 hWg hbW h1 h2
  have HR0 := Aside0.mk hr0W; have HR1 := Aside0.mk hr1W; have HOK := Aside0.mk hok; have HY := Aside0.mk hY; have HD := Aside0.mk (And.intro hd hdl); have HWZ := Aside0.mk hWz
  have HE1 := Aside0.mk e1; have HE2 := Aside0.mk e2
  have z1 := a7 e1 0
  simp only [List.getElem?_toArray, List.getElem?_cons_zero] at z1
  clear hr0W hr1W hok hY hWz e1 e2 hd hdl
  refine callsIn_of_wp Try.func62 rfl trivial ?_ rfl
  simp only [Try.ntmps62, List.size_toArray, List.length_cons, List.length_nil, Nat.reduceAdd, Nat.reduceSub, Array.replicate_succ, Array.replicate_zero, List.push_toArray, List.append_toArray, List.nil_append, List.cons_append]
  refine wpIn_wide.2 ?_
  go_wp2_with (fail)
  obtain ⟨g, hg⟩ : ∃ g, W.heap.size = g := ⟨_, rfl⟩
  obtain ⟨cap, hcap⟩ : ∃ cap, ds.length + 1 = cap := ⟨_, rfl⟩
  have ho0 := own_one W (ds.length + 1) (by omega) (by have := HD.out; simp only [maxLen]; omega)
  obtain ⟨W1, hW1⟩ : ∃ W1, W.alloc (.cells (madeCells #[.int .i64 0] (ds.length + 1)) 3) = W1 := ⟨_, rfl⟩
  have hBW1 : Below W.heap.size W W1 := by rw [← hW1]; exact a6 (Below.refl _ _) _
  rw [hW1, hcap] at ho0
  rw [hW1, hcap]
  rw [hg] at ho0 ⊢
  have hz1 : W1.heap.size = g + 1 := by rw [← hW1, ← hg]; simp
  have HO0 := Aside0.mk ho0
  have HB1 := Aside0.mk hBW1
  have HG := Aside0.mk hg
  have HCAP := Aside0.mk hcap
  have HZ1 := Aside0.mk hz1
  clear ho0 hBW1 hg hcap hW1 hz1 hmk z1
  go_loopg [4, 5] (left ds [0] 1) (fun gg v4 v5 wr => ∃ (a x : List Int) (A4 : Option Addr) (c4 : Nat) (A5 : Option Addr) (c5 : Nat), v4 = .slice A4 a.length c4 ∧ v5 = .slice A5 x.length c5 ∧
    Aside0 (wr.ownsRow g 3 1 (.slice A4 a.length c4) a.length (bM .i64 a)) ∧ Aside0 (wr.ownsRow g 3 1 (.slice A5 x.length c5) x.length (bM .i64 x)) ∧ Aside0 (NeRow (.slice A4 a.length c4) (.slice A5 x.length c5)) ∧
    Aside0 (a.length ≤ x.length + 1 ∧ a.length ≤ ds.length ∧ x.length ≤ ds.length) ∧ Aside0 (∀ j, j < a.length → 0 ≤ rd a (j : Int) ∧ (rd a (j : Int)).toNat ≤ (ds.getD j []).length) ∧
    Aside0 (rest (badB rs) ds a x a.length = sol (badB rs) ds []) ∧ Aside0 (left ds a a.length ≤ gg) ∧ Aside0 (Below W.heap.size W wr))
  case atStart =>
    exact ⟨[0], [], _, _, none, 0, rfl, rfl, HO0, ⟨World.ownsRow_nil _ _ _ _⟩, ⟨fun k _ h => by simp [Value.ownBlock] at h⟩, ⟨by have := HD.out; simp; omega⟩, ⟨fun j hj => by
      have : j = 0 := by simpa using hj
      subst this
      simp [rd]⟩, ⟨start_ok HD.out.1⟩, ⟨Nat.le_refl _⟩, ⟨HB1.out⟩⟩
  case round =>
    obtain ⟨a, x, A4, c4, A5, c5, rfl, rfl, HOA, HOX, HNE, HL, HI, HR, HM, HB⟩ := hrel
    by_cases d0 : a.length = 0
    · have d0a : decide ((a.length : Int) > 0) = false := decide_eq_false (by omega)
      have d0b : decide ((0 : Int) < (a.length : Int)) = false := decide_eq_false (by omega)
      have d0c : decide (0 < a.length) = false := decide_eq_false (by omega)
      have HAN := Aside0.mk (show sol (badB rs) ds [] = none by rw [← HR.out, d0]; rfl)
      clear d0
      go_wp2_with (fail)
      go_end0
      exact ⟨⟨_, rfl⟩, .inl ⟨(fun ⟨x, h⟩ => by rw [HAN.out] at h; cases h), by repeat (first | exact HB.out | apply a4 | apply a5)⟩⟩
    · obtain ⟨k, hk⟩ : ∃ k, a.length = k + 1 := ⟨a.length - 1, by omega⟩
      obtain ⟨q, c4', cur4, e4, hq4, hblk4, hle4, _⟩ : ∃ q cp cur, Value.slice A4 a.length c4 = .slice (some ⟨q, 0, none⟩) a.length cp ∧ g ≤ q ∧ wr.heap[q]? = some (.cells cur 3 (0, 0)) ∧ a.length ≤ cp ∧ True := by
        rcases HOA.out.2 with ⟨_, h0⟩ | ⟨q, cp, cur, h1, h2, h3, h4, _⟩
        · exact absurd h0 (by omega)
        · exact ⟨q, cp, cur, h1, h2, h3, h4, trivial⟩
      injection e4 with e4a _ e4c
      subst e4a e4c
      have hrdA := f8 HOA.out
      obtain ⟨_, _, e5, hle5, _⟩ := bI (enc := fun x : Int => Value.int .i64 x) (d := 0) HOX.out
      injection e5 with e5a _ e5c
      subst e5a e5c
      obtain ⟨ad4, e4, hx4⟩ := hrdA.at_ (k : Int) (by omega) (by omega)
      cases e4
      have p0 : 0 ≤ (k : Int) := by omega
      have q0 : (k : Int) < (ds.length : Int) := by have := HL.out; omega
      obtain ⟨ad0, B0, cc0, e0, hx0W, hl0, hc0⟩ := f5 HR0.out k p0 q0
      subst e0
      rw [Int.toNat_natCast] at hx0W hx4
      rw [add0 q k] at hx4
      have hlt0 := World.block_lt_of_cell? W _ hx0W
      have hltb := aZ HE1.out
      have hx0 := (HB.out.cell hlt0).trans hx0W
      have z1 : wr.cell? ⟨b1, 0, none⟩ = some (.slice (some ad0) ds.length c0) := by simpa using a7 (ae HE1.out HB.out) 0
      have n0 : (k < ds.length) = True := eq_true (by omega)
      have d0b : decide (((k + 1 : Nat) : Int) > 0) = true := decide_eq_true (by omega)
      have m1 : (k < k + 1) = True := eq_true (by omega)
      have m2 : ((k : Int) < (k : Int) + 1) = True := eq_true (by omega)
      have m3 : ((k : Int) < ((k + 1 : Nat) : Int)) = True := eq_true (by omega)
      have n1 : (k ≤ c5) = True := eq_true (by have := HL.out; omega)
      have n2 : ((k : Int) ≤ (c5 : Int)) = True := eq_true (by have := HL.out; omega)
      have n3 : (k ≤ c4) = True := eq_true (by omega)
      have n4 : ((k : Int) ≤ (c4 : Int)) = True := eq_true (by omega)
      have HKD := Aside0.mk (show k < 1000 by have := HL.out; have := HD.out; omega)
      have HLE5 := Aside0.mk hle5
      have HK := Aside0.mk hk
      have HQ := Aside0.mk (And.intro hq4 (aZ hblk4))
      have HLT := Aside0.mk (And.intro hlt0 hltb)
      obtain ⟨i, hi⟩ : ∃ i : Nat, rd a (k : Int) = (i : Int) := ⟨(rd a (k : Int)).toNat, by have := (HI.out k (by omega)).1; omega⟩
      rw [hi] at hx4
      have HIK := Aside0.mk hi
      obtain ⟨row, hrow⟩ : ∃ row, aJ ds (k : Int) = row := ⟨_, rfl⟩
      rw [hrow] at hx0W hx0 hl0 hc0
      have HROW := Aside0.mk (show ds.getD k [] = row by rw [← hrow]; rfl)
      have HC0 := Aside0.mk hc0
      have HX0 := Aside0.mk hx0W
      replace p0 := eq_true p0
      replace q0 := eq_true q0
      clear d0 hle5 hrdA hi hrow hl0 hc0 hx0W hlt0 hltb hq4 hblk4 hle4
      rw [hk]
      by_cases d1 : i = row.length
      · have d1b : ((i : Int) == (row.length : Int)) = true := beq_iff_eq.mpr (by omega)
        have HD1 := Aside0.mk d1
        clear d1 hk
        have hwk : wrap64 (k : Int) = (k : Int) := wr64 _ (by omega) (by have := HKD.out; omega)
        go_wp2_with (fail)
        clear hwk
        go_quiet (fail)
        go_wp2_with (fail)
        have hlt : (a.take k).length = k := by rw [List.length_take]; have := HK.out; omega
        have hlx : (x.take k).length = k := by rw [List.length_take]; have := HL.out; have := HK.out; omega
        go_roundg (left ds (a.take k) k)
        case measure =>
          have h := left_pop (ds := ds) (a := a) (k := k) (by rw [HIK.out, HROW.out, Int.toNat_natCast, HD1.out])
          have := HM.out
          rw [HK.out] at this
          omega
        case rel =>
          refine ⟨a.take k, x.take k, _, _, A5, c5, by rw [hlt], by rw [hlx], ⟨ownN _ (fF HOA.out (by have := HK.out; omega) rfl)⟩, ⟨ownN _ (fF HOX.out (by have := HL.out; have := HK.out; omega) rfl)⟩, ⟨ne_cut HNE.out⟩, ⟨by have := HL.out; have := HK.out; omega⟩, ⟨fun j hj => by
            rw [hlt] at hj
            rw [rd_take a k j hj]
            exact HI.out j (by have := HK.out; omega)⟩, ⟨?_⟩, ⟨by rw [hlt]; exact Nat.le_refl _⟩, ⟨by repeat (first | exact HB.out | apply a4 | apply a5)⟩⟩
          have h := rest_pop (bad := badB rs) (ds := ds) (a := a) (x := x) (k := k) (by rw [HIK.out, HROW.out, Int.toNat_natCast, HD1.out])
          have h2 := HR.out
          rw [HK.out] at h2
          rw [hlt, ← h, h2]
      · have d1b : ((i : Int) == (row.length : Int)) = false := beq_eq_false_iff_ne.mpr (by omega)
        have hil : i < row.length := by
          have h := (HI.out k (by omega)).2
          rw [HIK.out, HROW.out, Int.toNat_natCast] at h
          omega
        clear d1 hk
        have hwk : wrap64 (k : Int) = (k : Int) := wr64 _ (by omega) (by have := HKD.out; omega)
        go_wp2_with (fail)
        clear hwk
        go_quiet (fail)
        go_wp2_with (fail)
        obtain ⟨w3, hw3⟩ : ∃ w3, wr.drewN nq = w3 := ⟨_, rfl⟩
        have HB3 : Aside0 (Below W.heap.size W w3) := ⟨by rw [← hw3]; exact a4 HB.out _⟩
        have HSQ : Aside0 (q < w3.heap.size) := ⟨by rw [← hw3]; exact HQ.out.2⟩
        have HOA3 : Aside0 (w3.ownsRow g 3 1 (.slice (some ⟨q, 0, none⟩) a.length c4) a.length (bM .i64 a)) := ⟨by rw [← hw3]; exact ownN _ HOA.out⟩
        have hlx : (x.take k).length = k := by rw [List.length_take]; have := HL.out; have := HK.out; omega
        have HOX4 : Aside0 (w3.ownsRow g 3 1 (.slice A5 k c5) k (bM .i64 (x.take k))) := ⟨by rw [← hw3]; have h := ownN nq (fF (m := k) HOX.out (by have := HL.out; have := HK.out; omega) rfl); rw [hlx] at h; exact h⟩
        obtain ⟨adr, er, hxrW⟩ := Kd.at_int HC0.out (i : Int) (by omega) (by omega)
        subst er
        rw [Int.toNat_natCast] at hxrW
        have hltr := World.block_lt_of_cell? W _ hxrW
        have HLTR := Aside0.mk hltr
        obtain ⟨v, hv⟩ : ∃ v, rd row (i : Int) = v := ⟨_, rfl⟩
        rw [hv] at hxrW
        have HXR := Aside0.mk hxrW
        have HV := Aside0.mk hv
        have z1' : w3.drew.cell? ⟨b1, 0, none⟩ = some (.slice (some ad0) ds.length c0) := by rw [← hw3]; simpa using z1
        have hx0' : w3.drew.cell? (ad0.add k) = some (.slice (some adr) row.length cc0) := by rw [← hw3]; simpa using hx0
        have hx4' : w3.drew.cell? ⟨q, k, none⟩ = some (.int .i64 i) := by rw [← hw3]; simpa using hx4
        have hxr' : w3.drew.cell? (adr.add i) = some (.int .i64 v) := (HB3.out.cell hltr).trans hxrW
        have HLX := Aside0.mk hlx
        have m4 : (i < row.length) = True := eq_true hil
        have m5 : ((i : Int) < (row.length : Int)) = True := eq_true (by omega)
        have m6 : (0 ≤ (i : Int)) = True := eq_true (by omega)
        have HIL := Aside0.mk hil
        have HIR := Aside0.mk (show row.length ≤ 9223372036854775807 from Kd.C_max HC0.out)
        have HS3 := Aside0.mk (show g ≤ w3.heap.size by have := HB3.out.size; have := HG.out; omega)
        rw [hw3]
        clear hw3 z1 hx0 hx4 hil hlx hltr hxrW hv
        refine dT (n := 14) (S := fun w' => w'.cell? ⟨b1, 0, none⟩ = some (.slice (some ad0) ds.length c0) ∧ w'.cell? (ad0.add k) = some (.slice (some adr) row.length cc0) ∧ w'.cell? ⟨q, k, none⟩ = some (.int .i64 i) ∧ w'.cell? (adr.add i) = some (.int .i64 v)) (ds := []) #[false, false, false, false, false, false, false, false, false, false, false, false, false, false] (by kernel_rfl) rfl rfl ⟨z1', hx0', hx4', hxr'⟩ (fun hHeld => ?_)
        refine cU tab7 (fun HT_ => ?_)
        refine bc (i := 0) (N := some 33) (v := ?_) (a' := ?_) #[true, false, false, false, false, false, false, false, false, false, false, false, false, false] rfl rfl (aH HT_.out (by kernel_rfl)) (fun _ _ _ h => h) (Or.inl ⟨by rfl, ?_⟩) ?_ ?_
        rotate_left
        · intro w'
          go_simp
          with_reducible rfl
        rotate_left
        · simp only [Act.put, List.setIfInBounds_toArray, List.set_cons_zero, List.set_cons_succ, aq, ar]
          rfl
        refine bc (i := 2) (N := some 35) (v := ?_) (a' := ?_) #[true, false, true, false, false, false, false, false, false, false, false, false, false, false] rfl rfl (aH HT_.out (by kernel_rfl)) (fun _ _ _ h => h) (Or.inl ⟨by rfl, ?_⟩) ?_ ?_
        rotate_left
        · intro w'
          go_simp
          with_reducible rfl
        rotate_left
        · simp only [Act.put, List.setIfInBounds_toArray, List.set_cons_zero, List.set_cons_succ, aq, ar]
          rfl
        refine bc (i := 5) (N := some 38) (v := ?_) (a' := ?_) #[true, false, true, false, false, true, false, false, false, false, false, false, false, false] rfl rfl (aH HT_.out (by kernel_rfl)) (fun _ _ _ h => h) (Or.inl ⟨by rfl, ?_⟩) ?_ ?_
        rotate_left
        · intro w'
          go_simp
          with_reducible rfl
        rotate_left
        · simp only [Act.put, List.setIfInBounds_toArray, List.set_cons_zero, List.set_cons_succ, aq, ar]
          rfl
        refine bc (i := 6) (N := some 39) (v := ?_) (a' := ?_) #[true, false, true, false, false, true, true, false, false, false, false, false, false, false] rfl rfl (aH HT_.out (by kernel_rfl)) (fun _ _ _ h => h) (Or.inl ⟨by rfl, ?_⟩) ?_ ?_
        rotate_left
        · intro w'
          go_simp
          with_reducible rfl
        rotate_left
        · simp only [Act.put, List.setIfInBounds_toArray, List.set_cons_zero, List.set_cons_succ, aq, ar]
          rfl
        refine bc (i := 7) (N := some 40) (v := ?_) (a' := ?_) #[true, false, true, false, false, true, true, true, false, false, false, false, false, false] rfl rfl (aH HT_.out (by kernel_rfl)) (fun _ _ _ h => h) (Or.inl ⟨by rfl, ?_⟩) ?_ ?_
        rotate_left
        · intro w'
          go_simp
          with_reducible rfl
        rotate_left
        · simp only [Act.put, List.setIfInBounds_toArray, List.set_cons_zero, List.set_cons_succ, aq, ar]
          rfl
        refine take_ (i := 1) (N := some 34) (v := ?_) (a' := ?_) #[true, true, true, false, false, true, true, true, false, false, false, false, false, false] rfl rfl (bE HT_.out (by kernel_rfl)) (fun _ _ _ h => h) (Or.inl ⟨by rfl, ?_⟩) hHeld ?_ ?_
        rotate_left
        · rintro w' ⟨s0, s1, s2, s3⟩
          go_simp
          with_reducible rfl
        rotate_left
        · simp only [Act.put, List.setIfInBounds_toArray, List.set_cons_zero, List.set_cons_succ, aq, ar]
          rfl
        refine bc (i := 3) (N := some 36) (v := ?_) (a' := ?_) #[true, true, true, true, false, true, true, true, false, false, false, false, false, false] rfl rfl (aH HT_.out (by kernel_rfl)) (fun _ _ _ h => h) (Or.inl ⟨by rfl, ?_⟩) ?_ ?_
        rotate_left
        · intro w'
          go_simp
          with_reducible rfl
        rotate_left
        · simp only [Act.put, List.setIfInBounds_toArray, List.set_cons_zero, List.set_cons_succ, aq, ar]
          rfl
        refine take_ (i := 4) (N := some 37) (v := ?_) (a' := ?_) #[true, true, true, true, true, true, true, true, false, false, false, false, false, false] rfl rfl (bE HT_.out (by kernel_rfl)) (fun _ _ _ h => h) (Or.inl ⟨by rfl, ?_⟩) hHeld ?_ ?_
        rotate_left
        · rintro w' ⟨s0, s1, s2, s3⟩
          go_simp
          with_reducible rfl
        rotate_left
        · simp only [Act.put, List.setIfInBounds_toArray, List.set_cons_zero, List.set_cons_succ, aq, ar]
          rfl
        refine take_ (i := 8) (N := some 41) (v := ?_) (a' := ?_) #[true, true, true, true, true, true, true, true, true, false, false, false, false, false] rfl rfl (bE HT_.out (by kernel_rfl)) (fun _ _ _ h => h) (Or.inl ⟨by rfl, ?_⟩) hHeld ?_ ?_
        rotate_left
        · rintro w' ⟨s0, s1, s2, s3⟩
          go_simp
          with_reducible rfl
        rotate_left
        · simp only [Act.put, List.setIfInBounds_toArray, List.set_cons_zero, List.set_cons_succ, aq, ar]
          rfl
        refine bc (i := 9) (N := some 42) (v := ?_) (a' := ?_) #[true, true, true, true, true, true, true, true, true, true, false, false, false, false] rfl rfl (aH HT_.out (by kernel_rfl)) (fun _ _ _ h => h) (Or.inl ⟨by rfl, ?_⟩) ?_ ?_
        rotate_left
        · intro w'
          go_simp
          with_reducible rfl
        rotate_left
        · simp only [Act.put, List.setIfInBounds_toArray, List.set_cons_zero, List.set_cons_succ, aq, ar]
          rfl
        refine take_ (i := 10) (N := some 43) (v := ?_) (a' := ?_) #[true, true, true, true, true, true, true, true, true, true, true, false, false, false] rfl rfl (bE HT_.out (by kernel_rfl)) (fun _ _ _ h => h) (Or.inl ⟨by rfl, ?_⟩) hHeld ?_ ?_
        rotate_left
        · rintro w' ⟨s0, s1, s2, s3⟩
          go_simp
          with_reducible rfl
        rotate_left
        · simp only [Act.put, List.setIfInBounds_toArray, List.set_cons_zero, List.set_cons_succ, aq, ar]
          rfl
        refine fz (i := 11) (N := some 44) #[true, true, true, true, true, true, true, true, true, true, true, true, false, false] rfl rfl (bB HT_.out (by kernel_rfl)) (by decide) (fun K hK => ?_)
        refine cq (w1 := w3.drew.alloc (.cells #[.int .i64 v] 3)) (v := .slice (some ⟨w3.drew.heap.size, 0, none⟩) 1 1) rfl (by first | (go_simp; done) | (go_simp; rfl)) ?_
        refine hK.out _ _ ⟨dC z1' _, dC hx0' _, dC hx4' _, dC hxr' _⟩ (fun hHeld => ?_)
        clear hK K
        refine co (a' := ?_) ?_ ?_
        rotate_left
        · show Act.put _ (some 44) _ = _
          simp only [Act.put, List.setIfInBounds_toArray, List.set_cons_zero, List.set_cons_succ, aq, ar]
          rfl
        refine fz (i := 12) (N := some 45) #[true, true, true, true, true, true, true, true, true, true, true, true, true, false] rfl rfl (bB HT_.out (by kernel_rfl)) (by decide) (fun K hK => ?_)
        refine d6 (w0 := w3) (W := w3.drew) g rfl (.tmp 33) (.tmp 44) 26 3 (.int .i64 0) 1 8 rfl Try.underlying26 dV rfl (by omega) (by omega) (.slice A5 k c5) k (bM .i64 (x.take k)) [.int .i64 v] rfl rfl rfl (by simp [Value.oneCell']) HOX4.out (a5 (Below.refl _ _)) HS3.out (by have := HL.out; have := HK.out; have := HD.out; omega) ?_
        intro v9 w9 ho9 hb9 hg9 hat9
        obtain ⟨A9, c9, rfl⟩ := d5 ho9
        have hB9 : Below W.heap.size W w9 := HB3.out.trans (by rw [HG.out]; exact hb9)
        have hOA9 : w9.ownsRow g 3 1 (.slice (some ⟨q, 0, none⟩) a.length c4) a.length (bM .i64 a) := World.ownsRow.kept (own_drew HOA3.out) hg9 (.inr (fun e => (ne_cut (n' := k) (c' := c5) (m' := a.length) (d' := c4) (ne_symm HNE.out)) q e.symm rfl))
        have hNE9 : NeRow (.slice (some ⟨q, 0, none⟩) a.length c4) (.slice A9 (k + 1) c9) := ne_append' (ne_cut HNE.out) hat9 (own_drew HOA3.out)
        obtain ⟨ad9, e9, hx9⟩ := (f8 hOA9).at_ (k : Int) (by omega) (by have := HK.out; omega)
        cases e9
        rw [Int.toNat_natCast, add0 q k, HIK.out] at hx9
        have hOX9 : w9.ownsRow g 3 1 (.slice A9 (k + 1) c9) (k + 1) (bM .i64 (x.take k ++ [v])) := by
          rw [g9]; exact ho9
        obtain ⟨cur9, hblk9⟩ : ∃ cur, w9.heap[q]? = some (.cells cur 3 (0, 0)) := by
          rcases hOA9.2 with ⟨h, _⟩ | ⟨q', cp, cur, h1, h2, h3, _⟩
          · cases h
          · injection h1 with h1 _ _
            injection h1 with h1
            injection h1 with h1 _ _
            subst h1
            exact ⟨cur, h3⟩
        have hz9 := a8 hblk9 k
        have HB9 := Aside0.mk hB9
        have HOA9 := Aside0.mk hOA9
        have HOX9 := Aside0.mk hOX9
        have HNE9 := Aside0.mk hNE9
        have HX9 := Aside0.mk hx9
        clear ho9 hb9 hg9 hat9 hB9 hOA9 hOX9 hNE9 hblk9
        refine hK.out _ _ ⟨by simpa using a7 (ae HE1.out HB9.out) 0, (HB9.out.cell HLT.out.1).trans HX0.out, HX9.out, (HB9.out.cell HLTR.out).trans HXR.out⟩ (fun hHeld => ?_)
        clear hK K
        refine co (a' := ?_) ?_ ?_
        rotate_left
        · show Act.put _ (some 45) _ = _
          simp only [Act.put, List.setIfInBounds_toArray, List.set_cons_zero, List.set_cons_succ, aq, ar]
          rfl
        refine bc (i := 13) (N := some 5) (v := ?_) (a' := ?_) #[true, true, true, true, true, true, true, true, true, true, true, true, true, true] rfl rfl (aH HT_.out (by kernel_rfl)) (fun _ _ _ h => h) (Or.inl ⟨by rfl, ?_⟩) ?_ ?_
        rotate_left
        · intro w'
          go_simp
          with_reducible rfl
        rotate_left
        · simp only [Act.put, List.setIfInBounds_toArray, List.set_cons_zero, List.set_cons_succ, aq, ar]
          rfl
        refine fX (cK HT_.out (by kernel_rfl)) ?_
        clear z1' hx0' hx4' hxr' hHeld HT_
        have hne2 : b2 ≠ q := by have := aZ HE2.out; have := HQ.out; have := HG.out; omega
        have hwi : wrap64 ((i : Int) + 1) = ((i + 1 : Nat) : Int) := by rw [wr64 _ (by omega) (by have := HIL.out; have := HIR.out; omega)]; rfl
        obtain ⟨w10, hw10⟩ : ∃ w10, w9.setCell ⟨q, k, none⟩ (.int .i64 (wrap64 ((i : Int) + 1))) = w10 := ⟨_, rfl⟩
        have z2 : w10.cell? ⟨b2, 0, none⟩ = some (.slice A1 rs.length c1) := by
          rw [← hw10]
          exact (World.cell?_setCell_far w9 ⟨q, k, none⟩ ⟨b2, 0, none⟩ _ (Ne.symm hne2)).trans (by simpa using a7 (ae HE2.out HB9.out) 0)
        obtain ⟨a2, ha2⟩ : ∃ a2, a.set k ((i : Int) + 1) = a2 := ⟨_, rfl⟩
        obtain ⟨x2, hx2⟩ : ∃ x2, x.take k ++ [v] = x2 := ⟨_, rfl⟩
        have hla : a2.length = k + 1 := by rw [← ha2, List.length_set]; exact HK.out
        have hlx2 : x2.length = k + 1 := by rw [← hx2, List.length_append, HLX.out]; rfl
        have hOA10 : w10.ownsRow g 3 1 (.slice (some ⟨q, 0, none⟩) (k + 1) c4) (k + 1) (bM .i64 a2) := by
          have h := own_put HOA9.out (k : Int) (wrap64 ((i : Int) + 1))
          rw [Int.toNat_natCast, hw10, hwi, show ((i + 1 : Nat) : Int) = (i : Int) + 1 by omega, ha2, hla, HK.out] at h
          exact h
        have hOX10 : w10.ownsRow g 3 1 (.slice A9 (k + 1) c9) (k + 1) (bM .i64 x2) := by
          rw [← hw10, ← hx2]
          exact dY HOX9.out (fun e => HNE9.out q rfl e.symm) _
        have hB10 : Below W.heap.size W w10 := by
          rw [← hw10]
          exact HB9.out.setCell (p := ⟨q, k, none⟩) (by have := HQ.out; have := HG.out; simp only []; omega) _
        have hX' : w10.ownsRow g 3 1 (.slice A9 (k + 1) c9) x2.length (bM .i64 x2) := by rw [hlx2]; exact hOX10
        obtain ⟨A9', c9', e9, hle9, hrd9⟩ := bI (enc := fun x : Int => Value.int .i64 x) (d := 0) hX'
        clear hX'
        rw [hlx2] at e9
        injection e9 with e9a _ e9c
        subst e9a e9c
        obtain ⟨bb, hbb⟩ : ∃ bb, badB rs x2 = bb := ⟨_, rfl⟩
        obtain ⟨fi, hfi⟩ : ∃ fi, bQ (fun r => brokenB r x2) rs 0 = fi := ⟨_, rfl⟩
        have hf1 : decide (fi ≥ 0) = bb := by rw [← hfi, dP, ← hbb]; rfl
        have hf2 : decide (0 ≤ fi) = bb := hf1
        have hf := first_ok A1 c1 rs A9 c9 x2 w10 (Kd.C_below HR1.out hB10) (Kd.C_of_reads hrd9) (by omega) HOK.out
        rw [hlx2, hfi] at hf
        have HF := Aside0.mk hf
        have HBB := Aside0.mk hbb
        have HA2 := Aside0.mk ha2
        have HX2 := Aside0.mk hx2
        have HOA10 := Aside0.mk hOA10
        have HOX10 := Aside0.mk hOX10
        have HB10 := Aside0.mk hB10
        have HLA := Aside0.mk hla
        have HLX2 := Aside0.mk hlx2
        clear hne2 hwi hf hfi hbb ha2 hx2 hOA10 hOX10 hB10 hla hlx2 hle9 hrd9
        have hstep := rest_step (bad := badB rs) (ds := ds) (a := a) (x := x) (k := k) (i := i) (v := v) HK.out (by have := HL.out; have := HK.out; omega) HIK.out (by rw [HROW.out]; exact HIL.out) (by rw [HROW.out]; exact HV.out)
        have hleft := left_step (ds := ds) (a := a) (k := k) (i := i) HK.out HIK.out (by rw [HROW.out]; exact HIL.out)
        rw [HX2.out, HA2.out, HBB.out] at hstep
        rw [HA2.out] at hleft
        have hR := HR.out
        rw [HK.out, hstep] at hR
        have hM := HM.out
        rw [HK.out, hleft] at hM
        have hI2 : ∀ j, j < k + 1 → 0 ≤ rd a2 (j : Int) ∧ (rd a2 (j : Int)).toNat ≤ (ds.getD j []).length := fun j hj => by
          rw [← HA2.out]
          by_cases hjk : j = k
          · subst hjk
            rw [fG a j _ (by have := HK.out; omega), HROW.out]
            have := HIL.out
            exact ⟨by omega, by omega⟩
          · rw [fY a k j _ hjk]
            exact HI.out j (by have := HK.out; omega)
        have HRR := Aside0.mk hR
        have HMM := Aside0.mk hM
        have HI2 := Aside0.mk hI2
        clear hstep hleft hR hM hI2
        cases bb with
        | true =>
          go_wp2_with (go_at_call 60; refine HF.out.mono ?_; rintro e w11 ⟨rfl, hb⟩; have HB11 := Aside0.mk hb; have z3 : w11.cell? ⟨b1, 0, none⟩ = some (.slice (some ad0) ds.length c0) := (by simpa using a7 (ae HE1.out (HB10.out.trans (hb.mono HB10.out.size))) 0); clear hb)
          go_roundg (left ds a2 (k + 1))
          case measure => have := HMM.out; omega
          case rel =>
            exact ⟨a2, x2, _, _, A9, c9, by rw [HLA.out], by rw [HLX2.out], ⟨by rw [HLA.out]; exact bY HOA10.out HB11.out⟩, ⟨by rw [HLX2.out]; exact bY HOX10.out HB11.out⟩, ⟨ne_cut HNE9.out⟩, ⟨by have := HL.out; have := HK.out; have := HLA.out; have := HLX2.out; omega⟩,
              ⟨fun j hj => HI2.out j (by rw [HLA.out] at hj; exact hj)⟩, ⟨by rw [HLA.out]; exact HRR.out⟩, ⟨by rw [HLA.out]; exact Nat.le_refl _⟩, ⟨HB10.out.trans (HB11.out.mono HB10.out.size)⟩⟩
        | false =>
          have hkb := HKD.out
          by_cases d2 : k + 1 < ds.length
          · have d2a : decide ((k : Int) + 1 < (ds.length : Int)) = true := decide_eq_true (by omega)
            have d2b : decide (((k + 1 : Nat) : Int) < (ds.length : Int)) = true := decide_eq_true (by omega)
            have d2c : decide (k + 1 < ds.length) = true := decide_eq_true d2
            have HD2 := Aside0.mk d2
            clear d2
            go_wp2_with (first | (go_at_call 60; refine HF.out.mono ?_; rintro e w11 ⟨rfl, hb⟩; have HB11 := Aside0.mk hb; have z3 : w11.cell? ⟨b1, 0, none⟩ = some (.slice (some ad0) ds.length c0) := (by simpa using a7 (ae HE1.out (HB10.out.trans (hb.mono HB10.out.size))) 0); clear hb) | ((with_reducible refine cA (b := .append) (xs := #[.tmp 63, .tmp 64]) rfl ?_); at_builtin; refine cC (w0 := W) g rfl (.tmp 63) (.tmp 64) 26 3 .i64 8 rfl Try.underlying26 dV (by omega) _ a2 0 rfl rfl ?aO ?aB ?aS ?aL ?_; (case aO => have h := bY HOA10.out HB11.out; rw [HLA.out]; exact h); (case aB => rw [← HG.out]; exact HB10.out.trans (HB11.out.mono HB10.out.size)); (case aS => have h1 := HB10.out.size; have h2 := HB11.out.size; have h3 := HG.out; omega); (case aL => have := HLA.out; have := HKD.out; omega); intro v12 w12 ho12 hb12 hg12 hat12; obtain ⟨A12, c12, hv12⟩ := d5 ho12; subst hv12; have HOA12 := Aside0.mk ho12; have HB12 := Aside0.mk hb12; have HOX12 := Aside0.mk (World.ownsRow.kept (bY HOX10.out HB11.out) hg12 (.inr (fun e => HNE9.out q rfl e))); have HNE12 := Aside0.mk (ne_append (v' := .slice A9 (k + 1) c9) (ne_cut (n' := k + 1) (c' := c4) (m' := k + 1) (d' := c9) HNE9.out) hat12 (bY HOX10.out HB11.out)); clear ho12 hb12 hg12 hat12))
            have hl12 : (a2 ++ [0]).length = k + 1 + 1 := by rw [List.length_append, HLA.out]; rfl
            go_roundg (left ds (a2 ++ [0]) (k + 1 + 1))
            case measure =>
              have h1 := left_in HLA.out HD2.out
              have h2 := HMM.out
              omega
            case rel =>
              refine ⟨a2 ++ [0], x2, A12, c12, A9, c9, (by rw [List.length_append]; rfl), by rw [HLX2.out], ⟨HOA12.out⟩, ⟨by rw [HLX2.out]; exact HOX12.out⟩, ⟨ne_cut HNE12.out⟩, ⟨by have := HLX2.out; have := HD2.out; omega⟩, ⟨fun j hj => ?_⟩, ⟨?_⟩, ⟨by rw [hl12]; exact Nat.le_refl _⟩, ⟨by rw [HG.out]; exact HB12.out⟩⟩
              · by_cases hjk : j < k + 1
                · rw [fM a2 0 j (by have := HLA.out; omega)]
                  exact HI2.out j hjk
                · have hj2 : j = k + 1 := by omega
                  subst hj2
                  rw [show rd (a2 ++ [0]) ((k + 1 : Nat) : Int) = 0 by rw [← HLA.out]; exact fP a2 0]
                  exact ⟨by omega, by simp⟩
              · rw [hl12, ← rest_in HLA.out HLX2.out HD2.out]
                exact HRR.out
          · have d2a : decide ((k : Int) + 1 < (ds.length : Int)) = false := decide_eq_false (by omega)
            have d2b : decide (((k + 1 : Nat) : Int) < (ds.length : Int)) = false := decide_eq_false (by omega)
            have d2c : decide (k + 1 < ds.length) = false := decide_eq_false d2
            have HD2 := Aside0.mk (show k + 1 = ds.length by have := HL.out; have := HK.out; omega)
            clear d2
            go_upto_region 12 with (go_at_call 60; refine HF.out.mono ?_; rintro e w11 ⟨rfl, hb⟩; have HB11 := Aside0.mk hb; have z3 : w11.cell? ⟨b1, 0, none⟩ = some (.slice (some ad0) ds.length c0) := (by simpa using a7 (ae HE1.out (HB10.out.trans (hb.mono HB10.out.size))) 0); clear hb)
            have hsol : sol (badB rs) ds [] = some x2 := by
              have h := HRR.out
              rw [if_neg (by decide), sol_end HD2.out] at h
              exact h.symm
            have hBW : Below W.heap.size W w11 := HB10.out.trans (HB11.out.mono HB10.out.size)
            obtain ⟨fn, tmps, assign, body, hy, hRd⟩ := HY.out #[.slice A9 (k + 1) c9] w11 ⟨x2, hsol⟩ ⟨x2, A9, c9, hsol, by rw [HLX2.out], by rw [HLX2.out, ← HWZ.out, HG.out]; exact bY HOX10.out HB11.out⟩ hBW
            have HSOL := Aside0.mk hsol
            clear hsol hBW
            refine (wpIn_wide (n := n)).1 ?_
            gi_wp2
            refine hRd.mono ?_
            rintro e W3 ⟨rfl, hJx⟩
            gi_wp2
            try go_wp2_with (fail)
            refine bodyPost_ret (results_none rfl _ _ _) rfl ?_
            exact ⟨⟨_, rfl⟩, .inr ⟨⟨x2, HSOL.out⟩, hJx⟩⟩
end DF
end Go.Proofs.Ytcbpkdemcdikaaa.X
namespace Go.Proofs.Ytcbpkdemcdikaaa.X
open Go.RowKit Go.Proofs.YtcbpkdemcdikaaaW.PrintWords Go.Proofs.YtcbpkdemcdikaaaW.PrintLast Go.Proofs.YtcbpkdemcdikaaaW.PrintMore
attribute [local go_sem] ay az aN aM ao ap aw ax
set_option linter.unusedVariables false
set_option linter.unusedSimpArgs false
namespace DF
open SF RO
set_option maxHeartbeats 8000000
attribute [local go_sem] Oper.semAt_some
theorem clone_ok (A : Option Addr) (c : Nat) (l : List Int) (w : World) (hr : ReadsInt w .i64 A l.length l) (hl : 0 < l.length) (hl2 : l.length ≤ 100000) :
    Calls Try.prog 53 #[.slice A l.length c] w fun e w' => ∃ v, e = .returned v ∧ w'.ownsRow w.heap.size 3 1 v l.length (bM .i64 l) ∧ Below w.heap.size w w' := by
  obtain ⟨ad, e, _⟩ := hr.2.2 hl
  subst e
  have HR := Aside0.mk hr
  have HL := Aside0.mk hl2
  have hno := World.ownsRow_lit (base := w.heap.size) (e := 3) (size := 1) w #[] 0 (Nat.le_refl _) (by simp [maxLen]) rfl
  have HO := Aside0.mk hno
  have heq : ∀ W, Sem.run Try.prog (binOp BinOp.eql 26 (Value.slice (some ad) l.length c) (Value.slice none 0 0)) W = .ok (.bool false) W := fun W => by rfl
  clear hr hl hl2 hno
  go_enter Try.func53, Try.ntmps53
  go_wp2_with ((with_reducible refine cA (b := .append) (xs := #[.tmp 5, .tmp 6]) rfl ?_); at_builtin; refine fu (w0 := w) w.heap.size rfl (.tmp 5) (.tmp 6) 26 3 .i64 8 rfl Try.underlying26 dV (by omega) _ [] l (some ad) l.length c rfl rfl ?aO ?aR ?aB ?aS ?aL ?_; (case aO => exact HO.out); (case aR => exact HR.out.below (a6 (Below.refl _ _) _)); (case aB => exact a6 (Below.refl _ _) _); (case aS => simp); (case aL => have := HL.out; simp; omega); intro v9 w9 ho hb hg hat; have HO9 := Aside0.mk ho; have HB9 := Aside0.mk hb; clear ho hb hg hat)
  go_ret
  exact ⟨_, rfl, by simpa using HO9.out, HB9.out⟩
theorem fj (A0 : Option Addr) (n0 c0 : Nat) (A1 : Option Addr) (n1 c1 : Nat) (w : World) :
    Calls Try.prog 46 #[.slice A0 n0 c0, .slice A1 n1 c1] w fun e w' => e = .returned (.func (.func 62) #[] #[.pointer (some ⟨w.heap.size, 0, none⟩), .pointer (some ⟨w.heap.size + 1, 0, none⟩)]) ∧ w' = (w.alloc (.cells #[.slice A0 n0 c0] 22)).alloc (.cells #[.slice A1 n1 c1] 23) := by
  go_enter Try.func46, Try.ntmps46
  go_wp2_with (fail)
  go_ret
  exact ⟨rfl, rfl⟩
theorem fk {α β : Type} (f : α → Option β) : ∀ (l : List α) {b : β}, l.findSome? f = some b → ∃ a ∈ l, f a = some b
  | [], b, h => by cases h
  | a :: l, b, h => by
    rw [List.findSome?_cons] at h
    cases hf : f a with
    | some c =>
      rw [hf] at h
      cases h
      exact ⟨a, by simp, hf⟩
    | none =>
      rw [hf] at h
      obtain ⟨a', h1, h2⟩ := fk f l h
      exact ⟨a', by simp [h1], h2⟩
theorem ge (bad : List Int → Bool) : ∀ (ds : List (List Int)) (x y : List Int), sol bad ds x = some y → y.length = x.length + ds.length
  | [], x, y, h => by cases h; rfl
  | d :: ds, x, y, h => by
    obtain ⟨v, _, hv⟩ := fk _ d h
    split at hv
    · cases hv
    · have := ge bad ds (x ++ [v]) y hv
      simp at this
      simp; omega
theorem keeps_below {B : Nat} {W W' : World} (h : Below W.heap.size W W') : KeepsFrom B W W' := ⟨h.size, fun k o _ hk _ => (h.block k (aZ hk)).trans hk⟩
theorem solve_ok (A0 : Option Addr) (c0 : Nat) (ds : List (List Int)) (A1 : Option Addr) (c1 : Nat) (rs : List S49) (w : World) (hr0 : Kd.C (Kd.slice 3 (Kd.int .i64)) w A0 ds.length ds) (hr1 : Kd.C k49 w A1 rs.length rs) (hok : ∀ r ∈ rs, okR r) (hd : 0 < ds.length) (hdl : ds.length ≤ 1000) :
    Calls Try.prog 35 #[.slice A0 ds.length c0, .slice A1 rs.length c1] w fun e w' => ∃ v0_ : Value, e = .returned (.tuple #[v0_, .bool (sol (badB rs) ds []).isSome]) ∧ w'.ownsRow w.heap.size 3 1 v0_ ((sol (badB rs) ds []).getD []).length (bM .i64 ((sol (badB rs) ds []).getD [])) ∧ Below w.heap.size w w' := by
  have HR0 := Aside0.mk hr0; have HR1 := Aside0.mk hr1; have HOK := Aside0.mk hok; have HD := Aside0.mk (And.intro hd hdl)
  clear hr0 hr1 hok hd hdl
  refine (callsIn_wide (n := 3)).1 ?_
  refine callsIn_of_wp_marks Try.func35 rfl trivial ?_ rfl
  simp only [Try.ntmps35, List.size_toArray, List.length_cons, List.length_nil, Nat.reduceAdd, Nat.reduceSub, Array.replicate_succ, Array.replicate_zero, List.push_toArray, List.append_toArray, List.nil_append, List.cons_append]
  refine wpIn_wide.2 ?_
  go_wp2_with (go_at_call 46; refine (fj A0 ds.length c0 A1 rs.length c1 _).mono ?_; rintro e w' ⟨rfl, rfl⟩)
  obtain ⟨s, hs⟩ : ∃ s, w.heap.size = s := ⟨_, rfl⟩
  obtain ⟨W4, hW4⟩ : ∃ W4, ((((w.alloc (.cells #[.slice none 0 0] 26)).alloc (.cells #[.bool false] 4)).alloc (.cells #[.slice A0 ds.length c0] 22)).alloc (.cells #[.slice A1 rs.length c1] 23)) = W4 := ⟨_, rfl⟩
  have hz4 : W4.heap.size = s + 1 + 1 + 1 + 1 := by rw [← hW4, ← hs]; simp
  have hB4 : Below w.heap.size w W4 := by rw [← hW4]; exact a6 (a6 (a6 (a6 (Below.refl _ _) _) _) _) _
  have k0 : W4.heap[s]? = some (.cells #[.slice none 0 0] 26 (0, 0)) := by
    rw [← hW4, ← hs]
    exact a9 (a9 (a9 (aV w _) _) _) _
  have k1 : W4.heap[s + 1]? = some (.cells #[.bool false] 4 (0, 0)) := by
    rw [← hW4, ← hs]
    have h := aV (w.alloc (.cells #[.slice none 0 0] 26)) (.cells #[.bool false] 4)
    rw [World.size_alloc] at h
    exact a9 (a9 h _) _
  have k2 : W4.heap[s + 1 + 1]? = some (.cells #[.slice A0 ds.length c0] 22 (0, 0)) := by
    rw [← hW4, ← hs]
    have h := aV ((w.alloc (.cells #[.slice none 0 0] 26)).alloc (.cells #[.bool false] 4)) (.cells #[.slice A0 ds.length c0] 22)
    rw [World.size_alloc, World.size_alloc] at h
    exact a9 h _
  have k3 : W4.heap[s + 1 + 1 + 1]? = some (.cells #[.slice A1 rs.length c1] 23 (0, 0)) := by
    rw [← hW4, ← hs]
    have h := aV (((w.alloc (.cells #[.slice none 0 0] 26)).alloc (.cells #[.bool false] 4)).alloc (.cells #[.slice A0 ds.length c0] 22)) (.cells #[.slice A1 rs.length c1] 23)
    rw [World.size_alloc, World.size_alloc, World.size_alloc] at h
    exact h
  rw [hW4, hs]
  have HSEQ := Aside0.mk (iter_once 2 (by omega) (s + 1 + 1) (s + 1 + 1 + 1) A0 c0 ds A1 c1 rs W4 k2 k3 (Kd.C_below HR0.out hB4) (Kd.C_below HR1.out hB4) HOK.out HD.out.1 HD.out.2)
  have HB4 := Aside0.mk hB4; have HZ4 := Aside0.mk hz4; have HS := Aside0.mk hs
  have K0 := Aside0.mk k0; have K1 := Aside0.mk k1
  clear hW4 hB4 hz4 hs k0 k1 k2 k3
  refine (wpIn_wide (n := 3)).1 ?_
  refine dU rfl (by omega) (gf := 62) rfl trivial (enters_of Try.func62 (by kernel_rfl) rfl) HSEQ.out (fun args W ⟨x, A, c, _, e, _⟩ => by rw [e]; rfl) ?hY
    (fun c W => c = .ret ∧ ∃ x v, sol (badB rs) ds [] = some x ∧ W.heap[s]? = some (.cells #[v] 26 (0, 0)) ∧ W.heap[s + 1]? = some (.cells #[.bool true] 4 (0, 0)) ∧ W.ownsRow s 3 1 v x.length (bM .i64 x) ∧ Below s w W) ?hIx
    (fun args => { tmps := #[.slice A0 ds.length c0, .slice A1 rs.length c1, undef, undef, .pointer (some ⟨s, 0, none⟩), .pointer (some ⟨s + 1, 0, none⟩), args.getD 0 undef, .slice A0 ds.length c0, .slice A1 rs.length c1, .func (.func 62) #[] #[.pointer (some ⟨s + 1 + 1, 0, none⟩), .pointer (some ⟨s + 1 + 1 + 1, 0, none⟩)], args.getD 0 undef, undef, undef], defers := [] }) ?assign ?body ?done ?stop
  case hY =>
    rintro args W o o' ⟨x, A, c, h1, h2, h3⟩ hl ho
    exact ⟨x, A, c, h1, h2, ownsRow_putObj h3 _ hl ho⟩
  case hIx =>
    rintro c W o o' ⟨h0, x, v, h1, h2, h3, h4, h5⟩ hl ho
    refine ⟨h0, x, v, h1, ?_, ?_, ownsRow_putObj h4 _ hl ho, ?_⟩
    · rw [World.putObj_heap_other (by have := HZ4.out; omega)]; exact h2
    · rw [World.putObj_heap_other (by have := HZ4.out; omega)]; exact h3
    · exact h5.trans ⟨rfl, rfl, rfl, by rw [World.putObj_size]; exact Nat.le_refl _, fun k hk => World.putObj_heap_other (by have := HZ4.out; omega)⟩
  case assign =>
    rintro l args W K ⟨x, A, c, _, rfl, _⟩ hK
    gi_wp2
    exact hK
  case body =>
    rintro l args W _ ⟨x, A, c, hx, rfl, ho⟩ hb hsz
    have hlen := ge _ _ _ _ hx
    have b0 := ae K0.out hb
    have b1 := ae K1.out hb
    have f0 := a8 b0 0
    have f1 := a8 b1 0
    have z0 := a7 b0 0
    have z1 := a7 b1 0
    simp only [List.getElem?_toArray, List.getElem?_cons_zero] at z0 z1
    have h11 : 1 ≤ 3 - 1 - 1 := by omega
    have hcl := clone_ok A c x W (f8 ho) (by rw [hlen]; have := HD.out; simp; omega) (by rw [hlen]; have := HD.out; simp; omega)
    have HCL := Aside0.mk hcl
    clear hcl hlen
    rw [show (#[Value.slice A x.length c] : Array Value).getD 0 undef = .slice A x.length c from rfl]
    gi_wp2_with (refine ⟨trivial, ?_⟩; gi_at_call 53; refine (CallsIn.inRound l (callsIn_wide.2 HCL.out)).mono ?_; rintro e w' ⟨v, rfl, hv, hbv⟩; obtain ⟨A9, c9, hv9⟩ := d5 hv; subst hv9; have b0' := ae b0 hbv; have b1' := ae b1 hbv; have f0' := a8 b0' 0; have f1' := a8 b1' 0; have z0' := a7 b0' 0; have z1' := a7 b1' 0; simp only [List.getElem?_toArray, List.getElem?_cons_zero] at z0' z1')
    have hne : s ≠ s + 1 := by omega
    have d0 : ((w'.setCell ⟨s, 0, none⟩ (.slice A9 x.length c9)).setCell ⟨s + 1, 0, none⟩ (.bool true)).heap[s]? = some (.cells #[.slice A9 x.length c9] 26 (0, 0)) := by
      rw [Below.heap_setCell _ _ _ _ (by simp)]
      exact cn b0' 0 _
    have d1 : ((w'.setCell ⟨s, 0, none⟩ (.slice A9 x.length c9)).setCell ⟨s + 1, 0, none⟩ (.bool true)).heap[s + 1]? = some (.cells #[.bool true] 4 (0, 0)) := by
      have h : (w'.setCell ⟨s, 0, none⟩ (.slice A9 x.length c9)).heap[s + 1]? = some (.cells #[.bool false] 4 (0, 0)) := by
        rw [Below.heap_setCell _ _ _ _ (by simp)]
        exact b1'
      exact cn h 0 _
    refine ⟨(((keeps_below hbv).trans ((KeepsOthers.setCell _ _ _).from _)).trans ((KeepsOthers.setCell _ _ _).from _)), rfl, x, .slice A9 x.length c9, hx, d0, d1, ?_, ?_⟩
    · have hlt : s + 1 < W.heap.size := aZ b1
      have h1 := dY (p := ⟨s, 0, none⟩) hv (fun e => by have := bO hv s e.symm; omega) (.slice A9 x.length c9)
      have h2 := dY (p := ⟨s + 1, 0, none⟩) h1 (fun e => by have := bO hv (s + 1) e.symm; omega) (.bool true)
      exact dN h2 (by omega)
    · have h0 : Below s w W := by rw [← HS.out]; exact HB4.out.trans (hb.mono HB4.out.size)
      have h1 : Below s w w' := h0.trans (hbv.mono (by have := aZ b1; omega))
      exact (h1.setCell (p := ⟨s, 0, none⟩) (Nat.le_refl _) _).setCell (p := ⟨s + 1, 0, none⟩) (by simp) _
  case done =>
    intro W hno hb hD
    have hsol : sol (badB rs) ds [] = none := by
      cases h : sol (badB rs) ds [] with
      | none => rfl
      | some x => exact absurd ⟨x, h⟩ hno
    have b0 := ae K0.out hb
    have b1 := ae K1.out hb
    have f0 := a8 b0 0
    have f1 := a8 b1 0
    have z0 := a7 b0 0
    have z1 := a7 b1 0
    simp only [List.getElem?_toArray, List.getElem?_cons_zero] at z0 z1
    go_wp2_with (fail)
    have d0 : ((W.setCell ⟨s, 0, none⟩ (.slice none 0 0)).setCell ⟨s + 1, 0, none⟩ (.bool false)).heap[s]? = some (.cells #[.slice none 0 0] 26 (0, 0)) := by
      rw [Below.heap_setCell _ _ _ _ (by simp)]
      exact cn b0 0 _
    have d1 : ((W.setCell ⟨s, 0, none⟩ (.slice none 0 0)).setCell ⟨s + 1, 0, none⟩ (.bool false)).heap[s + 1]? = some (.cells #[.bool false] 4 (0, 0)) := by
      have h : (W.setCell ⟨s, 0, none⟩ (.slice none 0 0)).heap[s + 1]? = some (.cells #[.bool false] 4 (0, 0)) := by
        rw [Below.heap_setCell _ _ _ _ (by simp)]
        exact b1
      exact cn h 0 _
    have hBe : Below s w ((W.setCell ⟨s, 0, none⟩ (.slice none 0 0)).setCell ⟨s + 1, 0, none⟩ (.bool false)) := by
      have h0 : Below s w W := by rw [← HS.out]; exact HB4.out.trans (hb.mono HB4.out.size)
      exact (h0.setCell (p := ⟨s, 0, none⟩) (Nat.le_refl _) _).setCell (p := ⟨s + 1, 0, none⟩) (by simp) _
    have hDe : ((W.setCell ⟨s, 0, none⟩ (.slice none 0 0)).setCell ⟨s + 1, 0, none⟩ (.bool false)).heap[W4.heap.size]? = some (.deferred (some [])) := by
      rw [Below.heap_setCell _ _ _ _ (by have := HZ4.out; simp; omega), Below.heap_setCell _ _ _ _ (by have := HZ4.out; simp; omega)]
      exact hD
    obtain ⟨We, hWe⟩ : ∃ We, (W.setCell ⟨s, 0, none⟩ (.slice none 0 0)).setCell ⟨s + 1, 0, none⟩ (.bool false) = We := ⟨_, rfl⟩
    rw [hWe] at d0 d1 hBe hDe ⊢
    have e2 : (We.putObj W4.heap.size (.deferred none)).heap[s]? = some (.cells #[.slice none 0 0] 26 (0, 0)) := by rw [World.putObj_heap_other (by have := HZ4.out; omega)]; exact d0
    have e3 : (We.putObj W4.heap.size (.deferred none)).heap[s + 1]? = some (.cells #[.bool false] 4 (0, 0)) := by rw [World.putObj_heap_other (by have := HZ4.out; omega)]; exact d1
    have z0 := a7 e2 0
    have z1 := a7 e3 0
    simp only [List.getElem?_toArray, List.getElem?_cons_zero] at z0 z1
    refine ⟨by simp, .inl ⟨_, _, rfl, run_takeDeferred hDe, ?_⟩⟩
    refine ⟨.tuple #[.slice none 0 0, .bool false], ?_, .slice none 0 0, ?_, ?_, ?_⟩
    · simp [results, Try.results35, go_sem, z0, z1]
    · rw [hsol]; rfl
    · rw [hsol]; exact World.ownsRow_nil _ _ _ _
    · rw [HS.out]
      exact hBe.trans ⟨rfl, rfl, rfl, by rw [World.putObj_size]; exact Nat.le_refl _, fun k hk => World.putObj_heap_other (by have := HZ4.out; omega)⟩
  case stop =>
    rintro c W _ ⟨rfl, x, v, hx, h2, h3, h4, h5⟩ hD
    gi_wp2
    have e2 : (W.putObj W4.heap.size (.deferred none)).heap[s]? = some (.cells #[v] 26 (0, 0)) := by rw [World.putObj_heap_other (by have := HZ4.out; omega)]; exact h2
    have e3 : (W.putObj W4.heap.size (.deferred none)).heap[s + 1]? = some (.cells #[.bool true] 4 (0, 0)) := by rw [World.putObj_heap_other (by have := HZ4.out; omega)]; exact h3
    have z0 := a7 e2 0
    have z1 := a7 e3 0
    simp only [List.getElem?_toArray, List.getElem?_cons_zero] at z0 z1
    refine ⟨by simp, .inl ⟨_, _, rfl, run_takeDeferred hD, ?_⟩⟩
    refine ⟨.tuple #[v, .bool true], ?_, v, ?_, ?_, ?_⟩
    · simp [results, Try.results35, go_sem, z0, z1]
    · rw [hx]; rfl
    · rw [hx, HS.out]; exact ownsRow_putObj h4 _ hD rfl
    · rw [HS.out]
      exact h5.trans ⟨rfl, rfl, rfl, by rw [World.putObj_size]; exact Nat.le_refl _, fun k hk => World.putObj_heap_other (by have := HZ4.out; omega)⟩
end DF
end Go.Proofs.Ytcbpkdemcdikaaa.X
namespace Go.Proofs.Ytcbpkdemcdikaaa.X
open Go.RowKit Go.Proofs.YtcbpkdemcdikaaaW.PrintWords Go.Proofs.YtcbpkdemcdikaaaW.PrintLast Go.Proofs.YtcbpkdemcdikaaaW.PrintMore
attribute [local go_sem] ay az aN aM ao ap aw ax   
set_option linter.unusedVariables false
set_option linter.unusedSimpArgs false
def search_solve.f (l0 : List (List Int)) (l1 : List (S49)) : Option (List Int × Bool) := if l1.all SF.okB && decide (0 < l0.length) && decide (l0.length ≤ 1000) then some ((DF.sol (DF.badB l1) l0 []).getD [], (DF.sol (DF.badB l1) l0 []).isSome) else none
theorem search_solve.calls (A0 : Option Addr) (c0 : Nat) (l0 : List (List Int)) (A1 : Option Addr) (c1 : Nat) (l1 : List (S49)) (r1 : List Int) (r2 : Bool) (w : World) (hr0 : Kd.C (Kd.slice 3 (Kd.int .i64)) w A0 l0.length l0) (hc0 : l0.length ≤ c0) (hr1 : Kd.C k49 w A1 l1.length l1) (hc1 : l1.length ≤ c1) (h : search_solve.f l0 l1 = some (r1, r2)) :
  Calls Try.prog 35 #[.slice A0 l0.length c0, .slice A1 l1.length c1] w fun e w' => ∃ v0_ : Value, e = .returned (.tuple #[v0_, .bool r2]) ∧ Kd.R (Kd.int .i64) 3 w' w.heap.size (fun _ => True) v0_ r1 ∧ Below w.heap.size w w' := by
 unfold search_solve.f at h
 split at h
 ·rename_i hk
  simp only [Bool.and_eq_true, decide_eq_true_eq, List.all_eq_true] at hk
  cases h
  refine (DF.solve_ok A0 c0 l0 A1 c1 l1 w hr0 hr1 (fun r hr => SF.okB_R (hk.1.1 r hr)) hk.1.2 hk.2).mono ?_
  rintro e w' ⟨v, he, ho, hb⟩
  exact ⟨v, he, Kd.R_of_own ho (fun _ _ => trivial), hb⟩
 ·cases h
def search_Solve.f (k : Nat) (ai : List (List Int)) (af : List (S49)) : Option (List Int × Bool × Int) := (search_Check.f k ai af).bind fun t134 => (if t134 = 0 then ((search_solve.f ai af).bind fun hI => (some (hI.1, hI.2, 0))) else (some (([] : List Int), false, t134)))
set_option maxHeartbeats 8000000 in
set_option maxRecDepth 100000 in
theorem search_Solve.calls (k : Nat) (aC : Option Addr) (aA : Nat) (ai : List (List Int)) (aI : Option Addr) (au : Nat) (af : List (S49)) (r1 : List Int) (r2 : Bool) (r3 : Int) (w : World) (bA : Kd.C (Kd.slice 3 (Kd.int .i64)) w aC ai.length ai) (bJ : ai.length ≤ aA) (bx : Kd.C k49 w aI af.length af) (bC : af.length ≤ au) (h : search_Solve.f k ai af = some (r1, r2, r3)) :
  Calls Try.prog 15 #[.agg #[.slice aC ai.length aA, .slice aI af.length au]] w fun e w' => ∃ v0_ : Value, e = .returned (.tuple #[v0_, .bool r2, .int .i64 r3]) ∧ Kd.R (Kd.int .i64) 3 w' w.heap.size (fun _ => True) v0_ r1 ∧ Below w.heap.size w w' := by
 have hu25 := Try.underlying25
 have bz := Aside0.mk bA
 have bG := Aside0.mk bJ
 clear bA bJ
 have br := Aside0.mk bx
 have bF := Aside0.mk bC
 clear bx bC
 have HB := Aside0.mk (Below.refl w.heap.size w)
 have H : ((search_Check.f k ai af).bind fun t134 => (if t134 = 0 then ((search_solve.f ai af).bind fun hI => (some (hI.1, hI.2, 0))) else (some (([] : List Int), false, t134)))) = some (r1, r2, r3) := h
 clear h
 replace H := Option.bind_eq_some_iff.mp H
 obtain ⟨t134, A20, H⟩ := H
 replace H : (if t134 = 0 then ((search_solve.f ai af).bind fun hI => (some (hI.1, hI.2, 0))) else (some (([] : List Int), false, t134))) = some (r1, r2, r3) := H
 have A2 := Aside0.mk A20
 clear A20
 by_cases c3 : t134 = 0
 ·rw [if_pos c3] at H
  have c3b0 : (t134 == 0) = true := beq_iff_eq.mpr c3
  have c3b1 : (t134 != 0) = false := bne_eq_false_iff_eq.mpr c3
  clear c3
  replace H := Option.bind_eq_some_iff.mp H
  obtain ⟨⟨t135, t136⟩, A40, H⟩ := H
  replace H : (some (t135, t136, 0)) = some (r1, r2, r3) := H
  have A4 := Aside0.mk A40
  clear A40
  simp only [Option.some.injEq, Prod.mk.injEq] at H
  obtain ⟨rfl, rfl, rfl⟩ := H
  go_enter Try.func15, Try.ntmps15
  go_wp2_with (first | ((with_reducible refine aK (N := 1) rfl ?_); refine av ?hg (N := 1) ?hd (cs := #[.slice aC ai.length aA, .slice aI af.length au]) (t := 25) ?hr ?_; (case hd => rfl); (case hg => rfl); (case hr => first | (go_simp; done) | (go_simp; rfl)); intro eW hg w5 hbox hb; have n0_ := Aside0.mk (aj (by repeat (first | (with_reducible first | exact HB.out | apply a6 | apply a4 | apply a5) | exact HB.out)) hb); have n1_ := Aside0.mk (hbox); have n2_ := Aside0.mk ((by rw [hg]; exact (ah (by repeat (first | (with_reducible first | exact HB.out | apply a6 | apply a4 | apply a5) | exact HB.out))) : w.heap.size ≤ eW)); have n3_ := Aside0.mk ((by rw [hg]; exact (ah (by repeat (first | (with_reducible first | exact HB.out | apply a6 | apply a4 | apply a5) | exact HB.out))) : w.heap.size ≤ eW)); clear HB; have HB := n0_; have cR := n1_; have GW133 := n2_; have GE133 := n3_; clear n0_ n1_ n2_ n3_; clear hb hbox hg; have eR : w5.cell? ⟨eW, 0, none⟩ = some (.slice aC ai.length aA) := (a7 cR.out 0).trans rfl; have eT : w5.cell? ⟨eW, 1, none⟩ = some (.slice aI af.length au) := (a7 cR.out 1).trans rfl; have eU := a8 cR.out 0; have eV := a8 cR.out 1) | ((with_reducible refine aE (f := 17) rfl ?_); refine bw (some 6) rfl rfl Try.func17 (by kernel_rfl) rfl #[.agg #[.slice aC ai.length aA, .slice aI af.length au]] rfl (by (try simp only [List.map_toArray, List.map_cons, List.map_nil]); first | done | rfl | (simp only [List.length_drop, List.length_take]; rfl)) ?_; (with_reducible refine (search_Check.calls k _ _ ai _ _ af t134 _ ?side1 ?side2 ?side3 ?side4 A2.out).mono ?_); (case side1 => repeat (first | exact (Kd.C_below bz.out HB.out) | (with_reducible refine Kd.C_alloc ?_ _) | (with_reducible refine Kd.C_drewN ?_ _) | (with_reducible refine Kd.C_drew ?_))); (case side2 => exact bG.out); (case side3 => repeat (first | exact (Kd.C_below br.out HB.out) | (with_reducible refine Kd.C_alloc ?_ _) | (with_reducible refine Kd.C_drewN ?_ _) | (with_reducible refine Kd.C_drew ?_))); (case side4 => exact bF.out); rintro e w7 ⟨rfl, hb⟩; refine ⟨_, rfl, ?_⟩; have n0_ := Aside0.mk (ae (g := eW) (o := .cells #[.slice aC ai.length aA, .slice aI af.length au] 25 (0, 0)) (by (with_reducible repeat (first | refine ab ?_ _ | refine ac ?_ | refine a9 ?_ _)); exact cR.out) hb); have n1_ := Aside0.mk (aj (by repeat (first | (with_reducible first | exact HB.out | apply a6 | apply a4 | apply a5 | refine aa ?_ GE133.out) | exact HB.out)) hb); clear cR; clear HB; have cR := n0_; have HB := n1_; clear n0_ n1_; (try clear hb); (try clear hb2); (try clear hk); (try clear hi); have gF : w7.cell? ⟨eW, 0, none⟩ = some (.slice aC ai.length aA) := (a7 cR.out 0).trans rfl; have gG : w7.cell? ⟨eW, 1, none⟩ = some (.slice aI af.length au) := (a7 cR.out 1).trans rfl; have gH := a8 cR.out 0; have gI := a8 cR.out 1) | ((with_reducible refine aE (f := 35) rfl ?_); refine bw (some 15) rfl rfl Try.func35 (by kernel_rfl) rfl #[.slice aC ai.length aA, .slice aI af.length au] rfl (by (try simp only [List.map_toArray, List.map_cons, List.map_nil]); first | done | rfl | (simp only [List.length_drop, List.length_take]; rfl)) ?_; (with_reducible refine (search_solve.calls _ _ ai _ _ af t135 t136 _ ?side1 ?side2 ?side3 ?side4 A4.out).mono ?_); (case side1 => repeat (first | exact (Kd.C_below bz.out HB.out) | (with_reducible refine Kd.C_alloc ?_ _) | (with_reducible refine Kd.C_drewN ?_ _) | (with_reducible refine Kd.C_drew ?_))); (case side2 => exact bG.out); (case side3 => repeat (first | exact (Kd.C_below br.out HB.out) | (with_reducible refine Kd.C_alloc ?_ _) | (with_reducible refine Kd.C_drewN ?_ _) | (with_reducible refine Kd.C_drew ?_))); (case side4 => exact bF.out); rintro e w9 ⟨v137, rfl, ho0, hb⟩; refine ⟨_, rfl, ?_⟩; have n0_ := Aside0.mk (Kd.R_lower ho0 (ah (by repeat (first | (with_reducible first | exact HB.out | apply a6 | apply a4 | apply a5 | refine aa ?_ GE133.out) | exact HB.out)))); have n1_ := Aside0.mk (ae (g := eW) (o := .cells #[.slice aC ai.length aA, .slice aI af.length au] 25 (0, 0)) (by (with_reducible repeat (first | refine ab ?_ _ | refine ac ?_ | refine a9 ?_ _)); exact cR.out) hb); have n2_ := Aside0.mk (aj (by repeat (first | (with_reducible first | exact HB.out | apply a6 | apply a4 | apply a5 | refine aa ?_ GE133.out) | exact HB.out)) hb); clear cR; clear HB; have HO138 := n0_; have cR := n1_; have HB := n2_; clear n0_ n1_ n2_; (try clear hb); (try clear hb2); (try clear hk); (try clear hi); (try clear ho0)))
  go_ret3
  exact ⟨_, by first | rfl | (simp [al, ak] <;> rfl) | (simp [*, al, ak] <;> rfl), by (with_reducible repeat (first | apply Kd.R_alloc | apply Kd.R_drewN | apply Kd.R_drew)); exact HO138.out, by repeat (first | (with_reducible first | exact HB.out | apply a6 | apply a4 | apply a5 | refine aa ?_ GE133.out) | exact HB.out)⟩
 ·rw [if_neg c3] at H
  have c3b0 : (t134 == 0) = false := beq_eq_false_iff_ne.mpr c3
  have c3b1 : (t134 != 0) = true := bne_iff_ne.mpr c3
  simp only [Option.some.injEq, Prod.mk.injEq] at H
  obtain ⟨rfl, rfl, rfl⟩ := H
  go_enter Try.func15, Try.ntmps15
  go_wp2_with (first | ((with_reducible refine aK (N := 1) rfl ?_); refine av ?hg (N := 1) ?hd (cs := #[.slice aC ai.length aA, .slice aI af.length au]) (t := 25) ?hr ?_; (case hd => rfl); (case hg => rfl); (case hr => first | (go_simp; done) | (go_simp; rfl)); intro eW hg w10 hbox hb; have n0_ := Aside0.mk (aj (by repeat (first | (with_reducible first | exact HB.out | apply a6 | apply a4 | apply a5) | exact HB.out)) hb); have n1_ := Aside0.mk (hbox); have n2_ := Aside0.mk ((by rw [hg]; exact (ah (by repeat (first | (with_reducible first | exact HB.out | apply a6 | apply a4 | apply a5) | exact HB.out))) : w.heap.size ≤ eW)); have n3_ := Aside0.mk ((by rw [hg]; exact (ah (by repeat (first | (with_reducible first | exact HB.out | apply a6 | apply a4 | apply a5) | exact HB.out))) : w.heap.size ≤ eW)); clear HB; have HB := n0_; have cR := n1_; have GW133 := n2_; have GE133 := n3_; clear n0_ n1_ n2_ n3_; clear hb hbox hg; have bS : w10.cell? ⟨eW, 0, none⟩ = some (.slice aC ai.length aA) := (a7 cR.out 0).trans rfl; have bT : w10.cell? ⟨eW, 1, none⟩ = some (.slice aI af.length au) := (a7 cR.out 1).trans rfl; have bU := a8 cR.out 0; have bV := a8 cR.out 1) | ((with_reducible refine aE (f := 17) rfl ?_); refine bw (some 6) rfl rfl Try.func17 (by kernel_rfl) rfl #[.agg #[.slice aC ai.length aA, .slice aI af.length au]] rfl (by (try simp only [List.map_toArray, List.map_cons, List.map_nil]); first | done | rfl | (simp only [List.length_drop, List.length_take]; rfl)) ?_; (with_reducible refine (search_Check.calls k _ _ ai _ _ af t134 _ ?side1 ?side2 ?side3 ?side4 A2.out).mono ?_); (case side1 => repeat (first | exact (Kd.C_below bz.out HB.out) | (with_reducible refine Kd.C_alloc ?_ _) | (with_reducible refine Kd.C_drewN ?_ _) | (with_reducible refine Kd.C_drew ?_))); (case side2 => exact bG.out); (case side3 => repeat (first | exact (Kd.C_below br.out HB.out) | (with_reducible refine Kd.C_alloc ?_ _) | (with_reducible refine Kd.C_drewN ?_ _) | (with_reducible refine Kd.C_drew ?_))); (case side4 => exact bF.out); rintro e w12 ⟨rfl, hb⟩; refine ⟨_, rfl, ?_⟩; have n0_ := Aside0.mk (ae (g := eW) (o := .cells #[.slice aC ai.length aA, .slice aI af.length au] 25 (0, 0)) (by (with_reducible repeat (first | refine ab ?_ _ | refine ac ?_ | refine a9 ?_ _)); exact cR.out) hb); have n1_ := Aside0.mk (aj (by repeat (first | (with_reducible first | exact HB.out | apply a6 | apply a4 | apply a5 | refine aa ?_ GE133.out) | exact HB.out)) hb); clear cR; clear HB; have cR := n0_; have HB := n1_; clear n0_ n1_; (try clear hb); (try clear hb2); (try clear hk); (try clear hi)))
  go_ret3
  exact ⟨_, by first | rfl | (simp [al, ak] <;> rfl) | (simp [*, al, ak] <;> rfl), by first | exact Kd.R_nil _ _ _ _ _ | exact Kd.N_nil _ _ _ _ _ | exact Kd.V_nil _ _ _ _ _ | exact Kd.Q_nil _ _ _ _ _ | exact Kd.S_nil _ _ _ _ _, by repeat (first | (with_reducible first | exact HB.out | apply a6 | apply a4 | apply a5 | refine aa ?_ GE133.out) | exact HB.out)⟩
def fastiref15_SameInts.l0 : Nat → List Int → List Int → Int → Option (Bool)
 | 0, _, _, _ => none
 | k + 1, x0, x1, x5 => if x5 < (x0.length : Int) then (if 0 ≤ x5 then (if x5 < (x1.length : Int) then (if (rd x0 x5) = (rd x1 x5) then (fastiref15_SameInts.l0 k x0 x1 (wrap64 (x5 + 1))) else (some false)) else (none)) else (none)) else (some true)
def fastiref15_SameInts.f (k : Nat) (l0 : List Int) (l1 : List Int) : Option (Bool) := if (l0.length : Int) = (l1.length : Int) then (fastiref15_SameInts.l0 k l0 l1 0) else (some false)
set_option maxHeartbeats 8000000 in
set_option maxRecDepth 100000 in
theorem fastiref15_SameInts.calls (k : Nat) (A0 : Option Addr) (c0 : Nat) (l0 : List Int) (A1 : Option Addr) (c1 : Nat) (l1 : List Int) (r : Bool) (w : World) (hr0 : Kd.C (Kd.int .i64) w A0 l0.length l0) (hc0 : l0.length ≤ c0) (hr1 : Kd.C (Kd.int .i64) w A1 l1.length l1) (hc1 : l1.length ≤ c1) (h : fastiref15_SameInts.f k l0 l1 = some r) :
  Calls Try.prog 19 #[.slice A0 l0.length c0, .slice A1 l1.length c1] w fun e w' => e = .returned (.bool r) ∧ Drawn0 w w' := by
 have HR0 := Aside0.mk hr0
 have HC0 := Aside0.mk hc0
 clear hr0 hc0
 have HR1 := Aside0.mk hr1
 have HC1 := Aside0.mk hc1
 clear hr1 hc1
 have H : (if (l0.length : Int) = (l1.length : Int) then (fastiref15_SameInts.l0 k l0 l1 0) else (some false)) = some r := h
 clear h
 by_cases c3 : (l0.length : Int) = (l1.length : Int)
 ·rw [if_pos c3] at H
  have c3b0 : ((l0.length : Int) == (l1.length : Int)) = true := beq_iff_eq.mpr c3
  have c3b1 : ((l0.length : Int) != (l1.length : Int)) = false := bne_eq_false_iff_eq.mpr c3
  have c3b2 : (l0.length == l1.length) = true := by first | simpa using c3 | (simp at c3 ⊢; omega)
  clear c3
  have H' := Aside0.mk H
  clear H
  go_enter Try.func19, Try.ntmps19
  go_wp2
  repeat (go_quiet (fail); try go_wp2)
  go_loopg [5] k (fun kq v5 w' => ∃ (x5_1 : Int), v5 = .int .i64 x5_1 ∧ Aside0 (fastiref15_SameInts.l0 kq l0 l1 x5_1 = some r) ∧ Aside0 (kq ≤ k) ∧ Drawn0 w w')
  case atStart => exact ⟨(0), (by first | rfl | (simp; done) | (simp [*]; done)), H', ⟨Nat.le_refl _⟩, by repeat (first | exact Drawn0.refl _ | apply Drawn0.step)⟩
  case round =>
   clear H'
   try clear c1; try clear p2; try clear c3; try clear c3b0; try clear c3b1; try clear c3b2
   obtain ⟨x5_1, rfl, HA, HK1, ⟨m1, rfl⟩⟩ := hrel
   cases gk with
   | zero => exact absurd HA.out (by simp [fastiref15_SameInts.l0])
   | succ k1 =>
    have H := HA.out
    clear HA
    simp only [fastiref15_SameInts.l0] at H
    by_cases c4 : x5_1 < (l0.length : Int)
    ·rw [if_pos c4] at H
     have eb : decide (x5_1 < (l0.length : Int)) = true := decide_eq_true c4
     clear c4
     by_cases c5 : 0 ≤ x5_1
     ·rw [if_pos c5] at H
      have c5b0 : decide (0 ≤ x5_1) = true := decide_eq_true c5
      clear c5
      by_cases c6 : x5_1 < (l1.length : Int)
      ·rw [if_pos c6] at H
       have c6b0 : decide (x5_1 < (l1.length : Int)) = true := decide_eq_true c6
       clear c6
       by_cases c7 : (rd l0 x5_1) = (rd l1 x5_1)
       ·rw [if_pos c7] at H
        have c7b0 : ((rd l0 x5_1) == (rd l1 x5_1)) = true := beq_iff_eq.mpr c7
        have c7b1 : ((rd l0 x5_1) != (rd l1 x5_1)) = false := bne_eq_false_iff_eq.mpr c7
        clear c7
        have H' := Aside0.mk H
        clear H
        have p139 : 0 ≤ (x5_1 : Int) := of_decide_eq_true (by first | (with_reducible assumption) | assumption)
        have q139 : x5_1 < (l0.length : Int) := of_decide_eq_true (by first | (with_reducible assumption) | assumption)
        obtain ⟨ad139, e139, hx139_0⟩ := Kd.at_int HR0.out x5_1 p139 q139
        cases e139
        replace p139 := eq_true p139
        replace q139 := eq_true q139
        have p140 : 0 ≤ (x5_1 : Int) := of_decide_eq_true (by first | (with_reducible assumption) | assumption)
        have q140 : x5_1 < (l1.length : Int) := of_decide_eq_true (by first | (with_reducible assumption) | assumption)
        obtain ⟨ad140, e140, hx140_0⟩ := Kd.at_int HR1.out x5_1 p140 q140
        cases e140
        replace p140 := eq_true p140
        replace q140 := eq_true q140
        go_wp2
        repeat (go_quiet (fail); try go_wp2)
        go_roundg k1
        case measure => have := HK1.out; omega
        case rel => exact ⟨(wrap64 (x5_1 + 1)), (by first | rfl | (simp; done) | (simp [*]; done)), H', ⟨by have := HK1.out; omega⟩, by repeat (first | exact Drawn0.refl _ | apply Drawn0.step)⟩
       ·rw [if_neg c7] at H
        have c7b0 : ((rd l0 x5_1) == (rd l1 x5_1)) = false := beq_eq_false_iff_ne.mpr c7
        have c7b1 : ((rd l0 x5_1) != (rd l1 x5_1)) = true := bne_iff_ne.mpr c7
        obtain rfl := Option.some.inj H
        have p139 : 0 ≤ (x5_1 : Int) := of_decide_eq_true (by first | (with_reducible assumption) | assumption)
        have q139 : x5_1 < (l0.length : Int) := of_decide_eq_true (by first | (with_reducible assumption) | assumption)
        obtain ⟨ad139, e139, hx139_0⟩ := Kd.at_int HR0.out x5_1 p139 q139
        cases e139
        replace p139 := eq_true p139
        replace q139 := eq_true q139
        have p140 : 0 ≤ (x5_1 : Int) := of_decide_eq_true (by first | (with_reducible assumption) | assumption)
        have q140 : x5_1 < (l1.length : Int) := of_decide_eq_true (by first | (with_reducible assumption) | assumption)
        obtain ⟨ad140, e140, hx140_0⟩ := Kd.at_int HR1.out x5_1 p140 q140
        cases e140
        replace p140 := eq_true p140
        replace q140 := eq_true q140
        go_wp2
        repeat (go_quiet (fail); try go_wp2)
        go_ret
        exact ⟨by first | rfl | (simp; done) | (simp [*]; done), by repeat (first | exact Drawn0.refl _ | apply Drawn0.step)⟩
      ·rw [if_neg c6] at H
       exact absurd H (by simp)
     ·rw [if_neg c5] at H
      exact absurd H (by simp)
    ·rw [if_neg c4] at H
     have eb : decide (x5_1 < (l0.length : Int)) = false := decide_eq_false c4
     clear c4
     obtain rfl := Option.some.inj H
     go_wp2
     repeat (go_quiet (fail); try go_wp2)
     go_ret
     exact ⟨by first | rfl | (simp; done) | (simp [*]; done), by repeat (first | exact Drawn0.refl _ | apply Drawn0.step)⟩
 ·rw [if_neg c3] at H
  have c3b0 : ((l0.length : Int) == (l1.length : Int)) = false := beq_eq_false_iff_ne.mpr c3
  have c3b1 : ((l0.length : Int) != (l1.length : Int)) = true := bne_iff_ne.mpr c3
  have c3b2 : (l0.length == l1.length) = false := by first | simpa using c3 | (simp at c3 ⊢; omega)
  obtain rfl := Option.some.inj H
  go_enter Try.func19, Try.ntmps19
  go_wp2
  repeat (go_quiet (fail); try go_wp2)
  go_ret
  exact ⟨by first | rfl | (simp; done) | (simp [*]; done), by repeat (first | exact Drawn0.refl _ | apply Drawn0.step)⟩
end Go.Proofs.Ytcbpkdemcdikaaa.X
namespace Go.Proofs.Ytcbpkdemcdikaaa.X
open Go.RowKit Go.Proofs.YtcbpkdemcdikaaaW.PrintWords Go.Proofs.YtcbpkdemcdikaaaW.PrintLast Go.Proofs.YtcbpkdemcdikaaaW.PrintMore
attribute [local go_sem] ay az aN aM ao ap aw ax
set_option linter.unusedVariables false
set_option linter.unusedSimpArgs false
namespace DF
open SF
set_option maxHeartbeats 8000000
def firI (rs : List S49) (x : List Int) : Int := bQ (fun r => brokenB r x) rs 0
def proveT (rs : List S49) : List (List Int) → List Int → S39
  | [], x => ⟨firI rs x, []⟩
  | d :: ds, x => if firI rs x ≥ 0 then ⟨firI rs x, []⟩ else ⟨-1, d.map fun v => proveT rs ds (x ++ [v])⟩
theorem fC (rs : List S49) (x : List Int) : decide (firI rs x ≥ 0) = badB rs x := dP _ rs 0
theorem proveT_bad (rs : List S49) (ds : List (List Int)) (x : List Int) (h : badB rs x = true) : proveT rs ds x = ⟨firI rs x, []⟩ := by
  cases ds with
  | nil => rfl
  | cons d ds =>
    have h1 : firI rs x ≥ 0 := of_decide_eq_true ((fC rs x).trans h)
    unfold proveT
    rw [if_pos h1]
theorem proveT_no (rs : List S49) (d : List Int) (ds : List (List Int)) (x : List Int) (h : badB rs x = false) : proveT rs (d :: ds) x = ⟨-1, d.map fun v => proveT rs ds (x ++ [v])⟩ := by
  have h1 : ¬ firI rs x ≥ 0 := of_decide_eq_false ((fC rs x).trans h)
  show (if firI rs x ≥ 0 then _ else _) = _
  rw [if_neg h1]
theorem sol_kid (rs : List S49) (d : List Int) (ds : List (List Int)) (x : List Int) (h : sol (badB rs) (d :: ds) x = none) (v : Int) (hv : v ∈ d) : badB rs (x ++ [v]) = true ∨ sol (badB rs) ds (x ++ [v]) = none := by
  have h1 := List.findSome?_eq_none_iff.mp h v hv
  split at h1
  · rename_i hb; exact .inl hb
  · exact .inr h1
theorem dD {P : Program} {ops : Array Oper} {o : Oper} {a : Act} {Q : Exit → Act → World → Prop} {K : Act → World → Prop} {W w1 : World} {v1 : Value} (hw : Region.wanted o (yielded ops a.tmps) = true) (s x : Operand) (t : TypeId)
    (ho : o.op = .call { callee := .builtin .append, args := #[s, x], argTypes := #[t, t] }) (vs vx : Value) (hs : a.eval s = vs) (hx : a.eval x = vx) (hr : (Builtin.append_ #[t, t] o.type #[vs, vx]).run P W = .ok v1 w1) (h : K (a.put o.dst v1) w1) :
    if Region.wanted o (yielded ops a.tmps) = true then Oper.wp P o a W K Q else K (a.put o.dst undef) W := by
  rw [if_pos hw]
  unfold Oper.wp execOp
  simp only [ho, resolve, invoke, builtin, Sem.run_bind, Sem.run_pure, Result.andThen_ok, List.map_toArray, List.map_cons, List.map_nil, hs, hx, hr]
  exact h
theorem fH (A : Option Addr) (x : List Int) (v : Int) (W : World) (hr : ReadsInt W .i64 A x.length x) (hA : A = none → x = []) (hl : x.length ≤ 100000) :
    ∃ v1 w1, (Builtin.append_ #[26, 26] 26 #[.slice A x.length x.length, .slice (some ⟨W.heap.size, 0, none⟩) 1 1]).run Try.prog (W.alloc (.cells #[.int .i64 v] 3)) = .ok v1 w1 ∧ w1.ownsRow W.heap.size 3 1 v1 (x.length + 1) (bM .i64 (x ++ [v])) ∧ Below W.heap.size W w1 := by
  obtain ⟨i3, hi3, hii3⟩ := Option.map_eq_some_iff.1 dV
  simp only [Prod.mk.injEq] at hii3
  obtain ⟨hz3, hs3, hb3⟩ := hii3
  have hnews := World.news_of_block (w := W.alloc (.cells #[.int .i64 v] 3)) (cs := #[.int .i64 v]) (t := 3) (fr := (0, 0)) (heap_alloc_new W _)
  have hBa : Below W.heap.size W (W.alloc (.cells #[.int .i64 v] 3)) := a6 (Below.refl _ _) _
  cases A with
  | none =>
    rw [hA rfl]
    obtain ⟨v1, w1, h1, h2, h3, _⟩ := run_append_own (P := Try.prog) (W.alloc (.cells #[.int .i64 v] 3)) W.heap.size 26 26 3 i3 (.int .i64 0) 1 8 Try.underlying26 hi3 hz3 hs3 hb3 rfl (by omega) (.slice none 0 0) 0 [] (World.ownsRow_nil _ _ _ _) ⟨W.heap.size, 0, none⟩ 1 1 [.int .i64 v] rfl hnews (by simp [Value.oneCell']) (by simp [maxLen]) (by omega) (by simp)
    exact ⟨v1, w1, h1, h2, hBa.grown h3 (by simp) (fun k e => by cases e)⟩
  | some ad =>
    have hrd : ReadsInt (W.alloc (.cells #[.int .i64 v] 3)) .i64 (some ad) x.length x := hr.below hBa
    obtain ⟨v1, w1, h1, h2, h3⟩ := run_append_arg_grows (P := Try.prog) (W.alloc (.cells #[.int .i64 v] 3)) 26 26 3 i3 (.int .i64 0) 1 8 Try.underlying26 hi3 hz3 hs3 hb3 rfl (by omega) ad x.length x.length (bM .i64 x) (by simp [bM]) (fun j u hj => by
      have hjl : j < x.length := by have := (List.getElem?_eq_some_iff.1 hj).1; simpa [bM] using this
      obtain ⟨ad', e, hc⟩ := hrd.2.2 (by omega)
      cases e
      have h := hc j hjl
      rw [h]
      rw [← hj]
      simp [bM, List.getD, List.getElem?_eq_getElem hjl]) ⟨W.heap.size, 0, none⟩ 1 1 [.int .i64 v] rfl hnews (by omega) (by simp only [maxLen]; omega) (by omega)
    refine ⟨v1, w1, h1, ?_, hBa.grown h3 (by simp) (fun k e => by cases e)⟩
    have h4 : w1.ownsRow W.heap.size 3 1 v1 (x.length + 1) (bM .i64 x ++ [.int .i64 v]) := dN h2 (by simp)
    rw [g9]
    exact h4
noncomputable def T8 : Bool × List (List Nat × List Nat) := dd .any (dG Try.f41 8)
theorem tab8 : dd .any (dG Try.f41 8) = T8 := rfl
theorem prove_bad (rem : List (List Int)) (A0 : Option Addr) (c0 : Nat) (ds : List (List Int)) (A1 : Option Addr) (c1 : Nat) (rs : List S49) (Ax : Option Addr) (cx : Nat) (x : List Int) (w : World) (hb : badB rs x = true)
    (hr1 : Kd.C k49 w A1 rs.length rs) (hrx : Kd.C (Kd.int .i64) w Ax x.length x) (hcx : x.length ≤ cx) (hok : ∀ r ∈ rs, okR r) :
    Calls Try.prog 41 #[.agg #[.slice A0 ds.length c0, .slice A1 rs.length c1], .slice Ax x.length cx] w fun e w' => ∃ v, e = .returned (.agg #[.int .i64 (proveT rs rem x).f0, v]) ∧ Kd.R k39 39 w' w.heap.size (fun k => w.heap.size ≤ k) v (proveT rs rem x).f1 ∧ Below w.heap.size w w' := by
  rw [proveT_bad rs rem x hb]
  have hf1 : decide (firI rs x ≥ 0) = true := (fC rs x).trans hb
  have hf2 : decide (0 ≤ firI rs x) = true := hf1
  have HF := Aside0.mk (fun (W : World) (hbw : Below w.heap.size w W) => first_ok A1 c1 rs Ax cx x W (Kd.C_below hr1 hbw) (Kd.C_below hrx hbw) hcx hok)
  clear hr1 hrx hcx hok hb
  obtain ⟨fi, hfi⟩ : ∃ fi, firI rs x = fi := ⟨_, rfl⟩
  have HF2 := Aside0.mk (show bQ (fun r => brokenB r x) rs 0 = fi from hfi)
  rw [HF2.out] at HF
  rw [hfi] at hf1 hf2 ⊢
  clear hfi HF2
  have HB0 := Aside0.mk (a6 (a6 (Below.refl w.heap.size w) (.cells #[.slice A0 ds.length c0, .slice A1 rs.length c1] 25)) (.cells #[.int .i64 0, .slice none 0 0] 39))
  go_enter Try.func41, Try.ntmps41
  go_wp2_with (go_at_call 60; refine (HF.out _ HB0.out).mono ?_; rintro e w5 ⟨rfl, hb5⟩; have hk4 := ae (aV (w.alloc (.cells #[.slice A0 ds.length c0, .slice A1 rs.length c1] 25)) (.cells #[.int .i64 0, .slice none 0 0] 39)) hb5; rw [World.size_alloc] at hk4; have HK4 := Aside0.mk hk4; have HB5 := Aside0.mk (HB0.out.trans (hb5.mono HB0.out.size)); have f0 := a8 hk4 0; have f1 := a8 hk4 1; have z0 := a7 hk4 0; have z1 := a7 hk4 1; simp only [List.getElem?_toArray, List.getElem?_cons_zero, List.getElem?_cons_succ] at z0 z1; clear hb5 hk4)
  have h1 := cn HK4.out 0 (.int .i64 fi)
  have h2 := cn h1 1 (.slice none 0 0)
  simp only [List.setIfInBounds_toArray, List.set_cons_zero, List.set_cons_succ] at h2
  obtain ⟨We, hWe⟩ : ∃ We, (w5.setCell ⟨w.heap.size + 1, 0, none⟩ (.int .i64 fi)).setCell ⟨w.heap.size + 1, 1, none⟩ (.slice none 0 0) = We := ⟨_, rfl⟩
  have hBe : Below w.heap.size w We := by
    rw [← hWe]
    exact (HB5.out.setCell (p := ⟨w.heap.size + 1, 0, none⟩) (by simp) _).setCell (p := ⟨w.heap.size + 1, 1, none⟩) (by simp) _
  rw [hWe] at h2 ⊢
  have y0 := a7 h2 0
  have y1 := a7 h2 1
  simp only [List.getElem?_toArray, List.getElem?_cons_zero, List.getElem?_cons_succ] at y0 y1
  refine bodyPost_ret (v := .agg #[.int .i64 fi, .slice none 0 0]) (by simp [results, Try.results41, go_sem, y0, y1]) rfl ?_
  exact ⟨_, rfl, Kd.R_nil _ _ _ _ _, hBe⟩
theorem prove_ok : ∀ (rem : List (List Int)) (A0 : Option Addr) (c0 : Nat) (ds : List (List Int)) (A1 : Option Addr) (c1 : Nat) (rs : List S49) (Ax : Option Addr) (cx : Nat) (x : List Int) (w : World), ds.drop x.length = rem → x.length ≤ ds.length → (badB rs x = true ∨ sol (badB rs) rem x = none) →
    Kd.C (Kd.slice 3 (Kd.int .i64)) w A0 ds.length ds → Kd.C k49 w A1 rs.length rs → Kd.C (Kd.int .i64) w Ax x.length x → x.length ≤ cx → (Ax = none → x = []) → (∀ r ∈ rs, okR r) → ds.length ≤ 1000 → (∀ d ∈ ds, d.length ≤ 1000000) →
    Calls Try.prog 41 #[.agg #[.slice A0 ds.length c0, .slice A1 rs.length c1], .slice Ax x.length cx] w fun e w' => ∃ v, e = .returned (.agg #[.int .i64 (proveT rs rem x).f0, v]) ∧ Kd.R k39 39 w' w.heap.size (fun k => w.heap.size ≤ k) v (proveT rs rem x).f1 ∧ Below w.heap.size w w' := by
  intro rem
  induction rem with
  | nil =>
    intro A0 c0 ds A1 c1 rs Ax cx x w hrem hxl hinv hr0 hr1 hrx hcx hAx hok hdl hdd
    refine prove_bad [] A0 c0 ds A1 c1 rs Ax cx x w ?_ hr1 hrx hcx hok
    rcases hinv with h | h
    · exact h
    · cases h
  | cons d rem ih =>
    intro A0 c0 ds A1 c1 rs Ax cx x w hrem hxl hinv hr0 hr1 hrx hcx hAx hok hdl hdd
    cases hb : badB rs x with
    | true => exact prove_bad _ A0 c0 ds A1 c1 rs Ax cx x w hb hr1 hrx hcx hok
    | false =>
    have hsol : sol (badB rs) (d :: rem) x = none := by
      rcases hinv with h | h
      · rw [hb] at h; cases h
      · exact h
    have hxl2 : x.length < ds.length := by
      have h := congrArg List.length hrem
      simp at h
      omega
    have hrem2 : ds.drop (x.length + 1) = rem := by
      have h := congrArg List.tail hrem
      rwa [List.tail_drop] at h
    have hd : ds[x.length] = d := by
      have h := congrArg List.head? hrem
      rw [List.head?_drop, List.getElem?_eq_getElem hxl2] at h
      exact Option.some.inj h
    have hdl2 : d.length ≤ 1000000 := hdd d (by rw [← hd]; exact List.getElem_mem _)
    have hrow : aJ ds (x.length : Int) = d := by simp [aJ, List.getD, List.getElem?_eq_getElem hxl2, hd]
    rw [proveT_no rs d rem x hb]
    have hf1 : decide (firI rs x ≥ 0) = false := (fC rs x).trans hb
    have hf2 : decide (0 ≤ firI rs x) = false := hf1
    have HF := Aside0.mk (fun (W : World) (hbw : Below w.heap.size w W) => first_ok A1 c1 rs Ax cx x W (Kd.C_below hr1 hbw) (Kd.C_below hrx hbw) hcx hok)
    obtain ⟨fi, hfi⟩ : ∃ fi, firI rs x = fi := ⟨_, rfl⟩
    have HF2 := Aside0.mk (show bQ (fun r => brokenB r x) rs 0 = fi from hfi)
    rw [HF2.out] at HF
    rw [hfi] at hf1 hf2
    have HR0 := Aside0.mk hr0; have HR1 := Aside0.mk hr1; have HRX := Aside0.mk hrx; have HCX := Aside0.mk hcx; have HAX := Aside0.mk hAx; have HOK := Aside0.mk hok; have HDL := Aside0.mk hdl; have HDD := Aside0.mk hdd
    have HXL := Aside0.mk hxl2; have HREM := Aside0.mk hrem2; have HROW := Aside0.mk hrow; have HDL2 := Aside0.mk hdl2
    have HKID := Aside0.mk (sol_kid rs d rem x hsol)
    have IH := Aside0.mk ih
    have p0 : 0 ≤ (x.length : Int) := by omega
    have q0 : (x.length : Int) < (ds.length : Int) := by omega
    obtain ⟨ad0, B0, cc0, e0, hx0W, hl0, hc0⟩ := f5 hr0 x.length p0 q0
    subst e0
    rw [Int.toNat_natCast] at hx0W
    rw [hrow] at hx0W hl0 hc0
    have hlt0 := World.block_lt_of_cell? w _ hx0W
    have HX0 := Aside0.mk (And.intro hlt0 hx0W)
    have HC0 := Aside0.mk hc0
    have n0 : (x.length < ds.length) = True := eq_true hxl2
    replace p0 := eq_true p0
    replace q0 := eq_true q0
    clear hr0 hr1 hrx hcx hAx hok hdl hdd hxl2 hrem hrem2 hd hrow hdl2 hsol hinv hb ih hfi HF2 hx0W hl0 hc0 hlt0 hxl
    have HB0 := Aside0.mk (a6 (a6 (Below.refl w.heap.size w) (.cells #[.slice (some ad0) ds.length c0, .slice A1 rs.length c1] 25)) (.cells #[.int .i64 0, .slice none 0 0] 39))
    go_enter Try.func41, Try.ntmps41
    go_wp2_with (go_at_call 60; refine (HF.out _ HB0.out).mono ?_; rintro e w5 ⟨rfl, hb5⟩; have hk4 := ae (aV (w.alloc (.cells #[.slice (some ad0) ds.length c0, .slice A1 rs.length c1] 25)) (.cells #[.int .i64 0, .slice none 0 0] 39)) hb5; have hk2 := ae (a9 (aV w (.cells #[.slice (some ad0) ds.length c0, .slice A1 rs.length c1] 25)) (.cells #[.int .i64 0, .slice none 0 0] 39)) hb5; rw [World.size_alloc] at hk4; have HK4 := Aside0.mk hk4; have HK2 := Aside0.mk hk2; have HB5 := Aside0.mk (HB0.out.trans (hb5.mono HB0.out.size)); have z0 := a7 hk2 0; have z1 := a7 hk2 1; simp only [List.getElem?_toArray, List.getElem?_cons_zero, List.getElem?_cons_succ] at z0 z1; have hx0 := (HB5.out.cell HX0.out.1).trans HX0.out.2; have hne1 : (w.heap.size = w5.heap.size) = False := eq_false (by have := aZ hk2; omega); have hx6 := dC hx0 (.cells #[.int .i64 (-1), .slice none 0 0] 39); have z6 := dC z0 (.cells #[.int .i64 (-1), .slice none 0 0] 39); clear hb5 hk4 hk2)
    obtain ⟨W6, hW6⟩ : ∃ W6, w5.alloc (.cells #[.int .i64 (-1), .slice none 0 0] 39) = W6 := ⟨_, rfl⟩
    obtain ⟨b6, hb6⟩ : ∃ b6, w5.heap.size = b6 := ⟨_, rfl⟩
    have hBK6 : W6.heap[b6]? = some (.cells #[.int .i64 (-1), .slice none 0 0] 39 (0, 0)) := by rw [← hW6, ← hb6]; exact aV w5 _
    have hB6 : Below b6 w5 W6 := by rw [← hW6, ← hb6]; exact a6 (Below.refl _ _) _
    have hz6 : W6.heap.size = b6 + 1 := by rw [← hW6, ← hb6]; simp
    have hsb : w.heap.size + 1 < b6 := by rw [← hb6]; exact aZ HK4.out
    rw [hW6, hb6]
    have HBK6 := Aside0.mk hBK6; have HB6 := Aside0.mk hB6; have HZ6 := Aside0.mk hz6; have HSB := Aside0.mk hsb; have HSZ5 := Aside0.mk hb6
    clear hW6 hBK6 hB6 hz6 hsb hb6 hne1 hx6 z6 z0 z1 hx0 hf1 hf2 HF
    go_loopg [8, 25] d.length (fun gg _ v25 wr => ∃ (kk : Nat) (Av : Option Addr) (cv : Nat), v25 = .int .i64 kk ∧ Aside0 (kk ≤ d.length) ∧ Aside0 (d.length - kk ≤ gg) ∧
      Aside0 (wr.heap[b6]? = some (.cells #[.int .i64 (-1), .slice Av kk cv] 39 (0, 0))) ∧ Aside0 (Kd.R k39 39 wr (b6 + 1) (fun k => b6 + 1 ≤ k) (.slice Av kk cv) ((d.take kk).map fun v => proveT rs rem (x ++ [v]))) ∧ Aside0 (Below b6 w5 wr) ∧ Aside0 (b6 + 1 ≤ wr.heap.size))
    case atStart => exact ⟨0, none, 0, rfl, ⟨Nat.zero_le _⟩, ⟨by omega⟩, HBK6, ⟨Kd.R_nil _ _ _ _ _⟩, HB6, ⟨by have := HZ6.out; omega⟩⟩
    case round =>
      obtain ⟨kk, Av, cv, rfl, HK, HG, HBK, HR, HB, HSZ⟩ := hrel
      have HBw := Aside0.mk (show Below w.heap.size w wr from HB5.out.trans (HB.out.mono (by have := HSB.out; omega)))
      by_cases c4 : kk < d.length
      · have c4b : decide ((kk : Int) < (d.length : Int)) = true := decide_eq_true (by omega)
        have c4n : decide (kk < d.length) = true := decide_eq_true c4
        have p1 : 0 ≤ (kk : Int) := by omega
        have q1 : (kk : Int) < (d.length : Int) := by omega
        obtain ⟨adr, er, hxr⟩ := Kd.at_int (Kd.C_below HC0.out HBw.out) kk p1 q1
        subst er
        rw [Int.toNat_natCast] at hxr
        have n1 : (kk < d.length) = True := eq_true c4
        have m1 : (x.length ≤ cx) = True := eq_true HCX.out
        have m2 : ((x.length : Int) ≤ (cx : Int)) = True := eq_true (by have := HCX.out; omega)
        replace p1 := eq_true p1
        replace q1 := eq_true q1
        obtain ⟨v, hv⟩ : ∃ v, rd d (kk : Int) = v := ⟨_, rfl⟩
        rw [hv] at hxr
        have HV := Aside0.mk hv
        have HC := Aside0.mk c4
        clear c4 hv
        have HSF := Aside0.mk (fun (W' : World) (hb : Below b6 w5 W') (h6 : W'.heap[b6]? = some (.cells #[.int .i64 (-1), .slice Av kk cv] 39 (0, 0))) => (show W'.cell? ⟨b6, 1, none⟩ = some (.slice Av kk cv) ∧ W'.cell? ⟨w.heap.size, 0, none⟩ = some (.slice (some ad0) ds.length c0) ∧ W'.cell? ⟨w.heap.size, 1, none⟩ = some (.slice A1 rs.length c1) from by
          have hk2 : W'.heap[w.heap.size]? = some (.cells #[.slice (some ad0) ds.length c0, .slice A1 rs.length c1] 25 (0, 0)) := (hb.block w.heap.size (by have := HSB.out; omega)).trans HK2.out
          exact ⟨by simpa using a7 h6 1, by simpa using a7 hk2 0, by simpa using a7 hk2 1⟩))
        have HBd := Aside0.mk (show Below w.heap.size w wr.drew from a5 HBw.out)
        have HBb := Aside0.mk (show Below b6 w5 wr.drew from ⟨HB.out.os, HB.out.tape, HB.out.output, HB.out.size, HB.out.block⟩)
        obtain ⟨v1, w1, hrun, hown, hb1⟩ := fH Ax x v wr.drew (show ReadsInt wr.drew .i64 Ax x.length x from Kd.reads_of_C (d := 0) (Kd.C_below HRX.out HBd.out)) HAX.out (by have := HXL.out; have := HDL.out; omega)
        obtain ⟨A9, c9, hv9⟩ := d5 hown
        subst hv9
        obtain ⟨kid, hkid⟩ : ∃ kid, proveT rs rem (x ++ [v]) = kid := ⟨_, rfl⟩
        have hxl9 : (x ++ [v]).length = x.length + 1 := by simp
        have hsz : b6 + 1 ≤ wr.drew.heap.size := HSZ.out
        have hb51 : Below b6 w5 w1 := HBb.out.trans (hb1.mono (by omega))
        have hbk1 : w1.heap[b6]? = some (.cells #[.int .i64 (-1), .slice Av kk cv] 39 (0, 0)) := (hb1.block b6 (by omega)).trans HBK.out
        have hbw1 : Below w.heap.size w w1 := HB5.out.trans (hb51.mono (by have := HSB.out; omega))
        have hown2 : w1.ownsRow wr.drew.heap.size 3 1 (.slice A9 (x ++ [v]).length c9) (x ++ [v]).length (bM .i64 (x ++ [v])) := by rw [hxl9]; exact hown
        obtain ⟨A9', c9', e9, hle9, hrd9⟩ := bI (enc := fun x : Int => Value.int .i64 x) (d := 0) hown2
        injection e9 with e9a _ e9c
        subst e9a e9c
        have hvd : v ∈ d := by rw [← HV.out, show rd d (kk : Int) = d[kk]'HC.out by simp [rd, List.getD, List.getElem?_eq_getElem HC.out]]; exact List.getElem_mem _
        have hcall := IH.out (some ad0) c0 ds A1 c1 rs A9 c9 (x ++ [v]) w1 (by rw [hxl9]; exact HREM.out) (by rw [hxl9]; have := HXL.out; omega) (HKID.out v hvd) (Kd.C_below HR0.out hbw1) (Kd.C_below HR1.out hbw1) (Kd.C_of_reads hrd9) hle9 (fun e => by
          obtain ⟨_, e', _⟩ := hrd9.2.2 (by omega)
          rw [e] at e'; cases e') HOK.out HDL.out HDD.out
        rw [hkid, hxl9] at hcall
        have HRUN := Aside0.mk hrun
        have HCALL := Aside0.mk hcall
        have HB51 := Aside0.mk hb51; have HBK1 := Aside0.mk hbk1; have HSZ1 := Aside0.mk (show wr.heap.size ≤ w1.heap.size from hb1.size); have HB1 := Aside0.mk (show Below wr.heap.size wr w1 from ⟨hb1.os, hb1.tape, hb1.output, hb1.size, hb1.block⟩)
        have HKD := Aside0.mk hkid
        have hS0 := HSF.out wr.drew HBb.out HBK.out
        clear hrun hown hb1 hb51 hbk1 hbw1 hown2 hle9 hrd9 hvd hcall hkid hxl9 hsz
        go_wp2_with (fail)
        refine dT (n := 17) (S := fun w' => w'.cell? ⟨b6, 1, none⟩ = some (.slice Av kk cv) ∧ w'.cell? ⟨w.heap.size, 0, none⟩ = some (.slice (some ad0) ds.length c0) ∧ w'.cell? ⟨w.heap.size, 1, none⟩ = some (.slice A1 rs.length c1)) (ds := [16]) #[false, false, false, false, false, false, false, false, false, false, false, false, false, false, false, false, false] (by kernel_rfl) rfl rfl ⟨hS0.1, hS0.2.1, hS0.2.2⟩ (fun hHeld => ?_)
        refine cU tab8 (fun HT_ => ?_)
        refine bc (i := 0) (N := some 29) (v := ?_) (a' := ?_) #[true, false, false, false, false, false, false, false, false, false, false, false, false, false, false, false, false] rfl rfl (aH HT_.out (by kernel_rfl)) (fun _ _ _ h => h) (Or.inl ⟨by rfl, ?_⟩) ?_ ?_
        rotate_left
        · intro w'
          go_simp
          with_reducible rfl
        rotate_left
        · simp only [Act.put, List.setIfInBounds_toArray, List.set_cons_zero, List.set_cons_succ, aq, ar]
          rfl
        refine bc (i := 3) (N := some 32) (v := ?_) (a' := ?_) #[true, false, false, true, false, false, false, false, false, false, false, false, false, false, false, false, false] rfl rfl (aH HT_.out (by kernel_rfl)) (fun _ _ _ h => h) (Or.inl ⟨by rfl, ?_⟩) ?_ ?_
        rotate_left
        · intro w'
          go_simp
          with_reducible rfl
        rotate_left
        · simp only [Act.put, List.setIfInBounds_toArray, List.set_cons_zero, List.set_cons_succ, aq, ar]
          rfl
        refine bc (i := 4) (N := some 33) (v := ?_) (a' := ?_) #[true, false, false, true, true, false, false, false, false, false, false, false, false, false, false, false, false] rfl rfl (aH HT_.out (by kernel_rfl)) (fun _ _ _ h => h) (Or.inl ⟨by rfl, ?_⟩) ?_ ?_
        rotate_left
        · intro w'
          go_simp
          with_reducible rfl
        rotate_left
        · simp only [Act.put, List.setIfInBounds_toArray, List.set_cons_zero, List.set_cons_succ, aq, ar]
          rfl
        refine bc (i := 5) (N := some 34) (v := ?_) (a' := ?_) #[true, false, false, true, true, true, false, false, false, false, false, false, false, false, false, false, false] rfl rfl (aH HT_.out (by kernel_rfl)) (fun _ _ _ h => h) (Or.inl ⟨by rfl, ?_⟩) ?_ ?_
        rotate_left
        · intro w'
          go_simp
          with_reducible rfl
        rotate_left
        · simp only [Act.put, List.setIfInBounds_toArray, List.set_cons_zero, List.set_cons_succ, aq, ar]
          rfl
        refine bc (i := 6) (N := some 35) (v := ?_) (a' := ?_) #[true, false, false, true, true, true, true, false, false, false, false, false, false, false, false, false, false] rfl rfl (aH HT_.out (by kernel_rfl)) (fun _ _ _ h => h) (Or.inl ⟨by rfl, ?_⟩) ?_ ?_
        rotate_left
        · intro w'
          go_simp
          with_reducible rfl
        rotate_left
        · simp only [Act.put, List.setIfInBounds_toArray, List.set_cons_zero, List.set_cons_succ, aq, ar]
          rfl
        refine bc (i := 7) (N := some 36) (v := ?_) (a' := ?_) #[true, false, false, true, true, true, true, true, false, false, false, false, false, false, false, false, false] rfl rfl (aH HT_.out (by kernel_rfl)) (fun _ _ _ h => h) (Or.inl ⟨by rfl, ?_⟩) ?_ ?_
        rotate_left
        · intro w'
          go_simp
          with_reducible rfl
        rotate_left
        · simp only [Act.put, List.setIfInBounds_toArray, List.set_cons_zero, List.set_cons_succ, aq, ar]
          rfl
        refine bc (i := 8) (N := some 37) (v := ?_) (a' := ?_) #[true, false, false, true, true, true, true, true, true, false, false, false, false, false, false, false, false] rfl rfl (aH HT_.out (by kernel_rfl)) (fun _ _ _ h => h) (Or.inl ⟨by rfl, ?_⟩) ?_ ?_
        rotate_left
        · intro w'
          go_simp
          with_reducible rfl
        rotate_left
        · simp only [Act.put, List.setIfInBounds_toArray, List.set_cons_zero, List.set_cons_succ, aq, ar]
          rfl
        refine bc (i := 9) (N := some 38) (v := ?_) (a' := ?_) #[true, false, false, true, true, true, true, true, true, true, false, false, false, false, false, false, false] rfl rfl (aH HT_.out (by kernel_rfl)) (fun _ _ _ h => h) (Or.inl ⟨by rfl, ?_⟩) ?_ ?_
        rotate_left
        · intro w'
          go_simp
          with_reducible rfl
        rotate_left
        · simp only [Act.put, List.setIfInBounds_toArray, List.set_cons_zero, List.set_cons_succ, aq, ar]
          rfl
        refine take_ (i := 1) (N := some 30) (v := ?_) (a' := ?_) #[true, true, false, true, true, true, true, true, true, true, false, false, false, false, false, false, false] rfl rfl (bE HT_.out (by kernel_rfl)) (fun _ _ _ h => h) (Or.inl ⟨by rfl, ?_⟩) hHeld ?_ ?_
        rotate_left
        · rintro w' ⟨s0, s1, s2⟩
          go_simp
          with_reducible rfl
        rotate_left
        · simp only [Act.put, List.setIfInBounds_toArray, List.set_cons_zero, List.set_cons_succ, aq, ar]
          rfl
        refine take_ (i := 2) (N := some 31) (v := ?_) (a' := ?_) #[true, true, true, true, true, true, true, true, true, true, false, false, false, false, false, false, false] rfl rfl (bE HT_.out (by kernel_rfl)) (fun _ _ _ h => h) (Or.inl ⟨by rfl, ?_⟩) hHeld ?_ ?_
        rotate_left
        · rintro w' ⟨s0, s1, s2⟩
          go_simp
          with_reducible rfl
        rotate_left
        · simp only [Act.put, List.setIfInBounds_toArray, List.set_cons_zero, List.set_cons_succ, aq, ar]
          rfl
        refine fz (i := 10) (N := some 39) #[true, true, true, true, true, true, true, true, true, true, true, false, false, false, false, false, false] rfl rfl (bB HT_.out (by kernel_rfl)) (by decide) (fun K hK => ?_)
        refine cq (w1 := wr.drew.alloc (.cells #[.int .i64 v] 3)) (v := .slice (some ⟨wr.drew.heap.size, 0, none⟩) 1 1) rfl (by first | (go_simp; done) | (go_simp; rfl)) ?_
        refine hK.out _ _ (HSF.out _ (HBb.out.alloc (by have := HSZ.out; show b6 ≤ wr.heap.size; omega) _) (a9 (w := wr.drew) HBK.out _)) (fun hHeld => ?_)
        clear hK K
        refine co (a' := ?_) ?_ ?_
        rotate_left
        · show Act.put _ (some 39) _ = _
          simp only [Act.put, List.setIfInBounds_toArray, List.set_cons_zero, List.set_cons_succ, aq, ar]
          rfl
        refine fz (i := 11) (N := some 40) #[true, true, true, true, true, true, true, true, true, true, true, true, false, false, false, false, false] rfl rfl (bB HT_.out (by kernel_rfl)) (by decide) (fun K hK => ?_)
        refine dD rfl (.tmp 37) (.tmp 39) 26 rfl (.slice Ax x.length x.length) (.slice (some ⟨wr.drew.heap.size, 0, none⟩) 1 1) rfl rfl HRUN.out ?_
        refine hK.out _ _ (HSF.out _ HB51.out HBK1.out) (fun hHeld => ?_)
        clear hK K
        refine co (a' := ?_) ?_ ?_
        rotate_left
        · show Act.put _ (some 40) _ = _
          simp only [Act.put, List.setIfInBounds_toArray, List.set_cons_zero, List.set_cons_succ, aq, ar]
          rfl
        refine fz (i := 12) (N := some 41) #[true, true, true, true, true, true, true, true, true, true, true, true, true, false, false, false, false] rfl rfl (bB HT_.out (by kernel_rfl)) (by decide) (fun K hK => ?_)
        refine goes_ Try.func41 (by kernel_rfl) rfl #[.agg #[.slice (some ad0) ds.length c0, .slice A1 rs.length c1], .slice A9 (x.length + 1) c9] (by rfl) rfl rfl (by (try simp only [List.map_toArray, List.map_cons, List.map_nil]); first | done | rfl) ?_
        refine HCALL.out.mono ?_
        rintro e w2 ⟨v2, rfl, hr2, hb2⟩
        refine ⟨_, rfl, ?_⟩
        obtain ⟨A2v, c2v, hv2⟩ := Kd.R_slice hr2
        subst hv2
        have hb52 : Below b6 w5 w2 := HB51.out.trans (hb2.mono (by have h1 := HSZ.out; have h2 := HSZ1.out; omega))
        have hbk2 : w2.heap[b6]? = some (.cells #[.int .i64 (-1), .slice Av kk cv] 39 (0, 0)) := (hb2.block b6 (by have h1 := HSZ.out; have h2 := HSZ1.out; omega)).trans HBK1.out
        have hbr2 : Below wr.heap.size wr w2 := HB1.out.trans (hb2.mono HSZ1.out)
        have HR2 := Aside0.mk hr2; have HB52 := Aside0.mk hb52; have HBK2 := Aside0.mk hbk2; have HBR2 := Aside0.mk hbr2; have HSZ2 := Aside0.mk hb2.size
        clear hr2 hb2 hb52 hbk2 hbr2
        refine hK.out _ _ (HSF.out _ HB52.out HBK2.out) (fun hHeld => ?_)
        clear hK K
        refine co (a' := ?_) ?_ ?_
        rotate_left
        · show Act.put _ (some 41) _ = _
          simp only [Act.put, List.setIfInBounds_toArray, List.set_cons_zero, List.set_cons_succ, aq, ar]
          rfl
        refine fz (i := 13) (N := some 42) #[true, true, true, true, true, true, true, true, true, true, true, true, true, true, false, false, false] rfl rfl (bB HT_.out (by kernel_rfl)) (by decide) (fun K hK => ?_)
        refine cq (w1 := w2.alloc (.cells #[.int .i64 kid.f0, .slice A2v kid.f1.length c2v] 39)) (v := .slice (some ⟨w2.heap.size, 0, none⟩) 1 1) rfl (by first | (go_simp; done) | (go_simp; rfl)) ?_
        refine hK.out _ _ (HSF.out _ (HB52.out.alloc (by have h1 := HSZ.out; have h2 := HSZ1.out; have h3 := HSZ2.out; omega) _) (a9 HBK2.out _)) (fun hHeld => ?_)
        clear hK K
        refine co (a' := ?_) ?_ ?_
        rotate_left
        · show Act.put _ (some 42) _ = _
          simp only [Act.put, List.setIfInBounds_toArray, List.set_cons_zero, List.set_cons_succ, aq, ar]
          rfl
        refine fz (i := 14) (N := some 43) #[true, true, true, true, true, true, true, true, true, true, true, true, true, true, true, false, false] rfl rfl (bB HT_.out (by kernel_rfl)) (by decide) (fun K hK => ?_)
        obtain ⟨kids, hkids⟩ : ∃ kids, (d.take kk).map (fun v => proveT rs rem (x ++ [v])) = kids := ⟨_, rfl⟩
        have hkl : kids.length = kk := by rw [← hkids, List.length_map, List.length_take]; have := HC.out; omega
        have hrk := HR.out
        rw [hkids] at hrk
        refine Kd.R_append_step k39 (w0 := w2) (W := w2) (b6 + 1) rfl (.tmp 30) (.tmp 42) 37 39 (.agg #[.int .i64 0, .slice none 0 0]) 32 rfl Try.underlying37 info39 rfl (by decide) (by omega) (.slice Av kk cv) kids kid [.int .i64 kid.f0, .slice A2v kid.f1.length c2v] (fun k => b6 + 1 ≤ k) (fun k => w1.heap.size ≤ k) rfl rfl ?aP ?aQ ?aF ?aO (Below.refl _ _) ?aS ?aL ?_
        case aP => exact k39_mkM w2 (b6 + 1) _ kid (Kd.R_lower HR2.out (by have h1 := HSZ.out; have h2 := HSZ1.out; omega))
        case aQ =>
          intro k hk
          refine ⟨by have h1 := HSZ.out; have h2 := HSZ1.out; omega, fun e => ?_⟩
          have h3 := Kd.R_lt hrk k e.symm
          have h2 := HSZ1.out
          omega
        case aF =>
          intro k hk
          have h1 := HSZ.out; have h2 := HSZ1.out; have h3 := HSZ2.out
          omega
        case aO => exact Kd.R_below hrk HBR2.out
        case aS => have h1 := HSZ.out; have h2 := HSZ1.out; have h3 := HSZ2.out; omega
        case aL => rw [hkl]; have h1 := HC.out; have h2 := HDL2.out; omega
        intro v3 w3 hr3 hb3 hg3 hat3
        obtain ⟨A3v, c3v, hv3⟩ := Kd.R_slice hr3
        subst hv3
        have hl3 : (kids ++ [kid]).length = kk + 1 := by rw [List.length_append, hkl]; rfl
        rw [hl3] at hr3
        have hb53 : Below b6 w5 w3 := HB52.out.trans (hb3.mono (by omega))
        have hbk3 : w3.heap[b6]? = some (.cells #[.int .i64 (-1), .slice Av kk cv] 39 (0, 0)) := (hb3.block b6 (by omega)).trans HBK2.out
        have hkk : kids ++ [kid] = (d.take (kk + 1)).map (fun v => proveT rs rem (x ++ [v])) := by
          rw [eP d kk HC.out, List.map_append, hkids, HV.out, ← HKD.out]
          rfl
        rw [hkk] at hr3
        have HR3 := Aside0.mk hr3; have HB53 := Aside0.mk hb53; have HBK3 := Aside0.mk hbk3; have HSZ3 := Aside0.mk hb3.size
        rw [hl3]
        clear hr3 hb3 hg3 hat3 hb53 hbk3 hkk hl3 hkl hrk hkids
        refine hK.out _ _ (HSF.out _ HB53.out HBK3.out) (fun hHeld => ?_)
        clear hK K
        refine co (a' := ?_) ?_ ?_
        rotate_left
        · show Act.put _ (some 43) _ = _
          simp only [Act.put, List.setIfInBounds_toArray, List.set_cons_zero, List.set_cons_succ, aq, ar]
          rfl
        refine bc (i := 15) (N := some 44) (v := ?_) (a' := ?_) #[true, true, true, true, true, true, true, true, true, true, true, true, true, true, true, true, false] rfl rfl (aH HT_.out (by kernel_rfl)) (fun _ _ _ h => h) (Or.inl ⟨by rfl, ?_⟩) ?_ ?_
        rotate_left
        · intro w'
          go_simp
          with_reducible rfl
        rotate_left
        · simp only [Act.put, List.setIfInBounds_toArray, List.set_cons_zero, List.set_cons_succ, aq, ar]
          rfl
        refine last_ (i := 16) (N := none) #[true, true, true, true, true, true, true, true, true, true, true, true, true, true, true, true, true] rfl rfl (bB HT_.out (by kernel_rfl)) (by decide) (fun K hK => ?_)
        have hs9 : w3.cell? ⟨b6, 1, none⟩ = some (.slice Av kk cv) := by simpa using a7 HBK3.out 1
        have hf9 := a8 HBK3.out 1
        refine skip_ (w1 := w3.setCell ⟨b6, 1, none⟩ (.slice A3v (kk + 1) c3v)) (by rfl) rfl (by first | (go_simp; done) | (go_simp; rfl)) ?_
        refine hK.out _ _ ?_
        clear hK K
        refine fX (cK HT_.out (by kernel_rfl)) ?_
        clear hs9 hf9 hHeld HT_ hS0
        go_wp2_with (fail)
        go_roundg (d.length - (kk + 1))
        case measure => have := HG.out; have := HC.out; omega
        case rel =>
          have hbk4 := cn HBK3.out 1 (.slice A3v (kk + 1) c3v)
          exact ⟨kk + 1, A3v, c3v, by rw [wr64 _ (by omega) (by have := HDL2.out; have := HC.out; omega)]; rfl, ⟨HC.out⟩, ⟨by omega⟩, ⟨hbk4⟩, ⟨Kd.R_far (p := ⟨b6, 1, none⟩) HR3.out (fun k hk => by simp only []; omega) _⟩, ⟨HB53.out.setCell (p := ⟨b6, 1, none⟩) (Nat.le_refl _) _⟩, ⟨by have h1 := HSZ.out; have h2 := HSZ1.out; have h3 := HSZ2.out; have h4 := HSZ3.out; simp; omega⟩⟩
      · have c4b : decide ((kk : Int) < (d.length : Int)) = false := decide_eq_false (by omega)
        have c4n : decide (kk < d.length) = false := decide_eq_false c4
        have hkk : kk = d.length := by have := HK.out; omega
        subst hkk
        have hk4 : wr.heap[w.heap.size + 1]? = some (.cells #[.int .i64 0, .slice none 0 0] 39 (0, 0)) := (HB.out.block _ (by have := HSB.out; omega)).trans HK4.out
        have y0 := a7 HBK.out 0
        have y1 := a7 HBK.out 1
        have z0 := a7 hk4 0
        have z1 := a7 hk4 1
        have f0 := a8 hk4 0
        have f1 := a8 hk4 1
        simp only [List.getElem?_toArray, List.getElem?_cons_zero, List.getElem?_cons_succ] at y0 y1 z0 z1
        have HK5 := Aside0.mk hk4
        clear c4 hk4
        go_wp2_with (fail)
        have h1 := cn HK5.out 0 (.int .i64 (-1))
        have h2 := cn h1 1 (.slice Av d.length cv)
        simp only [List.setIfInBounds_toArray, List.set_cons_zero, List.set_cons_succ] at h2
        obtain ⟨We, hWe⟩ : ∃ We, (wr.setCell ⟨w.heap.size + 1, 0, none⟩ (.int .i64 (-1))).setCell ⟨w.heap.size + 1, 1, none⟩ (.slice Av d.length cv) = We := ⟨_, rfl⟩
        have hBe : Below w.heap.size w We := by
          rw [← hWe]
          exact (HBw.out.setCell (p := ⟨w.heap.size + 1, 0, none⟩) (by simp) _).setCell (p := ⟨w.heap.size + 1, 1, none⟩) (by simp) _
        have hRe : Kd.R k39 39 We (b6 + 1) (fun k => b6 + 1 ≤ k) (.slice Av d.length cv) (d.map fun v => proveT rs rem (x ++ [v])) := by
          have h := HR.out
          rw [List.take_length] at h
          rw [← hWe]
          exact Kd.R_far (p := ⟨w.heap.size + 1, 1, none⟩) (Kd.R_far (p := ⟨w.heap.size + 1, 0, none⟩) h (fun k hk => by have := HSB.out; simp only []; omega) _) (fun k hk => by have := HSB.out; simp only []; omega) _
        rw [hWe] at h2 ⊢
        have e0 := a7 h2 0
        have e1 := a7 h2 1
        simp only [List.getElem?_toArray, List.getElem?_cons_zero, List.getElem?_cons_succ] at e0 e1
        refine bodyPost_ret (v := .agg #[.int .i64 (-1), .slice Av d.length cv]) (by simp [results, Try.results41, go_sem, e0, e1]) rfl ?_
        exact ⟨_, rfl, Kd.R_mono (Kd.R_lower hRe (by have := HSB.out; omega)) (fun k hk => by have := HSB.out; omega), hBe⟩
end DF
end Go.Proofs.Ytcbpkdemcdikaaa.X
namespace Go.Proofs.Ytcbpkdemcdikaaa.X
open Go.RowKit Go.Proofs.YtcbpkdemcdikaaaW.PrintWords Go.Proofs.YtcbpkdemcdikaaaW.PrintLast Go.Proofs.YtcbpkdemcdikaaaW.PrintMore
attribute [local go_sem] ay az aN aM ao ap aw ax   
set_option linter.unusedVariables false
set_option linter.unusedSimpArgs false
def search_prove.f (ai : List (List Int)) (af : List (S49)) (l1 : List Int) : Option (Int × (List (S39))) :=
 if af.all SF.okB && decide (ai.length ≤ 1000) && ai.all (fun d => decide (d.length ≤ 1000000)) && decide (l1 = []) && (DF.badB af [] || (DF.sol (DF.badB af) ai []).isNone) then some ((DF.proveT af ai []).f0, (DF.proveT af ai []).f1) else none
theorem search_prove.calls (aC : Option Addr) (aA : Nat) (ai : List (List Int)) (aI : Option Addr) (au : Nat) (af : List (S49)) (A1 : Option Addr) (c1 : Nat) (l1 : List Int) (r1 : Int) (r2 : List (S39)) (w : World) (bA : Kd.C (Kd.slice 3 (Kd.int .i64)) w aC ai.length ai) (bJ : ai.length ≤ aA) (bx : Kd.C k49 w aI af.length af) (bC : af.length ≤ au) (hr1 : Kd.C (Kd.int .i64) w A1 l1.length l1) (hc1 : l1.length ≤ c1) (h : search_prove.f ai af l1 = some (r1, r2)) :
  Calls Try.prog 41 #[.agg #[.slice aC ai.length aA, .slice aI af.length au], .slice A1 l1.length c1] w fun e w' => ∃ v1_ : Value, e = .returned (.agg #[.int .i64 r1, v1_]) ∧ Kd.R k39 39 w' w.heap.size (fun _ => True) v1_ r2 ∧ Below w.heap.size w w' := by
 unfold search_prove.f at h
 split at h
 ·rename_i hk
  simp only [Bool.and_eq_true, decide_eq_true_eq, List.all_eq_true, Bool.or_eq_true, Option.isNone_iff_eq_none] at hk
  obtain ⟨⟨⟨⟨h1, h2⟩, h3⟩, h4⟩, h5⟩ := hk
  subst h4
  cases h
  refine (DF.prove_ok ai aC aA ai aI au af A1 c1 [] w rfl (Nat.zero_le _) h5 bA bx hr1 hc1 (fun _ => rfl) (fun r hr => SF.okB_R (h1 r hr)) h2 h3).mono ?_
  rintro e w' ⟨v, he, hr, hb⟩
  exact ⟨v, he, Kd.R_mono hr (fun _ _ => trivial), hb⟩
 ·cases h
def search_Refute.f (k : Nat) (ai : List (List Int)) (af : List (S49)) : Option (Int × (List (S39)) × Bool × Int) := (search_Solve.f k ai af).bind fun bt143 => (if bt143.2.2 = 0 then (if bt143.2.1 = true then (some (0, ([] : List (S39)), false, bt143.2.2)) else ((search_prove.f ai af ([] : List Int)).bind fun hL => (some (hL.1, hL.2, true, 0)))) else (some (0, ([] : List (S39)), false, bt143.2.2)))
set_option maxHeartbeats 8000000 in
set_option maxRecDepth 100000 in
theorem search_Refute.calls (k : Nat) (aC : Option Addr) (aA : Nat) (ai : List (List Int)) (aI : Option Addr) (au : Nat) (af : List (S49)) (r1 : Int) (r2 : List (S39)) (r3 : Bool) (r4 : Int) (w : World) (bA : Kd.C (Kd.slice 3 (Kd.int .i64)) w aC ai.length ai) (bJ : ai.length ≤ aA) (bx : Kd.C k49 w aI af.length af) (bC : af.length ≤ au) (h : search_Refute.f k ai af = some (r1, r2, r3, r4)) :
  Calls Try.prog 20 #[.agg #[.slice aC ai.length aA, .slice aI af.length au]] w fun e w' => ∃ v1_ : Value, e = .returned (.tuple #[.agg #[.int .i64 r1, v1_], .bool r3, .int .i64 r4]) ∧ Kd.R k39 39 w' w.heap.size (fun _ => True) v1_ r2 ∧ Below w.heap.size w w' := by
 have hu25 := Try.underlying25
 have hu39 := Try.underlying39
 have bz := Aside0.mk bA
 have bG := Aside0.mk bJ
 clear bA bJ
 have br := Aside0.mk bx
 have bF := Aside0.mk bC
 clear bx bC
 have HB := Aside0.mk (Below.refl w.heap.size w)
 have H : ((search_Solve.f k ai af).bind fun bt143 => (if bt143.2.2 = 0 then (if bt143.2.1 = true then (some (0, ([] : List (S39)), false, bt143.2.2)) else ((search_prove.f ai af ([] : List Int)).bind fun hL => (some (hL.1, hL.2, true, 0)))) else (some (0, ([] : List (S39)), false, bt143.2.2)))) = some (r1, r2, r3, r4) := h
 clear h
 replace H := Option.bind_eq_some_iff.mp H
 obtain ⟨⟨t143, t146, t147⟩, A20, H⟩ := H
 replace H : (if t147 = 0 then (if t146 = true then (some (0, ([] : List (S39)), false, t147)) else ((search_prove.f ai af ([] : List Int)).bind fun hL => (some (hL.1, hL.2, true, 0)))) else (some (0, ([] : List (S39)), false, t147))) = some (r1, r2, r3, r4) := H
 have A2 := Aside0.mk A20
 clear A20
 by_cases c3 : t147 = 0
 ·rw [if_pos c3] at H
  have c3b0 : (t147 == 0) = true := beq_iff_eq.mpr c3
  have c3b1 : (t147 != 0) = false := bne_eq_false_iff_eq.mpr c3
  clear c3
  by_cases c4 : t146 = true
  ·subst c4
   have H1 : (some (0, ([] : List (S39)), false, t147)) = some (r1, r2, r3, r4) := by rw [if_pos rfl] at H; exact H
   clear H
   have H := H1
   clear H1
   simp only [Option.some.injEq, Prod.mk.injEq] at H
   obtain ⟨rfl, rfl, rfl, rfl⟩ := H
   go_enter Try.func20, Try.ntmps20
   go_wp2_with (first | ((with_reducible refine aK (N := 1) rfl ?_); refine av ?hg (N := 1) ?hd (cs := #[.slice aC ai.length aA, .slice aI af.length au]) (t := 25) ?hr ?_; (case hd => rfl); (case hg => rfl); (case hr => first | (go_simp; done) | (go_simp; rfl)); intro bK hg w5 hbox hb; have n0_ := Aside0.mk (aj (by repeat (first | (with_reducible first | exact HB.out | apply a6 | apply a4 | apply a5) | exact HB.out)) hb); have n1_ := Aside0.mk (hbox); have n2_ := Aside0.mk ((by rw [hg]; exact (ah (by repeat (first | (with_reducible first | exact HB.out | apply a6 | apply a4 | apply a5) | exact HB.out))) : w.heap.size ≤ bK)); have n3_ := Aside0.mk ((by rw [hg]; exact (ah (by repeat (first | (with_reducible first | exact HB.out | apply a6 | apply a4 | apply a5) | exact HB.out))) : w.heap.size ≤ bK)); clear HB; have HB := n0_; have bv := n1_; have GW141 := n2_; have cS := n3_; clear n0_ n1_ n2_ n3_; clear hb hbox hg) | ((with_reducible refine aK (N := 2) rfl ?_); refine av ?hg (N := 2) ?hd (cs := #[.int .i64 0, .slice none 0 0]) (t := 39) ?hr ?_; (case hd => rfl); (case hg => rfl); (case hr => first | (go_simp; done) | (go_simp; rfl)); intro bW hg w6 hbox hb; have n0_ := Aside0.mk (ae (g := bK) (o := .cells #[.slice aC ai.length aA, .slice aI af.length au] 25 (0, 0)) (by (with_reducible repeat (first | refine ab ?_ _ | refine ac ?_ | refine a9 ?_ _)); exact bv.out) hb); have n1_ := Aside0.mk (aj (by repeat (first | (with_reducible first | exact HB.out | apply a6 | apply a4 | apply a5 | refine aa ?_ cS.out) | exact HB.out)) hb); have n2_ := Aside0.mk (hbox); have n3_ := Aside0.mk ((by rw [hg]; exact (ah (by repeat (first | (with_reducible first | exact HB.out | apply a6 | apply a4 | apply a5 | refine aa ?_ cS.out) | exact HB.out))) : w.heap.size ≤ bW)); have n4_ := Aside0.mk ((by rw [hg]; exact (ah (by repeat (first | (with_reducible first | exact HB.out | apply a6 | apply a4 | apply a5 | refine aa ?_ cS.out) | exact HB.out))) : w.heap.size ≤ bW)); have n5_ := Aside0.mk ((by rw [hg]; exact Nat.ne_of_lt (aZ (g := bK) (o := .cells #[.slice aC ai.length aA, .slice aI af.length au] 25 (0, 0)) (by (with_reducible repeat (first | refine ab ?_ _ | refine ac ?_ | refine a9 ?_ _)); exact bv.out)) : bK ≠ bW)); have n6_ := Aside0.mk ((by rw [hg]; exact Nat.ne_of_gt (aZ (g := bK) (o := .cells #[.slice aC ai.length aA, .slice aI af.length au] 25 (0, 0)) (by (with_reducible repeat (first | refine ab ?_ _ | refine ac ?_ | refine a9 ?_ _)); exact bv.out)) : bW ≠ bK)); clear bv; clear HB; have bv := n0_; have HB := n1_; have cb := n2_; have GW142 := n3_; have ff := n4_; have NB141_142 := n5_; have NB142_141 := n6_; clear n0_ n1_ n2_ n3_ n4_ n5_ n6_; clear hb hbox hg; have hnb7 := NB141_142.out; have hnc7 := NB142_141.out; have gF : w6.cell? ⟨bK, 0, none⟩ = some (.slice aC ai.length aA) := (a7 bv.out 0).trans rfl; have gG : w6.cell? ⟨bK, 1, none⟩ = some (.slice aI af.length au) := (a7 bv.out 1).trans rfl; have gH := a8 bv.out 0; have gI := a8 bv.out 1) | ((with_reducible refine aE (f := 15) rfl ?_); refine bw (some 9) rfl rfl Try.func15 (by kernel_rfl) rfl #[.agg #[.slice aC ai.length aA, .slice aI af.length au]] rfl (by (try simp only [List.map_toArray, List.map_cons, List.map_nil]); first | done | rfl | (simp only [List.length_drop, List.length_take]; rfl)) ?_; (with_reducible refine (search_Solve.calls k _ _ ai _ _ af t143 true t147 _ ?side1 ?side2 ?side3 ?side4 A2.out).mono ?_); (case side1 => repeat (first | exact (Kd.C_below bz.out HB.out) | (with_reducible refine Kd.C_alloc ?_ _) | (with_reducible refine Kd.C_drewN ?_ _) | (with_reducible refine Kd.C_drew ?_))); (case side2 => exact bG.out); (case side3 => repeat (first | exact (Kd.C_below br.out HB.out) | (with_reducible refine Kd.C_alloc ?_ _) | (with_reducible refine Kd.C_drewN ?_ _) | (with_reducible refine Kd.C_drew ?_))); (case side4 => exact bF.out); rintro e w9 ⟨v144, rfl, ho0, hb⟩; refine ⟨_, rfl, ?_⟩; have n0_ := Aside0.mk (Kd.R_lower ho0 (ah (by repeat (first | (with_reducible first | exact HB.out | apply a6 | apply a4 | apply a5 | refine aa ?_ cS.out | refine aa ?_ ff.out) | exact HB.out)))); have n1_ := Aside0.mk (ae (g := bK) (o := .cells #[.slice aC ai.length aA, .slice aI af.length au] 25 (0, 0)) (by (with_reducible repeat (first | refine ab ?_ _ | refine ac ?_ | refine a9 ?_ _)); exact bv.out) hb); have n2_ := Aside0.mk (ae (g := bW) (o := .cells #[.int .i64 0, .slice none 0 0] 39 (0, 0)) (by (with_reducible repeat (first | refine ab ?_ _ | refine ac ?_ | refine a9 ?_ _)); exact cb.out) hb); have n3_ := Aside0.mk (aj (by repeat (first | (with_reducible first | exact HB.out | apply a6 | apply a4 | apply a5 | refine aa ?_ cS.out | refine aa ?_ ff.out) | exact HB.out)) hb); clear bv; clear cb; clear HB; have HO145 := n0_; have bv := n1_; have cb := n2_; have HB := n3_; clear n0_ n1_ n2_ n3_; (try clear hb); (try clear hb2); (try clear hk); (try clear hi); (try clear ho0); have hcz10_0 : w9.cell? ⟨bW, 0, none⟩ = some (.int .i64 0) := (a7 cb.out 0).trans rfl; have hcz10_1 : w9.cell? ⟨bW, 1, none⟩ = some (.slice none 0 0) := (a7 cb.out 1).trans rfl; have hfz10_0 := a8 cb.out 0; have hfz10_1 := a8 cb.out 1))
   refine bodyPost_ret (ea rfl _ _ bW 39 #[.int .i64 0, .slice none 0 0] (0, 0) _ rfl (by (with_reducible repeat (first | refine ab ?_ _ | refine ac ?_ | refine a9 ?_ _)); refine aT (cs := #[.int .i64 0, .slice none 0 0]) ?_ 1 _ rfl; (with_reducible repeat (first | refine ab ?_ _ | refine ac ?_ | refine a9 ?_ _)); refine aT (cs := #[.int .i64 0, .slice none 0 0]) ?_ 0 _ rfl; (with_reducible repeat (first | refine ab ?_ _ | refine ac ?_ | refine a9 ?_ _)); exact cb.out) Try.underlying39 rfl (by kernel_rfl)) rfl ?_
   exact ⟨_, by first | rfl | (simp [al, ak] <;> rfl) | (simp [*, al, ak] <;> rfl), by first | exact Kd.R_nil _ _ _ _ _ | exact Kd.N_nil _ _ _ _ _ | exact Kd.V_nil _ _ _ _ _ | exact Kd.Q_nil _ _ _ _ _ | exact Kd.S_nil _ _ _ _ _, by repeat (first | (with_reducible first | exact HB.out | apply a6 | apply a4 | apply a5 | refine aa ?_ cS.out | refine aa ?_ ff.out) | exact HB.out)⟩
  ·replace c4 := Bool.eq_false_iff.mpr c4
   subst c4
   have H1 : ((search_prove.f ai af ([] : List Int)).bind fun hL => (some (hL.1, hL.2, true, 0))) = some (r1, r2, r3, r4) := by rw [if_neg (show ¬ (false = true) by decide)] at H; exact H
   clear H
   have H := H1
   clear H1
   replace H := Option.bind_eq_some_iff.mp H
   obtain ⟨⟨t148, t149⟩, A110, H⟩ := H
   replace H : (some (t148, t149, true, 0)) = some (r1, r2, r3, r4) := H
   have A11 := Aside0.mk A110
   clear A110
   simp only [Option.some.injEq, Prod.mk.injEq] at H
   obtain ⟨rfl, rfl, rfl, rfl⟩ := H
   go_enter Try.func20, Try.ntmps20
   go_wp2_with (first | ((with_reducible refine aK (N := 1) rfl ?_); refine av ?hg (N := 1) ?hd (cs := #[.slice aC ai.length aA, .slice aI af.length au]) (t := 25) ?hr ?_; (case hd => rfl); (case hg => rfl); (case hr => first | (go_simp; done) | (go_simp; rfl)); intro bK hg w12 hbox hb; have n0_ := Aside0.mk (aj (by repeat (first | (with_reducible first | exact HB.out | apply a6 | apply a4 | apply a5) | exact HB.out)) hb); have n1_ := Aside0.mk (hbox); have n2_ := Aside0.mk ((by rw [hg]; exact (ah (by repeat (first | (with_reducible first | exact HB.out | apply a6 | apply a4 | apply a5) | exact HB.out))) : w.heap.size ≤ bK)); have n3_ := Aside0.mk ((by rw [hg]; exact (ah (by repeat (first | (with_reducible first | exact HB.out | apply a6 | apply a4 | apply a5) | exact HB.out))) : w.heap.size ≤ bK)); clear HB; have HB := n0_; have bv := n1_; have GW141 := n2_; have cS := n3_; clear n0_ n1_ n2_ n3_; clear hb hbox hg) | ((with_reducible refine aK (N := 2) rfl ?_); refine av ?hg (N := 2) ?hd (cs := #[.int .i64 0, .slice none 0 0]) (t := 39) ?hr ?_; (case hd => rfl); (case hg => rfl); (case hr => first | (go_simp; done) | (go_simp; rfl)); intro bW hg w13 hbox hb; have n0_ := Aside0.mk (ae (g := bK) (o := .cells #[.slice aC ai.length aA, .slice aI af.length au] 25 (0, 0)) (by (with_reducible repeat (first | refine ab ?_ _ | refine ac ?_ | refine a9 ?_ _)); exact bv.out) hb); have n1_ := Aside0.mk (aj (by repeat (first | (with_reducible first | exact HB.out | apply a6 | apply a4 | apply a5 | refine aa ?_ cS.out) | exact HB.out)) hb); have n2_ := Aside0.mk (hbox); have n3_ := Aside0.mk ((by rw [hg]; exact (ah (by repeat (first | (with_reducible first | exact HB.out | apply a6 | apply a4 | apply a5 | refine aa ?_ cS.out) | exact HB.out))) : w.heap.size ≤ bW)); have n4_ := Aside0.mk ((by rw [hg]; exact (ah (by repeat (first | (with_reducible first | exact HB.out | apply a6 | apply a4 | apply a5 | refine aa ?_ cS.out) | exact HB.out))) : w.heap.size ≤ bW)); have n5_ := Aside0.mk ((by rw [hg]; exact Nat.ne_of_lt (aZ (g := bK) (o := .cells #[.slice aC ai.length aA, .slice aI af.length au] 25 (0, 0)) (by (with_reducible repeat (first | refine ab ?_ _ | refine ac ?_ | refine a9 ?_ _)); exact bv.out)) : bK ≠ bW)); have n6_ := Aside0.mk ((by rw [hg]; exact Nat.ne_of_gt (aZ (g := bK) (o := .cells #[.slice aC ai.length aA, .slice aI af.length au] 25 (0, 0)) (by (with_reducible repeat (first | refine ab ?_ _ | refine ac ?_ | refine a9 ?_ _)); exact bv.out)) : bW ≠ bK)); clear bv; clear HB; have bv := n0_; have HB := n1_; have cb := n2_; have GW142 := n3_; have ff := n4_; have NB141_142 := n5_; have NB142_141 := n6_; clear n0_ n1_ n2_ n3_ n4_ n5_ n6_; clear hb hbox hg; have hnb14 := NB141_142.out; have hnc14 := NB142_141.out; have el : w13.cell? ⟨bK, 0, none⟩ = some (.slice aC ai.length aA) := (a7 bv.out 0).trans rfl; have em : w13.cell? ⟨bK, 1, none⟩ = some (.slice aI af.length au) := (a7 bv.out 1).trans rfl; have en := a8 bv.out 0; have eo := a8 bv.out 1) | ((with_reducible refine aE (f := 15) rfl ?_); refine bw (some 9) rfl rfl Try.func15 (by kernel_rfl) rfl #[.agg #[.slice aC ai.length aA, .slice aI af.length au]] rfl (by (try simp only [List.map_toArray, List.map_cons, List.map_nil]); first | done | rfl | (simp only [List.length_drop, List.length_take]; rfl)) ?_; (with_reducible refine (search_Solve.calls k _ _ ai _ _ af t143 false t147 _ ?side1 ?side2 ?side3 ?side4 A2.out).mono ?_); (case side1 => repeat (first | exact (Kd.C_below bz.out HB.out) | (with_reducible refine Kd.C_alloc ?_ _) | (with_reducible refine Kd.C_drewN ?_ _) | (with_reducible refine Kd.C_drew ?_))); (case side2 => exact bG.out); (case side3 => repeat (first | exact (Kd.C_below br.out HB.out) | (with_reducible refine Kd.C_alloc ?_ _) | (with_reducible refine Kd.C_drewN ?_ _) | (with_reducible refine Kd.C_drew ?_))); (case side4 => exact bF.out); rintro e w16 ⟨v144, rfl, ho0, hb⟩; refine ⟨_, rfl, ?_⟩; have n0_ := Aside0.mk (Kd.R_lower ho0 (ah (by repeat (first | (with_reducible first | exact HB.out | apply a6 | apply a4 | apply a5 | refine aa ?_ cS.out | refine aa ?_ ff.out) | exact HB.out)))); have n1_ := Aside0.mk (ae (g := bK) (o := .cells #[.slice aC ai.length aA, .slice aI af.length au] 25 (0, 0)) (by (with_reducible repeat (first | refine ab ?_ _ | refine ac ?_ | refine a9 ?_ _)); exact bv.out) hb); have n2_ := Aside0.mk (ae (g := bW) (o := .cells #[.int .i64 0, .slice none 0 0] 39 (0, 0)) (by (with_reducible repeat (first | refine ab ?_ _ | refine ac ?_ | refine a9 ?_ _)); exact cb.out) hb); have n3_ := Aside0.mk (aj (by repeat (first | (with_reducible first | exact HB.out | apply a6 | apply a4 | apply a5 | refine aa ?_ cS.out | refine aa ?_ ff.out) | exact HB.out)) hb); clear bv; clear cb; clear HB; have HO145 := n0_; have bv := n1_; have cb := n2_; have HB := n3_; clear n0_ n1_ n2_ n3_; (try clear hb); (try clear hb2); (try clear hk); (try clear hi); (try clear ho0); have gn : w16.cell? ⟨bK, 0, none⟩ = some (.slice aC ai.length aA) := (a7 bv.out 0).trans rfl; have gp : w16.cell? ⟨bK, 1, none⟩ = some (.slice aI af.length au) := (a7 bv.out 1).trans rfl; have gt := a8 bv.out 0; have gu := a8 bv.out 1) | ((with_reducible refine aE (f := 41) rfl ?_); refine bw (some 21) rfl rfl Try.func41 (by kernel_rfl) rfl #[.agg #[.slice aC ai.length aA, .slice aI af.length au], .slice none 0 0] rfl (by (try simp only [List.map_toArray, List.map_cons, List.map_nil]); first | done | rfl | (simp only [List.length_drop, List.length_take]; rfl)) ?_; (refine (search_prove.calls _ _ ai _ _ af _ _ ([] : List Int) t148 t149 _ ?side1 ?side2 ?side3 ?side4 ?side5 ?side6 A11.out).mono ?_); (case side1 => repeat (first | exact (Kd.C_below bz.out HB.out) | (with_reducible refine Kd.C_alloc ?_ _) | (with_reducible refine Kd.C_drewN ?_ _) | (with_reducible refine Kd.C_drew ?_))); (case side2 => exact bG.out); (case side3 => repeat (first | exact (Kd.C_below br.out HB.out) | (with_reducible refine Kd.C_alloc ?_ _) | (with_reducible refine Kd.C_drewN ?_ _) | (with_reducible refine Kd.C_drew ?_))); (case side4 => exact bF.out); (case side5 => exact Kd.C_nil _ _); (case side6 => exact Nat.le_refl _); rintro e w18 ⟨v150, rfl, ho0, hb⟩; refine ⟨_, rfl, ?_⟩; have n0_ := Aside0.mk (Kd.R_below (by (with_reducible repeat (first | apply Kd.R_alloc | apply Kd.R_drewN | apply Kd.R_drew)); exact HO145.out) hb); have n1_ := Aside0.mk (Kd.R_lower (Kd.R_newB ho0 (g := bW) (o := .cells #[.int .i64 0, .slice none 0 0] 39 (0, 0)) (by (with_reducible repeat (first | refine ab ?_ _ | refine ac ?_ | refine a9 ?_ _)); exact cb.out)) (ah (by repeat (first | (with_reducible first | exact HB.out | apply a6 | apply a4 | apply a5 | refine aa ?_ cS.out | refine aa ?_ ff.out) | exact HB.out)))); have n2_ := Aside0.mk (ae (g := bK) (o := .cells #[.slice aC ai.length aA, .slice aI af.length au] 25 (0, 0)) (by (with_reducible repeat (first | refine ab ?_ _ | refine ac ?_ | refine a9 ?_ _)); exact bv.out) hb); have n3_ := Aside0.mk (ae (g := bW) (o := .cells #[.int .i64 0, .slice none 0 0] 39 (0, 0)) (by (with_reducible repeat (first | refine ab ?_ _ | refine ac ?_ | refine a9 ?_ _)); exact cb.out) hb); have n4_ := Aside0.mk (aj (by repeat (first | (with_reducible first | exact HB.out | apply a6 | apply a4 | apply a5 | refine aa ?_ cS.out | refine aa ?_ ff.out) | exact HB.out)) hb); clear HO145; clear bv; clear cb; clear HB; have HO145 := n0_; have HO151 := n1_; have bv := n2_; have cb := n3_; have HB := n4_; clear n0_ n1_ n2_ n3_ n4_; (try clear hb); (try clear hb2); (try clear hk); (try clear hi); (try clear ho0); have hcz19_0 : w18.cell? ⟨bW, 0, none⟩ = some (.int .i64 0) := (a7 cb.out 0).trans rfl; have hcz19_1 : w18.cell? ⟨bW, 1, none⟩ = some (.slice none 0 0) := (a7 cb.out 1).trans rfl; have hfz19_0 := a8 cb.out 0; have hfz19_1 := a8 cb.out 1; obtain ⟨Ao20, co20, eo20⟩ := Kd.R_slice HO151.out; subst eo20))
   refine bodyPost_ret (ea rfl _ _ bW 39 #[.int .i64 t148, .slice Ao20 t149.length co20] (0, 0) _ rfl (by (with_reducible repeat (first | refine ab ?_ _ | refine ac ?_ | refine a9 ?_ _)); refine aT (cs := #[.int .i64 t148, .slice none 0 0]) ?_ 1 _ rfl; (with_reducible repeat (first | refine ab ?_ _ | refine ac ?_ | refine a9 ?_ _)); refine aT (cs := #[.int .i64 0, .slice none 0 0]) ?_ 0 _ rfl; (with_reducible repeat (first | refine ab ?_ _ | refine ac ?_ | refine a9 ?_ _)); exact cb.out) Try.underlying39 rfl (by kernel_rfl)) rfl ?_
   exact ⟨_, by first | rfl | (simp [al, ak] <;> rfl) | (simp [*, al, ak] <;> rfl), by (with_reducible repeat (first | apply Kd.R_alloc | apply Kd.R_drewN | apply Kd.R_drew)); exact Kd.R_mono (Kd.R_far (p := ⟨bW, 1, none⟩) (Kd.R_far (p := ⟨bW, 0, none⟩) (Kd.R_mono HO151.out (fun k_ hk => (⟨hk, hk.2⟩ : _ ∧ k_ ≠ bW))) (fun _ hk => hk.2) (.int .i64 t148)) (fun _ hk => hk.2) (.slice Ao20 t149.length co20)) (fun _ hk => trivial), by repeat (first | (with_reducible first | exact HB.out | apply a6 | apply a4 | apply a5 | refine aa ?_ cS.out | refine aa ?_ ff.out) | exact HB.out)⟩
 ·rw [if_neg c3] at H
  have c3b0 : (t147 == 0) = false := beq_eq_false_iff_ne.mpr c3
  have c3b1 : (t147 != 0) = true := bne_iff_ne.mpr c3
  simp only [Option.some.injEq, Prod.mk.injEq] at H
  obtain ⟨rfl, rfl, rfl, rfl⟩ := H
  go_enter Try.func20, Try.ntmps20
  go_wp2_with (first | ((with_reducible refine aK (N := 1) rfl ?_); refine av ?hg (N := 1) ?hd (cs := #[.slice aC ai.length aA, .slice aI af.length au]) (t := 25) ?hr ?_; (case hd => rfl); (case hg => rfl); (case hr => first | (go_simp; done) | (go_simp; rfl)); intro bK hg w21 hbox hb; have n0_ := Aside0.mk (aj (by repeat (first | (with_reducible first | exact HB.out | apply a6 | apply a4 | apply a5) | exact HB.out)) hb); have n1_ := Aside0.mk (hbox); have n2_ := Aside0.mk ((by rw [hg]; exact (ah (by repeat (first | (with_reducible first | exact HB.out | apply a6 | apply a4 | apply a5) | exact HB.out))) : w.heap.size ≤ bK)); have n3_ := Aside0.mk ((by rw [hg]; exact (ah (by repeat (first | (with_reducible first | exact HB.out | apply a6 | apply a4 | apply a5) | exact HB.out))) : w.heap.size ≤ bK)); clear HB; have HB := n0_; have bv := n1_; have GW141 := n2_; have cS := n3_; clear n0_ n1_ n2_ n3_; clear hb hbox hg) | ((with_reducible refine aK (N := 2) rfl ?_); refine av ?hg (N := 2) ?hd (cs := #[.int .i64 0, .slice none 0 0]) (t := 39) ?hr ?_; (case hd => rfl); (case hg => rfl); (case hr => first | (go_simp; done) | (go_simp; rfl)); intro bW hg w22 hbox hb; have n0_ := Aside0.mk (ae (g := bK) (o := .cells #[.slice aC ai.length aA, .slice aI af.length au] 25 (0, 0)) (by (with_reducible repeat (first | refine ab ?_ _ | refine ac ?_ | refine a9 ?_ _)); exact bv.out) hb); have n1_ := Aside0.mk (aj (by repeat (first | (with_reducible first | exact HB.out | apply a6 | apply a4 | apply a5 | refine aa ?_ cS.out) | exact HB.out)) hb); have n2_ := Aside0.mk (hbox); have n3_ := Aside0.mk ((by rw [hg]; exact (ah (by repeat (first | (with_reducible first | exact HB.out | apply a6 | apply a4 | apply a5 | refine aa ?_ cS.out) | exact HB.out))) : w.heap.size ≤ bW)); have n4_ := Aside0.mk ((by rw [hg]; exact (ah (by repeat (first | (with_reducible first | exact HB.out | apply a6 | apply a4 | apply a5 | refine aa ?_ cS.out) | exact HB.out))) : w.heap.size ≤ bW)); have n5_ := Aside0.mk ((by rw [hg]; exact Nat.ne_of_lt (aZ (g := bK) (o := .cells #[.slice aC ai.length aA, .slice aI af.length au] 25 (0, 0)) (by (with_reducible repeat (first | refine ab ?_ _ | refine ac ?_ | refine a9 ?_ _)); exact bv.out)) : bK ≠ bW)); have n6_ := Aside0.mk ((by rw [hg]; exact Nat.ne_of_gt (aZ (g := bK) (o := .cells #[.slice aC ai.length aA, .slice aI af.length au] 25 (0, 0)) (by (with_reducible repeat (first | refine ab ?_ _ | refine ac ?_ | refine a9 ?_ _)); exact bv.out)) : bW ≠ bK)); clear bv; clear HB; have bv := n0_; have HB := n1_; have cb := n2_; have GW142 := n3_; have ff := n4_; have NB141_142 := n5_; have NB142_141 := n6_; clear n0_ n1_ n2_ n3_ n4_ n5_ n6_; clear hb hbox hg; have hnb23 := NB141_142.out; have hnc23 := NB142_141.out; have hcz24_0 : w22.cell? ⟨bK, 0, none⟩ = some (.slice aC ai.length aA) := (a7 bv.out 0).trans rfl; have hcz24_1 : w22.cell? ⟨bK, 1, none⟩ = some (.slice aI af.length au) := (a7 bv.out 1).trans rfl; have hfz24_0 := a8 bv.out 0; have hfz24_1 := a8 bv.out 1) | ((with_reducible refine aE (f := 15) rfl ?_); refine bw (some 9) rfl rfl Try.func15 (by kernel_rfl) rfl #[.agg #[.slice aC ai.length aA, .slice aI af.length au]] rfl (by (try simp only [List.map_toArray, List.map_cons, List.map_nil]); first | done | rfl | (simp only [List.length_drop, List.length_take]; rfl)) ?_; (with_reducible refine (search_Solve.calls k _ _ ai _ _ af t143 t146 t147 _ ?side1 ?side2 ?side3 ?side4 A2.out).mono ?_); (case side1 => repeat (first | exact (Kd.C_below bz.out HB.out) | (with_reducible refine Kd.C_alloc ?_ _) | (with_reducible refine Kd.C_drewN ?_ _) | (with_reducible refine Kd.C_drew ?_))); (case side2 => exact bG.out); (case side3 => repeat (first | exact (Kd.C_below br.out HB.out) | (with_reducible refine Kd.C_alloc ?_ _) | (with_reducible refine Kd.C_drewN ?_ _) | (with_reducible refine Kd.C_drew ?_))); (case side4 => exact bF.out); rintro e w25 ⟨v144, rfl, ho0, hb⟩; refine ⟨_, rfl, ?_⟩; have n0_ := Aside0.mk (Kd.R_lower ho0 (ah (by repeat (first | (with_reducible first | exact HB.out | apply a6 | apply a4 | apply a5 | refine aa ?_ cS.out | refine aa ?_ ff.out) | exact HB.out)))); have n1_ := Aside0.mk (ae (g := bK) (o := .cells #[.slice aC ai.length aA, .slice aI af.length au] 25 (0, 0)) (by (with_reducible repeat (first | refine ab ?_ _ | refine ac ?_ | refine a9 ?_ _)); exact bv.out) hb); have n2_ := Aside0.mk (ae (g := bW) (o := .cells #[.int .i64 0, .slice none 0 0] 39 (0, 0)) (by (with_reducible repeat (first | refine ab ?_ _ | refine ac ?_ | refine a9 ?_ _)); exact cb.out) hb); have n3_ := Aside0.mk (aj (by repeat (first | (with_reducible first | exact HB.out | apply a6 | apply a4 | apply a5 | refine aa ?_ cS.out | refine aa ?_ ff.out) | exact HB.out)) hb); clear bv; clear cb; clear HB; have HO145 := n0_; have bv := n1_; have cb := n2_; have HB := n3_; clear n0_ n1_ n2_ n3_; (try clear hb); (try clear hb2); (try clear hk); (try clear hi); (try clear ho0); have hcz26_0 : w25.cell? ⟨bW, 0, none⟩ = some (.int .i64 0) := (a7 cb.out 0).trans rfl; have hcz26_1 : w25.cell? ⟨bW, 1, none⟩ = some (.slice none 0 0) := (a7 cb.out 1).trans rfl; have hfz26_0 := a8 cb.out 0; have hfz26_1 := a8 cb.out 1))
  refine bodyPost_ret (ea rfl _ _ bW 39 #[.int .i64 0, .slice none 0 0] (0, 0) _ rfl (by (with_reducible repeat (first | refine ab ?_ _ | refine ac ?_ | refine a9 ?_ _)); refine aT (cs := #[.int .i64 0, .slice none 0 0]) ?_ 1 _ rfl; (with_reducible repeat (first | refine ab ?_ _ | refine ac ?_ | refine a9 ?_ _)); refine aT (cs := #[.int .i64 0, .slice none 0 0]) ?_ 0 _ rfl; (with_reducible repeat (first | refine ab ?_ _ | refine ac ?_ | refine a9 ?_ _)); exact cb.out) Try.underlying39 rfl (by kernel_rfl)) rfl ?_
  exact ⟨_, by first | rfl | (simp [al, ak] <;> rfl) | (simp [*, al, ak] <;> rfl), by first | exact Kd.R_nil _ _ _ _ _ | exact Kd.N_nil _ _ _ _ _ | exact Kd.V_nil _ _ _ _ _ | exact Kd.Q_nil _ _ _ _ _ | exact Kd.S_nil _ _ _ _ _, by repeat (first | (with_reducible first | exact HB.out | apply a6 | apply a4 | apply a5 | refine aa ?_ cS.out | refine aa ?_ ff.out) | exact HB.out)⟩
end Go.Proofs.Ytcbpkdemcdikaaa.X
namespace Go.Proofs.Ytcbpkdemcdikaaa.X
open Go.RowKit Go.Proofs.YtcbpkdemcdikaaaW.PrintWords Go.Proofs.YtcbpkdemcdikaaaW.PrintLast Go.Proofs.YtcbpkdemcdikaaaW.PrintMore
attribute [local go_sem] ay az aN aM ao ap aw ax
set_option linter.unusedVariables false
set_option linter.unusedSimpArgs false
namespace DF
open SF
set_option maxHeartbeats 8000000
def leafB (rs : List S49) (t : S39) (x : List Int) : Bool := decide (t.f0 < (rs.length : Int)) && decide (t.f1.length = 0) && brokenB (ag rs t.f0) x
def rightB (rs : List S49) : List (List Int) → S39 → List Int → Bool
  | [], t, x => if 0 ≤ t.f0 then leafB rs t x else false
  | d :: ds, t, x => if 0 ≤ t.f0 then leafB rs t x else if t.f0 < -1 ∨ t.f1.length ≠ d.length then false else (List.range d.length).all fun i => rightB rs ds (bj t.f1 (i : Int)) (x ++ [rd d (i : Int)])
theorem rightB_leaf (rs : List S49) (ds : List (List Int)) (t : S39) (x : List Int) (h : 0 ≤ t.f0) : rightB rs ds t x = leafB rs t x := by
  cases ds <;> (unfold rightB; rw [if_pos h])
theorem rightB_all (rs : List S49) (d : List Int) (ds : List (List Int)) (t : S39) (x : List Int) (h : ¬ 0 ≤ t.f0) (h2 : ¬ (t.f0 < -1 ∨ t.f1.length ≠ d.length)) : rightB rs (d :: ds) t x = (List.range d.length).all fun i => rightB rs ds (bj t.f1 (i : Int)) (x ++ [rd d (i : Int)]) := by
  show (if 0 ≤ t.f0 then _ else _) = _
  rw [if_neg h, if_neg h2]
theorem right_leaf (rem : List (List Int)) (A0 : Option Addr) (c0 : Nat) (ds : List (List Int)) (A1 : Option Addr) (c1 : Nat) (rs : List S49) (Ak : Option Addr) (ck : Nat) (t : S39) (Ax : Option Addr) (cx : Nat) (x : List Int) (w : World) (h0 : 0 ≤ t.f0)
    (hr1 : Kd.C k49 w A1 rs.length rs) (hrk : Kd.C k39 w Ak t.f1.length t.f1) (hrx : Kd.C (Kd.int .i64) w Ax x.length x) (hcx : x.length ≤ cx) (hok : ∀ r ∈ rs, okR r) :
    Calls Try.prog 43 #[.agg #[.slice A0 ds.length c0, .slice A1 rs.length c1], .agg #[.int .i64 t.f0, .slice Ak t.f1.length ck], .slice Ax x.length cx] w fun e w' => e = .returned (.bool (rightB rs rem t x)) ∧ Below w.heap.size w w' := by
  rw [rightB_leaf rs rem t x h0]
  obtain ⟨f0, hf0⟩ : ∃ f0, t.f0 = f0 := ⟨_, rfl⟩
  have hl : leafB rs t x = (decide (f0 < (rs.length : Int)) && decide (t.f1.length = 0) && brokenB (ag rs f0) x) := by unfold leafB; rw [hf0]
  rw [hl, hf0]
  rw [hf0] at h0
  clear hl hf0
  have g0 : decide (f0 ≥ 0) = true := decide_eq_true h0
  have g0' : decide (0 ≤ f0) = true := decide_eq_true h0
  by_cases h1 : f0 < (rs.length : Int)
  · have g1 : decide (f0 < (rs.length : Int)) = true := decide_eq_true h1
    by_cases h2 : t.f1.length = 0
    · have g2 : decide (t.f1.length = 0) = true := decide_eq_true h2
      have g2b : ((t.f1.length : Int) == 0) = true := by rw [h2]; rfl
      have g2c : (t.f1.length == 0) = true := by rw [h2]; rfl
      obtain ⟨ad1, A2, c2, A3, c3, e1, hx0, hx1, hx2, hx3, hl2, hi2, hl3, hi3⟩ := dH hr1 f0 h0 h1
      subst e1
      have hu49 := Try.underlying49
      obtain ⟨r, hr⟩ : ∃ r, ag rs f0 = r := ⟨_, rfl⟩
      have hor : okR r := by
        rw [← hr, show ag rs f0 = rs[f0.toNat] by simp [ag, List.getD, List.getElem?_eq_getElem (show f0.toNat < rs.length by omega)]]
        exact hok _ (List.getElem_mem _)
      rw [hr] at hx0 hx1 hx2 hx3 hl2 hi2 hl3 hi3 ⊢
      have y0 := dC (dC hx0 (.cells #[.slice A0 ds.length c0, .slice (some ad1) rs.length c1] 25)) (.cells #[.int .i64 f0, .slice Ak t.f1.length ck] 39)
      have y1 := dC (dC hx1 (.cells #[.slice A0 ds.length c0, .slice (some ad1) rs.length c1] 25)) (.cells #[.int .i64 f0, .slice Ak t.f1.length ck] 39)
      have y2 := dC (dC hx2 (.cells #[.slice A0 ds.length c0, .slice (some ad1) rs.length c1] 25)) (.cells #[.int .i64 f0, .slice Ak t.f1.length ck] 39)
      have y3 := dC (dC hx3 (.cells #[.slice A0 ds.length c0, .slice (some ad1) rs.length c1] 25)) (.cells #[.int .i64 f0, .slice Ak t.f1.length ck] 39)
      have HBR := Aside0.mk (fun (W : World) (hb : Below w.heap.size w W) => broken_ok r.f0 r.f1 A2 c2 r.f2 A3 c3 r.f3 Ax cx x W (Kd.C_below hi2 hb) hl2 (Kd.C_below hi3 hb) hl3 (Kd.C_below hrx hb) hcx hor.1 hor.2.1 hor.2.2.1 hor.2.2.2)
      have p0 : (0 ≤ f0) = True := eq_true h0
      have q0 : (f0 < (rs.length : Int)) = True := eq_true h1
      have q1 : (f0.toNat < rs.length) = True := eq_true (by omega)
      clear hr1 hrk hrx hcx hok h0 h1 h2 hl2 hi2 hl3 hi3 hor hr hx0 hx1 hx2 hx3
      have HB0 := Aside0.mk (a6 (a6 (Below.refl w.heap.size w) (.cells #[.slice A0 ds.length c0, .slice (some ad1) rs.length c1] 25)) (.cells #[.int .i64 f0, .slice Ak t.f1.length ck] 39))
      obtain ⟨bb, hbb⟩ : ∃ bb, brokenB r x = bb := ⟨_, rfl⟩
      rw [show (⟨r.f0, r.f1, r.f2, r.f3⟩ : S49) = r from rfl, hbb] at HBR
      rw [hbb]
      clear hbb
      go_enter Try.func43, Try.ntmps43
      go_wp2_with (go_at_call 32; refine (HBR.out _ HB0.out).mono ?_; rintro e w5 ⟨rfl, hb5⟩; have HB5 := Aside0.mk (HB0.out.trans (hb5.mono HB0.out.size)); clear hb5)
      go_ret
      refine ⟨?_, HB5.out⟩
      rw [g1, g2]; rfl
    · have g2 : decide (t.f1.length = 0) = false := decide_eq_false h2
      have g2b : ((t.f1.length : Int) == 0) = false := beq_eq_false_iff_ne.mpr (by omega)
      have g2c : (t.f1.length == 0) = false := beq_eq_false_iff_ne.mpr h2
      have HB0 := Aside0.mk (a6 (a6 (Below.refl w.heap.size w) (.cells #[.slice A0 ds.length c0, .slice A1 rs.length c1] 25)) (.cells #[.int .i64 f0, .slice Ak t.f1.length ck] 39))
      clear hr1 hrk hrx hcx hok h0 h1 h2
      go_enter Try.func43, Try.ntmps43
      go_wp2_with (fail)
      go_ret
      refine ⟨?_, HB0.out⟩
      rw [g1, g2]; rfl
  · have g1 : decide (f0 < (rs.length : Int)) = false := decide_eq_false h1
    have HB0 := Aside0.mk (a6 (a6 (Below.refl w.heap.size w) (.cells #[.slice A0 ds.length c0, .slice A1 rs.length c1] 25)) (.cells #[.int .i64 f0, .slice Ak t.f1.length ck] 39))
    clear hr1 hrk hrx hcx hok h0 h1
    go_enter Try.func43, Try.ntmps43
    go_wp2_with (fail)
    go_ret
    refine ⟨?_, HB0.out⟩
    rw [g1]; rfl
noncomputable def T8r : Bool × List (List Nat × List Nat) := dd .any (dG Try.f43 8)
theorem tab8r : dd .any (dG Try.f43 8) = T8r := rfl
theorem right_ok : ∀ (rem : List (List Int)) (A0 : Option Addr) (c0 : Nat) (ds : List (List Int)) (A1 : Option Addr) (c1 : Nat) (rs : List S49) (Ak : Option Addr) (ck : Nat) (t : S39) (Ax : Option Addr) (cx : Nat) (x : List Int) (w : World), ds.drop x.length = rem → x.length ≤ ds.length →
    Kd.C (Kd.slice 3 (Kd.int .i64)) w A0 ds.length ds → Kd.C k49 w A1 rs.length rs → Kd.C k39 w Ak t.f1.length t.f1 → t.f1.length ≤ ck → Kd.C (Kd.int .i64) w Ax x.length x → x.length ≤ cx → (Ax = none → x = []) → (∀ r ∈ rs, okR r) → ds.length ≤ 1000 →
    Calls Try.prog 43 #[.agg #[.slice A0 ds.length c0, .slice A1 rs.length c1], .agg #[.int .i64 t.f0, .slice Ak t.f1.length ck], .slice Ax x.length cx] w fun e w' => e = .returned (.bool (rightB rs rem t x)) ∧ Below w.heap.size w w' := by
  intro rem
  induction rem with
  | nil =>
    intro A0 c0 ds A1 c1 rs Ak ck t Ax cx x w hrem hxl hr0 hr1 hrk hck hrx hcx hAx hok hdl
    by_cases h0 : 0 ≤ t.f0
    · exact right_leaf [] A0 c0 ds A1 c1 rs Ak ck t Ax cx x w h0 hr1 hrk hrx hcx hok
    · have hlen : x.length = ds.length := by
        have h := congrArg List.length hrem
        simp at h
        omega
      rw [show rightB rs [] t x = false from by show (if 0 ≤ t.f0 then _ else _) = _; rw [if_neg h0]]
      obtain ⟨f0, hf0⟩ : ∃ f0, t.f0 = f0 := ⟨_, rfl⟩
      rw [hf0] at h0 ⊢
      have g0 : decide (f0 ≥ 0) = false := decide_eq_false h0
      have g0' : decide (0 ≤ f0) = false := decide_eq_false h0
      have HB0 := Aside0.mk (a6 (a6 (Below.refl w.heap.size w) (.cells #[.slice A0 ds.length c0, .slice A1 rs.length c1] 25)) (.cells #[.int .i64 f0, .slice Ak t.f1.length ck] 39))
      by_cases h1 : f0 < -1
      · have g1 : decide (f0 < -1) = true := decide_eq_true h1
        clear hr0 hr1 hrk hrx hcx hok h0 h1 hrem hxl hck hAx hdl hlen hf0
        go_enter Try.func43, Try.ntmps43
        go_wp2_with (fail)
        go_quiet (fail)
        go_wp2_with (fail)
        go_ret
        exact ⟨rfl, by repeat (first | exact HB0.out | apply a4 | apply a5)⟩
      · have g1 : decide (f0 < -1) = false := decide_eq_false h1
        have g2 : ((x.length : Int) == (ds.length : Int)) = true := beq_iff_eq.mpr (by omega)
        have g2b : (x.length == ds.length) = true := beq_iff_eq.mpr hlen
        clear hr0 hr1 hrk hrx hcx hok h0 h1 hrem hxl hck hAx hdl hlen hf0
        go_enter Try.func43, Try.ntmps43
        go_wp2_with (fail)
        go_quiet (fail)
        go_wp2_with (fail)
        go_ret
        exact ⟨rfl, by repeat (first | exact HB0.out | apply a4 | apply a5)⟩
  | cons d rem ih =>
    intro A0 c0 ds A1 c1 rs Ak ck t Ax cx x w hrem hxl hr0 hr1 hrk hck hrx hcx hAx hok hdl
    by_cases h0 : 0 ≤ t.f0
    · exact right_leaf _ A0 c0 ds A1 c1 rs Ak ck t Ax cx x w h0 hr1 hrk hrx hcx hok
    · have hxl2 : x.length < ds.length := by
        have h := congrArg List.length hrem
        simp at h
        omega
      have hrem2 : ds.drop (x.length + 1) = rem := by
        have h := congrArg List.tail hrem
        rwa [List.tail_drop] at h
      have hd : ds[x.length] = d := by
        have h := congrArg List.head? hrem
        rw [List.head?_drop, List.getElem?_eq_getElem hxl2] at h
        exact Option.some.inj h
      have hrow : aJ ds (x.length : Int) = d := by simp [aJ, List.getD, List.getElem?_eq_getElem hxl2, hd]
      obtain ⟨f0, hf0⟩ : ∃ f0, t.f0 = f0 := ⟨_, rfl⟩
      have g0 : decide (f0 ≥ 0) = false := by rw [← hf0]; exact decide_eq_false h0
      have g0' : decide (0 ≤ f0) = false := g0
      have p0 : 0 ≤ (x.length : Int) := by omega
      have q0 : (x.length : Int) < (ds.length : Int) := by omega
      obtain ⟨ad0, B0, cc0, e0, hx0W, hl0, hc0⟩ := f5 hr0 x.length p0 q0
      subst e0
      rw [Int.toNat_natCast] at hx0W
      rw [hrow] at hx0W hl0 hc0
      have HB0 := Aside0.mk (a6 (a6 (Below.refl w.heap.size w) (.cells #[.slice (some ad0) ds.length c0, .slice A1 rs.length c1] 25)) (.cells #[.int .i64 f0, .slice Ak t.f1.length ck] 39))
      have y0 := dC (dC hx0W (.cells #[.slice (some ad0) ds.length c0, .slice A1 rs.length c1] 25)) (.cells #[.int .i64 f0, .slice Ak t.f1.length ck] 39)
      have n0 : (x.length < ds.length) = True := eq_true hxl2
      have g2 : ((x.length : Int) == (ds.length : Int)) = false := beq_eq_false_iff_ne.mpr (by omega)
      have g2b : (x.length == ds.length) = false := beq_eq_false_iff_ne.mpr (by omega)
      by_cases h1 : f0 < -1
      · have g1 : decide (f0 < -1) = true := decide_eq_true h1
        rw [show rightB rs (d :: rem) t x = false from by show (if 0 ≤ t.f0 then _ else _) = _; rw [if_neg h0, if_pos (.inl (by rw [hf0]; exact h1))]]
        rw [hf0]
        clear hr0 hr1 hrk hrx hcx hok h0 h1 hrem hxl hck hAx hdl hf0 p0 q0 hxl2 hrem2 hd hrow hl0 hc0 hx0W ih
        go_enter Try.func43, Try.ntmps43
        go_wp2_with (fail)
        go_quiet (fail)
        go_wp2_with (fail)
        go_ret
        exact ⟨rfl, by repeat (first | exact HB0.out | apply a4 | apply a5)⟩
      · have g1 : decide (f0 < -1) = false := decide_eq_false h1
        by_cases h3 : t.f1.length = d.length
        · have g3 : ((t.f1.length : Int) != (d.length : Int)) = false := bne_eq_false_iff_eq.mpr (by omega)
          have g3b : (t.f1.length != d.length) = false := bne_eq_false_iff_eq.mpr h3
          rw [rightB_all rs d rem t x h0 (by rw [hf0]; rintro (h | h); exact h1 h; exact h h3)]
          rw [hf0]
          replace p0 := eq_true p0
          replace q0 := eq_true q0
          have HR0 := Aside0.mk hr0; have HR1 := Aside0.mk hr1; have HRK := Aside0.mk hrk; have HCK := Aside0.mk hck; have HRX := Aside0.mk hrx; have HCX := Aside0.mk hcx; have HAX := Aside0.mk hAx; have HOK := Aside0.mk hok; have HDL := Aside0.mk hdl
          have HXL := Aside0.mk hxl2; have HREM := Aside0.mk hrem2; have HC0 := Aside0.mk hc0; have IH := Aside0.mk ih; have H3 := Aside0.mk h3
          have HDM := Aside0.mk (show d.length ≤ 9223372036854775807 from Kd.C_max hc0)
          have hk3 := a9 (aV w (.cells #[.slice (some ad0) ds.length c0, .slice A1 rs.length c1] 25)) (.cells #[.int .i64 f0, .slice Ak t.f1.length ck] 39)
          have hk4 := aV (w.alloc (.cells #[.slice (some ad0) ds.length c0, .slice A1 rs.length c1] 25)) (.cells #[.int .i64 f0, .slice Ak t.f1.length ck] 39)
          rw [World.size_alloc] at hk4
          have HK3 := Aside0.mk hk3; have HK4 := Aside0.mk hk4
          clear hr0 hr1 hrk hrx hcx hok h0 h1 hrem hxl hck hAx hdl hf0 hxl2 hrem2 hd hrow hl0 hc0 hx0W ih h3 hk3 hk4
          go_enter Try.func43, Try.ntmps43
          go_wp2_with (fail)
          go_quiet (fail)
          go_wp2_with (fail)
          obtain ⟨W2, hW2⟩ : ∃ W2, ((w.alloc (.cells #[.slice (some ad0) ds.length c0, .slice A1 rs.length c1] 25)).alloc (.cells #[.int .i64 f0, .slice Ak t.f1.length ck] 39)).drewN nq = W2 := ⟨_, rfl⟩
          have hB2 : Below w.heap.size w W2 := by rw [← hW2]; exact a4 HB0.out _
          have hz2 : W2.heap.size = w.heap.size + 1 + 1 := by rw [← hW2]; simp
          have hk3' : W2.heap[w.heap.size]? = some (.cells #[.slice (some ad0) ds.length c0, .slice A1 rs.length c1] 25 (0, 0)) := by rw [← hW2]; exact HK3.out
          have hk4' : W2.heap[w.heap.size + 1]? = some (.cells #[.int .i64 f0, .slice Ak t.f1.length ck] 39 (0, 0)) := by rw [← hW2]; exact HK4.out
          have HB2 := Aside0.mk hB2; have HZ2 := Aside0.mk hz2; have K3 := Aside0.mk hk3'; have K4 := Aside0.mk hk4'
          rw [hW2]
          clear hW2 hB2 hz2 hk3' hk4' y0 g2 g2b g3 g3b g0 g0' g1
          go_loopg [7, 8, 67] d.length (fun gg _ _ v67 wr => ∃ kk : Nat, v67 = .int .i64 kk ∧ Aside0 (kk ≤ d.length) ∧ Aside0 (d.length - kk ≤ gg) ∧ Aside0 (∀ i, i < kk → rightB rs rem (bj t.f1 (i : Int)) (x ++ [rd d (i : Int)]) = true) ∧ Aside0 (Below W2.heap.size W2 wr))
          case atStart => exact ⟨0, rfl, ⟨Nat.zero_le _⟩, ⟨by omega⟩, ⟨fun i hi => absurd hi (by omega)⟩, ⟨Below.refl _ _⟩⟩
          case round =>
            obtain ⟨kk, rfl, HK, HG, HT, HB⟩ := hrel
            have HBw := Aside0.mk (show Below w.heap.size w wr from HB2.out.trans (HB.out.mono (by have := HZ2.out; omega)))
            by_cases c4 : kk < d.length
            · have c4b : decide ((kk : Int) < (d.length : Int)) = true := decide_eq_true (by omega)
              have c4n : decide (kk < d.length) = true := decide_eq_true c4
              have p1 : 0 ≤ (kk : Int) := by omega
              have q1 : (kk : Int) < (d.length : Int) := by omega
              obtain ⟨adr, er, hxr⟩ := Kd.at_int (Kd.C_below HC0.out HBw.out) kk p1 q1
              subst er
              rw [Int.toNat_natCast] at hxr
              obtain ⟨adk, Akk, ckk, ek, hk0, hk1, hlk, hck2⟩ := at_T39 (Kd.C_below HRK.out HBw.out) kk p1 (by have := H3.out; omega)
              subst ek
              rw [Int.toNat_natCast] at hk0 hk1
              obtain ⟨kid, hkid⟩ : ∃ kid, bj t.f1 (kk : Int) = kid := ⟨_, rfl⟩
              rw [hkid] at hk0 hk1 hlk hck2
              have n1 : (kk < d.length) = True := eq_true c4
              have n2 : (kk < t.f1.length) = True := eq_true (by have := H3.out; omega)
              have q2 : ((kk : Int) < (t.f1.length : Int)) = True := eq_true (by have := H3.out; omega)
              have m1 : (x.length ≤ cx) = True := eq_true HCX.out
              have m2 : ((x.length : Int) ≤ (cx : Int)) = True := eq_true (by have := HCX.out; omega)
              replace p1 := eq_true p1
              replace q1 := eq_true q1
              obtain ⟨v, hv⟩ : ∃ v, rd d (kk : Int) = v := ⟨_, rfl⟩
              rw [hv] at hxr
              have HV := Aside0.mk hv
              have HC := Aside0.mk c4
              have HKD := Aside0.mk hkid
              have hltk0 := World.block_lt_of_cell? wr _ hk0
              have hltk1 := World.block_lt_of_cell? wr _ hk1
              have HSF := Aside0.mk (fun (W' : World) (hb : Below wr.heap.size wr W') => (show W'.cell? ⟨w.heap.size, 0, none⟩ = some (.slice (some ad0) ds.length c0) ∧ W'.cell? ⟨w.heap.size, 1, none⟩ = some (.slice A1 rs.length c1) ∧ W'.cell? ⟨w.heap.size + 1, 1, none⟩ = some (.slice (some adk) t.f1.length ck) ∧ W'.cell? (adk.add (kk * 2)) = some (.int .i64 kid.f0) ∧ W'.cell? ⟨(adk.add (kk * 2)).block, (adk.add (kk * 2)).off + 1, none⟩ = some (.slice Akk kid.f1.length ckk) from by
                have hk2 := ae (ae K3.out HB.out) hb
                have hk3 := ae (ae K4.out HB.out) hb
                exact ⟨by simpa using a7 hk2 0, by simpa using a7 hk2 1, by simpa using a7 hk3 1, (hb.cell hltk0).trans hk0, (hb.cell hltk1).trans hk1⟩))
              have HBd := Aside0.mk (show Below w.heap.size w wr.drew from a5 HBw.out)
              have HBd1 := Aside0.mk (show Below wr.heap.size wr wr.drew from a5 (Below.refl _ _))
              obtain ⟨v1, w1, hrun, hown, hb1⟩ := fH Ax x v wr.drew (show ReadsInt wr.drew .i64 Ax x.length x from Kd.reads_of_C (d := 0) (Kd.C_below HRX.out HBd.out)) HAX.out (by have := HXL.out; have := HDL.out; omega)
              obtain ⟨A9, c9, hv9⟩ := d5 hown
              subst hv9
              have hxl9 : (x ++ [v]).length = x.length + 1 := by simp
              have hbr1 : Below wr.heap.size wr w1 := ⟨hb1.os, hb1.tape, hb1.output, hb1.size, hb1.block⟩
              have hbw1 : Below w.heap.size w w1 := HBw.out.trans (hbr1.mono HBw.out.size)
              have hown2 : w1.ownsRow wr.drew.heap.size 3 1 (.slice A9 (x ++ [v]).length c9) (x ++ [v]).length (bM .i64 (x ++ [v])) := by rw [hxl9]; exact hown
              obtain ⟨A9', c9', e9, hle9, hrd9⟩ := bI (enc := fun x : Int => Value.int .i64 x) (d := 0) hown2
              injection e9 with e9a _ e9c
              subst e9a e9c
              obtain ⟨kb, hkb⟩ : ∃ kb, rightB rs rem kid (x ++ [v]) = kb := ⟨_, rfl⟩
              have hcall := IH.out (some ad0) c0 ds A1 c1 rs Akk ckk kid A9 c9 (x ++ [v]) w1 (by rw [hxl9]; exact HREM.out) (by rw [hxl9]; have := HXL.out; omega) (Kd.C_below HR0.out hbw1) (Kd.C_below HR1.out hbw1) (Kd.C_below hck2 hbr1) hlk (Kd.C_of_reads hrd9) hle9 (fun e => by
                obtain ⟨_, e', _⟩ := hrd9.2.2 (by omega)
                rw [e] at e'; cases e') HOK.out HDL.out
              rw [hkb, hxl9] at hcall
              have HRUN := Aside0.mk hrun
              have HCALL := Aside0.mk hcall
              have HBR1 := Aside0.mk hbr1
              have HKB := Aside0.mk hkb
              have hS0 := HSF.out wr.drew HBd1.out
              clear hrun hown hb1 hbr1 hbw1 hown2 hle9 hrd9 hcall hkid hxl9 hkb hv c4 hk0 hk1 hlk hck2 hltk0 hltk1
              go_wp2_with (fail)
              refine dT (n := 17) (S := fun w' => w'.cell? ⟨w.heap.size, 0, none⟩ = some (.slice (some ad0) ds.length c0) ∧ w'.cell? ⟨w.heap.size, 1, none⟩ = some (.slice A1 rs.length c1) ∧ w'.cell? ⟨w.heap.size + 1, 1, none⟩ = some (.slice (some adk) t.f1.length ck) ∧ w'.cell? (adk.add (kk * 2)) = some (.int .i64 kid.f0) ∧ w'.cell? ⟨(adk.add (kk * 2)).block, (adk.add (kk * 2)).off + 1, none⟩ = some (.slice Akk kid.f1.length ckk)) (ds := []) #[false, false, false, false, false, false, false, false, false, false, false, false, false, false, false, false, false] (by kernel_rfl) rfl rfl ⟨hS0.1, hS0.2.1, hS0.2.2.1, hS0.2.2.2.1, hS0.2.2.2.2⟩ (fun hHeld => ?_)
              refine cU tab8r (fun HT_ => ?_)
              refine bc (i := 1) (N := some 73) (v := ?_) (a' := ?_) #[false, true, false, false, false, false, false, false, false, false, false, false, false, false, false, false, false] rfl rfl (aH HT_.out (by kernel_rfl)) (fun _ _ _ h => h) (Or.inl ⟨by rfl, ?_⟩) ?_ ?_
              rotate_left
              · intro w'
                go_simp
                with_reducible rfl
              rotate_left
              · simp only [Act.put, List.setIfInBounds_toArray, List.set_cons_zero, List.set_cons_succ, aq, ar]
                rfl
              refine bc (i := 3) (N := some 75) (v := ?_) (a' := ?_) #[false, true, false, true, false, false, false, false, false, false, false, false, false, false, false, false, false] rfl rfl (aH HT_.out (by kernel_rfl)) (fun _ _ _ h => h) (Or.inl ⟨by rfl, ?_⟩) ?_ ?_
              rotate_left
              · intro w'
                go_simp
                with_reducible rfl
              rotate_left
              · simp only [Act.put, List.setIfInBounds_toArray, List.set_cons_zero, List.set_cons_succ, aq, ar]
                rfl
              refine bc (i := 6) (N := some 78) (v := ?_) (a' := ?_) #[false, true, false, true, false, false, true, false, false, false, false, false, false, false, false, false, false] rfl rfl (aH HT_.out (by kernel_rfl)) (fun _ _ _ h => h) (Or.inl ⟨by rfl, ?_⟩) ?_ ?_
              rotate_left
              · intro w'
                go_simp
                with_reducible rfl
              rotate_left
              · simp only [Act.put, List.setIfInBounds_toArray, List.set_cons_zero, List.set_cons_succ, aq, ar]
                rfl
              refine bc (i := 7) (N := some 79) (v := ?_) (a' := ?_) #[false, true, false, true, false, false, true, true, false, false, false, false, false, false, false, false, false] rfl rfl (aH HT_.out (by kernel_rfl)) (fun _ _ _ h => h) (Or.inl ⟨by rfl, ?_⟩) ?_ ?_
              rotate_left
              · intro w'
                go_simp
                with_reducible rfl
              rotate_left
              · simp only [Act.put, List.setIfInBounds_toArray, List.set_cons_zero, List.set_cons_succ, aq, ar]
                rfl
              refine bc (i := 8) (N := some 80) (v := ?_) (a' := ?_) #[false, true, false, true, false, false, true, true, true, false, false, false, false, false, false, false, false] rfl rfl (aH HT_.out (by kernel_rfl)) (fun _ _ _ h => h) (Or.inl ⟨by rfl, ?_⟩) ?_ ?_
              rotate_left
              · intro w'
                go_simp
                with_reducible rfl
              rotate_left
              · simp only [Act.put, List.setIfInBounds_toArray, List.set_cons_zero, List.set_cons_succ, aq, ar]
                rfl
              refine bc (i := 9) (N := some 81) (v := ?_) (a' := ?_) #[false, true, false, true, false, false, true, true, true, true, false, false, false, false, false, false, false] rfl rfl (aH HT_.out (by kernel_rfl)) (fun _ _ _ h => h) (Or.inl ⟨by rfl, ?_⟩) ?_ ?_
              rotate_left
              · intro w'
                go_simp
                with_reducible rfl
              rotate_left
              · simp only [Act.put, List.setIfInBounds_toArray, List.set_cons_zero, List.set_cons_succ, aq, ar]
                rfl
              refine bc (i := 10) (N := some 82) (v := ?_) (a' := ?_) #[false, true, false, true, false, false, true, true, true, true, true, false, false, false, false, false, false] rfl rfl (aH HT_.out (by kernel_rfl)) (fun _ _ _ h => h) (Or.inl ⟨by rfl, ?_⟩) ?_ ?_
              rotate_left
              · intro w'
                go_simp
                with_reducible rfl
              rotate_left
              · simp only [Act.put, List.setIfInBounds_toArray, List.set_cons_zero, List.set_cons_succ, aq, ar]
                rfl
              refine bc (i := 11) (N := some 83) (v := ?_) (a' := ?_) #[false, true, false, true, false, false, true, true, true, true, true, true, false, false, false, false, false] rfl rfl (aH HT_.out (by kernel_rfl)) (fun _ _ _ h => h) (Or.inl ⟨by rfl, ?_⟩) ?_ ?_
              rotate_left
              · intro w'
                go_simp
                with_reducible rfl
              rotate_left
              · simp only [Act.put, List.setIfInBounds_toArray, List.set_cons_zero, List.set_cons_succ, aq, ar]
                rfl
              refine bc (i := 12) (N := some 84) (v := ?_) (a' := ?_) #[false, true, false, true, false, false, true, true, true, true, true, true, true, false, false, false, false] rfl rfl (aH HT_.out (by kernel_rfl)) (fun _ _ _ h => h) (Or.inl ⟨by rfl, ?_⟩) ?_ ?_
              rotate_left
              · intro w'
                go_simp
                with_reducible rfl
              rotate_left
              · simp only [Act.put, List.setIfInBounds_toArray, List.set_cons_zero, List.set_cons_succ, aq, ar]
                rfl
              refine take_ (i := 0) (N := some 72) (v := ?_) (a' := ?_) #[true, true, false, true, false, false, true, true, true, true, true, true, true, false, false, false, false] rfl rfl (bE HT_.out (by kernel_rfl)) (fun _ _ _ h => h) (Or.inl ⟨by rfl, ?_⟩) hHeld ?_ ?_
              rotate_left
              · rintro w' ⟨s0, s1, s2, s3, s4⟩
                go_simp
                with_reducible rfl
              rotate_left
              · simp only [Act.put, List.setIfInBounds_toArray, List.set_cons_zero, List.set_cons_succ, aq, ar]
                rfl
              refine take_ (i := 2) (N := some 74) (v := ?_) (a' := ?_) #[true, true, true, true, false, false, true, true, true, true, true, true, true, false, false, false, false] rfl rfl (bE HT_.out (by kernel_rfl)) (fun _ _ _ h => h) (Or.inl ⟨by rfl, ?_⟩) hHeld ?_ ?_
              rotate_left
              · rintro w' ⟨s0, s1, s2, s3, s4⟩
                go_simp
                with_reducible rfl
              rotate_left
              · simp only [Act.put, List.setIfInBounds_toArray, List.set_cons_zero, List.set_cons_succ, aq, ar]
                rfl
              refine bc (i := 4) (N := some 76) (v := ?_) (a' := ?_) #[true, true, true, true, true, false, true, true, true, true, true, true, true, false, false, false, false] rfl rfl (aH HT_.out (by kernel_rfl)) (fun _ _ _ h => h) (Or.inl ⟨by rfl, ?_⟩) ?_ ?_
              rotate_left
              · intro w'
                go_simp
                with_reducible rfl
              rotate_left
              · simp only [Act.put, List.setIfInBounds_toArray, List.set_cons_zero, List.set_cons_succ, aq, ar]
                rfl
              refine take_ (i := 5) (N := some 77) (v := ?_) (a' := ?_) #[true, true, true, true, true, true, true, true, true, true, true, true, true, false, false, false, false] rfl rfl (bE HT_.out (by kernel_rfl)) (fun _ _ _ h => h) (Or.inl ⟨by rfl, ?_⟩) hHeld ?_ ?_
              rotate_left
              · rintro w' ⟨s0, s1, s2, s3, s4⟩
                go_simp
                with_reducible rfl
              rotate_left
              · simp only [Act.put, List.setIfInBounds_toArray, List.set_cons_zero, List.set_cons_succ, aq, ar]
                rfl
              refine fz (i := 13) (N := some 85) #[true, true, true, true, true, true, true, true, true, true, true, true, true, true, false, false, false] rfl rfl (bB HT_.out (by kernel_rfl)) (by decide) (fun K hK => ?_)
              refine cq (w1 := wr.drew.alloc (.cells #[.int .i64 v] 3)) (v := .slice (some ⟨wr.drew.heap.size, 0, none⟩) 1 1) rfl (by first | (go_simp; done) | (go_simp; rfl)) ?_
              refine hK.out _ _ (HSF.out _ (a6 HBd1.out _)) (fun hHeld => ?_)
              clear hK K
              refine co (a' := ?_) ?_ ?_
              rotate_left
              · show Act.put _ (some 85) _ = _
                simp only [Act.put, List.setIfInBounds_toArray, List.set_cons_zero, List.set_cons_succ, aq, ar]
                rfl
              refine fz (i := 14) (N := some 86) #[true, true, true, true, true, true, true, true, true, true, true, true, true, true, true, false, false] rfl rfl (bB HT_.out (by kernel_rfl)) (by decide) (fun K hK => ?_)
              refine dD rfl (.tmp 83) (.tmp 85) 26 rfl (.slice Ax x.length x.length) (.slice (some ⟨wr.drew.heap.size, 0, none⟩) 1 1) rfl rfl HRUN.out ?_
              refine hK.out _ _ (HSF.out _ HBR1.out) (fun hHeld => ?_)
              clear hK K
              refine co (a' := ?_) ?_ ?_
              rotate_left
              · show Act.put _ (some 86) _ = _
                simp only [Act.put, List.setIfInBounds_toArray, List.set_cons_zero, List.set_cons_succ, aq, ar]
                rfl
              refine fz (i := 15) (N := some 87) #[true, true, true, true, true, true, true, true, true, true, true, true, true, true, true, true, false] rfl rfl (bB HT_.out (by kernel_rfl)) (by decide) (fun K hK => ?_)
              refine goes_ Try.func43 (by kernel_rfl) rfl #[.agg #[.slice (some ad0) ds.length c0, .slice A1 rs.length c1], .agg #[.int .i64 kid.f0, .slice Akk kid.f1.length ckk], .slice A9 (x.length + 1) c9] (by rfl) rfl rfl (by (try simp only [List.map_toArray, List.map_cons, List.map_nil]); first | done | rfl) ?_
              refine HCALL.out.mono ?_
              rintro e w2 ⟨rfl, hb2⟩
              refine ⟨_, rfl, ?_⟩
              have HB3 := Aside0.mk (show Below wr.heap.size wr w2 from HBR1.out.trans (hb2.mono HBR1.out.size))
              clear hb2
              refine hK.out _ _ (HSF.out _ HB3.out) (fun hHeld => ?_)
              clear hK K
              refine co (a' := ?_) ?_ ?_
              rotate_left
              · show Act.put _ (some 87) _ = _
                simp only [Act.put, List.setIfInBounds_toArray, List.set_cons_zero, List.set_cons_succ, aq, ar]
                rfl
              cases kb with
              | true =>
                refine bc (i := 16) (N := some 88) (v := ?_) (a' := ?_) #[true, true, true, true, true, true, true, true, true, true, true, true, true, true, true, true, true] rfl rfl (aH HT_.out (by kernel_rfl)) (fun _ _ _ h => h) (Or.inl ⟨by rfl, ?_⟩) ?_ ?_
                rotate_left
                · intro w'
                  go_simp
                  with_reducible rfl
                rotate_left
                · simp only [Act.put, List.setIfInBounds_toArray, List.set_cons_zero, List.set_cons_succ, aq, ar]
                  rfl
                refine fX (cK HT_.out (by kernel_rfl)) ?_
                clear hHeld HT_ hS0
                go_wp2_with (fail)
                go_roundg (d.length - (kk + 1))
                case measure => have := HG.out; have := HC.out; omega
                case rel =>
                  have hdm := HDM.out; have hc := HC.out
                  exact ⟨kk + 1, by rw [wr64 _ (by omega) (by omega)]; rfl, ⟨HC.out⟩, ⟨by omega⟩, ⟨fun i hi => by
                    rcases Nat.lt_or_eq_of_le (Nat.le_of_lt_succ hi) with h | rfl
                    · exact HT.out i h
                    · rw [HKD.out, HV.out]; exact HKB.out⟩, ⟨HB.out.trans (HB3.out.mono HB.out.size)⟩⟩
              | false =>
                refine bc (i := 16) (N := some 88) (v := ?_) (a' := ?_) #[true, true, true, true, true, true, true, true, true, true, true, true, true, true, true, true, true] rfl rfl (aH HT_.out (by kernel_rfl)) (fun _ _ _ h => h) (Or.inl ⟨by rfl, ?_⟩) ?_ ?_
                rotate_left
                · intro w'
                  go_simp
                  with_reducible rfl
                rotate_left
                · simp only [Act.put, List.setIfInBounds_toArray, List.set_cons_zero, List.set_cons_succ, aq, ar]
                  rfl
                refine fX (cK HT_.out (by kernel_rfl)) ?_
                clear hHeld HT_ hS0
                go_wp2_with (fail)
                go_ret
                refine ⟨?_, HBw.out.trans (HB3.out.mono HBw.out.size)⟩
                rw [show ((List.range d.length).all fun i => rightB rs rem (bj t.f1 (i : Int)) (x ++ [rd d (i : Int)])) = false from by
                  rw [Bool.eq_false_iff]
                  intro ha
                  rw [List.all_eq_true] at ha
                  have h := ha kk (List.mem_range.mpr HC.out)
                  rw [HKD.out, HV.out, HKB.out] at h
                  cases h]
                rfl
            · have c4b : decide ((kk : Int) < (d.length : Int)) = false := decide_eq_false (by omega)
              have c4n : decide (kk < d.length) = false := decide_eq_false c4
              have HC := Aside0.mk c4
              clear c4
              go_wp2_with (fail)
              go_ret
              refine ⟨?_, by repeat (first | exact HBw.out | apply a4 | apply a5)⟩
              rw [List.all_eq_true.mpr (fun i hi => HT.out i (by have := HC.out; have := HK.out; have := List.mem_range.mp hi; omega))]
              rfl
        · have g3 : ((t.f1.length : Int) != (d.length : Int)) = true := bne_iff_ne.mpr (by omega)
          have g3b : (t.f1.length != d.length) = true := bne_iff_ne.mpr h3
          rw [show rightB rs (d :: rem) t x = false from by show (if 0 ≤ t.f0 then _ else _) = _; rw [if_neg h0, if_pos (.inr h3)]]
          rw [hf0]
          replace p0 := eq_true p0
          replace q0 := eq_true q0
          clear hr0 hr1 hrk hrx hcx hok h0 h1 hrem hxl hck hAx hdl hf0 hxl2 hrem2 hd hrow hl0 hc0 hx0W ih h3
          go_enter Try.func43, Try.ntmps43
          go_wp2_with (fail)
          go_quiet (fail)
          go_wp2_with (fail)
          go_ret
          exact ⟨rfl, by repeat (first | exact HB0.out | apply a4 | apply a5)⟩
end DF
end Go.Proofs.Ytcbpkdemcdikaaa.X
namespace Go.Proofs.Ytcbpkdemcdikaaa.X
open Go.RowKit Go.Proofs.YtcbpkdemcdikaaaW.PrintWords Go.Proofs.YtcbpkdemcdikaaaW.PrintLast Go.Proofs.YtcbpkdemcdikaaaW.PrintMore
attribute [local go_sem] ay az aN aM ao ap aw ax   
set_option linter.unusedVariables false
set_option linter.unusedSimpArgs false
def search_right.f (ai : List (List Int)) (af : List (S49)) (cG : Int) (bL : List (S39)) (l2 : List Int) : Option (Bool) :=
 if af.all SF.okB && decide (ai.length ≤ 1000) && decide (l2 = []) then some (DF.rightB af ai ⟨cG, bL⟩ []) else none
theorem search_right.calls (aC : Option Addr) (aA : Nat) (ai : List (List Int)) (aI : Option Addr) (au : Nat) (af : List (S49)) (cG : Int) (A1_1 : Option Addr) (fq : Nat) (bL : List (S39)) (A2 : Option Addr) (c2 : Nat) (l2 : List Int) (r : Bool) (w : World) (bA : Kd.C (Kd.slice 3 (Kd.int .i64)) w aC ai.length ai) (bJ : ai.length ≤ aA) (bx : Kd.C k49 w aI af.length af) (bC : af.length ≤ au) (hr1_1 : Kd.C k39 w A1_1 bL.length bL) (hc1_1 : bL.length ≤ fq) (hr2 : Kd.C (Kd.int .i64) w A2 l2.length l2) (hc2 : l2.length ≤ c2) (h : search_right.f ai af cG bL l2 = some r) :
  Calls Try.prog 43 #[.agg #[.slice aC ai.length aA, .slice aI af.length au], .agg #[.int .i64 cG, .slice A1_1 bL.length fq], .slice A2 l2.length c2] w fun e w' => e = .returned (.bool r) ∧ Below w.heap.size w w' := by
 unfold search_right.f at h
 split at h
 ·rename_i hk
  simp only [Bool.and_eq_true, decide_eq_true_eq, List.all_eq_true] at hk
  obtain ⟨⟨h1, h2⟩, h4⟩ := hk
  subst h4
  cases h
  exact DF.right_ok ai aC aA ai aI au af A1_1 fq ⟨cG, bL⟩ A2 c2 [] w rfl (Nat.zero_le _) bA bx hr1_1 hc1_1 hr2 hc2 (fun _ => rfl) (fun r hr => SF.okB_R (h1 r hr)) h2
 ·cases h
def search_Accepts.f (k : Nat) (ai : List (List Int)) (af : List (S49)) (cG : Int) (bL : List (S39)) : Option (Bool × Int) := (search_Check.f k ai af).bind fun t154 => (if t154 = 0 then ((search_right.f ai af cG bL ([] : List Int)).bind fun t155 => (some (t155, 0))) else (some (false, t154)))
set_option maxHeartbeats 8000000 in
set_option maxRecDepth 100000 in
theorem search_Accepts.calls (k : Nat) (aC : Option Addr) (aA : Nat) (ai : List (List Int)) (aI : Option Addr) (au : Nat) (af : List (S49)) (cG : Int) (A1_1 : Option Addr) (fq : Nat) (bL : List (S39)) (r1 : Bool) (r2 : Int) (w : World) (bA : Kd.C (Kd.slice 3 (Kd.int .i64)) w aC ai.length ai) (bJ : ai.length ≤ aA) (bx : Kd.C k49 w aI af.length af) (bC : af.length ≤ au) (hr1_1 : Kd.C k39 w A1_1 bL.length bL) (hc1_1 : bL.length ≤ fq) (h : search_Accepts.f k ai af cG bL = some (r1, r2)) :
  Calls Try.prog 22 #[.agg #[.slice aC ai.length aA, .slice aI af.length au], .agg #[.int .i64 cG, .slice A1_1 bL.length fq]] w fun e w' => e = .returned (.tuple #[.bool r1, .int .i64 r2]) ∧ Below w.heap.size w w' := by
 have hu25 := Try.underlying25
 have hu39 := Try.underlying39
 have bz := Aside0.mk bA
 have bG := Aside0.mk bJ
 clear bA bJ
 have br := Aside0.mk bx
 have bF := Aside0.mk bC
 clear bx bC
 have HR1_1 := Aside0.mk hr1_1
 have HC1_1 := Aside0.mk hc1_1
 clear hr1_1 hc1_1
 have HB := Aside0.mk (Below.refl w.heap.size w)
 have H : ((search_Check.f k ai af).bind fun t154 => (if t154 = 0 then ((search_right.f ai af cG bL ([] : List Int)).bind fun t155 => (some (t155, 0))) else (some (false, t154)))) = some (r1, r2) := h
 clear h
 replace H := Option.bind_eq_some_iff.mp H
 obtain ⟨t154, A30, H⟩ := H
 replace H : (if t154 = 0 then ((search_right.f ai af cG bL ([] : List Int)).bind fun t155 => (some (t155, 0))) else (some (false, t154))) = some (r1, r2) := H
 have A3 := Aside0.mk A30
 clear A30
 by_cases c4 : t154 = 0
 ·rw [if_pos c4] at H
  have eb : (t154 == 0) = true := beq_iff_eq.mpr c4
  have c4b1 : (t154 != 0) = false := bne_eq_false_iff_eq.mpr c4
  clear c4
  replace H := Option.bind_eq_some_iff.mp H
  obtain ⟨t155, A50, H⟩ := H
  replace H : (some (t155, 0)) = some (r1, r2) := H
  have A5 := Aside0.mk A50
  clear A50
  simp only [Option.some.injEq, Prod.mk.injEq] at H
  obtain ⟨rfl, rfl⟩ := H
  go_enter Try.func22, Try.ntmps22
  go_wp2_with (first | ((with_reducible refine aK (N := 2) rfl ?_); refine av ?hg (N := 2) ?hd (cs := #[.slice aC ai.length aA, .slice aI af.length au]) (t := 25) ?hr ?_; (case hd => rfl); (case hg => rfl); (case hr => first | (go_simp; done) | (go_simp; rfl)); intro cI hg w6 hbox hb; have n0_ := Aside0.mk (aj (by repeat (first | (with_reducible first | exact HB.out | apply a6 | apply a4 | apply a5) | exact HB.out)) hb); have n1_ := Aside0.mk (hbox); have n2_ := Aside0.mk ((by rw [hg]; exact (ah (by repeat (first | (with_reducible first | exact HB.out | apply a6 | apply a4 | apply a5) | exact HB.out))) : w.heap.size ≤ cI)); have n3_ := Aside0.mk ((by rw [hg]; exact (ah (by repeat (first | (with_reducible first | exact HB.out | apply a6 | apply a4 | apply a5) | exact HB.out))) : w.heap.size ≤ cI)); clear HB; have HB := n0_; have bR := n1_; have GW152 := n2_; have fx := n3_; clear n0_ n1_ n2_ n3_; clear hb hbox hg) | ((with_reducible refine aK (N := 3) rfl ?_); refine av ?hg (N := 3) ?hd (cs := #[.int .i64 cG, .slice A1_1 bL.length fq]) (t := 39) ?hr ?_; (case hd => rfl); (case hg => rfl); (case hr => first | (go_simp; done) | (go_simp; rfl)); intro eX hg w7 hbox hb; have n0_ := Aside0.mk (ae (g := cI) (o := .cells #[.slice aC ai.length aA, .slice aI af.length au] 25 (0, 0)) (by (with_reducible repeat (first | refine ab ?_ _ | refine ac ?_ | refine a9 ?_ _)); exact bR.out) hb); have n1_ := Aside0.mk (aj (by repeat (first | (with_reducible first | exact HB.out | apply a6 | apply a4 | apply a5 | refine aa ?_ fx.out) | exact HB.out)) hb); have n2_ := Aside0.mk (hbox); have n3_ := Aside0.mk ((by rw [hg]; exact (ah (by repeat (first | (with_reducible first | exact HB.out | apply a6 | apply a4 | apply a5 | refine aa ?_ fx.out) | exact HB.out))) : w.heap.size ≤ eX)); have n4_ := Aside0.mk ((by rw [hg]; exact (ah (by repeat (first | (with_reducible first | exact HB.out | apply a6 | apply a4 | apply a5 | refine aa ?_ fx.out) | exact HB.out))) : w.heap.size ≤ eX)); have n5_ := Aside0.mk ((by rw [hg]; exact Nat.ne_of_lt (aZ (g := cI) (o := .cells #[.slice aC ai.length aA, .slice aI af.length au] 25 (0, 0)) (by (with_reducible repeat (first | refine ab ?_ _ | refine ac ?_ | refine a9 ?_ _)); exact bR.out)) : cI ≠ eX)); have n6_ := Aside0.mk ((by rw [hg]; exact Nat.ne_of_gt (aZ (g := cI) (o := .cells #[.slice aC ai.length aA, .slice aI af.length au] 25 (0, 0)) (by (with_reducible repeat (first | refine ab ?_ _ | refine ac ?_ | refine a9 ?_ _)); exact bR.out)) : eX ≠ cI)); clear bR; clear HB; have bR := n0_; have HB := n1_; have eY := n2_; have GW153 := n3_; have GE153 := n4_; have NB152_153 := n5_; have NB153_152 := n6_; clear n0_ n1_ n2_ n3_ n4_ n5_ n6_; clear hb hbox hg; have hnb8 := NB152_153.out; have hnc8 := NB153_152.out; have d7 : w7.cell? ⟨cI, 0, none⟩ = some (.slice aC ai.length aA) := (a7 bR.out 0).trans rfl; have d8 : w7.cell? ⟨cI, 1, none⟩ = some (.slice aI af.length au) := (a7 bR.out 1).trans rfl; have d9 := a8 bR.out 0; have da := a8 bR.out 1) | ((with_reducible refine aE (f := 17) rfl ?_); refine bw (some 7) rfl rfl Try.func17 (by kernel_rfl) rfl #[.agg #[.slice aC ai.length aA, .slice aI af.length au]] rfl (by (try simp only [List.map_toArray, List.map_cons, List.map_nil]); first | done | rfl | (simp only [List.length_drop, List.length_take]; rfl)) ?_; (with_reducible refine (search_Check.calls k _ _ ai _ _ af t154 _ ?side1 ?side2 ?side3 ?side4 A3.out).mono ?_); (case side1 => repeat (first | exact (Kd.C_below bz.out HB.out) | (with_reducible refine Kd.C_alloc ?_ _) | (with_reducible refine Kd.C_drewN ?_ _) | (with_reducible refine Kd.C_drew ?_))); (case side2 => exact bG.out); (case side3 => repeat (first | exact (Kd.C_below br.out HB.out) | (with_reducible refine Kd.C_alloc ?_ _) | (with_reducible refine Kd.C_drewN ?_ _) | (with_reducible refine Kd.C_drew ?_))); (case side4 => exact bF.out); rintro e w10 ⟨rfl, hb⟩; refine ⟨_, rfl, ?_⟩; have n0_ := Aside0.mk (ae (g := cI) (o := .cells #[.slice aC ai.length aA, .slice aI af.length au] 25 (0, 0)) (by (with_reducible repeat (first | refine ab ?_ _ | refine ac ?_ | refine a9 ?_ _)); exact bR.out) hb); have n1_ := Aside0.mk (ae (g := eX) (o := .cells #[.int .i64 cG, .slice A1_1 bL.length fq] 39 (0, 0)) (by (with_reducible repeat (first | refine ab ?_ _ | refine ac ?_ | refine a9 ?_ _)); exact eY.out) hb); have n2_ := Aside0.mk (aj (by repeat (first | (with_reducible first | exact HB.out | apply a6 | apply a4 | apply a5 | refine aa ?_ fx.out | refine aa ?_ GE153.out) | exact HB.out)) hb); clear bR; clear eY; clear HB; have bR := n0_; have eY := n1_; have HB := n2_; clear n0_ n1_ n2_; (try clear hb); (try clear hb2); (try clear hk); (try clear hi); have bS : w10.cell? ⟨cI, 0, none⟩ = some (.slice aC ai.length aA) := (a7 bR.out 0).trans rfl; have bT : w10.cell? ⟨cI, 1, none⟩ = some (.slice aI af.length au) := (a7 bR.out 1).trans rfl; have bU := a8 bR.out 0; have bV := a8 bR.out 1; have dh : w10.cell? ⟨eX, 0, none⟩ = some (.int .i64 cG) := (a7 eY.out 0).trans rfl; have di : w10.cell? ⟨eX, 1, none⟩ = some (.slice A1_1 bL.length fq) := (a7 eY.out 1).trans rfl; have dj := a8 eY.out 0; have dk := a8 eY.out 1) | ((with_reducible refine aE (f := 43) rfl ?_); refine bw (some 13) rfl rfl Try.func43 (by kernel_rfl) rfl #[.agg #[.slice aC ai.length aA, .slice aI af.length au], .agg #[.int .i64 cG, .slice A1_1 bL.length fq], .slice none 0 0] rfl (by (try simp only [List.map_toArray, List.map_cons, List.map_nil]); first | done | rfl | (simp only [List.length_drop, List.length_take]; rfl)) ?_; (refine (search_right.calls _ _ ai _ _ af cG _ _ bL _ _ ([] : List Int) t155 _ ?side1 ?side2 ?side3 ?side4 ?side5 ?side6 ?side7 ?side8 A5.out).mono ?_); (case side1 => repeat (first | exact (Kd.C_below bz.out HB.out) | (with_reducible refine Kd.C_alloc ?_ _) | (with_reducible refine Kd.C_drewN ?_ _) | (with_reducible refine Kd.C_drew ?_))); (case side2 => exact bG.out); (case side3 => repeat (first | exact (Kd.C_below br.out HB.out) | (with_reducible refine Kd.C_alloc ?_ _) | (with_reducible refine Kd.C_drewN ?_ _) | (with_reducible refine Kd.C_drew ?_))); (case side4 => exact bF.out); (case side5 => repeat (first | exact (Kd.C_below HR1_1.out HB.out) | (with_reducible refine Kd.C_alloc ?_ _) | (with_reducible refine Kd.C_drewN ?_ _) | (with_reducible refine Kd.C_drew ?_))); (case side6 => exact HC1_1.out); (case side7 => exact Kd.C_nil _ _); (case side8 => exact Nat.le_refl _); rintro e w13 ⟨rfl, hb⟩; refine ⟨_, rfl, ?_⟩; have n0_ := Aside0.mk (ae (g := cI) (o := .cells #[.slice aC ai.length aA, .slice aI af.length au] 25 (0, 0)) (by (with_reducible repeat (first | refine ab ?_ _ | refine ac ?_ | refine a9 ?_ _)); exact bR.out) hb); have n1_ := Aside0.mk (ae (g := eX) (o := .cells #[.int .i64 cG, .slice A1_1 bL.length fq] 39 (0, 0)) (by (with_reducible repeat (first | refine ab ?_ _ | refine ac ?_ | refine a9 ?_ _)); exact eY.out) hb); have n2_ := Aside0.mk (aj (by repeat (first | (with_reducible first | exact HB.out | apply a6 | apply a4 | apply a5 | refine aa ?_ fx.out | refine aa ?_ GE153.out) | exact HB.out)) hb); clear bR; clear eY; clear HB; have bR := n0_; have eY := n1_; have HB := n2_; clear n0_ n1_ n2_; (try clear hb); (try clear hb2); (try clear hk); (try clear hi)))
  go_ret2
  exact ⟨by first | rfl | (simp [al, ak] <;> rfl) | (simp [*, al, ak] <;> rfl), by repeat (first | (with_reducible first | exact HB.out | apply a6 | apply a4 | apply a5 | refine aa ?_ fx.out | refine aa ?_ GE153.out) | exact HB.out)⟩
 ·rw [if_neg c4] at H
  have eb : (t154 == 0) = false := beq_eq_false_iff_ne.mpr c4
  have c4b1 : (t154 != 0) = true := bne_iff_ne.mpr c4
  simp only [Option.some.injEq, Prod.mk.injEq] at H
  obtain ⟨rfl, rfl⟩ := H
  go_enter Try.func22, Try.ntmps22
  go_wp2_with (first | ((with_reducible refine aK (N := 2) rfl ?_); refine av ?hg (N := 2) ?hd (cs := #[.slice aC ai.length aA, .slice aI af.length au]) (t := 25) ?hr ?_; (case hd => rfl); (case hg => rfl); (case hr => first | (go_simp; done) | (go_simp; rfl)); intro cI hg w14 hbox hb; have n0_ := Aside0.mk (aj (by repeat (first | (with_reducible first | exact HB.out | apply a6 | apply a4 | apply a5) | exact HB.out)) hb); have n1_ := Aside0.mk (hbox); have n2_ := Aside0.mk ((by rw [hg]; exact (ah (by repeat (first | (with_reducible first | exact HB.out | apply a6 | apply a4 | apply a5) | exact HB.out))) : w.heap.size ≤ cI)); have n3_ := Aside0.mk ((by rw [hg]; exact (ah (by repeat (first | (with_reducible first | exact HB.out | apply a6 | apply a4 | apply a5) | exact HB.out))) : w.heap.size ≤ cI)); clear HB; have HB := n0_; have bR := n1_; have GW152 := n2_; have fx := n3_; clear n0_ n1_ n2_ n3_; clear hb hbox hg) | ((with_reducible refine aK (N := 3) rfl ?_); refine av ?hg (N := 3) ?hd (cs := #[.int .i64 cG, .slice A1_1 bL.length fq]) (t := 39) ?hr ?_; (case hd => rfl); (case hg => rfl); (case hr => first | (go_simp; done) | (go_simp; rfl)); intro eX hg w15 hbox hb; have n0_ := Aside0.mk (ae (g := cI) (o := .cells #[.slice aC ai.length aA, .slice aI af.length au] 25 (0, 0)) (by (with_reducible repeat (first | refine ab ?_ _ | refine ac ?_ | refine a9 ?_ _)); exact bR.out) hb); have n1_ := Aside0.mk (aj (by repeat (first | (with_reducible first | exact HB.out | apply a6 | apply a4 | apply a5 | refine aa ?_ fx.out) | exact HB.out)) hb); have n2_ := Aside0.mk (hbox); have n3_ := Aside0.mk ((by rw [hg]; exact (ah (by repeat (first | (with_reducible first | exact HB.out | apply a6 | apply a4 | apply a5 | refine aa ?_ fx.out) | exact HB.out))) : w.heap.size ≤ eX)); have n4_ := Aside0.mk ((by rw [hg]; exact (ah (by repeat (first | (with_reducible first | exact HB.out | apply a6 | apply a4 | apply a5 | refine aa ?_ fx.out) | exact HB.out))) : w.heap.size ≤ eX)); have n5_ := Aside0.mk ((by rw [hg]; exact Nat.ne_of_lt (aZ (g := cI) (o := .cells #[.slice aC ai.length aA, .slice aI af.length au] 25 (0, 0)) (by (with_reducible repeat (first | refine ab ?_ _ | refine ac ?_ | refine a9 ?_ _)); exact bR.out)) : cI ≠ eX)); have n6_ := Aside0.mk ((by rw [hg]; exact Nat.ne_of_gt (aZ (g := cI) (o := .cells #[.slice aC ai.length aA, .slice aI af.length au] 25 (0, 0)) (by (with_reducible repeat (first | refine ab ?_ _ | refine ac ?_ | refine a9 ?_ _)); exact bR.out)) : eX ≠ cI)); clear bR; clear HB; have bR := n0_; have HB := n1_; have eY := n2_; have GW153 := n3_; have GE153 := n4_; have NB152_153 := n5_; have NB153_152 := n6_; clear n0_ n1_ n2_ n3_ n4_ n5_ n6_; clear hb hbox hg; have hnb16 := NB152_153.out; have hnc16 := NB153_152.out; have gn : w15.cell? ⟨cI, 0, none⟩ = some (.slice aC ai.length aA) := (a7 bR.out 0).trans rfl; have gp : w15.cell? ⟨cI, 1, none⟩ = some (.slice aI af.length au) := (a7 bR.out 1).trans rfl; have gt := a8 bR.out 0; have gu := a8 bR.out 1) | ((with_reducible refine aE (f := 17) rfl ?_); refine bw (some 7) rfl rfl Try.func17 (by kernel_rfl) rfl #[.agg #[.slice aC ai.length aA, .slice aI af.length au]] rfl (by (try simp only [List.map_toArray, List.map_cons, List.map_nil]); first | done | rfl | (simp only [List.length_drop, List.length_take]; rfl)) ?_; (with_reducible refine (search_Check.calls k _ _ ai _ _ af t154 _ ?side1 ?side2 ?side3 ?side4 A3.out).mono ?_); (case side1 => repeat (first | exact (Kd.C_below bz.out HB.out) | (with_reducible refine Kd.C_alloc ?_ _) | (with_reducible refine Kd.C_drewN ?_ _) | (with_reducible refine Kd.C_drew ?_))); (case side2 => exact bG.out); (case side3 => repeat (first | exact (Kd.C_below br.out HB.out) | (with_reducible refine Kd.C_alloc ?_ _) | (with_reducible refine Kd.C_drewN ?_ _) | (with_reducible refine Kd.C_drew ?_))); (case side4 => exact bF.out); rintro e w18 ⟨rfl, hb⟩; refine ⟨_, rfl, ?_⟩; have n0_ := Aside0.mk (ae (g := cI) (o := .cells #[.slice aC ai.length aA, .slice aI af.length au] 25 (0, 0)) (by (with_reducible repeat (first | refine ab ?_ _ | refine ac ?_ | refine a9 ?_ _)); exact bR.out) hb); have n1_ := Aside0.mk (ae (g := eX) (o := .cells #[.int .i64 cG, .slice A1_1 bL.length fq] 39 (0, 0)) (by (with_reducible repeat (first | refine ab ?_ _ | refine ac ?_ | refine a9 ?_ _)); exact eY.out) hb); have n2_ := Aside0.mk (aj (by repeat (first | (with_reducible first | exact HB.out | apply a6 | apply a4 | apply a5 | refine aa ?_ fx.out | refine aa ?_ GE153.out) | exact HB.out)) hb); clear bR; clear eY; clear HB; have bR := n0_; have eY := n1_; have HB := n2_; clear n0_ n1_ n2_; (try clear hb); (try clear hb2); (try clear hk); (try clear hi)))
  go_ret2
  exact ⟨by first | rfl | (simp [al, ak] <;> rfl) | (simp [*, al, ak] <;> rfl), by repeat (first | (with_reducible first | exact HB.out | apply a6 | apply a4 | apply a5 | refine aa ?_ fx.out | refine aa ?_ GE153.out) | exact HB.out)⟩
mutual
def fastiref15_Same.j0 : Nat → Bool → Int → List (S39) → Int → List (S39) → Option (Bool)
 | 0, _, _, _, _, _ => none
 | k + 1, x19, x157000, fg, x158000, fh => if x19 = true then (some false) else (fastiref15_Same.l0 k 0 x157000 fg x158000 fh)
def fastiref15_Same.l0 : Nat → Int → Int → List (S39) → Int → List (S39) → Option (Bool)
 | 0, _, _, _, _, _ => none
 | k + 1, x5, x157000, fg, x158000, fh => if x5 < (fg.length : Int) then (if 0 ≤ x5 then (if x5 < (fh.length : Int) then ((fastiref15_Same.f k ((bj fg x5).f0) ((bj fg x5).f1) ((bj fh x5).f0) ((bj fh x5).f1)).bind fun t160 => (if t160 = true then (fastiref15_Same.l0 k (wrap64 (x5 + 1)) x157000 fg x158000 fh) else (some false))) else (none)) else (none)) else (some true)
def fastiref15_Same.f : Nat → Int → List (S39) → Int → List (S39) → Option (Bool)
 | 0, _, _, _, _ => none
 | k + 1, cH, af, cG, bL => if cH = cG then (fastiref15_Same.j0 k ((af.length : Int) != (bL.length : Int)) cH af cG bL) else (fastiref15_Same.j0 k true cH af cG bL)
end
def fastiref15_Same.T6 : Bool × List (List Nat × List Nat) := (true, [([], []), ([0], [0]), ([], []), ([1, 2], [1, 2]), ([3], [3]), ([], []), ([5], [5]), ([], []), ([6, 7], [6, 7]), ([8], [8]), ([4, 9], [4, 9]), ([10], [10])])
def fastiref15_Same.B6 : List Nat := [0, 1, 0, 7, 15, 0, 32, 0, 224, 480, 1023, 2047]
theorem fastiref15_Same.tab6 : dd .any (dG Try.f24 6) = fastiref15_Same.T6 := by kernel_rfl
theorem fastiref15_Same.bits6 : fQ fastiref15_Same.T6.2 fastiref15_Same.B6 = true := by kernel_rfl
set_option maxHeartbeats 8000000 in
set_option maxRecDepth 100000 in
theorem fastiref15_Same.calls (k : Nat) : ∀ (cH : Int) (aI : Option Addr) (au : Nat) (af : List (S39)) (cG : Int) (A1_1 : Option Addr) (fq : Nat) (bL : List (S39)) (r : Bool) (w : World) (bx : Kd.C k39 w aI af.length af) (bC : af.length ≤ au) (hr1_1 : Kd.C k39 w A1_1 bL.length bL) (hc1_1 : bL.length ≤ fq) (h : fastiref15_Same.f k cH af cG bL = some r),
  Calls Try.prog 24 #[.agg #[.int .i64 cH, .slice aI af.length au], .agg #[.int .i64 cG, .slice A1_1 bL.length fq]] w fun e w' => e = .returned (.bool r) ∧ Below w.heap.size w w' := by
 induction k using Nat.strongRecOn with
 | _ k ih =>
 intro cH aI au af cG A1_1 fq bL r w bx bC hr1_1 hc1_1 h
 cases k with
 | zero => exact absurd h (by simp [fastiref15_Same.f])
 | succ k =>
 simp only [fastiref15_Same.f] at h
 have hu39 := Try.underlying39
 have br := Aside0.mk bx
 have bF := Aside0.mk bC
 clear bx bC
 have HR1_1 := Aside0.mk hr1_1
 have HC1_1 := Aside0.mk hc1_1
 clear hr1_1 hc1_1
 have HB := Aside0.mk (Below.refl w.heap.size w)
 have H : (if cH = cG then (fastiref15_Same.j0 k ((af.length : Int) != (bL.length : Int)) cH af cG bL) else (fastiref15_Same.j0 k true cH af cG bL)) = some r := h
 clear h
 have HC3 := Aside0.mk H
 clear H
 go_enter Try.func24, Try.ntmps24
 go_upto_region 1 with (first | ((with_reducible refine aK (N := 2) rfl ?_); (try (refine aW (by rfl) ?_; dsimp only)); refine av ?hg (N := 2) ?hd (cs := #[.int .i64 cH, .slice aI af.length au]) (t := 39) ?hr ?_; (case hd => rfl); (case hg => rfl); (case hr => first | (go_simp; done) | (go_simp; rfl)); intro cF hg w4 hbox hb; have n0_ := Aside0.mk (aj (by repeat (first | (with_reducible first | exact HB.out | apply a6 | apply a4 | apply a5) | exact HB.out)) hb); have n1_ := Aside0.mk (hbox); have n2_ := Aside0.mk ((by rw [hg]; exact (ah (by repeat (first | (with_reducible first | exact HB.out | apply a6 | apply a4 | apply a5) | exact HB.out))) : w.heap.size ≤ cF)); have n3_ := Aside0.mk ((by rw [hg]; exact (ah (by repeat (first | (with_reducible first | exact HB.out | apply a6 | apply a4 | apply a5) | exact HB.out))) : w.heap.size ≤ cF)); clear HB; have HB := n0_; have bn := n1_; have GW156 := n2_; have fy := n3_; clear n0_ n1_ n2_ n3_; clear hb hbox hg) | ((with_reducible refine aK (N := 3) rfl ?_); (try (refine aW (by rfl) ?_; dsimp only)); refine av ?hg (N := 3) ?hd (cs := #[.int .i64 cG, .slice A1_1 bL.length fq]) (t := 39) ?hr ?_; (case hd => rfl); (case hg => rfl); (case hr => first | (go_simp; done) | (go_simp; rfl)); intro dS hg w5 hbox hb; have n0_ := Aside0.mk (ae (g := cF) (o := .cells #[.int .i64 cH, .slice aI af.length au] 39 (0, 0)) (by (with_reducible repeat (first | refine ab ?_ _ | refine ac ?_ | refine a9 ?_ _)); exact bn.out) hb); have n1_ := Aside0.mk (aj (by repeat (first | (with_reducible first | exact HB.out | apply a6 | apply a4 | apply a5 | refine aa ?_ fy.out) | exact HB.out)) hb); have n2_ := Aside0.mk (hbox); have n3_ := Aside0.mk ((by rw [hg]; exact (ah (by repeat (first | (with_reducible first | exact HB.out | apply a6 | apply a4 | apply a5 | refine aa ?_ fy.out) | exact HB.out))) : w.heap.size ≤ dS)); have n4_ := Aside0.mk ((by rw [hg]; exact (ah (by repeat (first | (with_reducible first | exact HB.out | apply a6 | apply a4 | apply a5 | refine aa ?_ fy.out) | exact HB.out))) : w.heap.size ≤ dS)); have n5_ := Aside0.mk ((by rw [hg]; exact Nat.ne_of_lt (aZ (g := cF) (o := .cells #[.int .i64 cH, .slice aI af.length au] 39 (0, 0)) (by (with_reducible repeat (first | refine ab ?_ _ | refine ac ?_ | refine a9 ?_ _)); exact bn.out)) : cF ≠ dS)); have n6_ := Aside0.mk ((by rw [hg]; exact Nat.ne_of_gt (aZ (g := cF) (o := .cells #[.int .i64 cH, .slice aI af.length au] 39 (0, 0)) (by (with_reducible repeat (first | refine ab ?_ _ | refine ac ?_ | refine a9 ?_ _)); exact bn.out)) : dS ≠ cF)); clear bn; clear HB; have bn := n0_; have HB := n1_; have bH := n2_; have GW157 := n3_; have GE157 := n4_; have NB156_157 := n5_; have NB157_156 := n6_; clear n0_ n1_ n2_ n3_ n4_ n5_ n6_; clear hb hbox hg))
 (try simp only [Act.put, List.setIfInBounds_toArray, List.set_cons_zero, List.set_cons_succ])
 go_cut [19] (fun v19 wc => ∃ (kq : Nat) (x19_2 : Bool), v19 = .bool x19_2 ∧ Aside0 (fastiref15_Same.j0 kq x19_2 cH af cG bL = some r) ∧ Aside0 (kq ≤ k) ∧ Aside0 (wc.heap[cF]? = some (.cells #[.int .i64 cH, (.slice aI af.length au)] 39 (0, 0))) ∧ Aside0 (wc.heap[dS]? = some (.cells #[.int .i64 cG, (.slice A1_1 bL.length fq)] 39 (0, 0))) ∧ Aside0 (Below w.heap.size w wc))
 case first =>
  have H := HC3.out
  clear HC3
  by_cases c6 : cH = cG
  ·rw [if_pos c6] at H
   have c6b0 : (cH == cG) = true := beq_iff_eq.mpr c6
   have c6b1 : (cH != cG) = false := bne_eq_false_iff_eq.mpr c6
   clear c6
   (first | rw [c6b0] | (simp only [aq, ar]; rw [c6b0]) | skip)
   have H' := Aside0.mk H
   clear H
   have hnb7 := NB156_157.out
   have hnc7 := NB157_156.out
   have gF : w5.cell? ⟨cF, 0, none⟩ = some (.int .i64 cH) := (a7 bn.out 0).trans rfl
   have gG : w5.cell? ⟨cF, 1, none⟩ = some (.slice aI af.length au) := (a7 bn.out 1).trans rfl
   have gH := a8 bn.out 0
   have gI := a8 bn.out 1
   have d7 : w5.cell? ⟨dS, 0, none⟩ = some (.int .i64 cG) := (a7 bH.out 0).trans rfl
   have d8 : w5.cell? ⟨dS, 1, none⟩ = some (.slice A1_1 bL.length fq) := (a7 bH.out 1).trans rfl
   have d9 := a8 bH.out 0
   have da := a8 bH.out 1
   go_wp2
   go_meet
   case rel => exact ⟨_, (((af.length : Int) != (bL.length : Int))), (by first | rfl | (simp; done) | (simp [*]; done)), H', ⟨by first | omega | exact Nat.le_refl _⟩, ⟨by (with_reducible repeat (first | refine ab ?_ _ | refine ac ?_ | refine a9 ?_ _)); exact bn.out⟩, ⟨by (with_reducible repeat (first | refine ab ?_ _ | refine ac ?_ | refine a9 ?_ _)); exact bH.out⟩, ⟨by repeat (first | (with_reducible first | exact HB.out | apply a6 | apply a4 | apply a5 | refine aa ?_ fy.out | refine aa ?_ GE157.out) | exact HB.out)⟩⟩
  ·rw [if_neg c6] at H
   have c6b0 : (cH == cG) = false := beq_eq_false_iff_ne.mpr c6
   have c6b1 : (cH != cG) = true := bne_iff_ne.mpr c6
   (first | rw [c6b0] | (simp only [aq, ar]; rw [c6b0]) | skip)
   have H' := Aside0.mk H
   clear H
   have hnb10 := NB156_157.out
   have hnc10 := NB157_156.out
   have bS : w5.cell? ⟨cF, 0, none⟩ = some (.int .i64 cH) := (a7 bn.out 0).trans rfl
   have bT : w5.cell? ⟨cF, 1, none⟩ = some (.slice aI af.length au) := (a7 bn.out 1).trans rfl
   have bU := a8 bn.out 0
   have bV := a8 bn.out 1
   have dh : w5.cell? ⟨dS, 0, none⟩ = some (.int .i64 cG) := (a7 bH.out 0).trans rfl
   have di : w5.cell? ⟨dS, 1, none⟩ = some (.slice A1_1 bL.length fq) := (a7 bH.out 1).trans rfl
   have dj := a8 bH.out 0
   have dk := a8 bH.out 1
   go_wp2
   go_meet
   case rel => exact ⟨_, (true), (by first | rfl | (simp; done) | (simp [*]; done)), H', ⟨by first | omega | exact Nat.le_refl _⟩, ⟨by (with_reducible repeat (first | refine ab ?_ _ | refine ac ?_ | refine a9 ?_ _)); exact bn.out⟩, ⟨by (with_reducible repeat (first | refine ab ?_ _ | refine ac ?_ | refine a9 ?_ _)); exact bH.out⟩, ⟨by repeat (first | (with_reducible first | exact HB.out | apply a6 | apply a4 | apply a5 | refine aa ?_ fy.out | refine aa ?_ GE157.out) | exact HB.out)⟩⟩
 case rest =>
  clear HC3
  try clear c1; try clear c2; try clear p2; try clear c6; try clear c6b0; try clear c6b1; try clear c7; try clear c10; try clear bS; try clear bT; try clear dh; try clear di; try clear gF; try clear gG; try clear d7; try clear d8; try clear bU; try clear bV; try clear dj; try clear dk; try clear gH; try clear gI; try clear d9; try clear da
  obtain ⟨kq, x19_2, rfl, HA, HJ2, bn, bH, HB⟩ := hcut
  cases kq with
  | zero => exact absurd HA.out (by simp [fastiref15_Same.j0])
  | succ kj2 =>
   have H := HA.out
   clear HA
   simp only [fastiref15_Same.j0] at H
   by_cases c13 : x19_2 = true
   ·subst c13
    have H1 : (some false) = some r := by rw [if_pos rfl] at H; exact H
    clear H
    have H := H1
    clear H1
    obtain rfl := Option.some.inj H
    go_wp2
    go_ret
    exact ⟨by first | rfl | (simp [al, ak] <;> rfl) | (simp [*, al, ak] <;> rfl), by repeat (first | (with_reducible first | exact HB.out | apply a6 | apply a4 | apply a5 | refine aa ?_ fy.out | refine aa ?_ GE157.out) | exact HB.out)⟩
   ·replace c13 := Bool.eq_false_iff.mpr c13
    subst c13
    have H1 : (fastiref15_Same.l0 kj2 0 cH af cG bL) = some r := by rw [if_neg (show ¬ (false = true) by decide)] at H; exact H
    clear H
    have H := H1
    clear H1
    have H' := Aside0.mk H
    clear H
    go_wp2
    go_loopg [5] kj2 (fun kq v5 w' => ∃ (x5_2 : Int), v5 = .int .i64 x5_2 ∧ Aside0 (fastiref15_Same.l0 kq x5_2 cH af cG bL = some r) ∧ Aside0 (kq ≤ kj2) ∧ Aside0 (w'.heap[cF]? = some (.cells #[.int .i64 cH, (.slice aI af.length au)] 39 (0, 0))) ∧ Aside0 (w'.heap[dS]? = some (.cells #[.int .i64 cG, (.slice A1_1 bL.length fq)] 39 (0, 0))) ∧ Aside0 (Below w.heap.size w w'))
    case atStart => exact ⟨(0), (by first | rfl | (simp; done) | (simp [*]; done)), H', ⟨Nat.le_refl _⟩, ⟨by (with_reducible repeat (first | refine ab ?_ _ | refine ac ?_ | refine a9 ?_ _)); exact bn.out⟩, ⟨by (with_reducible repeat (first | refine ab ?_ _ | refine ac ?_ | refine a9 ?_ _)); exact bH.out⟩, ⟨by repeat (first | (with_reducible first | exact HB.out | apply a6 | apply a4 | apply a5 | refine aa ?_ fy.out | refine aa ?_ GE157.out) | exact HB.out)⟩⟩
    case round =>
     clear H'
     try clear c1; try clear c2; try clear p2; try clear c6; try clear c6b0; try clear c6b1; try clear c7; try clear c10; try clear c13; try clear bS; try clear bT; try clear dh; try clear di; try clear gF; try clear gG; try clear d7; try clear d8; try clear bU; try clear bV; try clear dj; try clear dk; try clear gH; try clear gI; try clear d9; try clear da
     obtain ⟨x5_2, rfl, HA, HK2, bn, bH, HB⟩ := hrel
     cases gk with
     | zero => exact absurd HA.out (by simp [fastiref15_Same.l0])
     | succ k2 =>
      have H := HA.out
      clear HA
      simp only [fastiref15_Same.l0] at H
      by_cases c14 : x5_2 < (af.length : Int)
      ·rw [if_pos c14] at H
       have c14b0 : decide (x5_2 < (af.length : Int)) = true := decide_eq_true c14
       clear c14
       by_cases c15 : 0 ≤ x5_2
       ·rw [if_pos c15] at H
        have c15b0 : decide (0 ≤ x5_2) = true := decide_eq_true c15
        clear c15
        by_cases c16 : x5_2 < (bL.length : Int)
        ·rw [if_pos c16] at H
         have c16b0 : decide (x5_2 < (bL.length : Int)) = true := decide_eq_true c16
         clear c16
         replace H := Option.bind_eq_some_iff.mp H
         obtain ⟨t160, A170, H⟩ := H
         replace H : (if t160 = true then (fastiref15_Same.l0 k2 (wrap64 (x5_2 + 1)) cH af cG bL) else (some false)) = some r := H
         have A17 := Aside0.mk A170
         clear A170
         by_cases c18 : t160 = true
         ·subst c18
          have H1 : (fastiref15_Same.l0 k2 (wrap64 (x5_2 + 1)) cH af cG bL) = some r := by rw [if_pos rfl] at H; exact H
          clear H
          have H := H1
          clear H1
          have H' := Aside0.mk H
          clear H
          have hnb19 := NB156_157.out
          have hnc19 := NB157_156.out
          have hcz20_0 : wr.cell? ⟨cF, 0, none⟩ = some (.int .i64 cH) := (a7 bn.out 0).trans rfl
          have hcz20_1 : wr.cell? ⟨cF, 1, none⟩ = some (.slice aI af.length au) := (a7 bn.out 1).trans rfl
          have hfz20_0 := a8 bn.out 0
          have hfz20_1 := a8 bn.out 1
          try go_wp2
          have n0_ := Aside0.mk (ac bn.out)
          have n1_ := Aside0.mk (ac bH.out)
          have n2_ := Aside0.mk (a5 HB.out)
          clear bn
          clear bH
          clear HB
          have bn := n0_
          have bH := n1_
          have HB := n2_
          clear n0_ n1_ n2_
          have p158 : 0 ≤ (x5_2 : Int) := of_decide_eq_true (by first | (with_reducible assumption) | assumption)
          have q158 : x5_2 < (af.length : Int) := of_decide_eq_true (by first | (with_reducible assumption) | assumption)
          obtain ⟨ad158, A158_1, c158_1, e158, cM, cN, hU, hX⟩ := at_T39 br.out x5_2 p158 q158
          have dm := cN
          have dn := cM
          cases e158
          replace cM := (HB.out.cell (World.block_lt_of_cell? w _ cM)).trans cM
          replace cN := (HB.out.cell (World.block_lt_of_cell? w _ cN)).trans cN
          have i2 := Aside0.mk hX
          have HC158_1 := Aside0.mk hU
          clear hX hU
          replace p158 := eq_true p158
          replace q158 := eq_true q158
          have p159 : 0 ≤ (x5_2 : Int) := of_decide_eq_true (by first | (with_reducible assumption) | assumption)
          have q159 : x5_2 < (bL.length : Int) := of_decide_eq_true (by first | (with_reducible assumption) | assumption)
          obtain ⟨ad159, A159_1, c159_1, e159, cO, cP, i4, i5⟩ := at_T39 HR1_1.out x5_2 p159 q159
          have dp := cP
          have dq := cO
          cases e159
          replace cO := (HB.out.cell (World.block_lt_of_cell? w _ cO)).trans cO
          replace cP := (HB.out.cell (World.block_lt_of_cell? w _ cP)).trans cP
          have i7 := Aside0.mk i5
          have HC159_1 := Aside0.mk i4
          clear i5 i4
          replace p159 := eq_true p159
          replace q159 := eq_true q159
          refine dT (n := 12) (S := fun w' => w'.cell? ⟨cF, 0, none⟩ = some (.int .i64 cH) ∧ w'.cell? ⟨cF, 1, none⟩ = some (.slice (some ad158) af.length au) ∧ w'.cell? ⟨dS, 0, none⟩ = some (.int .i64 cG) ∧ w'.cell? ⟨dS, 1, none⟩ = some (.slice (some ad159) bL.length fq) ∧ w'.cell? (ad158.add ((x5_2).toNat * 2)) = some (.int .i64 ((bj af x5_2).f0)) ∧ w'.cell? ⟨(ad158.add ((x5_2).toNat * 2)).block, (ad158.add ((x5_2).toNat * 2)).off + 1, none⟩ = some (.slice A158_1 ((bj af x5_2).f1).length c158_1) ∧ w'.cell? (ad159.add ((x5_2).toNat * 2)) = some (.int .i64 ((bj bL x5_2).f0)) ∧ w'.cell? ⟨(ad159.add ((x5_2).toNat * 2)).block, (ad159.add ((x5_2).toNat * 2)).off + 1, none⟩ = some (.slice A159_1 ((bj bL x5_2).f1).length c159_1)) (ds := []) #[false, false, false, false, false, false, false, false, false, false, false, false] (by kernel_rfl) rfl rfl ⟨(a7 bn.out 0).trans rfl, (a7 bn.out 1).trans rfl, (a7 bH.out 0).trans rfl, (a7 bH.out 1).trans rfl, ((HB.out.cell (World.block_lt_of_cell? w _ dn)).trans dn), ((HB.out.cell (World.block_lt_of_cell? w _ dm)).trans dm), ((HB.out.cell (World.block_lt_of_cell? w _ dq)).trans dq), ((HB.out.cell (World.block_lt_of_cell? w _ dp)).trans dp)⟩ (fun hHeld => ?_); refine with_tabW fastiref15_Same.tab6 fastiref15_Same.bits6 (fun HT_ HW_ => ?_)
          generalize wr.drew = w21 at bn bH HB i2 i7 cM cN cO cP hHeld ⊢
          refine bc (i := 0) (N := some 27) (v := ?_) (a' := ?_) #[true, false, false, false, false, false, false, false, false, false, false, false] rfl rfl (aH HT_.out (by kernel_rfl)) (fun _ _ _ h => h) (Or.inl ⟨by rfl, ?_⟩) ?_ ?_
          rotate_left
          ·intro w'
           go_simp
           with_reducible rfl
          rotate_left
          ·simp only [Act.put, List.setIfInBounds_toArray, List.set_cons_zero, List.set_cons_succ, aq, ar]
           rfl
          refine bc (i := 2) (N := some 29) (v := ?_) (a' := ?_) #[true, false, true, false, false, false, false, false, false, false, false, false] rfl rfl (aH HT_.out (by kernel_rfl)) (fun _ _ _ h => h) (Or.inl ⟨by rfl, ?_⟩) ?_ ?_
          rotate_left
          ·intro w'
           go_simp
           with_reducible rfl
          rotate_left
          ·simp only [Act.put, List.setIfInBounds_toArray, List.set_cons_zero, List.set_cons_succ, aq, ar]
           rfl
          refine bc (i := 5) (N := some 32) (v := ?_) (a' := ?_) #[true, false, true, false, false, true, false, false, false, false, false, false] rfl rfl (aH HT_.out (by kernel_rfl)) (fun _ _ _ h => h) (Or.inl ⟨by rfl, ?_⟩) ?_ ?_
          rotate_left
          ·intro w'
           go_simp
           with_reducible rfl
          rotate_left
          ·simp only [Act.put, List.setIfInBounds_toArray, List.set_cons_zero, List.set_cons_succ, aq, ar]
           rfl
          refine bc (i := 7) (N := some 34) (v := ?_) (a' := ?_) #[true, false, true, false, false, true, false, true, false, false, false, false] rfl rfl (aH HT_.out (by kernel_rfl)) (fun _ _ _ h => h) (Or.inl ⟨by rfl, ?_⟩) ?_ ?_
          rotate_left
          ·intro w'
           go_simp
           with_reducible rfl
          rotate_left
          ·simp only [Act.put, List.setIfInBounds_toArray, List.set_cons_zero, List.set_cons_succ, aq, ar]
           rfl
          refine take_ (i := 1) (N := some 28) (v := ?_) (a' := ?_) #[true, true, true, false, false, true, false, true, false, false, false, false] rfl rfl (cV HT_.out HW_.out (by kernel_rfl)) (fun _ _ _ h => h) (Or.inl ⟨by rfl, ?_⟩) hHeld ?_ ?_
          rotate_left
          ·rintro w' ⟨s0, s1, s2, s3, s4, s5, s6, s7⟩
           go_simp
           with_reducible rfl
          rotate_left
          ·simp only [Act.put, List.setIfInBounds_toArray, List.set_cons_zero, List.set_cons_succ, aq, ar]
           rfl
          refine bc (i := 3) (N := some 30) (v := ?_) (a' := ?_) #[true, true, true, true, false, true, false, true, false, false, false, false] rfl rfl (aH HT_.out (by kernel_rfl)) (fun _ _ _ h => h) (Or.inl ⟨by rfl, ?_⟩) ?_ ?_
          rotate_left
          ·intro w'
           go_simp
           with_reducible rfl
          rotate_left
          ·simp only [Act.put, List.setIfInBounds_toArray, List.set_cons_zero, List.set_cons_succ, aq, ar]
           rfl
          refine take_ (i := 4) (N := some 31) (v := ?_) (a' := ?_) #[true, true, true, true, true, true, false, true, false, false, false, false] rfl rfl (cV HT_.out HW_.out (by kernel_rfl)) (fun _ _ _ h => h) (Or.inl ⟨by rfl, ?_⟩) hHeld ?_ ?_
          rotate_left
          ·rintro w' ⟨s0, s1, s2, s3, s4, s5, s6, s7⟩
           go_simp
           with_reducible rfl
          rotate_left
          ·simp only [Act.put, List.setIfInBounds_toArray, List.set_cons_zero, List.set_cons_succ, aq, ar]
           rfl
          refine take_ (i := 6) (N := some 33) (v := ?_) (a' := ?_) #[true, true, true, true, true, true, true, true, false, false, false, false] rfl rfl (cV HT_.out HW_.out (by kernel_rfl)) (fun _ _ _ h => h) (Or.inl ⟨by rfl, ?_⟩) hHeld ?_ ?_
          rotate_left
          ·rintro w' ⟨s0, s1, s2, s3, s4, s5, s6, s7⟩
           go_simp
           with_reducible rfl
          rotate_left
          ·simp only [Act.put, List.setIfInBounds_toArray, List.set_cons_zero, List.set_cons_succ, aq, ar]
           rfl
          refine bc (i := 8) (N := some 35) (v := ?_) (a' := ?_) #[true, true, true, true, true, true, true, true, true, false, false, false] rfl rfl (aH HT_.out (by kernel_rfl)) (fun _ _ _ h => h) (Or.inl ⟨by rfl, ?_⟩) ?_ ?_
          rotate_left
          ·intro w'
           go_simp
           with_reducible rfl
          rotate_left
          ·simp only [Act.put, List.setIfInBounds_toArray, List.set_cons_zero, List.set_cons_succ, aq, ar]
           rfl
          refine take_ (i := 9) (N := some 36) (v := ?_) (a' := ?_) #[true, true, true, true, true, true, true, true, true, true, false, false] rfl rfl (cV HT_.out HW_.out (by kernel_rfl)) (fun _ _ _ h => h) (Or.inl ⟨by rfl, ?_⟩) hHeld ?_ ?_
          rotate_left
          ·rintro w' ⟨s0, s1, s2, s3, s4, s5, s6, s7⟩
           go_simp
           with_reducible rfl
          rotate_left
          ·simp only [Act.put, List.setIfInBounds_toArray, List.set_cons_zero, List.set_cons_succ, aq, ar]
           rfl
          refine fz (i := 10) (N := some 37) #[true, true, true, true, true, true, true, true, true, true, true, false] rfl rfl (bB HT_.out (by kernel_rfl)) (by decide) (fun K hK => ?_)
          refine goes_ Try.func24 (by kernel_rfl) rfl #[.agg #[.int .i64 ((bj af x5_2).f0), .slice A158_1 ((bj af x5_2).f1).length c158_1], .agg #[.int .i64 ((bj bL x5_2).f0), .slice A159_1 ((bj bL x5_2).f1).length c159_1]] (by rfl) rfl rfl (by (try simp only [List.map_toArray, List.map_cons, List.map_nil]); first | done | rfl | (simp only [List.length_drop, List.length_take]; rfl)) ?_
          with_reducible refine (ih k2 (by have := HJ2.out; have := HK2.out; omega) ((bj af x5_2).f0) _ _ ((bj af x5_2).f1) ((bj bL x5_2).f0) _ _ ((bj bL x5_2).f1) true _ ?side1 ?side2 ?side3 ?side4 A17.out).mono ?_
          (case side1 => repeat (first | exact (Kd.C_below i2.out HB.out) | (with_reducible refine Kd.C_alloc ?_ _) | (with_reducible refine Kd.C_drewN ?_ _) | (with_reducible refine Kd.C_drew ?_)))
          (case side2 => exact HC158_1.out)
          (case side3 => repeat (first | exact (Kd.C_below i7.out HB.out) | (with_reducible refine Kd.C_alloc ?_ _) | (with_reducible refine Kd.C_drewN ?_ _) | (with_reducible refine Kd.C_drew ?_)))
          (case side4 => exact HC159_1.out)
          rintro e w22 ⟨rfl, hb⟩
          refine ⟨_, rfl, ?_⟩
          have n0_ := Aside0.mk (ae (g := cF) (o := .cells #[.int .i64 cH, .slice (some ad158) af.length au] 39 (0, 0)) (by (with_reducible repeat (first | refine ab ?_ _ | refine ac ?_ | refine a9 ?_ _)); exact bn.out) hb)
          have n1_ := Aside0.mk (ae (g := dS) (o := .cells #[.int .i64 cG, .slice (some ad159) bL.length fq] 39 (0, 0)) (by (with_reducible repeat (first | refine ab ?_ _ | refine ac ?_ | refine a9 ?_ _)); exact bH.out) hb)
          have n2_ := Aside0.mk (aj (by repeat (first | (with_reducible first | exact HB.out | apply a6 | apply a4 | apply a5 | refine aa ?_ fy.out | refine aa ?_ GE157.out) | exact HB.out)) hb)
          clear bn
          clear bH
          clear HB
          have bn := n0_
          have bH := n1_
          have HB := n2_
          clear n0_ n1_ n2_
          (try clear hb)
          (try clear hb2)
          (try clear hk)
          (try clear hi)
          refine hK.out _ _ ⟨(a7 bn.out 0).trans rfl, (a7 bn.out 1).trans rfl, (a7 bH.out 0).trans rfl, (a7 bH.out 1).trans rfl, ((HB.out.cell (World.block_lt_of_cell? w _ dn)).trans dn), ((HB.out.cell (World.block_lt_of_cell? w _ dm)).trans dm), ((HB.out.cell (World.block_lt_of_cell? w _ dq)).trans dq), ((HB.out.cell (World.block_lt_of_cell? w _ dp)).trans dp)⟩ (fun hHeld => ?_)
          clear hK K
          refine co (a' := ?_) ?_ ?_
          rotate_left
          ·show Act.put _ (some 37) _ = _
           simp only [Act.put, List.setIfInBounds_toArray, List.set_cons_zero, List.set_cons_succ, aq, ar]
           rfl
          refine bc (i := 11) (N := some 38) (v := ?_) (a' := ?_) #[true, true, true, true, true, true, true, true, true, true, true, true] rfl rfl (aH HT_.out (by kernel_rfl)) (fun _ _ _ h => h) (Or.inl ⟨by rfl, ?_⟩) ?_ ?_
          rotate_left
          ·intro w'
           go_simp
           with_reducible rfl
          rotate_left
          ·simp only [Act.put, List.setIfInBounds_toArray, List.set_cons_zero, List.set_cons_succ, aq, ar]
           rfl
          refine fX (cK HT_.out (by kernel_rfl)) ?_
          try go_wp2
          go_roundg k2
          case measure => have := HJ2.out; have := HK2.out; omega
          case rel => exact ⟨(wrap64 (x5_2 + 1)), (by first | rfl | (simp; done) | (simp [*]; done)), H', ⟨by have := HJ2.out; have := HK2.out; omega⟩, ⟨by (with_reducible repeat (first | refine ab ?_ _ | refine ac ?_ | refine a9 ?_ _)); exact bn.out⟩, ⟨by (with_reducible repeat (first | refine ab ?_ _ | refine ac ?_ | refine a9 ?_ _)); exact bH.out⟩, ⟨by repeat (first | (with_reducible first | exact HB.out | apply a6 | apply a4 | apply a5 | refine aa ?_ fy.out | refine aa ?_ GE157.out) | exact HB.out)⟩⟩
         ·replace c18 := Bool.eq_false_iff.mpr c18
          subst c18
          have H1 : (some false) = some r := by rw [if_neg (show ¬ (false = true) by decide)] at H; exact H
          clear H
          have H := H1
          clear H1
          obtain rfl := Option.some.inj H
          have hnb23 := NB156_157.out
          have hnc23 := NB157_156.out
          have hcz24_0 : wr.cell? ⟨cF, 0, none⟩ = some (.int .i64 cH) := (a7 bn.out 0).trans rfl
          have hcz24_1 : wr.cell? ⟨cF, 1, none⟩ = some (.slice aI af.length au) := (a7 bn.out 1).trans rfl
          have hfz24_0 := a8 bn.out 0
          have hfz24_1 := a8 bn.out 1
          try go_wp2
          have n0_ := Aside0.mk (ac bn.out)
          have n1_ := Aside0.mk (ac bH.out)
          have n2_ := Aside0.mk (a5 HB.out)
          clear bn
          clear bH
          clear HB
          have bn := n0_
          have bH := n1_
          have HB := n2_
          clear n0_ n1_ n2_
          have p158 : 0 ≤ (x5_2 : Int) := of_decide_eq_true (by first | (with_reducible assumption) | assumption)
          have q158 : x5_2 < (af.length : Int) := of_decide_eq_true (by first | (with_reducible assumption) | assumption)
          obtain ⟨ad158, A158_1, c158_1, e158, cM, cN, hU, hX⟩ := at_T39 br.out x5_2 p158 q158
          have dm := cN
          have dn := cM
          cases e158
          replace cM := (HB.out.cell (World.block_lt_of_cell? w _ cM)).trans cM
          replace cN := (HB.out.cell (World.block_lt_of_cell? w _ cN)).trans cN
          have i2 := Aside0.mk hX
          have HC158_1 := Aside0.mk hU
          clear hX hU
          replace p158 := eq_true p158
          replace q158 := eq_true q158
          have p159 : 0 ≤ (x5_2 : Int) := of_decide_eq_true (by first | (with_reducible assumption) | assumption)
          have q159 : x5_2 < (bL.length : Int) := of_decide_eq_true (by first | (with_reducible assumption) | assumption)
          obtain ⟨ad159, A159_1, c159_1, e159, cO, cP, i4, i5⟩ := at_T39 HR1_1.out x5_2 p159 q159
          have dp := cP
          have dq := cO
          cases e159
          replace cO := (HB.out.cell (World.block_lt_of_cell? w _ cO)).trans cO
          replace cP := (HB.out.cell (World.block_lt_of_cell? w _ cP)).trans cP
          have i7 := Aside0.mk i5
          have HC159_1 := Aside0.mk i4
          clear i5 i4
          replace p159 := eq_true p159
          replace q159 := eq_true q159
          refine dT (n := 12) (S := fun w' => w'.cell? ⟨cF, 0, none⟩ = some (.int .i64 cH) ∧ w'.cell? ⟨cF, 1, none⟩ = some (.slice (some ad158) af.length au) ∧ w'.cell? ⟨dS, 0, none⟩ = some (.int .i64 cG) ∧ w'.cell? ⟨dS, 1, none⟩ = some (.slice (some ad159) bL.length fq) ∧ w'.cell? (ad158.add ((x5_2).toNat * 2)) = some (.int .i64 ((bj af x5_2).f0)) ∧ w'.cell? ⟨(ad158.add ((x5_2).toNat * 2)).block, (ad158.add ((x5_2).toNat * 2)).off + 1, none⟩ = some (.slice A158_1 ((bj af x5_2).f1).length c158_1) ∧ w'.cell? (ad159.add ((x5_2).toNat * 2)) = some (.int .i64 ((bj bL x5_2).f0)) ∧ w'.cell? ⟨(ad159.add ((x5_2).toNat * 2)).block, (ad159.add ((x5_2).toNat * 2)).off + 1, none⟩ = some (.slice A159_1 ((bj bL x5_2).f1).length c159_1)) (ds := []) #[false, false, false, false, false, false, false, false, false, false, false, false] (by kernel_rfl) rfl rfl ⟨(a7 bn.out 0).trans rfl, (a7 bn.out 1).trans rfl, (a7 bH.out 0).trans rfl, (a7 bH.out 1).trans rfl, ((HB.out.cell (World.block_lt_of_cell? w _ dn)).trans dn), ((HB.out.cell (World.block_lt_of_cell? w _ dm)).trans dm), ((HB.out.cell (World.block_lt_of_cell? w _ dq)).trans dq), ((HB.out.cell (World.block_lt_of_cell? w _ dp)).trans dp)⟩ (fun hHeld => ?_); refine with_tabW fastiref15_Same.tab6 fastiref15_Same.bits6 (fun HT_ HW_ => ?_)
          generalize wr.drew = w25 at bn bH HB i2 i7 cM cN cO cP hHeld ⊢
          refine bc (i := 0) (N := some 27) (v := ?_) (a' := ?_) #[true, false, false, false, false, false, false, false, false, false, false, false] rfl rfl (aH HT_.out (by kernel_rfl)) (fun _ _ _ h => h) (Or.inl ⟨by rfl, ?_⟩) ?_ ?_
          rotate_left
          ·intro w'
           go_simp
           with_reducible rfl
          rotate_left
          ·simp only [Act.put, List.setIfInBounds_toArray, List.set_cons_zero, List.set_cons_succ, aq, ar]
           rfl
          refine bc (i := 2) (N := some 29) (v := ?_) (a' := ?_) #[true, false, true, false, false, false, false, false, false, false, false, false] rfl rfl (aH HT_.out (by kernel_rfl)) (fun _ _ _ h => h) (Or.inl ⟨by rfl, ?_⟩) ?_ ?_
          rotate_left
          ·intro w'
           go_simp
           with_reducible rfl
          rotate_left
          ·simp only [Act.put, List.setIfInBounds_toArray, List.set_cons_zero, List.set_cons_succ, aq, ar]
           rfl
          refine bc (i := 5) (N := some 32) (v := ?_) (a' := ?_) #[true, false, true, false, false, true, false, false, false, false, false, false] rfl rfl (aH HT_.out (by kernel_rfl)) (fun _ _ _ h => h) (Or.inl ⟨by rfl, ?_⟩) ?_ ?_
          rotate_left
          ·intro w'
           go_simp
           with_reducible rfl
          rotate_left
          ·simp only [Act.put, List.setIfInBounds_toArray, List.set_cons_zero, List.set_cons_succ, aq, ar]
           rfl
          refine bc (i := 7) (N := some 34) (v := ?_) (a' := ?_) #[true, false, true, false, false, true, false, true, false, false, false, false] rfl rfl (aH HT_.out (by kernel_rfl)) (fun _ _ _ h => h) (Or.inl ⟨by rfl, ?_⟩) ?_ ?_
          rotate_left
          ·intro w'
           go_simp
           with_reducible rfl
          rotate_left
          ·simp only [Act.put, List.setIfInBounds_toArray, List.set_cons_zero, List.set_cons_succ, aq, ar]
           rfl
          refine take_ (i := 1) (N := some 28) (v := ?_) (a' := ?_) #[true, true, true, false, false, true, false, true, false, false, false, false] rfl rfl (cV HT_.out HW_.out (by kernel_rfl)) (fun _ _ _ h => h) (Or.inl ⟨by rfl, ?_⟩) hHeld ?_ ?_
          rotate_left
          ·rintro w' ⟨s0, s1, s2, s3, s4, s5, s6, s7⟩
           go_simp
           with_reducible rfl
          rotate_left
          ·simp only [Act.put, List.setIfInBounds_toArray, List.set_cons_zero, List.set_cons_succ, aq, ar]
           rfl
          refine bc (i := 3) (N := some 30) (v := ?_) (a' := ?_) #[true, true, true, true, false, true, false, true, false, false, false, false] rfl rfl (aH HT_.out (by kernel_rfl)) (fun _ _ _ h => h) (Or.inl ⟨by rfl, ?_⟩) ?_ ?_
          rotate_left
          ·intro w'
           go_simp
           with_reducible rfl
          rotate_left
          ·simp only [Act.put, List.setIfInBounds_toArray, List.set_cons_zero, List.set_cons_succ, aq, ar]
           rfl
          refine take_ (i := 4) (N := some 31) (v := ?_) (a' := ?_) #[true, true, true, true, true, true, false, true, false, false, false, false] rfl rfl (cV HT_.out HW_.out (by kernel_rfl)) (fun _ _ _ h => h) (Or.inl ⟨by rfl, ?_⟩) hHeld ?_ ?_
          rotate_left
          ·rintro w' ⟨s0, s1, s2, s3, s4, s5, s6, s7⟩
           go_simp
           with_reducible rfl
          rotate_left
          ·simp only [Act.put, List.setIfInBounds_toArray, List.set_cons_zero, List.set_cons_succ, aq, ar]
           rfl
          refine take_ (i := 6) (N := some 33) (v := ?_) (a' := ?_) #[true, true, true, true, true, true, true, true, false, false, false, false] rfl rfl (cV HT_.out HW_.out (by kernel_rfl)) (fun _ _ _ h => h) (Or.inl ⟨by rfl, ?_⟩) hHeld ?_ ?_
          rotate_left
          ·rintro w' ⟨s0, s1, s2, s3, s4, s5, s6, s7⟩
           go_simp
           with_reducible rfl
          rotate_left
          ·simp only [Act.put, List.setIfInBounds_toArray, List.set_cons_zero, List.set_cons_succ, aq, ar]
           rfl
          refine bc (i := 8) (N := some 35) (v := ?_) (a' := ?_) #[true, true, true, true, true, true, true, true, true, false, false, false] rfl rfl (aH HT_.out (by kernel_rfl)) (fun _ _ _ h => h) (Or.inl ⟨by rfl, ?_⟩) ?_ ?_
          rotate_left
          ·intro w'
           go_simp
           with_reducible rfl
          rotate_left
          ·simp only [Act.put, List.setIfInBounds_toArray, List.set_cons_zero, List.set_cons_succ, aq, ar]
           rfl
          refine take_ (i := 9) (N := some 36) (v := ?_) (a' := ?_) #[true, true, true, true, true, true, true, true, true, true, false, false] rfl rfl (cV HT_.out HW_.out (by kernel_rfl)) (fun _ _ _ h => h) (Or.inl ⟨by rfl, ?_⟩) hHeld ?_ ?_
          rotate_left
          ·rintro w' ⟨s0, s1, s2, s3, s4, s5, s6, s7⟩
           go_simp
           with_reducible rfl
          rotate_left
          ·simp only [Act.put, List.setIfInBounds_toArray, List.set_cons_zero, List.set_cons_succ, aq, ar]
           rfl
          refine fz (i := 10) (N := some 37) #[true, true, true, true, true, true, true, true, true, true, true, false] rfl rfl (bB HT_.out (by kernel_rfl)) (by decide) (fun K hK => ?_)
          refine goes_ Try.func24 (by kernel_rfl) rfl #[.agg #[.int .i64 ((bj af x5_2).f0), .slice A158_1 ((bj af x5_2).f1).length c158_1], .agg #[.int .i64 ((bj bL x5_2).f0), .slice A159_1 ((bj bL x5_2).f1).length c159_1]] (by rfl) rfl rfl (by (try simp only [List.map_toArray, List.map_cons, List.map_nil]); first | done | rfl | (simp only [List.length_drop, List.length_take]; rfl)) ?_
          with_reducible refine (ih k2 (by have := HJ2.out; have := HK2.out; omega) ((bj af x5_2).f0) _ _ ((bj af x5_2).f1) ((bj bL x5_2).f0) _ _ ((bj bL x5_2).f1) false _ ?side1 ?side2 ?side3 ?side4 A17.out).mono ?_
          (case side1 => repeat (first | exact (Kd.C_below i2.out HB.out) | (with_reducible refine Kd.C_alloc ?_ _) | (with_reducible refine Kd.C_drewN ?_ _) | (with_reducible refine Kd.C_drew ?_)))
          (case side2 => exact HC158_1.out)
          (case side3 => repeat (first | exact (Kd.C_below i7.out HB.out) | (with_reducible refine Kd.C_alloc ?_ _) | (with_reducible refine Kd.C_drewN ?_ _) | (with_reducible refine Kd.C_drew ?_)))
          (case side4 => exact HC159_1.out)
          rintro e w26 ⟨rfl, hb⟩
          refine ⟨_, rfl, ?_⟩
          have n0_ := Aside0.mk (ae (g := cF) (o := .cells #[.int .i64 cH, .slice (some ad158) af.length au] 39 (0, 0)) (by (with_reducible repeat (first | refine ab ?_ _ | refine ac ?_ | refine a9 ?_ _)); exact bn.out) hb)
          have n1_ := Aside0.mk (ae (g := dS) (o := .cells #[.int .i64 cG, .slice (some ad159) bL.length fq] 39 (0, 0)) (by (with_reducible repeat (first | refine ab ?_ _ | refine ac ?_ | refine a9 ?_ _)); exact bH.out) hb)
          have n2_ := Aside0.mk (aj (by repeat (first | (with_reducible first | exact HB.out | apply a6 | apply a4 | apply a5 | refine aa ?_ fy.out | refine aa ?_ GE157.out) | exact HB.out)) hb)
          clear bn
          clear bH
          clear HB
          have bn := n0_
          have bH := n1_
          have HB := n2_
          clear n0_ n1_ n2_
          (try clear hb)
          (try clear hb2)
          (try clear hk)
          (try clear hi)
          refine hK.out _ _ ⟨(a7 bn.out 0).trans rfl, (a7 bn.out 1).trans rfl, (a7 bH.out 0).trans rfl, (a7 bH.out 1).trans rfl, ((HB.out.cell (World.block_lt_of_cell? w _ dn)).trans dn), ((HB.out.cell (World.block_lt_of_cell? w _ dm)).trans dm), ((HB.out.cell (World.block_lt_of_cell? w _ dq)).trans dq), ((HB.out.cell (World.block_lt_of_cell? w _ dp)).trans dp)⟩ (fun hHeld => ?_)
          clear hK K
          refine co (a' := ?_) ?_ ?_
          rotate_left
          ·show Act.put _ (some 37) _ = _
           simp only [Act.put, List.setIfInBounds_toArray, List.set_cons_zero, List.set_cons_succ, aq, ar]
           rfl
          refine bc (i := 11) (N := some 38) (v := ?_) (a' := ?_) #[true, true, true, true, true, true, true, true, true, true, true, true] rfl rfl (aH HT_.out (by kernel_rfl)) (fun _ _ _ h => h) (Or.inl ⟨by rfl, ?_⟩) ?_ ?_
          rotate_left
          ·intro w'
           go_simp
           with_reducible rfl
          rotate_left
          ·simp only [Act.put, List.setIfInBounds_toArray, List.set_cons_zero, List.set_cons_succ, aq, ar]
           rfl
          refine fX (cK HT_.out (by kernel_rfl)) ?_
          try go_wp2
          go_ret
          exact ⟨by first | rfl | (simp [al, ak] <;> rfl) | (simp [*, al, ak] <;> rfl), by repeat (first | (with_reducible first | exact HB.out | apply a6 | apply a4 | apply a5 | refine aa ?_ fy.out | refine aa ?_ GE157.out) | exact HB.out)⟩
        ·rw [if_neg c16] at H
         exact absurd H (by simp)
       ·rw [if_neg c15] at H
        exact absurd H (by simp)
      ·rw [if_neg c14] at H
       have c14b0 : decide (x5_2 < (af.length : Int)) = false := decide_eq_false c14
       clear c14
       obtain rfl := Option.some.inj H
       have hnb27 := NB156_157.out
       have hnc27 := NB157_156.out
       have hcz28_0 : wr.cell? ⟨cF, 0, none⟩ = some (.int .i64 cH) := (a7 bn.out 0).trans rfl
       have hcz28_1 : wr.cell? ⟨cF, 1, none⟩ = some (.slice aI af.length au) := (a7 bn.out 1).trans rfl
       have hfz28_0 := a8 bn.out 0
       have hfz28_1 := a8 bn.out 1
       go_wp2
       go_ret
       exact ⟨by first | rfl | (simp [al, ak] <;> rfl) | (simp [*, al, ak] <;> rfl), by repeat (first | (with_reducible first | exact HB.out | apply a6 | apply a4 | apply a5 | refine aa ?_ fy.out | refine aa ?_ GE157.out) | exact HB.out)⟩
end Go.Proofs.Ytcbpkdemcdikaaa.X
namespace Go.Proofs.Ytcbpkdemcdikaaa.QB
open Go.RowKit Go.Proofs.Ytcbpkdemcdikaaa.X Go.Proofs.Ytcbpkdemcdikaaa.X.SF Go.Proofs.Ytcbpkdemcdikaaa.X.DF Go.Proofs.Ytcbpkdemcdikaaa.K Go.Proofs.YtcbpkdemcdikaaaW.PrintWords
set_option linter.unusedVariables false
set_option linter.unusedSimpArgs false
abbrev M := List (List Int)
theorem e6 {β : Type} (g : Nat → Nat → Option β) (P : Nat → Bool) (n : Nat) (y z : β) (hy : ∀ i, i < n → P i = true → ∀ r, Ev (fun k => g k (i + 1)) r → Ev (fun k => g k i) r)
    (hz : ∀ i, i < n → P i = false → Ev (fun k => g k i) z) (he : (∀ i, i < n → P i = true) → Ev (fun k => g k n) y) : Ev (fun k => g k 0) (if (List.range n).all P then y else z) := by
  have H : ∀ m i, i + m = n → (∀ j, j < i → P j = true) → Ev (fun k => g k i) (if (List.range n).all P then y else z) := by
    intro m
    induction m with
    | zero =>
      intro i hi hP
      obtain rfl : i = n := by omega
      rw [if_pos (List.all_eq_true.2 fun j hj => hP j (List.mem_range.1 hj))]
      exact he hP
    | succ m ih =>
      intro i hi hP
      cases h : P i
      · rw [if_neg]
        · exact hz i (by omega) h
        · intro ha
          rw [List.all_eq_true.1 ha i (List.mem_range.2 (by omega))] at h
          cases h
      · refine hy i (by omega) h _ (ih (i + 1) (by omega) fun j hj => ?_)
        rcases Nat.lt_or_ge j i with hj' | hj'
        · exact hP j hj'
        · obtain rfl : j = i := by omega
          exact h
  exact H n 0 (by omega) fun j hj => by omega
theorem L1n (l : M) (i : Nat) : aJ l (i : Int) = l.getD i [] := by simp [aJ]
theorem T49n (l : List S49) (i : Nat) : ag l (i : Int) = l.getD i z49 := by simp [ag]
theorem eI {α : Type} (l : List α) (d : α) (p : α → Bool) : (List.range l.length).all (fun i => p (l.getD i d)) = l.all p := by
  rw [Bool.eq_iff_iff, List.all_eq_true, List.all_eq_true]
  constructor
  · intro h x hx
    obtain ⟨i, hi, rfl⟩ := List.mem_iff_getElem.1 hx
    have := h i (List.mem_range.2 hi)
    rwa [dz hi] at this
  · intro h i hi
    rw [dz (List.mem_range.1 hi)]
    exact h _ (List.getElem_mem _)
theorem ite_tf (b : Bool) : (if b = true then true else false) = b := by cases b <;> rfl
theorem short_l2 (x4 : Int) (ds : M) (rs : List S49) (a b : Int) (v : List Int) (t : M) (ht : t.length ≤ 256) (r : Bool) (h : (∀ row ∈ t, row.length ≤ 12) → Ev (fun k => fastiref15_short.l1 k (wrap64 (x4 + 1)) ds rs) r) :
    Ev (fun k => fastiref15_short.l2 k x4 0 ds rs a b v t) (if t.all (fun row => decide (row.length ≤ 12)) then r else false) := by
  have := e6 (fun k i => fastiref15_short.l2 k x4 (i : Int) ds rs a b v t) (fun i => decide ((t.getD i []).length ≤ 12)) t.length r false ?_ ?_ ?_
  · rw [eI t [] (fun row => decide (row.length ≤ 12))] at this
    exact this
  · intro i hi hP r' h'
    have hw := w64s i (by omega)
    have hP := of_decide_eq_true hP
    refine Ev.step (f := fun k => fastiref15_short.l2 k x4 (wrap64 ((i : Int) + 1)) ds rs a b v t) (fun k => ?_) (by rw [hw]; exact h')
    simp only [fastiref15_short.l2]
    rw [if_pos (by omega), if_pos (by omega), L1n, if_neg (by omega)]
  · intro i hi hP
    have hP := of_decide_eq_false hP
    refine Ev.eq fun k => ?_
    simp only [fastiref15_short.l2]
    rw [if_pos (by omega), if_pos (by omega), L1n, if_pos (by omega)]
  · intro hP
    refine Ev.step (f := fun k => fastiref15_short.l1 k (wrap64 (x4 + 1)) ds rs) (fun k => ?_) (h fun row hr => ?_)
    · simp only [fastiref15_short.l2]
      rw [if_neg (by omega)]
    · obtain ⟨i, hi, rfl⟩ := List.mem_iff_getElem.1 hr
      have := of_decide_eq_true (hP i hi)
      rwa [dz hi] at this
theorem short_l1 (ds : M) (rs : List S49) (hr : rs.length ≤ 64) : Ev (fun k => fastiref15_short.l1 k 0 ds rs) (rs.all fun r => !cQ r) := by
  have := e6 (fun k i => fastiref15_short.l1 k (i : Int) ds rs) (fun i => !cQ (rs.getD i z49)) rs.length true false ?_ ?_ ?_
  · rw [eI rs z49 (fun r => !cQ r)] at this
    rw [ite_tf] at this
    exact this
  · intro i hi hP r' h'
    have hw := w64s i (by omega)
    simp only [cQ, Bool.not_eq_true', Bool.or_eq_false_iff, decide_eq_false_iff_not] at hP
    obtain ⟨⟨h1, h2⟩, h3⟩ := hP
    have e3 : (rs.getD i z49).f3.all (fun row => decide (row.length ≤ 12)) = true := by
      rw [List.all_eq_true]
      intro row hrow
      have := List.any_eq_false.1 h3 row hrow
      simp at this ⊢
      omega
    refine Ev.step (f := fun k => fastiref15_short.j3 k (i : Int) false ds rs (rs.getD i z49).f0 (rs.getD i z49).f1 (rs.getD i z49).f2 (rs.getD i z49).f3) (fun k => ?_) ?_
    · simp only [fastiref15_short.l1]
      rw [if_pos (by omega), if_pos (by omega), T49n, if_neg (by omega), decide_eq_false (by omega)]
    · refine Ev.step (f := fun k => fastiref15_short.l2 k (i : Int) 0 ds rs (rs.getD i z49).f0 (rs.getD i z49).f1 (rs.getD i z49).f2 (rs.getD i z49).f3) (fun k => rfl) ?_
      have := short_l2 (i : Int) ds rs (rs.getD i z49).f0 (rs.getD i z49).f1 (rs.getD i z49).f2 (rs.getD i z49).f3 (by omega) r' (fun _ => by rw [hw]; exact h')
      rw [if_pos e3] at this
      exact this
  · intro i hi hP
    have hw := w64s i (by omega)
    simp only [Bool.not_eq_false'] at hP
    by_cases h1 : 12 < (rs.getD i z49).f2.length
    · refine Ev.step (f := fun k => fastiref15_short.j3 k (i : Int) true ds rs (rs.getD i z49).f0 (rs.getD i z49).f1 (rs.getD i z49).f2 (rs.getD i z49).f3) (fun k => ?_) (Ev.eq fun k => rfl)
      simp only [fastiref15_short.l1]
      rw [if_pos (by omega), if_pos (by omega), T49n, if_pos (by omega)]
    · by_cases h2 : 256 < (rs.getD i z49).f3.length
      · refine Ev.step (f := fun k => fastiref15_short.j3 k (i : Int) true ds rs (rs.getD i z49).f0 (rs.getD i z49).f1 (rs.getD i z49).f2 (rs.getD i z49).f3) (fun k => ?_) (Ev.eq fun k => rfl)
        simp only [fastiref15_short.l1]
        rw [if_pos (by omega), if_pos (by omega), T49n, if_neg (by omega), decide_eq_true (by omega)]
      · simp only [cQ, decide_eq_false h1, decide_eq_false h2, Bool.false_or] at hP
        refine Ev.step (f := fun k => fastiref15_short.j3 k (i : Int) false ds rs (rs.getD i z49).f0 (rs.getD i z49).f1 (rs.getD i z49).f2 (rs.getD i z49).f3) (fun k => ?_) ?_
        · simp only [fastiref15_short.l1]
          rw [if_pos (by omega), if_pos (by omega), T49n, if_neg (by omega), decide_eq_false (by omega)]
        · refine Ev.step (f := fun k => fastiref15_short.l2 k (i : Int) 0 ds rs (rs.getD i z49).f0 (rs.getD i z49).f1 (rs.getD i z49).f2 (rs.getD i z49).f3) (fun k => rfl) ?_
          have e3 : (rs.getD i z49).f3.all (fun row => decide (row.length ≤ 12)) = false := by
            obtain ⟨row, hrow, hlen⟩ := List.any_eq_true.1 hP
            refine List.all_eq_false.2 ⟨row, hrow, ?_⟩
            simp at hlen ⊢
            omega
          have := short_l2 (i : Int) ds rs (rs.getD i z49).f0 (rs.getD i z49).f1 (rs.getD i z49).f2 (rs.getD i z49).f3 (by omega) false (fun hall => ?_)
          · rw [e3] at this
            exact this
          · exfalso
            obtain ⟨row, hrow, hlen⟩ := List.any_eq_true.1 hP
            have := hall row hrow
            simp at hlen
            omega
  · intro _
    refine Ev.eq fun k => ?_
    simp only [fastiref15_short.l1]
    rw [if_neg (by omega)]
theorem short_ref (ds : M) (rs : List S49) : Ev (fun k => fastiref15_short.f k ds rs) (!longB ds rs) := by
  unfold fastiref15_short.f longB
  by_cases h1 : 12 < ds.length
  · rw [decide_eq_true h1]
    refine Ev.step (f := fun _ => some false) (fun k => ?_) (Ev.now _)
    rw [if_pos (by omega)]
    rfl
  · rw [decide_eq_false h1, Bool.false_or]
    by_cases h2 : 64 < rs.length
    · rw [decide_eq_true h2]
      refine Ev.step (f := fun _ => some false) (fun k => ?_) (Ev.now _)
      rw [if_neg (by omega), decide_eq_true (by omega)]
      rfl
    · rw [decide_eq_false h2, Bool.false_or]
      refine Ev.step (f := fun k => fastiref15_short.l0 k 0 ds rs) (fun k => ?_) ?_
      · rw [if_neg (by omega), decide_eq_false (by omega)]
        rfl
      · have := e6 (fun k i => fastiref15_short.l0 k (i : Int) ds rs) (fun i => decide ((ds.getD i []).length ≤ 16)) ds.length (rs.all fun r => !cQ r) false ?_ ?_ ?_
        · rw [eI ds [] (fun d => decide (d.length ≤ 16))] at this
          have e : (!(ds.any (fun d => decide (16 < d.length)) || rs.any cQ)) = (if ds.all (fun d => decide (d.length ≤ 16)) then rs.all fun r => !cQ r else false) := by
            rw [Bool.not_or, List.not_any_eq_all_not, List.not_any_eq_all_not]
            have : (fun d : List Int => !decide (16 < d.length)) = fun d => decide (d.length ≤ 16) := by
              funext d
              rw [← decide_not]
              exact decide_eq_decide.2 (by omega)
            rw [this]
            cases ds.all fun d => decide (d.length ≤ 16) <;> rfl
          rw [e]
          exact this
        · intro i hi hP r' h'
          have hw := w64s i (by omega)
          have hP := of_decide_eq_true hP
          refine Ev.step (f := fun k => fastiref15_short.l0 k (wrap64 ((i : Int) + 1)) ds rs) (fun k => ?_) (by rw [hw]; exact h')
          simp only [fastiref15_short.l0]
          rw [if_pos (by omega), if_pos (by omega), L1n, if_neg (by omega)]
        · intro i hi hP
          have hP := of_decide_eq_false hP
          refine Ev.eq fun k => ?_
          simp only [fastiref15_short.l0]
          rw [if_pos (by omega), if_pos (by omega), L1n, if_pos (by omega)]
        · intro _
          refine Ev.step (f := fun k => fastiref15_short.l1 k 0 ds rs) (fun k => ?_) (short_l1 ds rs (by omega))
          simp only [fastiref15_short.l0]
          rw [if_neg (by omega)]
end Go.Proofs.Ytcbpkdemcdikaaa.QB
namespace Go.Proofs.Ytcbpkdemcdikaaa.QC
open Go.RowKit Go.Proofs.Ytcbpkdemcdikaaa.X Go.Proofs.Ytcbpkdemcdikaaa.X.SF Go.Proofs.Ytcbpkdemcdikaaa.X.DF Go.Proofs.Ytcbpkdemcdikaaa.K Go.Proofs.YtcbpkdemcdikaaaW.PrintWords Go.Proofs.Ytcbpkdemcdikaaa.QB
set_option linter.unusedVariables false
set_option linter.unusedSimpArgs false
def stepB (l : List Int) (i : Nat) : Bool := decide (0 ≤ rd l (i : Int)) && decide (rd l (i : Int) ≤ 73048) && (decide (i = 0) || decide (rd l ((i - 1 : Nat) : Int) < rd l (i : Int)))
def fI (l : List Int) : Bool := decide (0 < l.length) && (List.range l.length).all (stepB l)
def cJ : M → Int → Int
  | [], n => n
  | d :: ds, n => if n ≤ 65536 then cJ ds (n * (d.length : Int)) else n
theorem tries_ref (ds : M) (rs : List S49) (hs : ∀ d ∈ ds, d.length ≤ 16) (hl : ds.length ≤ 100) : Ev (fun k => fastiref15_Tries.f k ds rs) (cJ ds 1) := by
  unfold fastiref15_Tries.f
  have H : ∀ m i : Nat, i + m = ds.length → ∀ n : Int, 0 ≤ n → n ≤ 1048576 → Ev (fun k => fastiref15_Tries.l0 k n (i : Int) ds rs) (cJ (ds.drop i) n) := by
    intro m
    induction m with
    | zero =>
      intro i hi n h0 h1
      rw [List.drop_of_length_le (by omega)]
      refine Ev.eq fun k => ?_
      simp only [fastiref15_Tries.l0]
      rw [if_neg (by omega)]
      rfl
    | succ m ih =>
      intro i hi n h0 h1
      rw [fD (by omega : i < ds.length), cJ]
      by_cases hn : n ≤ 65536
      · have hd := hs _ (List.getElem_mem (by omega : i < ds.length))
        have hmul : 0 ≤ n * ((ds[i]'(by omega)).length : Int) ∧ n * ((ds[i]'(by omega)).length : Int) ≤ 1048576 := by
          constructor
          · exact Int.mul_nonneg h0 (by omega)
          · have := Int.mul_le_mul hn (show ((ds[i]'(by omega)).length : Int) ≤ 16 by omega) (by omega) (by omega)
            omega
        have hw := w64s i (by omega)
        have hw2 : wrap64 (n * ((aJ ds (i : Int)).length : Int)) = n * ((ds[i]'(by omega)).length : Int) := by
          rw [L1n, dz (by omega)]
          exact w64 (by omega) (by omega)
        rw [if_pos hn]
        refine Ev.step (f := fun k => fastiref15_Tries.l0 k (n * ((ds[i]'(by omega)).length : Int)) ((i + 1 : Nat) : Int) ds rs) (fun k => ?_) (ih (i + 1) (by omega) _ hmul.1 hmul.2)
        simp only [fastiref15_Tries.l0]
        rw [if_pos (by omega), if_pos hn, if_pos (by omega), hw, hw2]
      · rw [if_neg hn]
        refine Ev.eq fun k => ?_
        simp only [fastiref15_Tries.l0]
        rw [if_pos (by omega), if_neg hn]
  exact H ds.length 0 (by omega) 1 (by omega) (by omega)
theorem shortF {ds : M} {rs : List S49} (h : longB ds rs = false) : ds.length ≤ 12 ∧ rs.length ≤ 64 ∧ (∀ d ∈ ds, d.length ≤ 16) ∧ ∀ r ∈ rs, r.f2.length ≤ 12 ∧ r.f3.length ≤ 256 ∧ ∀ row ∈ r.f3, row.length ≤ 12 := by
  unfold longB at h
  simp only [Bool.or_eq_false_iff, decide_eq_false_iff_not, List.any_eq_false, decide_eq_true_eq] at h
  obtain ⟨⟨⟨h1, h2⟩, h3⟩, h4⟩ := h
  refine ⟨by omega, by omega, fun d hd => by have := h3 d hd; omega, fun r hr => ?_⟩
  have := h4 r hr
  rw [Bool.not_eq_true] at this
  unfold cQ at this
  simp only [Bool.or_eq_false_iff, decide_eq_false_iff_not, List.any_eq_false, decide_eq_true_eq] at this
  exact ⟨by omega, by omega, fun row hrow => by have := this.2 row hrow; omega⟩
theorem few_ref (ds : M) (rs : List S49) : ∃ b, Ev (fun k => fastiref15_Few.f k ds rs) b := by
  unfold fastiref15_Few.f
  have H := short_ref ds rs
  cases hs : longB ds rs
  · rw [hs] at H
    obtain ⟨h1, h2, h3, h4⟩ := shortF hs
    by_cases h8 : (rs.length : Int) > 8
    · refine ⟨false, Ev.bind1 (f := fun k t => if t = true then (if (rs.length : Int) > 8 then (some false) else (fastiref15_Few.l0 k 0 ds rs)) else (if (ds.length : Int) ≤ 100 then (some (decide ((rs.length : Int) ≤ 100))) else (some false))) H ?_⟩
      simp only [Bool.not_false, if_true, if_pos h8]
      exact Ev.now _
    · refine ⟨if (List.range rs.length).all (fun i => decide ((rs.getD i z49).f3.length ≤ 20)) then (if cJ ds 1 ≤ 256 then true else decide (cJ ds 1 > 65536)) else false, Ev.bind1 (f := fun k t => if t = true then (if (rs.length : Int) > 8 then (some false) else (fastiref15_Few.l0 k 0 ds rs)) else (if (ds.length : Int) ≤ 100 then (some (decide ((rs.length : Int) ≤ 100))) else (some false))) H ?_⟩
      simp only [Bool.not_false, if_true, if_neg h8]
      refine e6 (fun k i => fastiref15_Few.l0 k (i : Int) ds rs) (fun i => decide ((rs.getD i z49).f3.length ≤ 20)) rs.length _ false ?_ ?_ ?_
      · intro i hi hP r' h'
        have hw := w64s i (by omega)
        have hP := of_decide_eq_true hP
        refine Ev.step (f := fun k => fastiref15_Few.l0 k (wrap64 ((i : Int) + 1)) ds rs) (fun k => ?_) (by rw [hw]; exact h')
        simp only [fastiref15_Few.l0]
        rw [if_pos (by omega), if_pos (by omega), T49n, if_neg (by omega)]
      · intro i hi hP
        have hP := of_decide_eq_false hP
        refine Ev.eq fun k => ?_
        simp only [fastiref15_Few.l0]
        rw [if_pos (by omega), if_pos (by omega), T49n, if_pos (by omega)]
      · intro _
        have T := tries_ref ds rs h3 (by omega)
        refine Ev.step (f := fun k => (fastiref15_Tries.f k ds rs).bind fun t317 => if t317 ≤ 256 then some true else (fastiref15_Tries.f k ds rs).bind fun t318 => some (decide (t318 > 65536))) (fun k => ?_) ?_
        · simp only [fastiref15_Few.l0]
          rw [if_neg (by omega)]
        · refine Ev.bind1 (f := fun k t317 => if t317 ≤ 256 then some true else (fastiref15_Tries.f k ds rs).bind fun t318 => some (decide (t318 > 65536))) T ?_
          by_cases hq : cJ ds 1 ≤ 256
          · simp only [if_pos hq]
            exact Ev.now _
          · simp only [if_neg hq]
            exact Ev.bind1 (f := fun k t318 => some (decide (t318 > 65536))) T (Ev.now _)
  · rw [hs] at H
    refine ⟨if (ds.length : Int) ≤ 100 then decide ((rs.length : Int) ≤ 100) else false, Ev.bind1 (f := fun k t => if t = true then (if (rs.length : Int) > 8 then (some false) else (fastiref15_Few.l0 k 0 ds rs)) else (if (ds.length : Int) ≤ 100 then (some (decide ((rs.length : Int) ≤ 100))) else (some false))) H ?_⟩
    simp only [Bool.not_true, Bool.false_eq_true, if_false]
    by_cases h : (ds.length : Int) ≤ 100
    · simp only [if_pos h]; exact Ev.now _
    · simp only [if_neg h]; exact Ev.now _
def chk (ds : M) (rs : List S49) : Int := if longB ds rs then 2 else if ds.length = 0 then 150 else if ds.all fI then (if rs.all (fun r => validB r (ds.length : Int)) then (if cJ ds 1 > 65536 then 2 else 0) else 150) else 150
end Go.Proofs.Ytcbpkdemcdikaaa.QC
namespace Go.Proofs.Ytcbpkdemcdikaaa.QP
open Go.RowKit Go.Proofs.Ytcbpkdemcdikaaa.X Go.Proofs.Ytcbpkdemcdikaaa.X.SF Go.Proofs.Ytcbpkdemcdikaaa.X.DF Go.Proofs.Ytcbpkdemcdikaaa.K Go.Proofs.YtcbpkdemcdikaaaW.PrintWords Go.Proofs.Ytcbpkdemcdikaaa.QB Go.Proofs.Ytcbpkdemcdikaaa.QC
set_option linter.unusedVariables false
set_option linter.unusedSimpArgs false
theorem dom_pos {l : List Int} (h : fI l = true) : 0 < l.length := by
  unfold fI at h
  simp only [Bool.and_eq_true, decide_eq_true_eq] at h
  exact h.1
theorem eL {l : List Int} (h : fI l = true) {i : Nat} (hi : i < l.length) : stepB l i = true := by
  unfold fI at h
  simp only [Bool.and_eq_true, List.all_eq_true, List.mem_range] at h
  exact h.2 i hi
theorem chain {l : List Int} (h : ∀ i, i + 1 < l.length → rd l (i : Int) < rd l ((i + 1 : Nat) : Int)) : ∀ m i, i + m < l.length → rd l (i : Int) ≤ rd l ((i + m : Nat) : Int) := by
  intro m
  induction m with
  | zero => intro i _; exact Int.le_refl _
  | succ m ih =>
    intro i hi
    have a := ih i (by omega)
    have b := h (i + m) (by omega)
    exact Int.le_trans a (Int.le_of_lt b)
theorem dom_of {l : List Int} (h0 : 0 < l.length) (h1 : 0 ≤ rd l 0) (h2 : rd l ((l.length - 1 : Nat) : Int) ≤ 73048) (h : ∀ i, i + 1 < l.length → rd l (i : Int) < rd l ((i + 1 : Nat) : Int)) : fI l = true := by
  unfold fI
  rw [decide_eq_true h0, Bool.true_and, List.all_eq_true]
  intro i hi
  have hi := List.mem_range.1 hi
  have a := chain h i 0 (by omega)
  have b := chain h (l.length - 1 - i) i (by omega)
  rw [show 0 + i = i by omega] at a
  rw [show i + (l.length - 1 - i) = l.length - 1 by omega] at b
  have a' : rd l 0 ≤ rd l (i : Int) := a
  simp only [stepB, Bool.and_eq_true, Bool.or_eq_true, decide_eq_true_eq]
  refine ⟨⟨by omega, by omega⟩, ?_⟩
  by_cases hz : i = 0
  · exact .inl hz
  · have := h (i - 1) (by omega)
    rw [show i - 1 + 1 = i by omega] at this
    exact .inr this
theorem dom_range {l : List Int} (h : fI l = true) {v : Int} (hv : v ∈ l) : 0 ≤ v ∧ v ≤ 73048 := by
  obtain ⟨i, hi, rfl⟩ := List.mem_iff_getElem.1 hv
  have := eL h hi
  simp only [stepB, Bool.and_eq_true, Bool.or_eq_true, decide_eq_true_eq, rd_lt hi] at this
  exact this.1
theorem dom_asc {l : List Int} (h : fI l = true) : asc l = true := by
  refine asc_of fun i hi => ?_
  have := eL h hi
  simp only [stepB, Bool.and_eq_true, Bool.or_eq_true, decide_eq_true_eq] at this
  have h2 := this.2.resolve_left (by omega)
  rw [show i + 1 - 1 = i by omega, rd_lt hi, rd_lt (show i < l.length by omega)] at h2
  exact h2
theorem w64q (j : Nat) (h : j < 4611686018427387904) : wrap64 (((j + 1 : Nat) : Int) - 1) = (j : Int) := by unfold wrap64; omega
def capF : M → Int → Int
  | [], n => n
  | d :: ds, n => capF ds (mn (n * (d.length : Int)) 65537)
theorem cap_full : ∀ (ds : M), (∀ d ∈ ds, 0 < d.length) → capF ds 65537 = 65537
  | [], _ => rfl
  | d :: ds, h => by
    have hd := h d (by simp)
    have h2 : (65537 : Int) ≤ 65537 * (d.length : Int) := by
      have := Int.mul_le_mul_of_nonneg_left (show (1 : Int) ≤ (d.length : Int) by omega) (show (0 : Int) ≤ 65537 by omega)
      omega
    have : mn (65537 * (d.length : Int)) 65537 = 65537 := by unfold mn; split <;> omega
    rw [capF, this]
    exact cap_full ds fun d hd => h d (by simp [hd])
theorem cap_tries : ∀ (ds : M) (n : Int), (∀ d ∈ ds, 0 < d.length) → 1 ≤ n → n ≤ 65536 → (capF ds n > 65536 ↔ cJ ds n > 65536)
  | [], n, _, _, _ => Iff.rfl
  | d :: ds, n, h, h1, h2 => by
    have hd := h d (by simp)
    have hs : ∀ d ∈ ds, 0 < d.length := fun d hd => h d (by simp [hd])
    have hp : n ≤ n * (d.length : Int) := by
      have := Int.mul_le_mul_of_nonneg_left (show (1 : Int) ≤ (d.length : Int) by omega) (show (0 : Int) ≤ n by omega)
      omega
    rw [capF, cJ, if_pos h2]
    by_cases hb : n * (d.length : Int) ≤ 65536
    · have : mn (n * (d.length : Int)) 65537 = n * (d.length : Int) := by unfold mn; split <;> omega
      rw [this]
      exact cap_tries ds _ hs (by omega) hb
    · have : mn (n * (d.length : Int)) 65537 = 65537 := by unfold mn; split <;> omega
      rw [this, cap_full ds hs]
      have ht : cJ ds (n * (d.length : Int)) = n * (d.length : Int) := by
        cases ds with
        | nil => rfl
        | cons e es => rw [cJ, if_neg hb]
      rw [ht]
      omega
theorem check_l0 (ds : M) (rs : List S49) (hs : ∀ d ∈ ds, d.length ≤ 16) (hl : ds.length ≤ 12) : ∀ (m i : Nat) (a : Int) (r : Int), i + m = ds.length → 1 ≤ a → a ≤ 65537 →
    ((∀ d ∈ ds.drop i, fI d = true) → Ev (fun k => search_Check.l2 k (capF (ds.drop i) a) rs (rs.length : Int) 0 ds rs) r) → Ev (fun k => search_Check.l0 k a ds (ds.length : Int) (i : Int) ds rs) (if (ds.drop i).all fI then r else 150) := by
  intro m
  induction m with
  | zero =>
    intro i a r hi h1 h2 h
    rw [List.drop_of_length_le (by omega)] at h ⊢
    refine Ev.step (f := fun k => search_Check.l2 k a rs (rs.length : Int) 0 ds rs) (fun k => ?_) (h (by simp))
    simp only [search_Check.l0]
    rw [if_neg (by omega)]
  | succ m ih =>
    intro i a r hi h1 h2 h
    have hil : i < ds.length := by omega
    have hd := hs _ (List.getElem_mem hil)
    rw [fD hil] at h ⊢
    rw [List.all_cons]
    obtain ⟨d, he⟩ : ∃ d, ds[i] = d := ⟨_, rfl⟩
    have hg : aJ ds (i : Int) = d := by rw [L1n, dz hil, he]
    rw [he] at hd h ⊢
    have no : fI d = false → (if (fI d && (ds.drop (i + 1)).all fI) = true then r else 150) = 150 := fun h => by rw [h]; rfl
    by_cases k0 : d.length = 0
    · rw [no (by unfold fI; rw [decide_eq_false (by omega)]; rfl)]
      refine Ev.step (f := fun k => search_Check.j1 k a d ds (ds.length : Int) (i : Int) true ds rs) (fun k => ?_) (Ev.eq fun k => rfl)
      simp only [search_Check.l0, hg]
      rw [if_pos (by omega), if_pos (by omega), if_pos (by omega), if_pos (by omega)]
    · by_cases k1 : rd d 0 < 0
      · rw [no (by
          cases hb : fI d with
          | false => rfl
          | true =>
            have := eL hb (show 0 < d.length by omega)
            simp only [stepB, Bool.and_eq_true, decide_eq_true_eq] at this
            have := this.1.1
            exact absurd this (by show ¬ 0 ≤ rd d 0; omega))]
        refine Ev.step (f := fun k => search_Check.j1 k a d ds (ds.length : Int) (i : Int) true ds rs) (fun k => ?_) (Ev.eq fun k => rfl)
        simp only [search_Check.l0, hg]
        rw [if_pos (by omega), if_pos (by omega), if_pos (by omega), if_neg (by omega), if_pos (by omega), if_pos k1]
      · have hp := w64p d.length (by omega) (by omega)
        by_cases k2 : rd d ((d.length - 1 : Nat) : Int) > 73048
        · rw [no (by
            cases hb : fI d with
            | false => rfl
            | true =>
              have := eL hb (show d.length - 1 < d.length by omega)
              simp only [stepB, Bool.and_eq_true, decide_eq_true_eq] at this
              omega)]
          refine Ev.step (f := fun k => search_Check.j1 k a d ds (ds.length : Int) (i : Int) true ds rs) (fun k => ?_) (Ev.eq fun k => rfl)
          simp only [search_Check.l0, hg, hp]
          rw [if_pos (by omega), if_pos (by omega), if_pos (by omega), if_neg (by omega), if_pos (by omega), if_neg k1, if_pos (by omega), if_pos (by omega), decide_eq_true k2]
        · refine Ev.step (f := fun k => search_Check.j1 k a d ds (ds.length : Int) (i : Int) false ds rs) (fun k => ?_) (Ev.step (f := fun k => search_Check.l1 k a d 1 ds (ds.length : Int) (i : Int) ds rs) (fun k => rfl) ?_)
          · simp only [search_Check.l0, hg, hp]
            rw [if_pos (by omega), if_pos (by omega), if_pos (by omega), if_neg (by omega), if_pos (by omega), if_neg k1, if_pos (by omega), if_pos (by omega), decide_eq_false k2]
          · have L := e6 (fun k j => search_Check.l1 k a d ((j + 1 : Nat) : Int) ds (ds.length : Int) (i : Int) ds rs) (fun j => decide (rd d (j : Int) < rd d ((j + 1 : Nat) : Int))) (d.length - 1) (if (ds.drop (i + 1)).all fI then r else 150) 150 ?_ ?_ ?_
            · have e : fI d = (List.range (d.length - 1)).all fun j => decide (rd d (j : Int) < rd d ((j + 1 : Nat) : Int)) := by
                rw [Bool.eq_iff_iff, List.all_eq_true]
                constructor
                · intro hb j hj
                  have hj := List.mem_range.1 hj
                  have := eL hb (show j + 1 < d.length by omega)
                  simp only [stepB, Bool.and_eq_true, Bool.or_eq_true, decide_eq_true_eq] at this
                  rw [show j + 1 - 1 = j by omega] at this
                  exact decide_eq_true (this.2.resolve_left (by omega))
                · intro ha
                  exact dom_of (by omega) (by omega) (by omega) fun j hj => of_decide_eq_true (ha j (List.mem_range.2 (by omega)))
              rw [e]
              cases hb : (List.range (d.length - 1)).all fun j => decide (rd d (j : Int) < rd d ((j + 1 : Nat) : Int))
              · rw [hb] at L
                exact L
              · rw [hb] at L
                rw [Bool.true_and]
                exact L
            · intro j hj hP r' h'
              have hP := of_decide_eq_true hP
              clear hp
              have g1 : ((j + 1 : Nat) : Int) < (d.length : Int) := by omega
              have g2 : (0 : Int) ≤ (j : Int) := by omega
              have g3 : (j : Int) < (d.length : Int) := by omega
              have g4 : (0 : Int) ≤ ((j + 1 : Nat) : Int) := by omega
              have g5 : ¬ rd d (j : Int) ≥ rd d ((j + 1 : Nat) : Int) := by omega
              have g6 : j < 4611686018427387904 := by omega
              have g7 : j + 1 < 4611686018427387904 := by omega
              refine Ev.step (f := fun k => search_Check.l1 k a d (wrap64 (((j + 1 : Nat) : Int) + 1)) ds (ds.length : Int) (i : Int) ds rs) (fun k => ?_) (by rw [w64s (j + 1) g7]; exact h')
              simp only [search_Check.l1, w64q j g6]
              rw [if_pos g1, if_pos g2, if_pos g3, if_pos g4, if_neg g5]
            · intro j hj hP
              have hP := of_decide_eq_false hP
              clear hp
              have g1 : ((j + 1 : Nat) : Int) < (d.length : Int) := by omega
              have g2 : (0 : Int) ≤ (j : Int) := by omega
              have g3 : (j : Int) < (d.length : Int) := by omega
              have g4 : (0 : Int) ≤ ((j + 1 : Nat) : Int) := by omega
              have g5 : rd d (j : Int) ≥ rd d ((j + 1 : Nat) : Int) := by omega
              have g6 : j < 4611686018427387904 := by omega
              refine Ev.eq fun k => ?_
              simp only [search_Check.l1, w64q j g6]
              rw [if_pos g1, if_pos g2, if_pos g3, if_pos g4, if_pos g5]
            · intro hall
              clear hp
              have hdb : fI d = true := dom_of (by omega) (by omega) (by omega) fun j hj => of_decide_eq_true (hall j (by omega))
              have hw := w64s i (by omega)
              have hm1 : a ≤ a * (d.length : Int) := by
                have := Int.mul_le_mul_of_nonneg_left (show (1 : Int) ≤ (d.length : Int) by omega) (show (0 : Int) ≤ a by omega)
                omega
              have hm2 : a * (d.length : Int) ≤ 65537 * 16 := Int.mul_le_mul h2 (by omega) (by omega) (by omega)
              have hwm : wrap64 (a * (d.length : Int)) = a * (d.length : Int) := w64 (by omega) (by omega)
              refine Ev.step (f := fun k => search_Check.l0 k (mn (a * (d.length : Int)) 65537) ds (ds.length : Int) ((i + 1 : Nat) : Int) ds rs) (fun k => ?_) (ih (i + 1) _ r (by omega) (by unfold mn; split <;> omega) (by unfold mn; split <;> omega) fun hd' => h fun x hx => ?_)
              · simp only [search_Check.l1]
                rw [if_neg (by omega), hwm, hw]
              · rcases List.mem_cons.1 hx with rfl | hx
                · exact hdb
                · exact hd' x hx
theorem check_prog (ds : M) (rs : List S49) : Ev (fun k => search_Check.f k ds rs) (chk ds rs) := by
  unfold search_Check.f chk
  cases hs : longB ds rs
  · obtain ⟨h1, h2, h3, h4⟩ := shortF hs
    by_cases h0 : ds.length = 0
    · refine Ev.all fun k => ?_
      simp only [search_long.f, hs, Option.bind_some, Bool.false_eq_true, if_false]
      rw [if_pos (by omega), if_pos h0]
    · refine Ev.congr (f := fun k => search_Check.l0 k 1 ds (ds.length : Int) 0 ds rs) (fun k => ?_) ?_
      · simp only [search_long.f, hs, Option.bind_some, Bool.false_eq_true, if_false]
        rw [if_neg (by omega)]
      · simp only [Bool.false_eq_true, if_false, if_neg h0]
        have := check_l0 ds rs h3 (by omega) ds.length 0 1 (if rs.all (fun r => validB r (ds.length : Int)) then (if cJ ds 1 > 65536 then 2 else 0) else 150) (by omega) (by omega) (by omega) fun hd => ?_
        · rw [List.drop_zero] at this
          exact this
        · rw [List.drop_zero] at hd ⊢
          have L := e6 (fun k i => search_Check.l2 k (capF ds 1) rs (rs.length : Int) (i : Int) ds rs) (fun i => validB (rs.getD i z49) (ds.length : Int)) rs.length (if cJ ds 1 > 65536 then 2 else 0) (150 : Int) ?_ ?_ ?_
          · rw [eI rs z49 (fun r => validB r (ds.length : Int))] at L
            exact L
          · intro i hi hP r' h'
            have hw := w64s i (by omega)
            refine Ev.step (f := fun k => search_Check.l2 k (capF ds 1) rs (rs.length : Int) (wrap64 ((i : Int) + 1)) ds rs) (fun k => ?_) (by rw [hw]; exact h')
            simp only [search_Check.l2, search_valid.f, Option.bind_some]
            rw [if_pos (by omega), if_pos (by omega), if_pos (by omega), T49n]
            exact if_pos hP
          · intro i hi hP
            refine Ev.eq fun k => ?_
            simp only [search_Check.l2, search_valid.f, Option.bind_some]
            rw [if_pos (by omega), if_pos (by omega), if_pos (by omega), T49n]
            refine if_neg ?_
            rw [Bool.not_eq_true]
            exact hP
          · intro _
            refine Ev.eq fun k => ?_
            simp only [search_Check.l2]
            rw [if_neg (by omega)]
            have := cap_tries ds 1 (fun d hd' => dom_pos (hd d hd')) (by omega) (by omega)
            by_cases hq : cJ ds 1 > 65536
            · rw [if_pos hq, if_pos (this.2 hq)]
            · rw [if_neg hq, if_neg (fun h => hq (this.1 h))]
  · refine Ev.all fun k => ?_
    simp only [search_long.f, hs, Option.bind_some, if_true]
structure Ok (ds : M) (rs : List S49) : Prop where
  pos : 0 < ds.length
  len : ds.length ≤ 12
  rl : rs.length ≤ 64
  dl : ∀ d ∈ ds, d.length ≤ 16
  rok : ∀ r ∈ rs, r.f2.length ≤ 12 ∧ r.f3.length ≤ 256
  dom : ∀ d ∈ ds, fI d = true
  val : ∀ r ∈ rs, validB r (ds.length : Int) = true
theorem chk_ok {ds : M} {rs : List S49} (h : chk ds rs = 0) : Ok ds rs := by
  unfold chk at h
  cases hs : longB ds rs
  · obtain ⟨h1, h2, h3, h4⟩ := shortF hs
    rw [hs] at h
    simp only [Bool.false_eq_true, if_false] at h
    by_cases h0 : ds.length = 0
    · rw [if_pos h0] at h; omega
    · rw [if_neg h0] at h
      by_cases hd : ds.all fI = true
      · rw [if_pos hd] at h
        by_cases hv : rs.all (fun r => validB r (ds.length : Int)) = true
        · exact ⟨by omega, h1, h2, h3, fun r hr => ⟨(h4 r hr).1, (h4 r hr).2.1⟩, List.all_eq_true.1 hd, List.all_eq_true.1 hv⟩
        · rw [if_neg hv] at h; omega
      · rw [if_neg hd] at h; omega
  · rw [hs] at h
    simp at h
theorem valid_ok {r : S49} {n : Int} (h : validB r n = true) (hl : r.f2.length ≤ 12) : okB r = true ∧ 0 < r.f2.length ∧ 1 ≤ r.f0 ∧ r.f0 ≤ 4 ∧ (∀ k ∈ r.f2, 0 ≤ k ∧ k < n) := by
  unfold validB at h
  by_cases h0 : r.f2.length = 0
  · rw [if_pos h0] at h; cases h
  · rw [if_neg h0] at h
    by_cases h1 : 1 ≤ r.f0 ∧ r.f0 ≤ 4
    · rw [if_neg (fun hh => hh h1)] at h
      cases hv : varsB r.f2 n
      · rw [hv, if_pos rfl] at h; cases h
      · have hk : ∀ k ∈ r.f2, 0 ≤ k ∧ k < n := by
          intro k hk
          obtain ⟨i, hi, rfl⟩ := List.mem_iff_getElem.1 hk
          have := List.all_eq_true.1 hv i (List.mem_range.2 hi)
          simp only [varB, Bool.and_eq_true, decide_eq_true_eq, rd_lt hi] at this
          exact this.1
        refine ⟨?_, by omega, h1.1, h1.2, hk⟩
        unfold okB
        simp only [Bool.and_eq_true, decide_eq_true_eq, List.all_eq_true]
        exact ⟨⟨⟨h1.1, h1.2⟩, fun k hk' => (hk k hk').1⟩, by omega⟩
    · rw [if_pos h1] at h; cases h
end Go.Proofs.Ytcbpkdemcdikaaa.QP
namespace Go.Proofs.Ytcbpkdemcdikaaa.X
open Go.RowKit Go.Proofs.YtcbpkdemcdikaaaW.PrintWords Go.Proofs.YtcbpkdemcdikaaaW.PrintLast Go.Proofs.YtcbpkdemcdikaaaW.PrintMore
attribute [local go_sem] ay az aN aM ao ap aw ax   
set_option linter.unusedVariables false
set_option linter.unusedSimpArgs false
namespace SF
set_option maxHeartbeats 4000000
end SF
end Go.Proofs.Ytcbpkdemcdikaaa.X
namespace Go.Proofs.Ytcbpkdemcdikaaa.X
open Go.RowKit Go.Proofs.YtcbpkdemcdikaaaW.PrintWords Go.Proofs.YtcbpkdemcdikaaaW.PrintLast Go.Proofs.YtcbpkdemcdikaaaW.PrintMore
attribute [local go_sem] ay az aN aM ao ap aw ax   
set_option linter.unusedVariables false
set_option linter.unusedSimpArgs false
end Go.Proofs.Ytcbpkdemcdikaaa.X
namespace Go.Proofs.Ytcbpkdemcdikaaa.QK
open Go.RowKit Go.Proofs.Ytcbpkdemcdikaaa.X Go.Proofs.Ytcbpkdemcdikaaa.X.SF Go.Proofs.Ytcbpkdemcdikaaa.X.DF Go.Proofs.Ytcbpkdemcdikaaa.K Go.Proofs.YtcbpkdemcdikaaaW.PrintWords Go.Proofs.Ytcbpkdemcdikaaa.QB Go.Proofs.Ytcbpkdemcdikaaa.QC Go.Proofs.Ytcbpkdemcdikaaa.QP
set_option linter.unusedVariables false
set_option linter.unusedSimpArgs false
theorem noneB_congr {p q : Int → Int → Bool} {l : List Int} (h : ∀ a ∈ l, ∀ b ∈ l, p a b = q a b) : dZ p l = dZ q l := by
  unfold dZ
  rw [Bool.eq_iff_iff]
  simp only [List.all_eq_true, List.mem_range]
  constructor
  · intro hh i hi j hj
    have := hh i hi j hj
    rwa [h _ (rd_mem (by omega)) _ (rd_mem hi)] at this
  · intro hh i hi j hj
    have := hh i hi j hj
    rwa [← h _ (rd_mem (by omega)) _ (rd_mem hi)] at this
end Go.Proofs.Ytcbpkdemcdikaaa.QK
namespace Go.Proofs.Ytcbpkdemcdikaaa.QX
open Go.RowKit Go.Proofs.Ytcbpkdemcdikaaa.X Go.Proofs.Ytcbpkdemcdikaaa.X.SF Go.Proofs.Ytcbpkdemcdikaaa.X.DF Go.Proofs.Ytcbpkdemcdikaaa.K Go.Proofs.YtcbpkdemcdikaaaW.PrintWords Go.Proofs.Ytcbpkdemcdikaaa.QB Go.Proofs.Ytcbpkdemcdikaaa.QC Go.Proofs.Ytcbpkdemcdikaaa.QP Go.Proofs.Ytcbpkdemcdikaaa.QK
set_option linter.unusedVariables false
set_option linter.unusedSimpArgs false
def compl : M → List Int → List Int → Prop
  | [], x, y => y = x
  | d :: rem, x, y => ∃ v ∈ d, compl rem (x ++ [v]) y
theorem eQ : ∀ {rem : M} {x y : List Int}, compl rem x y → ∃ z, y = x ++ z ∧ z.length = rem.length
  | [], x, y, h => ⟨[], by rw [List.append_nil]; exact h, rfl⟩
  | d :: rem, x, y, ⟨v, _, h⟩ => by
    obtain ⟨z, hz, hl⟩ := eQ h
    exact ⟨v :: z, by rw [hz, List.append_assoc]; rfl, by simp [hl]⟩
theorem rd_app (x z : List Int) (k : Int) (h0 : 0 ≤ k) (h1 : k < (x.length : Int)) : rd (x ++ z) k = rd x k := by
  obtain ⟨n, rfl⟩ : ∃ n : Nat, k = (n : Int) := ⟨k.toNat, by omega⟩
  rw [rdn, rdn, List.getD_eq_getElem?_getD, List.getD_eq_getElem?_getD, List.getElem?_append_left (by omega)]
theorem brokenB_app {r : S49} (hr : ∀ k ∈ r.f2, 0 ≤ k) {x : List Int} (z : List Int) (h : brokenB r x = true) : brokenB r (x ++ z) = true := by
  unfold brokenB at h ⊢
  by_cases ha : r.f2.all (fun k => decide (k < (x.length : Int))) = true
  · rw [if_pos ha] at h
    have hb : r.f2.all (fun k => decide (k < ((x ++ z).length : Int))) = true := by
      rw [List.all_eq_true] at ha ⊢
      intro k hk
      have := of_decide_eq_true (ha k hk)
      exact decide_eq_true (by rw [List.length_append]; omega)
    rw [if_pos hb, show r.f2.map (rd (x ++ z)) = r.f2.map (rd x) from List.map_congr_left fun k hk => rd_app x z k (hr k hk) (of_decide_eq_true (List.all_eq_true.1 ha k hk))]
    exact h
  · rw [if_neg ha] at h
    cases h
def Pos (rs : List S49) : Prop := ∀ r ∈ rs, ∀ k ∈ r.f2, 0 ≤ k
theorem badB_app {rs : List S49} (hr : Pos rs) {x : List Int} (z : List Int) (h : badB rs x = true) : badB rs (x ++ z) = true := by
  unfold badB at h ⊢
  obtain ⟨r, hm, hb⟩ := List.any_eq_true.1 h
  exact List.any_eq_true.2 ⟨r, hm, brokenB_app (hr r hm) z hb⟩
theorem badB_compl {rs : List S49} (hr : Pos rs) {rem : M} {x y : List Int} (h : compl rem x y) (hb : badB rs x = true) : badB rs y = true := by
  obtain ⟨z, rfl, _⟩ := eQ h
  exact badB_app hr z hb
theorem ok_pos {ds : M} {rs : List S49} (h : Ok ds rs) : Pos rs := fun r hr k hk => ((valid_ok (h.val r hr) (h.rok r hr).1).2.2.2.2 k hk).1
theorem gc (bad : List Int → Bool) : ∀ (rem : M) (x y : List Int), sol bad rem x = some y → bad x = false → compl rem x y ∧ bad y = false
  | [], x, y, h, hb => by
    rw [sol] at h
    cases h
    exact ⟨rfl, hb⟩
  | d :: rem, x, y, h, _ => by
    rw [sol] at h
    obtain ⟨v, hv, he⟩ := List.exists_of_findSome?_eq_some h
    by_cases hq : bad (x ++ [v]) = true
    · rw [if_pos hq] at he; cases he
    · rw [if_neg hq] at he
      obtain ⟨h1, h2⟩ := gc bad rem _ y he (by simpa using hq)
      exact ⟨⟨v, hv, h1⟩, h2⟩
def bef : List Int → List Int → Bool
  | a :: x, b :: y => if a = b then bef x y else decide (a < b)
  | _, _ => false
theorem bef_app : ∀ (p a b : List Int), bef (p ++ a) (p ++ b) = bef a b
  | [], _, _ => rfl
  | c :: p, a, b => by
    show (if c = c then bef (p ++ a) (p ++ b) else _) = _
    rw [if_pos rfl]
    exact bef_app p a b
theorem bef_self : ∀ a : List Int, bef a a = false
  | [] => rfl
  | c :: a => by
    show (if c = c then bef a a else _) = _
    rw [if_pos rfl]
    exact bef_self a
theorem sol_least (rs : List S49) (hr : Pos rs) : ∀ (rem : M) (p x : List Int), (∀ d ∈ rem, asc d = true) → compl rem p x → badB rs x = false → ∃ y, sol (badB rs) rem p = some y ∧ bef x y = false
  | [], p, x, _, h, _ => by
    obtain rfl : x = p := h
    exact ⟨x, rfl, bef_self x⟩
  | d :: rem, p, x, hs, h, hb => by
    have hsd := hs d (by simp)
    have hsr : ∀ d ∈ rem, asc d = true := fun d hd => hs d (by simp [hd])
    obtain ⟨v, hv, h⟩ := h
    obtain ⟨yv, hy, hl⟩ := sol_least rs hr rem (p ++ [v]) x hsr h hb
    have hbv : badB rs (p ++ [v]) = false := by
      cases hq : badB rs (p ++ [v]) with
      | false => rfl
      | true => rw [badB_compl hr h hq] at hb; cases hb
    rw [sol]
    have key : ∀ l : List Int, asc l = true → v ∈ l → ∃ y, (l.findSome? fun u => if badB rs (p ++ [u]) = true then none else sol (badB rs) rem (p ++ [u])) = some y ∧ bef x y = false := by
      intro l
      induction l with
      | nil => intro _ hm; cases hm
      | cons u l ih =>
        intro hl' hm
        rw [List.findSome?_cons]
        by_cases hu : u = v
        · subst hu
          rw [hbv, if_neg (by simp), hy]
          exact ⟨yv, rfl, hl⟩
        · have hm' : v ∈ l := by
            rcases List.mem_cons.1 hm with h | h
            · exact absurd h.symm hu
            · exact h
          cases hc : (if badB rs (p ++ [u]) = true then none else sol (badB rs) rem (p ++ [u])) with
          | none => exact ih (asc_cons hl') hm'
          | some y =>
            refine ⟨y, rfl, ?_⟩
            have hlt : u < v := asc_lt hl' v hm'
            by_cases hq : badB rs (p ++ [u]) = true
            · rw [if_pos hq] at hc; cases hc
            · rw [if_neg hq] at hc
              obtain ⟨hcy, _⟩ := gc (badB rs) rem _ y hc (by simpa using hq)
              obtain ⟨z, rfl, _⟩ := eQ hcy
              obtain ⟨z', rfl, _⟩ := eQ h
              rw [List.append_assoc, List.append_assoc, bef_app]
              show (if v = u then bef z' z else decide (v < u)) = false
              rw [if_neg (by omega), decide_eq_false (by omega)]
    exact key d hsd hv
end Go.Proofs.Ytcbpkdemcdikaaa.QX
namespace Go.Proofs.Ytcbpkdemcdikaaa.X
open Go.RowKit Go.Proofs.YtcbpkdemcdikaaaW.PrintWords Go.Proofs.YtcbpkdemcdikaaaW.PrintLast Go.Proofs.YtcbpkdemcdikaaaW.PrintMore
attribute [local go_sem] ay az aN aM ao ap aw ax   
set_option linter.unusedVariables false
set_option linter.unusedSimpArgs false
end Go.Proofs.Ytcbpkdemcdikaaa.X
namespace Go.Proofs.Ytcbpkdemcdikaaa.QS
open Go.RowKit Go.Proofs.Ytcbpkdemcdikaaa.X Go.Proofs.Ytcbpkdemcdikaaa.X.SF Go.Proofs.Ytcbpkdemcdikaaa.X.DF Go.Proofs.Ytcbpkdemcdikaaa.K Go.Proofs.YtcbpkdemcdikaaaW.PrintWords Go.Proofs.Ytcbpkdemcdikaaa.QB Go.Proofs.Ytcbpkdemcdikaaa.QC Go.Proofs.Ytcbpkdemcdikaaa.QP Go.Proofs.Ytcbpkdemcdikaaa.QK
set_option linter.unusedVariables false
set_option linter.unusedSimpArgs false
theorem same_ref (a b : List Int) (hl : a.length ≤ 4096) : Ev (fun k => fastiref15_SameInts.f k a b) (decide (a = b)) := by
  unfold fastiref15_SameInts.f
  by_cases he : a.length = b.length
  · have L := e6 (fun k i => fastiref15_SameInts.l0 k a b (i : Int)) (fun i => decide (rd a (i : Int) = rd b (i : Int))) a.length true false ?_ ?_ ?_
    · rw [ite_tf] at L
      have e : decide (a = b) = (List.range a.length).all fun i => decide (rd a (i : Int) = rd b (i : Int)) := by
        rw [Bool.eq_iff_iff, decide_eq_true_eq, List.all_eq_true]
        constructor
        · rintro rfl i _
          exact decide_eq_true rfl
        · intro h
          refine List.ext_getElem he fun i h1 h2 => ?_
          have := of_decide_eq_true (h i (List.mem_range.2 h1))
          rwa [rd_lt h1, rd_lt h2] at this
      rw [e]
      exact Ev.congr (fun k => if_pos (by omega)) L
    · intro i hi hP r h'
      have hP := of_decide_eq_true hP
      refine Ev.step (f := fun k => fastiref15_SameInts.l0 k a b (wrap64 ((i : Int) + 1))) (fun k => ?_) (by rw [w64s i (by omega)]; exact h')
      simp only [fastiref15_SameInts.l0]
      rw [if_pos (by omega), if_pos (by omega), if_pos (by omega), if_pos hP]
    · intro i hi hP
      have hP := of_decide_eq_false hP
      refine Ev.eq fun k => ?_
      simp only [fastiref15_SameInts.l0]
      rw [if_pos (by omega), if_pos (by omega), if_pos (by omega), if_neg hP]
    · intro _
      refine Ev.eq fun k => ?_
      simp only [fastiref15_SameInts.l0]
      rw [if_neg (by omega)]
  · rw [decide_eq_false (fun h => he (by rw [h]))]
    exact Ev.congr (fun k => if_neg (by omega)) (Ev.now _)
theorem bad_nil {ds : M} {rs : List S49} (h : Ok ds rs) : badB rs [] = false := by
  unfold badB
  rw [List.any_eq_false]
  intro r hr hb
  obtain ⟨_, h0, _, _, hk⟩ := valid_ok (h.val r hr) (h.rok r hr).1
  have := brokenB_no r [] 0 h0 (by
    have := (hk _ (List.getElem_mem h0)).1
    have e : rd r.f2 ((0 : Nat) : Int) = r.f2[0] := rd_lt h0
    rw [e]
    simpa using this)
  rw [this] at hb
  cases hb
def gb (ds : M) (rs : List S49) : List Int × Bool × Int := if chk ds rs = 0 then ((sol (badB rs) ds []).getD [], (sol (badB rs) ds []).isSome, 0) else ([], false, chk ds rs)
theorem ok_guard {ds : M} {rs : List S49} (h : Ok ds rs) : rs.all okB = true := by
  rw [List.all_eq_true]
  intro r hr
  exact (valid_ok (h.val r hr) (h.rok r hr).1).1
theorem fb (ds : M) (rs : List S49) : Ev (fun k => search_Solve.f k ds rs) (gb ds rs) := by
  unfold search_Solve.f gb
  refine Ev.bind1 (f := fun k t => if t = 0 then ((search_solve.f ds rs).bind fun hI => some (hI.1, hI.2, 0)) else some ([], false, t)) (check_prog ds rs) ?_
  by_cases hc : chk ds rs = 0
  · have h := chk_ok hc
    have e : search_solve.f ds rs = some ((sol (badB rs) ds []).getD [], (sol (badB rs) ds []).isSome) := by
      unfold search_solve.f
      rw [ok_guard h, decide_eq_true h.pos, decide_eq_true (show ds.length ≤ 1000 by have := h.len; omega)]
      rfl
    simp only [if_pos hc, e, Option.bind_some]
    exact Ev.now _
  · simp only [if_neg hc]
    exact Ev.now _
end Go.Proofs.Ytcbpkdemcdikaaa.QS
namespace Go.Proofs.Ytcbpkdemcdikaaa.X
open Go.RowKit Go.Proofs.YtcbpkdemcdikaaaW.PrintWords Go.Proofs.YtcbpkdemcdikaaaW.PrintLast Go.Proofs.YtcbpkdemcdikaaaW.PrintMore
attribute [local go_sem] ay az aN aM ao ap aw ax   
set_option linter.unusedVariables false
set_option linter.unusedSimpArgs false
end Go.Proofs.Ytcbpkdemcdikaaa.X
