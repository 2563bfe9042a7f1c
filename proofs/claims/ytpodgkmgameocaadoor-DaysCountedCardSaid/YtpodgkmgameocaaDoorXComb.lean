/- Proved here: what days.combine, Union, Meet and Without return (CM) -/
import Derived.Test.YtpodgkmgameocaaDoorX0
import Derived.Test.YtpodgkmgameocaaDoorK
import Derived.Test.YtpodgkmgameocaaDoorX5
import Derived.Test.YtpodgkmgameocaaDoorXSets
import Derived.Test.YtpodgkmgameocaaDoorXCombp
import Derived.Test.YtpodgkmgameocaaDoorXRangec
import Derived.Test.YtpodgkmgameocaaDoorXIter
import Derived.RangeFuncCalls
import Derived.Maps.OwnIn
namespace Go.Proofs.YtpodgkmgameocaaDoor.X
open Go.RowKit Go.Proofs.YtpodgkmgameocaaDoorW.PrintWords Go.Proofs.YtpodgkmgameocaaDoorW.PrintLast Go.Proofs.YtpodgkmgameocaaDoorW.PrintMore
attribute [local go_sem] max2_int min2_int max_two min_two max_three min_three max_four min_four
set_option linter.unusedVariables false
set_option linter.unusedSimpArgs false
namespace CM
open Go.Proofs.YtpodgkmgameocaaDoor.K RC CB
attribute [local go_sem] Oper.semAt_some
set_option maxHeartbeats 4000000
theorem in38 (x y : Bool) (W : World) : Calls Tryd.prog 38 #[.bool x, .bool y] W fun e w' => e = .returned (.bool (x || y)) ∧ w' = W := by
  cases x
  · go_enter Tryd.func38, Tryd.ntmps38
    go_wp2
    go_ret
    exact ⟨rfl, rfl⟩
  · go_enter Tryd.func38, Tryd.ntmps38
    go_wp2
    go_ret
    exact ⟨rfl, rfl⟩
theorem in40 (x y : Bool) (W : World) : Calls Tryd.prog 40 #[.bool x, .bool y] W fun e w' => e = .returned (.bool (x && y)) ∧ w' = W := by
  cases x
  · go_enter Tryd.func40, Tryd.ntmps40
    go_wp2
    go_ret
    exact ⟨rfl, rfl⟩
  · go_enter Tryd.func40, Tryd.ntmps40
    go_wp2
    go_ret
    exact ⟨rfl, rfl⟩
theorem in41 (x y : Bool) (W : World) : Calls Tryd.prog 41 #[.bool x, .bool y] W fun e w' => e = .returned (.bool (x && !y)) ∧ w' = W := by
  cases x
  · go_enter Tryd.func41, Tryd.ntmps41
    go_wp2
    go_ret
    exact ⟨rfl, rfl⟩
  · go_enter Tryd.func41, Tryd.ntmps41
    go_wp2
    go_ret
    exact ⟨rfl, rfl⟩
set_option maxRecDepth 100000 in
theorem comb_bad (fi : Nat) (A0 : Option Addr) (c0 : Nat) (l0 : List S45) (A1 : Option Addr) (c1 : Nat) (l1 : List S45) (w : World)
    (hr0 : Kd.C k45 w A0 l0.length l0) (hc0 : l0.length ≤ c0) (hr1 : Kd.C k45 w A1 l1.length l1) (hc1 : l1.length ≤ c1) (v : Int) (hv : v ≠ 0) (he : SS.chk l0 = v ∨ (SS.chk l0 = 0 ∧ SS.chk l1 = v)) :
    Calls Tryd.prog 37 #[.slice A0 l0.length c0, .slice A1 l1.length c1, .func (.func fi) #[] #[]] w fun e w' => e = .returned (.tuple #[.slice none 0 0, .int .i64 v]) ∧ Below w.heap.size w w' := by
  obtain ⟨k0, hk0⟩ := (SS.chk_ev l0).rounds
  obtain ⟨k1, hk1⟩ := (SS.chk_ev l1).rounds
  obtain ⟨n0, hn0⟩ : ∃ n0 : Nat, l0.length = n0 := ⟨_, rfl⟩
  obtain ⟨n1, hn1⟩ : ∃ n1 : Nat, l1.length = n1 := ⟨_, rfl⟩
  have HR0 := Aside0.mk hr0
  have HR1 := Aside0.mk hr1
  have HC0 := Aside0.mk hc0
  have HC1 := Aside0.mk hc1
  have HK0 := Aside0.mk hk0
  have HK1 := Aside0.mk hk1
  have HE := Aside0.mk he
  have HN := Aside0.mk (And.intro hn0 hn1)
  rw [hn0, hn1]
  clear hr0 hr1 hc0 hc1 hk0 hk1 he hn0 hn1
  go_enter Tryd.func37, Tryd.ntmps37
  go_wp2_with fail
  have hB := below_alloc (below_alloc (below_alloc (Below.refl w.heap.size w) (.cells #[.func (.func fi) #[] #[]] 54)) (.cells #[.slice none 0 0] 32)) (.cells #[.slice A0 n0 c0, .slice A1 n1 c1] 32)
  have b1 := blk_alloc (CT.blk_here (w.alloc (.cells #[.func (.func fi) #[] #[]] 54)) (.cells #[.slice none 0 0] 32) (k := w.heap.size + 1) (by simp)) (.cells #[.slice A0 n0 c0, .slice A1 n1 c1] 32)
  have b2 := CT.blk_here ((w.alloc (.cells #[.func (.func fi) #[] #[]] 54)).alloc (.cells #[.slice none 0 0] 32)) (.cells #[.slice A0 n0 c0, .slice A1 n1 c1] 32) (k := w.heap.size + 1 + 1) (by simp)
  obtain ⟨W3, hW3⟩ : ∃ W3, ((w.alloc (Obj.cells #[Value.func (Fn.func fi) #[] #[]] 54)).alloc (Obj.cells #[Value.slice none 0 0] 32)).alloc (Obj.cells #[Value.slice A0 n0 c0, Value.slice A1 n1 c1] 32) = W3 := ⟨_, rfl⟩
  rw [hW3] at hB b1 b2 ⊢
  clear hW3
  have HB := Aside0.mk hB
  have B1 := Aside0.mk b1
  have B2 := Aside0.mk b2
  clear hB b1 b2
  refine wp_loop_ghost_k (fun q a W => ∃ (i : Int) (u : Nat → Value), q = (2 - i).toNat ∧ (i = 0 ∨ (i = 1 ∧ SS.chk l0 = 0)) ∧ Below w.heap.size w W ∧ W.heap[w.heap.size + 1]? = some (.cells #[.slice none 0 0] 32 (0, 0)) ∧ W.heap[w.heap.size + 1 + 1]? = some (.cells #[.slice A0 n0 c0, .slice A1 n1 c1] 32 (0, 0)) ∧ a = { tmps := List.toArray ((.slice A0 n0 c0 : Value) :: (.slice A1 n1 c1 : Value) :: (.func (.func fi) #[] #[] : Value) :: u 3 :: u 4 :: (.pointer (some ⟨w.heap.size, 0, none⟩) : Value) :: (.pointer (some ⟨w.heap.size + 1, 0, none⟩) : Value) :: (.int .i64 0 : Value) :: u 8 :: u 9 :: u 10 :: u 11 :: u 12 :: u 13 :: u 14 :: u 15 :: (.slice (some ⟨w.heap.size + 1 + 1, 0, none⟩) 2 2 : Value) :: (.int .i64 2 : Value) :: (.int .i64 i : Value) :: u 19 :: u 20 :: u 21 :: u 22 :: u 23 :: u 24 :: u 25 :: u 26 :: u 27 :: u 28 :: u 29 :: u 30 :: u 31 :: u 32 :: u 33 :: u 34 :: u 35 :: u 36 :: u 37 :: u 38 :: u 39 :: u 40 :: u 41 :: u 42 :: u 43 :: u 44 :: u 45 :: u 46 :: u 47 :: u 48 :: u 49 :: u 50 :: u 51 :: u 52 :: u 53 :: u 54 :: u 55 :: u 56 :: u 57 :: u 58 :: u 59 :: u 60 :: u 61 :: u 62 :: u 63 :: u 64 :: u 65 :: u 66 :: u 67 :: u 68 :: []), defers := [] }) 2 ?start ?round
  case start =>
    have sta : ∀ T : Array Value, T = List.toArray ((.slice A0 n0 c0 : Value) :: (.slice A1 n1 c1 : Value) :: (.func (.func fi) #[] #[] : Value) :: T.getD 3 undef :: T.getD 4 undef :: (.pointer (some ⟨w.heap.size, 0, none⟩) : Value) :: (.pointer (some ⟨w.heap.size + 1, 0, none⟩) : Value) :: (.int .i64 0 : Value) :: T.getD 8 undef :: T.getD 9 undef :: T.getD 10 undef :: T.getD 11 undef :: T.getD 12 undef :: T.getD 13 undef :: T.getD 14 undef :: T.getD 15 undef :: (.slice (some ⟨w.heap.size + 1 + 1, 0, none⟩) 2 2 : Value) :: (.int .i64 2 : Value) :: (.int .i64 0 : Value) :: T.getD 19 undef :: T.getD 20 undef :: T.getD 21 undef :: T.getD 22 undef :: T.getD 23 undef :: T.getD 24 undef :: T.getD 25 undef :: T.getD 26 undef :: T.getD 27 undef :: T.getD 28 undef :: T.getD 29 undef :: T.getD 30 undef :: T.getD 31 undef :: T.getD 32 undef :: T.getD 33 undef :: T.getD 34 undef :: T.getD 35 undef :: T.getD 36 undef :: T.getD 37 undef :: T.getD 38 undef :: T.getD 39 undef :: T.getD 40 undef :: T.getD 41 undef :: T.getD 42 undef :: T.getD 43 undef :: T.getD 44 undef :: T.getD 45 undef :: T.getD 46 undef :: T.getD 47 undef :: T.getD 48 undef :: T.getD 49 undef :: T.getD 50 undef :: T.getD 51 undef :: T.getD 52 undef :: T.getD 53 undef :: T.getD 54 undef :: T.getD 55 undef :: T.getD 56 undef :: T.getD 57 undef :: T.getD 58 undef :: T.getD 59 undef :: T.getD 60 undef :: T.getD 61 undef :: T.getD 62 undef :: T.getD 63 undef :: T.getD 64 undef :: T.getD 65 undef :: T.getD 66 undef :: T.getD 67 undef :: T.getD 68 undef :: []) → ∃ (i : Int) (u : Nat → Value), 2 = (2 - i).toNat ∧ (i = 0 ∨ (i = 1 ∧ SS.chk l0 = 0)) ∧ Below w.heap.size w W3 ∧ W3.heap[w.heap.size + 1]? = some (.cells #[.slice none 0 0] 32 (0, 0)) ∧ W3.heap[w.heap.size + 1 + 1]? = some (.cells #[.slice A0 n0 c0, .slice A1 n1 c1] 32 (0, 0)) ∧ (Act.mk T []) = { tmps := List.toArray ((.slice A0 n0 c0 : Value) :: (.slice A1 n1 c1 : Value) :: (.func (.func fi) #[] #[] : Value) :: u 3 :: u 4 :: (.pointer (some ⟨w.heap.size, 0, none⟩) : Value) :: (.pointer (some ⟨w.heap.size + 1, 0, none⟩) : Value) :: (.int .i64 0 : Value) :: u 8 :: u 9 :: u 10 :: u 11 :: u 12 :: u 13 :: u 14 :: u 15 :: (.slice (some ⟨w.heap.size + 1 + 1, 0, none⟩) 2 2 : Value) :: (.int .i64 2 : Value) :: (.int .i64 i : Value) :: u 19 :: u 20 :: u 21 :: u 22 :: u 23 :: u 24 :: u 25 :: u 26 :: u 27 :: u 28 :: u 29 :: u 30 :: u 31 :: u 32 :: u 33 :: u 34 :: u 35 :: u 36 :: u 37 :: u 38 :: u 39 :: u 40 :: u 41 :: u 42 :: u 43 :: u 44 :: u 45 :: u 46 :: u 47 :: u 48 :: u 49 :: u 50 :: u 51 :: u 52 :: u 53 :: u 54 :: u 55 :: u 56 :: u 57 :: u 58 :: u 59 :: u 60 :: u 61 :: u 62 :: u 63 :: u 64 :: u 65 :: u 66 :: u 67 :: u 68 :: []), defers := [] } := fun T hT =>
      ⟨0, fun i => T.getD i undef, rfl, .inl rfl, HB.out, B1.out, B2.out, congrArg (fun T => (Act.mk T _)) hT⟩
    exact sta _ rfl
  case round =>
    clear HB B1 B2
    rintro q a W ⟨i, u, rfl, hii, hb, b1, b2, rfl⟩ J K hJ hK
    have x0 := blk_cell b2 0
    have x1 := blk_cell b2 1
    simp only [List.getElem?_toArray, List.getElem?_cons_zero, List.getElem?_cons_succ] at x0 x1
    have HB := Aside0.mk hb
    have B1 := Aside0.mk b1
    have B2 := Aside0.mk b2
    clear hb b1 b2
    rcases hii with rfl | ⟨rfl, hz⟩
    · go_wp2_with fail
      have hcc := days_Check.calls k0 A0 c0 l0 (SS.chk l0) W (Kd.C_below HR0.out HB.out) HC0.out HK0.out
      rw [HN.out.1] at hcc
      refine hcc.mono ?_
      rintro e W1 ⟨rfl, hb1⟩
      have b1 := blk_below B1.out hb1
      have b2 := blk_below B2.out hb1
      have hb := below_then HB.out HB.out.size hb1
      have y1 := blk_cell b1 0
      have z1 := blk_frozen b1 0
      simp only [List.getElem?_toArray, List.getElem?_cons_zero] at y1
      by_cases hc : SS.chk l0 = 0
      · rw [hc]
        have HB1 := Aside0.mk hb
        have B11 := Aside0.mk b1
        have B21 := Aside0.mk b2
        clear b1 b2 hb hb1 hcc y1 z1
        go_wp2_with fail
        have sta : ∀ (T : Array Value), T = List.toArray ((.slice A0 n0 c0 : Value) :: (.slice A1 n1 c1 : Value) :: (.func (.func fi) #[] #[] : Value) :: T.getD 3 undef :: T.getD 4 undef :: (.pointer (some ⟨w.heap.size, 0, none⟩) : Value) :: (.pointer (some ⟨w.heap.size + 1, 0, none⟩) : Value) :: (.int .i64 0 : Value) :: T.getD 8 undef :: T.getD 9 undef :: T.getD 10 undef :: T.getD 11 undef :: T.getD 12 undef :: T.getD 13 undef :: T.getD 14 undef :: T.getD 15 undef :: (.slice (some ⟨w.heap.size + 1 + 1, 0, none⟩) 2 2 : Value) :: (.int .i64 2 : Value) :: (.int .i64 1 : Value) :: T.getD 19 undef :: T.getD 20 undef :: T.getD 21 undef :: T.getD 22 undef :: T.getD 23 undef :: T.getD 24 undef :: T.getD 25 undef :: T.getD 26 undef :: T.getD 27 undef :: T.getD 28 undef :: T.getD 29 undef :: T.getD 30 undef :: T.getD 31 undef :: T.getD 32 undef :: T.getD 33 undef :: T.getD 34 undef :: T.getD 35 undef :: T.getD 36 undef :: T.getD 37 undef :: T.getD 38 undef :: T.getD 39 undef :: T.getD 40 undef :: T.getD 41 undef :: T.getD 42 undef :: T.getD 43 undef :: T.getD 44 undef :: T.getD 45 undef :: T.getD 46 undef :: T.getD 47 undef :: T.getD 48 undef :: T.getD 49 undef :: T.getD 50 undef :: T.getD 51 undef :: T.getD 52 undef :: T.getD 53 undef :: T.getD 54 undef :: T.getD 55 undef :: T.getD 56 undef :: T.getD 57 undef :: T.getD 58 undef :: T.getD 59 undef :: T.getD 60 undef :: T.getD 61 undef :: T.getD 62 undef :: T.getD 63 undef :: T.getD 64 undef :: T.getD 65 undef :: T.getD 66 undef :: T.getD 67 undef :: T.getD 68 undef :: []) → Handed J ((2 : Int) - 0).toNat { tmps := T, defers := [] } W1 := fun T hT =>
          ⟨1, by decide, hJ _ _ _ ⟨1, fun i => T.getD i undef, rfl, .inr ⟨rfl, hc⟩, HB1.out, B11.out, B21.out, congrArg (fun T => (Act.mk T _)) hT⟩⟩
        exact sta _ rfl
      · obtain hcv : SS.chk l0 = v := by
          rcases HE.out with h | ⟨h, _⟩
          · exact h
          · exact absurd h hc
        rw [hcv]
        have hv' : decide (v = 0) = false := decide_eq_false hv
        clear hc hcc b2
        go_wp2_with fail
        have hc5 := World.cell?_setCell_same' W1 ⟨w.heap.size + 1, 0, none⟩ (.slice none 0 0) (by rw [y1]; rfl)
        exact bodyPost_ret (v := .tuple #[.slice none 0 0, .int .i64 v]) (by simp [results, Tryd.results37, go_sem, hc5]) rfl ⟨rfl, hb.setCell (by simp) _⟩
    · have hcv : SS.chk l1 = v := by
        rcases HE.out with h | ⟨_, h⟩
        · exact absurd (h.symm.trans hz) hv
        · exact h
      go_wp2_with fail
      have hcc := days_Check.calls k1 A1 c1 l1 (SS.chk l1) W (Kd.C_below HR1.out HB.out) HC1.out HK1.out
      rw [HN.out.2] at hcc
      refine hcc.mono ?_
      rintro e W1 ⟨rfl, hb1⟩
      have b1 := blk_below B1.out hb1
      have hb := below_then HB.out HB.out.size hb1
      have y1 := blk_cell b1 0
      have z1 := blk_frozen b1 0
      simp only [List.getElem?_toArray, List.getElem?_cons_zero] at y1
      rw [hcv]
      have hv' : decide (v = 0) = false := decide_eq_false hv
      clear hcc hcv
      go_wp2_with fail
      have hc5 := World.cell?_setCell_same' W1 ⟨w.heap.size + 1, 0, none⟩ (.slice none 0 0) (by rw [y1]; rfl)
      exact bodyPost_ret (v := .tuple #[.slice none 0 0, .int .i64 v]) (by simp [results, Tryd.results37, go_sem, hc5]) rfl ⟨rfl, hb.setCell (by simp) _⟩
/-- The frame's three blocks: the function's box, the result, the row of the two lists. -/
structure CMem (fi : Nat) (A0 : Option Addr) (n0 c0 : Nat) (A1 : Option Addr) (n1 c1 : Nat) (w W : World) : Prop where
  bw : Below w.heap.size w W
  b0 : W.heap[w.heap.size]? = some (.cells #[.func (.func fi) #[] #[]] 54 (0, 0))
  b1 : W.heap[w.heap.size + 1]? = some (.cells #[.slice none 0 0] 32 (0, 0))
  b2 : W.heap[w.heap.size + 1 + 1]? = some (.cells #[.slice A0 n0 c0, .slice A1 n1 c1] 32 (0, 0))
/-- What the loop's round works on: the result so far, and whether a span is open. -/
def RMem (fi : Nat) (op : Bool → Bool → Bool) (bn : Nat) (w w2 : World) (pre : List (Int × Bool × Bool)) (W : World) : Prop :=
  ∃ V, Below w.heap.size w W ∧ W.heap[w.heap.size]? = some (.cells #[.func (.func fi) #[] #[]] 54 (0, 0)) ∧ W.heap[w.heap.size + 1]? = some (.cells #[V] 32 (0, 0)) ∧ W.heap[bn]? = some (.cells #[.bool (pre.foldl (SS.step op) ⟨false, []⟩).op] 4 (0, 0)) ∧
    W.ownsRow (w2.heap.size + 3) 45 2 V (pre.foldl (SS.step op) ⟨false, []⟩).out.length (flat (pre.foldl (SS.step op) ⟨false, []⟩).out)
theorem CMem.below {fi : Nat} {A0 : Option Addr} {n0 c0 : Nat} {A1 : Option Addr} {n1 c1 : Nat} {w W W1 : World} (h : CMem fi A0 n0 c0 A1 n1 c1 w W) (hb : Below W.heap.size W W1) : CMem fi A0 n0 c0 A1 n1 c1 w W1 :=
  ⟨below_then h.bw h.bw.size hb, blk_below h.b0 hb, blk_below h.b1 hb, blk_below h.b2 hb⟩
set_option maxRecDepth 100000 in
theorem comb_good (fi : Nat) (op : Bool → Bool → Bool) (hop : ∀ x y W, Calls Tryd.prog fi #[.bool x, .bool y] W fun e w' => e = .returned (.bool (op x y)) ∧ w' = W) (hent : ∀ args w, (callFunc fi args).run Tryd.prog w = .ok (.enter fi args) w)
    (A0 : Option Addr) (c0 : Nat) (l0 : List S45) (A1 : Option Addr) (c1 : Nat) (l1 : List S45) (w : World)
    (hr0 : Kd.C k45 w A0 l0.length l0) (hc0 : l0.length ≤ c0) (hr1 : Kd.C k45 w A1 l1.length l1) (hc1 : l1.length ≤ c1) (h0 : SS.chk l0 = 0) (h1 : SS.chk l1 = 0) :
    Calls Tryd.prog 37 #[.slice A0 l0.length c0, .slice A1 l1.length c1, .func (.func fi) #[] #[]] w fun e w' => ∃ V, e = .returned (.tuple #[V, .int .i64 (SS.comb op l0 l1).2]) ∧ Kd.R k45 45 w' w.heap.size (fun _ => True) V (SS.comb op l0 l1).1 ∧ Below w.heap.size w w' := by
  obtain ⟨k0, hk0⟩ := (SS.chk_ev l0).rounds
  obtain ⟨k1, hk1⟩ := (SS.chk_ev l1).rounds
  obtain ⟨n0, hn0⟩ : ∃ n0 : Nat, l0.length = n0 := ⟨_, rfl⟩
  obtain ⟨n1, hn1⟩ : ∃ n1 : Nat, l1.length = n1 := ⟨_, rfl⟩
  rw [h0] at hk0
  rw [h1] at hk1
  have HR0 := Aside0.mk hr0
  have HR1 := Aside0.mk hr1
  have HC0 := Aside0.mk hc0
  have HC1 := Aside0.mk hc1
  have HK0 := Aside0.mk hk0
  have HK1 := Aside0.mk hk1
  have HZ := Aside0.mk (And.intro h0 h1)
  have HN := Aside0.mk (And.intro hn0 hn1)
  rw [hn0, hn1]
  clear hr0 hr1 hc0 hc1 hk0 hk1 hn0 hn1 h0 h1
  refine (callsIn_wide (n := 3)).1 ?_
  refine callsIn_of_wp_marks Tryd.func37 rfl trivial ?_
  simp only [Tryd.ntmps37, List.size_toArray, List.length_cons, List.length_nil, Nat.reduceAdd, Nat.reduceSub, Array.replicate_succ, Array.replicate_zero, List.push_toArray, List.append_toArray, List.nil_append, List.cons_append]
  gi_wp2_with fail
  have hB := below_alloc (below_alloc (below_alloc (Below.refl w.heap.size w) (.cells #[.func (.func fi) #[] #[]] 54)) (.cells #[.slice none 0 0] 32)) (.cells #[.slice A0 n0 c0, .slice A1 n1 c1] 32)
  have b0 := blk_alloc (blk_alloc (blk_new w (.cells #[.func (.func fi) #[] #[]] 54)) (.cells #[.slice none 0 0] 32)) (.cells #[.slice A0 n0 c0, .slice A1 n1 c1] 32)
  have b1 := blk_alloc (CT.blk_here (w.alloc (.cells #[.func (.func fi) #[] #[]] 54)) (.cells #[.slice none 0 0] 32) (k := w.heap.size + 1) (by simp)) (.cells #[.slice A0 n0 c0, .slice A1 n1 c1] 32)
  have b2 := CT.blk_here ((w.alloc (.cells #[.func (.func fi) #[] #[]] 54)).alloc (.cells #[.slice none 0 0] 32)) (.cells #[.slice A0 n0 c0, .slice A1 n1 c1] 32) (k := w.heap.size + 1 + 1) (by simp)
  obtain ⟨W3, hW3⟩ : ∃ W3, ((w.alloc (Obj.cells #[Value.func (Fn.func fi) #[] #[]] 54)).alloc (Obj.cells #[Value.slice none 0 0] 32)).alloc (Obj.cells #[Value.slice A0 n0 c0, Value.slice A1 n1 c1] 32) = W3 := ⟨_, rfl⟩
  rw [hW3] at hB b0 b1 b2 ⊢
  clear hW3
  have hst3 : CMem fi A0 n0 c0 A1 n1 c1 w W3 := ⟨hB, b0, b1, b2⟩
  have ST3 := Aside0.mk hst3
  clear hB b0 b1 b2 hst3
  refine wpIn_loop_ghost_k (fun q a W => ∃ (i : Int) (u : Nat → Value), q = (2 - i).toNat ∧ (i = 0 ∨ i = 1 ∨ i = 2) ∧ CMem fi A0 n0 c0 A1 n1 c1 w W ∧ a = { tmps := List.toArray ((.slice A0 n0 c0 : Value) :: (.slice A1 n1 c1 : Value) :: (.func (.func fi) #[] #[] : Value) :: u 3 :: u 4 :: (.pointer (some ⟨w.heap.size, 0, none⟩) : Value) :: (.pointer (some ⟨w.heap.size + 1, 0, none⟩) : Value) :: (.int .i64 0 : Value) :: u 8 :: u 9 :: u 10 :: u 11 :: u 12 :: u 13 :: u 14 :: u 15 :: (.slice (some ⟨w.heap.size + 1 + 1, 0, none⟩) 2 2 : Value) :: (.int .i64 2 : Value) :: (.int .i64 i : Value) :: u 19 :: u 20 :: u 21 :: u 22 :: u 23 :: u 24 :: u 25 :: u 26 :: u 27 :: u 28 :: u 29 :: u 30 :: u 31 :: u 32 :: u 33 :: u 34 :: u 35 :: u 36 :: u 37 :: u 38 :: u 39 :: u 40 :: u 41 :: u 42 :: u 43 :: u 44 :: u 45 :: u 46 :: u 47 :: u 48 :: u 49 :: u 50 :: u 51 :: u 52 :: u 53 :: u 54 :: u 55 :: u 56 :: u 57 :: u 58 :: u 59 :: u 60 :: u 61 :: u 62 :: u 63 :: u 64 :: u 65 :: u 66 :: u 67 :: u 68 :: []), defers := [] }) 2 ?start ?round
  case start =>
    have sta : ∀ T : Array Value, T = List.toArray ((.slice A0 n0 c0 : Value) :: (.slice A1 n1 c1 : Value) :: (.func (.func fi) #[] #[] : Value) :: T.getD 3 undef :: T.getD 4 undef :: (.pointer (some ⟨w.heap.size, 0, none⟩) : Value) :: (.pointer (some ⟨w.heap.size + 1, 0, none⟩) : Value) :: (.int .i64 0 : Value) :: T.getD 8 undef :: T.getD 9 undef :: T.getD 10 undef :: T.getD 11 undef :: T.getD 12 undef :: T.getD 13 undef :: T.getD 14 undef :: T.getD 15 undef :: (.slice (some ⟨w.heap.size + 1 + 1, 0, none⟩) 2 2 : Value) :: (.int .i64 2 : Value) :: (.int .i64 0 : Value) :: T.getD 19 undef :: T.getD 20 undef :: T.getD 21 undef :: T.getD 22 undef :: T.getD 23 undef :: T.getD 24 undef :: T.getD 25 undef :: T.getD 26 undef :: T.getD 27 undef :: T.getD 28 undef :: T.getD 29 undef :: T.getD 30 undef :: T.getD 31 undef :: T.getD 32 undef :: T.getD 33 undef :: T.getD 34 undef :: T.getD 35 undef :: T.getD 36 undef :: T.getD 37 undef :: T.getD 38 undef :: T.getD 39 undef :: T.getD 40 undef :: T.getD 41 undef :: T.getD 42 undef :: T.getD 43 undef :: T.getD 44 undef :: T.getD 45 undef :: T.getD 46 undef :: T.getD 47 undef :: T.getD 48 undef :: T.getD 49 undef :: T.getD 50 undef :: T.getD 51 undef :: T.getD 52 undef :: T.getD 53 undef :: T.getD 54 undef :: T.getD 55 undef :: T.getD 56 undef :: T.getD 57 undef :: T.getD 58 undef :: T.getD 59 undef :: T.getD 60 undef :: T.getD 61 undef :: T.getD 62 undef :: T.getD 63 undef :: T.getD 64 undef :: T.getD 65 undef :: T.getD 66 undef :: T.getD 67 undef :: T.getD 68 undef :: []) → ∃ (i : Int) (u : Nat → Value), 2 = (2 - i).toNat ∧ (i = 0 ∨ i = 1 ∨ i = 2) ∧ CMem fi A0 n0 c0 A1 n1 c1 w W3 ∧ (Act.mk T []) = { tmps := List.toArray ((.slice A0 n0 c0 : Value) :: (.slice A1 n1 c1 : Value) :: (.func (.func fi) #[] #[] : Value) :: u 3 :: u 4 :: (.pointer (some ⟨w.heap.size, 0, none⟩) : Value) :: (.pointer (some ⟨w.heap.size + 1, 0, none⟩) : Value) :: (.int .i64 0 : Value) :: u 8 :: u 9 :: u 10 :: u 11 :: u 12 :: u 13 :: u 14 :: u 15 :: (.slice (some ⟨w.heap.size + 1 + 1, 0, none⟩) 2 2 : Value) :: (.int .i64 2 : Value) :: (.int .i64 i : Value) :: u 19 :: u 20 :: u 21 :: u 22 :: u 23 :: u 24 :: u 25 :: u 26 :: u 27 :: u 28 :: u 29 :: u 30 :: u 31 :: u 32 :: u 33 :: u 34 :: u 35 :: u 36 :: u 37 :: u 38 :: u 39 :: u 40 :: u 41 :: u 42 :: u 43 :: u 44 :: u 45 :: u 46 :: u 47 :: u 48 :: u 49 :: u 50 :: u 51 :: u 52 :: u 53 :: u 54 :: u 55 :: u 56 :: u 57 :: u 58 :: u 59 :: u 60 :: u 61 :: u 62 :: u 63 :: u 64 :: u 65 :: u 66 :: u 67 :: u 68 :: []), defers := [] } := fun T hT =>
      ⟨0, fun i => T.getD i undef, rfl, .inl rfl, ST3.out, congrArg (fun T => (Act.mk T _)) hT⟩
    exact sta _ rfl
  case round =>
    clear ST3
    rintro q a W ⟨i, u, rfl, hii, hm, rfl⟩ J K hJ hK
    have x0 := blk_cell hm.b2 0
    have x1 := blk_cell hm.b2 1
    simp only [List.getElem?_toArray, List.getElem?_cons_zero, List.getElem?_cons_succ] at x0 x1
    have HM := Aside0.mk hm
    clear hm
    rcases hii with rfl | rfl | rfl
    · gi_wp2_with fail
      have hcc := days_Check.calls k0 A0 c0 l0 0 W (Kd.C_below HR0.out HM.out.bw) HC0.out HK0.out
      rw [HN.out.1] at hcc
      refine ⟨trivial, ?_⟩
      refine (callsIn_wide.2 hcc).mono ?_
      rintro e W1 ⟨rfl, hb1⟩
      have HM1 := Aside0.mk (HM.out.below hb1)
      clear hcc hb1
      gi_wp2_with fail
      have sta : ∀ (T : Array Value), T = List.toArray ((.slice A0 n0 c0 : Value) :: (.slice A1 n1 c1 : Value) :: (.func (.func fi) #[] #[] : Value) :: T.getD 3 undef :: T.getD 4 undef :: (.pointer (some ⟨w.heap.size, 0, none⟩) : Value) :: (.pointer (some ⟨w.heap.size + 1, 0, none⟩) : Value) :: (.int .i64 0 : Value) :: T.getD 8 undef :: T.getD 9 undef :: T.getD 10 undef :: T.getD 11 undef :: T.getD 12 undef :: T.getD 13 undef :: T.getD 14 undef :: T.getD 15 undef :: (.slice (some ⟨w.heap.size + 1 + 1, 0, none⟩) 2 2 : Value) :: (.int .i64 2 : Value) :: (.int .i64 1 : Value) :: T.getD 19 undef :: T.getD 20 undef :: T.getD 21 undef :: T.getD 22 undef :: T.getD 23 undef :: T.getD 24 undef :: T.getD 25 undef :: T.getD 26 undef :: T.getD 27 undef :: T.getD 28 undef :: T.getD 29 undef :: T.getD 30 undef :: T.getD 31 undef :: T.getD 32 undef :: T.getD 33 undef :: T.getD 34 undef :: T.getD 35 undef :: T.getD 36 undef :: T.getD 37 undef :: T.getD 38 undef :: T.getD 39 undef :: T.getD 40 undef :: T.getD 41 undef :: T.getD 42 undef :: T.getD 43 undef :: T.getD 44 undef :: T.getD 45 undef :: T.getD 46 undef :: T.getD 47 undef :: T.getD 48 undef :: T.getD 49 undef :: T.getD 50 undef :: T.getD 51 undef :: T.getD 52 undef :: T.getD 53 undef :: T.getD 54 undef :: T.getD 55 undef :: T.getD 56 undef :: T.getD 57 undef :: T.getD 58 undef :: T.getD 59 undef :: T.getD 60 undef :: T.getD 61 undef :: T.getD 62 undef :: T.getD 63 undef :: T.getD 64 undef :: T.getD 65 undef :: T.getD 66 undef :: T.getD 67 undef :: T.getD 68 undef :: []) → Handed J ((2 : Int) - 0).toNat { tmps := T, defers := [] } W1 := fun T hT =>
        ⟨1, by decide, hJ _ _ _ ⟨1, fun i => T.getD i undef, rfl, .inr (.inl rfl), HM1.out, congrArg (fun T => (Act.mk T _)) hT⟩⟩
      exact sta _ rfl
    · gi_wp2_with fail
      have hcc := days_Check.calls k1 A1 c1 l1 0 W (Kd.C_below HR1.out HM.out.bw) HC1.out HK1.out
      rw [HN.out.2] at hcc
      refine ⟨trivial, ?_⟩
      refine (callsIn_wide.2 hcc).mono ?_
      rintro e W1 ⟨rfl, hb1⟩
      have HM1 := Aside0.mk (HM.out.below hb1)
      clear hcc hb1
      gi_wp2_with fail
      have sta : ∀ (T : Array Value), T = List.toArray ((.slice A0 n0 c0 : Value) :: (.slice A1 n1 c1 : Value) :: (.func (.func fi) #[] #[] : Value) :: T.getD 3 undef :: T.getD 4 undef :: (.pointer (some ⟨w.heap.size, 0, none⟩) : Value) :: (.pointer (some ⟨w.heap.size + 1, 0, none⟩) : Value) :: (.int .i64 0 : Value) :: T.getD 8 undef :: T.getD 9 undef :: T.getD 10 undef :: T.getD 11 undef :: T.getD 12 undef :: T.getD 13 undef :: T.getD 14 undef :: T.getD 15 undef :: (.slice (some ⟨w.heap.size + 1 + 1, 0, none⟩) 2 2 : Value) :: (.int .i64 2 : Value) :: (.int .i64 2 : Value) :: T.getD 19 undef :: T.getD 20 undef :: T.getD 21 undef :: T.getD 22 undef :: T.getD 23 undef :: T.getD 24 undef :: T.getD 25 undef :: T.getD 26 undef :: T.getD 27 undef :: T.getD 28 undef :: T.getD 29 undef :: T.getD 30 undef :: T.getD 31 undef :: T.getD 32 undef :: T.getD 33 undef :: T.getD 34 undef :: T.getD 35 undef :: T.getD 36 undef :: T.getD 37 undef :: T.getD 38 undef :: T.getD 39 undef :: T.getD 40 undef :: T.getD 41 undef :: T.getD 42 undef :: T.getD 43 undef :: T.getD 44 undef :: T.getD 45 undef :: T.getD 46 undef :: T.getD 47 undef :: T.getD 48 undef :: T.getD 49 undef :: T.getD 50 undef :: T.getD 51 undef :: T.getD 52 undef :: T.getD 53 undef :: T.getD 54 undef :: T.getD 55 undef :: T.getD 56 undef :: T.getD 57 undef :: T.getD 58 undef :: T.getD 59 undef :: T.getD 60 undef :: T.getD 61 undef :: T.getD 62 undef :: T.getD 63 undef :: T.getD 64 undef :: T.getD 65 undef :: T.getD 66 undef :: T.getD 67 undef :: T.getD 68 undef :: []) → Handed J ((2 : Int) - 1).toNat { tmps := T, defers := [] } W1 := fun T hT =>
        ⟨0, by decide, hJ _ _ _ ⟨2, fun i => T.getD i undef, rfl, .inr (.inr rfl), HM1.out, congrArg (fun T => (Act.mk T _)) hT⟩⟩
      exact sta _ rfl
    · clear hJ hK x0 x1
      gi_wp2_with fail
      refine ⟨trivial, ?_⟩
      have hl0 := (chk_ok HZ.out.1)
      have hl1 := (chk_ok HZ.out.2)
      have hB4 := below_alloc HM.out.bw (.cells #[.bool false] 4)
      have b0 := blk_alloc HM.out.b0 (.cells #[.bool false] 4)
      have b1 := blk_alloc HM.out.b1 (.cells #[.bool false] 4)
      have b4 := blk_new W (.cells #[.bool false] 4)
      have hz4 : (W.alloc (.cells #[.bool false] 4)).heap.size = W.heap.size + 1 := by simp
      have hzW := HM.out.bw.size
      have hlW := blk_lt HM.out.b1
      have htc := CT.turns_calls A0 c0 l0 A1 c1 l1 (W.alloc (.cells #[.bool false] 4)) (Kd.C_below HR0.out hB4) HC0.out (Kd.C_below HR1.out hB4) HC1.out hl0.1 hl1.1 (fun x hx => by
        rcases List.mem_append.1 hx with h | h
        · exact (hl0.2 x h).2.2
        · exact (hl1.2 x h).2.2)
      rw [HN.out.1, HN.out.2, hz4] at htc
      refine (callsIn_wide.2 htc).mono ?_
      rintro e w2 ⟨rfl, V, d0, d1, d2, ho, hb2⟩
      rw [← hz4] at hb2
      have hB5 := below_then hB4 hB4.size hb2
      have e0 := blk_below b0 hb2
      have e1 := blk_below b1 hb2
      have e4 := blk_below b4 hb2
      have hz5 : W.heap.size + 1 ≤ w2.heap.size := by rw [← hz4]; exact hb2.size
      obtain ⟨bn, hbn⟩ : ∃ bn, W.heap.size = bn := ⟨_, rfl⟩
      rw [hbn] at d0 d1 d2 ho e4 hz5 hlW hzW ⊢
      have hseq := CI.iter_seq 2 (by omega) (bn + 1) A0 c0 l0 A1 c1 l1 V w w2 (by rw [HN.out.1]; exact d0) (by rw [HN.out.2]; exact d1) d2 ho hB5 (by omega) HR0.out HC0.out HR1.out HC1.out hl0.1 hl1.1
      have hI0 : RMem fi op bn w w2 [] w2 := ⟨_, hB5, e0, e1, e4, World.ownsRow_nil _ _ _ _⟩
      have HS := Aside0.mk hseq
      have HI0 := Aside0.mk hI0
      clear htc hb2 hB4 b0 b1 b4 d0 d1 d2 ho e0 e1 e4 hseq hI0 hl0 hl1 hB5 HM hbn hz4
      gi_wp2_with fail
      refine wpIn_rangeC (F := Fence.wide) (n := 3) rfl (by omega) (gf := 47) (lb := #[.pointer (some ⟨bn + 1, 0, none⟩), .pointer (some ⟨bn + 1 + 1, 0, none⟩), .pointer (some ⟨bn + 1 + 1 + 1, 0, none⟩)]) rfl trivial (enters_of Tryd.func47 (by kernel_rfl) rfl) HS.out (by omega) (by omega) (fun _ => rfl)
        (RMem fi op bn w w2) ?hI HI0.out (fun x a W' => ∃ (b : Nat) (u : Nat → Value), w2.heap.size + 2 < b ∧ W'.heap[b]? = some (.cells #[.bool x.2.1, .bool x.2.2] 59 (0, 0)) ∧ a = { tmps := List.toArray (u 0 :: u 1 :: u 2 :: u 3 :: u 4 :: (.pointer (some ⟨w.heap.size, 0, none⟩) : Value) :: (.pointer (some ⟨w.heap.size + 1, 0, none⟩) : Value) :: u 7 :: u 8 :: u 9 :: (.pointer (some ⟨bn, 0, none⟩) : Value) :: (.int .i64 x.1 : Value) :: (.pointer (some ⟨b, 0, none⟩) : Value) :: u 13 :: u 14 :: u 15 :: u 16 :: u 17 :: u 18 :: u 19 :: u 20 :: u 21 :: u 22 :: u 23 :: u 24 :: u 25 :: u 26 :: u 27 :: u 28 :: u 29 :: u 30 :: u 31 :: u 32 :: u 33 :: u 34 :: u 35 :: u 36 :: u 37 :: u 38 :: u 39 :: u 40 :: u 41 :: u 42 :: u 43 :: u 44 :: u 45 :: u 46 :: u 47 :: u 48 :: u 49 :: u 50 :: u 51 :: u 52 :: u 53 :: u 54 :: u 55 :: u 56 :: u 57 :: u 58 :: u 59 :: u 60 :: u 61 :: u 62 :: u 63 :: u 64 :: u 65 :: u 66 :: u 67 :: u 68 :: []), defers := [] }) ?hRel ?assign ?body ?done
      case hI =>
        rintro s A B row ⟨V1, hb, e0, e1, e4, ho⟩ hg hr
        have kp : ∀ {k : Nat} {o : Obj}, k ≤ bn → A.heap[k]? = some o → B.heap[k]? = some o := fun {k o} hk h => (hg.block k (blk_lt h) (fun e => by have := hr k e.symm; omega)).trans h
        exact ⟨V1, hb.grown hg hb.size (fun k e => by have := hr k e; omega), kp (by omega) e0, kp (by omega) e1, kp (Nat.le_refl _) e4, CI.own_keep ho (fun g hg' => hg.block g (own_lt ho g hg') (fun e => by
          have h1 := own_base ho g hg'
          have h2 := hr g e.symm
          omega))⟩
      case hRel =>
        rintro x a A B ⟨b, u, h1, h2, h3⟩ hg
        exact ⟨b, u, h1, (hg.block b (blk_lt h2) (fun e => by have := Option.some.inj e; omega)).trans h2, h3⟩
      case assign =>
        rintro l ⟨xn, xp, xq⟩ W1 K1 hlt hK1
        simp only [CI.encE]
        gi_wp2
        have sta : ∀ (T : Array Value), T = List.toArray (T.getD 0 undef :: T.getD 1 undef :: T.getD 2 undef :: T.getD 3 undef :: T.getD 4 undef :: (.pointer (some ⟨w.heap.size, 0, none⟩) : Value) :: (.pointer (some ⟨w.heap.size + 1, 0, none⟩) : Value) :: T.getD 7 undef :: T.getD 8 undef :: T.getD 9 undef :: (.pointer (some ⟨bn, 0, none⟩) : Value) :: (.int .i64 xn : Value) :: (.pointer (some ⟨W1.heap.size, 0, none⟩) : Value) :: T.getD 13 undef :: T.getD 14 undef :: T.getD 15 undef :: T.getD 16 undef :: T.getD 17 undef :: T.getD 18 undef :: T.getD 19 undef :: T.getD 20 undef :: T.getD 21 undef :: T.getD 22 undef :: T.getD 23 undef :: T.getD 24 undef :: T.getD 25 undef :: T.getD 26 undef :: T.getD 27 undef :: T.getD 28 undef :: T.getD 29 undef :: T.getD 30 undef :: T.getD 31 undef :: T.getD 32 undef :: T.getD 33 undef :: T.getD 34 undef :: T.getD 35 undef :: T.getD 36 undef :: T.getD 37 undef :: T.getD 38 undef :: T.getD 39 undef :: T.getD 40 undef :: T.getD 41 undef :: T.getD 42 undef :: T.getD 43 undef :: T.getD 44 undef :: T.getD 45 undef :: T.getD 46 undef :: T.getD 47 undef :: T.getD 48 undef :: T.getD 49 undef :: T.getD 50 undef :: T.getD 51 undef :: T.getD 52 undef :: T.getD 53 undef :: T.getD 54 undef :: T.getD 55 undef :: T.getD 56 undef :: T.getD 57 undef :: T.getD 58 undef :: T.getD 59 undef :: T.getD 60 undef :: T.getD 61 undef :: T.getD 62 undef :: T.getD 63 undef :: T.getD 64 undef :: T.getD 65 undef :: T.getD 66 undef :: T.getD 67 undef :: T.getD 68 undef :: []) → K1 { tmps := T, defers := [] } (W1.alloc (.cells #[.bool xp, .bool xq] 59)) := fun T hT =>
          hK1 _ _ (World.grownBy_alloc W1 _ _) ⟨W1.heap.size, fun i => T.getD i undef, hlt, blk_new W1 _, congrArg (fun T => (Act.mk T _)) hT⟩
        exact sta _ rfl
      case body =>
        rintro l pre ⟨xn, xp, xq⟩ a' W1 ⟨V1, hb, e0, e1, e4, ho⟩ ⟨b, u, hlt, hx, rfl⟩ hpre hsz
        simp only at hx
        have hgd := fold_good op pre.length pre rfl
        have hxe := evs_mem HZ.out.1 HZ.out.2 (pre_mem hpre).1
        have hpl : pre.length ≤ 1024 := by
          have h1 := (pre_mem hpre).2
          have h2 := evs_len l0 l1
          have h3 := (chk_ok HZ.out.1).1
          have h4 := (chk_ok HZ.out.2).1
          omega
        simp only at hxe
        obtain ⟨⟨so, sl⟩, hs⟩ : ∃ s, pre.foldl (SS.step op) ⟨false, []⟩ = s := ⟨_, rfl⟩
        have hfs : (pre ++ [(xn, xp, xq)]).foldl (SS.step op) ⟨false, []⟩ = SS.step op ⟨so, sl⟩ (xn, xp, xq) := by rw [fold_snoc, hs]
        rw [hs] at hgd e4 ho
        simp only at e4 ho
        obtain ⟨o, hoo⟩ : ∃ o, op xp xq = o := ⟨_, rfl⟩
        have hstep : SS.step op ⟨so, sl⟩ (xn, xp, xq) = stepO o so sl xn := by rw [← hoo]; exact step_O op so sl xn xp xq
        have hres : ∀ W', (∃ V, Below w.heap.size w W' ∧ W'.heap[w.heap.size]? = some (.cells #[.func (.func fi) #[] #[]] 54 (0, 0)) ∧ W'.heap[w.heap.size + 1]? = some (.cells #[V] 32 (0, 0)) ∧ W'.heap[bn]? = some (.cells #[.bool (SS.step op ⟨so, sl⟩ (xn, xp, xq)).op] 4 (0, 0)) ∧
            W'.ownsRow (w2.heap.size + 3) 45 2 V (SS.step op ⟨so, sl⟩ (xn, xp, xq)).out.length (flat (SS.step op ⟨so, sl⟩ (xn, xp, xq)).out)) → RMem fi op bn w w2 (pre ++ [(xn, xp, xq)]) W' := fun W' h => by
          unfold RMem
          rw [hfs]
          exact h
        rw [hstep] at hres
        have HRES := Aside0.mk hres
        clear hres hstep hfs hs hpre
        have f0 := blk_cell e0 0
        have f1 := blk_cell e1 0
        have f4 := blk_cell e4 0
        have g1 := blk_frozen e1 0
        have g4 := blk_frozen e4 0
        have x0 := blk_cell hx 0
        have x1 := blk_cell hx 1
        simp only [List.getElem?_toArray, List.getElem?_cons_zero, List.getElem?_cons_succ] at f0 f1 f4 x0 x1
        have E0 := Aside0.mk e0
        have E1 := Aside0.mk e1
        have E4 := Aside0.mk e4
        have HO := Aside0.mk ho
        have HBB := Aside0.mk hb
        have HGD := Aside0.mk hgd
        clear e0 e1 e4 ho hb hgd hx
        have kp3 : ∀ {V : Value} {n : Nat} {xs : List Value} {o : Obj} {w3 : World}, W1.ownsRow (w2.heap.size + 3) 45 2 V n xs → (W1.alloc o).grownBy w3 V.ownBlock → ∀ (k : Nat) (o' : Obj), k ≤ bn → W1.heap[k]? = some o' → w3.heap[k]? = some o' := fun {V n xs o w3} ho hg k o' hk h =>
          ((hg.block k (by have := blk_lt h; simp; omega) (fun e => by have := own_base ho k e.symm; omega)).trans (Below.heap_alloc W1 o k (blk_lt h))).trans h
        gi_wp2_with fail
        refine ⟨trivial, ?_⟩
        refine (CallsIn.inRound l (callsIn_wide.2 (hop xp xq W1))).mono ?_
        rintro e W2 ⟨rfl, hW2⟩
        obtain rfl : W1 = W2 := hW2.symm
        rw [hoo]
        clear hop hent hoo hW2 f0 x0 x1
        cases o
        · cases so
          · gi_wp2_with fail
            exact ⟨Below.refl _ _, fun _ _ _ => rfl, HRES.out _ ⟨V1, HBB.out, E0.out, E1.out, E4.out, HO.out⟩⟩
          · obtain ⟨g, cap, hV, hgb⟩ : ∃ g cap, V1 = .slice (some ⟨g, 0, none⟩) sl.length cap ∧ w2.heap.size + 3 ≤ g := by
              obtain ⟨g, cap, h1, h2, _⟩ := World.ownsRow.form HO.out (by have := HGD.out.1 rfl; have := List.length_pos_iff.2 this; omega)
              exact ⟨g, cap, h1, h2⟩
            subst hV
            have hpos : 1 ≤ sl.length := List.length_pos_iff.2 (HGD.out.1 rfl)
            obtain ⟨m, hm⟩ : ∃ m : Nat, sl.length = m + 1 := ⟨sl.length - 1, by omega⟩
            have HM := Aside0.mk hm
            rw [hm] at f1
            have hml : m ≤ 1024 := by have := HGD.out.2; simp only at this; omega
            obtain ⟨y, hy⟩ := flat_last HM.out
            have ce := World.ownsRow.cellAt HO.out (m * 2 + 1) (by omega)
            have fe := World.ownsRow.frozenAt HO.out (m * 2 + 1)
            rw [hy] at ce
            clear hm hpos hy
            gi_wp2_with fail
            have hne : sl ≠ [] := HGD.out.1 rfl
            have hsd := (World.ownsRow.stored HO.out (m * 2 + 1) (.int .i64 (xn - 1))).1
            have k0 := Below.heap_setCell W1 ⟨g, m * 2 + 1, none⟩ (.int .i64 (xn - 1))
            have k4 := Below.heap_setCell (W1.setCell ⟨g, m * 2 + 1, none⟩ (.int .i64 (xn - 1))) ⟨bn, 0, none⟩ (.bool false)
            refine ⟨((Below.refl _ W1).setCell (p := ⟨g, m * 2 + 1, none⟩) (by simp only; omega) _).setCell (p := ⟨bn, 0, none⟩) (by simp only; omega) _, fun k hk _ => (k4 k (by simp only; omega)).trans (k0 k (by simp only; omega)), HRES.out _ ?_⟩
            refine ⟨.slice (some ⟨g, 0, none⟩) sl.length cap, (HBB.out.setCell (p := ⟨g, m * 2 + 1, none⟩) (by simp only; omega) _).setCell (p := ⟨bn, 0, none⟩) (by simp only; omega) _, ?_, ?_, ?_, ?_⟩
            · exact ((k4 _ (by simp only; omega)).trans (k0 _ (by simp only; omega))).trans E0.out
            · exact ((k4 _ (by simp only; omega)).trans (k0 _ (by simp only; omega))).trans E1.out
            · exact blk_set ((k0 bn (by simp only; omega)).trans E4.out) 0 (.bool false)
            · have h := own_setCell hsd (p := ⟨bn, 0, none⟩) (by simp [Value.ownBlock]; omega) (.bool false)
              show World.ownsRow _ _ 45 2 _ (SS.shut (xn - 1) sl).length (flat (SS.shut (xn - 1) sl))
              rw [shut_len, flat_shut _ hne, HM.out, Nat.add_sub_cancel]
              rw [HM.out] at h
              exact h
        · cases so
          · obtain ⟨i0, hi0, hzz⟩ := Option.map_eq_some_iff.1 info45
            simp only [Prod.mk.injEq] at hzz
            obtain ⟨hz0, hs0, hb0⟩ := hzz
            have hsl : sl.length ≤ 1024 := by have := HGD.out.2; simp only at this; omega
            obtain ⟨Ao, co, rfl⟩ := own_slice HO.out
            gi_wp2_with (gi_at_builtin; refine wpListIn_append_own_at _ rfl (.tmp 45) (.tmp 49) 32 rfl (w2.heap.size + 3) 45 i0 (.agg #[.int .i64 0, .int .i64 0]) 2 16 Tryd.underlying32 hi0 hz0 hs0 hb0 rfl (by decide) _ sl.length _ rfl (HO.out.alloc _) ⟨W1.heap.size, 0, none⟩ 1 1 [.int .i64 xn, .int .i64 xn] rfl rfl (CT.new_cells rfl _ 45) (by simp [Value.oneCell']) (by simp only [maxLen]; omega) (by omega) (by simp; omega) ?_; intro v1 w3 ho3 hg3 _ hat; obtain ⟨g3, cap3, hv1e, hgb3, _⟩ := World.ownsRow.form ho3 (by omega); subst hv1e; have hkp := kp3 HO.out hg3; have d1 := hkp _ _ (by omega) E1.out; have d4 := hkp _ _ (by omega) E4.out; have c1 := blk_cell d1 0; have q1 := blk_frozen d1 0; have c4 := blk_cell d4 0; have q4 := blk_frozen d4 0; simp only [List.getElem?_toArray, List.getElem?_cons_zero] at c1 c4)
            have hkp := kp3 HO.out hg3
            have d0 := hkp _ _ (by omega) E0.out
            have d1 := hkp _ _ (by omega) E1.out
            have d4 := hkp _ _ (by omega) E4.out
            have k1 := Below.heap_setCell w3 ⟨w.heap.size + 1, 0, none⟩ (.slice (some ⟨g3, 0, none⟩) (sl.length + 1) cap3)
            have k4 := Below.heap_setCell (w3.setCell ⟨w.heap.size + 1, 0, none⟩ (.slice (some ⟨g3, 0, none⟩) (sl.length + 1) cap3)) ⟨bn, 0, none⟩ (.bool true)
            have hB3 : Below w.heap.size W1 w3 := ((Below.refl w.heap.size W1).alloc (by omega) _).grown hg3 (by simp; omega) (fun k e => by have := own_base HO.out k e; omega)
            refine ⟨(hB3.setCell (p := ⟨w.heap.size + 1, 0, none⟩) (by simp only; omega) _).setCell (p := ⟨bn, 0, none⟩) (by simp only; omega) _, fun k hk hkl => ((k4 k (by simp only; omega)).trans (k1 k (by simp only; omega))).trans ((hg3.block k (by simp; omega) (fun e => by have := own_base HO.out k e.symm; omega)).trans (Below.heap_alloc W1 _ k hkl)), HRES.out _ ?_⟩
            refine ⟨.slice (some ⟨g3, 0, none⟩) (sl.length + 1) cap3, ((HBB.out.trans hB3).setCell (p := ⟨w.heap.size + 1, 0, none⟩) (by simp only; omega) _).setCell (p := ⟨bn, 0, none⟩) (by simp only; omega) _, ?_, ?_, ?_, ?_⟩
            · exact ((k4 _ (by simp only; omega)).trans (k1 _ (by simp only; omega))).trans d0
            · exact (k4 _ (by simp only; omega)).trans (blk_set d1 0 _)
            · exact blk_set ((k1 bn (by simp only; omega)).trans d4) 0 (.bool true)
            · have h := own_setCell (own_setCell ho3 (p := ⟨w.heap.size + 1, 0, none⟩) (by simp [Value.ownBlock]; omega) (.slice (some ⟨g3, 0, none⟩) (sl.length + 1) cap3)) (p := ⟨bn, 0, none⟩) (by simp [Value.ownBlock]; omega) (.bool true)
              show World.ownsRow _ _ 45 2 _ (sl ++ [(⟨xn, xn⟩ : S45)]).length (flat (sl ++ [(⟨xn, xn⟩ : S45)]))
              rw [List.length_append, List.length_singleton, flat_snoc]
              exact h
          · gi_wp2_with fail
            exact ⟨Below.refl _ _, fun _ _ _ => rfl, HRES.out _ ⟨V1, HBB.out, E0.out, E1.out, E4.out, HO.out⟩⟩
      case done =>
        rintro Wd ⟨Vd, hb, e0, e1, e4, ho⟩ hK
        obtain ⟨⟨so, sl⟩, hs⟩ : ∃ s, (SS.evs l0 l1).foldl (SS.step op) ⟨false, []⟩ = s := ⟨_, rfl⟩
        rw [hs] at ho
        simp only at ho
        have f1 := blk_cell e1 0
        have g1 := blk_frozen e1 0
        simp only [List.getElem?_toArray, List.getElem?_cons_zero] at f1
        obtain ⟨Ad, cd, rfl⟩ := own_slice ho
        obtain ⟨nd, hnd⟩ : ∃ nd, sl.length = nd := ⟨_, rfl⟩
        rw [hnd] at f1 e1 ho
        have HOD := Aside0.mk ho
        have HBD := Aside0.mk hb
        have HE1 := Aside0.mk e1
        have HSD := Aside0.mk hs
        have HND := Aside0.mk hnd
        clear ho hb e0 e1 e4 hs hnd
        by_cases hbig : 256 < nd
        · have hd : decide ((nd : Int) > 256) = true := decide_eq_true (by omega)
          have hcm : SS.comb op l0 l1 = ([], 2) := by
            unfold SS.comb
            rw [if_pos HZ.out.1, if_pos HZ.out.2, HSD.out]
            exact if_pos (by rw [← HND.out] at hbig; exact hbig)
          gi_wp2_with fail
          have hK' := (Below.heap_setCell Wd ⟨w.heap.size + 1, 0, none⟩ (.slice none 0 0) w2.heap.size (by simp only; omega)).trans hK
          have hc5 := cell_kept (World.cell?_setCell_same' Wd ⟨w.heap.size + 1, 0, none⟩ (.slice none 0 0) (by rw [f1]; rfl)) (grownBy_putObj' _ w2.heap.size (.deferred none)) (fun r e => by cases e; exact ⟨_, hK', rfl⟩)
          refine ⟨by simp, .inl ⟨_, _, rfl, run_takeDeferred hK', ?_⟩⟩
          refine ⟨.tuple #[(.slice none 0 0), .int .i64 2], by simp [results, Tryd.results37, go_sem, hc5], _, by rw [hcm], ?_, (HBD.out.setCell (p := ⟨w.heap.size + 1, 0, none⟩) (by simp only; omega) _).trans (below_putObj _ _ (by omega))⟩
          rw [hcm]
          exact Kd.R_nil _ _ _ _ _
        · have hd : decide ((nd : Int) > 256) = false := decide_eq_false (by omega)
          have hcm : SS.comb op l0 l1 = (sl, 0) := by
            unfold SS.comb
            rw [if_pos HZ.out.1, if_pos HZ.out.2, HSD.out]
            exact if_neg (by rw [← HND.out] at hbig; exact hbig)
          gi_wp2_with fail
          have hK' := (Below.heap_setCell Wd ⟨w.heap.size + 1, 0, none⟩ (.slice Ad nd cd) w2.heap.size (by simp only; omega)).trans hK
          have hc5 := cell_kept (World.cell?_setCell_same' Wd ⟨w.heap.size + 1, 0, none⟩ (.slice Ad nd cd) (by rw [f1]; rfl)) (grownBy_putObj' _ w2.heap.size (.deferred none)) (fun r e => by cases e; exact ⟨_, hK', rfl⟩)
          refine ⟨by simp, .inl ⟨_, _, rfl, run_takeDeferred hK', ?_⟩⟩
          refine ⟨.tuple #[(.slice Ad nd cd), .int .i64 0], by simp [results, Tryd.results37, go_sem, hc5], _, by rw [hcm], ?_, (HBD.out.setCell (p := ⟨w.heap.size + 1, 0, none⟩) (by simp only; omega) _).trans (below_putObj _ _ (by omega))⟩
          rw [hcm]
          have ho1 := own_setCell HOD.out (p := ⟨w.heap.size + 1, 0, none⟩) (fun e => by have := own_base HOD.out _ e.symm; simp only at this; omega) (.slice Ad nd cd)
          have ho2 : World.ownsRow ((Wd.setCell ⟨w.heap.size + 1, 0, none⟩ (.slice Ad nd cd)).putObj w2.heap.size (.deferred none)) (w2.heap.size + 3) 45 2 (.slice Ad nd cd) nd (flat sl) :=
            CI.own_keep ho1 (fun g hg => World.putObj_heap_other (by have := own_base ho1 g hg; omega))
          have ho3 := own_weaken ho2 (base' := w.heap.size) (by omega)
          rw [← HND.out] at ho3
          rw [← HND.out]
          exact ⟨fun _ _ => trivial, flat sl, ho3, reps_flat _ _ _ sl⟩
theorem comb_calls (fi : Nat) (op : Bool → Bool → Bool) (hop : ∀ x y W, Calls Tryd.prog fi #[.bool x, .bool y] W fun e w' => e = .returned (.bool (op x y)) ∧ w' = W) (hent : ∀ args w, (callFunc fi args).run Tryd.prog w = .ok (.enter fi args) w)
    (A0 : Option Addr) (c0 : Nat) (l0 : List S45) (A1 : Option Addr) (c1 : Nat) (l1 : List S45) (w : World)
    (hr0 : Kd.C k45 w A0 l0.length l0) (hc0 : l0.length ≤ c0) (hr1 : Kd.C k45 w A1 l1.length l1) (hc1 : l1.length ≤ c1) :
    Calls Tryd.prog 37 #[.slice A0 l0.length c0, .slice A1 l1.length c1, .func (.func fi) #[] #[]] w fun e w' => ∃ V, e = .returned (.tuple #[V, .int .i64 (SS.comb op l0 l1).2]) ∧ Kd.R k45 45 w' w.heap.size (fun _ => True) V (SS.comb op l0 l1).1 ∧ Below w.heap.size w w' := by
  by_cases h0 : SS.chk l0 = 0
  · by_cases h1 : SS.chk l1 = 0
    · exact comb_good fi op hop hent A0 c0 l0 A1 c1 l1 w hr0 hc0 hr1 hc1 h0 h1
    · have e : SS.comb op l0 l1 = ([], SS.chk l1) := by unfold SS.comb; rw [if_pos h0, if_neg h1]
      refine (comb_bad fi A0 c0 l0 A1 c1 l1 w hr0 hc0 hr1 hc1 (SS.chk l1) h1 (.inr ⟨h0, rfl⟩)).mono ?_
      rintro e' w' ⟨rfl, hb⟩
      rw [e]
      exact ⟨_, rfl, Kd.R_nil _ _ _ _ _, hb⟩
  · have e : SS.comb op l0 l1 = ([], SS.chk l0) := by unfold SS.comb; rw [if_neg h0]
    refine (comb_bad fi A0 c0 l0 A1 c1 l1 w hr0 hc0 hr1 hc1 (SS.chk l0) h0 (.inl rfl)).mono ?_
    rintro e' w' ⟨rfl, hb⟩
    rw [e]
    exact ⟨_, rfl, Kd.R_nil _ _ _ _ _, hb⟩
end CM
def days_Union.f (l0 : List (S45)) (l1 : List (S45)) : Option ((List (S45)) × Int) := some (SS.comb (fun a b => a || b) l0 l1)
theorem days_Union.calls (A0 : Option Addr) (c0 : Nat) (l0 : List (S45)) (A1 : Option Addr) (c1 : Nat) (l1 : List (S45)) (r1 : List (S45)) (r2 : Int) (w : World) (hr0 : Kd.C k45 w A0 l0.length l0) (hc0 : l0.length ≤ c0) (hr1 : Kd.C k45 w A1 l1.length l1) (hc1 : l1.length ≤ c1) (h : days_Union.f l0 l1 = some (r1, r2)) :
    Calls Tryd.prog 23 #[.slice A0 l0.length c0, .slice A1 l1.length c1] w fun e w' => ∃ v0_ : Value, e = .returned (.tuple #[v0_, .int .i64 r2]) ∧ Kd.R k45 45 w' w.heap.size (fun _ => True) v0_ r1 ∧ Below w.heap.size w w' := by
  have hcc := CM.comb_calls 38 (fun a b => a || b) (fun x y W => CM.in38 x y W) (enters_of Tryd.func38 (by kernel_rfl) rfl) A0 c0 l0 A1 c1 l1 w hr0 hc0 hr1 hc1
  obtain he : SS.comb (fun a b => a || b) l0 l1 = (r1, r2) := Option.some.inj h
  rw [he] at hcc
  clear hr0 hr1 hc0 hc1 h he
  go_enter Tryd.func23, Tryd.ntmps23
  go_wp2_with fail
  refine hcc.mono ?_
  rintro e w1 ⟨V, rfl, hR, hb⟩
  clear hcc
  go_wp2_with fail
  exact bodyPost_ret (v := .tuple #[V, .int .i64 r2]) (by simp [results, Tryd.results23, go_sem]) rfl ⟨V, rfl, hR, hb⟩
def days_Meet.f (l0 : List (S45)) (l1 : List (S45)) : Option ((List (S45)) × Int) := some (SS.comb (fun a b => a && b) l0 l1)
theorem days_Meet.calls (A0 : Option Addr) (c0 : Nat) (l0 : List (S45)) (A1 : Option Addr) (c1 : Nat) (l1 : List (S45)) (r1 : List (S45)) (r2 : Int) (w : World) (hr0 : Kd.C k45 w A0 l0.length l0) (hc0 : l0.length ≤ c0) (hr1 : Kd.C k45 w A1 l1.length l1) (hc1 : l1.length ≤ c1) (h : days_Meet.f l0 l1 = some (r1, r2)) :
    Calls Tryd.prog 25 #[.slice A0 l0.length c0, .slice A1 l1.length c1] w fun e w' => ∃ v0_ : Value, e = .returned (.tuple #[v0_, .int .i64 r2]) ∧ Kd.R k45 45 w' w.heap.size (fun _ => True) v0_ r1 ∧ Below w.heap.size w w' := by
  have hcc := CM.comb_calls 40 (fun a b => a && b) (fun x y W => CM.in40 x y W) (enters_of Tryd.func40 (by kernel_rfl) rfl) A0 c0 l0 A1 c1 l1 w hr0 hc0 hr1 hc1
  obtain he : SS.comb (fun a b => a && b) l0 l1 = (r1, r2) := Option.some.inj h
  rw [he] at hcc
  clear hr0 hr1 hc0 hc1 h he
  go_enter Tryd.func25, Tryd.ntmps25
  go_wp2_with fail
  refine hcc.mono ?_
  rintro e w1 ⟨V, rfl, hR, hb⟩
  clear hcc
  go_wp2_with fail
  exact bodyPost_ret (v := .tuple #[V, .int .i64 r2]) (by simp [results, Tryd.results25, go_sem]) rfl ⟨V, rfl, hR, hb⟩
def days_Without.f (l0 : List (S45)) (l1 : List (S45)) : Option ((List (S45)) × Int) := some (SS.comb (fun a b => a && !b) l0 l1)
theorem days_Without.calls (A0 : Option Addr) (c0 : Nat) (l0 : List (S45)) (A1 : Option Addr) (c1 : Nat) (l1 : List (S45)) (r1 : List (S45)) (r2 : Int) (w : World) (hr0 : Kd.C k45 w A0 l0.length l0) (hc0 : l0.length ≤ c0) (hr1 : Kd.C k45 w A1 l1.length l1) (hc1 : l1.length ≤ c1) (h : days_Without.f l0 l1 = some (r1, r2)) :
    Calls Tryd.prog 27 #[.slice A0 l0.length c0, .slice A1 l1.length c1] w fun e w' => ∃ v0_ : Value, e = .returned (.tuple #[v0_, .int .i64 r2]) ∧ Kd.R k45 45 w' w.heap.size (fun _ => True) v0_ r1 ∧ Below w.heap.size w w' := by
  have hcc := CM.comb_calls 41 (fun a b => a && !b) (fun x y W => CM.in41 x y W) (enters_of Tryd.func41 (by kernel_rfl) rfl) A0 c0 l0 A1 c1 l1 w hr0 hc0 hr1 hc1
  obtain he : SS.comb (fun a b => a && !b) l0 l1 = (r1, r2) := Option.some.inj h
  rw [he] at hcc
  clear hr0 hr1 hc0 hc1 h he
  go_enter Tryd.func27, Tryd.ntmps27
  go_wp2_with fail
  refine hcc.mono ?_
  rintro e w1 ⟨V, rfl, hR, hb⟩
  clear hcc
  go_wp2_with fail
  exact bodyPost_ret (v := .tuple #[V, .int .i64 r2]) (by simp [results, Tryd.results27, go_sem]) rfl ⟨V, rfl, hR, hb⟩
end Go.Proofs.YtpodgkmgameocaaDoor.X
