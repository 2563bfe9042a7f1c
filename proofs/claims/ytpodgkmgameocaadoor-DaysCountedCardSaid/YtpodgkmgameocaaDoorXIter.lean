/- Proved here: what the iterator of days.turns yields (CI) -/
import Derived.Test.YtpodgkmgameocaaDoorX0
import Derived.Test.YtpodgkmgameocaaDoorK
import Derived.Test.YtpodgkmgameocaaDoorX5
import Derived.Test.YtpodgkmgameocaaDoorXSets
import Derived.Test.YtpodgkmgameocaaDoorXSorts
import Derived.Test.YtpodgkmgameocaaDoorXRangec
import Derived.Test.YtpodgkmgameocaaDoorXTurns
namespace Go.Proofs.YtpodgkmgameocaaDoor.X
open Go.RowKit Go.Proofs.YtpodgkmgameocaaDoorW.PrintWords Go.Proofs.YtpodgkmgameocaaDoorW.PrintLast Go.Proofs.YtpodgkmgameocaaDoorW.PrintMore
attribute [local go_sem] max2_int min2_int max_two min_two max_three min_three max_four min_four
set_option linter.unusedVariables false
set_option linter.unusedSimpArgs false
namespace CI
open Go.Proofs.YtpodgkmgameocaaDoor.K RC
attribute [local go_sem] Oper.semAt_some
theorem own_grown0 {A B : World} {base : Nat} {e : TypeId} {size n : Nat} {v : Value} {xs : List Value} (h : A.ownsRow base e size v n xs) (hg : A.grownBy B none) : B.ownsRow base e size v n xs := by
  refine ⟨h.1, ?_⟩
  rcases h.2 with h1 | ⟨g, cap, cur, h1, h2, h3, h4⟩
  · exact .inl h1
  · exact .inr ⟨g, cap, cur, h1, h2, (hg.block g (blk_lt h3) (fun e => by cases e)).trans h3, h4⟩
theorem own_keep {A B : World} {base : Nat} {e : TypeId} {size n : Nat} {v : Value} {xs : List Value} (h : A.ownsRow base e size v n xs) (hk : ∀ g, v.ownBlock = some g → B.heap[g]? = A.heap[g]?) : B.ownsRow base e size v n xs := by
  refine ⟨h.1, ?_⟩
  rcases h.2 with h1 | ⟨g, cap, cur, h1, h2, h3, h4⟩
  · exact .inl h1
  · exact .inr ⟨g, cap, cur, h1, h2, (hk g (by rw [h1]; rfl)).trans h3, h4⟩
/-- What memory holds behind k points. -/
def IMem (l0 l1 : List S45) (ga sz : Nat) (w0 : World) (V : Value) (N : Nat) (J : List (Int × Bool × Bool) → World → Prop) (k : Nat) (W : World) : Prop :=
  ∃ (pre : List (Int × Bool × Bool)) (la lb : List S45) (Aa : Option Addr) (ca : Nat) (Ab : Option Addr) (cb : Nat), SS.evs l0 l1 = pre ++ SS.walkEv ((SS.pts l0 l1).drop k) la lb ∧ J pre W ∧
    W.heap[sz + 2]? = some (.cells #[.slice Aa la.length ca, .slice Ab lb.length cb] 65 (0, 0)) ∧ la.length ≤ ca ∧ lb.length ≤ cb ∧ la.length ≤ 256 ∧ lb.length ≤ 256 ∧ Kd.C k45 w0 Aa la.length la ∧ Kd.C k45 w0 Ab lb.length lb ∧
    Below w0.heap.size w0 W ∧ sz + 2 < W.heap.size ∧ W.ownsRow (ga + 4) 3 1 V N (nums .i64 (SS.pts l0 l1))
/-- What memory holds while the two lists are advanced: the iterator's two slices, and the cells of 'in'. -/
def JMem (sz nb : Nat) (w0 Wk : World) (xa xb : List S45) (fa fb : Bool) (W : World) : Prop :=
  ∃ (Aa : Option Addr) (ca : Nat) (Ab : Option Addr) (cb : Nat), W.heap[sz + 2]? = some (.cells #[.slice Aa xa.length ca, .slice Ab xb.length cb] 65 (0, 0)) ∧ xa.length ≤ ca ∧ xb.length ≤ cb ∧ xa.length ≤ 256 ∧ xb.length ≤ 256 ∧
    Kd.C k45 w0 Aa xa.length xa ∧ Kd.C k45 w0 Ab xb.length xb ∧ W.heap[nb]? = some (.cells #[.bool fa, .bool fb] 59 (0, 0)) ∧ Wk.grownBy W (some (sz + 2)) ∧ Below w0.heap.size w0 W
/-- Where the loop over the two lists stands. -/
def JSt (p : Int) (la lb : List S45) (i : Int) (xa xb : List S45) (fa fb : Bool) : Prop :=
  (i = 0 ∧ la = xa ∧ lb = xb ∧ fa = false ∧ fb = false) ∨ (i = 1 ∧ xa = SS.adv p la ∧ lb = xb ∧ fa = SS.isIn p (SS.adv p la) ∧ fb = false) ∨ (i = 2 ∧ xa = SS.adv p la ∧ xb = SS.adv p lb ∧ fa = SS.isIn p (SS.adv p la) ∧ fb = SS.isIn p (SS.adv p lb))
theorem jmem_in {sz : Nat} {w0 Wk : World} {xa xb : List S45} {fa fb : Bool} {W : World} (h : JMem sz Wk.heap.size w0 Wk xa xb fa fb W) (hz : sz + 2 < Wk.heap.size) (h0 : w0.heap.size ≤ Wk.heap.size) (j : Nat) (b fa' fb' : Bool)
    (hc : (#[Value.bool fa, Value.bool fb] : Array Value).setIfInBounds j (.bool b) = #[.bool fa', .bool fb']) : JMem sz Wk.heap.size w0 Wk xa xb fa' fb' (W.setCell ⟨Wk.heap.size, j, none⟩ (.bool b)) := by
  obtain ⟨Aa, ca, Ab, cb, hbl, hca, hcb, hla, hlb, hra, hrb, hin, hgr, hbw⟩ := h
  refine ⟨Aa, ca, Ab, cb, ?_, hca, hcb, hla, hlb, hra, hrb, ?_, CT.gb_set hgr (.inr (Nat.le_refl _)) _ _, hbw.setCell h0 _⟩
  · rw [Below.heap_setCell _ _ _ _ (by simp; omega)]
    exact hbl
  · have := blk_set hin j (.bool b)
    rw [hc] at this
    exact this
theorem jmem_a {sz nb : Nat} {w0 Wk : World} {y : S45} {ys xb : List S45} {fa fb : Bool} {W : World} {Ax A' Ay : Option Addr} {cx cy m : Nat} (hbl : W.heap[sz + 2]? = some (.cells #[.slice Ax m cx, .slice Ay xb.length cy] 65 (0, 0)))
    (hcx : (y :: ys).length ≤ cx) (hcy : xb.length ≤ cy) (hlx : (y :: ys).length ≤ 256) (hly : xb.length ≤ 256) (hrx : Kd.C k45 w0 A' ys.length ys) (hry : Kd.C k45 w0 Ay xb.length xb) (hin : W.heap[nb]? = some (.cells #[.bool fa, .bool fb] 59 (0, 0)))
    (hgr : Wk.grownBy W (some (sz + 2))) (hbw : Below w0.heap.size w0 W) (hz : nb ≠ sz + 2) (h0 : w0.heap.size ≤ sz + 2) : JMem sz nb w0 Wk ys xb fa fb (W.setCell ⟨sz + 2, 0, none⟩ (.slice A' ys.length (cx - 1))) := by
  simp only [List.length_cons] at hcx hlx
  refine ⟨A', cx - 1, Ay, cy, ?_, by omega, hcy, by omega, hly, hrx, hry, ?_, CT.gb_set hgr (.inl rfl) _ _, hbw.setCell h0 _⟩
  · exact blk_set hbl 0 _
  · rw [Below.heap_setCell _ _ _ _ hz]
    exact hin
theorem jmem_b {sz nb : Nat} {w0 Wk : World} {y : S45} {ys xa : List S45} {fa fb : Bool} {W : World} {Ax A' Ay : Option Addr} {cx cy m : Nat} (hbl : W.heap[sz + 2]? = some (.cells #[.slice Ay xa.length cy, .slice Ax m cx] 65 (0, 0)))
    (hcx : (y :: ys).length ≤ cx) (hcy : xa.length ≤ cy) (hlx : (y :: ys).length ≤ 256) (hly : xa.length ≤ 256) (hrx : Kd.C k45 w0 A' ys.length ys) (hry : Kd.C k45 w0 Ay xa.length xa) (hin : W.heap[nb]? = some (.cells #[.bool fa, .bool fb] 59 (0, 0)))
    (hgr : Wk.grownBy W (some (sz + 2))) (hbw : Below w0.heap.size w0 W) (hz : nb ≠ sz + 2) (h0 : w0.heap.size ≤ sz + 2) : JMem sz nb w0 Wk xa ys fa fb (W.setCell ⟨sz + 2, 1, none⟩ (.slice A' ys.length (cx - 1))) := by
  simp only [List.length_cons] at hcx hlx
  refine ⟨Ay, cy, A', cx - 1, ?_, hcy, by omega, hly, by omega, hry, hrx, ?_, CT.gb_set hgr (.inl rfl) _ _, hbw.setCell h0 _⟩
  · exact blk_set hbl 1 _
  · rw [Below.heap_setCell _ _ _ _ hz]
    exact hin
theorem adv_cons_lt {p : Int} {y : S45} {ys : List S45} (h : y.f1 < p) : SS.adv p (y :: ys) = SS.adv p ys := by simp [SS.adv, h]
theorem adv_cons_ge {p : Int} {y : S45} {ys : List S45} (h : ¬ y.f1 < p) : SS.adv p (y :: ys) = y :: ys := by simp [SS.adv, h]
def encE (x : Int × Bool × Bool) : Array Value := #[.int .i64 x.1, .agg #[.bool x.2.1, .bool x.2.2]]
set_option maxRecDepth 100000 in
set_option maxHeartbeats 8000000 in
theorem iter_seq (n : Nat) (hn : 1 ≤ n) (ga : Nat) (A0 : Option Addr) (c0 : Nat) (l0 : List S45) (A1 : Option Addr) (c1 : Nat) (l1 : List S45) (V : Value) (w0 w : World)
    (h0 : w.heap[ga]? = some (.cells #[.slice A0 l0.length c0] 32 (0, 0))) (h1 : w.heap[ga + 1]? = some (.cells #[.slice A1 l1.length c1] 32 (0, 0))) (h2 : w.heap[ga + 1 + 1]? = some (.cells #[V] 43 (0, 0)))
    (ho : w.ownsRow (ga + 4) 3 1 V (SS.atL (l0 ++ l1)).length (nums .i64 (SS.isort (SS.atL (l0 ++ l1)))))
    (hb : Below w0.heap.size w0 w) (hgw : w0.heap.size ≤ ga) (hr0 : Kd.C k45 w0 A0 l0.length l0) (hc0 : l0.length ≤ c0) (hr1 : Kd.C k45 w0 A1 l1.length l1) (hc1 : l1.length ≤ c1) (hl0 : l0.length ≤ 256) (hl1 : l1.length ≤ 256) :
    SeqC Fence.wide n Tryd.prog 47 #[.pointer (some ⟨ga, 0, none⟩), .pointer (some ⟨ga + 1, 0, none⟩), .pointer (some ⟨ga + 1 + 1, 0, none⟩)] encE w0.heap.size ga (SS.evs l0 l1) w := by
  intro l J W hWz hWg hJ hY hJ0
  have b0 := (hWg.block ga (blk_lt h0) (fun e => by cases e)).trans h0
  have b1 := (hWg.block (ga + 1) (blk_lt h1) (fun e => by cases e)).trans h1
  have b2 := (hWg.block (ga + 1 + 1) (blk_lt h2) (fun e => by cases e)).trans h2
  obtain ⟨n0, hn0⟩ : ∃ n0 : Nat, l0.length = n0 := ⟨_, rfl⟩
  obtain ⟨n1, hn1⟩ : ∃ n1 : Nat, l1.length = n1 := ⟨_, rfl⟩
  rw [hn0] at b0
  rw [hn1] at b1
  have z0 := blk_cell b0 0
  have z1 := blk_cell b1 0
  have z2 := blk_cell (blk_alloc b2 (.cells #[.slice A0 n0 c0, .slice A1 n1 c1] 65)) 0
  simp only [List.getElem?_toArray, List.getElem?_cons_zero] at z0 z1 z2
  refine callsIn_of_wp Tryd.func47 rfl trivial ?_ rfl
  simp only [Tryd.ntmps47, List.size_toArray, List.length_cons, List.length_nil, Nat.reduceAdd, Nat.reduceSub, Array.replicate_succ, Array.replicate_zero, List.push_toArray, List.append_toArray, List.nil_append, List.cons_append]
  gi_wp2_with fail
  have hoW : (W.alloc (Obj.cells #[Value.slice A0 n0 c0, Value.slice A1 n1 c1] 65)).ownsRow (ga + 4) 3 1 V (SS.isort (SS.atL (l0 ++ l1))).length (nums .i64 (SS.isort (SS.atL (l0 ++ l1)))) := by
    rw [(SS.isort_perm _).length_eq]
    exact own_alloc (own_grown0 ho hWg) _
  have hat : (SS.isort (SS.atL (l0 ++ l1))).length ≤ 4096 := by
    rw [(SS.isort_perm _).length_eq, CT.atL_length, List.length_append, hn0, hn1]
    omega
  refine ⟨trivial, ?_⟩
  refine (callsIn_wide.2 (SO.compact_own hoW hat)).mono ?_
  rintro e w5 ⟨V', rfl, ho5, hg5, hv5⟩
  have hZ : ∀ r, V.ownBlock = some r → Zone ga w.heap.size r := fun r e => .inl ⟨by have := own_base ho r e; omega, own_lt ho r e⟩
  have hJ1 : J [] w5 := hJ _ _ _ _ hJ0 ((World.grownBy_alloc W (.cells #[.slice A0 n0 c0, .slice A1 n1 c1] 65) V.ownBlock).trans hg5) hZ
  have bl := blk_grown (blk_new W (.cells #[.slice A0 n0 c0, .slice A1 n1 c1] 65)) hg5 (fun e => by
    have := own_lt ho _ e.symm
    omega)
  rw [hWz] at bl
  have hz5 : w.heap.size + 2 < w5.heap.size := blk_lt bl
  have hbW : Below w0.heap.size w0 W := hb.grown hWg hb.size (fun k e => by cases e)
  have hb5 : Below w0.heap.size w0 w5 := (below_alloc hbW (.cells #[.slice A0 n0 c0, .slice A1 n1 c1] 65)).grown hg5 (below_alloc hbW _).size (fun k e => by
    have := own_base ho k e
    omega)
  have hVz : ∀ r, V'.ownBlock = some r → r < w.heap.size := fun r e => own_lt ho r (by rw [← hv5]; exact e)
  obtain ⟨Ap, cp, rfl⟩ := own_slice ho5
  gi_wp2_with fail
  obtain ⟨N, hN⟩ : ∃ N, (SS.uniq (SS.isort (SS.atL (l0 ++ l1)))).length = N := ⟨_, rfl⟩
  rw [hN] at ho5 hVz ⊢
  have hN4 : N ≤ 4096 := by
    rw [← hN, ← SS.compact_eq]
    exact Nat.le_trans (Lib.compact_length_le _) hat
  have st0 : IMem l0 l1 ga w.heap.size w0 (.slice Ap N cp) N J 0 w5 :=
    ⟨[], l0, l1, A0, c0, A1, c1, rfl, hJ1, by rw [hn0, hn1]; exact bl, hc0, hc1, hl0, hl1, hr0, hr1, hb5, hz5, ho5⟩
  have hNP : (SS.pts l0 l1).length = N := hN
  clear hN ho5 hJ1 bl hc0 hc1 hl0 hl1 hr0 hr1 hb5 hz5 hv5 hg5 hZ hat hoW hJ0 b0 b1 b2 z0 z1 z2 h0 h1 h2
  have ST0 := Aside0.mk st0
  clear st0
  refine wpIn_loop_ghost_k (fun q a W => ∃ (k : Nat) (u : Nat → Value), q = N - k ∧ k ≤ N ∧ IMem l0 l1 ga w.heap.size w0 (.slice Ap N cp) N J k W ∧ a = { tmps := List.toArray ((.func (.yield l) #[] #[] : Value) :: (.pointer (some ⟨ga, 0, none⟩) : Value) :: (.pointer (some ⟨ga + 1, 0, none⟩) : Value) :: (.pointer (some ⟨ga + 1 + 1, 0, none⟩) : Value) :: u 4 :: (.pointer (some ⟨w.heap.size + 2, 0, none⟩) : Value) :: u 6 :: u 7 :: u 8 :: u 9 :: u 10 :: u 11 :: u 12 :: u 13 :: (.slice Ap N cp : Value) :: (.int .i64 (N : Int) : Value) :: (.int .i64 (k : Int) : Value) :: u 17 :: u 18 :: u 19 :: u 20 :: u 21 :: u 22 :: u 23 :: u 24 :: u 25 :: u 26 :: u 27 :: u 28 :: u 29 :: u 30 :: u 31 :: u 32 :: u 33 :: u 34 :: u 35 :: u 36 :: u 37 :: u 38 :: u 39 :: u 40 :: u 41 :: u 42 :: u 43 :: u 44 :: u 45 :: u 46 :: u 47 :: u 48 :: u 49 :: u 50 :: u 51 :: u 52 :: u 53 :: u 54 :: u 55 :: u 56 :: u 57 :: u 58 :: u 59 :: u 60 :: u 61 :: u 62 :: u 63 :: u 64 :: u 65 :: u 66 :: u 67 :: []), defers := [] }) N ?start ?round
  case start =>
    have sta : ∀ T : Array Value, T = List.toArray ((.func (.yield l) #[] #[] : Value) :: (.pointer (some ⟨ga, 0, none⟩) : Value) :: (.pointer (some ⟨ga + 1, 0, none⟩) : Value) :: (.pointer (some ⟨ga + 1 + 1, 0, none⟩) : Value) :: T.getD 4 undef :: (.pointer (some ⟨w.heap.size + 2, 0, none⟩) : Value) :: T.getD 6 undef :: T.getD 7 undef :: T.getD 8 undef :: T.getD 9 undef :: T.getD 10 undef :: T.getD 11 undef :: T.getD 12 undef :: T.getD 13 undef :: (.slice Ap N cp : Value) :: (.int .i64 (N : Int) : Value) :: (.int .i64 0 : Value) :: T.getD 17 undef :: T.getD 18 undef :: T.getD 19 undef :: T.getD 20 undef :: T.getD 21 undef :: T.getD 22 undef :: T.getD 23 undef :: T.getD 24 undef :: T.getD 25 undef :: T.getD 26 undef :: T.getD 27 undef :: T.getD 28 undef :: T.getD 29 undef :: T.getD 30 undef :: T.getD 31 undef :: T.getD 32 undef :: T.getD 33 undef :: T.getD 34 undef :: T.getD 35 undef :: T.getD 36 undef :: T.getD 37 undef :: T.getD 38 undef :: T.getD 39 undef :: T.getD 40 undef :: T.getD 41 undef :: T.getD 42 undef :: T.getD 43 undef :: T.getD 44 undef :: T.getD 45 undef :: T.getD 46 undef :: T.getD 47 undef :: T.getD 48 undef :: T.getD 49 undef :: T.getD 50 undef :: T.getD 51 undef :: T.getD 52 undef :: T.getD 53 undef :: T.getD 54 undef :: T.getD 55 undef :: T.getD 56 undef :: T.getD 57 undef :: T.getD 58 undef :: T.getD 59 undef :: T.getD 60 undef :: T.getD 61 undef :: T.getD 62 undef :: T.getD 63 undef :: T.getD 64 undef :: T.getD 65 undef :: T.getD 66 undef :: T.getD 67 undef :: []) → ∃ (k : Nat) (u : Nat → Value), N = N - k ∧ k ≤ N ∧ IMem l0 l1 ga w.heap.size w0 (.slice Ap N cp) N J k w5 ∧ (Act.mk T []) = { tmps := List.toArray ((.func (.yield l) #[] #[] : Value) :: (.pointer (some ⟨ga, 0, none⟩) : Value) :: (.pointer (some ⟨ga + 1, 0, none⟩) : Value) :: (.pointer (some ⟨ga + 1 + 1, 0, none⟩) : Value) :: u 4 :: (.pointer (some ⟨w.heap.size + 2, 0, none⟩) : Value) :: u 6 :: u 7 :: u 8 :: u 9 :: u 10 :: u 11 :: u 12 :: u 13 :: (.slice Ap N cp : Value) :: (.int .i64 (N : Int) : Value) :: (.int .i64 (k : Int) : Value) :: u 17 :: u 18 :: u 19 :: u 20 :: u 21 :: u 22 :: u 23 :: u 24 :: u 25 :: u 26 :: u 27 :: u 28 :: u 29 :: u 30 :: u 31 :: u 32 :: u 33 :: u 34 :: u 35 :: u 36 :: u 37 :: u 38 :: u 39 :: u 40 :: u 41 :: u 42 :: u 43 :: u 44 :: u 45 :: u 46 :: u 47 :: u 48 :: u 49 :: u 50 :: u 51 :: u 52 :: u 53 :: u 54 :: u 55 :: u 56 :: u 57 :: u 58 :: u 59 :: u 60 :: u 61 :: u 62 :: u 63 :: u 64 :: u 65 :: u 66 :: u 67 :: []), defers := [] } := fun T hT =>
      ⟨0, fun i => T.getD i undef, rfl, Nat.zero_le _, ST0.out, congrArg (fun T => (Act.mk T _)) hT⟩
    exact sta _ rfl
  case round =>
    rintro q a W' ⟨k, u, rfl, hk, ⟨pre, la, lb, Aa, ca, Ab, cb, hev, hJp, hbl, hca, hcb, hla, hlb, hra, hrb, hbw, hsz, hop⟩, rfl⟩ J' K' hJ' hK'
    by_cases hlt : k < N
    · have k1 : decide ((k : Int) < (N : Int)) = true := decide_eq_true (by omega)
      have hrd := own_reads' hop
      have HOP := Aside0.mk hop
      have HBL := Aside0.mk hbl
      have HJP := Aside0.mk hJp
      have HEV := Aside0.mk hev
      clear hop hbl hJp hev
      obtain ⟨ad, e, hcp⟩ := hrd.at_ (k : Int) (by omega) (by omega)
      subst e
      obtain ⟨p, hp⟩ : ∃ p, rd (SS.pts l0 l1) (k : Int) = p := ⟨_, rfl⟩
      rw [hp, Int.toNat_natCast] at hcp
      have HP := Aside0.mk hp
      clear hp hrd
      gi_wp2_with fail
      have st1 : JMem w.heap.size W'.heap.size w0 W' la lb false false (W'.alloc (.cells #[.bool false, .bool false] 59)) :=
        ⟨Aa, ca, Ab, cb, blk_alloc HBL.out _, hca, hcb, hla, hlb, hra, hrb, blk_new W' _, World.grownBy_alloc W' _ _, below_alloc hbw _⟩
      have ST1 := Aside0.mk st1
      have hw0 : w0.heap.size ≤ W'.heap.size := hbw.size
      clear st1 hcp hbw hca hcb hla hlb hra hrb ST0
      refine wpIn_loop_ghost_k (fun q a W => ∃ (i : Int) (xa xb : List S45) (fa fb : Bool) (u : Nat → Value), q = (2 - i).toNat ∧ JSt p la lb i xa xb fa fb ∧ JMem w.heap.size W'.heap.size w0 W' xa xb fa fb W ∧ a = { tmps := List.toArray ((.func (.yield l) #[] #[] : Value) :: (.pointer (some ⟨ga, 0, none⟩) : Value) :: (.pointer (some ⟨ga + 1, 0, none⟩) : Value) :: (.pointer (some ⟨ga + 1 + 1, 0, none⟩) : Value) :: u 4 :: (.pointer (some ⟨w.heap.size + 2, 0, none⟩) : Value) :: u 6 :: (.int .i64 p : Value) :: (.pointer (some ⟨W'.heap.size, 0, none⟩) : Value) :: u 9 :: u 10 :: u 11 :: u 12 :: u 13 :: (.slice (some ad) N cp : Value) :: (.int .i64 (N : Int) : Value) :: (.int .i64 (k : Int) : Value) :: u 17 :: u 18 :: u 19 :: (.int .i64 i : Value) :: u 21 :: u 22 :: u 23 :: u 24 :: u 25 :: u 26 :: u 27 :: u 28 :: u 29 :: u 30 :: u 31 :: u 32 :: u 33 :: u 34 :: u 35 :: u 36 :: u 37 :: u 38 :: u 39 :: u 40 :: u 41 :: u 42 :: u 43 :: u 44 :: u 45 :: u 46 :: u 47 :: u 48 :: u 49 :: u 50 :: u 51 :: u 52 :: u 53 :: u 54 :: u 55 :: u 56 :: u 57 :: u 58 :: u 59 :: u 60 :: u 61 :: u 62 :: u 63 :: u 64 :: u 65 :: u 66 :: u 67 :: []), defers := [] }) 2 ?start1 ?round1
      case start1 =>
        have sta : ∀ T : Array Value, T = List.toArray ((.func (.yield l) #[] #[] : Value) :: (.pointer (some ⟨ga, 0, none⟩) : Value) :: (.pointer (some ⟨ga + 1, 0, none⟩) : Value) :: (.pointer (some ⟨ga + 1 + 1, 0, none⟩) : Value) :: T.getD 4 undef :: (.pointer (some ⟨w.heap.size + 2, 0, none⟩) : Value) :: T.getD 6 undef :: (.int .i64 p : Value) :: (.pointer (some ⟨W'.heap.size, 0, none⟩) : Value) :: T.getD 9 undef :: T.getD 10 undef :: T.getD 11 undef :: T.getD 12 undef :: T.getD 13 undef :: (.slice (some ad) N cp : Value) :: (.int .i64 (N : Int) : Value) :: (.int .i64 (k : Int) : Value) :: T.getD 17 undef :: T.getD 18 undef :: T.getD 19 undef :: (.int .i64 0 : Value) :: T.getD 21 undef :: T.getD 22 undef :: T.getD 23 undef :: T.getD 24 undef :: T.getD 25 undef :: T.getD 26 undef :: T.getD 27 undef :: T.getD 28 undef :: T.getD 29 undef :: T.getD 30 undef :: T.getD 31 undef :: T.getD 32 undef :: T.getD 33 undef :: T.getD 34 undef :: T.getD 35 undef :: T.getD 36 undef :: T.getD 37 undef :: T.getD 38 undef :: T.getD 39 undef :: T.getD 40 undef :: T.getD 41 undef :: T.getD 42 undef :: T.getD 43 undef :: T.getD 44 undef :: T.getD 45 undef :: T.getD 46 undef :: T.getD 47 undef :: T.getD 48 undef :: T.getD 49 undef :: T.getD 50 undef :: T.getD 51 undef :: T.getD 52 undef :: T.getD 53 undef :: T.getD 54 undef :: T.getD 55 undef :: T.getD 56 undef :: T.getD 57 undef :: T.getD 58 undef :: T.getD 59 undef :: T.getD 60 undef :: T.getD 61 undef :: T.getD 62 undef :: T.getD 63 undef :: T.getD 64 undef :: T.getD 65 undef :: T.getD 66 undef :: T.getD 67 undef :: []) → ∃ (i : Int) (xa xb : List S45) (fa fb : Bool) (u : Nat → Value), 2 = (2 - i).toNat ∧ JSt p la lb i xa xb fa fb ∧ JMem w.heap.size W'.heap.size w0 W' xa xb fa fb (W'.alloc (.cells #[.bool false, .bool false] 59)) ∧ (Act.mk T []) = { tmps := List.toArray ((.func (.yield l) #[] #[] : Value) :: (.pointer (some ⟨ga, 0, none⟩) : Value) :: (.pointer (some ⟨ga + 1, 0, none⟩) : Value) :: (.pointer (some ⟨ga + 1 + 1, 0, none⟩) : Value) :: u 4 :: (.pointer (some ⟨w.heap.size + 2, 0, none⟩) : Value) :: u 6 :: (.int .i64 p : Value) :: (.pointer (some ⟨W'.heap.size, 0, none⟩) : Value) :: u 9 :: u 10 :: u 11 :: u 12 :: u 13 :: (.slice (some ad) N cp : Value) :: (.int .i64 (N : Int) : Value) :: (.int .i64 (k : Int) : Value) :: u 17 :: u 18 :: u 19 :: (.int .i64 i : Value) :: u 21 :: u 22 :: u 23 :: u 24 :: u 25 :: u 26 :: u 27 :: u 28 :: u 29 :: u 30 :: u 31 :: u 32 :: u 33 :: u 34 :: u 35 :: u 36 :: u 37 :: u 38 :: u 39 :: u 40 :: u 41 :: u 42 :: u 43 :: u 44 :: u 45 :: u 46 :: u 47 :: u 48 :: u 49 :: u 50 :: u 51 :: u 52 :: u 53 :: u 54 :: u 55 :: u 56 :: u 57 :: u 58 :: u 59 :: u 60 :: u 61 :: u 62 :: u 63 :: u 64 :: u 65 :: u 66 :: u 67 :: []), defers := [] } := fun T hT =>
          ⟨0, la, lb, false, false, fun i => T.getD i undef, rfl, .inl ⟨rfl, rfl, rfl, rfl, rfl⟩, ST1.out, congrArg (fun T => (Act.mk T _)) hT⟩
        exact sta _ rfl
      case round1 =>
        clear ST1
        rintro q a Wi ⟨i, xa, xb, fa, fb, v, rfl, hst, ⟨Aa, ca, Ab, cb, hbl, hca, hcb, hla, hlb, hra, hrb, hin, hgr, hbw⟩, rfl⟩ J1 K1 hJ1 hK1
        rcases hst with ⟨rfl, rfl, rfl, rfl, rfl⟩ | ⟨rfl, rfl, rfl, rfl, rfl⟩ | ⟨rfl, rfl, rfl, rfl, rfl⟩
        · gi_wp2_with fail
          have st2 : JMem w.heap.size W'.heap.size w0 W' la lb false false Wi := ⟨Aa, ca, Ab, cb, hbl, hca, hcb, hla, hlb, hra, hrb, hin, hgr, hbw⟩
          have ST2 := Aside0.mk st2
          clear st2 hbl hca hcb hla hlb hra hrb hin hgr hbw
          refine wpIn_loop_ghost_k (fun q a W => ∃ (x : List S45) (u : Nat → Value), q = x.length ∧ SS.adv p x = SS.adv p la ∧ JMem w.heap.size W'.heap.size w0 W' x lb false false W ∧ a = { tmps := List.toArray ((.func (.yield l) #[] #[] : Value) :: (.pointer (some ⟨ga, 0, none⟩) : Value) :: (.pointer (some ⟨ga + 1, 0, none⟩) : Value) :: (.pointer (some ⟨ga + 1 + 1, 0, none⟩) : Value) :: u 4 :: (.pointer (some ⟨w.heap.size + 2, 0, none⟩) : Value) :: u 6 :: (.int .i64 p : Value) :: (.pointer (some ⟨W'.heap.size, 0, none⟩) : Value) :: (.int .i64 0 : Value) :: u 10 :: u 11 :: u 12 :: u 13 :: (.slice (some ad) N cp : Value) :: (.int .i64 (N : Int) : Value) :: (.int .i64 (k : Int) : Value) :: u 17 :: u 18 :: u 19 :: (.int .i64 0 : Value) :: u 21 :: u 22 :: u 23 :: u 24 :: u 25 :: u 26 :: u 27 :: u 28 :: u 29 :: u 30 :: u 31 :: u 32 :: u 33 :: u 34 :: u 35 :: u 36 :: u 37 :: u 38 :: u 39 :: u 40 :: u 41 :: u 42 :: u 43 :: u 44 :: u 45 :: u 46 :: u 47 :: u 48 :: u 49 :: u 50 :: u 51 :: u 52 :: u 53 :: u 54 :: u 55 :: u 56 :: u 57 :: u 58 :: u 59 :: u 60 :: u 61 :: u 62 :: u 63 :: u 64 :: u 65 :: u 66 :: u 67 :: []), defers := [] }) la.length ?start2 ?round2
          case start2 =>
            have sta : ∀ T : Array Value, T = List.toArray ((.func (.yield l) #[] #[] : Value) :: (.pointer (some ⟨ga, 0, none⟩) : Value) :: (.pointer (some ⟨ga + 1, 0, none⟩) : Value) :: (.pointer (some ⟨ga + 1 + 1, 0, none⟩) : Value) :: T.getD 4 undef :: (.pointer (some ⟨w.heap.size + 2, 0, none⟩) : Value) :: T.getD 6 undef :: (.int .i64 p : Value) :: (.pointer (some ⟨W'.heap.size, 0, none⟩) : Value) :: (.int .i64 0 : Value) :: T.getD 10 undef :: T.getD 11 undef :: T.getD 12 undef :: T.getD 13 undef :: (.slice (some ad) N cp : Value) :: (.int .i64 (N : Int) : Value) :: (.int .i64 (k : Int) : Value) :: T.getD 17 undef :: T.getD 18 undef :: T.getD 19 undef :: (.int .i64 0 : Value) :: T.getD 21 undef :: T.getD 22 undef :: T.getD 23 undef :: T.getD 24 undef :: T.getD 25 undef :: T.getD 26 undef :: T.getD 27 undef :: T.getD 28 undef :: T.getD 29 undef :: T.getD 30 undef :: T.getD 31 undef :: T.getD 32 undef :: T.getD 33 undef :: T.getD 34 undef :: T.getD 35 undef :: T.getD 36 undef :: T.getD 37 undef :: T.getD 38 undef :: T.getD 39 undef :: T.getD 40 undef :: T.getD 41 undef :: T.getD 42 undef :: T.getD 43 undef :: T.getD 44 undef :: T.getD 45 undef :: T.getD 46 undef :: T.getD 47 undef :: T.getD 48 undef :: T.getD 49 undef :: T.getD 50 undef :: T.getD 51 undef :: T.getD 52 undef :: T.getD 53 undef :: T.getD 54 undef :: T.getD 55 undef :: T.getD 56 undef :: T.getD 57 undef :: T.getD 58 undef :: T.getD 59 undef :: T.getD 60 undef :: T.getD 61 undef :: T.getD 62 undef :: T.getD 63 undef :: T.getD 64 undef :: T.getD 65 undef :: T.getD 66 undef :: T.getD 67 undef :: []) → ∃ (x : List S45) (u : Nat → Value), la.length = x.length ∧ SS.adv p x = SS.adv p la ∧ JMem w.heap.size W'.heap.size w0 W' x lb false false Wi ∧ (Act.mk T []) = { tmps := List.toArray ((.func (.yield l) #[] #[] : Value) :: (.pointer (some ⟨ga, 0, none⟩) : Value) :: (.pointer (some ⟨ga + 1, 0, none⟩) : Value) :: (.pointer (some ⟨ga + 1 + 1, 0, none⟩) : Value) :: u 4 :: (.pointer (some ⟨w.heap.size + 2, 0, none⟩) : Value) :: u 6 :: (.int .i64 p : Value) :: (.pointer (some ⟨W'.heap.size, 0, none⟩) : Value) :: (.int .i64 0 : Value) :: u 10 :: u 11 :: u 12 :: u 13 :: (.slice (some ad) N cp : Value) :: (.int .i64 (N : Int) : Value) :: (.int .i64 (k : Int) : Value) :: u 17 :: u 18 :: u 19 :: (.int .i64 0 : Value) :: u 21 :: u 22 :: u 23 :: u 24 :: u 25 :: u 26 :: u 27 :: u 28 :: u 29 :: u 30 :: u 31 :: u 32 :: u 33 :: u 34 :: u 35 :: u 36 :: u 37 :: u 38 :: u 39 :: u 40 :: u 41 :: u 42 :: u 43 :: u 44 :: u 45 :: u 46 :: u 47 :: u 48 :: u 49 :: u 50 :: u 51 :: u 52 :: u 53 :: u 54 :: u 55 :: u 56 :: u 57 :: u 58 :: u 59 :: u 60 :: u 61 :: u 62 :: u 63 :: u 64 :: u 65 :: u 66 :: u 67 :: []), defers := [] } := fun T hT =>
              ⟨la, fun i => T.getD i undef, rfl, rfl, ST2.out, congrArg (fun T => (Act.mk T _)) hT⟩
            exact sta _ rfl
          case round2 =>
            clear ST2
            rintro q a Wj ⟨x, z, rfl, hadv, ⟨Ax, cx, Ay, cy, hbl, hcx, hcy, hlx, hly, hrx, hry, hin, hgr, hbw⟩, rfl⟩ J2 K2 hJ2 hK2
            have t0 := blk_cell hbl 0
            simp only [List.getElem?_toArray, List.getElem?_cons_zero] at t0
            have t1 := blk_cell hin 0
            have t2 := blk_frozen hin 0
            simp only [List.getElem?_toArray, List.getElem?_cons_zero] at t1
            have t3 := blk_frozen hbl 0
            cases x with
            | nil =>
              have fin : JMem w.heap.size W'.heap.size w0 W' [] lb (SS.isIn p []) false Wj := ⟨Ax, cx, Ay, cy, hbl, hcx, hcy, hlx, hly, hrx, hry, hin, hgr, hbw⟩
              have ST := Aside0.mk (jmem_in fin hsz hw0 0 (SS.isIn p []) (SS.isIn p []) false rfl)
              clear fin hbl hin hgr hbw
              gi_wp2_with fail
              have sta : ∀ (T : Array Value) (W : World), T = List.toArray ((.func (.yield l) #[] #[] : Value) :: (.pointer (some ⟨ga, 0, none⟩) : Value) :: (.pointer (some ⟨ga + 1, 0, none⟩) : Value) :: (.pointer (some ⟨ga + 1 + 1, 0, none⟩) : Value) :: T.getD 4 undef :: (.pointer (some ⟨w.heap.size + 2, 0, none⟩) : Value) :: T.getD 6 undef :: (.int .i64 p : Value) :: (.pointer (some ⟨W'.heap.size, 0, none⟩) : Value) :: T.getD 9 undef :: T.getD 10 undef :: T.getD 11 undef :: T.getD 12 undef :: T.getD 13 undef :: (.slice (some ad) N cp : Value) :: (.int .i64 (N : Int) : Value) :: (.int .i64 (k : Int) : Value) :: T.getD 17 undef :: T.getD 18 undef :: T.getD 19 undef :: (.int .i64 1 : Value) :: T.getD 21 undef :: T.getD 22 undef :: T.getD 23 undef :: T.getD 24 undef :: T.getD 25 undef :: T.getD 26 undef :: T.getD 27 undef :: T.getD 28 undef :: T.getD 29 undef :: T.getD 30 undef :: T.getD 31 undef :: T.getD 32 undef :: T.getD 33 undef :: T.getD 34 undef :: T.getD 35 undef :: T.getD 36 undef :: T.getD 37 undef :: T.getD 38 undef :: T.getD 39 undef :: T.getD 40 undef :: T.getD 41 undef :: T.getD 42 undef :: T.getD 43 undef :: T.getD 44 undef :: T.getD 45 undef :: T.getD 46 undef :: T.getD 47 undef :: T.getD 48 undef :: T.getD 49 undef :: T.getD 50 undef :: T.getD 51 undef :: T.getD 52 undef :: T.getD 53 undef :: T.getD 54 undef :: T.getD 55 undef :: T.getD 56 undef :: T.getD 57 undef :: T.getD 58 undef :: T.getD 59 undef :: T.getD 60 undef :: T.getD 61 undef :: T.getD 62 undef :: T.getD 63 undef :: T.getD 64 undef :: T.getD 65 undef :: T.getD 66 undef :: T.getD 67 undef :: []) → W = Wj.setCell ⟨W'.heap.size, 0, none⟩ (.bool (SS.isIn p [])) → Handed J1 ((2 : Int) - 0).toNat { tmps := T, defers := [] } W := fun T W hT hW =>
                ⟨1, by decide, hJ1 _ _ _ ⟨1, [], lb, SS.isIn p [], false, fun i => T.getD i undef, rfl, .inr (.inl ⟨rfl, hadv, rfl, by rw [← hadv]; rfl, rfl⟩), by rw [hW]; exact ST.out, congrArg (fun T => (Act.mk T _)) hT⟩⟩
              exact sta _ _ rfl rfl
            | cons y ys =>
              have hrd := Kd.C_below hrx (hbw : Below w0.heap.size w0 Wj)
              obtain ⟨ad1, rfl, e0, e1⟩ := at_T45 hrd 0 (by omega) (by simp only [List.length_cons]; omega)
              obtain ⟨m, hm⟩ : ∃ m, (y :: ys).length = m := ⟨_, rfl⟩
              rw [hm] at t0
              have e2 : rd_T45 (y :: ys) 0 = y := rfl
              rw [e2] at e0 e1
              have ez : ad1.add (Int.toNat 0 * 2) = ad1 := by simp [Addr.add]
              rw [ez] at e0 e1
              obtain ⟨y0, hy0⟩ : ∃ y0, y.f0 = y0 := ⟨_, rfl⟩
              obtain ⟨y1, hy1⟩ : ∃ y1, y.f1 = y1 := ⟨_, rfl⟩
              rw [hy0] at e0
              rw [hy1] at e1
              have hm1 : 1 ≤ m := by rw [← hm, List.length_cons]; omega
              have kg : decide ((m : Int) > 0) = true := decide_eq_true (by omega)
              obtain ⟨i0, hi0, _, hsz0, _⟩ := info_parts info45
              have hcut := cut_from (P := Tryd.prog) 32 45 .i64 Tryd.underlying32 hi0 2 hsz0 (some ad1) m cx 1 (by omega) (by omega)
              have hCd := Kd.C_drop (m := 1) hrx (by simp only [List.length_cons]; omega) hcx
              rw [show (y :: ys).drop 1 = ys from rfl] at hCd
              have hcut' : ∃ (A' : Option Addr), (∀ W : World, (Instr.slice 32 (.slice (some ad1) m cx) (some (.int .i64 1)) none none).run Tryd.prog W = .ok (.slice A' (m - 1) (cx - 1)) W) ∧ Kd.C k45 w0 A' ys.length ys := ⟨_, hcut, hCd⟩
              obtain ⟨A', hcut2, hCd2⟩ := hcut'
              rw [show m - 1 = ys.length by rw [← hm, List.length_cons]; rfl] at hcut2
              clear hcut hCd hi0 hsz0
              by_cases hlt1 : y.f1 < p
              · have kl : decide (y1 < p) = true := decide_eq_true (by omega)
                have hjm := Aside0.mk (jmem_a (A' := A') (by rw [hm] at hbl; exact hbl) hcx hcy hlx hly hCd2 hry hin hgr hbw (by omega) (Nat.le_trans hb.size (Nat.le_add_right _ _)))
                clear hbl hcx hcy hlx hly hrx hry hin hgr hbw hrd hCd2 t1 t2
                gi_wp2_with fail
                have sta : ∀ (T : Array Value) (W : World), T = List.toArray ((.func (.yield l) #[] #[] : Value) :: (.pointer (some ⟨ga, 0, none⟩) : Value) :: (.pointer (some ⟨ga + 1, 0, none⟩) : Value) :: (.pointer (some ⟨ga + 1 + 1, 0, none⟩) : Value) :: T.getD 4 undef :: (.pointer (some ⟨w.heap.size + 2, 0, none⟩) : Value) :: T.getD 6 undef :: (.int .i64 p : Value) :: (.pointer (some ⟨W'.heap.size, 0, none⟩) : Value) :: (.int .i64 0 : Value) :: T.getD 10 undef :: T.getD 11 undef :: T.getD 12 undef :: T.getD 13 undef :: (.slice (some ad) N cp : Value) :: (.int .i64 (N : Int) : Value) :: (.int .i64 (k : Int) : Value) :: T.getD 17 undef :: T.getD 18 undef :: T.getD 19 undef :: (.int .i64 0 : Value) :: T.getD 21 undef :: T.getD 22 undef :: T.getD 23 undef :: T.getD 24 undef :: T.getD 25 undef :: T.getD 26 undef :: T.getD 27 undef :: T.getD 28 undef :: T.getD 29 undef :: T.getD 30 undef :: T.getD 31 undef :: T.getD 32 undef :: T.getD 33 undef :: T.getD 34 undef :: T.getD 35 undef :: T.getD 36 undef :: T.getD 37 undef :: T.getD 38 undef :: T.getD 39 undef :: T.getD 40 undef :: T.getD 41 undef :: T.getD 42 undef :: T.getD 43 undef :: T.getD 44 undef :: T.getD 45 undef :: T.getD 46 undef :: T.getD 47 undef :: T.getD 48 undef :: T.getD 49 undef :: T.getD 50 undef :: T.getD 51 undef :: T.getD 52 undef :: T.getD 53 undef :: T.getD 54 undef :: T.getD 55 undef :: T.getD 56 undef :: T.getD 57 undef :: T.getD 58 undef :: T.getD 59 undef :: T.getD 60 undef :: T.getD 61 undef :: T.getD 62 undef :: T.getD 63 undef :: T.getD 64 undef :: T.getD 65 undef :: T.getD 66 undef :: T.getD 67 undef :: []) → W = Wj.setCell ⟨w.heap.size + 2, 0, none⟩ (.slice A' ys.length (cx - 1)) → Handed J2 (y :: ys).length { tmps := T, defers := [] } W := fun T W hT hW =>
                  ⟨ys.length, by simp only [List.length_cons]; omega, hJ2 _ _ _ ⟨ys, fun i => T.getD i undef, rfl, by rw [← hadv, adv_cons_lt hlt1], by rw [hW]; exact hjm.out, congrArg (fun T => (Act.mk T _)) hT⟩⟩
                exact sta _ _ rfl rfl
              · have kl : decide (y1 < p) = false := decide_eq_false (by omega)
                rw [adv_cons_ge hlt1] at hadv
                have hin1 : SS.isIn p (y :: ys) = decide (y0 ≤ p) := by rw [← hy0]; rfl
                have fin : JMem w.heap.size W'.heap.size w0 W' (y :: ys) lb false false Wj := ⟨_, cx, Ay, cy, hbl, hcx, hcy, hlx, hly, hrx, hry, hin, hgr, hbw⟩
                have ST := Aside0.mk (jmem_in fin hsz hw0 0 (decide (y0 ≤ p)) (decide (y0 ≤ p)) false rfl)
                have HIN := Aside0.mk hin1
                clear fin hbl hcx hcy hlx hly hrx hry hin hgr hbw hrd hCd2 hin1
                gi_wp2_with fail
                have sta : ∀ (T : Array Value) (W : World), T = List.toArray ((.func (.yield l) #[] #[] : Value) :: (.pointer (some ⟨ga, 0, none⟩) : Value) :: (.pointer (some ⟨ga + 1, 0, none⟩) : Value) :: (.pointer (some ⟨ga + 1 + 1, 0, none⟩) : Value) :: T.getD 4 undef :: (.pointer (some ⟨w.heap.size + 2, 0, none⟩) : Value) :: T.getD 6 undef :: (.int .i64 p : Value) :: (.pointer (some ⟨W'.heap.size, 0, none⟩) : Value) :: T.getD 9 undef :: T.getD 10 undef :: T.getD 11 undef :: T.getD 12 undef :: T.getD 13 undef :: (.slice (some ad) N cp : Value) :: (.int .i64 (N : Int) : Value) :: (.int .i64 (k : Int) : Value) :: T.getD 17 undef :: T.getD 18 undef :: T.getD 19 undef :: (.int .i64 1 : Value) :: T.getD 21 undef :: T.getD 22 undef :: T.getD 23 undef :: T.getD 24 undef :: T.getD 25 undef :: T.getD 26 undef :: T.getD 27 undef :: T.getD 28 undef :: T.getD 29 undef :: T.getD 30 undef :: T.getD 31 undef :: T.getD 32 undef :: T.getD 33 undef :: T.getD 34 undef :: T.getD 35 undef :: T.getD 36 undef :: T.getD 37 undef :: T.getD 38 undef :: T.getD 39 undef :: T.getD 40 undef :: T.getD 41 undef :: T.getD 42 undef :: T.getD 43 undef :: T.getD 44 undef :: T.getD 45 undef :: T.getD 46 undef :: T.getD 47 undef :: T.getD 48 undef :: T.getD 49 undef :: T.getD 50 undef :: T.getD 51 undef :: T.getD 52 undef :: T.getD 53 undef :: T.getD 54 undef :: T.getD 55 undef :: T.getD 56 undef :: T.getD 57 undef :: T.getD 58 undef :: T.getD 59 undef :: T.getD 60 undef :: T.getD 61 undef :: T.getD 62 undef :: T.getD 63 undef :: T.getD 64 undef :: T.getD 65 undef :: T.getD 66 undef :: T.getD 67 undef :: []) → W = Wj.setCell ⟨W'.heap.size, 0, none⟩ (.bool (decide (y0 ≤ p))) → Handed J1 ((2 : Int) - 0).toNat { tmps := T, defers := [] } W := fun T W hT hW =>
                  ⟨1, by decide, hJ1 _ _ _ ⟨1, y :: ys, lb, decide (y0 ≤ p), false, fun i => T.getD i undef, rfl, .inr (.inl ⟨rfl, hadv, rfl, by rw [← hadv, HIN.out], rfl⟩), by rw [hW]; exact ST.out, congrArg (fun T => (Act.mk T _)) hT⟩⟩
                exact sta _ _ rfl rfl
        · gi_wp2_with fail
          have st2 : JMem w.heap.size W'.heap.size w0 W' (SS.adv p la) lb (SS.isIn p (SS.adv p la)) false Wi := ⟨Aa, ca, Ab, cb, hbl, hca, hcb, hla, hlb, hra, hrb, hin, hgr, hbw⟩
          have ST2 := Aside0.mk st2
          clear st2 hbl hca hcb hla hlb hra hrb hin hgr hbw
          refine wpIn_loop_ghost_k (fun q a W => ∃ (x : List S45) (u : Nat → Value), q = x.length ∧ SS.adv p x = SS.adv p lb ∧ JMem w.heap.size W'.heap.size w0 W' (SS.adv p la) x (SS.isIn p (SS.adv p la)) false W ∧ a = { tmps := List.toArray ((.func (.yield l) #[] #[] : Value) :: (.pointer (some ⟨ga, 0, none⟩) : Value) :: (.pointer (some ⟨ga + 1, 0, none⟩) : Value) :: (.pointer (some ⟨ga + 1 + 1, 0, none⟩) : Value) :: u 4 :: (.pointer (some ⟨w.heap.size + 2, 0, none⟩) : Value) :: u 6 :: (.int .i64 p : Value) :: (.pointer (some ⟨W'.heap.size, 0, none⟩) : Value) :: (.int .i64 1 : Value) :: u 10 :: u 11 :: u 12 :: u 13 :: (.slice (some ad) N cp : Value) :: (.int .i64 (N : Int) : Value) :: (.int .i64 (k : Int) : Value) :: u 17 :: u 18 :: u 19 :: (.int .i64 1 : Value) :: u 21 :: u 22 :: u 23 :: u 24 :: u 25 :: u 26 :: u 27 :: u 28 :: u 29 :: u 30 :: u 31 :: u 32 :: u 33 :: u 34 :: u 35 :: u 36 :: u 37 :: u 38 :: u 39 :: u 40 :: u 41 :: u 42 :: u 43 :: u 44 :: u 45 :: u 46 :: u 47 :: u 48 :: u 49 :: u 50 :: u 51 :: u 52 :: u 53 :: u 54 :: u 55 :: u 56 :: u 57 :: u 58 :: u 59 :: u 60 :: u 61 :: u 62 :: u 63 :: u 64 :: u 65 :: u 66 :: u 67 :: []), defers := [] }) lb.length ?start3 ?round3
          case start3 =>
            have sta : ∀ T : Array Value, T = List.toArray ((.func (.yield l) #[] #[] : Value) :: (.pointer (some ⟨ga, 0, none⟩) : Value) :: (.pointer (some ⟨ga + 1, 0, none⟩) : Value) :: (.pointer (some ⟨ga + 1 + 1, 0, none⟩) : Value) :: T.getD 4 undef :: (.pointer (some ⟨w.heap.size + 2, 0, none⟩) : Value) :: T.getD 6 undef :: (.int .i64 p : Value) :: (.pointer (some ⟨W'.heap.size, 0, none⟩) : Value) :: (.int .i64 1 : Value) :: T.getD 10 undef :: T.getD 11 undef :: T.getD 12 undef :: T.getD 13 undef :: (.slice (some ad) N cp : Value) :: (.int .i64 (N : Int) : Value) :: (.int .i64 (k : Int) : Value) :: T.getD 17 undef :: T.getD 18 undef :: T.getD 19 undef :: (.int .i64 1 : Value) :: T.getD 21 undef :: T.getD 22 undef :: T.getD 23 undef :: T.getD 24 undef :: T.getD 25 undef :: T.getD 26 undef :: T.getD 27 undef :: T.getD 28 undef :: T.getD 29 undef :: T.getD 30 undef :: T.getD 31 undef :: T.getD 32 undef :: T.getD 33 undef :: T.getD 34 undef :: T.getD 35 undef :: T.getD 36 undef :: T.getD 37 undef :: T.getD 38 undef :: T.getD 39 undef :: T.getD 40 undef :: T.getD 41 undef :: T.getD 42 undef :: T.getD 43 undef :: T.getD 44 undef :: T.getD 45 undef :: T.getD 46 undef :: T.getD 47 undef :: T.getD 48 undef :: T.getD 49 undef :: T.getD 50 undef :: T.getD 51 undef :: T.getD 52 undef :: T.getD 53 undef :: T.getD 54 undef :: T.getD 55 undef :: T.getD 56 undef :: T.getD 57 undef :: T.getD 58 undef :: T.getD 59 undef :: T.getD 60 undef :: T.getD 61 undef :: T.getD 62 undef :: T.getD 63 undef :: T.getD 64 undef :: T.getD 65 undef :: T.getD 66 undef :: T.getD 67 undef :: []) → ∃ (x : List S45) (u : Nat → Value), lb.length = x.length ∧ SS.adv p x = SS.adv p lb ∧ JMem w.heap.size W'.heap.size w0 W' (SS.adv p la) x (SS.isIn p (SS.adv p la)) false Wi ∧ (Act.mk T []) = { tmps := List.toArray ((.func (.yield l) #[] #[] : Value) :: (.pointer (some ⟨ga, 0, none⟩) : Value) :: (.pointer (some ⟨ga + 1, 0, none⟩) : Value) :: (.pointer (some ⟨ga + 1 + 1, 0, none⟩) : Value) :: u 4 :: (.pointer (some ⟨w.heap.size + 2, 0, none⟩) : Value) :: u 6 :: (.int .i64 p : Value) :: (.pointer (some ⟨W'.heap.size, 0, none⟩) : Value) :: (.int .i64 1 : Value) :: u 10 :: u 11 :: u 12 :: u 13 :: (.slice (some ad) N cp : Value) :: (.int .i64 (N : Int) : Value) :: (.int .i64 (k : Int) : Value) :: u 17 :: u 18 :: u 19 :: (.int .i64 1 : Value) :: u 21 :: u 22 :: u 23 :: u 24 :: u 25 :: u 26 :: u 27 :: u 28 :: u 29 :: u 30 :: u 31 :: u 32 :: u 33 :: u 34 :: u 35 :: u 36 :: u 37 :: u 38 :: u 39 :: u 40 :: u 41 :: u 42 :: u 43 :: u 44 :: u 45 :: u 46 :: u 47 :: u 48 :: u 49 :: u 50 :: u 51 :: u 52 :: u 53 :: u 54 :: u 55 :: u 56 :: u 57 :: u 58 :: u 59 :: u 60 :: u 61 :: u 62 :: u 63 :: u 64 :: u 65 :: u 66 :: u 67 :: []), defers := [] } := fun T hT =>
              ⟨lb, fun i => T.getD i undef, rfl, rfl, ST2.out, congrArg (fun T => (Act.mk T _)) hT⟩
            exact sta _ rfl
          case round3 =>
            clear ST2
            rintro q a Wj ⟨x, z, rfl, hadv, ⟨Ay, cy, Ax, cx, hbl, hcy, hcx, hly, hlx, hry, hrx, hin, hgr, hbw⟩, rfl⟩ J2 K2 hJ2 hK2
            have t0 := blk_cell hbl 1
            simp only [List.getElem?_toArray, List.getElem?_cons_zero, List.getElem?_cons_succ] at t0
            have t1 := blk_cell hin 1
            have t2 := blk_frozen hin 1
            simp only [List.getElem?_toArray, List.getElem?_cons_zero, List.getElem?_cons_succ] at t1
            have t3 := blk_frozen hbl 1
            cases x with
            | nil =>
              have fin : JMem w.heap.size W'.heap.size w0 W' (SS.adv p la) [] (SS.isIn p (SS.adv p la)) false Wj := ⟨Ay, cy, Ax, cx, hbl, hcy, hcx, hly, hlx, hry, hrx, hin, hgr, hbw⟩
              have ST := Aside0.mk (jmem_in fin hsz hw0 1 (SS.isIn p []) (SS.isIn p (SS.adv p la)) (SS.isIn p []) rfl)
              clear fin hbl hin hgr hbw
              gi_wp2_with fail
              have sta : ∀ (T : Array Value) (W : World), T = List.toArray ((.func (.yield l) #[] #[] : Value) :: (.pointer (some ⟨ga, 0, none⟩) : Value) :: (.pointer (some ⟨ga + 1, 0, none⟩) : Value) :: (.pointer (some ⟨ga + 1 + 1, 0, none⟩) : Value) :: T.getD 4 undef :: (.pointer (some ⟨w.heap.size + 2, 0, none⟩) : Value) :: T.getD 6 undef :: (.int .i64 p : Value) :: (.pointer (some ⟨W'.heap.size, 0, none⟩) : Value) :: T.getD 9 undef :: T.getD 10 undef :: T.getD 11 undef :: T.getD 12 undef :: T.getD 13 undef :: (.slice (some ad) N cp : Value) :: (.int .i64 (N : Int) : Value) :: (.int .i64 (k : Int) : Value) :: T.getD 17 undef :: T.getD 18 undef :: T.getD 19 undef :: (.int .i64 2 : Value) :: T.getD 21 undef :: T.getD 22 undef :: T.getD 23 undef :: T.getD 24 undef :: T.getD 25 undef :: T.getD 26 undef :: T.getD 27 undef :: T.getD 28 undef :: T.getD 29 undef :: T.getD 30 undef :: T.getD 31 undef :: T.getD 32 undef :: T.getD 33 undef :: T.getD 34 undef :: T.getD 35 undef :: T.getD 36 undef :: T.getD 37 undef :: T.getD 38 undef :: T.getD 39 undef :: T.getD 40 undef :: T.getD 41 undef :: T.getD 42 undef :: T.getD 43 undef :: T.getD 44 undef :: T.getD 45 undef :: T.getD 46 undef :: T.getD 47 undef :: T.getD 48 undef :: T.getD 49 undef :: T.getD 50 undef :: T.getD 51 undef :: T.getD 52 undef :: T.getD 53 undef :: T.getD 54 undef :: T.getD 55 undef :: T.getD 56 undef :: T.getD 57 undef :: T.getD 58 undef :: T.getD 59 undef :: T.getD 60 undef :: T.getD 61 undef :: T.getD 62 undef :: T.getD 63 undef :: T.getD 64 undef :: T.getD 65 undef :: T.getD 66 undef :: T.getD 67 undef :: []) → W = Wj.setCell ⟨W'.heap.size, 1, none⟩ (.bool (SS.isIn p [])) → Handed J1 ((2 : Int) - 1).toNat { tmps := T, defers := [] } W := fun T W hT hW =>
                ⟨0, by decide, hJ1 _ _ _ ⟨2, SS.adv p la, [], SS.isIn p (SS.adv p la), SS.isIn p [], fun i => T.getD i undef, rfl, .inr (.inr ⟨rfl, rfl, hadv, rfl, by rw [← hadv]; rfl⟩), by rw [hW]; exact ST.out, congrArg (fun T => (Act.mk T _)) hT⟩⟩
              exact sta _ _ rfl rfl
            | cons y ys =>
              have hrd := Kd.C_below hrx (hbw : Below w0.heap.size w0 Wj)
              obtain ⟨ad1, rfl, e0, e1⟩ := at_T45 hrd 0 (by omega) (by simp only [List.length_cons]; omega)
              obtain ⟨m, hm⟩ : ∃ m, (y :: ys).length = m := ⟨_, rfl⟩
              rw [hm] at t0
              have e2 : rd_T45 (y :: ys) 0 = y := rfl
              rw [e2] at e0 e1
              have ez : ad1.add (Int.toNat 0 * 2) = ad1 := by simp [Addr.add]
              rw [ez] at e0 e1
              obtain ⟨y0, hy0⟩ : ∃ y0, y.f0 = y0 := ⟨_, rfl⟩
              obtain ⟨y1, hy1⟩ : ∃ y1, y.f1 = y1 := ⟨_, rfl⟩
              rw [hy0] at e0
              rw [hy1] at e1
              have hm1 : 1 ≤ m := by rw [← hm, List.length_cons]; omega
              have kg : decide ((m : Int) > 0) = true := decide_eq_true (by omega)
              obtain ⟨i0, hi0, _, hsz0, _⟩ := info_parts info45
              have hcut := cut_from (P := Tryd.prog) 32 45 .i64 Tryd.underlying32 hi0 2 hsz0 (some ad1) m cx 1 (by omega) (by omega)
              have hCd := Kd.C_drop (m := 1) hrx (by simp only [List.length_cons]; omega) hcx
              rw [show (y :: ys).drop 1 = ys from rfl] at hCd
              have hcut' : ∃ (A' : Option Addr), (∀ W : World, (Instr.slice 32 (.slice (some ad1) m cx) (some (.int .i64 1)) none none).run Tryd.prog W = .ok (.slice A' (m - 1) (cx - 1)) W) ∧ Kd.C k45 w0 A' ys.length ys := ⟨_, hcut, hCd⟩
              obtain ⟨A', hcut2, hCd2⟩ := hcut'
              rw [show m - 1 = ys.length by rw [← hm, List.length_cons]; rfl] at hcut2
              clear hcut hCd hi0 hsz0
              by_cases hlt1 : y.f1 < p
              · have kl : decide (y1 < p) = true := decide_eq_true (by omega)
                have hjm := Aside0.mk (jmem_b (A' := A') (by rw [hm] at hbl; exact hbl) hcx hcy hlx hly hCd2 hry hin hgr hbw (by omega) (Nat.le_trans hb.size (Nat.le_add_right _ _)))
                clear hbl hcx hcy hlx hly hrx hry hin hgr hbw hrd hCd2 t1 t2
                gi_wp2_with fail
                have sta : ∀ (T : Array Value) (W : World), T = List.toArray ((.func (.yield l) #[] #[] : Value) :: (.pointer (some ⟨ga, 0, none⟩) : Value) :: (.pointer (some ⟨ga + 1, 0, none⟩) : Value) :: (.pointer (some ⟨ga + 1 + 1, 0, none⟩) : Value) :: T.getD 4 undef :: (.pointer (some ⟨w.heap.size + 2, 0, none⟩) : Value) :: T.getD 6 undef :: (.int .i64 p : Value) :: (.pointer (some ⟨W'.heap.size, 0, none⟩) : Value) :: (.int .i64 1 : Value) :: T.getD 10 undef :: T.getD 11 undef :: T.getD 12 undef :: T.getD 13 undef :: (.slice (some ad) N cp : Value) :: (.int .i64 (N : Int) : Value) :: (.int .i64 (k : Int) : Value) :: T.getD 17 undef :: T.getD 18 undef :: T.getD 19 undef :: (.int .i64 1 : Value) :: T.getD 21 undef :: T.getD 22 undef :: T.getD 23 undef :: T.getD 24 undef :: T.getD 25 undef :: T.getD 26 undef :: T.getD 27 undef :: T.getD 28 undef :: T.getD 29 undef :: T.getD 30 undef :: T.getD 31 undef :: T.getD 32 undef :: T.getD 33 undef :: T.getD 34 undef :: T.getD 35 undef :: T.getD 36 undef :: T.getD 37 undef :: T.getD 38 undef :: T.getD 39 undef :: T.getD 40 undef :: T.getD 41 undef :: T.getD 42 undef :: T.getD 43 undef :: T.getD 44 undef :: T.getD 45 undef :: T.getD 46 undef :: T.getD 47 undef :: T.getD 48 undef :: T.getD 49 undef :: T.getD 50 undef :: T.getD 51 undef :: T.getD 52 undef :: T.getD 53 undef :: T.getD 54 undef :: T.getD 55 undef :: T.getD 56 undef :: T.getD 57 undef :: T.getD 58 undef :: T.getD 59 undef :: T.getD 60 undef :: T.getD 61 undef :: T.getD 62 undef :: T.getD 63 undef :: T.getD 64 undef :: T.getD 65 undef :: T.getD 66 undef :: T.getD 67 undef :: []) → W = Wj.setCell ⟨w.heap.size + 2, 1, none⟩ (.slice A' ys.length (cx - 1)) → Handed J2 (y :: ys).length { tmps := T, defers := [] } W := fun T W hT hW =>
                  ⟨ys.length, by simp only [List.length_cons]; omega, hJ2 _ _ _ ⟨ys, fun i => T.getD i undef, rfl, by rw [← hadv, adv_cons_lt hlt1], by rw [hW]; exact hjm.out, congrArg (fun T => (Act.mk T _)) hT⟩⟩
                exact sta _ _ rfl rfl
              · have kl : decide (y1 < p) = false := decide_eq_false (by omega)
                rw [adv_cons_ge hlt1] at hadv
                have hin1 : SS.isIn p (y :: ys) = decide (y0 ≤ p) := by rw [← hy0]; rfl
                have fin : JMem w.heap.size W'.heap.size w0 W' (SS.adv p la) (y :: ys) (SS.isIn p (SS.adv p la)) false Wj := ⟨Ay, cy, _, cx, hbl, hcy, hcx, hly, hlx, hry, hrx, hin, hgr, hbw⟩
                have ST := Aside0.mk (jmem_in fin hsz hw0 1 (decide (y0 ≤ p)) (SS.isIn p (SS.adv p la)) (decide (y0 ≤ p)) rfl)
                have HIN := Aside0.mk hin1
                clear fin hbl hcx hcy hlx hly hrx hry hin hgr hbw hrd hCd2 hin1
                gi_wp2_with fail
                have sta : ∀ (T : Array Value) (W : World), T = List.toArray ((.func (.yield l) #[] #[] : Value) :: (.pointer (some ⟨ga, 0, none⟩) : Value) :: (.pointer (some ⟨ga + 1, 0, none⟩) : Value) :: (.pointer (some ⟨ga + 1 + 1, 0, none⟩) : Value) :: T.getD 4 undef :: (.pointer (some ⟨w.heap.size + 2, 0, none⟩) : Value) :: T.getD 6 undef :: (.int .i64 p : Value) :: (.pointer (some ⟨W'.heap.size, 0, none⟩) : Value) :: T.getD 9 undef :: T.getD 10 undef :: T.getD 11 undef :: T.getD 12 undef :: T.getD 13 undef :: (.slice (some ad) N cp : Value) :: (.int .i64 (N : Int) : Value) :: (.int .i64 (k : Int) : Value) :: T.getD 17 undef :: T.getD 18 undef :: T.getD 19 undef :: (.int .i64 2 : Value) :: T.getD 21 undef :: T.getD 22 undef :: T.getD 23 undef :: T.getD 24 undef :: T.getD 25 undef :: T.getD 26 undef :: T.getD 27 undef :: T.getD 28 undef :: T.getD 29 undef :: T.getD 30 undef :: T.getD 31 undef :: T.getD 32 undef :: T.getD 33 undef :: T.getD 34 undef :: T.getD 35 undef :: T.getD 36 undef :: T.getD 37 undef :: T.getD 38 undef :: T.getD 39 undef :: T.getD 40 undef :: T.getD 41 undef :: T.getD 42 undef :: T.getD 43 undef :: T.getD 44 undef :: T.getD 45 undef :: T.getD 46 undef :: T.getD 47 undef :: T.getD 48 undef :: T.getD 49 undef :: T.getD 50 undef :: T.getD 51 undef :: T.getD 52 undef :: T.getD 53 undef :: T.getD 54 undef :: T.getD 55 undef :: T.getD 56 undef :: T.getD 57 undef :: T.getD 58 undef :: T.getD 59 undef :: T.getD 60 undef :: T.getD 61 undef :: T.getD 62 undef :: T.getD 63 undef :: T.getD 64 undef :: T.getD 65 undef :: T.getD 66 undef :: T.getD 67 undef :: []) → W = Wj.setCell ⟨W'.heap.size, 1, none⟩ (.bool (decide (y0 ≤ p))) → Handed J1 ((2 : Int) - 1).toNat { tmps := T, defers := [] } W := fun T W hT hW =>
                  ⟨0, by decide, hJ1 _ _ _ ⟨2, SS.adv p la, y :: ys, SS.isIn p (SS.adv p la), decide (y0 ≤ p), fun i => T.getD i undef, rfl, .inr (.inr ⟨rfl, rfl, hadv, rfl, by rw [← hadv, HIN.out]⟩), by rw [hW]; exact ST.out, congrArg (fun T => (Act.mk T _)) hT⟩⟩
                exact sta _ _ rfl rfl
        · have hcl := blk_cell hin 0
          have hcl1 := blk_cell hin 1
          simp only [List.getElem?_toArray, List.getElem?_cons_zero, List.getElem?_cons_succ] at hcl hcl1
          obtain ⟨la', hla'⟩ : ∃ la', SS.adv p la = la' := ⟨_, rfl⟩
          obtain ⟨lb', hlb'⟩ : ∃ lb', SS.adv p lb = lb' := ⟨_, rfl⟩
          obtain ⟨fa, hfa⟩ : ∃ fa, SS.isIn p la' = fa := ⟨_, rfl⟩
          obtain ⟨fb, hfb⟩ : ∃ fb, SS.isIn p lb' = fb := ⟨_, rfl⟩
          have hkl : k < (SS.pts l0 l1).length := by rw [hNP]; exact hlt
          have hev := HEV.out
          rw [drop_get hkl, show (SS.pts l0 l1)[k] = p by rw [← HP.out, rd_lt hkl], SS.walkEv, hla', hlb', hfa, hfb, List.append_cons] at hev
          rw [hla', hlb', hfa, hfb] at hin
          rw [hla', hfa] at hcl
          rw [hlb', hfb] at hcl1
          rw [hla'] at hca hla hra
          rw [hlb'] at hcb hlb hrb
          rw [hla', hlb'] at hbl
          have hJi := hJ _ _ _ _ HJP.out hgr (fun r e => by cases e; exact .inr rfl)
          have hsz' : w.heap.size + 2 < Wi.heap.size := Nat.lt_of_lt_of_le hsz hgr.size
          obtain ⟨fn, tmps, assign, body, hy, hR⟩ := hY pre (p, fa, fb) Wi hJi (by rw [hev]; exact List.prefix_append _ _) hsz'
          have hop3 : ∀ W3, KeepZ w0.heap.size ga w.heap.size Wi W3 → W3.ownsRow (ga + 4) 3 1 (Value.slice (some ad) N cp) N (nums .i64 (SS.pts l0 l1)) := fun W3 hk =>
            own_keep HOP.out (fun g hg => by
              have h1 := own_base HOP.out g hg
              have h2 := hVz g hg
              have h3 := own_lt HOP.out g hg
              have h4 := hgr.size
              rw [hk.2 g (.inl ⟨by omega, h2⟩) (by omega)]
              exact hgr.block g h3 (fun e => by have := Option.some.inj e; omega))
          have HEV2 := Aside0.mk hev
          have HALL := Aside0.mk (And.intro hbl (And.intro hca (And.intro hcb (And.intro hla (And.intro hlb (And.intro hra (And.intro hrb hbw)))))))
          have HOP3 := Aside0.mk hop3
          clear hbl hca hcb hla hlb hra hrb hbw hin hgr hop3 hev hla' hlb' hfa hfb hJi hY
          dsimp only [encE] at hy
          gi_wp2_with fail
          refine hR.mono ?_
          rintro e W3 ⟨rfl, hJ3, hk3⟩
          have hZs : W3.heap[w.heap.size + 2]? = Wi.heap[w.heap.size + 2]? := hk3.2 _ (.inr rfl) hsz'
          have st3 : IMem l0 l1 ga w.heap.size w0 (.slice (some ad) N cp) N J (k + 1) W3 :=
            ⟨pre ++ [(p, fa, fb)], la', lb', Aa, ca, Ab, cb, HEV2.out, hJ3, hZs.trans HALL.out.1, HALL.out.2.1, HALL.out.2.2.1, HALL.out.2.2.2.1, HALL.out.2.2.2.2.1, HALL.out.2.2.2.2.2.1, HALL.out.2.2.2.2.2.2.1, HALL.out.2.2.2.2.2.2.2.trans hk3.1, Nat.lt_of_lt_of_le hsz' hk3.1.size, HOP3.out W3 hk3⟩
          have ST3 := Aside0.mk st3
          clear st3 hJ3 hk3 hZs HOP3 HALL HEV2 hR hy
          gi_wp2_with fail
          have sta : ∀ (T : Array Value), T = List.toArray ((.func (.yield l) #[] #[] : Value) :: (.pointer (some ⟨ga, 0, none⟩) : Value) :: (.pointer (some ⟨ga + 1, 0, none⟩) : Value) :: (.pointer (some ⟨ga + 1 + 1, 0, none⟩) : Value) :: T.getD 4 undef :: (.pointer (some ⟨w.heap.size + 2, 0, none⟩) : Value) :: T.getD 6 undef :: T.getD 7 undef :: T.getD 8 undef :: T.getD 9 undef :: T.getD 10 undef :: T.getD 11 undef :: T.getD 12 undef :: T.getD 13 undef :: (.slice (some ad) N cp : Value) :: (.int .i64 (N : Int) : Value) :: (.int .i64 ((k : Int) + 1) : Value) :: T.getD 17 undef :: T.getD 18 undef :: T.getD 19 undef :: T.getD 20 undef :: T.getD 21 undef :: T.getD 22 undef :: T.getD 23 undef :: T.getD 24 undef :: T.getD 25 undef :: T.getD 26 undef :: T.getD 27 undef :: T.getD 28 undef :: T.getD 29 undef :: T.getD 30 undef :: T.getD 31 undef :: T.getD 32 undef :: T.getD 33 undef :: T.getD 34 undef :: T.getD 35 undef :: T.getD 36 undef :: T.getD 37 undef :: T.getD 38 undef :: T.getD 39 undef :: T.getD 40 undef :: T.getD 41 undef :: T.getD 42 undef :: T.getD 43 undef :: T.getD 44 undef :: T.getD 45 undef :: T.getD 46 undef :: T.getD 47 undef :: T.getD 48 undef :: T.getD 49 undef :: T.getD 50 undef :: T.getD 51 undef :: T.getD 52 undef :: T.getD 53 undef :: T.getD 54 undef :: T.getD 55 undef :: T.getD 56 undef :: T.getD 57 undef :: T.getD 58 undef :: T.getD 59 undef :: T.getD 60 undef :: T.getD 61 undef :: T.getD 62 undef :: T.getD 63 undef :: T.getD 64 undef :: T.getD 65 undef :: T.getD 66 undef :: T.getD 67 undef :: []) → Handed J' (N - k) { tmps := T, defers := [] } W3 := fun T hT =>
            ⟨N - (k + 1), by omega, hJ' _ _ _ ⟨k + 1, fun i => T.getD i undef, rfl, by omega, ST3.out, by rw [Int.natCast_add]; exact congrArg (fun T => (Act.mk T _)) hT⟩⟩
          exact sta _ rfl
    · obtain rfl : k = N := by omega
      have k1 : decide ((k : Int) < (k : Int)) = false := decide_eq_false (by omega)
      rw [List.drop_of_length_le (by omega), SS.walkEv, List.append_nil] at hev
      have HJP := Aside0.mk hJp
      have HEV := Aside0.mk hev
      clear hev hJp hbl hca hcb hla hlb hra hrb hbw hsz hop hJ'
      gi_wp2_with fail
      go_end0
      exact ⟨⟨_, rfl⟩, by rw [HEV.out]; exact HJP.out⟩
end CI
end Go.Proofs.YtpodgkmgameocaaDoor.X
