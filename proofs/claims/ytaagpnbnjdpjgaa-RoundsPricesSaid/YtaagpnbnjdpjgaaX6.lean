/- Proved here: for functions of the program and of the reference, what each call returns (theorems '.calls'), under the conditions that each theorem names. Printed by this project's own driver over the kit's printer; parts marked EXT are written by hand. Lean checks it. -/
import Derived.Test.YtaagpnbnjdpjgaaX0
import Derived.Test.YtaagpnbnjdpjgaaX2
import Derived.Test.YtaagpnbnjdpjgaaX3
import Derived.Test.YtaagpnbnjdpjgaaX4
import Derived.Test.YtaagpnbnjdpjgaaK
import Derived.Test.YtaagpnbnjdpjgaaR
import Derived.Deep.RegionHeld3
import Derived.BigQuiet
namespace Go.Proofs.Ytaagpnbnjdpjgaa.X
open Go.RowKit Go.Proofs.YtaagpnbnjdpjgaaW.PrintWords Go.Proofs.YtaagpnbnjdpjgaaW.PrintLast Go.Proofs.YtaagpnbnjdpjgaaW.PrintMore
attribute [local go_sem] max2_int min2_int max_two min_two max_three min_three max_four min_four   -- for this text's walks alone
set_option linter.unusedVariables false
set_option linter.unusedSimpArgs false

-- EXT rounds_Place: function 15
-- def rounds_Place.f (l0 : List Int) (a1 : Int) (l2 : List (List Int)) : Option (List Int × Int × Bool × Int) := 
-- theorem rounds_Place.calls (A0 : Option Addr) (c0 : Nat) (l0 : List Int) (a1 : Int) (A2 : Option Addr) (c2 : Nat) (l2 : List (List Int)) (r1 : List Int) (r2 : Int) (r3 : Bool) (r4 : Int) (w : World) (hr0 : Kd.C (Kd.int .i64) w A0 l0.length l0) (hc0 : l0.length ≤ c0) (hr2 : Kd.C (Kd.slice 3 (Kd.int .i64)) w A2 l2.length l2) (hc2 : l2.length ≤ c2) (h : rounds_Place.f l0 a1 l2 = some (r1, r2, r3, r4)) :
--     Calls Try.prog 15 #[.slice A0 l0.length c0, .int .i64 a1, .slice A2 l2.length c2] w fun e w' => ∃ v0_ : Value, e = .returned (.tuple #[v0_, .int .i64 r2, .bool r3, .int .i64 r4]) ∧ Kd.R (Kd.int .i64) 3 w' w.heap.size (fun _ => True) v0_ r1 ∧ Below w.heap.size w w'
-- NEEDS: fasti/rounds.check, fasti/rounds.Most, slices.BinarySearch[[]int,int]
-- INFO: 3
-- IMPORTS: Derived.Test.YtaagpnbnjdpjgaaK, Derived.Test.YtaagpnbnjdpjgaaR, Derived.Deep.RegionHeld3, Derived.BigQuiet
namespace PC
open Go.Proofs.Ytaagpnbnjdpjgaa.K Go.Proofs.Ytaagpnbnjdpjgaa.R Go.Shelf Go.BigFrame
attribute [local go_sem] Oper.semAt_some

/-- The value of a table: its width, its cells. -/
abbrev tabV (g N width : Nat) : Value := .agg #[.int .i64 (width : Int), .slice (some ⟨g, 0, none⟩) N N]
set_option maxRecDepth 100000 in
set_option maxHeartbeats 4000000 in
theorem newTable_calls (rows width : Nat) (h : rows * width ≤ 20000) (hr : rows ≤ 20000) (hw : width ≤ 20000) (w : World) :
    Calls Try.prog 24 #[.int .i64 rows, .int .i64 width] w fun e w' => ∃ g, e = .returned (tabV g (rows * width) width) ∧ w'.heap[g]? = some (.cells (madeCells #[.int .i64 0, .int .i64 0] (rows * width * 2)) 53 (0, 0)) ∧ w.heap.size ≤ g ∧ Below w.heap.size w w' := by
  have hm : (rows : Int) * (width : Int) = ((rows * width : Nat) : Int) := by simp
  have info53 : (Try.prog.info? 53).map (fun i => (i.zero, i.size, i.bytes)) = some (some (.agg #[(.int .i64 0), (.int .i64 0)]), 2, 16) := by kernel_rfl
  obtain ⟨i0, hi, hz0, hz1, hz2⟩ := info_parts info53
  go_enter Try.func24, Try.ntmps24
  obtain ⟨N, hN⟩ : ∃ N, rows * width = N := ⟨_, rfl⟩
  rw [hN] at hm h ⊢
  have hmk := fun W : World => run_make (P := Try.prog) (w := W) 48 53 i0 _ Try.underlying48 hi hz0 .i64 .i64 (N : Int) (N : Int) (by omega) (by omega) (by rw [hz2]; omega) (by omega)
  simp only [Int.toNat_natCast, hz1, Value.cells] at hmk
  go_wp2_with fail
  have hB : Below w.heap.size w ((w.alloc (.cells #[.int .i64 (width : Int), .slice (some ⟨w.heap.size + 1, 0, none⟩) N N] 50)).alloc (.cells (madeCells #[.int .i64 0, .int .i64 0] (N * 2)) 53)) := below_alloc (below_alloc (Below.refl _ _) _) _
  have hG := blk_new (w.alloc (.cells #[.int .i64 (width : Int), .slice (some ⟨w.heap.size + 1, 0, none⟩) N N] 50)) (.cells (madeCells #[.int .i64 0, .int .i64 0] (N * 2)) 53)
  simp only [World.size_alloc] at hG
  refine bodyPost_ret (v := tabV (w.heap.size + 1) N width) (by simp [results, Try.results24, go_sem, tabV]) rfl ⟨_, rfl, hG, by omega, hB⟩
set_option maxRecDepth 100000 in
set_option maxHeartbeats 4000000 in
theorem at_calls (g N width row i : Nat) (h : row * width + i < N) (hN : N ≤ 20000) (w : World) :
    Calls Try.prog 25 #[tabV g N width, .int .i64 row, .int .i64 i] w fun e w' => e = .returned (.pointer (some ⟨g, (row * width + i) * 2, none⟩)) ∧ Below w.heap.size w w' := by
  have hm : (row : Int) * (width : Int) = ((row * width : Nat) : Int) := by simp
  obtain ⟨m, hm'⟩ : ∃ m, row * width = m := ⟨_, rfl⟩
  rw [hm'] at hm h ⊢
  go_enter Try.func25, Try.ntmps25
  go_wp2_with fail
  exact bodyPost_ret (v := .pointer (some ⟨g, (m + i) * 2, none⟩)) (by simp [results, Try.results25, go_sem]) rfl ⟨rfl, below_alloc (Below.refl _ _) _⟩
set_option maxRecDepth 100000 in
set_option maxHeartbeats 4000000 in
/-- The table's block holds these numbers. -/
theorem first_calls (g N width row i B : Nat) (ts : List Int) (h : row * width + i < N) (hN : N ≤ 20000) (w : World) (hB : w.heap[B]? = some (.cells #[.int .i64 (width : Int), .slice (some ⟨g, 0, none⟩) N N] 50 (0, 0))) (hl : ts.length = N * 2) (hG : w.heap[g]? = some (.cells (nums .i64 ts).toArray 53 (0, 0))) :
    Calls Try.prog 27 #[.int .i64 row, .int .i64 i, .pointer (some ⟨B, 0, none⟩)] w fun e w' => e = .returned (.agg #[.int .i64 (rd ts ((row * width + i) * 2 : Nat)), .int .i64 (rd ts ((row * width + i) * 2 + 1 : Nat))]) ∧ Below w.heap.size w w' := by
  have b3 := blk_alloc hB (.cells #[.int .i64 0, .int .i64 0] 53)
  have f3 := blk_cell b3 0
  have f4 := blk_cell b3 1
  simp only [List.getElem?_toArray, List.getElem?_cons_zero, List.getElem?_cons_succ] at f3 f4
  have hb1 := below_alloc (Below.refl w.heap.size w) (.cells #[.int .i64 0, .int .i64 0] 53)
  go_enter Try.func27, Try.ntmps27
  go_wp2_with fail
  refine (at_calls g N width row i h hN _).mono ?_
  rintro e w1 ⟨rfl, hb2⟩
  have hB1 := below_then hb1 hb1.size hb2
  obtain ⟨q, hq⟩ : ∃ q, (row * width + i) * 2 = q := ⟨_, rfl⟩
  have hg1 := (hB1.block g (blk_lt hG)).trans hG
  have h0 := blk_cell hg1 q
  have h1 := blk_cell hg1 (q + 1)
  have hv : ∀ j, j < N * 2 → (nums .i64 ts).toArray[j]? = some (.int .i64 (rd ts (j : Int))) := fun j hj => by
    have : j < ts.length := by omega
    simp [nums, rd, List.getElem?_eq_getElem this, List.getD_eq_getElem?_getD]
  rw [hv _ (by omega)] at h0 h1
  have b5 := (hb2.block w.heap.size (by simp)).trans (blk_new w (.cells #[.int .i64 0, .int .i64 0] 53))
  have f5 := blk_cell b5 0
  have f6 := blk_cell b5 1
  have g5 := blk_frozen b5 0
  have g6 := blk_frozen b5 1
  simp only [List.getElem?_toArray, List.getElem?_cons_zero, List.getElem?_cons_succ] at f5 f6
  rw [hq]
  clear hb1 hb2 b3 f3 f4 hB
  have b7 := blk_set (blk_set b5 0 (.int .i64 (rd ts (q : Int)))) 1 (.int .i64 (rd ts ((q : Int) + 1)))
  have f7 := blk_cell b7 0
  have f8 := blk_cell b7 1
  simp at f7 f8
  go_wp2
  refine bodyPost_ret (v := .agg #[.int .i64 (rd ts (q : Int)), .int .i64 (rd ts ((q : Int) + 1))]) (by simp [results, Try.results27, go_sem, f7, f8]) rfl ⟨?_, below_set (below_set hB1 (by omega)) (by omega)⟩
  rw [hq, show ((q + 1 : Nat) : Int) = (q : Int) + 1 by omega]

/-! The table: what its cells hold. -/
def plRow (l0 : List Int) (a1 : Int) (row : List Int) (later : Nat → Int × Int) : Nat → Int × Int
  | 0 => (0, -1)
  | d + 1 =>
    let i := l0.length - (d + 1)
    let b := plRow l0 a1 row later d
    let t := later (lb l0 (rd l0 (i : Int) + a1))
    if (0 ≤ rd row (i : Int) ∧ 0 ≤ t.2) ∧ (b.2 < 0 ∨ rd row (i : Int) + t.1 ≤ b.1) then (rd row (i : Int) + t.1, (i : Int)) else b
def pl (l0 : List Int) (a1 : Int) : List (List Int) → Nat → Int × Int
  | [], _ => (0, 0)
  | row :: rows, i => plRow l0 a1 row (pl l0 a1 rows) (l0.length - i)
theorem pl_end (l0 : List Int) (a1 : Int) (row : List Int) (rows : List (List Int)) : pl l0 a1 (row :: rows) l0.length = (0, -1) := by
  unfold pl
  rw [Nat.sub_self]
  rfl
theorem pl_step (l0 : List Int) (a1 : Int) (row : List Int) (rows : List (List Int)) {i : Nat} (hi : i < l0.length) :
    pl l0 a1 (row :: rows) i = if (0 ≤ rd row (i : Int) ∧ 0 ≤ (pl l0 a1 rows (lb l0 (rd l0 (i : Int) + a1))).2) ∧ ((pl l0 a1 (row :: rows) (i + 1)).2 < 0 ∨ rd row (i : Int) + (pl l0 a1 rows (lb l0 (rd l0 (i : Int) + a1))).1 ≤ (pl l0 a1 (row :: rows) (i + 1)).1)
      then (rd row (i : Int) + (pl l0 a1 rows (lb l0 (rd l0 (i : Int) + a1))).1, (i : Int)) else pl l0 a1 (row :: rows) (i + 1) := by
  simp only [pl]
  rw [show l0.length - i = (l0.length - (i + 1)) + 1 by omega]
  simp only [plRow]
  rw [show l0.length - (l0.length - (i + 1) + 1) = i by omega]
  rfl
/-- Where an index is told, it is one that may be taken. -/
theorem plRow_at (l0 : List Int) (a1 : Int) (row : List Int) (later : Nat → Int × Int) : ∀ d, d ≤ l0.length → 0 ≤ (plRow l0 a1 row later d).2 →
    ∃ x : Nat, (plRow l0 a1 row later d).2 = (x : Int) ∧ l0.length - d ≤ x ∧ x < l0.length ∧ 0 ≤ rd row (x : Int) ∧ 0 ≤ (later (lb l0 (rd l0 (x : Int) + a1))).2 ∧ (plRow l0 a1 row later d).1 = rd row (x : Int) + (later (lb l0 (rd l0 (x : Int) + a1))).1
  | 0, _, h => by simp [plRow] at h
  | d + 1, hd, h => by
    simp only [plRow] at h ⊢
    by_cases hc : (0 ≤ rd row ((l0.length - (d + 1) : Nat) : Int) ∧ 0 ≤ (later (lb l0 (rd l0 ((l0.length - (d + 1) : Nat) : Int) + a1))).2) ∧ ((plRow l0 a1 row later d).2 < 0 ∨ rd row ((l0.length - (d + 1) : Nat) : Int) + (later (lb l0 (rd l0 ((l0.length - (d + 1) : Nat) : Int) + a1))).1 ≤ (plRow l0 a1 row later d).1)
    · rw [if_pos hc] at h ⊢
      exact ⟨l0.length - (d + 1), rfl, Nat.le_refl _, by omega, hc.1.1, hc.1.2, rfl⟩
    · rw [if_neg hc] at h ⊢
      obtain ⟨x, h1, h2, h3⟩ := plRow_at l0 a1 row later d (by omega) h
      exact ⟨x, h1, by omega, h3⟩
theorem pl_at (l0 : List Int) (a1 : Int) (row : List Int) (rows : List (List Int)) (i : Nat) (hi : i ≤ l0.length) (h : 0 ≤ (pl l0 a1 (row :: rows) i).2) :
    ∃ x : Nat, (pl l0 a1 (row :: rows) i).2 = (x : Int) ∧ i ≤ x ∧ x < l0.length ∧ 0 ≤ rd row (x : Int) ∧ 0 ≤ (pl l0 a1 rows (lb l0 (rd l0 (x : Int) + a1))).2 ∧ (pl l0 a1 (row :: rows) i).1 = rd row (x : Int) + (pl l0 a1 rows (lb l0 (rd l0 (x : Int) + a1))).1 := by
  obtain ⟨x, h1, h2, h3⟩ := plRow_at l0 a1 row (pl l0 a1 rows) (l0.length - i) (by omega) h
  exact ⟨x, h1, by omega, h3⟩
theorem plRow_bound (l0 : List Int) (a1 : Int) (row : List Int) (later : Nat → Int × Int) (m : Int) (hm : 0 ≤ m) (hr : ∀ p ∈ row, p ≤ 1048576) (hl : ∀ j, 0 ≤ (later j).1 ∧ (later j).1 ≤ m) : ∀ d, 0 ≤ (plRow l0 a1 row later d).1 ∧ (plRow l0 a1 row later d).1 ≤ 1048576 + m
  | 0 => by simp [plRow]; omega
  | d + 1 => by
    simp only [plRow]
    have ih := plRow_bound l0 a1 row later m hm hr hl d
    split
    · rename_i hc
      have h1 := hl (lb l0 (rd l0 ((l0.length - (d + 1) : Nat) : Int) + a1))
      have h2 : rd row ((l0.length - (d + 1) : Nat) : Int) ≤ 1048576 := by
        unfold rd
        rw [List.getD_eq_getElem?_getD]
        cases hq : row[((l0.length - (d + 1) : Nat) : Int).toNat]? with
        | none => simp
        | some p => exact hr p (List.mem_of_getElem? hq)
      have := hc.1.1
      constructor <;> (dsimp only; omega)
    · exact ih
theorem pl_bound (l0 : List Int) (a1 : Int) : ∀ rows : List (List Int), (∀ row ∈ rows, ∀ p ∈ row, p ≤ 1048576) → ∀ i, 0 ≤ (pl l0 a1 rows i).1 ∧ (pl l0 a1 rows i).1 ≤ 1048576 * (rows.length : Int)
  | [], _, i => by simp [pl]
  | row :: rows, h, i => by
    have ih := pl_bound l0 a1 rows (fun r hr => h r (List.mem_cons_of_mem _ hr))
    have := plRow_bound l0 a1 row (pl l0 a1 rows) (1048576 * (rows.length : Int)) (by omega) (h row List.mem_cons_self) ih (l0.length - i)
    simp only [pl, List.length_cons]
    omega
/-- The taken indices. -/
def pick (l0 : List Int) (a1 : Int) : List (List Int) → Int → List Int
  | [], _ => []
  | _ :: rows, x => x :: pick l0 a1 rows (pl l0 a1 rows (lb l0 (rd l0 x + a1))).2
def placeS (l0 : List Int) (a1 : Int) (l2 : List (List Int)) : List Int × Int × Bool :=
  if (pl l0 a1 l2 0).2 < 0 then ([], 0, false) else (pick l0 a1 l2 (pl l0 a1 l2 0).2, (pl l0 a1 l2 0).1, true)
theorem own_same2 {W W' : World} {base e size n : Nat} {g cap : Nat} {xs : List Value} (h : W.ownsRow base e size (.slice (some ⟨g, 0, none⟩) n cap) n xs) (hs : W'.heap[g]? = W.heap[g]?) : W'.ownsRow base e size (.slice (some ⟨g, 0, none⟩) n cap) n xs := by
  refine ⟨h.1, ?_⟩
  rcases h.2 with ⟨h1, _⟩ | ⟨g', cap', cur, he, hb, hh, hr⟩
  · cases h1
  · have : g' = g ∧ cap' = cap := by cases he; exact ⟨rfl, rfl⟩
    obtain ⟨rfl, rfl⟩ := this
    exact .inr ⟨g', cap', cur, rfl, hb, hs.trans hh, hr⟩
theorem made53 (N : Nat) : (madeCells #[Value.int .i64 0, Value.int .i64 0] (N * 2)) = (nums .i64 (List.replicate (N * 2) 0)).toArray := by
  apply Array.ext'
  apply List.ext_getElem
  · simp [nums, madeCells]
  · intro i h1 h2
    simp [nums, madeCells]
    rcases Nat.mod_two_eq_zero_or_one i with h | h <;> rw [h] <;> rfl
theorem idx_inj {n r i r' i' : Nat} (hi : i < n) (hi' : i' < n) (h : r * n + i = r' * n + i') : r = r' ∧ i = i' := by
  have h1 : (r * n + i) / n = r := by rw [Nat.add_comm, Nat.add_mul_div_right _ _ (by omega), Nat.div_eq_of_lt hi, Nat.zero_add]
  have h2 : (r' * n + i') / n = r' := by rw [Nat.add_comm, Nat.add_mul_div_right _ _ (by omega), Nat.div_eq_of_lt hi', Nat.zero_add]
  have : r = r' := by rw [← h1, h, h2]
  subst this
  exact ⟨rfl, by omega⟩
theorem idx_lt {n K r i : Nat} (hi : i < n) (hr : r < K) : r * n + i < K * n := by
  have : (r + 1) * n ≤ K * n := Nat.mul_le_mul_right n hr
  rw [Nat.succ_mul] at this
  omega
/-- The table's cells are right from row kk on, and in the row before it from ii on. -/
def TabOk (l0 : List Int) (a1 : Int) (l2 : List (List Int)) (kk ii : Nat) (ts : List Int) : Prop :=
  ts.length = (l2.length + 1) * (l0.length + 1) * 2 ∧ ∀ r i, r ≤ l2.length → i ≤ l0.length → (kk ≤ r ∨ (r + 1 = kk ∧ ii ≤ i)) →
    rd ts (((r * (l0.length + 1) + i) * 2 : Nat) : Int) = (pl l0 a1 (l2.drop r) i).1 ∧ rd ts (((r * (l0.length + 1) + i) * 2 : Nat) + 1 : Int) = (pl l0 a1 (l2.drop r) i).2
theorem tab_zero (l0 : List Int) (a1 : Int) (l2 : List (List Int)) (ii : Nat) : TabOk l0 a1 l2 l2.length (l0.length + 1) (List.replicate ((l2.length + 1) * (l0.length + 1) * 2) 0) := by
  refine ⟨by simp, fun r i hr hi h => ?_⟩
  have : r = l2.length := by omega
  subst this
  rw [List.drop_length]
  have hz : ∀ m (j : Int), rd (List.replicate m (0 : Int)) j = 0 := fun m j => by
    unfold rd
    rw [List.getD_eq_getElem?_getD, List.getElem?_replicate]
    split <;> rfl
  simp [pl, hz]
theorem tab_next {l0 : List Int} {a1 : Int} {l2 : List (List Int)} {k : Nat} {ts : List Int} (h : TabOk l0 a1 l2 (k + 1) 0 ts) : TabOk l0 a1 l2 k (l0.length + 1) ts :=
  ⟨h.1, fun r i hr hi hc => h.2 r i hr hi (by omega)⟩
theorem rd_set_ne {l : List Int} {a b : Nat} (h : a ≠ b) (v : Int) : rd (l.set a v) (b : Int) = rd l (b : Int) := by
  simp [rd, List.getD_eq_getElem?_getD, List.getElem?_set_ne h]
theorem rd_set_eq {l : List Int} {a : Nat} (h : a < l.length) (v : Int) : rd (l.set a v) (a : Int) = v := by
  simp [rd, List.getD_eq_getElem?_getD, List.getElem?_set_self h]
theorem tab_set {l0 : List Int} {a1 : Int} {l2 : List (List Int)} {k i : Nat} {ts : List Int} (h : TabOk l0 a1 l2 (k + 1) (i + 1) ts) (hk : k ≤ l2.length) (hi : i ≤ l0.length) {c x : Int} (hv : pl l0 a1 (l2.drop k) i = (c, x)) :
    TabOk l0 a1 l2 (k + 1) i ((ts.set ((k * (l0.length + 1) + i) * 2) c).set ((k * (l0.length + 1) + i) * 2 + 1) x) := by
  refine ⟨by simp [h.1], fun r i' hr hi' hc => ?_⟩
  have hlt := idx_lt (n := l0.length + 1) (K := l2.length + 1) (show i < l0.length + 1 by omega) (show k < l2.length + 1 by omega)
  have hl := h.1
  by_cases he : r = k ∧ i' = i
  · obtain ⟨rfl, rfl⟩ := he
    rw [hv]
    constructor
    · rw [rd_set_ne (by omega), rd_set_eq (by omega)]
    · have := rd_set_eq (l := ts.set ((r * (l0.length + 1) + i') * 2) c) (a := (r * (l0.length + 1) + i') * 2 + 1) (by rw [List.length_set]; omega) x
      rwa [show (((r * (l0.length + 1) + i') * 2 + 1 : Nat) : Int) = (((r * (l0.length + 1) + i') * 2 : Nat) : Int) + 1 by omega] at this
  · have hne : r * (l0.length + 1) + i' ≠ k * (l0.length + 1) + i := fun e => he (idx_inj (show i' < l0.length + 1 by omega) (show i < l0.length + 1 by omega) e)
    have h0 := h.2 r i' hr hi' (by
      rcases hc with hc | ⟨h1, h2⟩
      · exact .inl hc
      · refine .inr ⟨h1, ?_⟩
        have : i' ≠ i := fun e => he ⟨by omega, e⟩
        omega)
    obtain ⟨m, hm⟩ : ∃ m, r * (l0.length + 1) + i' = m := ⟨_, rfl⟩
    obtain ⟨m', hm'⟩ : ∃ m', k * (l0.length + 1) + i = m' := ⟨_, rfl⟩
    rw [hm, hm'] at hne
    rw [hm] at h0 ⊢
    rw [hm', rd_set_ne (by omega), rd_set_ne (by omega), show ((m * 2 : Nat) : Int) + 1 = ((m * 2 + 1 : Nat) : Int) by omega, rd_set_ne (by omega), rd_set_ne (by omega)]
    rw [show ((m * 2 : Nat) : Int) + 1 = ((m * 2 + 1 : Nat) : Int) by omega] at h0
    exact h0
theorem tab_store {W : World} {g : Nat} {ts : List Int} (h : W.heap[g]? = some (.cells (nums .i64 ts).toArray 53 (0, 0))) (q : Nat) (c : Int) : (W.setCell ⟨g, q, none⟩ (.int .i64 c)).heap[g]? = some (.cells (nums .i64 (ts.set q c)).toArray 53 (0, 0)) := by
  have := blk_set h q (.int .i64 c)
  rw [this]
  simp [nums, List.map_set]
theorem tab_cell {W : World} {g : Nat} {ts : List Int} (h : W.heap[g]? = some (.cells (nums .i64 ts).toArray 53 (0, 0))) (q : Nat) (hq : q < ts.length) : W.cell? ⟨g, q, none⟩ = some (.int .i64 (rd ts (q : Int))) := by
  rw [blk_cell h q]
  simp [nums, rd, List.getElem?_eq_getElem hq, List.getD_eq_getElem?_getD]
set_option maxRecDepth 100000 in
set_option maxHeartbeats 4000000 in
theorem place_bad (A0 : Option Addr) (c0 : Nat) (l0 : List Int) (a1 : Int) (A2 : Option Addr) (c2 : Nat) (l2 : List (List Int)) (w : World) (hr0 : Kd.C (Kd.int .i64) w A0 l0.length l0) (hc0 : l0.length ≤ c0) (hr2 : Kd.C (Kd.slice 3 (Kd.int .i64)) w A2 l2.length l2) (hc2 : l2.length ≤ c2)
    (h : ¬ checkS l0 a1 l2 = 0) :
    Calls Try.prog 15 #[.slice A0 l0.length c0, .int .i64 a1, .slice A2 l2.length c2] w fun e w' => e = .returned (.tuple #[.slice none 0 0, .int .i64 0, .bool false, .int .i64 (checkS l0 a1 l2)]) ∧ Below w.heap.size w w' := by
  obtain ⟨k0, hk0⟩ := (check_ev l0 a1 l2).rounds
  have hne : (checkS l0 a1 l2 != 0) = true := bne_iff_ne.2 h
  go_enter Try.func15, Try.ntmps15
  go_wp2_with fail
  refine (rounds_check.calls k0 A0 c0 l0 a1 A2 c2 l2 (checkS l0 a1 l2) _ hr0 hc0 hr2 hc2 hk0).mono ?_
  rintro e w1 ⟨rfl, hb1⟩
  have HE := Aside0.mk hk0
  clear hk0
  go_wp2
  exact bodyPost_ret (v := .tuple #[.slice none 0 0, .int .i64 0, .bool false, .int .i64 (checkS l0 a1 l2)]) (by simp [results, Try.results15, go_sem]) rfl ⟨rfl, hb1⟩
set_option maxRecDepth 100000 in
set_option maxHeartbeats 4000000 in
theorem place_good (A0 : Option Addr) (c0 : Nat) (l0 : List Int) (a1 : Int) (A2 : Option Addr) (c2 : Nat) (l2 : List (List Int)) (w : World) (hr0 : Kd.C (Kd.int .i64) w A0 l0.length l0) (hc0 : l0.length ≤ c0) (hr2 : Kd.C (Kd.slice 3 (Kd.int .i64)) w A2 l2.length l2) (hc2 : l2.length ≤ c2)
    (h : checkS l0 a1 l2 = 0) :
    Calls Try.prog 15 #[.slice A0 l0.length c0, .int .i64 a1, .slice A2 l2.length c2] w fun e w' => ∃ v : Value, e = .returned (.tuple #[v, .int .i64 (placeS l0 a1 l2).2.1, .bool (placeS l0 a1 l2).2.2, .int .i64 0]) ∧ Kd.R (Kd.int .i64) 3 w' w.heap.size (fun _ => True) v (placeS l0 a1 l2).1 ∧ Below w.heap.size w w' := by
  obtain ⟨k0, hk0⟩ := (check_ev l0 a1 l2).rounds
  obtain ⟨hok, hl4, hl2⟩ := okB_of h
  obtain ⟨hpos, hasc, hday, hra, hrb, hrow⟩ := okB_parts hok
  have hrW := fun W hb => Kd.C_below (w1 := W) hr0 hb
  have hrW2 := fun W hb => Kd.C_below (w1 := W) hr2 hb
  rw [h] at hk0
  clear hok
  go_enter Try.func15, Try.ntmps15
  go_wp2_with fail
  refine (rounds_check.calls k0 A0 c0 l0 a1 A2 c2 l2 0 _ hr0 hc0 hr2 hc2 hk0).mono ?_
  rintro e w1 ⟨rfl, hb1⟩
  clear hk0
  go_wp2_with fail
  refine (newTable_calls (l2.length + 1) (l0.length + 1) (Nat.le_trans (Nat.mul_le_mul (show l2.length + 1 ≤ 41 by omega) (show l0.length + 1 ≤ 401 by omega)) (by omega)) (by omega) (by omega) _).mono ?_
  rintro e w2 ⟨g, rfl, hG, hg, hb2⟩
  obtain ⟨N, hN⟩ : ∃ N, (l2.length + 1) * (l0.length + 1) = N := ⟨_, rfl⟩
  rw [hN] at hG ⊢
  go_wp2_with fail
  have bB := blk_new w2 (.cells #[.int .i64 ((l0.length : Int) + 1), .slice (some ⟨g, 0, none⟩) N N] 50)
  have bG := blk_alloc hG (.cells #[.int .i64 ((l0.length : Int) + 1), .slice (some ⟨g, 0, none⟩) N N] 50)
  have bW : Below w.heap.size w (w2.alloc (.cells #[.int .i64 ((l0.length : Int) + 1), .slice (some ⟨g, 0, none⟩) N N] 50)) := below_alloc (below_then hb1 hb1.size hb2) _
  have hgB : g < w2.heap.size := blk_lt hG
  have hBw : w.heap.size ≤ w2.heap.size := Nat.le_trans hb1.size hb2.size
  have hgw : w.heap.size ≤ g := Nat.le_trans hb1.size hg
  obtain ⟨W0, hW0⟩ : ∃ W0, (w2.alloc (.cells #[.int .i64 ((l0.length : Int) + 1), .slice (some ⟨g, 0, none⟩) N N] 50)) = W0 := ⟨_, rfl⟩
  obtain ⟨B, hB⟩ : ∃ B, w2.heap.size = B := ⟨_, rfl⟩
  rw [hW0] at bB bG bW ⊢
  rw [hB] at bB hgB hBw ⊢
  have hts := made53 N
  rw [hts] at bG
  clear hW0 hB hG hb2 hb1 hg hts
  refine wp_loop_ghost_k (fun m a W => ∃ (kk : Nat) (ts : List Int) (u : Nat → Value), kk = m ∧ kk ≤ l2.length ∧ TabOk l0 a1 l2 kk (l0.length + 1) ts ∧
    W.heap[B]? = some (.cells #[.int .i64 ((l0.length : Int) + 1), .slice (some ⟨g, 0, none⟩) N N] 50 (0, 0)) ∧ W.heap[g]? = some (.cells (nums .i64 ts).toArray 53 (0, 0)) ∧ Below w.heap.size w W ∧
    a = { tmps := List.toArray ((.slice A0 l0.length c0 : Value) :: (.int .i64 a1 : Value) :: (.slice A2 l2.length c2 : Value) :: u 3 :: u 4 :: u 5 :: (.slice none 0 0 : Value) :: (.int .i64 0 : Value) :: (.bool false : Value) :: (.int .i64 0 : Value) :: (.int .i64 (l0.length : Int) : Value) :: (.pointer (some ⟨B, 0, none⟩) : Value) :: (.int .i64 ((kk : Int) - 1) : Value) :: u 13 :: u 14 :: u 15 :: u 16 :: u 17 :: u 18 :: u 19 :: u 20 :: u 21 :: u 22 :: u 23 :: u 24 :: u 25 :: u 26 :: u 27 :: u 28 :: u 29 :: u 30 :: u 31 :: u 32 :: u 33 :: u 34 :: u 35 :: u 36 :: u 37 :: u 38 :: u 39 :: u 40 :: u 41 :: u 42 :: u 43 :: u 44 :: u 45 :: u 46 :: u 47 :: u 48 :: u 49 :: u 50 :: u 51 :: u 52 :: u 53 :: u 54 :: u 55 :: u 56 :: u 57 :: u 58 :: u 59 :: u 60 :: u 61 :: u 62 :: u 63 :: u 64 :: u 65 :: u 66 :: u 67 :: u 68 :: u 69 :: u 70 :: u 71 :: u 72 :: u 73 :: u 74 :: u 75 :: u 76 :: u 77 :: u 78 :: u 79 :: u 80 :: u 81 :: u 82 :: u 83 :: u 84 :: u 85 :: u 86 :: u 87 :: u 88 :: u 89 :: u 90 :: u 91 :: u 92 :: u 93 :: u 94 :: u 95 :: u 96 :: u 97 :: u 98 :: u 99 :: u 100 :: u 101 :: u 102 :: u 103 :: u 104 :: u 105 :: u 106 :: u 107 :: u 108 :: u 109 :: u 110 :: u 111 :: u 112 :: u 113 :: u 114 :: u 115 :: u 116 :: u 117 :: u 118 :: u 119 :: u 120 :: u 121 :: u 122 :: u 123 :: u 124 :: u 125 :: u 126 :: u 127 :: u 128 :: u 129 :: u 130 :: u 131 :: u 132 :: u 133 :: u 134 :: u 135 :: u 136 :: u 137 :: u 138 :: u 139 :: u 140 :: u 141 :: u 142 :: u 143 :: u 144 :: u 145 :: u 146 :: u 147 :: u 148 :: u 149 :: u 150 :: u 151 :: u 152 :: u 153 :: u 154 :: u 155 :: u 156 :: u 157 :: u 158 :: u 159 :: u 160 :: u 161 :: []), defers := [] }) l2.length ?start ?round
  case start =>
    have st : ∀ T : Array Value, T = List.toArray ((.slice A0 l0.length c0 : Value) :: (.int .i64 a1 : Value) :: (.slice A2 l2.length c2 : Value) :: T.getD 3 undef :: T.getD 4 undef :: T.getD 5 undef :: (.slice none 0 0 : Value) :: (.int .i64 0 : Value) :: (.bool false : Value) :: (.int .i64 0 : Value) :: (.int .i64 (l0.length : Int) : Value) :: (.pointer (some ⟨B, 0, none⟩) : Value) :: (.int .i64 ((l2.length : Int) - 1) : Value) :: T.getD 13 undef :: T.getD 14 undef :: T.getD 15 undef :: T.getD 16 undef :: T.getD 17 undef :: T.getD 18 undef :: T.getD 19 undef :: T.getD 20 undef :: T.getD 21 undef :: T.getD 22 undef :: T.getD 23 undef :: T.getD 24 undef :: T.getD 25 undef :: T.getD 26 undef :: T.getD 27 undef :: T.getD 28 undef :: T.getD 29 undef :: T.getD 30 undef :: T.getD 31 undef :: T.getD 32 undef :: T.getD 33 undef :: T.getD 34 undef :: T.getD 35 undef :: T.getD 36 undef :: T.getD 37 undef :: T.getD 38 undef :: T.getD 39 undef :: T.getD 40 undef :: T.getD 41 undef :: T.getD 42 undef :: T.getD 43 undef :: T.getD 44 undef :: T.getD 45 undef :: T.getD 46 undef :: T.getD 47 undef :: T.getD 48 undef :: T.getD 49 undef :: T.getD 50 undef :: T.getD 51 undef :: T.getD 52 undef :: T.getD 53 undef :: T.getD 54 undef :: T.getD 55 undef :: T.getD 56 undef :: T.getD 57 undef :: T.getD 58 undef :: T.getD 59 undef :: T.getD 60 undef :: T.getD 61 undef :: T.getD 62 undef :: T.getD 63 undef :: T.getD 64 undef :: T.getD 65 undef :: T.getD 66 undef :: T.getD 67 undef :: T.getD 68 undef :: T.getD 69 undef :: T.getD 70 undef :: T.getD 71 undef :: T.getD 72 undef :: T.getD 73 undef :: T.getD 74 undef :: T.getD 75 undef :: T.getD 76 undef :: T.getD 77 undef :: T.getD 78 undef :: T.getD 79 undef :: T.getD 80 undef :: T.getD 81 undef :: T.getD 82 undef :: T.getD 83 undef :: T.getD 84 undef :: T.getD 85 undef :: T.getD 86 undef :: T.getD 87 undef :: T.getD 88 undef :: T.getD 89 undef :: T.getD 90 undef :: T.getD 91 undef :: T.getD 92 undef :: T.getD 93 undef :: T.getD 94 undef :: T.getD 95 undef :: T.getD 96 undef :: T.getD 97 undef :: T.getD 98 undef :: T.getD 99 undef :: T.getD 100 undef :: T.getD 101 undef :: T.getD 102 undef :: T.getD 103 undef :: T.getD 104 undef :: T.getD 105 undef :: T.getD 106 undef :: T.getD 107 undef :: T.getD 108 undef :: T.getD 109 undef :: T.getD 110 undef :: T.getD 111 undef :: T.getD 112 undef :: T.getD 113 undef :: T.getD 114 undef :: T.getD 115 undef :: T.getD 116 undef :: T.getD 117 undef :: T.getD 118 undef :: T.getD 119 undef :: T.getD 120 undef :: T.getD 121 undef :: T.getD 122 undef :: T.getD 123 undef :: T.getD 124 undef :: T.getD 125 undef :: T.getD 126 undef :: T.getD 127 undef :: T.getD 128 undef :: T.getD 129 undef :: T.getD 130 undef :: T.getD 131 undef :: T.getD 132 undef :: T.getD 133 undef :: T.getD 134 undef :: T.getD 135 undef :: T.getD 136 undef :: T.getD 137 undef :: T.getD 138 undef :: T.getD 139 undef :: T.getD 140 undef :: T.getD 141 undef :: T.getD 142 undef :: T.getD 143 undef :: T.getD 144 undef :: T.getD 145 undef :: T.getD 146 undef :: T.getD 147 undef :: T.getD 148 undef :: T.getD 149 undef :: T.getD 150 undef :: T.getD 151 undef :: T.getD 152 undef :: T.getD 153 undef :: T.getD 154 undef :: T.getD 155 undef :: T.getD 156 undef :: T.getD 157 undef :: T.getD 158 undef :: T.getD 159 undef :: T.getD 160 undef :: T.getD 161 undef :: []) → ∃ (kk : Nat) (ts : List Int) (u : Nat → Value), kk = l2.length ∧ kk ≤ l2.length ∧ TabOk l0 a1 l2 kk (l0.length + 1) ts ∧
        W0.heap[B]? = some (.cells #[.int .i64 ((l0.length : Int) + 1), .slice (some ⟨g, 0, none⟩) N N] 50 (0, 0)) ∧ W0.heap[g]? = some (.cells (nums .i64 ts).toArray 53 (0, 0)) ∧ Below w.heap.size w W0 ∧
        (Act.mk T []) = { tmps := List.toArray ((.slice A0 l0.length c0 : Value) :: (.int .i64 a1 : Value) :: (.slice A2 l2.length c2 : Value) :: u 3 :: u 4 :: u 5 :: (.slice none 0 0 : Value) :: (.int .i64 0 : Value) :: (.bool false : Value) :: (.int .i64 0 : Value) :: (.int .i64 (l0.length : Int) : Value) :: (.pointer (some ⟨B, 0, none⟩) : Value) :: (.int .i64 ((kk : Int) - 1) : Value) :: u 13 :: u 14 :: u 15 :: u 16 :: u 17 :: u 18 :: u 19 :: u 20 :: u 21 :: u 22 :: u 23 :: u 24 :: u 25 :: u 26 :: u 27 :: u 28 :: u 29 :: u 30 :: u 31 :: u 32 :: u 33 :: u 34 :: u 35 :: u 36 :: u 37 :: u 38 :: u 39 :: u 40 :: u 41 :: u 42 :: u 43 :: u 44 :: u 45 :: u 46 :: u 47 :: u 48 :: u 49 :: u 50 :: u 51 :: u 52 :: u 53 :: u 54 :: u 55 :: u 56 :: u 57 :: u 58 :: u 59 :: u 60 :: u 61 :: u 62 :: u 63 :: u 64 :: u 65 :: u 66 :: u 67 :: u 68 :: u 69 :: u 70 :: u 71 :: u 72 :: u 73 :: u 74 :: u 75 :: u 76 :: u 77 :: u 78 :: u 79 :: u 80 :: u 81 :: u 82 :: u 83 :: u 84 :: u 85 :: u 86 :: u 87 :: u 88 :: u 89 :: u 90 :: u 91 :: u 92 :: u 93 :: u 94 :: u 95 :: u 96 :: u 97 :: u 98 :: u 99 :: u 100 :: u 101 :: u 102 :: u 103 :: u 104 :: u 105 :: u 106 :: u 107 :: u 108 :: u 109 :: u 110 :: u 111 :: u 112 :: u 113 :: u 114 :: u 115 :: u 116 :: u 117 :: u 118 :: u 119 :: u 120 :: u 121 :: u 122 :: u 123 :: u 124 :: u 125 :: u 126 :: u 127 :: u 128 :: u 129 :: u 130 :: u 131 :: u 132 :: u 133 :: u 134 :: u 135 :: u 136 :: u 137 :: u 138 :: u 139 :: u 140 :: u 141 :: u 142 :: u 143 :: u 144 :: u 145 :: u 146 :: u 147 :: u 148 :: u 149 :: u 150 :: u 151 :: u 152 :: u 153 :: u 154 :: u 155 :: u 156 :: u 157 :: u 158 :: u 159 :: u 160 :: u 161 :: []), defers := [] } := fun T hT =>
      ⟨l2.length, _, fun i => T.getD i undef, rfl, Nat.le_refl _, tab_zero l0 a1 l2 0, bB, by rw [hN]; exact bG, bW, congrArg (fun T => (Act.mk T _)) hT⟩
    exact st _ rfl
  case round =>
    rintro m a W ⟨kk, ts, u, rfl, hkk, hT, eB, eG, hBW, rfl⟩ J K hJ hK
    clear bB bG bW
    have fin : ∀ (T : Array Value) (k : Nat) (ts' : List Int) (W' : World), kk = k + 1 → T = List.toArray ((.slice A0 l0.length c0 : Value) :: (.int .i64 a1 : Value) :: (.slice A2 l2.length c2 : Value) :: T.getD 3 undef :: T.getD 4 undef :: T.getD 5 undef :: (.slice none 0 0 : Value) :: (.int .i64 0 : Value) :: (.bool false : Value) :: (.int .i64 0 : Value) :: (.int .i64 (l0.length : Int) : Value) :: (.pointer (some ⟨B, 0, none⟩) : Value) :: (.int .i64 ((k : Int) - 1) : Value) :: T.getD 13 undef :: T.getD 14 undef :: T.getD 15 undef :: T.getD 16 undef :: T.getD 17 undef :: T.getD 18 undef :: T.getD 19 undef :: T.getD 20 undef :: T.getD 21 undef :: T.getD 22 undef :: T.getD 23 undef :: T.getD 24 undef :: T.getD 25 undef :: T.getD 26 undef :: T.getD 27 undef :: T.getD 28 undef :: T.getD 29 undef :: T.getD 30 undef :: T.getD 31 undef :: T.getD 32 undef :: T.getD 33 undef :: T.getD 34 undef :: T.getD 35 undef :: T.getD 36 undef :: T.getD 37 undef :: T.getD 38 undef :: T.getD 39 undef :: T.getD 40 undef :: T.getD 41 undef :: T.getD 42 undef :: T.getD 43 undef :: T.getD 44 undef :: T.getD 45 undef :: T.getD 46 undef :: T.getD 47 undef :: T.getD 48 undef :: T.getD 49 undef :: T.getD 50 undef :: T.getD 51 undef :: T.getD 52 undef :: T.getD 53 undef :: T.getD 54 undef :: T.getD 55 undef :: T.getD 56 undef :: T.getD 57 undef :: T.getD 58 undef :: T.getD 59 undef :: T.getD 60 undef :: T.getD 61 undef :: T.getD 62 undef :: T.getD 63 undef :: T.getD 64 undef :: T.getD 65 undef :: T.getD 66 undef :: T.getD 67 undef :: T.getD 68 undef :: T.getD 69 undef :: T.getD 70 undef :: T.getD 71 undef :: T.getD 72 undef :: T.getD 73 undef :: T.getD 74 undef :: T.getD 75 undef :: T.getD 76 undef :: T.getD 77 undef :: T.getD 78 undef :: T.getD 79 undef :: T.getD 80 undef :: T.getD 81 undef :: T.getD 82 undef :: T.getD 83 undef :: T.getD 84 undef :: T.getD 85 undef :: T.getD 86 undef :: T.getD 87 undef :: T.getD 88 undef :: T.getD 89 undef :: T.getD 90 undef :: T.getD 91 undef :: T.getD 92 undef :: T.getD 93 undef :: T.getD 94 undef :: T.getD 95 undef :: T.getD 96 undef :: T.getD 97 undef :: T.getD 98 undef :: T.getD 99 undef :: T.getD 100 undef :: T.getD 101 undef :: T.getD 102 undef :: T.getD 103 undef :: T.getD 104 undef :: T.getD 105 undef :: T.getD 106 undef :: T.getD 107 undef :: T.getD 108 undef :: T.getD 109 undef :: T.getD 110 undef :: T.getD 111 undef :: T.getD 112 undef :: T.getD 113 undef :: T.getD 114 undef :: T.getD 115 undef :: T.getD 116 undef :: T.getD 117 undef :: T.getD 118 undef :: T.getD 119 undef :: T.getD 120 undef :: T.getD 121 undef :: T.getD 122 undef :: T.getD 123 undef :: T.getD 124 undef :: T.getD 125 undef :: T.getD 126 undef :: T.getD 127 undef :: T.getD 128 undef :: T.getD 129 undef :: T.getD 130 undef :: T.getD 131 undef :: T.getD 132 undef :: T.getD 133 undef :: T.getD 134 undef :: T.getD 135 undef :: T.getD 136 undef :: T.getD 137 undef :: T.getD 138 undef :: T.getD 139 undef :: T.getD 140 undef :: T.getD 141 undef :: T.getD 142 undef :: T.getD 143 undef :: T.getD 144 undef :: T.getD 145 undef :: T.getD 146 undef :: T.getD 147 undef :: T.getD 148 undef :: T.getD 149 undef :: T.getD 150 undef :: T.getD 151 undef :: T.getD 152 undef :: T.getD 153 undef :: T.getD 154 undef :: T.getD 155 undef :: T.getD 156 undef :: T.getD 157 undef :: T.getD 158 undef :: T.getD 159 undef :: T.getD 160 undef :: T.getD 161 undef :: []) → TabOk l0 a1 l2 k (l0.length + 1) ts' →
        W'.heap[B]? = some (.cells #[.int .i64 ((l0.length : Int) + 1), .slice (some ⟨g, 0, none⟩) N N] 50 (0, 0)) → W'.heap[g]? = some (.cells (nums .i64 ts').toArray 53 (0, 0)) → Below w.heap.size w W' →
        Handed J kk { tmps := T, defers := [] } W' := fun T k ts' W' e hT h1 h2 h3 h4 =>
      ⟨k, by omega, hJ _ _ _ ⟨k, ts', fun i => T.getD i undef, rfl, by omega, h1, h2, h3, h4, congrArg (fun T => (Act.mk T _)) hT⟩⟩
    by_cases h0 : kk = 0
    · subst h0
      have hN2 : N ≤ 20000 := by rw [← hN]; exact Nat.le_trans (Nat.mul_le_mul (show l2.length + 1 ≤ 41 by omega) (show l0.length + 1 ≤ 401 by omega)) (by omega)
      have htl : ts.length = N * 2 := by rw [← hN]; exact hT.1
      have hcell : ∀ r i, r ≤ l2.length → i ≤ l0.length → rd ts (((r * (l0.length + 1) + i) * 2 : Nat) : Int) = (pl l0 a1 (l2.drop r) i).1 ∧ rd ts (((r * (l0.length + 1) + i) * 2 + 1 : Nat) : Int) = (pl l0 a1 (l2.drop r) i).2 := fun r i hr hi => by
        have := hT.2 r i hr hi (.inl (Nat.zero_le _))
        rwa [show (((r * (l0.length + 1) + i) * 2 : Nat) : Int) + 1 = (((r * (l0.length + 1) + i) * 2 + 1 : Nat) : Int) by omega] at this
      clear hT
      go_wp2_with fail
      refine (first_calls g N (l0.length + 1) 0 0 B ts (by rw [← hN]; exact idx_lt (by omega) (by omega)) hN2 W eB htl eG).mono ?_
      rintro e w3 ⟨rfl, hb3⟩
      obtain ⟨⟨pc, px⟩, hp0⟩ : ∃ b, pl l0 a1 l2 0 = b := ⟨_, rfl⟩
      have hc0' := hcell 0 0 (Nat.zero_le _) (Nat.zero_le _)
      rw [List.drop_zero, hp0] at hc0'
      rw [hc0'.1, hc0'.2]
      have bB := (hb3.block B (blk_lt eB)).trans eB
      have bG := (hb3.block g (blk_lt eG)).trans eG
      have bW := below_then hBW hBW.size hb3
      have bB4 := blk_alloc bB (.cells #[.int .i64 pc, .int .i64 px] 53)
      have bG4 := blk_alloc bG (.cells #[.int .i64 pc, .int .i64 px] 53)
      have bW4 := below_alloc bW (.cells #[.int .i64 pc, .int .i64 px] 53)
      have bb4 := blk_new w3 (.cells #[.int .i64 pc, .int .i64 px] 53)
      have f1 := blk_cell bb4 0
      have f2 := blk_cell bb4 1
      simp only [List.getElem?_toArray, List.getElem?_cons_zero, List.getElem?_cons_succ] at f1 f2
      have hw3 : w.heap.size ≤ w3.heap.size ∧ g < w3.heap.size ∧ B < w3.heap.size := ⟨bW.size, blk_lt bG, blk_lt bB⟩
      obtain ⟨W4, hW4⟩ : ∃ W4, w3.alloc (.cells #[.int .i64 pc, .int .i64 px] 53) = W4 := ⟨_, rfl⟩
      have hz4 : w3.heap.size < W4.heap.size := by rw [← hW4]; simp
      rw [hW4] at bB4 bG4 bW4 bb4 f1 f2
      clear eB eG hBW hb3 bB bG bW hc0'
      by_cases hneg : px < 0
      · have hneg' : decide (px < 0) = true := decide_eq_true hneg
        have HP := Aside0.mk hp0
        have HNG := Aside0.mk hneg
        clear hneg hp0
        go_wp2_with fail
        refine bodyPost_ret (v := .tuple #[.slice none 0 0, .int .i64 0, .bool false, .int .i64 0]) (by simp [results, Try.results15, go_sem]) rfl ⟨.slice none 0 0, ?_, ?_, bW4⟩
        · simp [placeS, HP.out, HNG.out]
        · have : (placeS l0 a1 l2).1 = [] := by simp [placeS, HP.out, HNG.out]
          rw [this]
          exact Kd.R_of_own (ok := fun _ => True) (own_nil _ _ _ _) (fun _ _ => trivial)
      · have hneg' : decide (px < 0) = false := decide_eq_false hneg
        have HP := Aside0.mk hp0
        have HNG := Aside0.mk hneg
        clear hneg hp0
        go_wp2_with fail
        have HB4 := Aside0.mk bB4
        have HG4 := Aside0.mk bG4
        have HW4 := Aside0.mk bW4
        have Hb4 := Aside0.mk bb4
        clear bB4 bG4 bW4 bb4 f1 f2 hW4
        refine wp_loop_ghost_k (fun m a W => ∃ (k : Nat) (xs : List Int) (i' : Nat) (V : Value) (y : Nat → Value), m = l2.length - k ∧ k ≤ l2.length ∧ pick l0 a1 l2 px = xs ++ pick l0 a1 (l2.drop k) (pl l0 a1 (l2.drop k) i').2 ∧ xs.length = k ∧ i' ≤ l0.length ∧ 0 ≤ (pl l0 a1 (l2.drop k) i').2 ∧
          W.heap[B]? = some (.cells #[.int .i64 ((l0.length : Int) + 1), .slice (some ⟨g, 0, none⟩) N N] 50 (0, 0)) ∧ W.heap[g]? = some (.cells (nums .i64 ts).toArray 53 (0, 0)) ∧ Below w.heap.size w W ∧
          W.heap[w3.heap.size]? = some (.cells #[.int .i64 (pl l0 a1 (l2.drop k) i').1, .int .i64 (pl l0 a1 (l2.drop k) i').2] 53 (0, 0)) ∧ W.ownsRow w.heap.size 3 1 V k (nums .i64 xs) ∧
          a = { tmps := List.toArray ((.slice A0 l0.length c0 : Value) :: (.int .i64 a1 : Value) :: (.slice A2 l2.length c2 : Value) :: y 3 :: y 4 :: y 5 :: V :: (.int .i64 pc : Value) :: (.bool false : Value) :: (.int .i64 0 : Value) :: (.int .i64 (l0.length : Int) : Value) :: (.pointer (some ⟨B, 0, none⟩) : Value) :: y 12 :: y 13 :: y 14 :: y 15 :: y 16 :: y 17 :: y 18 :: (.func (.func 27) #[] #[.pointer (some ⟨B, 0, none⟩)] : Value) :: (.pointer (some ⟨w3.heap.size, 0, none⟩) : Value) :: y 21 :: y 22 :: y 23 :: y 24 :: y 25 :: y 26 :: y 27 :: y 28 :: y 29 :: y 30 :: y 31 :: y 32 :: y 33 :: y 34 :: y 35 :: y 36 :: y 37 :: y 38 :: y 39 :: y 40 :: y 41 :: y 42 :: y 43 :: y 44 :: y 45 :: y 46 :: y 47 :: y 48 :: y 49 :: y 50 :: y 51 :: y 52 :: y 53 :: y 54 :: y 55 :: y 56 :: y 57 :: y 58 :: y 59 :: y 60 :: y 61 :: y 62 :: y 63 :: y 64 :: y 65 :: y 66 :: y 67 :: y 68 :: y 69 :: y 70 :: y 71 :: y 72 :: y 73 :: y 74 :: y 75 :: y 76 :: y 77 :: y 78 :: y 79 :: y 80 :: y 81 :: y 82 :: y 83 :: y 84 :: y 85 :: y 86 :: y 87 :: y 88 :: y 89 :: y 90 :: y 91 :: y 92 :: y 93 :: y 94 :: y 95 :: y 96 :: y 97 :: y 98 :: y 99 :: y 100 :: y 101 :: y 102 :: y 103 :: y 104 :: y 105 :: y 106 :: y 107 :: y 108 :: y 109 :: y 110 :: y 111 :: y 112 :: y 113 :: y 114 :: y 115 :: y 116 :: y 117 :: y 118 :: y 119 :: y 120 :: y 121 :: y 122 :: y 123 :: y 124 :: y 125 :: y 126 :: y 127 :: y 128 :: y 129 :: y 130 :: y 131 :: y 132 :: (.int .i64 (l2.length : Int) : Value) :: (.int .i64 ((k : Int)) : Value) :: y 135 :: y 136 :: y 137 :: y 138 :: y 139 :: y 140 :: y 141 :: y 142 :: y 143 :: y 144 :: y 145 :: y 146 :: y 147 :: y 148 :: y 149 :: y 150 :: y 151 :: y 152 :: y 153 :: y 154 :: y 155 :: y 156 :: y 157 :: y 158 :: y 159 :: y 160 :: y 161 :: []), defers := [] }) l2.length ?start3 ?round3
        case start3 =>
          have st : ∀ T : Array Value, T = List.toArray ((.slice A0 l0.length c0 : Value) :: (.int .i64 a1 : Value) :: (.slice A2 l2.length c2 : Value) :: T.getD 3 undef :: T.getD 4 undef :: T.getD 5 undef :: (.slice none 0 0 : Value) :: (.int .i64 pc : Value) :: (.bool false : Value) :: (.int .i64 0 : Value) :: (.int .i64 (l0.length : Int) : Value) :: (.pointer (some ⟨B, 0, none⟩) : Value) :: T.getD 12 undef :: T.getD 13 undef :: T.getD 14 undef :: T.getD 15 undef :: T.getD 16 undef :: T.getD 17 undef :: T.getD 18 undef :: (.func (.func 27) #[] #[.pointer (some ⟨B, 0, none⟩)] : Value) :: (.pointer (some ⟨w3.heap.size, 0, none⟩) : Value) :: T.getD 21 undef :: T.getD 22 undef :: T.getD 23 undef :: T.getD 24 undef :: T.getD 25 undef :: T.getD 26 undef :: T.getD 27 undef :: T.getD 28 undef :: T.getD 29 undef :: T.getD 30 undef :: T.getD 31 undef :: T.getD 32 undef :: T.getD 33 undef :: T.getD 34 undef :: T.getD 35 undef :: T.getD 36 undef :: T.getD 37 undef :: T.getD 38 undef :: T.getD 39 undef :: T.getD 40 undef :: T.getD 41 undef :: T.getD 42 undef :: T.getD 43 undef :: T.getD 44 undef :: T.getD 45 undef :: T.getD 46 undef :: T.getD 47 undef :: T.getD 48 undef :: T.getD 49 undef :: T.getD 50 undef :: T.getD 51 undef :: T.getD 52 undef :: T.getD 53 undef :: T.getD 54 undef :: T.getD 55 undef :: T.getD 56 undef :: T.getD 57 undef :: T.getD 58 undef :: T.getD 59 undef :: T.getD 60 undef :: T.getD 61 undef :: T.getD 62 undef :: T.getD 63 undef :: T.getD 64 undef :: T.getD 65 undef :: T.getD 66 undef :: T.getD 67 undef :: T.getD 68 undef :: T.getD 69 undef :: T.getD 70 undef :: T.getD 71 undef :: T.getD 72 undef :: T.getD 73 undef :: T.getD 74 undef :: T.getD 75 undef :: T.getD 76 undef :: T.getD 77 undef :: T.getD 78 undef :: T.getD 79 undef :: T.getD 80 undef :: T.getD 81 undef :: T.getD 82 undef :: T.getD 83 undef :: T.getD 84 undef :: T.getD 85 undef :: T.getD 86 undef :: T.getD 87 undef :: T.getD 88 undef :: T.getD 89 undef :: T.getD 90 undef :: T.getD 91 undef :: T.getD 92 undef :: T.getD 93 undef :: T.getD 94 undef :: T.getD 95 undef :: T.getD 96 undef :: T.getD 97 undef :: T.getD 98 undef :: T.getD 99 undef :: T.getD 100 undef :: T.getD 101 undef :: T.getD 102 undef :: T.getD 103 undef :: T.getD 104 undef :: T.getD 105 undef :: T.getD 106 undef :: T.getD 107 undef :: T.getD 108 undef :: T.getD 109 undef :: T.getD 110 undef :: T.getD 111 undef :: T.getD 112 undef :: T.getD 113 undef :: T.getD 114 undef :: T.getD 115 undef :: T.getD 116 undef :: T.getD 117 undef :: T.getD 118 undef :: T.getD 119 undef :: T.getD 120 undef :: T.getD 121 undef :: T.getD 122 undef :: T.getD 123 undef :: T.getD 124 undef :: T.getD 125 undef :: T.getD 126 undef :: T.getD 127 undef :: T.getD 128 undef :: T.getD 129 undef :: T.getD 130 undef :: T.getD 131 undef :: T.getD 132 undef :: (.int .i64 (l2.length : Int) : Value) :: (.int .i64 ((0 : Int)) : Value) :: T.getD 135 undef :: T.getD 136 undef :: T.getD 137 undef :: T.getD 138 undef :: T.getD 139 undef :: T.getD 140 undef :: T.getD 141 undef :: T.getD 142 undef :: T.getD 143 undef :: T.getD 144 undef :: T.getD 145 undef :: T.getD 146 undef :: T.getD 147 undef :: T.getD 148 undef :: T.getD 149 undef :: T.getD 150 undef :: T.getD 151 undef :: T.getD 152 undef :: T.getD 153 undef :: T.getD 154 undef :: T.getD 155 undef :: T.getD 156 undef :: T.getD 157 undef :: T.getD 158 undef :: T.getD 159 undef :: T.getD 160 undef :: T.getD 161 undef :: []) → ∃ (k : Nat) (xs : List Int) (i' : Nat) (V : Value) (y : Nat → Value), l2.length = l2.length - k ∧ k ≤ l2.length ∧ pick l0 a1 l2 px = xs ++ pick l0 a1 (l2.drop k) (pl l0 a1 (l2.drop k) i').2 ∧ xs.length = k ∧ i' ≤ l0.length ∧ 0 ≤ (pl l0 a1 (l2.drop k) i').2 ∧
              W4.heap[B]? = some (.cells #[.int .i64 ((l0.length : Int) + 1), .slice (some ⟨g, 0, none⟩) N N] 50 (0, 0)) ∧ W4.heap[g]? = some (.cells (nums .i64 ts).toArray 53 (0, 0)) ∧ Below w.heap.size w W4 ∧
              W4.heap[w3.heap.size]? = some (.cells #[.int .i64 (pl l0 a1 (l2.drop k) i').1, .int .i64 (pl l0 a1 (l2.drop k) i').2] 53 (0, 0)) ∧ W4.ownsRow w.heap.size 3 1 V k (nums .i64 xs) ∧
              (Act.mk T []) = { tmps := List.toArray ((.slice A0 l0.length c0 : Value) :: (.int .i64 a1 : Value) :: (.slice A2 l2.length c2 : Value) :: y 3 :: y 4 :: y 5 :: V :: (.int .i64 pc : Value) :: (.bool false : Value) :: (.int .i64 0 : Value) :: (.int .i64 (l0.length : Int) : Value) :: (.pointer (some ⟨B, 0, none⟩) : Value) :: y 12 :: y 13 :: y 14 :: y 15 :: y 16 :: y 17 :: y 18 :: (.func (.func 27) #[] #[.pointer (some ⟨B, 0, none⟩)] : Value) :: (.pointer (some ⟨w3.heap.size, 0, none⟩) : Value) :: y 21 :: y 22 :: y 23 :: y 24 :: y 25 :: y 26 :: y 27 :: y 28 :: y 29 :: y 30 :: y 31 :: y 32 :: y 33 :: y 34 :: y 35 :: y 36 :: y 37 :: y 38 :: y 39 :: y 40 :: y 41 :: y 42 :: y 43 :: y 44 :: y 45 :: y 46 :: y 47 :: y 48 :: y 49 :: y 50 :: y 51 :: y 52 :: y 53 :: y 54 :: y 55 :: y 56 :: y 57 :: y 58 :: y 59 :: y 60 :: y 61 :: y 62 :: y 63 :: y 64 :: y 65 :: y 66 :: y 67 :: y 68 :: y 69 :: y 70 :: y 71 :: y 72 :: y 73 :: y 74 :: y 75 :: y 76 :: y 77 :: y 78 :: y 79 :: y 80 :: y 81 :: y 82 :: y 83 :: y 84 :: y 85 :: y 86 :: y 87 :: y 88 :: y 89 :: y 90 :: y 91 :: y 92 :: y 93 :: y 94 :: y 95 :: y 96 :: y 97 :: y 98 :: y 99 :: y 100 :: y 101 :: y 102 :: y 103 :: y 104 :: y 105 :: y 106 :: y 107 :: y 108 :: y 109 :: y 110 :: y 111 :: y 112 :: y 113 :: y 114 :: y 115 :: y 116 :: y 117 :: y 118 :: y 119 :: y 120 :: y 121 :: y 122 :: y 123 :: y 124 :: y 125 :: y 126 :: y 127 :: y 128 :: y 129 :: y 130 :: y 131 :: y 132 :: (.int .i64 (l2.length : Int) : Value) :: (.int .i64 ((k : Int)) : Value) :: y 135 :: y 136 :: y 137 :: y 138 :: y 139 :: y 140 :: y 141 :: y 142 :: y 143 :: y 144 :: y 145 :: y 146 :: y 147 :: y 148 :: y 149 :: y 150 :: y 151 :: y 152 :: y 153 :: y 154 :: y 155 :: y 156 :: y 157 :: y 158 :: y 159 :: y 160 :: y 161 :: []), defers := [] } := fun T hT =>
            ⟨0, [], 0, .slice none 0 0, fun i => T.getD i undef, rfl, Nat.zero_le _, by rw [List.drop_zero, HP.out]; rfl, rfl, Nat.zero_le _, by rw [List.drop_zero, HP.out]; have := HNG.out; show 0 ≤ px; omega, HB4.out, HG4.out, HW4.out, by rw [List.drop_zero, HP.out]; exact Hb4.out, own_nil _ _ _ _, congrArg (fun T => (Act.mk T _)) hT⟩
          exact st _ rfl
        case round3 =>
          rintro m a W5 ⟨k, xs, i', V, y, rfl, hk, hxs, hxl, hi', hge, eB, eG, eW, eb, hown, rfl⟩ J3 K3 hJ3 hK3
          clear HB4 HG4 HW4 Hb4 hJ hK fin
          obtain ⟨A6, c6, rfl⟩ := own_slice hown
          have HXS := Aside0.mk hxs
          have HXL := Aside0.mk hxl
          have HB5 := Aside0.mk eB
          have HG5 := Aside0.mk eG
          have HW5 := Aside0.mk eW
          have Hb5 := Aside0.mk eb
          have HO5 := Aside0.mk hown
          have HGE := Aside0.mk hge
          clear hxs hxl eB eG eW eb hown hge
          by_cases hlt : k < l2.length
          · have fin3 : ∀ (T : Array Value) (xs' : List Int) (j' : Nat) (V : Value) (W' : World), T = List.toArray ((.slice A0 l0.length c0 : Value) :: (.int .i64 a1 : Value) :: (.slice A2 l2.length c2 : Value) :: T.getD 3 undef :: T.getD 4 undef :: T.getD 5 undef :: V :: (.int .i64 pc : Value) :: (.bool false : Value) :: (.int .i64 0 : Value) :: (.int .i64 (l0.length : Int) : Value) :: (.pointer (some ⟨B, 0, none⟩) : Value) :: T.getD 12 undef :: T.getD 13 undef :: T.getD 14 undef :: T.getD 15 undef :: T.getD 16 undef :: T.getD 17 undef :: T.getD 18 undef :: (.func (.func 27) #[] #[.pointer (some ⟨B, 0, none⟩)] : Value) :: (.pointer (some ⟨w3.heap.size, 0, none⟩) : Value) :: T.getD 21 undef :: T.getD 22 undef :: T.getD 23 undef :: T.getD 24 undef :: T.getD 25 undef :: T.getD 26 undef :: T.getD 27 undef :: T.getD 28 undef :: T.getD 29 undef :: T.getD 30 undef :: T.getD 31 undef :: T.getD 32 undef :: T.getD 33 undef :: T.getD 34 undef :: T.getD 35 undef :: T.getD 36 undef :: T.getD 37 undef :: T.getD 38 undef :: T.getD 39 undef :: T.getD 40 undef :: T.getD 41 undef :: T.getD 42 undef :: T.getD 43 undef :: T.getD 44 undef :: T.getD 45 undef :: T.getD 46 undef :: T.getD 47 undef :: T.getD 48 undef :: T.getD 49 undef :: T.getD 50 undef :: T.getD 51 undef :: T.getD 52 undef :: T.getD 53 undef :: T.getD 54 undef :: T.getD 55 undef :: T.getD 56 undef :: T.getD 57 undef :: T.getD 58 undef :: T.getD 59 undef :: T.getD 60 undef :: T.getD 61 undef :: T.getD 62 undef :: T.getD 63 undef :: T.getD 64 undef :: T.getD 65 undef :: T.getD 66 undef :: T.getD 67 undef :: T.getD 68 undef :: T.getD 69 undef :: T.getD 70 undef :: T.getD 71 undef :: T.getD 72 undef :: T.getD 73 undef :: T.getD 74 undef :: T.getD 75 undef :: T.getD 76 undef :: T.getD 77 undef :: T.getD 78 undef :: T.getD 79 undef :: T.getD 80 undef :: T.getD 81 undef :: T.getD 82 undef :: T.getD 83 undef :: T.getD 84 undef :: T.getD 85 undef :: T.getD 86 undef :: T.getD 87 undef :: T.getD 88 undef :: T.getD 89 undef :: T.getD 90 undef :: T.getD 91 undef :: T.getD 92 undef :: T.getD 93 undef :: T.getD 94 undef :: T.getD 95 undef :: T.getD 96 undef :: T.getD 97 undef :: T.getD 98 undef :: T.getD 99 undef :: T.getD 100 undef :: T.getD 101 undef :: T.getD 102 undef :: T.getD 103 undef :: T.getD 104 undef :: T.getD 105 undef :: T.getD 106 undef :: T.getD 107 undef :: T.getD 108 undef :: T.getD 109 undef :: T.getD 110 undef :: T.getD 111 undef :: T.getD 112 undef :: T.getD 113 undef :: T.getD 114 undef :: T.getD 115 undef :: T.getD 116 undef :: T.getD 117 undef :: T.getD 118 undef :: T.getD 119 undef :: T.getD 120 undef :: T.getD 121 undef :: T.getD 122 undef :: T.getD 123 undef :: T.getD 124 undef :: T.getD 125 undef :: T.getD 126 undef :: T.getD 127 undef :: T.getD 128 undef :: T.getD 129 undef :: T.getD 130 undef :: T.getD 131 undef :: T.getD 132 undef :: (.int .i64 (l2.length : Int) : Value) :: (.int .i64 (((k + 1 : Nat) : Int)) : Value) :: T.getD 135 undef :: T.getD 136 undef :: T.getD 137 undef :: T.getD 138 undef :: T.getD 139 undef :: T.getD 140 undef :: T.getD 141 undef :: T.getD 142 undef :: T.getD 143 undef :: T.getD 144 undef :: T.getD 145 undef :: T.getD 146 undef :: T.getD 147 undef :: T.getD 148 undef :: T.getD 149 undef :: T.getD 150 undef :: T.getD 151 undef :: T.getD 152 undef :: T.getD 153 undef :: T.getD 154 undef :: T.getD 155 undef :: T.getD 156 undef :: T.getD 157 undef :: T.getD 158 undef :: T.getD 159 undef :: T.getD 160 undef :: T.getD 161 undef :: []) →
                pick l0 a1 l2 px = xs' ++ pick l0 a1 (l2.drop (k + 1)) (pl l0 a1 (l2.drop (k + 1)) j').2 → xs'.length = k + 1 → j' ≤ l0.length → 0 ≤ (pl l0 a1 (l2.drop (k + 1)) j').2 →
                W'.heap[B]? = some (.cells #[.int .i64 ((l0.length : Int) + 1), .slice (some ⟨g, 0, none⟩) N N] 50 (0, 0)) → W'.heap[g]? = some (.cells (nums .i64 ts).toArray 53 (0, 0)) → Below w.heap.size w W' →
                W'.heap[w3.heap.size]? = some (.cells #[.int .i64 (pl l0 a1 (l2.drop (k + 1)) j').1, .int .i64 (pl l0 a1 (l2.drop (k + 1)) j').2] 53 (0, 0)) → W'.ownsRow w.heap.size 3 1 V (k + 1) (nums .i64 xs') →
                Handed J3 (l2.length - k) { tmps := T, defers := [] } W' := fun T xs' j' V W' hT h1 h2 h3 h4 h5 h6 h7 h8 h9 =>
              ⟨l2.length - (k + 1), by omega, hJ3 _ _ _ ⟨k + 1, xs', j', V, fun i => T.getD i undef, rfl, by omega, h1, h2, h3, h4, h5, h6, h7, h8, h9, congrArg (fun T => (Act.mk T _)) hT⟩⟩
            obtain ⟨row, hrowE⟩ : ∃ row, l2[k] = row := ⟨_, rfl⟩
            have hdk : l2.drop k = row :: l2.drop (k + 1) := by rw [List.drop_eq_getElem_cons hlt, hrowE]
            have hge := HGE.out
            rw [hdk] at hge
            obtain ⟨x, hx1, hx2, hx3, hx4, hx5, hx6⟩ := pl_at l0 a1 row (l2.drop (k + 1)) i' hi' hge
            rw [← hdk] at hx1 hge
            obtain ⟨jj, hjj⟩ : ∃ jj, lb l0 (rd l0 (x : Int) + a1) = jj := ⟨_, rfl⟩
            have hjl : jj ≤ l0.length := by rw [← hjj]; exact lb_le _ _
            rw [hjj] at hx5
            have hxs' : pick l0 a1 l2 px = (xs ++ [(x : Int)]) ++ pick l0 a1 (l2.drop (k + 1)) (pl l0 a1 (l2.drop (k + 1)) jj).2 := by
              rw [HXS.out, hx1, hdk, pick, hjj, List.append_assoc]; rfl
            have hd0 : l0[x]? = some (rd l0 (x : Int)) := by simp [rd, List.getD_eq_getElem?_getD, List.getElem?_eq_getElem hx3]
            have hd1 := hday _ (List.mem_of_getElem? hd0)
            obtain ⟨k1, hk1⟩ := (bs_ev l0 (rd l0 (x : Int) + a1) hasc (by omega)).rounds
            rw [hjj] at hk1
            have HK1 := Aside0.mk hk1
            have HX5 := Aside0.mk hx5
            have HXS2 := Aside0.mk hxs'
            have f1 := blk_cell Hb5.out 0
            have f2 := blk_cell Hb5.out 1
            simp only [List.getElem?_toArray, List.getElem?_cons_zero, List.getElem?_cons_succ] at f1 f2
            rw [hx1] at f2
            obtain ⟨i0, hi, hz0, hz1, hz2⟩ := info_parts info3
            have hle := HW5.out.size
            clear hk1 hx5 hxs' hge hx6
            go_wp2_with (at_builtin; refine wpList_append_own_at _ rfl _ _ 22 rfl w.heap.size 3 i0 (.int .i64 0) 1 8 Try.underlying22 hi hz0 hz1 hz2 rfl (by decide) _ _ _ rfl (HO5.out.alloc _) ⟨W5.heap.size, 0, none⟩ 1 1 [.int .i64 (x : Int)] rfl rfl (cell_one_new _ _ _) (by simp [Value.oneCell']) (by simp only [maxLen]; omega) (by omega) (by simp; omega) ?_; intro v1 w6 hown6 hgrow _ hat; obtain ⟨g6, cap6, rfl⟩ := ownsRow_succ hown6; have e1 := blk_grown (blk_alloc HB5.out _) hgrow (own_ne HO5.out HB5.out (by decide)); have e2 := blk_grown (blk_alloc HG5.out _) hgrow (own_ne HO5.out HG5.out (by decide)); have e3 := blk_grown (blk_alloc Hb5.out _) hgrow (own_ne HO5.out Hb5.out (by decide)); have e4 := (below_alloc HW5.out _).grown hgrow (below_alloc HW5.out _).size (fun b hb => own_base HO5.out b hb); have E1 := Aside0.mk e1; have E2 := Aside0.mk e2; have E3 := Aside0.mk e3; have E4 := Aside0.mk e4; have E5 := Aside0.mk hown6; clear f1 f2; have f1 := blk_cell e3 0; have f2 := blk_cell e3 1; obtain ⟨ad, hA0, hxx⟩ := Kd.at_int (hrW _ e4) (x : Int) (by omega) (by omega); subst hA0; clear e1 e2 e3 e4 hown6 hgrow hat; simp only [List.getElem?_toArray, List.getElem?_cons_zero, List.getElem?_cons_succ] at f1 f2; rw [hx1] at f2; rw [Int.toNat_natCast] at hxx)
            refine (slices_BinarySearch_int_int.calls k1 (some ad) c0 l0 (rd l0 (x : Int) + a1) _ _ _ (hrW _ E4.out) hc0 HK1.out).mono ?_
            rintro e w7 ⟨rfl, ⟨nd, rfl⟩⟩
            have bB7 := blk_drewN E1.out nd
            have bG7 := blk_drewN E2.out nd
            have bb7 := blk_drewN E3.out nd
            have bW7 := pw_below_drewN E4.out nd
            have bO7 : (w6.drewN nd).ownsRow w.heap.size 3 1 (.slice (some ⟨g6, 0, none⟩) (k + 1) cap6) (k + 1) (nums .i64 xs ++ [.int .i64 (x : Int)]) := E5.out
            obtain ⟨W7, hW7⟩ : ∃ W7, w6.drewN nd = W7 := ⟨_, rfl⟩
            rw [hW7] at bB7 bG7 bb7 bW7 bO7 ⊢
            clear hxx f1 f2 hW7
            have hcj := hcell (k + 1) jj (by omega) hjl
            have HCJ := Aside0.mk hcj
            have HCC := Aside0.mk hcell
            clear hcell hcj
            go_wp2_with fail
            refine (first_calls g N (l0.length + 1) (k + 1) jj B ts (by rw [← hN]; exact idx_lt (by omega) (by omega)) hN2 W7 bB7 htl bG7).mono ?_
            rintro e w8 ⟨rfl, hb8⟩
            rw [HCJ.out.1, HCJ.out.2]
            have bB8 := (hb8.block B (blk_lt bB7)).trans bB7
            have bG8 := (hb8.block g (blk_lt bG7)).trans bG7
            have bb8 := (hb8.block _ (blk_lt bb7)).trans bb7
            have bW8 := below_then bW7 bW7.size hb8
            have bO8 := own_same2 bO7 (hb8.block g6 (own_lt bO7 g6 rfl))
            have s0 := blk_cell bb8 0
            have s1 := blk_cell bb8 1
            have s2 := blk_frozen bb8 0
            have s3 := blk_frozen bb8 1
            simp only [List.getElem?_toArray, List.getElem?_cons_zero, List.getElem?_cons_succ] at s0 s1
            have hg63 : g6 ≠ w3.heap.size := fun e => own_ne bO8 bb8 (by decide) (by rw [← e]; rfl)
            obtain ⟨⟨tc, tx⟩, hbt⟩ : ∃ b, pl l0 a1 (l2.drop (k + 1)) jj = b := ⟨_, rfl⟩
            rw [hbt]
            have bB9 := blk_far (p := ⟨w3.heap.size, 1, none⟩) (blk_far (p := ⟨w3.heap.size, 0, none⟩) bB8 (by simp; omega) (.int .i64 tc)) (by simp; omega) (.int .i64 tx)
            have bG9 := blk_far (p := ⟨w3.heap.size, 1, none⟩) (blk_far (p := ⟨w3.heap.size, 0, none⟩) bG8 (by simp; omega) (.int .i64 tc)) (by simp; omega) (.int .i64 tx)
            have bb9 := blk_set (blk_set bb8 0 (.int .i64 tc)) 1 (.int .i64 tx)
            have bW9 := below_set (j := 1) (g := w3.heap.size) (v := .int .i64 tx) (below_set (j := 0) (g := w3.heap.size) (v := .int .i64 tc) bW8 (by omega)) (by omega)
            have bO9 := own_setCell (p := ⟨w3.heap.size, 1, none⟩) (own_setCell (p := ⟨w3.heap.size, 0, none⟩) bO8 (fun e => hg63 (by simpa [Value.ownBlock] using e.symm)) (.int .i64 tc)) (fun e => hg63 (by simpa [Value.ownBlock] using e.symm)) (.int .i64 tx)
            have X1 := Aside0.mk bB9
            have X2 := Aside0.mk bG9
            have X3 := Aside0.mk bb9
            have X4 := Aside0.mk bW9
            have X5 := Aside0.mk bO9
            clear bB7 bG7 bb7 bW7 bO7 bB8 bG8 bb8 bW8 bO8 bB9 bG9 bb9 bW9 bO9 hb8
            have HBT := Aside0.mk hbt
            clear hbt
            go_wp2_with fail
            refine fin3 _ (xs ++ [(x : Int)]) jj _ _ rfl HXS2.out (by rw [List.length_append, HXL.out]; rfl) hjl HX5.out X1.out X2.out X4.out ?_ ?_
            · rw [HBT.out]; exact X3.out
            · rw [nums_append]; exact X5.out
          · obtain rfl : k = l2.length := by omega
            go_wp2_with fail
            have hps : placeS l0 a1 l2 = (xs, pc, true) := by
              unfold placeS
              rw [HP.out]
              refine (if_neg (by have := HNG.out; show ¬ px < 0; omega)).trans ?_
              show (pick l0 a1 l2 px, pc, true) = _
              rw [HXS.out, List.drop_length, pick, List.append_nil]
            refine bodyPost_ret (v := .tuple #[.slice A6 l2.length c6, .int .i64 pc, .bool true, .int .i64 0]) (by simp [results, Try.results15, go_sem]) rfl ⟨.slice A6 l2.length c6, ?_, ?_, HW5.out⟩
            · rw [hps]
            · rw [hps]
              exact Kd.R_of_own (ok := fun _ => True) (by rw [HXL.out]; exact HO5.out) (fun _ _ => trivial)
    · obtain ⟨k, rfl⟩ : ∃ k, kk = k + 1 := ⟨kk - 1, by omega⟩
      rw [show ((k + 1 : Nat) : Int) - 1 = (k : Int) by omega]
      have f1 := blk_cell eB 0
      have f2 := blk_cell eB 1
      simp only [List.getElem?_toArray, List.getElem?_cons_zero, List.getElem?_cons_succ] at f1 f2
      have EB := Aside0.mk eB
      have EG := Aside0.mk eG
      have HBW := Aside0.mk hBW
      have HT := Aside0.mk hT
      clear eB eG hBW hT
      have hkl : k < l2.length := by omega
      have hix : k * (l0.length + 1) + l0.length < N := by rw [← hN]; exact idx_lt (by omega) (by omega)
      have hN2 : N ≤ 20000 := by rw [← hN]; exact Nat.le_trans (Nat.mul_le_mul (show l2.length + 1 ≤ 41 by omega) (show l0.length + 1 ≤ 401 by omega)) (by omega)
      have htl : ts.length = N * 2 := by rw [← hN]; exact HT.out.1
      go_wp2_with fail
      refine (at_calls g N (l0.length + 1) k l0.length hix hN2 _).mono ?_
      rintro e w3 ⟨rfl, hb3⟩
      have bB := (hb3.block B (blk_lt EB.out)).trans EB.out
      have bG := (hb3.block g (blk_lt EG.out)).trans EG.out
      have bW := below_then HBW.out HBW.out.size hb3
      obtain ⟨q, hq⟩ : ∃ q, (k * (l0.length + 1) + l0.length) * 2 = q := ⟨_, rfl⟩
      have c1 := tab_cell bG q (by omega)
      have c2' := tab_cell bG (q + 1) (by omega)
      have z1 := blk_frozen bG q
      have z2 := blk_frozen bG (q + 1)
      have bG2 := tab_store (tab_store bG q 0) (q + 1) (-1)
      have bB2 := blk_far (p := ⟨g, q + 1, none⟩) (blk_far (p := ⟨g, q, none⟩) bB (by simp; omega) (.int .i64 0)) (by simp; omega) (.int .i64 (-1))
      have bW2 := below_set (j := q + 1) (g := g) (v := .int .i64 (-1)) (below_set (j := q) (g := g) (v := .int .i64 0) bW (by omega)) (by omega)
      have hT2 : TabOk l0 a1 l2 (k + 1) l0.length ((ts.set q 0).set (q + 1) (-1)) := by
        rw [← hq]
        refine tab_set HT.out (by omega) (Nat.le_refl _) ?_
        rw [List.drop_eq_getElem_cons hkl]
        exact pl_end l0 a1 _ _
      clear hb3 bB bG bW f1 f2
      rw [hq]
      go_wp2_with fail
      obtain ⟨W1, hW1⟩ : ∃ W1, ((w3.setCell ⟨g, q, none⟩ (.int .i64 0)).setCell ⟨g, q + 1, none⟩ (.int .i64 (-1))) = W1 := ⟨_, rfl⟩
      rw [hW1] at bG2 bB2 bW2 ⊢
      have BB2 := Aside0.mk bB2
      have BG2 := Aside0.mk bG2
      have BW2 := Aside0.mk bW2
      have HT2 := Aside0.mk hT2
      clear bB2 bG2 bW2 hT2 c1 c2' z1 z2 hW1 EB EG HBW HT htl
      refine wp_loop_ghost_k (fun m a W => ∃ (ii : Nat) (ts : List Int) (v : Nat → Value), ii = m ∧ ii ≤ l0.length ∧ TabOk l0 a1 l2 (k + 1) ii ts ∧
        W.heap[B]? = some (.cells #[.int .i64 ((l0.length : Int) + 1), .slice (some ⟨g, 0, none⟩) N N] 50 (0, 0)) ∧ W.heap[g]? = some (.cells (nums .i64 ts).toArray 53 (0, 0)) ∧ Below w.heap.size w W ∧
        a = { tmps := List.toArray ((.slice A0 l0.length c0 : Value) :: (.int .i64 a1 : Value) :: (.slice A2 l2.length c2 : Value) :: v 3 :: v 4 :: v 5 :: (.slice none 0 0 : Value) :: (.int .i64 0 : Value) :: (.bool false : Value) :: (.int .i64 0 : Value) :: (.int .i64 (l0.length : Int) : Value) :: (.pointer (some ⟨B, 0, none⟩) : Value) :: (.int .i64 ((k : Int)) : Value) :: (.int .i64 ((ii : Int) - 1) : Value) :: v 14 :: v 15 :: v 16 :: v 17 :: v 18 :: v 19 :: v 20 :: v 21 :: v 22 :: v 23 :: v 24 :: v 25 :: v 26 :: v 27 :: v 28 :: v 29 :: v 30 :: v 31 :: v 32 :: v 33 :: v 34 :: v 35 :: v 36 :: v 37 :: v 38 :: v 39 :: v 40 :: v 41 :: v 42 :: v 43 :: v 44 :: v 45 :: v 46 :: v 47 :: v 48 :: v 49 :: v 50 :: v 51 :: v 52 :: v 53 :: v 54 :: v 55 :: v 56 :: v 57 :: v 58 :: v 59 :: v 60 :: v 61 :: v 62 :: v 63 :: v 64 :: v 65 :: v 66 :: v 67 :: v 68 :: v 69 :: v 70 :: v 71 :: v 72 :: v 73 :: v 74 :: v 75 :: v 76 :: v 77 :: v 78 :: v 79 :: v 80 :: v 81 :: v 82 :: v 83 :: v 84 :: v 85 :: v 86 :: v 87 :: v 88 :: v 89 :: v 90 :: v 91 :: v 92 :: v 93 :: v 94 :: v 95 :: v 96 :: v 97 :: v 98 :: v 99 :: v 100 :: v 101 :: v 102 :: v 103 :: v 104 :: v 105 :: v 106 :: v 107 :: v 108 :: v 109 :: v 110 :: v 111 :: v 112 :: v 113 :: v 114 :: v 115 :: v 116 :: v 117 :: v 118 :: v 119 :: v 120 :: v 121 :: v 122 :: v 123 :: v 124 :: v 125 :: v 126 :: v 127 :: v 128 :: v 129 :: v 130 :: v 131 :: v 132 :: v 133 :: v 134 :: v 135 :: v 136 :: v 137 :: v 138 :: v 139 :: v 140 :: v 141 :: v 142 :: v 143 :: v 144 :: v 145 :: v 146 :: v 147 :: v 148 :: v 149 :: v 150 :: v 151 :: v 152 :: v 153 :: v 154 :: v 155 :: v 156 :: v 157 :: v 158 :: v 159 :: v 160 :: v 161 :: []), defers := [] }) l0.length ?start2 ?round2
      case start2 =>
        have st : ∀ T : Array Value, T = List.toArray ((.slice A0 l0.length c0 : Value) :: (.int .i64 a1 : Value) :: (.slice A2 l2.length c2 : Value) :: T.getD 3 undef :: T.getD 4 undef :: T.getD 5 undef :: (.slice none 0 0 : Value) :: (.int .i64 0 : Value) :: (.bool false : Value) :: (.int .i64 0 : Value) :: (.int .i64 (l0.length : Int) : Value) :: (.pointer (some ⟨B, 0, none⟩) : Value) :: (.int .i64 ((k : Int)) : Value) :: (.int .i64 ((l0.length : Int) - 1) : Value) :: T.getD 14 undef :: T.getD 15 undef :: T.getD 16 undef :: T.getD 17 undef :: T.getD 18 undef :: T.getD 19 undef :: T.getD 20 undef :: T.getD 21 undef :: T.getD 22 undef :: T.getD 23 undef :: T.getD 24 undef :: T.getD 25 undef :: T.getD 26 undef :: T.getD 27 undef :: T.getD 28 undef :: T.getD 29 undef :: T.getD 30 undef :: T.getD 31 undef :: T.getD 32 undef :: T.getD 33 undef :: T.getD 34 undef :: T.getD 35 undef :: T.getD 36 undef :: T.getD 37 undef :: T.getD 38 undef :: T.getD 39 undef :: T.getD 40 undef :: T.getD 41 undef :: T.getD 42 undef :: T.getD 43 undef :: T.getD 44 undef :: T.getD 45 undef :: T.getD 46 undef :: T.getD 47 undef :: T.getD 48 undef :: T.getD 49 undef :: T.getD 50 undef :: T.getD 51 undef :: T.getD 52 undef :: T.getD 53 undef :: T.getD 54 undef :: T.getD 55 undef :: T.getD 56 undef :: T.getD 57 undef :: T.getD 58 undef :: T.getD 59 undef :: T.getD 60 undef :: T.getD 61 undef :: T.getD 62 undef :: T.getD 63 undef :: T.getD 64 undef :: T.getD 65 undef :: T.getD 66 undef :: T.getD 67 undef :: T.getD 68 undef :: T.getD 69 undef :: T.getD 70 undef :: T.getD 71 undef :: T.getD 72 undef :: T.getD 73 undef :: T.getD 74 undef :: T.getD 75 undef :: T.getD 76 undef :: T.getD 77 undef :: T.getD 78 undef :: T.getD 79 undef :: T.getD 80 undef :: T.getD 81 undef :: T.getD 82 undef :: T.getD 83 undef :: T.getD 84 undef :: T.getD 85 undef :: T.getD 86 undef :: T.getD 87 undef :: T.getD 88 undef :: T.getD 89 undef :: T.getD 90 undef :: T.getD 91 undef :: T.getD 92 undef :: T.getD 93 undef :: T.getD 94 undef :: T.getD 95 undef :: T.getD 96 undef :: T.getD 97 undef :: T.getD 98 undef :: T.getD 99 undef :: T.getD 100 undef :: T.getD 101 undef :: T.getD 102 undef :: T.getD 103 undef :: T.getD 104 undef :: T.getD 105 undef :: T.getD 106 undef :: T.getD 107 undef :: T.getD 108 undef :: T.getD 109 undef :: T.getD 110 undef :: T.getD 111 undef :: T.getD 112 undef :: T.getD 113 undef :: T.getD 114 undef :: T.getD 115 undef :: T.getD 116 undef :: T.getD 117 undef :: T.getD 118 undef :: T.getD 119 undef :: T.getD 120 undef :: T.getD 121 undef :: T.getD 122 undef :: T.getD 123 undef :: T.getD 124 undef :: T.getD 125 undef :: T.getD 126 undef :: T.getD 127 undef :: T.getD 128 undef :: T.getD 129 undef :: T.getD 130 undef :: T.getD 131 undef :: T.getD 132 undef :: T.getD 133 undef :: T.getD 134 undef :: T.getD 135 undef :: T.getD 136 undef :: T.getD 137 undef :: T.getD 138 undef :: T.getD 139 undef :: T.getD 140 undef :: T.getD 141 undef :: T.getD 142 undef :: T.getD 143 undef :: T.getD 144 undef :: T.getD 145 undef :: T.getD 146 undef :: T.getD 147 undef :: T.getD 148 undef :: T.getD 149 undef :: T.getD 150 undef :: T.getD 151 undef :: T.getD 152 undef :: T.getD 153 undef :: T.getD 154 undef :: T.getD 155 undef :: T.getD 156 undef :: T.getD 157 undef :: T.getD 158 undef :: T.getD 159 undef :: T.getD 160 undef :: T.getD 161 undef :: []) → ∃ (ii : Nat) (ts : List Int) (v : Nat → Value), ii = l0.length ∧ ii ≤ l0.length ∧ TabOk l0 a1 l2 (k + 1) ii ts ∧
            W1.heap[B]? = some (.cells #[.int .i64 ((l0.length : Int) + 1), .slice (some ⟨g, 0, none⟩) N N] 50 (0, 0)) ∧ W1.heap[g]? = some (.cells (nums .i64 ts).toArray 53 (0, 0)) ∧ Below w.heap.size w W1 ∧
            (Act.mk T []) = { tmps := List.toArray ((.slice A0 l0.length c0 : Value) :: (.int .i64 a1 : Value) :: (.slice A2 l2.length c2 : Value) :: v 3 :: v 4 :: v 5 :: (.slice none 0 0 : Value) :: (.int .i64 0 : Value) :: (.bool false : Value) :: (.int .i64 0 : Value) :: (.int .i64 (l0.length : Int) : Value) :: (.pointer (some ⟨B, 0, none⟩) : Value) :: (.int .i64 ((k : Int)) : Value) :: (.int .i64 ((ii : Int) - 1) : Value) :: v 14 :: v 15 :: v 16 :: v 17 :: v 18 :: v 19 :: v 20 :: v 21 :: v 22 :: v 23 :: v 24 :: v 25 :: v 26 :: v 27 :: v 28 :: v 29 :: v 30 :: v 31 :: v 32 :: v 33 :: v 34 :: v 35 :: v 36 :: v 37 :: v 38 :: v 39 :: v 40 :: v 41 :: v 42 :: v 43 :: v 44 :: v 45 :: v 46 :: v 47 :: v 48 :: v 49 :: v 50 :: v 51 :: v 52 :: v 53 :: v 54 :: v 55 :: v 56 :: v 57 :: v 58 :: v 59 :: v 60 :: v 61 :: v 62 :: v 63 :: v 64 :: v 65 :: v 66 :: v 67 :: v 68 :: v 69 :: v 70 :: v 71 :: v 72 :: v 73 :: v 74 :: v 75 :: v 76 :: v 77 :: v 78 :: v 79 :: v 80 :: v 81 :: v 82 :: v 83 :: v 84 :: v 85 :: v 86 :: v 87 :: v 88 :: v 89 :: v 90 :: v 91 :: v 92 :: v 93 :: v 94 :: v 95 :: v 96 :: v 97 :: v 98 :: v 99 :: v 100 :: v 101 :: v 102 :: v 103 :: v 104 :: v 105 :: v 106 :: v 107 :: v 108 :: v 109 :: v 110 :: v 111 :: v 112 :: v 113 :: v 114 :: v 115 :: v 116 :: v 117 :: v 118 :: v 119 :: v 120 :: v 121 :: v 122 :: v 123 :: v 124 :: v 125 :: v 126 :: v 127 :: v 128 :: v 129 :: v 130 :: v 131 :: v 132 :: v 133 :: v 134 :: v 135 :: v 136 :: v 137 :: v 138 :: v 139 :: v 140 :: v 141 :: v 142 :: v 143 :: v 144 :: v 145 :: v 146 :: v 147 :: v 148 :: v 149 :: v 150 :: v 151 :: v 152 :: v 153 :: v 154 :: v 155 :: v 156 :: v 157 :: v 158 :: v 159 :: v 160 :: v 161 :: []), defers := [] } := fun T hT =>
          ⟨l0.length, _, fun i => T.getD i undef, rfl, Nat.le_refl _, HT2.out, BB2.out, BG2.out, BW2.out, congrArg (fun T => (Act.mk T _)) hT⟩
        exact st _ rfl
      case round2 =>
        rintro m a W ⟨ii, ts, v, rfl, hii, hT, eB, eG, hBW, rfl⟩ J2 K2 hJ2 hK2
        clear BB2 BG2 BW2 HT2
        have htl : ts.length = N * 2 := by rw [← hN]; exact hT.1
        have EB := Aside0.mk eB
        have EG := Aside0.mk eG
        have HBW := Aside0.mk hBW
        have HT := Aside0.mk hT
        have f1 := blk_cell eB 0
        have f2 := blk_cell eB 1
        simp only [List.getElem?_toArray, List.getElem?_cons_zero, List.getElem?_cons_succ] at f1 f2
        clear eB eG hBW hT
        by_cases h00 : ii = 0
        · subst h00
          go_wp2_with fail
          exact fin _ k ts _ rfl rfl (tab_next HT.out) EB.out EG.out HBW.out
        · obtain ⟨i, rfl⟩ : ∃ i, ii = i + 1 := ⟨ii - 1, by omega⟩
          rw [show ((i + 1 : Nat) : Int) - 1 = (i : Int) by omega]
          have fin2 : ∀ (T : Array Value) (ts' : List Int) (W' : World), T = List.toArray ((.slice A0 l0.length c0 : Value) :: (.int .i64 a1 : Value) :: (.slice A2 l2.length c2 : Value) :: T.getD 3 undef :: T.getD 4 undef :: T.getD 5 undef :: (.slice none 0 0 : Value) :: (.int .i64 0 : Value) :: (.bool false : Value) :: (.int .i64 0 : Value) :: (.int .i64 (l0.length : Int) : Value) :: (.pointer (some ⟨B, 0, none⟩) : Value) :: (.int .i64 ((k : Int)) : Value) :: (.int .i64 ((i : Int) - 1) : Value) :: T.getD 14 undef :: T.getD 15 undef :: T.getD 16 undef :: T.getD 17 undef :: T.getD 18 undef :: T.getD 19 undef :: T.getD 20 undef :: T.getD 21 undef :: T.getD 22 undef :: T.getD 23 undef :: T.getD 24 undef :: T.getD 25 undef :: T.getD 26 undef :: T.getD 27 undef :: T.getD 28 undef :: T.getD 29 undef :: T.getD 30 undef :: T.getD 31 undef :: T.getD 32 undef :: T.getD 33 undef :: T.getD 34 undef :: T.getD 35 undef :: T.getD 36 undef :: T.getD 37 undef :: T.getD 38 undef :: T.getD 39 undef :: T.getD 40 undef :: T.getD 41 undef :: T.getD 42 undef :: T.getD 43 undef :: T.getD 44 undef :: T.getD 45 undef :: T.getD 46 undef :: T.getD 47 undef :: T.getD 48 undef :: T.getD 49 undef :: T.getD 50 undef :: T.getD 51 undef :: T.getD 52 undef :: T.getD 53 undef :: T.getD 54 undef :: T.getD 55 undef :: T.getD 56 undef :: T.getD 57 undef :: T.getD 58 undef :: T.getD 59 undef :: T.getD 60 undef :: T.getD 61 undef :: T.getD 62 undef :: T.getD 63 undef :: T.getD 64 undef :: T.getD 65 undef :: T.getD 66 undef :: T.getD 67 undef :: T.getD 68 undef :: T.getD 69 undef :: T.getD 70 undef :: T.getD 71 undef :: T.getD 72 undef :: T.getD 73 undef :: T.getD 74 undef :: T.getD 75 undef :: T.getD 76 undef :: T.getD 77 undef :: T.getD 78 undef :: T.getD 79 undef :: T.getD 80 undef :: T.getD 81 undef :: T.getD 82 undef :: T.getD 83 undef :: T.getD 84 undef :: T.getD 85 undef :: T.getD 86 undef :: T.getD 87 undef :: T.getD 88 undef :: T.getD 89 undef :: T.getD 90 undef :: T.getD 91 undef :: T.getD 92 undef :: T.getD 93 undef :: T.getD 94 undef :: T.getD 95 undef :: T.getD 96 undef :: T.getD 97 undef :: T.getD 98 undef :: T.getD 99 undef :: T.getD 100 undef :: T.getD 101 undef :: T.getD 102 undef :: T.getD 103 undef :: T.getD 104 undef :: T.getD 105 undef :: T.getD 106 undef :: T.getD 107 undef :: T.getD 108 undef :: T.getD 109 undef :: T.getD 110 undef :: T.getD 111 undef :: T.getD 112 undef :: T.getD 113 undef :: T.getD 114 undef :: T.getD 115 undef :: T.getD 116 undef :: T.getD 117 undef :: T.getD 118 undef :: T.getD 119 undef :: T.getD 120 undef :: T.getD 121 undef :: T.getD 122 undef :: T.getD 123 undef :: T.getD 124 undef :: T.getD 125 undef :: T.getD 126 undef :: T.getD 127 undef :: T.getD 128 undef :: T.getD 129 undef :: T.getD 130 undef :: T.getD 131 undef :: T.getD 132 undef :: T.getD 133 undef :: T.getD 134 undef :: T.getD 135 undef :: T.getD 136 undef :: T.getD 137 undef :: T.getD 138 undef :: T.getD 139 undef :: T.getD 140 undef :: T.getD 141 undef :: T.getD 142 undef :: T.getD 143 undef :: T.getD 144 undef :: T.getD 145 undef :: T.getD 146 undef :: T.getD 147 undef :: T.getD 148 undef :: T.getD 149 undef :: T.getD 150 undef :: T.getD 151 undef :: T.getD 152 undef :: T.getD 153 undef :: T.getD 154 undef :: T.getD 155 undef :: T.getD 156 undef :: T.getD 157 undef :: T.getD 158 undef :: T.getD 159 undef :: T.getD 160 undef :: T.getD 161 undef :: []) → TabOk l0 a1 l2 (k + 1) i ts' →
              W'.heap[B]? = some (.cells #[.int .i64 ((l0.length : Int) + 1), .slice (some ⟨g, 0, none⟩) N N] 50 (0, 0)) → W'.heap[g]? = some (.cells (nums .i64 ts').toArray 53 (0, 0)) → Below w.heap.size w W' →
              Handed J2 (i + 1) { tmps := T, defers := [] } W' := fun T ts' W' hT h1 h2 h3 h4 =>
            ⟨i, by omega, hJ2 _ _ _ ⟨i, ts', fun i => T.getD i undef, rfl, by omega, h1, h2, h3, h4, congrArg (fun T => (Act.mk T _)) hT⟩⟩
          have hi : i < l0.length := by omega
          obtain ⟨row, hrowE⟩ : ∃ row, l2[k] = row := ⟨_, rfl⟩
          have hrl := hrow row (by rw [← hrowE]; exact List.getElem_mem _)
          have hd0 : l0[i]? = some (rd l0 (i : Int)) := by simp [rd, List.getD_eq_getElem?_getD, List.getElem?_eq_getElem hi]
          have hd1 := hday _ (List.mem_of_getElem? hd0)
          obtain ⟨jj, hjj⟩ : ∃ jj, lb l0 (rd l0 (i : Int) + a1) = jj := ⟨_, rfl⟩
          have hjl : jj ≤ l0.length := by rw [← hjj]; exact lb_le _ _
          have hix1 : k * (l0.length + 1) + (i + 1) < N := by rw [← hN]; exact idx_lt (by omega) (by omega)
          have hix2 : (k + 1) * (l0.length + 1) + jj < N := by rw [← hN]; exact idx_lt (by omega) (by omega)
          have hix3 : k * (l0.length + 1) + i < N := by rw [← hN]; exact idx_lt (by omega) (by omega)
          have hb0 := HT.out.2 k (i + 1) (by omega) (by omega) (.inr ⟨rfl, Nat.le_refl _⟩)
          have ht0 := HT.out.2 (k + 1) jj (by omega) hjl (.inl (Nat.le_refl _))
          have hstep := pl_step l0 a1 row (l2.drop (k + 1)) hi
          rw [hjj, show row :: l2.drop (k + 1) = l2.drop k by rw [List.drop_eq_getElem_cons hkl, hrowE]] at hstep
          have htb := pl_bound l0 a1 (l2.drop (k + 1)) (fun r hr p hp => (hrow r (List.mem_of_mem_drop hr)).2 p hp |>.2) jj
          rw [List.length_drop] at htb
          obtain ⟨q1, hq1⟩ : ∃ q1, (k * (l0.length + 1) + (i + 1)) * 2 = q1 := ⟨_, rfl⟩
          obtain ⟨q2, hq2⟩ : ∃ q2, ((k + 1) * (l0.length + 1) + jj) * 2 = q2 := ⟨_, rfl⟩
          obtain ⟨q3, hq3⟩ : ∃ q3, (k * (l0.length + 1) + i) * 2 = q3 := ⟨_, rfl⟩
          obtain ⟨⟨bc, bx⟩, hbv⟩ : ∃ b, pl l0 a1 (l2.drop k) (i + 1) = b := ⟨_, rfl⟩
          obtain ⟨⟨tc, tx⟩, htv⟩ : ∃ t, pl l0 a1 (l2.drop (k + 1)) jj = t := ⟨_, rfl⟩
          rw [hbv] at hb0 hstep
          rw [htv] at ht0 hstep htb
          rw [hq1] at hb0
          rw [hq2] at ht0
          have HB0 := Aside0.mk hb0
          have HT0 := Aside0.mk ht0
          have HST := Aside0.mk hstep
          clear hb0 ht0 hstep hbv htv
          obtain ⟨k1, hk1⟩ := (bs_ev l0 (rd l0 (i : Int) + a1) hasc (by omega)).rounds
          rw [hjj] at hk1
          have HK1 := Aside0.mk hk1
          clear hk1
          go_wp2_with fail
          refine (at_calls g N (l0.length + 1) k (i + 1) hix1 hN2 _).mono ?_
          rintro e w4 ⟨rfl, hb4⟩
          have bB := (hb4.block B (blk_lt EB.out)).trans EB.out
          have bG := (hb4.block g (blk_lt EG.out)).trans EG.out
          have bW := below_then HBW.out HBW.out.size hb4
          have c1 := tab_cell bG q1 (by omega)
          have c2' := tab_cell bG (q1 + 1) (by omega)
          rw [HB0.out.1] at c1
          rw [show ((q1 + 1 : Nat) : Int) = (q1 : Int) + 1 by omega, HB0.out.2] at c2'
          rw [hq1]
          have bB4 := blk_alloc bB (.cells #[.int .i64 bc, .int .i64 bx] 53)
          have bG4 := blk_alloc bG (.cells #[.int .i64 bc, .int .i64 bx] 53)
          have bW4 := below_alloc bW (.cells #[.int .i64 bc, .int .i64 bx] 53)
          have bb4 := blk_new w4 (.cells #[.int .i64 bc, .int .i64 bx] 53)
          obtain ⟨ad, hA0, hx⟩ := Kd.at_int (hrW _ bW4) (i : Int) (by omega) (by omega)
          rw [Int.toNat_natCast] at hx
          obtain ⟨W4, hW4⟩ : ∃ W4, w4.alloc (.cells #[.int .i64 bc, .int .i64 bx] 53) = W4 := ⟨_, rfl⟩
          have hz4 : w4.heap.size < W4.heap.size := by rw [← hW4]; simp
          have hz5 : B < w4.heap.size ∧ g < w4.heap.size ∧ w.heap.size ≤ w4.heap.size := ⟨blk_lt bB, blk_lt bG, by have := bW.size; omega⟩
          rw [hW4] at bB4 bG4 bW4 bb4 hx
          have HW4 := Aside0.mk hW4
          subst hA0
          clear hb4 bB bG bW f1 f2
          go_wp2_with fail
          refine (slices_BinarySearch_int_int.calls k1 (some ad) c0 l0 (rd l0 (i : Int) + a1) _ _ _ (hrW _ bW4) hc0 HK1.out).mono ?_
          rintro e w5 ⟨rfl, ⟨nd, rfl⟩⟩
          clear hx
          have bB5 := blk_drewN bB4 nd
          have bG5 := blk_drewN bG4 nd
          have bb5 := blk_drewN bb4 nd
          have bW5 := pw_below_drewN bW4 nd
          have hz6 : (W4.drewN nd).heap.size = W4.heap.size := rfl
          obtain ⟨W5, hW5⟩ : ∃ W5, W4.drewN nd = W5 := ⟨_, rfl⟩
          rw [hW5] at bB5 bG5 bb5 bW5 hz6 ⊢
          clear bB4 bG4 bb4 bW4 hW5 hW4
          have f1 := blk_cell bB5 0
          have f2 := blk_cell bB5 1
          simp only [List.getElem?_toArray, List.getElem?_cons_zero, List.getElem?_cons_succ] at f1 f2
          go_wp2_with fail
          refine (at_calls g N (l0.length + 1) (k + 1) jj hix2 hN2 _).mono ?_
          rintro e w6 ⟨rfl, hb6⟩
          have bB6 := (hb6.block B (blk_lt bB5)).trans bB5
          have bG6 := (hb6.block g (blk_lt bG5)).trans bG5
          have bb6 := (hb6.block _ (blk_lt bb5)).trans bb5
          have bW6 := below_then bW5 bW5.size hb6
          have c1 := tab_cell bG6 q2 (by omega)
          have c2' := tab_cell bG6 (q2 + 1) (by omega)
          rw [HT0.out.1] at c1
          rw [show ((q2 + 1 : Nat) : Int) = (q2 : Int) + 1 by omega, HT0.out.2] at c2'
          rw [hq2]
          have hs6 := hb6.size
          clear hb6 f1 f2 bB5 bG5 bb5 bW5
          have bB7 := blk_alloc bB6 (.cells #[.int .i64 tc, .int .i64 tx] 53)
          have bG7 := blk_alloc bG6 (.cells #[.int .i64 tc, .int .i64 tx] 53)
          have bb7 := blk_alloc bb6 (.cells #[.int .i64 tc, .int .i64 tx] 53)
          have bt7 := blk_new w6 (.cells #[.int .i64 tc, .int .i64 tx] 53)
          have bW7 := below_alloc bW6 (.cells #[.int .i64 tc, .int .i64 tx] 53)
          obtain ⟨ad2, A', c', hA2, hx2, hcw, hrw⟩ := at_L1 (hrW2 _ bW7) (k : Int) (by omega) (by omega)
          have hr1 : rd_L1 l2 (k : Int) = row := by rw [← hrowE]; simp [rd_L1, List.getElem?_eq_getElem hkl]
          rw [hr1] at hx2 hcw hrw
          obtain ⟨ad3, hA', hx3⟩ := Kd.at_int hrw (i : Int) (by omega) (by omega)
          subst hA2 hA'
          rw [Int.toNat_natCast] at hx2 hx3
          have hpb : rd row (i : Int) ≤ 1048576 ∧ -1 ≤ rd row (i : Int) := by
            have h1 : row[i]? = some (rd row (i : Int)) := by simp [rd, List.getD_eq_getElem?_getD, List.getElem?_eq_getElem (show i < row.length by omega)]
            exact ⟨(hrl.2 _ (List.mem_of_getElem? h1)).2, (hrl.2 _ (List.mem_of_getElem? h1)).1⟩
          obtain ⟨pr, hpr⟩ : ∃ pr, rd row (i : Int) = pr := ⟨_, rfl⟩
          rw [hpr] at hx3 hpb
          have hst := HST.out
          rw [hpr] at hst
          obtain ⟨W7, hW7⟩ : ∃ W7, w6.alloc (.cells #[.int .i64 tc, .int .i64 tx] 53) = W7 := ⟨_, rfl⟩
          have hz7 : w6.heap.size < W7.heap.size := by rw [← hW7]; simp
          rw [hW7] at bB7 bG7 bb7 bt7 bW7 hx2 hx3
          clear bB6 bG6 bb6 bW6
          have h70 := blk_cell bt7 0
          have h71 := blk_cell bt7 1
          have h72 := blk_cell bb7 0
          have h73 := blk_cell bb7 1
          have h74 := blk_frozen bb7 0
          have h75 := blk_frozen bb7 1
          simp only [List.getElem?_toArray, List.getElem?_cons_zero, List.getElem?_cons_succ] at h70 h71 h72 h73
          have HST2 := Aside0.mk hst
          clear hst
          have hz8 : w4.heap.size < W7.heap.size ∧ g < W7.heap.size ∧ B < W7.heap.size := ⟨blk_lt bb7, blk_lt bG7, blk_lt bB7⟩
          have B7 := Aside0.mk bB7
          have G7 := Aside0.mk bG7
          have K7 := Aside0.mk bb7
          have U7 := Aside0.mk bW7
          clear bB7 bG7 bb7 bt7 bW7
          have hst2 : ∀ (W8 : World) (fc fx : Int), pl l0 a1 (l2.drop k) i = (fc, fx) → W8.heap[g]? = some (.cells (nums .i64 ts).toArray 53 (0, 0)) →
              TabOk l0 a1 l2 (k + 1) i ((ts.set q3 fc).set (q3 + 1) fx) ∧ ((W8.setCell ⟨g, q3, none⟩ (.int .i64 fc)).setCell ⟨g, q3 + 1, none⟩ (.int .i64 fx)).heap[g]? = some (.cells (nums .i64 ((ts.set q3 fc).set (q3 + 1) fx)).toArray 53 (0, 0)) := fun W8 fc fx hv hg => by
            refine ⟨?_, tab_store (tab_store hg q3 fc) (q3 + 1) fx⟩
            rw [← hq3]
            exact tab_set HT.out (by omega) (by omega) hv
          by_cases p1 : 0 ≤ pr
          · have p1' : decide (0 ≤ pr) = true := decide_eq_true p1
            by_cases p2 : 0 ≤ tx
            · have p2' : decide (0 ≤ tx) = true := decide_eq_true p2
              have hw64 := w64 (x := pr + tc) (by omega) (by omega)
              have P1 := Aside0.mk p1
              have P2 := Aside0.mk p2
              by_cases p3 : bx < 0
              · have p3' : decide (bx < 0) = true := decide_eq_true p3
                have P3 := Aside0.mk p3
                clear p1 p2 p3
                have hv : pl l0 a1 (l2.drop k) i = (pr + tc, (i : Int)) := by rw [HST2.out]; exact if_pos ⟨⟨P1.out, P2.out⟩, (.inl P3.out)⟩
                go_wp2_with fail
                go_quiet (fail)
                have B8' := blk_drewN B7.out nq
                have G8' := blk_drewN G7.out nq
                have K8' := blk_drewN K7.out nq
                have U8' := pw_below_drewN U7.out nq
                have z8 : (W7.drewN nq).heap.size = W7.heap.size := rfl
                obtain ⟨Wq, hWq⟩ : ∃ Wq, W7.drewN nq = Wq := ⟨_, rfl⟩
                rw [hWq] at B8' G8' K8' U8' z8 ⊢
                have h80 := blk_cell K8' 0
                have h81 := blk_cell K8' 1
                have h82 := blk_frozen K8' 0
                have h83 := blk_frozen K8' 1
                simp only [List.getElem?_toArray, List.getElem?_cons_zero, List.getElem?_cons_succ] at h80 h81
                have B8n := blk_far (p := ⟨w4.heap.size, 1, none⟩) (blk_far (p := ⟨w4.heap.size, 0, none⟩) B8' (by simp; omega) (.int .i64 (pr + tc))) (by simp; omega) (.int .i64 (i : Int))
                have G8n := blk_far (p := ⟨w4.heap.size, 1, none⟩) (blk_far (p := ⟨w4.heap.size, 0, none⟩) G8' (by simp; omega) (.int .i64 (pr + tc))) (by simp; omega) (.int .i64 (i : Int))
                have K8n := blk_set (blk_set K8' 0 (.int .i64 (pr + tc))) 1 (.int .i64 (i : Int))
                have U8n := below_set (j := 1) (g := w4.heap.size) (v := .int .i64 (i : Int)) (below_set (j := 0) (g := w4.heap.size) (v := .int .i64 (pr + tc)) U8' (by omega)) (by omega)
                clear B8' G8' K8' U8' h70 h71 h72 h73 h74 h75 hx2 hx3
                go_wp2_with fail
                obtain ⟨W8, hW8⟩ : ∃ W8, ((Wq.setCell ⟨w4.heap.size, 0, none⟩ (.int .i64 (pr + tc))).setCell ⟨w4.heap.size, 1, none⟩ (.int .i64 (i : Int))) = W8 := ⟨_, rfl⟩
                rw [hW8] at B8n G8n K8n U8n ⊢
                have B8 := Aside0.mk B8n
                have G8 := Aside0.mk G8n
                have K8 := Aside0.mk (show W8.heap[w4.heap.size]? = some (.cells #[.int .i64 (pr + tc), .int .i64 (i : Int)] 53 (0, 0)) from K8n)
                have U8 := Aside0.mk U8n
                clear B8n G8n K8n U8n h80 h81 h82 h83 hW8
                have kS : ∀ w' : World, w'.heap[B]? = some (.cells #[.int .i64 ((l0.length : Int) + 1), .slice (some ⟨g, 0, none⟩) N N] 50 (0, 0)) → w'.heap[w4.heap.size]? = some (.cells #[.int .i64 (pr + tc), .int .i64 (i : Int)] 53 (0, 0)) → (w'.cell? ⟨B, 0, none⟩ = some (.int .i64 ((l0.length : Int) + 1)) ∧ w'.cell? ⟨B, 1, none⟩ = some (.slice (some ⟨g, 0, none⟩) N N)) ∧ w'.cell? ⟨w4.heap.size, 0, none⟩ = some (.int .i64 (pr + tc)) ∧ w'.cell? ⟨w4.heap.size, 1, none⟩ = some (.int .i64 (i : Int)) := fun w' d1 d2 => by
                  have d3 := blk_cell d1 0
                  have d4 := blk_cell d1 1
                  have d5 := blk_cell d2 0
                  have d6 := blk_cell d2 1
                  simp only [List.getElem?_toArray, List.getElem?_cons_zero, List.getElem?_cons_succ] at d3 d4 d5 d6
                  exact ⟨⟨d3, d4⟩, d5, d6⟩
                have KS : ∀ w', Below W8.heap.size W8 w' → _ := fun w' hb => kS w' ((hb.block B (blk_lt B8.out)).trans B8.out) ((hb.block _ (blk_lt K8.out)).trans K8.out)
                have KT : ∀ w', Below W8.heap.size W8 w' → _ := fun w' hb => kS ((w'.setCell ⟨g, q3, none⟩ (.int .i64 (pr + tc))).setCell ⟨g, q3 + 1, none⟩ (.int .i64 (i : Int)))
                  (blk_far (p := ⟨g, q3 + 1, none⟩) (blk_far (p := ⟨g, q3, none⟩) ((hb.block B (blk_lt B8.out)).trans B8.out) (by simp; omega) _) (by simp; omega) _)
                  (blk_far (p := ⟨g, q3 + 1, none⟩) (blk_far (p := ⟨g, q3, none⟩) ((hb.block _ (blk_lt K8.out)).trans K8.out) (by simp; omega) _) (by simp; omega) _)
                go_region_held3 (fun w' => (w'.cell? ⟨B, 0, none⟩ = some (.int .i64 ((l0.length : Int) + 1)) ∧ w'.cell? ⟨B, 1, none⟩ = some (.slice (some ⟨g, 0, none⟩) N N)) ∧ w'.cell? ⟨w4.heap.size, 0, none⟩ = some (.int .i64 (pr + tc)) ∧ w'.cell? ⟨w4.heap.size, 1, none⟩ = some (.int .i64 (i : Int)))
                  (first | exact KS _ (below_drew (Below.refl _ _)) | exact KS _ hb9 | exact KT _ hb9)
                  (first | (go_at_call 25; refine (at_calls g N (l0.length + 1) k i hix3 hN2 _).mono ?_; rintro e w9 ⟨rfl, hb9'⟩; have hb9 := below_then (below_drew (Below.refl W8.heap.size W8)) (Nat.le_refl _) hb9'; have bG9 := (hb9.block g (blk_lt G8.out)).trans G8.out; have c9 := tab_cell bG9 q3 (by omega); have c9' := tab_cell bG9 (q3 + 1) (by omega); have z9 := blk_frozen bG9 q3; have z9' := blk_frozen bG9 (q3 + 1); rw [hq3]))
                all_goals
                  have hE9 := hst2 w9 (pr + tc) (i : Int) hv bG9
                  have hB9 := blk_far (p := ⟨g, q3 + 1, none⟩) (blk_far (p := ⟨g, q3, none⟩) ((hb9.block B (blk_lt B8.out)).trans B8.out) (by simp; omega) (.int .i64 (pr + tc))) (by simp; omega) (.int .i64 (i : Int))
                  have hU9 := below_set (j := q3 + 1) (g := g) (v := .int .i64 (i : Int)) (below_set (j := q3) (g := g) (v := .int .i64 (pr + tc)) (below_then U8.out U8.out.size hb9) (by omega)) (by omega)
                  have HE9 := Aside0.mk hE9
                  have HB9 := Aside0.mk hB9
                  have HU9 := Aside0.mk hU9
                  clear hE9 hB9 hU9 bG9 hb9 c9 c9' z9 z9'
                  go_wp2_with fail
                  exact fin2 _ _ _ rfl HE9.out.1 HB9.out HE9.out.2 HU9.out
              · have p3' : decide (bx < 0) = false := decide_eq_false p3
                have P3 := Aside0.mk p3
                by_cases p4 : pr + tc ≤ bc
                · have p4' : decide (pr + tc ≤ bc) = true := decide_eq_true p4
                  have P4 := Aside0.mk p4
                  clear p1 p2 p3 p4
                  have hv : pl l0 a1 (l2.drop k) i = (pr + tc, (i : Int)) := by rw [HST2.out]; exact if_pos ⟨⟨P1.out, P2.out⟩, (.inr P4.out)⟩
                  go_wp2_with fail
                  go_quiet (fail)
                  have B8' := blk_drewN B7.out nq
                  have G8' := blk_drewN G7.out nq
                  have K8' := blk_drewN K7.out nq
                  have U8' := pw_below_drewN U7.out nq
                  have z8 : (W7.drewN nq).heap.size = W7.heap.size := rfl
                  obtain ⟨Wq, hWq⟩ : ∃ Wq, W7.drewN nq = Wq := ⟨_, rfl⟩
                  rw [hWq] at B8' G8' K8' U8' z8 ⊢
                  have h80 := blk_cell K8' 0
                  have h81 := blk_cell K8' 1
                  have h82 := blk_frozen K8' 0
                  have h83 := blk_frozen K8' 1
                  simp only [List.getElem?_toArray, List.getElem?_cons_zero, List.getElem?_cons_succ] at h80 h81
                  have B8n := blk_far (p := ⟨w4.heap.size, 1, none⟩) (blk_far (p := ⟨w4.heap.size, 0, none⟩) B8' (by simp; omega) (.int .i64 (pr + tc))) (by simp; omega) (.int .i64 (i : Int))
                  have G8n := blk_far (p := ⟨w4.heap.size, 1, none⟩) (blk_far (p := ⟨w4.heap.size, 0, none⟩) G8' (by simp; omega) (.int .i64 (pr + tc))) (by simp; omega) (.int .i64 (i : Int))
                  have K8n := blk_set (blk_set K8' 0 (.int .i64 (pr + tc))) 1 (.int .i64 (i : Int))
                  have U8n := below_set (j := 1) (g := w4.heap.size) (v := .int .i64 (i : Int)) (below_set (j := 0) (g := w4.heap.size) (v := .int .i64 (pr + tc)) U8' (by omega)) (by omega)
                  clear B8' G8' K8' U8' h70 h71 h72 h73 h74 h75 hx2 hx3
                  go_wp2_with fail
                  obtain ⟨W8, hW8⟩ : ∃ W8, ((Wq.setCell ⟨w4.heap.size, 0, none⟩ (.int .i64 (pr + tc))).setCell ⟨w4.heap.size, 1, none⟩ (.int .i64 (i : Int))) = W8 := ⟨_, rfl⟩
                  rw [hW8] at B8n G8n K8n U8n ⊢
                  have B8 := Aside0.mk B8n
                  have G8 := Aside0.mk G8n
                  have K8 := Aside0.mk (show W8.heap[w4.heap.size]? = some (.cells #[.int .i64 (pr + tc), .int .i64 (i : Int)] 53 (0, 0)) from K8n)
                  have U8 := Aside0.mk U8n
                  clear B8n G8n K8n U8n h80 h81 h82 h83 hW8
                  have kS : ∀ w' : World, w'.heap[B]? = some (.cells #[.int .i64 ((l0.length : Int) + 1), .slice (some ⟨g, 0, none⟩) N N] 50 (0, 0)) → w'.heap[w4.heap.size]? = some (.cells #[.int .i64 (pr + tc), .int .i64 (i : Int)] 53 (0, 0)) → (w'.cell? ⟨B, 0, none⟩ = some (.int .i64 ((l0.length : Int) + 1)) ∧ w'.cell? ⟨B, 1, none⟩ = some (.slice (some ⟨g, 0, none⟩) N N)) ∧ w'.cell? ⟨w4.heap.size, 0, none⟩ = some (.int .i64 (pr + tc)) ∧ w'.cell? ⟨w4.heap.size, 1, none⟩ = some (.int .i64 (i : Int)) := fun w' d1 d2 => by
                    have d3 := blk_cell d1 0
                    have d4 := blk_cell d1 1
                    have d5 := blk_cell d2 0
                    have d6 := blk_cell d2 1
                    simp only [List.getElem?_toArray, List.getElem?_cons_zero, List.getElem?_cons_succ] at d3 d4 d5 d6
                    exact ⟨⟨d3, d4⟩, d5, d6⟩
                  have KS : ∀ w', Below W8.heap.size W8 w' → _ := fun w' hb => kS w' ((hb.block B (blk_lt B8.out)).trans B8.out) ((hb.block _ (blk_lt K8.out)).trans K8.out)
                  have KT : ∀ w', Below W8.heap.size W8 w' → _ := fun w' hb => kS ((w'.setCell ⟨g, q3, none⟩ (.int .i64 (pr + tc))).setCell ⟨g, q3 + 1, none⟩ (.int .i64 (i : Int)))
                    (blk_far (p := ⟨g, q3 + 1, none⟩) (blk_far (p := ⟨g, q3, none⟩) ((hb.block B (blk_lt B8.out)).trans B8.out) (by simp; omega) _) (by simp; omega) _)
                    (blk_far (p := ⟨g, q3 + 1, none⟩) (blk_far (p := ⟨g, q3, none⟩) ((hb.block _ (blk_lt K8.out)).trans K8.out) (by simp; omega) _) (by simp; omega) _)
                  go_region_held3 (fun w' => (w'.cell? ⟨B, 0, none⟩ = some (.int .i64 ((l0.length : Int) + 1)) ∧ w'.cell? ⟨B, 1, none⟩ = some (.slice (some ⟨g, 0, none⟩) N N)) ∧ w'.cell? ⟨w4.heap.size, 0, none⟩ = some (.int .i64 (pr + tc)) ∧ w'.cell? ⟨w4.heap.size, 1, none⟩ = some (.int .i64 (i : Int)))
                    (first | exact KS _ (below_drew (Below.refl _ _)) | exact KS _ hb9 | exact KT _ hb9)
                    (first | (go_at_call 25; refine (at_calls g N (l0.length + 1) k i hix3 hN2 _).mono ?_; rintro e w9 ⟨rfl, hb9'⟩; have hb9 := below_then (below_drew (Below.refl W8.heap.size W8)) (Nat.le_refl _) hb9'; have bG9 := (hb9.block g (blk_lt G8.out)).trans G8.out; have c9 := tab_cell bG9 q3 (by omega); have c9' := tab_cell bG9 (q3 + 1) (by omega); have z9 := blk_frozen bG9 q3; have z9' := blk_frozen bG9 (q3 + 1); rw [hq3]))
                  all_goals
                    have hE9 := hst2 w9 (pr + tc) (i : Int) hv bG9
                    have hB9 := blk_far (p := ⟨g, q3 + 1, none⟩) (blk_far (p := ⟨g, q3, none⟩) ((hb9.block B (blk_lt B8.out)).trans B8.out) (by simp; omega) (.int .i64 (pr + tc))) (by simp; omega) (.int .i64 (i : Int))
                    have hU9 := below_set (j := q3 + 1) (g := g) (v := .int .i64 (i : Int)) (below_set (j := q3) (g := g) (v := .int .i64 (pr + tc)) (below_then U8.out U8.out.size hb9) (by omega)) (by omega)
                    have HE9 := Aside0.mk hE9
                    have HB9 := Aside0.mk hB9
                    have HU9 := Aside0.mk hU9
                    clear hE9 hB9 hU9 bG9 hb9 c9 c9' z9 z9'
                    go_wp2_with fail
                    exact fin2 _ _ _ rfl HE9.out.1 HB9.out HE9.out.2 HU9.out
                · have p4' : decide (pr + tc ≤ bc) = false := decide_eq_false p4
                  have hv : pl l0 a1 (l2.drop k) i = (bc, bx) := by rw [HST2.out]; exact if_neg (fun h => h.2.elim p3 p4)
                  clear p1 p2 p3 p4
                  go_wp2_with fail
                  go_quiet (fail)
                  have B8' := blk_drewN B7.out nq
                  have G8' := blk_drewN G7.out nq
                  have K8' := blk_drewN K7.out nq
                  have U8' := pw_below_drewN U7.out nq
                  have z8 : (W7.drewN nq).heap.size = W7.heap.size := rfl
                  obtain ⟨W8, hWq⟩ : ∃ Wq, W7.drewN nq = Wq := ⟨_, rfl⟩
                  rw [hWq] at B8' G8' K8' U8' z8 ⊢
                  have h80 := blk_cell K8' 0
                  have h81 := blk_cell K8' 1
                  simp only [List.getElem?_toArray, List.getElem?_cons_zero, List.getElem?_cons_succ] at h80 h81
                  have B8 := Aside0.mk B8'
                  have G8 := Aside0.mk G8'
                  have K8 := Aside0.mk K8'
                  have U8 := Aside0.mk U8'
                  clear B8' G8' K8' U8' h70 h71 h72 h73 h74 h75 hx2 hx3 hWq
                  go_wp2_with fail
                  have kS : ∀ w' : World, w'.heap[B]? = some (.cells #[.int .i64 ((l0.length : Int) + 1), .slice (some ⟨g, 0, none⟩) N N] 50 (0, 0)) → w'.heap[w4.heap.size]? = some (.cells #[.int .i64 bc, .int .i64 bx] 53 (0, 0)) → (w'.cell? ⟨B, 0, none⟩ = some (.int .i64 ((l0.length : Int) + 1)) ∧ w'.cell? ⟨B, 1, none⟩ = some (.slice (some ⟨g, 0, none⟩) N N)) ∧ w'.cell? ⟨w4.heap.size, 0, none⟩ = some (.int .i64 bc) ∧ w'.cell? ⟨w4.heap.size, 1, none⟩ = some (.int .i64 bx) := fun w' d1 d2 => by
                    have d3 := blk_cell d1 0
                    have d4 := blk_cell d1 1
                    have d5 := blk_cell d2 0
                    have d6 := blk_cell d2 1
                    simp only [List.getElem?_toArray, List.getElem?_cons_zero, List.getElem?_cons_succ] at d3 d4 d5 d6
                    exact ⟨⟨d3, d4⟩, d5, d6⟩
                  have KS : ∀ w', Below W8.heap.size W8 w' → _ := fun w' hb => kS w' ((hb.block B (blk_lt B8.out)).trans B8.out) ((hb.block _ (blk_lt K8.out)).trans K8.out)
                  have KT : ∀ w', Below W8.heap.size W8 w' → _ := fun w' hb => kS ((w'.setCell ⟨g, q3, none⟩ (.int .i64 bc)).setCell ⟨g, q3 + 1, none⟩ (.int .i64 bx))
                    (blk_far (p := ⟨g, q3 + 1, none⟩) (blk_far (p := ⟨g, q3, none⟩) ((hb.block B (blk_lt B8.out)).trans B8.out) (by simp; omega) _) (by simp; omega) _)
                    (blk_far (p := ⟨g, q3 + 1, none⟩) (blk_far (p := ⟨g, q3, none⟩) ((hb.block _ (blk_lt K8.out)).trans K8.out) (by simp; omega) _) (by simp; omega) _)
                  go_region_held3 (fun w' => (w'.cell? ⟨B, 0, none⟩ = some (.int .i64 ((l0.length : Int) + 1)) ∧ w'.cell? ⟨B, 1, none⟩ = some (.slice (some ⟨g, 0, none⟩) N N)) ∧ w'.cell? ⟨w4.heap.size, 0, none⟩ = some (.int .i64 bc) ∧ w'.cell? ⟨w4.heap.size, 1, none⟩ = some (.int .i64 bx))
                    (first | exact KS _ (below_drew (Below.refl _ _)) | exact KS _ hb9 | exact KT _ hb9)
                    (first | (go_at_call 25; refine (at_calls g N (l0.length + 1) k i hix3 hN2 _).mono ?_; rintro e w9 ⟨rfl, hb9'⟩; have hb9 := below_then (below_drew (Below.refl W8.heap.size W8)) (Nat.le_refl _) hb9'; have bG9 := (hb9.block g (blk_lt G8.out)).trans G8.out; have c9 := tab_cell bG9 q3 (by omega); have c9' := tab_cell bG9 (q3 + 1) (by omega); have z9 := blk_frozen bG9 q3; have z9' := blk_frozen bG9 (q3 + 1); rw [hq3]))
                  all_goals
                    have hE9 := hst2 w9 bc bx hv bG9
                    have hB9 := blk_far (p := ⟨g, q3 + 1, none⟩) (blk_far (p := ⟨g, q3, none⟩) ((hb9.block B (blk_lt B8.out)).trans B8.out) (by simp; omega) (.int .i64 bc)) (by simp; omega) (.int .i64 bx)
                    have hU9 := below_set (j := q3 + 1) (g := g) (v := .int .i64 bx) (below_set (j := q3) (g := g) (v := .int .i64 bc) (below_then U8.out U8.out.size hb9) (by omega)) (by omega)
                    have HE9 := Aside0.mk hE9
                    have HB9 := Aside0.mk hB9
                    have HU9 := Aside0.mk hU9
                    clear hE9 hB9 hU9 bG9 hb9 c9 c9' z9 z9'
                    go_wp2_with fail
                    exact fin2 _ _ _ rfl HE9.out.1 HB9.out HE9.out.2 HU9.out
            · have p2' : decide (0 ≤ tx) = false := decide_eq_false p2
              have hv : pl l0 a1 (l2.drop k) i = (bc, bx) := by rw [HST2.out]; exact if_neg (fun h => p2 h.1.2)
              clear p1 p2
              go_wp2_with fail
              have kS : ∀ w' : World, w'.heap[B]? = some (.cells #[.int .i64 ((l0.length : Int) + 1), .slice (some ⟨g, 0, none⟩) N N] 50 (0, 0)) → w'.heap[w4.heap.size]? = some (.cells #[.int .i64 bc, .int .i64 bx] 53 (0, 0)) → (w'.cell? ⟨B, 0, none⟩ = some (.int .i64 ((l0.length : Int) + 1)) ∧ w'.cell? ⟨B, 1, none⟩ = some (.slice (some ⟨g, 0, none⟩) N N)) ∧ w'.cell? ⟨w4.heap.size, 0, none⟩ = some (.int .i64 bc) ∧ w'.cell? ⟨w4.heap.size, 1, none⟩ = some (.int .i64 bx) := fun w' d1 d2 => by
                have d3 := blk_cell d1 0
                have d4 := blk_cell d1 1
                have d5 := blk_cell d2 0
                have d6 := blk_cell d2 1
                simp only [List.getElem?_toArray, List.getElem?_cons_zero, List.getElem?_cons_succ] at d3 d4 d5 d6
                exact ⟨⟨d3, d4⟩, d5, d6⟩
              have KS : ∀ w', Below W7.heap.size W7 w' → _ := fun w' hb => kS w' ((hb.block B (blk_lt B7.out)).trans B7.out) ((hb.block _ (blk_lt K7.out)).trans K7.out)
              have KT : ∀ w', Below W7.heap.size W7 w' → _ := fun w' hb => kS ((w'.setCell ⟨g, q3, none⟩ (.int .i64 bc)).setCell ⟨g, q3 + 1, none⟩ (.int .i64 bx))
                (blk_far (p := ⟨g, q3 + 1, none⟩) (blk_far (p := ⟨g, q3, none⟩) ((hb.block B (blk_lt B7.out)).trans B7.out) (by simp; omega) _) (by simp; omega) _)
                (blk_far (p := ⟨g, q3 + 1, none⟩) (blk_far (p := ⟨g, q3, none⟩) ((hb.block _ (blk_lt K7.out)).trans K7.out) (by simp; omega) _) (by simp; omega) _)
              go_region_held3 (fun w' => (w'.cell? ⟨B, 0, none⟩ = some (.int .i64 ((l0.length : Int) + 1)) ∧ w'.cell? ⟨B, 1, none⟩ = some (.slice (some ⟨g, 0, none⟩) N N)) ∧ w'.cell? ⟨w4.heap.size, 0, none⟩ = some (.int .i64 bc) ∧ w'.cell? ⟨w4.heap.size, 1, none⟩ = some (.int .i64 bx))
                (first | exact KS _ (below_drew (Below.refl _ _)) | exact KS _ hb9 | exact KT _ hb9)
                (first | (go_at_call 25; refine (at_calls g N (l0.length + 1) k i hix3 hN2 _).mono ?_; rintro e w9 ⟨rfl, hb9'⟩; have hb9 := below_then (below_drew (Below.refl W7.heap.size W7)) (Nat.le_refl _) hb9'; have bG9 := (hb9.block g (blk_lt G7.out)).trans G7.out; have c9 := tab_cell bG9 q3 (by omega); have c9' := tab_cell bG9 (q3 + 1) (by omega); have z9 := blk_frozen bG9 q3; have z9' := blk_frozen bG9 (q3 + 1); rw [hq3]))
              all_goals
                have hE9 := hst2 w9 bc bx hv bG9
                have hB9 := blk_far (p := ⟨g, q3 + 1, none⟩) (blk_far (p := ⟨g, q3, none⟩) ((hb9.block B (blk_lt B7.out)).trans B7.out) (by simp; omega) (.int .i64 bc)) (by simp; omega) (.int .i64 bx)
                have hU9 := below_set (j := q3 + 1) (g := g) (v := .int .i64 bx) (below_set (j := q3) (g := g) (v := .int .i64 bc) (below_then U7.out U7.out.size hb9) (by omega)) (by omega)
                have HE9 := Aside0.mk hE9
                have HB9 := Aside0.mk hB9
                have HU9 := Aside0.mk hU9
                clear hE9 hB9 hU9 bG9 hb9 c9 c9' z9 z9'
                go_wp2_with fail
                exact fin2 _ _ _ rfl HE9.out.1 HB9.out HE9.out.2 HU9.out
          · have p1' : decide (0 ≤ pr) = false := decide_eq_false p1
            have hv : pl l0 a1 (l2.drop k) i = (bc, bx) := by rw [HST2.out]; exact if_neg (fun h => p1 h.1.1)
            clear p1
            go_wp2_with fail
            have kS : ∀ w' : World, w'.heap[B]? = some (.cells #[.int .i64 ((l0.length : Int) + 1), .slice (some ⟨g, 0, none⟩) N N] 50 (0, 0)) → w'.heap[w4.heap.size]? = some (.cells #[.int .i64 bc, .int .i64 bx] 53 (0, 0)) → (w'.cell? ⟨B, 0, none⟩ = some (.int .i64 ((l0.length : Int) + 1)) ∧ w'.cell? ⟨B, 1, none⟩ = some (.slice (some ⟨g, 0, none⟩) N N)) ∧ w'.cell? ⟨w4.heap.size, 0, none⟩ = some (.int .i64 bc) ∧ w'.cell? ⟨w4.heap.size, 1, none⟩ = some (.int .i64 bx) := fun w' d1 d2 => by
              have d3 := blk_cell d1 0
              have d4 := blk_cell d1 1
              have d5 := blk_cell d2 0
              have d6 := blk_cell d2 1
              simp only [List.getElem?_toArray, List.getElem?_cons_zero, List.getElem?_cons_succ] at d3 d4 d5 d6
              exact ⟨⟨d3, d4⟩, d5, d6⟩
            have KS : ∀ w', Below W7.heap.size W7 w' → _ := fun w' hb => kS w' ((hb.block B (blk_lt B7.out)).trans B7.out) ((hb.block _ (blk_lt K7.out)).trans K7.out)
            have KT : ∀ w', Below W7.heap.size W7 w' → _ := fun w' hb => kS ((w'.setCell ⟨g, q3, none⟩ (.int .i64 bc)).setCell ⟨g, q3 + 1, none⟩ (.int .i64 bx))
              (blk_far (p := ⟨g, q3 + 1, none⟩) (blk_far (p := ⟨g, q3, none⟩) ((hb.block B (blk_lt B7.out)).trans B7.out) (by simp; omega) _) (by simp; omega) _)
              (blk_far (p := ⟨g, q3 + 1, none⟩) (blk_far (p := ⟨g, q3, none⟩) ((hb.block _ (blk_lt K7.out)).trans K7.out) (by simp; omega) _) (by simp; omega) _)
            go_region_held3 (fun w' => (w'.cell? ⟨B, 0, none⟩ = some (.int .i64 ((l0.length : Int) + 1)) ∧ w'.cell? ⟨B, 1, none⟩ = some (.slice (some ⟨g, 0, none⟩) N N)) ∧ w'.cell? ⟨w4.heap.size, 0, none⟩ = some (.int .i64 bc) ∧ w'.cell? ⟨w4.heap.size, 1, none⟩ = some (.int .i64 bx))
              (first | exact KS _ (below_drew (Below.refl _ _)) | exact KS _ hb9 | exact KT _ hb9)
              (first | (go_at_call 25; refine (at_calls g N (l0.length + 1) k i hix3 hN2 _).mono ?_; rintro e w9 ⟨rfl, hb9'⟩; have hb9 := below_then (below_drew (Below.refl W7.heap.size W7)) (Nat.le_refl _) hb9'; have bG9 := (hb9.block g (blk_lt G7.out)).trans G7.out; have c9 := tab_cell bG9 q3 (by omega); have c9' := tab_cell bG9 (q3 + 1) (by omega); have z9 := blk_frozen bG9 q3; have z9' := blk_frozen bG9 (q3 + 1); rw [hq3]))
            all_goals
              have hE9 := hst2 w9 bc bx hv bG9
              have hB9 := blk_far (p := ⟨g, q3 + 1, none⟩) (blk_far (p := ⟨g, q3, none⟩) ((hb9.block B (blk_lt B7.out)).trans B7.out) (by simp; omega) (.int .i64 bc)) (by simp; omega) (.int .i64 bx)
              have hU9 := below_set (j := q3 + 1) (g := g) (v := .int .i64 bx) (below_set (j := q3) (g := g) (v := .int .i64 bc) (below_then U7.out U7.out.size hb9) (by omega)) (by omega)
              have HE9 := Aside0.mk hE9
              have HB9 := Aside0.mk hB9
              have HU9 := Aside0.mk hU9
              clear hE9 hB9 hU9 bG9 hb9 c9 c9' z9 z9'
              go_wp2_with fail
              exact fin2 _ _ _ rfl HE9.out.1 HB9.out HE9.out.2 HU9.out
end PC
def rounds_Place.f (l0 : List Int) (a1 : Int) (l2 : List (List Int)) : Option (List Int × Int × Bool × Int) :=
  if PC.checkS l0 a1 l2 = 0 then some ((PC.placeS l0 a1 l2).1, (PC.placeS l0 a1 l2).2.1, (PC.placeS l0 a1 l2).2.2, 0) else some ([], 0, false, PC.checkS l0 a1 l2)
theorem rounds_Place.calls (A0 : Option Addr) (c0 : Nat) (l0 : List Int) (a1 : Int) (A2 : Option Addr) (c2 : Nat) (l2 : List (List Int)) (r1 : List Int) (r2 : Int) (r3 : Bool) (r4 : Int) (w : World) (hr0 : Kd.C (Kd.int .i64) w A0 l0.length l0) (hc0 : l0.length ≤ c0) (hr2 : Kd.C (Kd.slice 3 (Kd.int .i64)) w A2 l2.length l2) (hc2 : l2.length ≤ c2) (h : rounds_Place.f l0 a1 l2 = some (r1, r2, r3, r4)) :
    Calls Try.prog 15 #[.slice A0 l0.length c0, .int .i64 a1, .slice A2 l2.length c2] w fun e w' => ∃ v0_ : Value, e = .returned (.tuple #[v0_, .int .i64 r2, .bool r3, .int .i64 r4]) ∧ Kd.R (Kd.int .i64) 3 w' w.heap.size (fun _ => True) v0_ r1 ∧ Below w.heap.size w w' := by
  unfold rounds_Place.f at h
  by_cases hc : PC.checkS l0 a1 l2 = 0
  · rw [if_pos hc] at h
    cases h
    exact PC.place_good A0 c0 l0 a1 A2 c2 l2 w hr0 hc0 hr2 hc2 hc
  · rw [if_neg hc] at h
    cases h
    refine (PC.place_bad A0 c0 l0 a1 A2 c2 l2 w hr0 hc0 hr2 hc2 hc).mono ?_
    rintro e w' ⟨rfl, hb⟩
    exact ⟨_, rfl, Kd.R_of_own (ok := fun _ => True) (own_nil _ _ _ _) (fun _ _ => trivial), hb⟩

end Go.Proofs.Ytaagpnbnjdpjgaa.X
