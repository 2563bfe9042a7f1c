/- Proved here: the closed form of 'bracket' and its contract (CB) -/
import Derived.Test.YtaadhandkljcdaaX0
import Derived.Test.YtaadhandkljcdaaK
import Derived.Deep.Cut
import Derived.StillTailTactics
import Derived.BigQuiet
import Derived.Laws.CopyOwn
namespace Go.Proofs.Ytaadhandkljcdaa.X
open Go.RowKit Go.Proofs.YtaadhandkljcdaaW.PrintWords Go.Proofs.YtaadhandkljcdaaW.PrintLast Go.Proofs.YtaadhandkljcdaaW.PrintMore
attribute [local go_sem] max2_int min2_int max_two min_two max_three min_three max_four min_four
set_option linter.unusedVariables false
set_option linter.unusedSimpArgs false
namespace CB
open Go.Proofs.Ytaadhandkljcdaa.K
attribute [local go_sem] Oper.semAt_some
/-- The bracket: of two to the power of t places. -/
def inter (s : Int) : List Int → List Int
  | [] => []
  | x :: l => x :: (s - 1 - x) :: inter s l
def bk : Nat → List Int
  | 0 => [0]
  | t + 1 => inter (((2 ^ (t + 1) : Nat) : Int)) (bk t)
theorem inter_len (s : Int) : ∀ l : List Int, (inter s l).length = 2 * l.length
  | [] => rfl
  | x :: l => by simp [inter, inter_len s l]; omega
theorem bk_len : ∀ t, (bk t).length = 2 ^ t
  | 0 => rfl
  | t + 1 => by rw [bk, inter_len, bk_len t, Nat.pow_succ]; omega
theorem inter_mem {s : Int} {m : Int} (hs : s = 2 * m) : ∀ {l : List Int}, (∀ x ∈ l, 0 ≤ x ∧ x < m) → ∀ x ∈ inter s l, 0 ≤ x ∧ x < s
  | [], _, x, hx => by cases hx
  | a :: l, h, x, hx => by
    have ha := h a List.mem_cons_self
    rcases List.mem_cons.1 hx with rfl | hx
    · omega
    · rcases List.mem_cons.1 hx with rfl | hx
      · omega
      · exact inter_mem hs (fun y hy => h y (List.mem_cons_of_mem _ hy)) x hx
theorem bk_mem : ∀ t, ∀ x ∈ bk t, 0 ≤ x ∧ x < ((2 ^ t : Nat) : Int)
  | 0, x, hx => by
    rw [bk, List.mem_singleton] at hx
    subst hx
    decide
  | t + 1, x, hx => inter_mem (m := ((2 ^ t : Nat) : Int)) (by rw [Nat.pow_succ]; omega) (bk_mem t) x hx
theorem inter_snoc (s x : Int) : ∀ l : List Int, inter s (l ++ [x]) = inter s l ++ [x, s - 1 - x]
  | [] => rfl
  | a :: l => by simp [inter, inter_snoc s x l]
theorem put2 {A D : List Int} {a b x y : Int} {k : Nat} (h : A.length = k) : ((A ++ a :: b :: D).set k x).set (k + 1) y = A ++ [x, y] ++ D := by
  subst h
  rw [List.set_append, if_neg (by omega), Nat.sub_self, List.set_cons_zero, List.set_append, if_neg (by omega), show A.length + 1 - A.length = 1 by omega, List.set_cons_succ, List.set_cons_zero, List.append_assoc]
  rfl
/-- A row within a round: its first 2i cells are done. -/
def mid (s : Int) (l b : List Int) (i : Nat) : List Int := inter s (l.take i) ++ b.drop (2 * i)
theorem mid_next {s : Int} {l b : List Int} {i : Nat} (hi : i < l.length) (hb : 2 * l.length ≤ b.length) : ((mid s l b i).set (2 * i) l[i]).set (2 * i + 1) (s - 1 - l[i]) = mid s l b (i + 1) := by
  unfold mid
  rw [List.drop_eq_getElem_cons (show 2 * i < b.length by omega), List.drop_eq_getElem_cons (show 2 * i + 1 < b.length by omega), put2 (by rw [inter_len, List.length_take]; omega), List.take_succ_eq_append_getElem hi, inter_snoc]
  rfl
theorem mid_len {s : Int} {l b : List Int} {i : Nat} (hi : i ≤ l.length) (hb : 2 * l.length ≤ b.length) : (mid s l b i).length = b.length := by
  unfold mid
  rw [List.length_append, inter_len, List.length_take, List.length_drop]
  omega
theorem mid_all {t N : Nat} (M : Nat) (hM : 2 ^ t = M) (hl : (bk t).length = M) : mid ((2 * M : Nat) : Int) (bk t) (bk t ++ List.replicate (N - M) 0) M = bk (t + 1) ++ List.replicate (N - 2 * M) 0 := by
  unfold mid
  rw [List.take_of_length_le (by omega), List.drop_append, List.drop_eq_nil_of_le (by omega), List.nil_append, List.drop_replicate, bk, Nat.pow_succ, hM, hl, Nat.mul_comm M 2, show N - M - (2 * M - M) = N - 2 * M by omega]
theorem made_ints (N : Nat) : (madeCells #[Value.int .i64 0] (N * 1)) = (nums .i64 (List.replicate N 0)).toArray := by
  apply Array.ext'
  apply List.ext_getElem
  · simp [nums, madeCells]
  · intro i h1 h2
    simp [nums, madeCells, Nat.mod_one]
theorem store_row {W : World} {g : Nat} {ts : List Int} (h : W.heap[g]? = some (.cells (nums .i64 ts).toArray 3 (0, 0))) (q : Nat) (c : Int) : (W.setCell ⟨g, q, none⟩ (.int .i64 c)).heap[g]? = some (.cells (nums .i64 (ts.set q c)).toArray 3 (0, 0)) := by
  have := blk_set h q (.int .i64 c)
  rw [this]
  simp [nums, List.map_set]
theorem read_row {W : World} {g : Nat} {ts : List Int} (h : W.heap[g]? = some (.cells (nums .i64 ts).toArray 3 (0, 0))) (q : Nat) (hq : q < ts.length) : W.cell? ⟨g, q, none⟩ = some (.int .i64 ts[q]) ∧ W.frozen? ⟨g, q, none⟩ = false :=
  ⟨by rw [blk_cell h q]; simp [nums, List.getElem?_eq_getElem hq], blk_frozen h q⟩
theorem nums_one (k : IntKind) (xs : List Int) : ∀ u ∈ nums k xs, u.oneCell' = true := fun u hu => by
  obtain ⟨x, _, rfl⟩ := List.mem_map.1 hu
  rfl
set_option maxRecDepth 100000 in
set_option maxHeartbeats 16000000 in
theorem bracket_calls (r : Nat) (hr : r ≤ 6) (w : World) :
    Calls Try.prog 25 #[.int .i64 (r : Int)] w fun e w' => ∃ g, e = .returned (.slice (some ⟨g, 0, none⟩) (2 ^ r) (2 ^ r)) ∧ w'.heap[g]? = some (.cells (nums .i64 (bk r)).toArray 3 (0, 0)) ∧ w.heap.size ≤ g ∧ Below w.heap.size w w' := by
  obtain ⟨i0, hi, hz0, hz1, hz2⟩ := info_parts info3
  obtain ⟨N, hN⟩ : ∃ N, 2 ^ r = N := ⟨_, rfl⟩
  have hN64 : N ≤ 64 := by rw [← hN]; exact Nat.pow_le_pow_right (by omega) hr
  have hN1 : 1 ≤ N := by rw [← hN]; exact Nat.one_le_two_pow
  have hsh : wrap64 ((2 : Int) ^ r) = (N : Int) := by
    rw [show ((2 : Int) ^ r) = ((2 ^ r : Nat) : Int) by simp, hN]
    exact w64 (by omega) (by omega)
  rw [hN]
  have hmk := fun (n : Nat) (hn : n ≤ 64) (W : World) => run_make (P := Try.prog) (w := W) 32 3 i0 _ Try.underlying32 hi hz0 .i64 .i64 (n : Int) (n : Int) (by omega) (by omega) (by rw [hz2]; omega) (by omega)
  simp only [Int.toNat_natCast, hz1, Value.cells, made_ints] at hmk
  have hmkN := hmk N hN64
  have HMK := Aside0.mk hmk
  have HN := Aside0.mk hN
  clear hmk hN
  go_enter Try.func25, Try.ntmps25
  go_wp2_with fail
  obtain ⟨g, hg⟩ : ∃ g, w.heap.size = g := ⟨_, rfl⟩
  have eb := blk_new w (.cells (nums .i64 (List.replicate N 0)).toArray 3)
  have hB := below_alloc (Below.refl w.heap.size w) (.cells (nums .i64 (List.replicate N 0)).toArray 3)
  obtain ⟨w1, hw1⟩ : ∃ w1, w.alloc (.cells (nums .i64 (List.replicate N 0)).toArray 3) = w1 := ⟨_, rfl⟩
  rw [hw1] at eb hB ⊢
  rw [hg] at eb ⊢
  have EB := Aside0.mk eb
  have HB := Aside0.mk hB
  clear hw1 eb hB hmkN hsh
  refine wp_loop_ghost_k (fun m a W => ∃ (t M : Nat) (u : Nat → Value), m = r - t ∧ t ≤ r ∧ 2 ^ t = M ∧ W.heap[g]? = some (.cells (nums .i64 (bk t ++ List.replicate (N - M) 0)).toArray 3 (0, 0)) ∧ Below w.heap.size w W ∧ a = { tmps := List.toArray ((.int .i64 (r : Int) : Value) :: u 1 :: (.slice none 0 0 : Value) :: (.slice (some ⟨g, 0, none⟩) N N : Value) :: (.int .i64 (M : Int) : Value) :: u 5 :: u 6 :: u 7 :: u 8 :: u 9 :: u 10 :: u 11 :: u 12 :: u 13 :: u 14 :: u 15 :: u 16 :: u 17 :: u 18 :: u 19 :: u 20 :: u 21 :: u 22 :: u 23 :: u 24 :: u 25 :: u 26 :: u 27 :: u 28 :: u 29 :: u 30 :: u 31 :: u 32 :: u 33 :: u 34 :: u 35 :: u 36 :: u 37 :: u 38 :: u 39 :: u 40 :: u 41 :: u 42 :: u 43 :: u 44 :: u 45 :: []), defers := [] }) r ?start ?round
  case start =>
    have st : ∀ T : Array Value, T = List.toArray ((.int .i64 (r : Int) : Value) :: T.getD 1 undef :: (.slice none 0 0 : Value) :: (.slice (some ⟨g, 0, none⟩) N N : Value) :: (.int .i64 1 : Value) :: T.getD 5 undef :: T.getD 6 undef :: T.getD 7 undef :: T.getD 8 undef :: T.getD 9 undef :: T.getD 10 undef :: T.getD 11 undef :: T.getD 12 undef :: T.getD 13 undef :: T.getD 14 undef :: T.getD 15 undef :: T.getD 16 undef :: T.getD 17 undef :: T.getD 18 undef :: T.getD 19 undef :: T.getD 20 undef :: T.getD 21 undef :: T.getD 22 undef :: T.getD 23 undef :: T.getD 24 undef :: T.getD 25 undef :: T.getD 26 undef :: T.getD 27 undef :: T.getD 28 undef :: T.getD 29 undef :: T.getD 30 undef :: T.getD 31 undef :: T.getD 32 undef :: T.getD 33 undef :: T.getD 34 undef :: T.getD 35 undef :: T.getD 36 undef :: T.getD 37 undef :: T.getD 38 undef :: T.getD 39 undef :: T.getD 40 undef :: T.getD 41 undef :: T.getD 42 undef :: T.getD 43 undef :: T.getD 44 undef :: T.getD 45 undef :: []) → ∃ (t M : Nat) (u : Nat → Value), r = r - t ∧ t ≤ r ∧ 2 ^ t = M ∧ w1.heap[g]? = some (.cells (nums .i64 (bk t ++ List.replicate (N - M) 0)).toArray 3 (0, 0)) ∧ Below w.heap.size w w1 ∧ (Act.mk T []) = { tmps := List.toArray ((.int .i64 (r : Int) : Value) :: u 1 :: (.slice none 0 0 : Value) :: (.slice (some ⟨g, 0, none⟩) N N : Value) :: (.int .i64 (M : Int) : Value) :: u 5 :: u 6 :: u 7 :: u 8 :: u 9 :: u 10 :: u 11 :: u 12 :: u 13 :: u 14 :: u 15 :: u 16 :: u 17 :: u 18 :: u 19 :: u 20 :: u 21 :: u 22 :: u 23 :: u 24 :: u 25 :: u 26 :: u 27 :: u 28 :: u 29 :: u 30 :: u 31 :: u 32 :: u 33 :: u 34 :: u 35 :: u 36 :: u 37 :: u 38 :: u 39 :: u 40 :: u 41 :: u 42 :: u 43 :: u 44 :: u 45 :: []), defers := [] } := fun T hT =>
      ⟨0, 1, fun i => T.getD i undef, rfl, Nat.zero_le _, rfl, by
        have : bk 0 ++ List.replicate (N - 1) 0 = List.replicate N 0 := by
          obtain ⟨n, rfl⟩ : ∃ n, N = n + 1 := ⟨N - 1, by omega⟩
          rw [List.replicate_succ]; rfl
        rw [this]; exact EB.out, HB.out, congrArg (fun T => (Act.mk T _)) hT⟩
    exact st _ rfl
  case round =>
    rintro m a W ⟨t, M, u, rfl, ht, hM, eW, hW, rfl⟩ J K hJ hK
    have EW := Aside0.mk eW
    have HW := Aside0.mk hW
    have HM := Aside0.mk hM
    have hgW : g < W.heap.size := blk_lt eW
    have hM1 : 1 ≤ M := by rw [← hM]; exact Nat.one_le_two_pow
    have hl := bk_len t
    rw [hM] at hl
    clear eW hW
    by_cases htr : t < r
    · have h2M : 2 * M ≤ N := by
        rw [← hM, ← HN.out]
        calc 2 * 2 ^ t = 2 ^ (t + 1) := by rw [Nat.pow_succ]; omega
          _ ≤ 2 ^ r := Nat.pow_le_pow_right (by omega) htr
      have HL := Aside0.mk hl
      clear hM hl
      have fin : ∀ (T : Array Value) (W' : World), T = List.toArray ((.int .i64 (r : Int) : Value) :: T.getD 1 undef :: (.slice none 0 0 : Value) :: (.slice (some ⟨g, 0, none⟩) N N : Value) :: (.int .i64 (((2 * M : Nat)) : Int) : Value) :: T.getD 5 undef :: T.getD 6 undef :: T.getD 7 undef :: T.getD 8 undef :: T.getD 9 undef :: T.getD 10 undef :: T.getD 11 undef :: T.getD 12 undef :: T.getD 13 undef :: T.getD 14 undef :: T.getD 15 undef :: T.getD 16 undef :: T.getD 17 undef :: T.getD 18 undef :: T.getD 19 undef :: T.getD 20 undef :: T.getD 21 undef :: T.getD 22 undef :: T.getD 23 undef :: T.getD 24 undef :: T.getD 25 undef :: T.getD 26 undef :: T.getD 27 undef :: T.getD 28 undef :: T.getD 29 undef :: T.getD 30 undef :: T.getD 31 undef :: T.getD 32 undef :: T.getD 33 undef :: T.getD 34 undef :: T.getD 35 undef :: T.getD 36 undef :: T.getD 37 undef :: T.getD 38 undef :: T.getD 39 undef :: T.getD 40 undef :: T.getD 41 undef :: T.getD 42 undef :: T.getD 43 undef :: T.getD 44 undef :: T.getD 45 undef :: []) → W'.heap[g]? = some (.cells (nums .i64 (bk (t + 1) ++ List.replicate (N - 2 * M) 0)).toArray 3 (0, 0)) → Below w.heap.size w W' → Handed J (r - t) { tmps := T, defers := [] } W' := fun T W' hT h1 h2 =>
        ⟨r - (t + 1), by omega, hJ _ _ _ ⟨t + 1, 2 * M, fun i => T.getD i undef, rfl, by omega, by rw [Nat.pow_succ, HM.out]; omega, h1, h2, congrArg (fun T => (Act.mk T _)) hT⟩⟩
      have hmkM := HMK.out M (by omega)
      obtain ⟨g2, hg2⟩ : ∃ g2, W.heap.size = g2 := ⟨_, rfl⟩
      have eA := blk_new W (.cells (nums .i64 (List.replicate M 0)).toArray 3)
      have eB := blk_alloc EW.out (.cells (nums .i64 (List.replicate M 0)).toArray 3)
      have hBA := below_alloc HW.out (.cells (nums .i64 (List.replicate M 0)).toArray 3)
      rw [hg2] at eA hgW
      have hcp := run_copy_row (P := Try.prog) (W.alloc (.cells (nums .i64 (List.replicate M 0)).toArray 3)) 32 32 3 3 g2 0 M M ⟨g, 0, none⟩ N N (nums .i64 (List.replicate M 0)).toArray 3 (nums .i64 (bk t)) Try.underlying32 (by rw [hi, Option.map_some, hz1]) eA
        (show _ = min N M by rw [Nat.min_eq_right (by omega)]; simp [nums, HL.out])
        (fun j v hv => by
          have hj : j < (bk t).length := by have := (List.getElem?_eq_some_iff.1 hv).1; simpa [nums] using this
          rw [add_plain, (read_row eB j (by rw [List.length_append]; omega)).1, List.getElem_append_left hj, ← hv]
          simp [nums, List.getElem?_eq_getElem hj])
        (by simp [nums, HL.out]) (nums_one _ _)
      have hcs : ((nums .i64 (List.replicate M 0)).toArray.toList.take 0 ++ nums .i64 (bk t) ++ (nums .i64 (List.replicate M 0)).toArray.toList.drop (0 + (nums .i64 (bk t)).length)) = nums .i64 (bk t) := by
        rw [List.take_zero, List.nil_append, List.drop_eq_nil_of_le (by simp [nums, HL.out]), List.append_nil]
      rw [hcs, show goInt (nums .i64 (bk t)).length = .int .i64 (M : Int) by simp [nums, HL.out, goInt]] at hcp
      have eA2 := setRow_heap (W.alloc (.cells (nums .i64 (List.replicate M 0)).toArray 3)) g2 _ (nums .i64 (bk t)).toArray 3 _ eA
      have eB2 := (setRow_other (W.alloc (.cells (nums .i64 (List.replicate M 0)).toArray 3)) g2 g (nums .i64 (bk t)).toArray (by omega)).trans eB
      have hgw : w.heap.size ≤ g2 := by rw [← hg2]; exact HW.out.size
      have hB2 := below_setRow hBA hgw (nums .i64 (bk t)).toArray
      obtain ⟨W2, hW2⟩ : ∃ W2, (W.alloc (.cells (nums .i64 (List.replicate M 0)).toArray 3)).setRow g2 (nums .i64 (bk t)).toArray = W2 := ⟨_, rfl⟩
      rw [hW2] at hcp eA2 eB2 hB2
      have EA := Aside0.mk eA2
      have EB2 := Aside0.mk eB2
      have HB2 := Aside0.mk hB2
      clear hW2 hcs eA2 eB2 hB2 eA eB hBA
      have hbl : 2 * (bk t).length ≤ (bk t ++ List.replicate (N - M) 0).length := by rw [List.length_append, List.length_replicate, HL.out]; omega
      have hNl : (bk t ++ List.replicate (N - M) 0).length = N := by rw [List.length_append, List.length_replicate, HL.out]; omega
      have hlM : M ≤ (bk t).length := by rw [HL.out]; exact Nat.le_refl _
      go_wp2_with fail
      refine wp_loop_ghost_k (fun m a W' => ∃ (i : Nat) (y : Nat → Value), m = M - i ∧ i ≤ M ∧ W'.heap[g]? = some (.cells (nums .i64 (mid ((2 * M : Nat) : Int) (bk t) (bk t ++ List.replicate (N - M) 0) i)).toArray 3 (0, 0)) ∧ W'.heap[g2]? = some (.cells (nums .i64 (bk t)).toArray 3 (0, 0)) ∧ Below w.heap.size w W' ∧ a = { tmps := List.toArray ((.int .i64 (r : Int) : Value) :: y 1 :: (.slice none 0 0 : Value) :: (.slice (some ⟨g, 0, none⟩) N N : Value) :: (.int .i64 (M : Int) : Value) :: y 5 :: y 6 :: y 7 :: y 8 :: y 9 :: y 10 :: y 11 :: y 12 :: y 13 :: y 14 :: y 15 :: y 16 :: y 17 :: y 18 :: y 19 :: y 20 :: y 21 :: (.slice (some ⟨g2, 0, none⟩) M M : Value) :: (.int .i64 (M : Int) : Value) :: (.int .i64 (i : Int) : Value) :: y 25 :: y 26 :: y 27 :: y 28 :: y 29 :: y 30 :: y 31 :: y 32 :: y 33 :: y 34 :: y 35 :: y 36 :: y 37 :: y 38 :: y 39 :: y 40 :: y 41 :: y 42 :: y 43 :: y 44 :: y 45 :: []), defers := [] }) M ?start2 ?round2
      case start2 =>
        have st : ∀ T : Array Value, T = List.toArray ((.int .i64 (r : Int) : Value) :: T.getD 1 undef :: (.slice none 0 0 : Value) :: (.slice (some ⟨g, 0, none⟩) N N : Value) :: (.int .i64 (M : Int) : Value) :: T.getD 5 undef :: T.getD 6 undef :: T.getD 7 undef :: T.getD 8 undef :: T.getD 9 undef :: T.getD 10 undef :: T.getD 11 undef :: T.getD 12 undef :: T.getD 13 undef :: T.getD 14 undef :: T.getD 15 undef :: T.getD 16 undef :: T.getD 17 undef :: T.getD 18 undef :: T.getD 19 undef :: T.getD 20 undef :: T.getD 21 undef :: (.slice (some ⟨g2, 0, none⟩) M M : Value) :: (.int .i64 (M : Int) : Value) :: (.int .i64 0 : Value) :: T.getD 25 undef :: T.getD 26 undef :: T.getD 27 undef :: T.getD 28 undef :: T.getD 29 undef :: T.getD 30 undef :: T.getD 31 undef :: T.getD 32 undef :: T.getD 33 undef :: T.getD 34 undef :: T.getD 35 undef :: T.getD 36 undef :: T.getD 37 undef :: T.getD 38 undef :: T.getD 39 undef :: T.getD 40 undef :: T.getD 41 undef :: T.getD 42 undef :: T.getD 43 undef :: T.getD 44 undef :: T.getD 45 undef :: []) → ∃ (i : Nat) (y : Nat → Value), M = M - i ∧ i ≤ M ∧ W2.heap[g]? = some (.cells (nums .i64 (mid ((2 * M : Nat) : Int) (bk t) (bk t ++ List.replicate (N - M) 0) i)).toArray 3 (0, 0)) ∧ W2.heap[g2]? = some (.cells (nums .i64 (bk t)).toArray 3 (0, 0)) ∧ Below w.heap.size w W2 ∧ (Act.mk T []) = { tmps := List.toArray ((.int .i64 (r : Int) : Value) :: y 1 :: (.slice none 0 0 : Value) :: (.slice (some ⟨g, 0, none⟩) N N : Value) :: (.int .i64 (M : Int) : Value) :: y 5 :: y 6 :: y 7 :: y 8 :: y 9 :: y 10 :: y 11 :: y 12 :: y 13 :: y 14 :: y 15 :: y 16 :: y 17 :: y 18 :: y 19 :: y 20 :: y 21 :: (.slice (some ⟨g2, 0, none⟩) M M : Value) :: (.int .i64 (M : Int) : Value) :: (.int .i64 (i : Int) : Value) :: y 25 :: y 26 :: y 27 :: y 28 :: y 29 :: y 30 :: y 31 :: y 32 :: y 33 :: y 34 :: y 35 :: y 36 :: y 37 :: y 38 :: y 39 :: y 40 :: y 41 :: y 42 :: y 43 :: y 44 :: y 45 :: []), defers := [] } := fun T hT =>
          ⟨0, fun i => T.getD i undef, rfl, Nat.zero_le _, EB2.out, EA.out, HB2.out, congrArg (fun T => (Act.mk T _)) hT⟩
        exact st _ rfl
      case round2 =>
        rintro m a W' ⟨i, y, rfl, hi', e1, e2, hb, rfl⟩ J2 K2 hJ2 hK2
        have E1 := Aside0.mk e1
        have E2 := Aside0.mk e2
        have HBB := Aside0.mk hb
        have hml := mid_len (s := ((2 * M : Nat) : Int)) (show i ≤ (bk t).length by omega) hbl
        clear e2 hb hcp EA EB2 HB2
        by_cases him : i < M
        · have hil : i < (bk t).length := by omega
          have fin2 : ∀ (T : Array Value) (W3 : World), T = List.toArray ((.int .i64 (r : Int) : Value) :: T.getD 1 undef :: (.slice none 0 0 : Value) :: (.slice (some ⟨g, 0, none⟩) N N : Value) :: (.int .i64 (M : Int) : Value) :: T.getD 5 undef :: T.getD 6 undef :: T.getD 7 undef :: T.getD 8 undef :: T.getD 9 undef :: T.getD 10 undef :: T.getD 11 undef :: T.getD 12 undef :: T.getD 13 undef :: T.getD 14 undef :: T.getD 15 undef :: T.getD 16 undef :: T.getD 17 undef :: T.getD 18 undef :: T.getD 19 undef :: T.getD 20 undef :: T.getD 21 undef :: (.slice (some ⟨g2, 0, none⟩) M M : Value) :: (.int .i64 (M : Int) : Value) :: (.int .i64 ((i : Int) + 1) : Value) :: T.getD 25 undef :: T.getD 26 undef :: T.getD 27 undef :: T.getD 28 undef :: T.getD 29 undef :: T.getD 30 undef :: T.getD 31 undef :: T.getD 32 undef :: T.getD 33 undef :: T.getD 34 undef :: T.getD 35 undef :: T.getD 36 undef :: T.getD 37 undef :: T.getD 38 undef :: T.getD 39 undef :: T.getD 40 undef :: T.getD 41 undef :: T.getD 42 undef :: T.getD 43 undef :: T.getD 44 undef :: T.getD 45 undef :: []) → W3.heap[g]? = some (.cells (nums .i64 (mid ((2 * M : Nat) : Int) (bk t) (bk t ++ List.replicate (N - M) 0) (i + 1))).toArray 3 (0, 0)) → W3.heap[g2]? = some (.cells (nums .i64 (bk t)).toArray 3 (0, 0)) → Below w.heap.size w W3 → Handed J2 (M - i) { tmps := T, defers := [] } W3 := fun T W3 hT h1 h2 h3 =>
            ⟨M - (i + 1), by omega, hJ2 _ _ _ ⟨i + 1, fun i => T.getD i undef, rfl, by omega, h1, h2, h3, congrArg (fun T => (Act.mk T _)) hT⟩⟩
          obtain ⟨x, hx⟩ : ∃ x, (bk t)[i] = x := ⟨_, rfl⟩
          have hxb : 0 ≤ x ∧ x < (M : Int) := by rw [← hx, ← HM.out]; exact bk_mem t _ (List.getElem_mem hil)
          obtain ⟨c1, _⟩ := read_row E2.out i hil
          rw [hx] at c1
          obtain ⟨c2, f2⟩ := read_row e1 (2 * i) (by omega)
          have e3 := store_row e1 (2 * i) x
          obtain ⟨c3, f3⟩ := read_row e3 (2 * i + 1) (by rw [List.length_set]; omega)
          have e4 := store_row e3 (2 * i + 1) (((2 * M : Nat) : Int) - 1 - x)
          rw [← hx, mid_next hil hbl, hx] at e4
          have b4 := below_set (j := 2 * i + 1) (v := .int .i64 (((2 * M : Nat) : Int) - 1 - x)) (below_set (j := 2 * i) (v := .int .i64 x) HBB.out (by omega : w.heap.size ≤ g)) (by omega : w.heap.size ≤ g)
          have hne : g2 ≠ g := by omega
          have e5 : ((W'.setCell ⟨g, 2 * i, none⟩ (.int .i64 x)).setCell ⟨g, 2 * i + 1, none⟩ (.int .i64 (((2 * M : Nat) : Int) - 1 - x))).heap[g2]? = some (.cells (nums .i64 (bk t)).toArray 3 (0, 0)) := by
            rw [Below.heap_setCell _ _ _ _ hne, Below.heap_setCell _ _ _ _ hne]; exact E2.out
          have hv : 2 * (M : Int) - 1 - x = ((2 * M : Nat) : Int) - 1 - x := by omega
          have E4 := Aside0.mk e4
          have E5 := Aside0.mk e5
          have B4 := Aside0.mk b4
          have HX := Aside0.mk hx
          have w1' := w64 (x := 2 * (i : Int)) (by omega) (by omega)
          have w2' := w64 (x := 2 * (i : Int) + 1) (by omega) (by omega)
          have w3' := w64 (x := 2 * (M : Int)) (by omega) (by omega)
          have w4' := w64 (x := 2 * (M : Int) - 1) (by omega) (by omega)
          have w5' := w64 (x := 2 * (M : Int) - 1 - x) (by omega) (by omega)
          clear e1 e3 e4 e5 b4 hx
          go_wp2_with fail
          exact fin2 _ _ rfl E4.out E5.out B4.out
        · obtain rfl : i = M := by omega
          have e3 := E1.out
          rw [mid_all i HM.out HL.out] at e3
          have E3 := Aside0.mk e3
          have w1' := w64 (x := (i : Int) * 2) (by omega) (by omega)
          have w2' : (i : Int) * 2 = ((2 * i : Nat) : Int) := by omega
          clear e1 e3 hml
          go_wp2_with fail
          exact fin _ _ rfl E3.out HBB.out
    · obtain rfl : t = r := by omega
      obtain rfl : M = N := by rw [← hM]; exact HN.out
      go_wp2_with fail
      have e1 := EW.out
      rw [Nat.sub_self, List.replicate_zero, List.append_nil] at e1
      exact bodyPost_ret (v := .slice (some ⟨g, 0, none⟩) M M) (by simp [results, Try.results25, go_sem]) rfl ⟨g, rfl, e1, by omega, HW.out⟩
end CB
end Go.Proofs.Ytaadhandkljcdaa.X
