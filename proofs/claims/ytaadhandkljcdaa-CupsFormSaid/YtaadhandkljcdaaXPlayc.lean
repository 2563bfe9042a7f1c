/- Proved here: what Play returns for a permitted number of entrants (CS) -/
import Derived.Test.YtaadhandkljcdaaX0
import Derived.Test.YtaadhandkljcdaaXPlay
import Derived.Test.YtaadhandkljcdaaXPlayb
namespace Go.Proofs.Ytaadhandkljcdaa.X
open Go.RowKit Go.Proofs.YtaadhandkljcdaaW.PrintWords Go.Proofs.YtaadhandkljcdaaW.PrintLast Go.Proofs.YtaadhandkljcdaaW.PrintMore
attribute [local go_sem] max2_int min2_int max_two min_two max_three min_three max_four min_four
set_option linter.unusedVariables false
set_option linter.unusedSimpArgs false
namespace CS
open Go.Proofs.Ytaadhandkljcdaa.K Go.Proofs.Ytaadhandkljcdaa.MP CM CQ
attribute [local go_sem] Oper.semAt_some
/-- Who is not eliminated, of the first i. -/
def aliveTo (p : PS) (i : Nat) : List Int := ((List.range i).filter fun (x : Nat) => !((CQ.look p.out (x : Int)).getD false)).map fun (x : Nat) => (x : Int)
/-- Which ties can be played, of the first i. -/
def nextTo (ts : List S42) (p : PS) (i : Nat) : List Int := ((List.range i).filter fun (j : Nat) => (CP.openS (CQ.look p.win) (ts.getD j z42) (j : Int)).2.2).map fun (j : Nat) => (j : Int)
theorem alive_in {p : PS} {i : Nat} (h : (CQ.look p.out (i : Int)).getD false = true) : aliveTo p (i + 1) = aliveTo p i := by
  unfold aliveTo
  rw [List.range_succ, List.filter_append, List.map_append]
  simp [h]
theorem alive_more {p : PS} {i : Nat} (h : (CQ.look p.out (i : Int)).getD false = false) : aliveTo p (i + 1) = aliveTo p i ++ [(i : Int)] := by
  unfold aliveTo
  rw [List.range_succ, List.filter_append, List.map_append]
  simp [h]
theorem alive_len (p : PS) (i : Nat) : (aliveTo p i).length ≤ i := by
  unfold aliveTo
  rw [List.length_map]
  exact Nat.le_trans (List.length_filter_le _ _) (by simp)
theorem next_not {ts : List S42} {p : PS} {i : Nat} (h : (CP.openS (CQ.look p.win) (ts.getD i z42) (i : Int)).2.2 = false) : nextTo ts p (i + 1) = nextTo ts p i := by
  unfold nextTo
  rw [List.range_succ, List.filter_append, List.map_append, List.filter_cons, h]
  simp
theorem next_more {ts : List S42} {p : PS} {i : Nat} (h : (CP.openS (CQ.look p.win) (ts.getD i z42) (i : Int)).2.2 = true) : nextTo ts p (i + 1) = nextTo ts p i ++ [(i : Int)] := by
  unfold nextTo
  rw [List.range_succ, List.filter_append, List.map_append, List.filter_cons, h]
  simp
theorem next_len (ts : List S42) (p : PS) (i : Nat) : (nextTo ts p i).length ≤ i := by
  unfold nextTo
  rw [List.length_map]
  exact Nat.le_trans (List.length_filter_le _ _) (by simp)
theorem ties_len {n : Nat} (h2 : 2 ≤ n) (h64 : n ≤ 64) : (CK.ties n).length = n - 1 := by
  have h : ∀ n : Nat, n < 65 → 2 ≤ n → (CK.ties n).length = n - 1 := by decide +kernel
  exact h n (by omega) h2
theorem bools_getD (f : Int → Option Bool) (k : Int) : (CQ.bools f k).getD (.bool false) = .bool ((f k).getD false) := by unfold CQ.bools; cases f k <;> rfl
theorem Qt.row {n : Nat} {w W W' : World} {At : Option Addr} {ct bw : Nat} {p : PS} (h : Qt n w W At ct bw p) {b m : Nat} {V : Value} {xs : List Value} (ho : W.ownsRow b 3 1 V m xs) (hb : w.heap.size ≤ b) (hg : W.grownBy W' V.ownBlock) : Qt n w W' At ct bw p :=
  ⟨blk_grown h.ec hg (own_ne ho h.ec (by decide)), blk_grown h.ee hg (own_ne ho h.ee (by decide)), blk_grown h.eg hg (own_ne ho h.eg (by decide)),
    h.mw.of_block (hg.block _ h.mw.lt (fun e => not_map ho h.mw e.symm)), h.mg.of_block (hg.block _ h.mg.lt (fun e => not_map ho h.mg e.symm)), h.mo.of_block (hg.block _ h.mo.lt (fun e => not_map ho h.mo e.symm)),
    own_other h.ot hg (own_type_ne h.ot ho (by decide)), h.hb.grown hg h.hb.size (fun k hk => Nat.le_trans hb (own_base ho k hk)), h.lo⟩
theorem own_below {W W' : World} {b e s m : Nat} {V : Value} {xs : List Value} (ho : W.ownsRow b e s V m xs) (hb : Below W.heap.size W W') : W'.ownsRow b e s V m xs := own_move ho (fun k hk => hb.block k (own_lt ho k hk))
set_option maxRecDepth 100000 in
set_option maxHeartbeats 16000000 in
theorem play_lists (n : Nat) (h2 : 2 ≤ n) (h64 : n ≤ 64) (A1 : Option Addr) (c1 : Nat) (l1 : List S45) (w : World) (hr1 : Kd.C k45 w A1 l1.length l1) (hc1 : l1.length ≤ c1) :
    Calls Try.prog 16 #[.int .i64 (n : Int), .slice A1 l1.length c1] w fun e w' =>
      (∃ p V4 V5, playS (CK.ties n) l1 ⟨[], [], []⟩ = some p ∧ e = .returned (.tuple #[V4, V5, .int .i64 0]) ∧ w'.ownsRow w.heap.size 3 1 V4 (aliveTo p n).length (nums .i64 (aliveTo p n)) ∧
        w'.ownsRow w.heap.size 3 1 V5 (nextTo (CK.ties n) p (n - 1)).length (nums .i64 (nextTo (CK.ties n) p (n - 1))) ∧ (∀ k, V4.ownBlock = some k → V5.ownBlock ≠ some k) ∧ Below w.heap.size w w') ∨
      (playS (CK.ties n) l1 ⟨[], [], []⟩ = none ∧ e = .returned (.tuple #[.slice none 0 0, .slice none 0 0, .int .i64 230]) ∧ Below w.heap.size w w') := by
  obtain ⟨L, hL⟩ : ∃ L, (CK.ties n).length = L := ⟨_, rfl⟩
  have hLn := ties_len h2 h64
  rw [hL] at hLn
  rw [← hLn]
  have hL63 : L ≤ 63 := by omega
  have HTL := Aside0.mk hL
  clear hL hLn
  go_enter Try.func16, Try.ntmps16
  go_wp2_with fail
  refine (play_good n h2 h64 A1 c1 l1 w hr1 hc1).mono ?_
  rintro e w1 (⟨p, At, ct, bw, hp, rfl, hq⟩ | ⟨hp, rfl, hq⟩)
  rotate_left
  · have HP := Aside0.mk hp
    have HQ := Aside0.mk hq
    clear hp hq hr1
    go_wp2_with fail
    exact bodyPost_ret (v := .tuple #[.slice none 0 0, .slice none 0 0, .int .i64 230]) (by simp [results, Try.results16, go_sem]) rfl (.inr ⟨HP.out, rfl, HQ.out⟩)
  have HP := Aside0.mk hp
  have HQ := Aside0.mk hq
  clear hp hq hr1
  go_wp2_with fail
  refine wp_loop_ghost_k (fun m a W => ∃ (i : Nat) (V : Value) (u : Nat → Value), m = n - i ∧ i ≤ n ∧ Qt n w W At ct bw p ∧ W.ownsRow w.heap.size 3 1 V (aliveTo p i).length (nums .i64 (aliveTo p i)) ∧ a = { tmps := List.toArray (u 0 :: u 1 :: u 2 :: u 3 :: (V : Value) :: (.slice none 0 0 : Value) :: u 6 :: (.pointer (some ⟨bw + 1 + 1 + 1, 0, none⟩) : Value) :: u 8 :: u 9 :: u 10 :: u 11 :: u 12 :: u 13 :: u 14 :: u 15 :: u 16 :: u 17 :: u 18 :: u 19 :: u 20 :: u 21 :: (.int .i64 (n : Int) : Value) :: (.int .i64 (i : Int) : Value) :: u 24 :: u 25 :: u 26 :: u 27 :: u 28 :: u 29 :: u 30 :: u 31 :: u 32 :: u 33 :: u 34 :: u 35 :: u 36 :: u 37 :: u 38 :: u 39 :: u 40 :: u 41 :: u 42 :: u 43 :: u 44 :: u 45 :: u 46 :: u 47 :: u 48 :: u 49 :: u 50 :: u 51 :: u 52 :: u 53 :: u 54 :: u 55 :: u 56 :: u 57 :: u 58 :: u 59 :: u 60 :: []), defers := [] }) n ?start ?round
  case start =>
    have st : ∀ T : Array Value, T = List.toArray (T.getD 0 undef :: T.getD 1 undef :: T.getD 2 undef :: T.getD 3 undef :: (.slice none 0 0 : Value) :: (.slice none 0 0 : Value) :: T.getD 6 undef :: (.pointer (some ⟨bw + 1 + 1 + 1, 0, none⟩) : Value) :: T.getD 8 undef :: T.getD 9 undef :: T.getD 10 undef :: T.getD 11 undef :: T.getD 12 undef :: T.getD 13 undef :: T.getD 14 undef :: T.getD 15 undef :: T.getD 16 undef :: T.getD 17 undef :: T.getD 18 undef :: T.getD 19 undef :: T.getD 20 undef :: T.getD 21 undef :: (.int .i64 (n : Int) : Value) :: (.int .i64 0 : Value) :: T.getD 24 undef :: T.getD 25 undef :: T.getD 26 undef :: T.getD 27 undef :: T.getD 28 undef :: T.getD 29 undef :: T.getD 30 undef :: T.getD 31 undef :: T.getD 32 undef :: T.getD 33 undef :: T.getD 34 undef :: T.getD 35 undef :: T.getD 36 undef :: T.getD 37 undef :: T.getD 38 undef :: T.getD 39 undef :: T.getD 40 undef :: T.getD 41 undef :: T.getD 42 undef :: T.getD 43 undef :: T.getD 44 undef :: T.getD 45 undef :: T.getD 46 undef :: T.getD 47 undef :: T.getD 48 undef :: T.getD 49 undef :: T.getD 50 undef :: T.getD 51 undef :: T.getD 52 undef :: T.getD 53 undef :: T.getD 54 undef :: T.getD 55 undef :: T.getD 56 undef :: T.getD 57 undef :: T.getD 58 undef :: T.getD 59 undef :: T.getD 60 undef :: []) → ∃ (i : Nat) (V : Value) (u : Nat → Value), n = n - i ∧ i ≤ n ∧ Qt n w w1 At ct bw p ∧ w1.ownsRow w.heap.size 3 1 V (aliveTo p i).length (nums .i64 (aliveTo p i)) ∧ (Act.mk T []) = { tmps := List.toArray (u 0 :: u 1 :: u 2 :: u 3 :: (V : Value) :: (.slice none 0 0 : Value) :: u 6 :: (.pointer (some ⟨bw + 1 + 1 + 1, 0, none⟩) : Value) :: u 8 :: u 9 :: u 10 :: u 11 :: u 12 :: u 13 :: u 14 :: u 15 :: u 16 :: u 17 :: u 18 :: u 19 :: u 20 :: u 21 :: (.int .i64 (n : Int) : Value) :: (.int .i64 (i : Int) : Value) :: u 24 :: u 25 :: u 26 :: u 27 :: u 28 :: u 29 :: u 30 :: u 31 :: u 32 :: u 33 :: u 34 :: u 35 :: u 36 :: u 37 :: u 38 :: u 39 :: u 40 :: u 41 :: u 42 :: u 43 :: u 44 :: u 45 :: u 46 :: u 47 :: u 48 :: u 49 :: u 50 :: u 51 :: u 52 :: u 53 :: u 54 :: u 55 :: u 56 :: u 57 :: u 58 :: u 59 :: u 60 :: []), defers := [] } := fun T hT =>
      ⟨0, _, fun i => T.getD i undef, rfl, Nat.zero_le _, HQ.out, own_nil _ _ _ _, congrArg (fun T => (Act.mk T _)) hT⟩
    exact st _ rfl
  case round =>
    rintro m a W ⟨i, V, u, rfl, hi, hQ, hO, rfl⟩ J K hJ hK
    obtain ⟨AV, cV, rfl⟩ := own_slice hO
    have HQ1 := Aside0.mk hQ
    have HO1 := Aside0.mk hO
    clear HQ
    by_cases hin : i < n
    · have fin : ∀ (T : Array Value) (V : Value) (W' : World), T = List.toArray (T.getD 0 undef :: T.getD 1 undef :: T.getD 2 undef :: T.getD 3 undef :: (V : Value) :: (.slice none 0 0 : Value) :: T.getD 6 undef :: (.pointer (some ⟨bw + 1 + 1 + 1, 0, none⟩) : Value) :: T.getD 8 undef :: T.getD 9 undef :: T.getD 10 undef :: T.getD 11 undef :: T.getD 12 undef :: T.getD 13 undef :: T.getD 14 undef :: T.getD 15 undef :: T.getD 16 undef :: T.getD 17 undef :: T.getD 18 undef :: T.getD 19 undef :: T.getD 20 undef :: T.getD 21 undef :: (.int .i64 (n : Int) : Value) :: (.int .i64 ((i : Int) + 1) : Value) :: T.getD 24 undef :: T.getD 25 undef :: T.getD 26 undef :: T.getD 27 undef :: T.getD 28 undef :: T.getD 29 undef :: T.getD 30 undef :: T.getD 31 undef :: T.getD 32 undef :: T.getD 33 undef :: T.getD 34 undef :: T.getD 35 undef :: T.getD 36 undef :: T.getD 37 undef :: T.getD 38 undef :: T.getD 39 undef :: T.getD 40 undef :: T.getD 41 undef :: T.getD 42 undef :: T.getD 43 undef :: T.getD 44 undef :: T.getD 45 undef :: T.getD 46 undef :: T.getD 47 undef :: T.getD 48 undef :: T.getD 49 undef :: T.getD 50 undef :: T.getD 51 undef :: T.getD 52 undef :: T.getD 53 undef :: T.getD 54 undef :: T.getD 55 undef :: T.getD 56 undef :: T.getD 57 undef :: T.getD 58 undef :: T.getD 59 undef :: T.getD 60 undef :: []) → Qt n w W' At ct bw p → W'.ownsRow w.heap.size 3 1 V (aliveTo p (i + 1)).length (nums .i64 (aliveTo p (i + 1))) → Handed J (n - i) { tmps := T, defers := [] } W' := fun T V W' hT h1 h2 =>
        ⟨n - (i + 1), by omega, hJ _ _ _ ⟨i + 1, V, fun i => T.getD i undef, rfl, by omega, h1, h2, congrArg (fun T => (Act.mk T _)) hT⟩⟩
      have qo := blk_cell hQ.eg 3
      simp only [List.getElem?_toArray, List.getElem?_cons_zero, List.getElem?_cons_succ] at qo
      have hsz : w.heap.size ≤ W.heap.size := hQ.hb.size
      obtain ⟨b, hb⟩ : ∃ b, (CQ.look p.out (i : Int)).getD false = b := ⟨_, rfl⟩
      have hlk : ∀ k, (Instr.lookup 57 (.map (some (bw + 1 + 1))) (.int .i64 (i : Int)) false).run Try.prog (W.drewN k) = .ok (.bool b) (W.drewN k) := fun k => by
        have h := MapAt.look (P := Try.prog) (t := 57) Try.underlying57 Try.underlying3 (MapAt.of_block (W' := W.drewN k) hQ.mo rfl) (zero4 _) (i : Int) false
        rw [h, bools_getD, hb]
        rfl
      have hlk0 : (Instr.lookup 57 (.map (some (bw + 1 + 1))) (.int .i64 (i : Int)) false).run Try.prog W = .ok (.bool b) W := by
        have h := MapAt.look (P := Try.prog) (t := 57) Try.underlying57 Try.underlying3 hQ.mo (zero4 _) (i : Int) false
        rw [h, bools_getD, hb]
        rfl
      have hal := alive_len p i
      have HAL := Aside0.mk hal
      have HBB := Aside0.mk hb
      clear hQ hO hb hal
      cases b
      · go_wp2_with (first | (at_builtin; refine print_append_num w.heap.size rfl (.tmp 33) (.tmp 35) 32 3 .i64 8 rfl Try.underlying32 info3 (by decide) _ (aliveTo p i) (i : Int) rfl rfl HO1.out (Below.refl _ W) hsz (by have := HAL.out; omega) ?_
                              intro v1 w4 ho4 _ hg4 _
                              have hq4 := Qt.row HQ1.out HO1.out (Nat.le_refl _) hg4
                              have HQ4 := Aside0.mk hq4
                              have HO4 := Aside0.mk ho4
                              clear ho4 hg4 hq4))
        exact fin _ _ _ rfl HQ4.out (by rw [alive_more HBB.out]; exact HO4.out)
      · go_wp2_with fail
        exact fin _ _ _ rfl HQ1.out (by rw [alive_in HBB.out]; exact HO1.out)
    · obtain rfl : n = i := by omega
      clear hJ hK
      have q0 := blk_cell hQ.eg 0
      simp only [List.getElem?_toArray, List.getElem?_cons_zero, List.getElem?_cons_succ] at q0
      have hsz : w.heap.size ≤ W.heap.size := hQ.hb.size
      have hv4 := fun k hk => own_lt hO k hk
      have HV4 := Aside0.mk hv4
      have htl := HTL.out
      rw [htl] at q0
      clear hQ hO hv4 htl
      go_wp2_with fail
      obtain ⟨B, hB⟩ : ∃ B, W.heap.size = B := ⟨_, rfl⟩
      rw [hB] at hsz HV4
      have HBS := Aside0.mk hB
      clear hB q0
      refine wp_loop_ghost_k (fun m a W' => ∃ (j : Nat) (V : Value) (u : Nat → Value), m = L - j ∧ j ≤ L ∧ Qt n w W' At ct bw p ∧ W'.ownsRow w.heap.size 3 1 (.slice AV (aliveTo p n).length cV) (aliveTo p n).length (nums .i64 (aliveTo p n)) ∧ W'.ownsRow B 3 1 V (nextTo (CK.ties n) p j).length (nums .i64 (nextTo (CK.ties n) p j)) ∧ B ≤ W'.heap.size ∧ a = { tmps := List.toArray (u 0 :: u 1 :: u 2 :: u 3 :: (.slice AV (aliveTo p n).length cV : Value) :: (V : Value) :: u 6 :: (.pointer (some ⟨bw + 1 + 1 + 1, 0, none⟩) : Value) :: u 8 :: u 9 :: u 10 :: u 11 :: u 12 :: u 13 :: u 14 :: u 15 :: u 16 :: u 17 :: u 18 :: u 19 :: u 20 :: u 21 :: u 22 :: u 23 :: u 24 :: u 25 :: u 26 :: u 27 :: u 28 :: u 29 :: u 30 :: u 31 :: u 32 :: u 33 :: u 34 :: u 35 :: u 36 :: u 37 :: u 38 :: u 39 :: u 40 :: u 41 :: (.int .i64 (L : Int) : Value) :: (.int .i64 (j : Int) : Value) :: u 44 :: u 45 :: u 46 :: u 47 :: u 48 :: u 49 :: u 50 :: u 51 :: u 52 :: u 53 :: u 54 :: u 55 :: u 56 :: u 57 :: u 58 :: u 59 :: u 60 :: []), defers := [] }) L ?start2 ?round2
      case start2 =>
        have st : ∀ T : Array Value, T = List.toArray (T.getD 0 undef :: T.getD 1 undef :: T.getD 2 undef :: T.getD 3 undef :: (.slice AV (aliveTo p n).length cV : Value) :: (.slice none 0 0 : Value) :: T.getD 6 undef :: (.pointer (some ⟨bw + 1 + 1 + 1, 0, none⟩) : Value) :: T.getD 8 undef :: T.getD 9 undef :: T.getD 10 undef :: T.getD 11 undef :: T.getD 12 undef :: T.getD 13 undef :: T.getD 14 undef :: T.getD 15 undef :: T.getD 16 undef :: T.getD 17 undef :: T.getD 18 undef :: T.getD 19 undef :: T.getD 20 undef :: T.getD 21 undef :: T.getD 22 undef :: T.getD 23 undef :: T.getD 24 undef :: T.getD 25 undef :: T.getD 26 undef :: T.getD 27 undef :: T.getD 28 undef :: T.getD 29 undef :: T.getD 30 undef :: T.getD 31 undef :: T.getD 32 undef :: T.getD 33 undef :: T.getD 34 undef :: T.getD 35 undef :: T.getD 36 undef :: T.getD 37 undef :: T.getD 38 undef :: T.getD 39 undef :: T.getD 40 undef :: T.getD 41 undef :: (.int .i64 (L : Int) : Value) :: (.int .i64 0 : Value) :: T.getD 44 undef :: T.getD 45 undef :: T.getD 46 undef :: T.getD 47 undef :: T.getD 48 undef :: T.getD 49 undef :: T.getD 50 undef :: T.getD 51 undef :: T.getD 52 undef :: T.getD 53 undef :: T.getD 54 undef :: T.getD 55 undef :: T.getD 56 undef :: T.getD 57 undef :: T.getD 58 undef :: T.getD 59 undef :: T.getD 60 undef :: []) → ∃ (j : Nat) (V : Value) (u : Nat → Value), L = L - j ∧ j ≤ L ∧ Qt n w W At ct bw p ∧ W.ownsRow w.heap.size 3 1 (.slice AV (aliveTo p n).length cV) (aliveTo p n).length (nums .i64 (aliveTo p n)) ∧ W.ownsRow B 3 1 V (nextTo (CK.ties n) p j).length (nums .i64 (nextTo (CK.ties n) p j)) ∧ B ≤ W.heap.size ∧ (Act.mk T []) = { tmps := List.toArray (u 0 :: u 1 :: u 2 :: u 3 :: (.slice AV (aliveTo p n).length cV : Value) :: (V : Value) :: u 6 :: (.pointer (some ⟨bw + 1 + 1 + 1, 0, none⟩) : Value) :: u 8 :: u 9 :: u 10 :: u 11 :: u 12 :: u 13 :: u 14 :: u 15 :: u 16 :: u 17 :: u 18 :: u 19 :: u 20 :: u 21 :: u 22 :: u 23 :: u 24 :: u 25 :: u 26 :: u 27 :: u 28 :: u 29 :: u 30 :: u 31 :: u 32 :: u 33 :: u 34 :: u 35 :: u 36 :: u 37 :: u 38 :: u 39 :: u 40 :: u 41 :: (.int .i64 (L : Int) : Value) :: (.int .i64 (j : Int) : Value) :: u 44 :: u 45 :: u 46 :: u 47 :: u 48 :: u 49 :: u 50 :: u 51 :: u 52 :: u 53 :: u 54 :: u 55 :: u 56 :: u 57 :: u 58 :: u 59 :: u 60 :: []), defers := [] } := fun T hT =>
          ⟨0, _, fun i => T.getD i undef, rfl, Nat.zero_le _, HQ1.out, HO1.out, own_nil _ _ _ _, Nat.le_of_eq HBS.out.symm, congrArg (fun T => (Act.mk T _)) hT⟩
        exact st _ rfl
      case round2 =>
        rintro m a W' ⟨j, V, u, rfl, hj, hQ, hA, hO, hB2, rfl⟩ J K hJ hK
        obtain ⟨A5, c5, rfl⟩ := own_slice hO
        have HQ2 := Aside0.mk hQ
        have HA2 := Aside0.mk hA
        have HO2 := Aside0.mk hO
        have HB2 := Aside0.mk hB2
        clear HQ1 HO1 hB2
        by_cases hjl : j < L
        · have fin : ∀ (T : Array Value) (V : Value) (W2 : World), T = List.toArray (T.getD 0 undef :: T.getD 1 undef :: T.getD 2 undef :: T.getD 3 undef :: (.slice AV (aliveTo p n).length cV : Value) :: (V : Value) :: T.getD 6 undef :: (.pointer (some ⟨bw + 1 + 1 + 1, 0, none⟩) : Value) :: T.getD 8 undef :: T.getD 9 undef :: T.getD 10 undef :: T.getD 11 undef :: T.getD 12 undef :: T.getD 13 undef :: T.getD 14 undef :: T.getD 15 undef :: T.getD 16 undef :: T.getD 17 undef :: T.getD 18 undef :: T.getD 19 undef :: T.getD 20 undef :: T.getD 21 undef :: T.getD 22 undef :: T.getD 23 undef :: T.getD 24 undef :: T.getD 25 undef :: T.getD 26 undef :: T.getD 27 undef :: T.getD 28 undef :: T.getD 29 undef :: T.getD 30 undef :: T.getD 31 undef :: T.getD 32 undef :: T.getD 33 undef :: T.getD 34 undef :: T.getD 35 undef :: T.getD 36 undef :: T.getD 37 undef :: T.getD 38 undef :: T.getD 39 undef :: T.getD 40 undef :: T.getD 41 undef :: (.int .i64 (L : Int) : Value) :: (.int .i64 ((j : Int) + 1) : Value) :: T.getD 44 undef :: T.getD 45 undef :: T.getD 46 undef :: T.getD 47 undef :: T.getD 48 undef :: T.getD 49 undef :: T.getD 50 undef :: T.getD 51 undef :: T.getD 52 undef :: T.getD 53 undef :: T.getD 54 undef :: T.getD 55 undef :: T.getD 56 undef :: T.getD 57 undef :: T.getD 58 undef :: T.getD 59 undef :: T.getD 60 undef :: []) → Qt n w W2 At ct bw p → W2.ownsRow w.heap.size 3 1 (.slice AV (aliveTo p n).length cV) (aliveTo p n).length (nums .i64 (aliveTo p n)) → W2.ownsRow B 3 1 V (nextTo (CK.ties n) p (j + 1)).length (nums .i64 (nextTo (CK.ties n) p (j + 1))) → B ≤ W2.heap.size → Handed J (L - j) { tmps := T, defers := [] } W2 := fun T V W2 hT h1 h2 h3 h4 =>
            ⟨L - (j + 1), by omega, hJ _ _ _ ⟨j + 1, V, fun i => T.getD i undef, rfl, by omega, h1, h2, h3, h4, congrArg (fun T => (Act.mk T _)) hT⟩⟩
          have hjt : j < (CK.ties n).length := by rw [HTL.out]; exact hjl
          have hopen := CP.open_calls (bw + 1 + 1 + 1) bw (bw + 1) (bw + 1 + 1) w.heap.size (.slice At (CK.ties n).length ct) (CQ.look p.win) (CK.ties n) j hjt W' hQ.eg hQ.mw hQ.ot
          have hgd : (CK.ties n).getD j z42 = (CK.ties n)[j] := by rw [List.getD_eq_getElem?_getD, List.getElem?_eq_getElem hjt]; rfl
          obtain ⟨⟨hm, aw, okb⟩, hop⟩ : ∃ q, CP.openS (CQ.look p.win) (CK.ties n)[j] (j : Int) = q := ⟨_, rfl⟩
          rw [hop] at hopen
          have hnx : (CP.openS (CQ.look p.win) ((CK.ties n).getD j z42) (j : Int)).2.2 = okb := by rw [hgd, hop]
          have hnl := next_len (CK.ties n) p j
          have HOPEN := Aside0.mk hopen
          have HNX := Aside0.mk hnx
          have HNL := Aside0.mk hnl
          clear hopen hnx hnl hgd hop hjt hQ hA hO
          go_wp2_with fail
          refine HOPEN.out.mono ?_
          rintro e w5 ⟨rfl, hb5⟩
          have hq5 := HQ2.out.below hb5
          have ha5 := own_below HA2.out hb5
          have ho5 := own_below HO2.out hb5
          have hsz5 : B ≤ w5.heap.size := by have h1 := hb5.size; have h2 := HB2.out; omega
          have HQ5 := Aside0.mk hq5
          have HA5 := Aside0.mk ha5
          have HO5 := Aside0.mk ho5
          clear hb5 hq5 ha5 ho5
          cases okb
          · go_wp2_with fail
            exact fin _ _ _ rfl HQ5.out HA5.out (by rw [next_not HNX.out]; exact HO5.out) hsz5
          · go_wp2_with (first | (at_builtin; refine print_append_num B rfl (.tmp 54) (.tmp 56) 32 3 .i64 8 rfl Try.underlying32 info3 (by decide) _ (nextTo (CK.ties n) p j) (j : Int) rfl rfl HO5.out (Below.refl _ w5) hsz5 (by have := HNL.out; omega) ?_
                                  intro v1 w6 ho6 _ hg6 _
                                  have hq6 := Qt.row HQ5.out HO5.out hsz hg6
                                  have ha6 := own_other HA5.out hg6 (by
                                    cases hov : (Value.slice AV (aliveTo p n).length cV).ownBlock with
                                    | none => exact .inl rfl
                                    | some k => exact .inr (fun e => by have h1 := HV4.out k hov; have h2 := own_base HO5.out k e.symm; omega))
                                  have HQ6 := Aside0.mk hq6
                                  have HA6 := Aside0.mk ha6
                                  have HO6 := Aside0.mk ho6
                                  have HS6 := Aside0.mk (Nat.le_trans hsz5 hg6.size)
                                  clear ho6 hg6 hq6 ha6))
            exact fin _ _ _ rfl HQ6.out HA6.out (by rw [next_more HNX.out]; exact HO6.out) HS6.out
        · obtain rfl : L = j := by omega
          clear hJ hK hQ hA hO
          go_wp2_with fail
          refine bodyPost_ret (v := .tuple #[.slice AV (aliveTo p n).length cV, .slice A5 (nextTo (CK.ties n) p L).length c5, .int .i64 0]) (by simp [results, Try.results16, go_sem]) rfl (.inl ⟨p, _, _, HP.out, rfl, HA2.out, own_weaken HO2.out hsz, fun k hk e => ?_, HQ2.out.hb⟩)
          have h1 := HV4.out k hk
          have h2 := own_base HO2.out k e
          omega
end CS
end Go.Proofs.Ytaadhandkljcdaa.X
