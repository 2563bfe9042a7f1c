/- Proved here: what Make returns (CK, cups_Make.calls) -/
import Derived.Test.YtaadhandkljcdaaX0
import Derived.Test.YtaadhandkljcdaaX3
import Derived.Test.YtaadhandkljcdaaK
import Derived.Test.YtaadhandkljcdaaXBracket
import Derived.Test.YtaadhandkljcdaaXMeet
import Derived.Deep.Cut
import Derived.StillTailTactics
import Derived.Deep.RegionHeld3
import Derived.BigQuiet
namespace Go.Proofs.Ytaadhandkljcdaa.X
open Go.RowKit Go.Proofs.YtaadhandkljcdaaW.PrintWords Go.Proofs.YtaadhandkljcdaaW.PrintLast Go.Proofs.YtaadhandkljcdaaW.PrintMore
attribute [local go_sem] max2_int min2_int max_two min_two max_three min_three max_four min_four
set_option linter.unusedVariables false
set_option linter.unusedSimpArgs false
namespace CK
open Go.Proofs.Ytaadhandkljcdaa.K CM CB
attribute [local go_sem] Oper.semAt_some
def side (x : Int) : S40 := ⟨1, x, 0⟩
/-- One round: the sides that go on, and the ties. -/
def stepS (n round : Int) : List S40 → List S42 → List S40 × List S42
  | a :: b :: l, ts => ((meetS n round a b ts).1 :: (stepS n round l (meetS n round a b ts).2).1, (stepS n round l (meetS n round a b ts).2).2)
  | _, ts => ([], ts)
def roundsS (n : Int) : Nat → Int → List S40 → List S42 → List S42
  | 0, _, _, ts => ts
  | c + 1, round, on, ts => roundsS n c (round + 1) (stepS n round on ts).1 (stepS n round on ts).2
/-- How many rounds. -/
def rr (n : Nat) : Nat := Nat.log2 (n - 1) + 1
def ties (n : Nat) : List S42 := roundsS n (rr n) 0 ((bk (rr n)).map side) []
theorem meet_len (n round : Int) (a b : S40) (ts : List S42) : (meetS n round a b ts).2.length ≤ ts.length + 1 := by
  unfold meetS
  split <;> simp
theorem rounds_ev (n : Nat) (h2 : 2 ≤ n) (h : n ≤ 64) : ∃ d, cups_Rounds.f (n : Int) = some ((rr n : Int), d, 0) ∧ rr n ≤ 6 ∧ 1 ≤ rr n := by
  have h0 : ∀ n : Nat, n < 65 → 2 ≤ n → cups_Rounds.f (n : Int) = some ((rr n : Int), wrap64 (shl .i64 1 (rr n : Int) - (n : Int)), 0) ∧ rr n ≤ 6 ∧ 1 ≤ rr n := by decide +kernel
  exact ⟨_, h0 n (by omega) h2⟩
theorem own_some {w : World} {base n : Nat} {e : TypeId} {size : Nat} {v : Value} {xs : List Value} (h : w.ownsRow base e size v n xs) (hn : 0 < n) : ∃ g c, v = .slice (some ⟨g, 0, none⟩) n c ∧ base ≤ g ∧ g < w.heap.size := by
  rcases h.2 with ⟨_, h1⟩ | ⟨g, cap, cur, rfl, hb, hh, _⟩
  · omega
  · exact ⟨g, cap, rfl, hb, (Array.getElem?_eq_some_iff.1 hh).1⟩
/-- The state between two rounds. -/
structure St (n : Nat) (w W : World) (on : List S40) (ts : List S42) (tv V : Value) : Prop where
  en : W.heap[w.heap.size]? = some (.cells #[.int .i64 (n : Int)] 3 (0, 0))
  et : W.heap[w.heap.size + 1]? = some (.cells #[tv] 26 (0, 0))
  ot : W.ownsRow w.heap.size 42 7 tv ts.length (ts.flatMap enc42)
  oo : W.ownsRow w.heap.size 40 3 V on.length (on.flatMap enc40)
  hb : Below w.heap.size w W
theorem St.alloc {n : Nat} {w W : World} {on : List S40} {ts : List S42} {tv V : Value} (h : St n w W on ts tv V) (o : Obj) : St n w (W.alloc o) on ts tv V :=
  ⟨blk_alloc h.en o, blk_alloc h.et o, h.ot.alloc o, h.oo.alloc o, below_alloc h.hb o⟩
theorem enc40_at : ∀ {on : List S40} {i : Nat} (hi : i < on.length), (on.flatMap enc40)[i * 3]? = some (.int .i64 on[i].f0) ∧ (on.flatMap enc40)[i * 3 + 1]? = some (.int .i64 on[i].f1) ∧ (on.flatMap enc40)[i * 3 + 2]? = some (.int .i64 on[i].f2)
  | [], _, hi => by simp at hi
  | a :: l, 0, _ => ⟨rfl, rfl, rfl⟩
  | a :: l, i + 1, hi => by
    have h := enc40_at (on := l) (i := i) (by simpa using hi)
    rw [show (i + 1) * 3 = i * 3 + 3 by omega, List.flatMap_cons]
    exact h
theorem own_cell1 {W : World} {base g n cap : Nat} {e : TypeId} {size : Nat} {xs : List Value} (h : W.ownsRow base e size (.slice (some ⟨g, 0, none⟩) n cap) n xs) (j : Nat) {u : Value} (hu : xs[j]? = some u) : W.cell? ⟨g, j, none⟩ = some u := by
  have hc := h.cells (g := g) rfl j u hu
  rwa [add_plain] at hc
theorem side_cells {W : World} {base g cap : Nat} {on : List S40} (h : W.ownsRow base 40 3 (.slice (some ⟨g, 0, none⟩) on.length cap) on.length (on.flatMap enc40)) {i : Nat} (hi : i < on.length) :
    W.cell? ⟨g, i * 3, none⟩ = some (.int .i64 on[i].f0) ∧ W.cell? ⟨g, i * 3 + 1, none⟩ = some (.int .i64 on[i].f1) ∧ W.cell? ⟨g, i * 3 + 2, none⟩ = some (.int .i64 on[i].f2) :=
  ⟨own_cell1 h _ (enc40_at hi).1, own_cell1 h _ (enc40_at hi).2.1, own_cell1 h _ (enc40_at hi).2.2⟩
theorem cell_same {w w' : World} {g : Nat} (h : w'.heap[g]? = w.heap[g]?) (i : Nat) : w'.cell? ⟨g, i, none⟩ = w.cell? ⟨g, i, none⟩ := by
  simp only [World.cell?, h]
theorem wrap_eq {n : Int} (h0 : -9223372036854775808 ≤ n) (h1 : n ≤ 9223372036854775807) : IntKind.i64.wrap n = n := by
  rw [IntKind.wrap_i64]
  omega
theorem enc40_one (s : S40) : ∀ u ∈ enc40 s, u.oneCell' = true := fun u hu => by
  simp only [enc40, List.mem_cons, List.not_mem_nil, or_false] at hu
  rcases hu with rfl | rfl | rfl <;> rfl
set_option maxRecDepth 100000 in
set_option maxHeartbeats 16000000 in
theorem make_good (n : Nat) (h2 : 2 ≤ n) (h64 : n ≤ 64) (w : World) :
    Calls Try.prog 13 #[.int .i64 (n : Int)] w fun e w' => ∃ v : Value, e = .returned (.tuple #[v, .int .i64 0]) ∧ w'.ownsRow w.heap.size 42 7 v (ties n).length ((ties n).flatMap enc42) ∧ Below w.heap.size w w' := by
  obtain ⟨d, hd, hr6, hr1⟩ := rounds_ev n h2 h64
  obtain ⟨i40, hi, hz0, hz1, hz2⟩ := info_parts info40
  go_enter Try.func13, Try.ntmps13
  go_wp2_with fail
  refine (cups_Rounds.calls (n : Int) (rr n : Int) d 0 _ hd).mono ?_
  rintro e w1 ⟨rfl, ⟨n1, rfl⟩⟩
  go_wp2_with fail
  obtain ⟨W1, hW1⟩ : ∃ W1, ((w.alloc (.cells #[.int .i64 (n : Int)] 3)).alloc (.cells #[.slice none 0 0] 26)).drewN n1 = W1 := ⟨_, rfl⟩
  have en1 : W1.heap[w.heap.size]? = some (.cells #[.int .i64 (n : Int)] 3 (0, 0)) := by rw [← hW1]; exact (blk_old _ _ (by simp)).trans (blk_at w _ rfl)
  have et1 : W1.heap[w.heap.size + 1]? = some (.cells #[.slice none 0 0] 26 (0, 0)) := by rw [← hW1]; exact blk_at (w.alloc _) _ (by simp)
  have hb1 : Below w.heap.size w W1 := by rw [← hW1]; exact pw_below_drewN (below_alloc (below_alloc (Below.refl _ _) _) _) n1
  have hz1' : W1.heap.size = w.heap.size + 2 := by rw [← hW1]; simp
  rw [hW1]
  clear hW1
  refine (bracket_calls (rr n) hr6 W1).mono ?_
  rintro e w2 ⟨g, rfl, eg, hg, hb2'⟩
  have en2 := (hb2'.block (w.heap.size) (by omega)).trans en1
  have et2 := (hb2'.block (w.heap.size + 1) (by omega)).trans et1
  have hb2 := below_then hb1 hb1.size hb2'
  obtain ⟨N, hN⟩ : ∃ N, 2 ^ rr n = N := ⟨_, rfl⟩
  have hlN : (bk (rr n)).length = N := by rw [bk_len, hN]
  have hN64 : N ≤ 64 := by rw [← hN]; exact Nat.pow_le_pow_right (by omega) hr6
  rw [hN]
  have EG := Aside0.mk eg
  have EN := Aside0.mk en2
  have ET := Aside0.mk et2
  have HB2 := Aside0.mk hb2
  have HLN := Aside0.mk hlN
  have HN := Aside0.mk hN
  have HD := Aside0.mk hd
  clear en1 et1 hb1 hz1' eg en2 et2 hb2 hb2' hlN hN hg hd
  go_wp2_with fail
  refine wp_loop_ghost_k (fun m a W => ∃ (i : Nat) (V : Value) (u : Nat → Value), m = N - i ∧ i ≤ N ∧ W.heap[g]? = some (.cells (nums .i64 (bk (rr n))).toArray 3 (0, 0)) ∧ W.heap[w.heap.size]? = some (.cells #[.int .i64 (n : Int)] 3 (0, 0)) ∧ W.heap[w.heap.size + 1]? = some (.cells #[.slice none 0 0] 26 (0, 0)) ∧ Below w.heap.size w W ∧
    W.ownsRow w.heap.size 40 3 V i ((((bk (rr n)).take i).map side).flatMap enc40) ∧ a = { tmps := List.toArray (u 0 :: (.pointer (some ⟨w.heap.size, 0, none⟩) : Value) :: (.pointer (some ⟨w.heap.size + 1, 0, none⟩) : Value) :: (.int .i64 0 : Value) :: (.int .i64 (rr n : Int) : Value) :: u 5 :: (V : Value) :: u 7 :: u 8 :: u 9 :: u 10 :: u 11 :: u 12 :: u 13 :: u 14 :: u 15 :: u 16 :: u 17 :: u 18 :: u 19 :: u 20 :: u 21 :: u 22 :: (.slice (some ⟨g, 0, none⟩) N N : Value) :: (.int .i64 (N : Int) : Value) :: (.int .i64 (i : Int) : Value) :: u 26 :: u 27 :: u 28 :: u 29 :: u 30 :: u 31 :: u 32 :: u 33 :: u 34 :: u 35 :: u 36 :: u 37 :: u 38 :: u 39 :: u 40 :: u 41 :: u 42 :: u 43 :: u 44 :: u 45 :: u 46 :: u 47 :: u 48 :: u 49 :: u 50 :: u 51 :: u 52 :: u 53 :: u 54 :: u 55 :: u 56 :: u 57 :: u 58 :: u 59 :: u 60 :: u 61 :: u 62 :: []), defers := [] }) N ?start ?round
  case start =>
    have st : ∀ T : Array Value, T = List.toArray (T.getD 0 undef :: (.pointer (some ⟨w.heap.size, 0, none⟩) : Value) :: (.pointer (some ⟨w.heap.size + 1, 0, none⟩) : Value) :: (.int .i64 0 : Value) :: (.int .i64 (rr n : Int) : Value) :: T.getD 5 undef :: (.slice none 0 0 : Value) :: T.getD 7 undef :: T.getD 8 undef :: T.getD 9 undef :: T.getD 10 undef :: T.getD 11 undef :: T.getD 12 undef :: T.getD 13 undef :: T.getD 14 undef :: T.getD 15 undef :: T.getD 16 undef :: T.getD 17 undef :: T.getD 18 undef :: T.getD 19 undef :: T.getD 20 undef :: T.getD 21 undef :: T.getD 22 undef :: (.slice (some ⟨g, 0, none⟩) N N : Value) :: (.int .i64 (N : Int) : Value) :: (.int .i64 0 : Value) :: T.getD 26 undef :: T.getD 27 undef :: T.getD 28 undef :: T.getD 29 undef :: T.getD 30 undef :: T.getD 31 undef :: T.getD 32 undef :: T.getD 33 undef :: T.getD 34 undef :: T.getD 35 undef :: T.getD 36 undef :: T.getD 37 undef :: T.getD 38 undef :: T.getD 39 undef :: T.getD 40 undef :: T.getD 41 undef :: T.getD 42 undef :: T.getD 43 undef :: T.getD 44 undef :: T.getD 45 undef :: T.getD 46 undef :: T.getD 47 undef :: T.getD 48 undef :: T.getD 49 undef :: T.getD 50 undef :: T.getD 51 undef :: T.getD 52 undef :: T.getD 53 undef :: T.getD 54 undef :: T.getD 55 undef :: T.getD 56 undef :: T.getD 57 undef :: T.getD 58 undef :: T.getD 59 undef :: T.getD 60 undef :: T.getD 61 undef :: T.getD 62 undef :: []) → ∃ (i : Nat) (V : Value) (u : Nat → Value), N = N - i ∧ i ≤ N ∧ w2.heap[g]? = some (.cells (nums .i64 (bk (rr n))).toArray 3 (0, 0)) ∧ w2.heap[w.heap.size]? = some (.cells #[.int .i64 (n : Int)] 3 (0, 0)) ∧ w2.heap[w.heap.size + 1]? = some (.cells #[.slice none 0 0] 26 (0, 0)) ∧ Below w.heap.size w w2 ∧
        w2.ownsRow w.heap.size 40 3 V i ((((bk (rr n)).take i).map side).flatMap enc40) ∧ (Act.mk T []) = { tmps := List.toArray (u 0 :: (.pointer (some ⟨w.heap.size, 0, none⟩) : Value) :: (.pointer (some ⟨w.heap.size + 1, 0, none⟩) : Value) :: (.int .i64 0 : Value) :: (.int .i64 (rr n : Int) : Value) :: u 5 :: (V : Value) :: u 7 :: u 8 :: u 9 :: u 10 :: u 11 :: u 12 :: u 13 :: u 14 :: u 15 :: u 16 :: u 17 :: u 18 :: u 19 :: u 20 :: u 21 :: u 22 :: (.slice (some ⟨g, 0, none⟩) N N : Value) :: (.int .i64 (N : Int) : Value) :: (.int .i64 (i : Int) : Value) :: u 26 :: u 27 :: u 28 :: u 29 :: u 30 :: u 31 :: u 32 :: u 33 :: u 34 :: u 35 :: u 36 :: u 37 :: u 38 :: u 39 :: u 40 :: u 41 :: u 42 :: u 43 :: u 44 :: u 45 :: u 46 :: u 47 :: u 48 :: u 49 :: u 50 :: u 51 :: u 52 :: u 53 :: u 54 :: u 55 :: u 56 :: u 57 :: u 58 :: u 59 :: u 60 :: u 61 :: u 62 :: []), defers := [] } := fun T hT =>
      ⟨0, .slice none 0 0, fun i => T.getD i undef, rfl, Nat.zero_le _, EG.out, EN.out, ET.out, HB2.out, own_nil _ _ _ _, congrArg (fun T => (Act.mk T _)) hT⟩
    exact st _ rfl
  case round =>
    rintro m a W ⟨i, V, u, rfl, hi', eg, en, et, hb, ho, rfl⟩ J K hJ hK
    obtain ⟨AV, cV, rfl⟩ := own_slice ho
    have hzW : w.heap.size ≤ W.heap.size := hb.size
    have EG1 := Aside0.mk eg
    have EN1 := Aside0.mk en
    have ET1 := Aside0.mk et
    have HB1 := Aside0.mk hb
    have HO1 := Aside0.mk ho
    clear eg en et hb ho EG EN ET HB2
    by_cases hiN : i < N
    · have fin : ∀ (T : Array Value) (V : Value) (W' : World), T = List.toArray (T.getD 0 undef :: (.pointer (some ⟨w.heap.size, 0, none⟩) : Value) :: (.pointer (some ⟨w.heap.size + 1, 0, none⟩) : Value) :: (.int .i64 0 : Value) :: (.int .i64 (rr n : Int) : Value) :: T.getD 5 undef :: (V : Value) :: T.getD 7 undef :: T.getD 8 undef :: T.getD 9 undef :: T.getD 10 undef :: T.getD 11 undef :: T.getD 12 undef :: T.getD 13 undef :: T.getD 14 undef :: T.getD 15 undef :: T.getD 16 undef :: T.getD 17 undef :: T.getD 18 undef :: T.getD 19 undef :: T.getD 20 undef :: T.getD 21 undef :: T.getD 22 undef :: (.slice (some ⟨g, 0, none⟩) N N : Value) :: (.int .i64 (N : Int) : Value) :: (.int .i64 ((i : Int) + 1) : Value) :: T.getD 26 undef :: T.getD 27 undef :: T.getD 28 undef :: T.getD 29 undef :: T.getD 30 undef :: T.getD 31 undef :: T.getD 32 undef :: T.getD 33 undef :: T.getD 34 undef :: T.getD 35 undef :: T.getD 36 undef :: T.getD 37 undef :: T.getD 38 undef :: T.getD 39 undef :: T.getD 40 undef :: T.getD 41 undef :: T.getD 42 undef :: T.getD 43 undef :: T.getD 44 undef :: T.getD 45 undef :: T.getD 46 undef :: T.getD 47 undef :: T.getD 48 undef :: T.getD 49 undef :: T.getD 50 undef :: T.getD 51 undef :: T.getD 52 undef :: T.getD 53 undef :: T.getD 54 undef :: T.getD 55 undef :: T.getD 56 undef :: T.getD 57 undef :: T.getD 58 undef :: T.getD 59 undef :: T.getD 60 undef :: T.getD 61 undef :: T.getD 62 undef :: []) → W'.heap[g]? = some (.cells (nums .i64 (bk (rr n))).toArray 3 (0, 0)) → W'.heap[w.heap.size]? = some (.cells #[.int .i64 (n : Int)] 3 (0, 0)) → W'.heap[w.heap.size + 1]? = some (.cells #[.slice none 0 0] 26 (0, 0)) → Below w.heap.size w W' →
          W'.ownsRow w.heap.size 40 3 V (i + 1) ((((bk (rr n)).take (i + 1)).map side).flatMap enc40) → Handed J (N - i) { tmps := T, defers := [] } W' := fun T V W' hT h1 h2 h3 h4 h5 =>
        ⟨N - (i + 1), by omega, hJ _ _ _ ⟨i + 1, V, fun i => T.getD i undef, rfl, by omega, h1, h2, h3, h4, h5, congrArg (fun T => (Act.mk T _)) hT⟩⟩
      have hil : i < (bk (rr n)).length := by rw [HLN.out]; exact hiN
      obtain ⟨x, hx⟩ : ∃ x, (bk (rr n))[i] = x := ⟨_, rfl⟩
      have c1 := (read_row EG1.out i hil).1
      rw [hx] at c1
      have hnx : ((((bk (rr n)).take (i + 1)).map side).flatMap enc40) = ((((bk (rr n)).take i).map side).flatMap enc40) ++ enc40 (side x) := by
        rw [List.take_succ_eq_append_getElem hil, hx, List.map_append, List.flatMap_append]; simp
      have HNX := Aside0.mk hnx
      clear hnx hx
      go_wp2_with (first | (at_builtin; refine wpList_append_own_at _ rfl _ _ 43 rfl w.heap.size 40 i40 _ 3 24 Try.underlying43 hi hz0 hz1 hz2 rfl (by decide) _ _ _ rfl (HO1.out.alloc _) ⟨W.heap.size, 0, none⟩ 1 1 (enc40 (side x)) rfl rfl (new_cells rfl _ 40) (enc40_one _) (by simp only [maxLen]; omega) (by omega) (by simp; omega) ?_
                            intro v1 w4 ho4 hg4 _ hat4
                            have hg4' : World.grownBy _ w4 (Value.slice AV i cV).ownBlock := hg4
                            have e1 := blk_grown (blk_alloc EG1.out (.cells (enc40 (side x)).toArray 40)) hg4' (own_ne HO1.out EG1.out (by decide))
                            have e2 := blk_grown (blk_alloc EN1.out (.cells (enc40 (side x)).toArray 40)) hg4' (own_ne HO1.out EN1.out (by decide))
                            have e3 := blk_grown (blk_alloc ET1.out (.cells (enc40 (side x)).toArray 40)) hg4' (own_ne HO1.out ET1.out (by decide))
                            have hb4 := (below_alloc HB1.out (.cells (enc40 (side x)).toArray 40)).grown hg4' (by simp; omega) (fun k hk => own_base HO1.out k hk)
                            have E1 := Aside0.mk e1
                            have E2 := Aside0.mk e2
                            have E3 := Aside0.mk e3
                            have HB4 := Aside0.mk hb4
                            have HO4 := Aside0.mk ho4
                            clear e1 e2 e3 hb4 ho4 hg4 hg4' hat4))
      exact fin _ _ _ rfl E1.out E2.out E3.out HB4.out (by rw [HNX.out]; exact HO4.out)
    · obtain rfl : i = N := by omega
      clear hJ hK
      have hst : St n w W ((bk (rr n)).map side) [] (.slice none 0 0) (.slice AV i cV) := by
        refine ⟨EN1.out, ET1.out, own_nil _ _ _ _, ?_, HB1.out⟩
        have h := HO1.out
        rw [List.take_of_length_le (by rw [HLN.out]; exact Nat.le_refl _)] at h
        rw [List.length_map, HLN.out]
        exact h
      have HST := Aside0.mk hst
      clear hst EG1 EN1 ET1 HB1 HO1
      go_wp2_with fail
      refine wp_loop_ghost_k (fun m a W => ∃ (c : Nat) (on : List S40) (ts : List S42) (tv V : Value) (u : Nat → Value), m = rr n - c ∧ c ≤ rr n ∧ on.length = 2 ^ (rr n - c) ∧ roundsS n (rr n - c) (c : Int) on ts = ties n ∧ ts.length ≤ 64 * c ∧ St n w W on ts tv V ∧ a = { tmps := List.toArray (u 0 :: (.pointer (some ⟨w.heap.size, 0, none⟩) : Value) :: (.pointer (some ⟨w.heap.size + 1, 0, none⟩) : Value) :: (.int .i64 0 : Value) :: u 4 :: u 5 :: (V : Value) :: u 7 :: u 8 :: u 9 :: u 10 :: u 11 :: u 12 :: u 13 :: u 14 :: u 15 :: u 16 :: u 17 :: u 18 :: u 19 :: u 20 :: u 21 :: u 22 :: u 23 :: u 24 :: u 25 :: u 26 :: u 27 :: u 28 :: u 29 :: u 30 :: u 31 :: u 32 :: u 33 :: u 34 :: (.int .i64 (rr n : Int) : Value) :: (.int .i64 (c : Int) : Value) :: u 37 :: u 38 :: u 39 :: u 40 :: u 41 :: u 42 :: u 43 :: u 44 :: u 45 :: u 46 :: u 47 :: u 48 :: u 49 :: u 50 :: u 51 :: u 52 :: u 53 :: u 54 :: u 55 :: u 56 :: u 57 :: u 58 :: u 59 :: u 60 :: u 61 :: u 62 :: []), defers := [] }) (rr n) ?start1 ?round1
      case start1 =>
        have st : ∀ T : Array Value, T = List.toArray (T.getD 0 undef :: (.pointer (some ⟨w.heap.size, 0, none⟩) : Value) :: (.pointer (some ⟨w.heap.size + 1, 0, none⟩) : Value) :: (.int .i64 0 : Value) :: T.getD 4 undef :: T.getD 5 undef :: (.slice AV i cV : Value) :: T.getD 7 undef :: T.getD 8 undef :: T.getD 9 undef :: T.getD 10 undef :: T.getD 11 undef :: T.getD 12 undef :: T.getD 13 undef :: T.getD 14 undef :: T.getD 15 undef :: T.getD 16 undef :: T.getD 17 undef :: T.getD 18 undef :: T.getD 19 undef :: T.getD 20 undef :: T.getD 21 undef :: T.getD 22 undef :: T.getD 23 undef :: T.getD 24 undef :: T.getD 25 undef :: T.getD 26 undef :: T.getD 27 undef :: T.getD 28 undef :: T.getD 29 undef :: T.getD 30 undef :: T.getD 31 undef :: T.getD 32 undef :: T.getD 33 undef :: T.getD 34 undef :: (.int .i64 (rr n : Int) : Value) :: (.int .i64 0 : Value) :: T.getD 37 undef :: T.getD 38 undef :: T.getD 39 undef :: T.getD 40 undef :: T.getD 41 undef :: T.getD 42 undef :: T.getD 43 undef :: T.getD 44 undef :: T.getD 45 undef :: T.getD 46 undef :: T.getD 47 undef :: T.getD 48 undef :: T.getD 49 undef :: T.getD 50 undef :: T.getD 51 undef :: T.getD 52 undef :: T.getD 53 undef :: T.getD 54 undef :: T.getD 55 undef :: T.getD 56 undef :: T.getD 57 undef :: T.getD 58 undef :: T.getD 59 undef :: T.getD 60 undef :: T.getD 61 undef :: T.getD 62 undef :: []) → ∃ (c : Nat) (on : List S40) (ts : List S42) (tv V : Value) (u : Nat → Value), rr n = rr n - c ∧ c ≤ rr n ∧ on.length = 2 ^ (rr n - c) ∧ roundsS n (rr n - c) (c : Int) on ts = ties n ∧ ts.length ≤ 64 * c ∧ St n w W on ts tv V ∧ (Act.mk T []) = { tmps := List.toArray (u 0 :: (.pointer (some ⟨w.heap.size, 0, none⟩) : Value) :: (.pointer (some ⟨w.heap.size + 1, 0, none⟩) : Value) :: (.int .i64 0 : Value) :: u 4 :: u 5 :: (V : Value) :: u 7 :: u 8 :: u 9 :: u 10 :: u 11 :: u 12 :: u 13 :: u 14 :: u 15 :: u 16 :: u 17 :: u 18 :: u 19 :: u 20 :: u 21 :: u 22 :: u 23 :: u 24 :: u 25 :: u 26 :: u 27 :: u 28 :: u 29 :: u 30 :: u 31 :: u 32 :: u 33 :: u 34 :: (.int .i64 (rr n : Int) : Value) :: (.int .i64 (c : Int) : Value) :: u 37 :: u 38 :: u 39 :: u 40 :: u 41 :: u 42 :: u 43 :: u 44 :: u 45 :: u 46 :: u 47 :: u 48 :: u 49 :: u 50 :: u 51 :: u 52 :: u 53 :: u 54 :: u 55 :: u 56 :: u 57 :: u 58 :: u 59 :: u 60 :: u 61 :: u 62 :: []), defers := [] } := fun T hT =>
          ⟨0, _, [], _, _, fun i => T.getD i undef, rfl, Nat.zero_le _, by rw [List.length_map, bk_len, Nat.sub_zero], rfl, Nat.le_refl _, HST.out, congrArg (fun T => (Act.mk T _)) hT⟩
        exact st _ rfl
      case round1 =>
        rintro m a W ⟨c, on, ts, tv, V, u, rfl, hc, hon, hrs, htl, hS, rfl⟩ J K hJ hK
        clear HST
        have hzW : w.heap.size + 2 ≤ W.heap.size := by have := blk_lt hS.et; omega
        have HS := Aside0.mk hS
        have HRS := Aside0.mk hrs
        by_cases hcr : c < rr n
        · obtain ⟨H, hH⟩ : ∃ H, 2 ^ (rr n - (c + 1)) = H := ⟨_, rfl⟩
          have hoH : on.length = 2 * H := by rw [hon, ← hH, show rr n - c = (rr n - (c + 1)) + 1 by omega, Nat.pow_succ]; omega
          have hH32 : H ≤ 32 := by rw [← hH]; exact Nat.pow_le_pow_right (by omega : 0 < 2) (by omega : rr n - (c + 1) ≤ 5)
          have hH1 : 1 ≤ H := by rw [← hH]; exact Nat.one_le_two_pow
          obtain ⟨gV, cV2, rfl, hgV, hgV2⟩ := own_some hS.oo (by omega)
          have fin : ∀ (T : Array Value) (on' : List S40) (ts' : List S42) (tv' V' : Value) (W' : World), T = List.toArray (T.getD 0 undef :: (.pointer (some ⟨w.heap.size, 0, none⟩) : Value) :: (.pointer (some ⟨w.heap.size + 1, 0, none⟩) : Value) :: (.int .i64 0 : Value) :: T.getD 4 undef :: T.getD 5 undef :: (V' : Value) :: T.getD 7 undef :: T.getD 8 undef :: T.getD 9 undef :: T.getD 10 undef :: T.getD 11 undef :: T.getD 12 undef :: T.getD 13 undef :: T.getD 14 undef :: T.getD 15 undef :: T.getD 16 undef :: T.getD 17 undef :: T.getD 18 undef :: T.getD 19 undef :: T.getD 20 undef :: T.getD 21 undef :: T.getD 22 undef :: T.getD 23 undef :: T.getD 24 undef :: T.getD 25 undef :: T.getD 26 undef :: T.getD 27 undef :: T.getD 28 undef :: T.getD 29 undef :: T.getD 30 undef :: T.getD 31 undef :: T.getD 32 undef :: T.getD 33 undef :: T.getD 34 undef :: (.int .i64 (rr n : Int) : Value) :: (.int .i64 ((c : Int) + 1) : Value) :: T.getD 37 undef :: T.getD 38 undef :: T.getD 39 undef :: T.getD 40 undef :: T.getD 41 undef :: T.getD 42 undef :: T.getD 43 undef :: T.getD 44 undef :: T.getD 45 undef :: T.getD 46 undef :: T.getD 47 undef :: T.getD 48 undef :: T.getD 49 undef :: T.getD 50 undef :: T.getD 51 undef :: T.getD 52 undef :: T.getD 53 undef :: T.getD 54 undef :: T.getD 55 undef :: T.getD 56 undef :: T.getD 57 undef :: T.getD 58 undef :: T.getD 59 undef :: T.getD 60 undef :: T.getD 61 undef :: T.getD 62 undef :: []) → on'.length = 2 ^ (rr n - (c + 1)) → roundsS n (rr n - (c + 1)) ((c + 1 : Nat) : Int) on' ts' = ties n → ts'.length ≤ 64 * (c + 1) → St n w W' on' ts' tv' V' → Handed J (rr n - c) { tmps := T, defers := [] } W' := fun T on' ts' tv' V' W' hT h1 h2 h3 h4 =>
            ⟨rr n - (c + 1), by omega, hJ _ _ _ ⟨c + 1, on', ts', tv', V', fun i => T.getD i undef, rfl, by omega, h1, h2, h3, h4, congrArg (fun T => (Act.mk T _)) hT⟩⟩
          have hmf : ∀ (fn : Fn) (first cap : Array Value) (w : World), (Instr.makeFunc fn first cap).run Try.prog w = .ok (.func fn first cap) w := fun _ _ _ _ => rfl
          clear hS hrs hon
          go_wp2_with fail
          have hS3 := St.alloc HS.out (.cells #[.int .i64 (c : Int)] 3)
          have er := blk_new W (.cells #[.int .i64 (c : Int)] 3)
          obtain ⟨W3, hW3⟩ : ∃ W3, W.alloc (.cells #[.int .i64 (c : Int)] 3) = W3 := ⟨_, rfl⟩
          rw [hW3] at hS3 er ⊢
          have HS3 := Aside0.mk hS3
          have ER := Aside0.mk er
          clear hW3 hS3 er hmf
          refine wp_loop_ghost_k (fun m a W' => ∃ (j : Nat) (nx : List S40) (ts' : List S42) (tv' NV : Value) (y : Nat → Value), m = H - j ∧ j ≤ H ∧ nx.length = j ∧ stepS n (c : Int) on ts = (nx ++ (stepS n (c : Int) (on.drop (2 * j)) ts').1, (stepS n (c : Int) (on.drop (2 * j)) ts').2) ∧ ts'.length ≤ 64 * c + j ∧ St n w W' on ts' tv' (.slice (some ⟨gV, 0, none⟩) on.length cV2) ∧ W'.heap[W.heap.size]? = some (.cells #[.int .i64 (c : Int)] 3 (0, 0)) ∧ W'.ownsRow (W.heap.size + 1) 40 3 NV j (nx.flatMap enc40) ∧ a = { tmps := List.toArray (y 0 :: (.pointer (some ⟨w.heap.size, 0, none⟩) : Value) :: (.pointer (some ⟨w.heap.size + 1, 0, none⟩) : Value) :: (.int .i64 0 : Value) :: y 4 :: y 5 :: (.slice (some ⟨gV, 0, none⟩) on.length cV2 : Value) :: y 7 :: y 8 :: (.pointer (some ⟨W.heap.size, 0, none⟩) : Value) :: (NV : Value) :: (.func (.func 26) #[] #[.pointer (some ⟨w.heap.size, 0, none⟩), .pointer (some ⟨w.heap.size + 1, 0, none⟩), .pointer (some ⟨W.heap.size, 0, none⟩)] : Value) :: (.int .i64 (((2 * j : Nat)) : Int) : Value) :: y 13 :: y 14 :: y 15 :: y 16 :: y 17 :: y 18 :: y 19 :: y 20 :: y 21 :: y 22 :: y 23 :: y 24 :: y 25 :: y 26 :: y 27 :: y 28 :: y 29 :: y 30 :: y 31 :: y 32 :: y 33 :: y 34 :: (.int .i64 (rr n : Int) : Value) :: (.int .i64 (c : Int) : Value) :: y 37 :: y 38 :: y 39 :: y 40 :: y 41 :: y 42 :: y 43 :: y 44 :: y 45 :: y 46 :: y 47 :: y 48 :: y 49 :: y 50 :: y 51 :: y 52 :: y 53 :: y 54 :: y 55 :: y 56 :: y 57 :: y 58 :: y 59 :: y 60 :: y 61 :: y 62 :: []), defers := [] }) H ?start2 ?round2
          case start2 =>
            have st : ∀ T : Array Value, T = List.toArray (T.getD 0 undef :: (.pointer (some ⟨w.heap.size, 0, none⟩) : Value) :: (.pointer (some ⟨w.heap.size + 1, 0, none⟩) : Value) :: (.int .i64 0 : Value) :: T.getD 4 undef :: T.getD 5 undef :: (.slice (some ⟨gV, 0, none⟩) on.length cV2 : Value) :: T.getD 7 undef :: T.getD 8 undef :: (.pointer (some ⟨W.heap.size, 0, none⟩) : Value) :: (.slice none 0 0 : Value) :: (.func (.func 26) #[] #[.pointer (some ⟨w.heap.size, 0, none⟩), .pointer (some ⟨w.heap.size + 1, 0, none⟩), .pointer (some ⟨W.heap.size, 0, none⟩)] : Value) :: (.int .i64 0 : Value) :: T.getD 13 undef :: T.getD 14 undef :: T.getD 15 undef :: T.getD 16 undef :: T.getD 17 undef :: T.getD 18 undef :: T.getD 19 undef :: T.getD 20 undef :: T.getD 21 undef :: T.getD 22 undef :: T.getD 23 undef :: T.getD 24 undef :: T.getD 25 undef :: T.getD 26 undef :: T.getD 27 undef :: T.getD 28 undef :: T.getD 29 undef :: T.getD 30 undef :: T.getD 31 undef :: T.getD 32 undef :: T.getD 33 undef :: T.getD 34 undef :: (.int .i64 (rr n : Int) : Value) :: (.int .i64 (c : Int) : Value) :: T.getD 37 undef :: T.getD 38 undef :: T.getD 39 undef :: T.getD 40 undef :: T.getD 41 undef :: T.getD 42 undef :: T.getD 43 undef :: T.getD 44 undef :: T.getD 45 undef :: T.getD 46 undef :: T.getD 47 undef :: T.getD 48 undef :: T.getD 49 undef :: T.getD 50 undef :: T.getD 51 undef :: T.getD 52 undef :: T.getD 53 undef :: T.getD 54 undef :: T.getD 55 undef :: T.getD 56 undef :: T.getD 57 undef :: T.getD 58 undef :: T.getD 59 undef :: T.getD 60 undef :: T.getD 61 undef :: T.getD 62 undef :: []) → ∃ (j : Nat) (nx : List S40) (ts' : List S42) (tv' NV : Value) (y : Nat → Value), H = H - j ∧ j ≤ H ∧ nx.length = j ∧ stepS n (c : Int) on ts = (nx ++ (stepS n (c : Int) (on.drop (2 * j)) ts').1, (stepS n (c : Int) (on.drop (2 * j)) ts').2) ∧ ts'.length ≤ 64 * c + j ∧ St n w W3 on ts' tv' (.slice (some ⟨gV, 0, none⟩) on.length cV2) ∧ W3.heap[W.heap.size]? = some (.cells #[.int .i64 (c : Int)] 3 (0, 0)) ∧ W3.ownsRow (W.heap.size + 1) 40 3 NV j (nx.flatMap enc40) ∧ (Act.mk T []) = { tmps := List.toArray (y 0 :: (.pointer (some ⟨w.heap.size, 0, none⟩) : Value) :: (.pointer (some ⟨w.heap.size + 1, 0, none⟩) : Value) :: (.int .i64 0 : Value) :: y 4 :: y 5 :: (.slice (some ⟨gV, 0, none⟩) on.length cV2 : Value) :: y 7 :: y 8 :: (.pointer (some ⟨W.heap.size, 0, none⟩) : Value) :: (NV : Value) :: (.func (.func 26) #[] #[.pointer (some ⟨w.heap.size, 0, none⟩), .pointer (some ⟨w.heap.size + 1, 0, none⟩), .pointer (some ⟨W.heap.size, 0, none⟩)] : Value) :: (.int .i64 (((2 * j : Nat)) : Int) : Value) :: y 13 :: y 14 :: y 15 :: y 16 :: y 17 :: y 18 :: y 19 :: y 20 :: y 21 :: y 22 :: y 23 :: y 24 :: y 25 :: y 26 :: y 27 :: y 28 :: y 29 :: y 30 :: y 31 :: y 32 :: y 33 :: y 34 :: (.int .i64 (rr n : Int) : Value) :: (.int .i64 (c : Int) : Value) :: y 37 :: y 38 :: y 39 :: y 40 :: y 41 :: y 42 :: y 43 :: y 44 :: y 45 :: y 46 :: y 47 :: y 48 :: y 49 :: y 50 :: y 51 :: y 52 :: y 53 :: y 54 :: y 55 :: y 56 :: y 57 :: y 58 :: y 59 :: y 60 :: y 61 :: y 62 :: []), defers := [] } := fun T hT =>
              ⟨0, [], ts, tv, _, fun i => T.getD i undef, rfl, Nat.zero_le _, rfl, rfl, by omega, HS3.out, ER.out, own_nil _ _ _ _, congrArg (fun T => (Act.mk T _)) hT⟩
            exact st _ rfl
          case round2 =>
            rintro m a W' ⟨j, nx, ts', tv', NV, y, rfl, hj, hnx, hstep, htl', hS', er', hno, rfl⟩ J2 K2 hJ2 hK2
            obtain ⟨AN, cN, rfl⟩ := own_slice hno
            have hzW' : W.heap.size < W'.heap.size := blk_lt er'
            have HS' := Aside0.mk hS'
            have HSTEP := Aside0.mk hstep
            have ER' := Aside0.mk er'
            have HNO := Aside0.mk hno
            clear hstep er' hno HS3 ER
            by_cases hjH : j < H
            · have fin2 : ∀ (T : Array Value) (nx : List S40) (ts' : List S42) (tv' NV : Value) (W4 : World), T = List.toArray (T.getD 0 undef :: (.pointer (some ⟨w.heap.size, 0, none⟩) : Value) :: (.pointer (some ⟨w.heap.size + 1, 0, none⟩) : Value) :: (.int .i64 0 : Value) :: T.getD 4 undef :: T.getD 5 undef :: (.slice (some ⟨gV, 0, none⟩) on.length cV2 : Value) :: T.getD 7 undef :: T.getD 8 undef :: (.pointer (some ⟨W.heap.size, 0, none⟩) : Value) :: (NV : Value) :: (.func (.func 26) #[] #[.pointer (some ⟨w.heap.size, 0, none⟩), .pointer (some ⟨w.heap.size + 1, 0, none⟩), .pointer (some ⟨W.heap.size, 0, none⟩)] : Value) :: (.int .i64 (((2 * (j + 1) : Nat)) : Int) : Value) :: T.getD 13 undef :: T.getD 14 undef :: T.getD 15 undef :: T.getD 16 undef :: T.getD 17 undef :: T.getD 18 undef :: T.getD 19 undef :: T.getD 20 undef :: T.getD 21 undef :: T.getD 22 undef :: T.getD 23 undef :: T.getD 24 undef :: T.getD 25 undef :: T.getD 26 undef :: T.getD 27 undef :: T.getD 28 undef :: T.getD 29 undef :: T.getD 30 undef :: T.getD 31 undef :: T.getD 32 undef :: T.getD 33 undef :: T.getD 34 undef :: (.int .i64 (rr n : Int) : Value) :: (.int .i64 (c : Int) : Value) :: T.getD 37 undef :: T.getD 38 undef :: T.getD 39 undef :: T.getD 40 undef :: T.getD 41 undef :: T.getD 42 undef :: T.getD 43 undef :: T.getD 44 undef :: T.getD 45 undef :: T.getD 46 undef :: T.getD 47 undef :: T.getD 48 undef :: T.getD 49 undef :: T.getD 50 undef :: T.getD 51 undef :: T.getD 52 undef :: T.getD 53 undef :: T.getD 54 undef :: T.getD 55 undef :: T.getD 56 undef :: T.getD 57 undef :: T.getD 58 undef :: T.getD 59 undef :: T.getD 60 undef :: T.getD 61 undef :: T.getD 62 undef :: []) → nx.length = (j + 1) → stepS n (c : Int) on ts = (nx ++ (stepS n (c : Int) (on.drop (2 * (j + 1))) ts').1, (stepS n (c : Int) (on.drop (2 * (j + 1))) ts').2) → ts'.length ≤ 64 * c + (j + 1) → St n w W4 on ts' tv' (.slice (some ⟨gV, 0, none⟩) on.length cV2) → W4.heap[W.heap.size]? = some (.cells #[.int .i64 (c : Int)] 3 (0, 0)) → W4.ownsRow (W.heap.size + 1) 40 3 NV (j + 1) (nx.flatMap enc40) → Handed J2 (H - j) { tmps := T, defers := [] } W4 := fun T nx ts' tv' NV W4 hT h1 h2 h3 h4 h5 h6 =>
                ⟨H - (j + 1), by omega, hJ2 _ _ _ ⟨j + 1, nx, ts', tv', NV, fun i => T.getD i undef, rfl, by omega, h1, h2, h3, h4, h5, h6, congrArg (fun T => (Act.mk T _)) hT⟩⟩
              have hlt0 : 2 * j < on.length := by omega
              have hlt1 : 2 * j + 1 < on.length := by omega
              obtain ⟨p, hp⟩ : ∃ p, 2 * j = p := ⟨_, rfl⟩
              have hp2 : 2 * (j + 1) = p + 2 := by omega
              rw [hp2] at fin2
              rw [hp] at hlt0 hlt1 HSTEP
              have hpc : 2 * (j : Int) = (p : Int) := by omega
              obtain ⟨a0, ha0⟩ : ∃ a0, on[p] = a0 := ⟨_, rfl⟩
              obtain ⟨b0, hb0⟩ : ∃ b0, on[p + 1] = b0 := ⟨_, rfl⟩
              have kS : ∀ w' : World, w'.heap[gV]? = W'.heap[gV]? → (w'.cell? ⟨gV, p * 3, none⟩ = some (.int .i64 a0.f0) ∧ w'.cell? ⟨gV, p * 3 + 1, none⟩ = some (.int .i64 a0.f1) ∧ w'.cell? ⟨gV, p * 3 + 2, none⟩ = some (.int .i64 a0.f2)) ∧
                  (w'.cell? ⟨gV, (p + 1) * 3, none⟩ = some (.int .i64 b0.f0) ∧ w'.cell? ⟨gV, (p + 1) * 3 + 1, none⟩ = some (.int .i64 b0.f1) ∧ w'.cell? ⟨gV, (p + 1) * 3 + 2, none⟩ = some (.int .i64 b0.f2)) := fun w' hw => by
                obtain ⟨x0, x1, x2⟩ := side_cells hS'.oo hlt0
                obtain ⟨y0, y1, y2⟩ := side_cells hS'.oo hlt1
                rw [ha0] at x0 x1 x2
                rw [hb0] at y0 y1 y2
                exact ⟨⟨(cell_same hw _).trans x0, (cell_same hw _).trans x1, (cell_same hw _).trans x2⟩, (cell_same hw _).trans y0, (cell_same hw _).trans y1, (cell_same hw _).trans y2⟩
              have HA0 := Aside0.mk ha0
              have HB0 := Aside0.mk hb0
              have KS := Aside0.mk kS
              have wi := w64 (x := (p : Int) + 1) (by omega) (by omega)
              have hgVs : gV < W'.heap.size := by omega
              obtain ⟨⟨s5, ts5⟩, hm5⟩ : ∃ q, meetS n (c : Int) a0 b0 ts' = q := ⟨_, rfl⟩
              have HM5 := Aside0.mk hm5
              have wi' : IntKind.i64.wrap ((p : Int) + 1) = (p : Int) + 1 := wrap_eq (by omega) (by omega)
              have hI0 : (0 : Int) ≤ (p : Int) + 1 := by omega
              have hI1 : (p : Int) + 1 < (on.length : Int) := by omega
              have hI2 : ((p : Int) + 1).toNat = p + 1 := by omega
              have HOH := Aside0.mk hoH
              have HP := Aside0.mk hp
              have hgt : gV ≠ w.heap.size + 1 := fun e => own_ne hS'.oo hS'.et (by decide) (by rw [← e]; rfl)
              have hgo : some gV ≠ tv'.ownBlock := fun e => by
                rcases own_type_ne hS'.oo hS'.ot (by decide) with h | h
                · cases h
                · exact h e
              clear ha0 hb0 hS' kS hm5 hoH hp
              go_wp2_with fail
              go_region_held3 (fun w' => (w'.cell? ⟨gV, p * 3, none⟩ = some (.int .i64 a0.f0) ∧ w'.cell? ⟨gV, p * 3 + 1, none⟩ = some (.int .i64 a0.f1) ∧ w'.cell? ⟨gV, p * 3 + 2, none⟩ = some (.int .i64 a0.f2)) ∧
                  (w'.cell? ⟨gV, (p + 1) * 3, none⟩ = some (.int .i64 b0.f0) ∧ w'.cell? ⟨gV, (p + 1) * 3 + 1, none⟩ = some (.int .i64 b0.f1) ∧ w'.cell? ⟨gV, (p + 1) * 3 + 2, none⟩ = some (.int .i64 b0.f2)))
                (first | exact KS.out _ rfl | exact KS.out _ HK5.out | exact KS.out _ ((blk_old _ _ hgV5).trans HK5.out) | exact KS.out _ hk6)
                (first
                  | (go_at_call 26
                     have hm := meet_calls a0 b0 (n : Int) (c : Int) w.heap.size (w.heap.size + 1) W.heap.size w.heap.size tv' ts' W'.drew HS'.out.en HS'.out.et ER'.out HS'.out.ot (by omega) (by omega)
                     rw [HM5.out] at hm
                     refine hm.mono ?_
                     rintro e w5 ⟨rfl, tv5, e5, o5, k5, b5⟩
                     have hk5 : w5.heap[gV]? = W'.heap[gV]? := k5 gV hgVs hgt hgo
                     have hz5 : W'.heap.size ≤ w5.heap.size := b5.size
                     have hgV5 : gV < w5.heap.size := by omega
                     have en5 : w5.heap[w.heap.size]? = some (.cells #[.int .i64 (n : Int)] 3 (0, 0)) := (k5 _ (by show w.heap.size < W'.heap.size; omega) (by omega) (own_ne HS'.out.ot HS'.out.en (by decide))).trans HS'.out.en
                     have er5 : w5.heap[W.heap.size]? = some (.cells #[.int .i64 (c : Int)] 3 (0, 0)) := (k5 _ hzW' (by omega) (own_ne HS'.out.ot ER'.out (by decide))).trans ER'.out
                     have oo5 := own_move HS'.out.oo (w1 := w5) (fun k hk => by
                       obtain rfl : gV = k := by simpa [Value.ownBlock] using hk
                       exact hk5)
                     have no5 := own_move HNO.out (w1 := w5) (fun k hk => k5 k (own_lt HNO.out k hk) (fun e => own_ne HNO.out HS'.out.et (by decide) (by rw [hk, e])) (fun e => by
                       rcases own_type_ne HNO.out HS'.out.ot (by decide) with h | h
                       · rw [hk] at h; cases h
                       · exact h (by rw [hk, e])))
                     have S5 : St n w w5 on ts5 tv5 (.slice (some ⟨gV, 0, none⟩) on.length cV2) := ⟨en5, e5, o5, oo5, (below_drew1 HS'.out.hb).trans b5⟩
                     have HS5 := Aside0.mk S5
                     have ER5 := Aside0.mk er5
                     have NO5 := Aside0.mk no5
                     have HK5 := Aside0.mk hk5
                     clear en5 er5 oo5 no5 S5 e5 o5 k5 b5 hm)
                  | (refine step_append_lies _ rfl (.tmp 46) (.tmp 58) 43 rfl (W.heap.size + 1) 40 i40 _ 3 24 Try.underlying43 hi hz0 hz1 hz2 rfl (by decide) (.slice AN j cN) j (nx.flatMap enc40) rfl (NO5.out.alloc _) ⟨w5.heap.size, 0, none⟩ 1 1 (enc40 s5) rfl rfl (new_cells rfl _ 40) (enc40_one _) (by decide) (by simp only [maxLen]; omega) (by omega) (by simp; omega) _ rfl ?_
                     intro g6 cap6 w6 ho6 hg6 hat6 hlt6
                     have hk6 : w6.heap[gV]? = W'.heap[gV]? := (hg6.block gV (by simp; omega) (fun e => by have := own_base NO5.out gV e.symm; omega)).trans ((blk_old _ _ hgV5).trans HK5.out)
                     have HO6 := Aside0.mk ho6
                     have HG6 := Aside0.mk hg6
                     clear ho6 hg6))
              have hbN : ∀ k, (Value.slice AN j cN).ownBlock = some k → W.heap.size + 1 ≤ k := fun k hk => own_base NO5.out k hk
              have S5a := St.alloc HS5.out (.cells (enc40 s5).toArray 40)
              have S6 : St n w w6 on ts5 tv5 (.slice (some ⟨gV, 0, none⟩) on.length cV2) :=
                ⟨blk_grown S5a.en HG6.out (fun e => by have := hbN _ e.symm; omega), blk_grown S5a.et HG6.out (fun e => by have := hbN _ e.symm; omega), own_other S5a.ot HG6.out (own_type_ne HS5.out.ot NO5.out (by decide)),
                  own_other S5a.oo HG6.out (.inr (fun e => by have := hbN gV e.symm; omega)), S5a.hb.grown HG6.out (by simp; omega) (fun k hk => by have := hbN k hk; omega)⟩
              have er6 := blk_grown (blk_alloc ER5.out (.cells (enc40 s5).toArray 40)) HG6.out (fun e => by have := hbN _ e.symm; omega)
              have ho6 : w6.ownsRow (W.heap.size + 1) 40 3 (.slice (some ⟨g6, 0, none⟩) (j + 1) cap6) (j + 1) ((nx ++ [s5]).flatMap enc40) := by
                rw [List.flatMap_append, List.flatMap_singleton]; exact HO6.out
              have hst6 : stepS n (c : Int) on ts = ((nx ++ [s5]) ++ (stepS n (c : Int) (on.drop (p + 2)) ts5).1, (stepS n (c : Int) (on.drop (p + 2)) ts5).2) := by
                have h := HSTEP.out
                rw [List.drop_eq_getElem_cons hlt0, List.drop_eq_getElem_cons hlt1, HA0.out, HB0.out, stepS, HM5.out] at h
                rw [h, List.append_assoc]
                rfl
              have hl6 : ts5.length ≤ 64 * c + (j + 1) := by
                have := meet_len n (c : Int) a0 b0 ts'
                rw [HM5.out] at this
                have h2 : ts5.length ≤ ts'.length + 1 := this
                omega
              have H6 := Aside0.mk S6
              have E6 := Aside0.mk er6
              have O6 := Aside0.mk ho6
              have T6 := Aside0.mk hst6
              have wi2 := w64 (x := (p : Int) + 2) (by omega) (by omega)
              clear S6 S5a er6 ho6 hst6 hbN
              go_wp2_with fail
              exact fin2 _ (nx ++ [s5]) ts5 tv5 _ w6 rfl (by simp [hnx]) T6.out hl6 H6.out E6.out O6.out
            · obtain rfl : j = H := by omega
              have hst6 : stepS n (c : Int) on ts = (nx, ts') := by
                have h := HSTEP.out
                rw [List.drop_eq_nil_of_le (by omega)] at h
                rw [h]
                simp [stepS]
              have hr6' : roundsS n (rr n - (c + 1)) ((c + 1 : Nat) : Int) nx ts' = ties n := by
                have h := HRS.out
                rw [show rr n - c = (rr n - (c + 1)) + 1 by omega, roundsS, hst6] at h
                exact h
              have hS6 : St n w W' nx ts' tv' (.slice AN j cN) := ⟨HS'.out.en, HS'.out.et, HS'.out.ot, by rw [hnx]; exact own_weaken HNO.out (by omega), HS'.out.hb⟩
              have HS6 := Aside0.mk hS6
              have HR6 := Aside0.mk hr6'
              have HH := Aside0.mk hH
              have HOH := Aside0.mk hoH
              have wc := w64 (x := (c : Int) + 1) (by omega) (by omega)
              have hlast : decide (((2 * j : Nat) : Int) < (on.length : Int)) = false := decide_eq_false (by omega)
              have hlast2 : decide (2 * (j : Int) < (on.length : Int)) = false := decide_eq_false (by omega)
              have hl6 : ts'.length ≤ 64 * (c + 1) := Nat.le_trans htl' (Nat.add_le_add_left (Nat.le_trans hH32 (by decide)) (64 * c))
              clear hS6 hr6' hst6 hH hoH
              go_wp2_with fail
              rw [wc]
              exact fin _ nx ts' tv' _ W' rfl (by rw [hnx, HH.out]) HR6.out hl6 HS6.out
        · obtain rfl : c = rr n := by omega
          have hts : ts = ties n := by
            have h := HRS.out
            rw [Nat.sub_self, roundsS] at h
            exact h
          have c1 := blk_cell hS.et 0
          have f1 := blk_frozen hS.et 0
          simp only [List.getElem?_toArray, List.getElem?_cons_zero] at c1
          have e2 := blk_set hS.et 0 tv
          simp only [List.setIfInBounds_toArray, List.set_cons_zero] at e2
          have c2 := blk_cell e2 0
          simp only [List.getElem?_toArray, List.getElem?_cons_zero] at c2
          have ho2 := own_setCell hS.ot (p := ⟨w.heap.size + 1, 0, none⟩) (own_ne hS.ot hS.et (by decide)) tv
          rw [hts] at ho2
          have hb2 := below_set (j := 0) (v := tv) hS.hb (show w.heap.size ≤ w.heap.size + 1 by omega)
          obtain ⟨At, ct, rfl⟩ := own_slice hS.ot
          have HO2 := Aside0.mk ho2
          have HB3 := Aside0.mk hb2
          have HT := Aside0.mk hts
          clear hS e2 ho2 hb2 hts hrs
          go_wp2_with fail
          exact bodyPost_ret (v := .tuple #[.slice At ts.length ct, .int .i64 0]) (by simp [results, Try.results13, go_sem, c2]) rfl ⟨_, rfl, HO2.out, HB3.out⟩
set_option maxRecDepth 100000 in
set_option maxHeartbeats 16000000 in
theorem make_bad (a0 : Int) (h : ¬ (2 ≤ a0 ∧ a0 ≤ 64)) (w : World) : Calls Try.prog 13 #[.int .i64 a0] w fun e w' => e = .returned (.tuple #[.slice none 0 0, .int .i64 1]) ∧ Below w.heap.size w w' := by
  have hd : cups_Rounds.f a0 = some (0, 0, 1) := by
    unfold cups_Rounds.f
    by_cases h2 : a0 < 2
    · rw [if_pos h2]
    · rw [if_neg h2, if_pos (by omega)]
  go_enter Try.func13, Try.ntmps13
  go_wp2_with fail
  refine (cups_Rounds.calls a0 0 0 1 _ hd).mono ?_
  rintro e w1 ⟨rfl, ⟨n1, rfl⟩⟩
  have et1 : (((w.alloc (.cells #[.int .i64 a0] 3)).alloc (.cells #[.slice none 0 0] 26)).drewN n1).heap[w.heap.size + 1]? = some (.cells #[.slice none 0 0] 26 (0, 0)) := blk_at (w.alloc _) _ (by simp)
  have hb1 : Below w.heap.size w (((w.alloc (.cells #[.int .i64 a0] 3)).alloc (.cells #[.slice none 0 0] 26)).drewN n1) := pw_below_drewN (below_alloc (below_alloc (Below.refl _ _) _) _) n1
  obtain ⟨W1, hW1⟩ : ∃ W1, ((w.alloc (.cells #[.int .i64 a0] 3)).alloc (.cells #[.slice none 0 0] 26)).drewN n1 = W1 := ⟨_, rfl⟩
  rw [hW1] at et1 hb1 ⊢
  have c1 := blk_cell et1 0
  have f1 := blk_frozen et1 0
  simp only [List.getElem?_toArray, List.getElem?_cons_zero] at c1
  have e2 := blk_set et1 0 (.slice none 0 0)
  simp only [List.setIfInBounds_toArray, List.set_cons_zero] at e2
  have c2 := blk_cell e2 0
  simp only [List.getElem?_toArray, List.getElem?_cons_zero] at c2
  have hb2 := below_set (j := 0) (v := .slice none 0 0) hb1 (show w.heap.size ≤ w.heap.size + 1 by omega)
  have HB2 := Aside0.mk hb2
  clear hW1 hd et1 e2 hb1 hb2
  go_wp2_with fail
  exact bodyPost_ret (v := .tuple #[.slice none 0 0, .int .i64 1]) (by simp [results, Try.results13, go_sem, c2]) rfl ⟨rfl, HB2.out⟩
theorem enc42_seg : ∀ {ts : List S42} {j : Nat} {p : S42}, ts[j]? = some p → ((ts.flatMap enc42).drop (j * 7)).take 7 = enc42 p
  | [], _, _, h => by simp at h
  | a :: l, 0, p, h => by
    obtain rfl : a = p := by simpa using h
    rfl
  | a :: l, j + 1, p, h => by
    have ih := enc42_seg (ts := l) (j := j) (p := p) (by simpa using h)
    rw [List.flatMap_cons, show (j + 1) * 7 = j * 7 + 7 by omega, Nat.add_comm, ← List.drop_drop]
    exact ih
theorem row42 {W : World} {base : Nat} {v : Value} {ts : List S42} (h : W.ownsRow base 42 7 v ts.length (ts.flatMap enc42)) : Kd.R k42 42 W base (fun _ => True) v ts :=
  ⟨fun _ _ => trivial, ts.flatMap enc42, h, enc42_len ts, fun j p hp => by
    show k42.M _ _ _ p (((ts.flatMap enc42).drop (j * 7)).take 7)
    rw [enc42_seg hp]
    exact k42_mkM _ _ _ p⟩
end CK
def cups_Make.f (a0 : Int) : Option (List S42 × Int) := if 2 ≤ a0 ∧ a0 ≤ 64 then some (CK.ties a0.toNat, 0) else some ([], 1)
theorem cups_Make.calls (a0 : Int) (r1 : List (S42)) (r2 : Int) (w : World) (h : cups_Make.f a0 = some (r1, r2)) :
    Calls Try.prog 13 #[.int .i64 a0] w fun e w' => ∃ v0_ : Value, e = .returned (.tuple #[v0_, .int .i64 r2]) ∧ Kd.R k42 42 w' w.heap.size (fun _ => True) v0_ r1 ∧ Below w.heap.size w w' := by
  unfold cups_Make.f at h
  by_cases hb : 2 ≤ a0 ∧ a0 ≤ 64
  · rw [if_pos hb] at h
    cases h
    obtain ⟨n, rfl⟩ : ∃ n : Nat, a0 = (n : Int) := ⟨a0.toNat, (Int.toNat_of_nonneg (by omega)).symm⟩
    rw [Int.toNat_natCast]
    refine (CK.make_good n (by omega) (by omega) w).mono ?_
    rintro e w' ⟨v, rfl, ho, hb⟩
    exact ⟨v, rfl, CK.row42 ho, hb⟩
  · rw [if_neg hb] at h
    cases h
    refine (CK.make_bad a0 hb w).mono ?_
    rintro e w' ⟨rfl, hb⟩
    exact ⟨_, rfl, Kd.R_nil _ _ _ _ _, hb⟩
end Go.Proofs.Ytaadhandkljcdaa.X
