/- Proved here: what scanner.run returns (LS.run_calls) -/
import Derived.Test.YtcckpmijdckocaaDoorX0
import Derived.Test.YtcckpmijdckocaaDoorXLx
import Derived.Test.YtcckpmijdckocaaDoorXLx
namespace Go.Proofs.YtcckpmijdckocaaDoor.X
open Go.RowKit Go.Proofs.YtcckpmijdckocaaDoorW.PrintWords Go.Proofs.YtcckpmijdckocaaDoorW.PrintLast Go.Proofs.YtcckpmijdckocaaDoorW.PrintMore
attribute [local go_sem] max2_int min2_int max_two min_two max_three min_three max_four min_four
set_option linter.unusedVariables false
set_option linter.unusedSimpArgs false
namespace LS
open Go.Proofs.YtcckpmijdckocaaDoor.K LX
attribute [local go_sem] Oper.semAt_some
set_option maxHeartbeats 4000000
set_option maxRecDepth 100000
abbrev scC (src : ByteArray) (at_ : Nat) (tv : Value) : Array Value := #[.string src, .int .i64 (at_ : Int), tv]
/-- How many bytes from a place on are of some classes. -/
def runN (L : List Int) (l : List UInt8) : Nat := (l.takeWhile fun c => L.contains (cls c)).length
theorem runN_le (L : List Int) (l : List UInt8) : runN L l ≤ l.length := (List.takeWhile_sublist _).length_le
theorem runN_pos {L : List Int} {c : UInt8} {r : List UInt8} (h : L.contains (cls c) = true) : runN L (c :: r) = runN L r + 1 := by unfold runN; rw [List.takeWhile_cons, if_pos h]; rfl
theorem runN_neg {L : List Int} {c : UInt8} {r : List UInt8} (h : L.contains (cls c) = false) : runN L (c :: r) = 0 := by unfold runN; rw [List.takeWhile_cons, if_neg (by rw [h]; decide)]; rfl
theorem run_calls (L : List Int) (src : ByteArray) (hsrc : src.size ≤ 65536) (at_ : Nat) (hat : at_ ≤ src.size) (tv : Value) (sb b c : Nat) (w : World) (hS : w.heap[sb]? = some (.cells (scC src at_ tv) 49 (0, 0)))
    (hL : w.heap[b]? = some (.cells (nums .i64 L).toArray 3 (0, 0))) (hn : L.length ≤ 16) :
    Calls Tryd.prog 43 #[.pointer (some ⟨sb, 0, none⟩), .slice (some ⟨b, 0, none⟩) L.length c] w fun e w' => e = .returned (.string (src.extract at_ (at_ + runN L ((bs src).drop at_)))) ∧ Below w.heap.size w w' := by
  obtain ⟨n, hN⟩ : ∃ n, L.length = n := ⟨_, rfl⟩
  rw [hN]
  obtain ⟨m, hm⟩ : ∃ m, at_ + runN L ((bs src).drop at_) = m := ⟨_, rfl⟩
  have hmS : m ≤ src.size := by
    have h1 := runN_le L ((bs src).drop at_)
    rw [List.length_drop, bs_len] at h1
    omega
  rw [hm]
  have c0 := blk_cell hS 0
  have c1 := blk_cell hS 1
  simp only [List.getElem?_toArray, List.getElem?_cons_zero, List.getElem?_cons_succ] at c0 c1
  have HN := Aside0.mk hN
  have HS := Aside0.mk hS
  have HL := Aside0.mk hL
  have HM := Aside0.mk hm
  clear hN hS hL hm
  go_enter Tryd.func43, Tryd.ntmps43
  go_wp2_with fail
  refine wp_loop_ghost_k (fun q a W => ∃ (i : Nat) (u : Nat → Value), q = src.size - i ∧ at_ ≤ i ∧ i ≤ m ∧ i + runN L ((bs src).drop i) = m ∧ Below w.heap.size w W ∧ a = { tmps := List.toArray ((.pointer (some ⟨sb, 0, none⟩) : Value) :: (.slice (some ⟨b, 0, none⟩) n c : Value) :: u 2 :: u 3 :: (.string ⟨#[]⟩ : Value) :: (.int .i64 (i : Int) : Value) :: u 6 :: u 7 :: u 8 :: u 9 :: u 10 :: u 11 :: u 12 :: u 13 :: u 14 :: u 15 :: u 16 :: u 17 :: u 18 :: u 19 :: u 20 :: u 21 :: u 22 :: u 23 :: u 24 :: u 25 :: u 26 :: u 27 :: u 28 :: u 29 :: u 30 :: u 31 :: u 32 :: u 33 :: u 34 :: u 35 :: u 36 :: u 37 :: u 38 :: u 39 :: []), defers := [] }) (src.size - at_) ?start ?round
  case start =>
    have sta : ∀ T : Array Value, T = List.toArray ((.pointer (some ⟨sb, 0, none⟩) : Value) :: (.slice (some ⟨b, 0, none⟩) n c : Value) :: T.getD 2 undef :: T.getD 3 undef :: (.string ⟨#[]⟩ : Value) :: (.int .i64 (at_ : Int) : Value) :: T.getD 6 undef :: T.getD 7 undef :: T.getD 8 undef :: T.getD 9 undef :: T.getD 10 undef :: T.getD 11 undef :: T.getD 12 undef :: T.getD 13 undef :: T.getD 14 undef :: T.getD 15 undef :: T.getD 16 undef :: T.getD 17 undef :: T.getD 18 undef :: T.getD 19 undef :: T.getD 20 undef :: T.getD 21 undef :: T.getD 22 undef :: T.getD 23 undef :: T.getD 24 undef :: T.getD 25 undef :: T.getD 26 undef :: T.getD 27 undef :: T.getD 28 undef :: T.getD 29 undef :: T.getD 30 undef :: T.getD 31 undef :: T.getD 32 undef :: T.getD 33 undef :: T.getD 34 undef :: T.getD 35 undef :: T.getD 36 undef :: T.getD 37 undef :: T.getD 38 undef :: T.getD 39 undef :: []) → ∃ (i : Nat) (u : Nat → Value), src.size - at_ = src.size - i ∧ at_ ≤ i ∧ i ≤ m ∧ i + runN L ((bs src).drop i) = m ∧ Below w.heap.size w w ∧ (Act.mk T []) = { tmps := List.toArray ((.pointer (some ⟨sb, 0, none⟩) : Value) :: (.slice (some ⟨b, 0, none⟩) n c : Value) :: u 2 :: u 3 :: (.string ⟨#[]⟩ : Value) :: (.int .i64 (i : Int) : Value) :: u 6 :: u 7 :: u 8 :: u 9 :: u 10 :: u 11 :: u 12 :: u 13 :: u 14 :: u 15 :: u 16 :: u 17 :: u 18 :: u 19 :: u 20 :: u 21 :: u 22 :: u 23 :: u 24 :: u 25 :: u 26 :: u 27 :: u 28 :: u 29 :: u 30 :: u 31 :: u 32 :: u 33 :: u 34 :: u 35 :: u 36 :: u 37 :: u 38 :: u 39 :: []), defers := [] } := fun T hT =>
      ⟨at_, fun i => T.getD i undef, rfl, Nat.le_refl _, by rw [← HM.out]; exact Nat.le_add_right _ _, HM.out, Below.refl _ _, congrArg (fun T => (Act.mk T _)) hT⟩
    exact sta _ rfl
  case round =>
    rintro q a W ⟨i, u, rfl, h1, h2, h3, hb, rfl⟩ J K hJ hK
    have w0 := pw_cell_below hb c0
    have w1 := pw_cell_below hb c1
    have HB := Aside0.mk hb
    have H3 := Aside0.mk h3
    clear hb h3
    by_cases hlt : i < src.size
    · obtain ⟨x, hx⟩ : ∃ x, src[i] = x := ⟨_, rfl⟩
      have hd : (bs src).drop i = x :: (bs src).drop (i + 1) := by rw [drop_get (by rw [bs_len]; exact hlt), bs_get src i hlt, hx]
      have k1 : decide ((i : Int) < (src.size : Int)) = true := decide_eq_true (by omega)
      have p6 : 0 ≤ (i : Int) := by omega
      have hx6 : ∀ h : i < src.size, ((src[i]'h).toNat : Int) = (x.toNat : Int) := fun h => by rw [hx]
      have q6 : (i < src.size) = True := eq_true hlt
      have qi6 : ((i : Int) < (src.size : Int)) = True := eq_true (by omega)
      have HD := Aside0.mk hd
      have H12 := Aside0.mk (And.intro h1 h2)
      have HLT := Aside0.mk hlt
      clear hd hx hlt h1 h2
      go_wp2_with fail
      refine (class_at x W).mono ?_
      rintro e W1 ⟨rfl, hb1⟩
      have hbl := blk_below (blk_below HL.out HB.out) hb1
      have cc : ∀ j, j < L.length → W1.cell? ⟨b, 0 + j, none⟩ = some (.int .i64 (L.getD j 0)) := fun j hj => by
        rw [Nat.zero_add, blk_cell hbl j]
        simp [nums, List.getD_eq_getElem?_getD, hj]
      have hcon := Tryd.slices_Contains_int b 0 n c L (cls x) W1 (by rw [HN.out]; exact Nat.le_refl _) (by have := HN.out; omega) cc
      rw [List.take_of_length_le (by rw [HN.out]; exact Nat.le_refl _)] at hcon
      have hb2 := below_then HB.out HB.out.size hb1
      have HB2 := Aside0.mk hb2
      have HCON := Aside0.mk hcon
      have z0 := pw_cell_below hb1 w0
      have z1 := pw_cell_below hb1 w1
      clear hb1 hbl cc hcon hb2 HB w0 w1
      go_wp2_with fail
      refine HCON.out.mono ?_
      rintro e W2 ⟨rfl, rfl⟩
      have H4 := H3.out
      rw [HD.out] at H4
      cases hct : L.contains (cls x)
      · rw [runN_neg hct] at H4
        obtain rfl : i = m := by omega
        have g1 : at_ ≤ i := H12.out.1
        have g2 : i ≤ src.size := Nat.le_of_lt HLT.out
        clear hct H4 HCON hJ H3 HD p6 hx6 q6 qi6
        go_wp2_with fail
        have g3 : ((at_ : Int) ≤ (i : Int)) := by omega
        have g4 : ((i : Int) ≤ (src.size : Int)) := by omega
        go_quiet (fail)
        go_wp2_with fail
        exact bodyPost_ret (v := .string (src.extract at_ i)) (by simp [results, Tryd.results43, go_sem]) rfl ⟨rfl, pw_below_drewN HB2.out _⟩
      · rw [runN_pos hct] at H4
        have H5 : i + 1 + runN L ((bs src).drop (i + 1)) = m := by omega
        have HH := Aside0.mk H5
        have hi1 : i + 1 ≤ m := by omega
        have HI := Aside0.mk hi1
        have hi6 : (i : Int) ≤ 65535 := by have := HLT.out; omega
        clear hct H4 H5 HCON hi1
        go_wp2_with fail
        have sta : ∀ (T : Array Value), T = List.toArray ((.pointer (some ⟨sb, 0, none⟩) : Value) :: (.slice (some ⟨b, 0, none⟩) n c : Value) :: T.getD 2 undef :: T.getD 3 undef :: (.string ⟨#[]⟩ : Value) :: (.int .i64 ((i : Int) + 1) : Value) :: T.getD 6 undef :: T.getD 7 undef :: T.getD 8 undef :: T.getD 9 undef :: T.getD 10 undef :: T.getD 11 undef :: T.getD 12 undef :: T.getD 13 undef :: T.getD 14 undef :: T.getD 15 undef :: T.getD 16 undef :: T.getD 17 undef :: T.getD 18 undef :: T.getD 19 undef :: T.getD 20 undef :: T.getD 21 undef :: T.getD 22 undef :: T.getD 23 undef :: T.getD 24 undef :: T.getD 25 undef :: T.getD 26 undef :: T.getD 27 undef :: T.getD 28 undef :: T.getD 29 undef :: T.getD 30 undef :: T.getD 31 undef :: T.getD 32 undef :: T.getD 33 undef :: T.getD 34 undef :: T.getD 35 undef :: T.getD 36 undef :: T.getD 37 undef :: T.getD 38 undef :: T.getD 39 undef :: []) → Handed J (src.size - i) { tmps := T, defers := [] } W2 := fun T hT =>
          ⟨src.size - (i + 1), by have := HLT.out; omega, hJ _ _ _ ⟨i + 1, fun i => T.getD i undef, rfl, by have := H12.out.1; omega, HI.out, HH.out, HB2.out, by rw [Int.natCast_add]; exact congrArg (fun T => (Act.mk T _)) hT⟩⟩
        exact sta _ rfl
    · have k1 : decide ((i : Int) < (src.size : Int)) = false := decide_eq_false (by omega)
      have H4 := H3.out
      rw [List.drop_of_length_le (by rw [bs_len]; omega)] at H4
      obtain rfl : i = m := by simpa [runN] using H4
      have g1 : at_ ≤ i := h1
      have g2 : i ≤ src.size := hmS
      have HB2 := HB
      clear H4 hJ H3 h1 h2 HB
      go_wp2_with fail
      have g3 : ((at_ : Int) ≤ (i : Int)) := by omega
      have g4 : ((i : Int) ≤ (src.size : Int)) := by omega
      go_quiet (fail)
      go_wp2_with fail
      exact bodyPost_ret (v := .string (src.extract at_ i)) (by simp [results, Tryd.results43, go_sem]) rfl ⟨rfl, pw_below_drewN HB2.out _⟩
end LS
end Go.Proofs.YtcckpmijdckocaaDoor.X
