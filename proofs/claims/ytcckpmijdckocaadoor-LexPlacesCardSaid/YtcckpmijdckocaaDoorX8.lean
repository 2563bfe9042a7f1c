/- Proved here: for functions of the program and of the reference, what each call returns (theorems '.calls'), under the conditions that each theorem names. Printed by this project's own driver over the kit's printer; parts marked EXT are written by hand. Lean checks it. -/
import Derived.Test.YtcckpmijdckocaaDoorX0
import Derived.Test.YtcckpmijdckocaaDoorK
namespace Go.Proofs.YtcckpmijdckocaaDoor.X
open Go.RowKit Go.Proofs.YtcckpmijdckocaaDoorW.PrintWords Go.Proofs.YtcckpmijdckocaaDoorW.PrintLast Go.Proofs.YtcckpmijdckocaaDoorW.PrintMore
attribute [local go_sem] max2_int min2_int max_two min_two max_three min_three max_four min_four   -- for this text's walks alone
set_option linter.unusedVariables false
set_option linter.unusedSimpArgs false

-- EXT lex_Same: function 18
-- def lex_Same.f (l0 : List (S35)) (l1 : List (S35)) : Option (Bool) := 
-- theorem lex_Same.calls (A0 : Option Addr) (c0 : Nat) (l0 : List (S35)) (A1 : Option Addr) (c1 : Nat) (l1 : List (S35)) (r : Bool) (w : World) (hr0 : Kd.C k35 w A0 l0.length l0) (hc0 : l0.length ≤ c0) (hr1 : Kd.C k35 w A1 l1.length l1) (hc1 : l1.length ≤ c1) (h : lex_Same.f l0 l1 = some r) :
--     Calls Tryd.prog 18 #[.slice A0 l0.length c0, .slice A1 l1.length c1] w fun e w' => e = .returned (.bool r) ∧ Below w.heap.size w w'
-- INFO: 35
-- IMPORTS: Derived.Test.YtcckpmijdckocaaDoorK
namespace LS
open Go.Proofs.YtcckpmijdckocaaDoor.K
attribute [local go_sem] Oper.semAt_some
set_option maxHeartbeats 4000000
set_option maxRecDepth 100000
def tokEq (x y : S35) : Bool := decide (x.f0 = y.f0) && (x.f1.toList == y.f1.toList) && decide (x.f2 = y.f2)
theorem in42 (a0 : Int) (a1 : ByteArray) (a2 a3 b0 : Int) (b1 : ByteArray) (b2 b3 : Int) (w : World) : Calls Tryd.prog 42 #[.agg #[.int .i64 a0, .string a1, .int .i64 a2, .int .i64 a3], .agg #[.int .i64 b0, .string b1, .int .i64 b2, .int .i64 b3]] w fun e w' => e = .returned (.bool (tokEq ⟨a0, a1, a2, a3⟩ ⟨b0, b1, b2, b3⟩)) ∧ Below w.heap.size w w' := by
  have ht : tokEq ⟨a0, a1, a2, a3⟩ ⟨b0, b1, b2, b3⟩ = (decide (a0 = b0) && (a1.toList == b1.toList) && decide (a2 = b2)) := rfl
  rw [ht]
  clear ht
  by_cases h0 : a0 = b0
  · have k0 : decide (a0 = b0) = true := decide_eq_true h0
    by_cases h1 : a1.toList = b1.toList
    · have k1 : (a1.toList == b1.toList) = true := beq_iff_eq.2 h1
      rw [k0, k1]
      go_enter Tryd.func42, Tryd.ntmps42
      go_wp2_with fail
      exact bodyPost_ret (v := .bool (a2 == b2)) (by simp [results, Tryd.results42, go_sem]) rfl ⟨by congr 2, below_alloc (below_alloc (Below.refl _ _) _) _⟩
    · have k1 : (a1.toList == b1.toList) = false := beq_eq_false_iff_ne.2 h1
      rw [k0, k1]
      go_enter Tryd.func42, Tryd.ntmps42
      go_wp2_with fail
      exact bodyPost_ret (v := .bool false) (by simp [results, Tryd.results42, go_sem]) rfl ⟨rfl, below_alloc (below_alloc (Below.refl _ _) _) _⟩
  · have k0 : decide (a0 = b0) = false := decide_eq_false h0
    have k2 : (a0 == b0) = false := beq_eq_false_iff_ne.2 h0
    rw [k0]
    clear h0
    go_enter Tryd.func42, Tryd.ntmps42
    go_wp2_with fail
    exact bodyPost_ret (v := .bool false) (by simp [results, Tryd.results42, go_sem]) rfl ⟨rfl, below_alloc (below_alloc (Below.refl _ _) _) _⟩
def eqL : List S35 → List S35 → Bool
  | [], [] => true
  | x :: a, y :: b => tokEq x y && eqL a b
  | _, _ => false
theorem eqL_len : ∀ (a b : List S35), a.length ≠ b.length → eqL a b = false
  | [], [], h => absurd rfl h
  | [], _ :: _, _ => rfl
  | _ :: _, [], _ => rfl
  | x :: a, y :: b, h => by rw [eqL, eqL_len a b (fun e => h (by simp [e])), Bool.and_false]
theorem rd35_lt {l : List S35} {i : Nat} (h : i < l.length) : rd_T35 l (i : Int) = l[i] := by
  unfold rd_T35
  rw [Int.toNat_natCast, getD_lt h]
theorem eqf_ne (A0 : Option Addr) (n0 c0 : Nat) (A1 : Option Addr) (n1 c1 : Nat) (w : World) (h : n0 ≠ n1) : Calls Tryd.prog 41 #[.slice A0 n0 c0, .slice A1 n1 c1, .func (.func 42) #[] #[]] w fun e w' => e = .returned (.bool false) ∧ Below w.heap.size w w' := by
  have k0 : ((n0 : Int) != (n1 : Int)) = true := by simp; omega
  have k1 : decide ((n0 : Int) = (n1 : Int)) = false := decide_eq_false (by omega)
  have k2 : decide (n0 = n1) = false := decide_eq_false h
  clear h
  go_enter Tryd.func41, Tryd.ntmps41
  go_wp2_with fail
  exact bodyPost_ret (v := .bool false) (by simp [results, Tryd.results41, go_sem]) rfl ⟨rfl, Below.refl _ _⟩
theorem eqf_eq (A0 : Option Addr) (c0 : Nat) (l0 : List S35) (A1 : Option Addr) (c1 : Nat) (l1 : List S35) (w : World) (hr0 : Kd.C k35 w A0 l0.length l0) (hr1 : Kd.C k35 w A1 l1.length l1) (h : l0.length = l1.length) (hl : l0.length < 4611686018427387904) :
    Calls Tryd.prog 41 #[.slice A0 l0.length c0, .slice A1 l1.length c1, .func (.func 42) #[] #[]] w fun e w' => e = .returned (.bool (eqL l0 l1)) ∧ Below w.heap.size w w' := by
  obtain ⟨n0, hn0⟩ : ∃ n0 : Nat, l0.length = n0 := ⟨_, rfl⟩
  rw [← h, hn0]
  have HR0 := Aside0.mk hr0
  have HR1 := Aside0.mk hr1
  have HN := Aside0.mk (And.intro hn0 (h.symm.trans hn0))
  rw [hn0] at hl
  clear hr0 hr1 hn0 h
  go_enter Tryd.func41, Tryd.ntmps41
  go_wp2_with fail
  refine wp_loop_ghost_k (fun q a W => ∃ (i : Nat) (u : Nat → Value), q = n0 - i ∧ i ≤ n0 ∧ eqL (l0.drop i) (l1.drop i) = eqL l0 l1 ∧ Below w.heap.size w W ∧ a = { tmps := List.toArray ((.slice A0 n0 c0 : Value) :: (.slice A1 n0 c1 : Value) :: (.func (.func 42) #[] #[] : Value) :: u 3 :: u 4 :: u 5 :: u 6 :: u 7 :: u 8 :: u 9 :: u 10 :: u 11 :: u 12 :: u 13 :: u 14 :: (.slice A0 n0 c0 : Value) :: (.int .i64 (n0 : Int) : Value) :: (.int .i64 (i : Int) : Value) :: u 18 :: u 19 :: u 20 :: u 21 :: u 22 :: u 23 :: u 24 :: u 25 :: u 26 :: u 27 :: u 28 :: u 29 :: u 30 :: u 31 :: []), defers := [] }) n0 ?start ?round
  case start =>
    have sta : ∀ T : Array Value, T = List.toArray ((.slice A0 n0 c0 : Value) :: (.slice A1 n0 c1 : Value) :: (.func (.func 42) #[] #[] : Value) :: T.getD 3 undef :: T.getD 4 undef :: T.getD 5 undef :: T.getD 6 undef :: T.getD 7 undef :: T.getD 8 undef :: T.getD 9 undef :: T.getD 10 undef :: T.getD 11 undef :: T.getD 12 undef :: T.getD 13 undef :: T.getD 14 undef :: (.slice A0 n0 c0 : Value) :: (.int .i64 (n0 : Int) : Value) :: (.int .i64 0 : Value) :: T.getD 18 undef :: T.getD 19 undef :: T.getD 20 undef :: T.getD 21 undef :: T.getD 22 undef :: T.getD 23 undef :: T.getD 24 undef :: T.getD 25 undef :: T.getD 26 undef :: T.getD 27 undef :: T.getD 28 undef :: T.getD 29 undef :: T.getD 30 undef :: T.getD 31 undef :: []) → ∃ (i : Nat) (u : Nat → Value), n0 = n0 - i ∧ i ≤ n0 ∧ eqL (l0.drop i) (l1.drop i) = eqL l0 l1 ∧ Below w.heap.size w w ∧ (Act.mk T []) = { tmps := List.toArray ((.slice A0 n0 c0 : Value) :: (.slice A1 n0 c1 : Value) :: (.func (.func 42) #[] #[] : Value) :: u 3 :: u 4 :: u 5 :: u 6 :: u 7 :: u 8 :: u 9 :: u 10 :: u 11 :: u 12 :: u 13 :: u 14 :: (.slice A0 n0 c0 : Value) :: (.int .i64 (n0 : Int) : Value) :: (.int .i64 (i : Int) : Value) :: u 18 :: u 19 :: u 20 :: u 21 :: u 22 :: u 23 :: u 24 :: u 25 :: u 26 :: u 27 :: u 28 :: u 29 :: u 30 :: u 31 :: []), defers := [] } := fun T hT =>
      ⟨0, fun i => T.getD i undef, rfl, Nat.zero_le _, rfl, Below.refl _ _, congrArg (fun T => (Act.mk T _)) hT⟩
    exact sta _ rfl
  case round =>
    rintro q a W ⟨i, u, rfl, hi, heq, hb, rfl⟩ J K hJ hK
    have HEQ := Aside0.mk heq
    have HB := Aside0.mk hb
    by_cases hlt : i < n0
    · have k1 : decide ((i : Int) < (n0 : Int)) = true := decide_eq_true (by omega)
      have i0 : i < l0.length := by rw [HN.out.1]; exact hlt
      have i1 : i < l1.length := by rw [HN.out.2]; exact hlt
      obtain ⟨ad0, rfl, p0, p1, p2, p3⟩ := at_T35 (Kd.C_below HR0.out hb) (i : Int) (by omega) (by omega)
      obtain ⟨ad1, rfl, q0, q1, q2, q3⟩ := at_T35 (Kd.C_below HR1.out hb) (i : Int) (by omega) (by omega)
      rw [rd35_lt i0, Int.toNat_natCast] at p0 p1 p2 p3
      rw [rd35_lt i1, Int.toNat_natCast] at q0 q1 q2 q3
      clear heq hb
      obtain ⟨x, hx⟩ : ∃ x, l0[i] = x := ⟨_, rfl⟩
      obtain ⟨y, hy⟩ : ∃ y, l1[i] = y := ⟨_, rfl⟩
      rw [hx] at p0 p1 p2 p3
      rw [hy] at q0 q1 q2 q3
      have HXY := Aside0.mk (And.intro hx hy)
      clear hx hy
      obtain ⟨x0, x1, x2, x3⟩ := x
      obtain ⟨y0, y1, y2, y3⟩ := y
      simp only at p0 p1 p2 p3 q0 q1 q2 q3
      have r0 := fun o : Obj => pw_cell_below (below_alloc (Below.refl W.heap.size W) o) q0
      have r1 := fun o : Obj => pw_cell_below (below_alloc (Below.refl W.heap.size W) o) q1
      have r2 := fun o : Obj => pw_cell_below (below_alloc (Below.refl W.heap.size W) o) q2
      have r3 := fun o : Obj => pw_cell_below (below_alloc (Below.refl W.heap.size W) o) q3
      clear q0 q1 q2 q3
      go_wp2_with fail
      refine (in42 x0 x1 x2 x3 y0 y1 y2 y3 _).mono ?_
      rintro e W1 ⟨rfl, B1⟩
      have E1 := Aside0.mk (below_then (below_alloc (below_alloc HB.out _) _) (below_alloc (below_alloc HB.out _) _).size B1)
      have heq := HEQ.out
      rw [drop_get i0, drop_get i1, HXY.out.1, HXY.out.2, eqL] at heq
      obtain ⟨t, ht⟩ : ∃ t, tokEq ⟨x0, x1, x2, x3⟩ ⟨y0, y1, y2, y3⟩ = t := ⟨_, rfl⟩
      rw [ht] at heq ⊢
      clear B1 p0 p1 p2 p3 r0 r1 r2 r3 HB HEQ ht
      cases t
      · rw [Bool.false_and] at heq
        have H2 := Aside0.mk heq
        clear heq
        go_wp2_with fail
        exact bodyPost_ret (v := .bool false) (by simp [results, Tryd.results41, go_sem]) rfl ⟨by rw [← H2.out], E1.out⟩
      · rw [Bool.true_and] at heq
        have H2 := Aside0.mk heq
        clear heq
        go_wp2_with fail
        have sta : ∀ (T : Array Value), T = List.toArray ((.slice (some ad0) n0 c0 : Value) :: (.slice (some ad1) n0 c1 : Value) :: (.func (.func 42) #[] #[] : Value) :: T.getD 3 undef :: T.getD 4 undef :: T.getD 5 undef :: T.getD 6 undef :: T.getD 7 undef :: T.getD 8 undef :: T.getD 9 undef :: T.getD 10 undef :: T.getD 11 undef :: T.getD 12 undef :: T.getD 13 undef :: T.getD 14 undef :: (.slice (some ad0) n0 c0 : Value) :: (.int .i64 (n0 : Int) : Value) :: (.int .i64 ((i : Int) + 1) : Value) :: T.getD 18 undef :: T.getD 19 undef :: T.getD 20 undef :: T.getD 21 undef :: T.getD 22 undef :: T.getD 23 undef :: T.getD 24 undef :: T.getD 25 undef :: T.getD 26 undef :: T.getD 27 undef :: T.getD 28 undef :: T.getD 29 undef :: T.getD 30 undef :: T.getD 31 undef :: []) → Handed J (n0 - i) { tmps := T, defers := [] } W1 := fun T hT =>
          ⟨n0 - (i + 1), by omega, hJ _ _ _ ⟨i + 1, fun i => T.getD i undef, rfl, by omega, H2.out, E1.out, by rw [Int.natCast_add]; exact congrArg (fun T => (Act.mk T _)) hT⟩⟩
        exact sta _ rfl
    · obtain rfl : i = n0 := by omega
      have k1 : decide ((i : Int) < (i : Int)) = false := decide_eq_false (by omega)
      rw [List.drop_of_length_le (by rw [HN.out.1]; exact Nat.le_refl _), List.drop_of_length_le (by rw [HN.out.2]; exact Nat.le_refl _)] at heq
      have H2 := Aside0.mk heq
      clear heq hb hJ
      go_wp2_with fail
      exact bodyPost_ret (v := .bool true) (by simp [results, Tryd.results41, go_sem]) rfl ⟨by rw [← H2.out]; rfl, HB.out⟩
end LS
def lex_Same.f (l0 : List (S35)) (l1 : List (S35)) : Option (Bool) := if l0.length < 4611686018427387904 then some (LS.eqL l0 l1) else none
theorem lex_Same.calls (A0 : Option Addr) (c0 : Nat) (l0 : List (S35)) (A1 : Option Addr) (c1 : Nat) (l1 : List (S35)) (r : Bool) (w : World) (hr0 : Kd.C k35 w A0 l0.length l0) (hc0 : l0.length ≤ c0) (hr1 : Kd.C k35 w A1 l1.length l1) (hc1 : l1.length ≤ c1) (h : lex_Same.f l0 l1 = some r) :
    Calls Tryd.prog 18 #[.slice A0 l0.length c0, .slice A1 l1.length c1] w fun e w' => e = .returned (.bool r) ∧ Below w.heap.size w w' := by
  unfold lex_Same.f at h
  by_cases hl : l0.length < 4611686018427387904
  · rw [if_pos hl] at h
    obtain rfl := Option.some.inj h
    have hcc : Calls Tryd.prog 41 #[.slice A0 l0.length c0, .slice A1 l1.length c1, .func (.func 42) #[] #[]] w fun e w' => e = .returned (.bool (LS.eqL l0 l1)) ∧ Below w.heap.size w w' := by
      by_cases he : l0.length = l1.length
      · exact LS.eqf_eq A0 c0 l0 A1 c1 l1 w hr0 hr1 he hl
      · rw [LS.eqL_len l0 l1 he]
        exact LS.eqf_ne A0 l0.length c0 A1 l1.length c1 w he
    obtain ⟨n0, hn0⟩ : ∃ n0 : Nat, l0.length = n0 := ⟨_, rfl⟩
    obtain ⟨n1, hn1⟩ : ∃ n1 : Nat, l1.length = n1 := ⟨_, rfl⟩
    rw [hn0, hn1] at hcc ⊢
    have HCC := Aside0.mk hcc
    clear hcc hr0 hr1 hc0 hc1 hn0 hn1 hl h
    go_enter Tryd.func18, Tryd.ntmps18
    go_wp2_with fail
    refine HCC.out.mono ?_
    rintro e w1 ⟨rfl, hb⟩
    have HB := Aside0.mk hb
    clear hb HCC
    go_wp2_with fail
    exact bodyPost_ret (v := .bool (LS.eqL l0 l1)) (by simp [results, Tryd.results18, go_sem]) rfl ⟨rfl, HB.out⟩
  · rw [if_neg hl] at h
    cases h

end Go.Proofs.YtcckpmijdckocaaDoor.X
