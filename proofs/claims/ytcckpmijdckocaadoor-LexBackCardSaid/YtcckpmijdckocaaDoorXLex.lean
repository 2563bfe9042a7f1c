/- Proved here: what lex.Lex returns (lex_Lex.calls) -/
import Derived.Test.YtcckpmijdckocaaDoorX0
import Derived.Test.YtcckpmijdckocaaDoorXLexa
import Derived.Laws.EntriesVeiled
import Derived.Test.YtcckpmijdckocaaDoorXStq
import Derived.Test.YtcckpmijdckocaaDoorXSgn
import Derived.Test.YtcckpmijdckocaaDoorXRcv
import Derived.Test.YtcckpmijdckocaaDoorXLexa
namespace Go.Proofs.YtcckpmijdckocaaDoor.X
open Go.RowKit Go.Proofs.YtcckpmijdckocaaDoorW.PrintWords Go.Proofs.YtcckpmijdckocaaDoorW.PrintLast Go.Proofs.YtcckpmijdckocaaDoorW.PrintMore
attribute [local go_sem] max2_int min2_int max_two min_two max_three min_three max_four min_four
set_option linter.unusedVariables false
set_option linter.unusedSimpArgs false
namespace LS
open Go.Proofs.YtcckpmijdckocaaDoor.K LX
attribute [local go_sem] Oper.semAt_some
set_option maxHeartbeats 16000000
set_option maxRecDepth 100000
abbrev fv (k : Nat) : Value := .func (.func k) #[] #[]
/-- The cells of Lex itself: its results and its table of functions. -/
structure Lm (w W : World) : Prop where
  e0 : W.heap[w.heap.size]? = some (.cells #[.slice none 0 0] 23 (0, 0))
  e1 : W.heap[w.heap.size + 1]? = some (.cells #[.int .i64 0] 3 (0, 0))
  e2 : W.heap[w.heap.size + 1 + 1]? = some (.cells #[.int .i64 0] 24 (0, 0))
  eD : W.heap[w.heap.size + 1 + 1 + 1]? = some (.cells #[fv 25, fv 26, fv 27, fv 28, fv 29, fv 25] 46 (0, 0))
  hb : Below w.heap.size w W
theorem Lm.to {w W W' : World} (h : Lm w W) (hb : Below (w.heap.size + 1 + 1 + 1 + 1) W W') : Lm w W' :=
  ⟨(hb.block _ (by omega)).trans h.e0, (hb.block _ (by omega)).trans h.e1, (hb.block _ (by omega)).trans h.e2, (hb.block _ (by omega)).trans h.eD, h.hb.trans (below_mono hb (by omega))⟩
theorem lex_big (src : ByteArray) (h : 65536 < src.size) (w : World) : Calls Tryd.prog 12 #[.string src] w fun e w' => e = .returned (.tuple #[.slice none 0 0, .int .i64 0, .int .i64 2]) ∧ Below w.heap.size w w' := by
  have k1 : decide ((65536 : Int) < (src.size : Int)) = true := decide_eq_true (by omega)
  have k2 : decide (65536 < src.size) = true := decide_eq_true h
  go_enter_defers Tryd.func12, Tryd.ntmps12
  go_wp2_with fail
  simp [bodyPostD, Leaves, settle, results, Tryd.results12, go_sem]
  exact below_alloc (below_alloc (below_alloc (Below.refl _ _) _) _) _
theorem fn_at (j : Nat) (h : j < 6) : (#[fv 25, fv 26, fv 27, fv 28, fv 29, fv 25] : Array Value)[j]? = some (fv (fnOf j)) := by
  match j, h with
  | 0, _ | 1, _ | 2, _ | 3, _ | 4, _ | 5, _ => rfl
theorem lex_ok (src : ByteArray) (hsrc : src.size ≤ 65536) (w : World) (hgl : GX.Glob w) : Calls Tryd.prog 12 #[.string src] w fun e w' => ∃ v, e = .returned (.tuple #[v, .int .i64 (lexR src.size 0 (bs src) []).2.1, .int .i64 (lexR src.size 0 (bs src) []).2.2]) ∧
    w'.ownsRow w.heap.size 35 4 v (lexR src.size 0 (bs src) []).1.length ((lexR src.size 0 (bs src) []).1.flatMap enc35) ∧ Below w.heap.size w w' := by
  have k1 : decide ((65536 : Int) < (src.size : Int)) = false := decide_eq_false (by omega)
  have k2 : decide (65536 < src.size) = false := decide_eq_false (by omega)
  have hmf : ∀ (fn : Fn) (first cap : Array Value) (w : World), (Instr.makeFunc fn first cap).run Tryd.prog w = .ok (.func fn first cap) w := fun _ _ _ _ => rfl
  have HGL := Aside0.mk hgl
  obtain ⟨R, hR⟩ : ∃ R, lexR src.size 0 (bs src) [] = R := ⟨_, rfl⟩
  rw [hR]
  have HR := Aside0.mk hR
  clear hgl hR
  go_enter_defers Tryd.func12, Tryd.ntmps12
  go_wp2_with fail
  obtain ⟨Wi, hWi⟩ : ∃ Wi, (((((w.alloc (Obj.cells #[Value.slice none 0 0] 23)).alloc (Obj.cells #[Value.int IntKind.i64 0] 3)).alloc (Obj.cells #[Value.int IntKind.i64 0] 24)).alloc (Obj.cells #[fv 25, fv 26, fv 27, fv 28, fv 29, fv 25] 46)).alloc (Obj.cells #[Value.string src, Value.int IntKind.i64 0, Value.slice none 0 0] 49)) = Wi := ⟨_, rfl⟩
  have hL : Lm w Wi := by
    rw [← hWi]
    refine ⟨?_, ?_, ?_, ?_, below_alloc (below_alloc (below_alloc (below_alloc (below_alloc (Below.refl _ _) _) _) _) _) _⟩
    · exact blk_alloc (blk_alloc (blk_alloc (blk_alloc (blk_new w _) _) _) _) _
    · exact blk_alloc (blk_alloc (blk_alloc (by simpa using blk_new (w.alloc (Obj.cells #[Value.slice none 0 0] 23)) (Obj.cells #[Value.int IntKind.i64 0] 3)) _) _) _
    · exact blk_alloc (blk_alloc (by simpa using blk_new ((w.alloc (Obj.cells #[Value.slice none 0 0] 23)).alloc (Obj.cells #[Value.int IntKind.i64 0] 3)) (Obj.cells #[Value.int IntKind.i64 0] 24)) _) _
    · exact blk_alloc (by simpa using blk_new (((w.alloc (Obj.cells #[Value.slice none 0 0] 23)).alloc (Obj.cells #[Value.int IntKind.i64 0] 3)).alloc (Obj.cells #[Value.int IntKind.i64 0] 24)) (Obj.cells #[fv 25, fv 26, fv 27, fv 28, fv 29, fv 25] 46)) _
  have hS : Sc src (w.heap.size + 1 + 1 + 1 + 1) 0 [] none 0 Wi := by
    rw [← hWi]
    refine ⟨?_, own_nil _ _ _ _, Nat.le_refl _⟩
    have h := blk_new ((((w.alloc (Obj.cells #[Value.slice none 0 0] 23)).alloc (Obj.cells #[Value.int IntKind.i64 0] 3)).alloc (Obj.cells #[Value.int IntKind.i64 0] 24)).alloc (Obj.cells #[fv 25, fv 26, fv 27, fv 28, fv 29, fv 25] 46)) (Obj.cells #[Value.string src, Value.int IntKind.i64 0, Value.slice none 0 0] 49)
    simp only [World.size_alloc] at h
    exact h
  rw [hWi]
  have HL := Aside0.mk hL
  have HS := Aside0.mk hS
  clear hL hS hWi hmf k1 k2
  refine wp_loop_ghost_k (fun q a W => ∃ (p : Nat) (l : List S35) (A : Option Addr) (cap k : Nat) (u : Nat → Value), q = src.size - p ∧ p ≤ src.size ∧ src.size - p ≤ k ∧ lexR k p ((bs src).drop p) l = R ∧ Lm w W ∧ Sc src (w.heap.size + 1 + 1 + 1 + 1) p l A cap W ∧ a = { tmps := List.toArray ((.string src : Value) :: u 1 :: (.pointer (some ⟨w.heap.size, 0, none⟩) : Value) :: (.pointer (some ⟨w.heap.size + 1, 0, none⟩) : Value) :: (.pointer (some ⟨w.heap.size + 1 + 1, 0, none⟩) : Value) :: (.pointer (some ⟨w.heap.size + 1 + 1 + 1, 0, none⟩) : Value) :: (.pointer (some ⟨w.heap.size + 1 + 1 + 1 + 1, 0, none⟩) : Value) :: u 7 :: u 8 :: u 9 :: u 10 :: u 11 :: u 12 :: u 13 :: u 14 :: u 15 :: u 16 :: u 17 :: u 18 :: u 19 :: u 20 :: u 21 :: u 22 :: u 23 :: u 24 :: u 25 :: u 26 :: u 27 :: u 28 :: u 29 :: u 30 :: u 31 :: u 32 :: u 33 :: u 34 :: u 35 :: u 36 :: u 37 :: u 38 :: []), defers := [{ target := .fn (.func 24) #[.pointer (some ⟨w.heap.size, 0, none⟩), .pointer (some ⟨w.heap.size + 1, 0, none⟩), .pointer (some ⟨w.heap.size + 1 + 1, 0, none⟩)], args := #[] }] }) src.size ?start ?round
  case start =>
    have sta : ∀ T : Array Value, T = List.toArray ((.string src : Value) :: T.getD 1 undef :: (.pointer (some ⟨w.heap.size, 0, none⟩) : Value) :: (.pointer (some ⟨w.heap.size + 1, 0, none⟩) : Value) :: (.pointer (some ⟨w.heap.size + 1 + 1, 0, none⟩) : Value) :: (.pointer (some ⟨w.heap.size + 1 + 1 + 1, 0, none⟩) : Value) :: (.pointer (some ⟨w.heap.size + 1 + 1 + 1 + 1, 0, none⟩) : Value) :: T.getD 7 undef :: T.getD 8 undef :: T.getD 9 undef :: T.getD 10 undef :: T.getD 11 undef :: T.getD 12 undef :: T.getD 13 undef :: T.getD 14 undef :: T.getD 15 undef :: T.getD 16 undef :: T.getD 17 undef :: T.getD 18 undef :: T.getD 19 undef :: T.getD 20 undef :: T.getD 21 undef :: T.getD 22 undef :: T.getD 23 undef :: T.getD 24 undef :: T.getD 25 undef :: T.getD 26 undef :: T.getD 27 undef :: T.getD 28 undef :: T.getD 29 undef :: T.getD 30 undef :: T.getD 31 undef :: T.getD 32 undef :: T.getD 33 undef :: T.getD 34 undef :: T.getD 35 undef :: T.getD 36 undef :: T.getD 37 undef :: T.getD 38 undef :: []) → ∃ (p : Nat) (l : List S35) (A : Option Addr) (cap k : Nat) (u : Nat → Value), src.size = src.size - p ∧ p ≤ src.size ∧ src.size - p ≤ k ∧ lexR k p ((bs src).drop p) l = R ∧ Lm w Wi ∧ Sc src (w.heap.size + 1 + 1 + 1 + 1) p l A cap Wi ∧ (Act.mk T [{ target := .fn (.func 24) #[.pointer (some ⟨w.heap.size, 0, none⟩), .pointer (some ⟨w.heap.size + 1, 0, none⟩), .pointer (some ⟨w.heap.size + 1 + 1, 0, none⟩)], args := #[] }]) = { tmps := List.toArray ((.string src : Value) :: u 1 :: (.pointer (some ⟨w.heap.size, 0, none⟩) : Value) :: (.pointer (some ⟨w.heap.size + 1, 0, none⟩) : Value) :: (.pointer (some ⟨w.heap.size + 1 + 1, 0, none⟩) : Value) :: (.pointer (some ⟨w.heap.size + 1 + 1 + 1, 0, none⟩) : Value) :: (.pointer (some ⟨w.heap.size + 1 + 1 + 1 + 1, 0, none⟩) : Value) :: u 7 :: u 8 :: u 9 :: u 10 :: u 11 :: u 12 :: u 13 :: u 14 :: u 15 :: u 16 :: u 17 :: u 18 :: u 19 :: u 20 :: u 21 :: u 22 :: u 23 :: u 24 :: u 25 :: u 26 :: u 27 :: u 28 :: u 29 :: u 30 :: u 31 :: u 32 :: u 33 :: u 34 :: u 35 :: u 36 :: u 37 :: u 38 :: []), defers := [{ target := .fn (.func 24) #[.pointer (some ⟨w.heap.size, 0, none⟩), .pointer (some ⟨w.heap.size + 1, 0, none⟩), .pointer (some ⟨w.heap.size + 1 + 1, 0, none⟩)], args := #[] }] } := fun T hT =>
      ⟨0, [], none, 0, src.size, fun i => T.getD i undef, rfl, Nat.zero_le _, Nat.le_refl _, HR.out, HL.out, HS.out, congrArg (fun T => (Act.mk T _)) hT⟩
    exact sta _ rfl
  case round =>
    clear HL HS HR
    rintro q a W ⟨p, l, A, cap, k, u, rfl, hp, hk, hlx, hL, hS, rfl⟩ J K hJ hK
    have c1 := blk_cell hS.blk 1
    have c2 := blk_cell hS.blk 2
    simp only [List.getElem?_toArray, List.getElem?_cons_zero, List.getElem?_cons_succ] at c1 c2
    have HL := Aside0.mk hL
    have HS := Aside0.mk hS
    have HLX := Aside0.mk hlx
    have bad : ∀ (T : Array Value) (W' : World), R = ([], (p : Int), 30) → Lm w W' → T[2]?.getD undef = .pointer (some ⟨w.heap.size, 0, none⟩) → T[3]?.getD undef = .pointer (some ⟨w.heap.size + 1, 0, none⟩) → T[4]?.getD undef = .pointer (some ⟨w.heap.size + 1 + 1, 0, none⟩) →
        bodyPostD Tryd.prog Tryd.f12 (fun e w' => ∃ v, e = .returned (.tuple #[v, .int .i64 R.2.1, .int .i64 R.2.2]) ∧ w'.ownsRow w.heap.size 35 4 v R.1.length (R.1.flatMap enc35) ∧ Below w.heap.size w w')
          (Exit.panic (thrown p)) { tmps := T, defers := [{ target := .fn (.func 24) #[.pointer (some ⟨w.heap.size, 0, none⟩), .pointer (some ⟨w.heap.size + 1, 0, none⟩), .pointer (some ⟨w.heap.size + 1 + 1, 0, none⟩)], args := #[] }] } W' := fun T W' hn hq h2 h3 h4 => by
      have c0 := blk_cell hq.e0 0
      have c1 := blk_cell hq.e1 0
      have c2 := blk_cell hq.e2 0
      simp only [List.getElem?_toArray, List.getElem?_cons_zero] at c0 c1 c2
      have x0 := blk_set hq.e0 0 (.slice none 0 0)
      have x1 := blk_set ((blk_far hq.e1 (p := ⟨w.heap.size, 0, none⟩) (by simp) (.slice none 0 0))) 0 (.int .i64 (p : Int))
      have x2 := blk_set (blk_far ((blk_far hq.e2 (p := ⟨w.heap.size, 0, none⟩) (by simp; omega) (.slice none 0 0))) (p := ⟨w.heap.size + 1, 0, none⟩) (by simp) (.int .i64 (p : Int))) 0 (.int .i64 30)
      have y0 := blk_far (blk_far x0 (p := ⟨w.heap.size + 1, 0, none⟩) (by simp) (.int .i64 (p : Int))) (p := ⟨w.heap.size + 1 + 1, 0, none⟩) (by simp; omega) (.int .i64 30)
      have y1 := blk_far x1 (p := ⟨w.heap.size + 1 + 1, 0, none⟩) (by simp) (.int .i64 30)
      simp only [List.setIfInBounds_toArray, List.set_cons_zero] at y0 y1 x2
      have z0 := blk_cell y0 0
      have z1 := blk_cell y1 0
      have z2 := blk_cell x2 0
      simp only [List.getElem?_toArray, List.getElem?_cons_zero] at z0 z1 z2
      refine leaves_cons (f := 24) (args := #[.pointer (some ⟨w.heap.size, 0, none⟩), .pointer (some ⟨w.heap.size + 1, 0, none⟩), .pointer (some ⟨w.heap.size + 1 + 1, 0, none⟩)]) (by simp) (by simp [go_sem]) ?_
      refine (rec_panicking w.heap.size p _ _ _ W' c0 (blk_frozen hq.e0 0) c1 (blk_frozen hq.e1 0) c2 (blk_frozen hq.e2 0)).mono ?_
      rintro e u' w'' ⟨rfl, rfl, rfl⟩
      subst hn
      simp [Leaves, settle, results, Tryd.results12, go_sem, h2, h3, h4, z0, z1, z2]
      exact ⟨own_nil _ _ _ _, below_drew1 (below_set (below_set (below_set hq.hb (Nat.le_refl _)) (by omega)) (by omega))⟩
    have BAD := Aside0.mk bad
    clear bad
    by_cases hlt : p < src.size
    · obtain ⟨x, hx⟩ : ∃ x, src[p] = x := ⟨_, rfl⟩
      obtain ⟨r, hr⟩ : ∃ r, (bs src).drop (p + 1) = r := ⟨_, rfl⟩
      have hd : (bs src).drop p = x :: r := by rw [drop_get (by rw [bs_len]; exact hlt), bs_get src p hlt, hx, hr]
      obtain ⟨j, hj, hj6⟩ := cls_lt x
      have hcell : W.cell? ⟨w.heap.size + 1 + 1 + 1, j, none⟩ = some (fv (fnOf j)) := (blk_cell hL.eD j).trans (fn_at j hj6)
      have k1 : decide ((p : Int) < (src.size : Int)) = true := decide_eq_true (by omega)
      have p6 : 0 ≤ (p : Int) := by omega
      have hx6 : ∀ h : p < src.size, ((src[p]'h).toNat : Int) = (x.toNat : Int) := fun h => by rw [hx]
      have q6 : (p < src.size) = True := eq_true hlt
      have qi6 : ((p : Int) < (src.size : Int)) = True := eq_true (by omega)
      have j1 : (j : Int) < 6 := by omega
      have j2 : j < 6 := hj6
      have HP := Aside0.mk (And.intro hlt hk)
      have HD := Aside0.mk hd
      have HJ6 := Aside0.mk (And.intro hj hj6)
      clear hL hS hlx hr hd hx hlt hj6 hp hk
      go_wp2_with fail
      refine (class_at x W).mono ?_
      rintro e W1 ⟨rfl, hb1⟩
      rw [HJ6.out.1]
      have d1 := pw_cell_below hb1 c1
      have dj := pw_cell_below hb1 hcell
      have HL1 := Aside0.mk (HL.out.to (below_mono hb1 (Nat.le_of_lt (blk_lt HS.out.blk))))
      have HS1 := Aside0.mk (HS.out.below hb1)
      clear hb1 c1 c2 hcell HL HS hj
      have hst := step_calls src hsrc (w.heap.size + 1 + 1 + 1 + 1) p x r HD.out l A cap W1 HS1.out (GX.gl HGL.out HL1.out.hb) j HJ6.out.1 HJ6.out.2
      have hfuel : ∃ k', k = k' + 1 ∧ src.size - p ≤ k' + 1 := ⟨k - 1, by have := HP.out; omega, by have := HP.out; omega⟩
      obtain ⟨k', rfl, hk'⟩ := hfuel
      have hlx := HLX.out
      rw [HD.out] at hlx
      simp only [lexR] at hlx
      cases hres : stepL p (x :: r) with
      | none =>
        rw [hres] at hlx hst
        have HLX2 := Aside0.mk hlx
        have HST := Aside0.mk hst
        clear hlx hst hres HLX hJ
        match j, j2 with
        | 0, _ | 1, _ | 2, _ | 3, _ | 4, _ | 5, _ =>
          simp only [fnOf] at dj
          go_wp2_with fail
          refine HST.out.mono ?_
          rintro e W2 ⟨rfl, hb2⟩
          exact BAD.out _ _ HLX2.out.symm (HL1.out.to hb2) rfl rfl rfl
      | some res =>
        obtain ⟨ts, n⟩ := res
        have hn := stepL_pos hres
        rw [hres] at hlx hst
        have HLX2 := Aside0.mk hlx
        have HST := Aside0.mk hst
        have HN := Aside0.mk hn
        have hlen : p + r.length + 1 = src.size := by
          have h := congrArg List.length HD.out
          rw [List.length_drop, bs_len, List.length_cons] at h
          have := HP.out.1
          omega
        have fin : ∀ (T : Array Value) (W2 : World) (A' : Option Addr) (cap' : Nat), T = List.toArray ((.string src : Value) :: T.getD 1 undef :: (.pointer (some ⟨w.heap.size, 0, none⟩) : Value) :: (.pointer (some ⟨w.heap.size + 1, 0, none⟩) : Value) :: (.pointer (some ⟨w.heap.size + 1 + 1, 0, none⟩) : Value) :: (.pointer (some ⟨w.heap.size + 1 + 1 + 1, 0, none⟩) : Value) :: (.pointer (some ⟨w.heap.size + 1 + 1 + 1 + 1, 0, none⟩) : Value) :: T.getD 7 undef :: T.getD 8 undef :: T.getD 9 undef :: T.getD 10 undef :: T.getD 11 undef :: T.getD 12 undef :: T.getD 13 undef :: T.getD 14 undef :: T.getD 15 undef :: T.getD 16 undef :: T.getD 17 undef :: T.getD 18 undef :: T.getD 19 undef :: T.getD 20 undef :: T.getD 21 undef :: T.getD 22 undef :: T.getD 23 undef :: T.getD 24 undef :: T.getD 25 undef :: T.getD 26 undef :: T.getD 27 undef :: T.getD 28 undef :: T.getD 29 undef :: T.getD 30 undef :: T.getD 31 undef :: T.getD 32 undef :: T.getD 33 undef :: T.getD 34 undef :: T.getD 35 undef :: T.getD 36 undef :: T.getD 37 undef :: T.getD 38 undef :: []) → Sc src (w.heap.size + 1 + 1 + 1 + 1) (p + n) (l ++ ts) A' cap' W2 → Lm w W2 → Handed J (src.size - p) { tmps := T, defers := [{ target := .fn (.func 24) #[.pointer (some ⟨w.heap.size, 0, none⟩), .pointer (some ⟨w.heap.size + 1, 0, none⟩), .pointer (some ⟨w.heap.size + 1 + 1, 0, none⟩)], args := #[] }] } W2 := fun T W2 A' cap' hT h1 h2 =>
          ⟨src.size - (p + n), by have := hn.1; have := HP.out.1; omega, hJ _ _ _ ⟨p + n, l ++ ts, A', cap', k', fun i => T.getD i undef, rfl, by have := hn.2; omega, by have := hn.1; omega, by rw [← List.drop_drop, HD.out]; exact hlx, h2, h1, congrArg (fun T => (Act.mk T _)) hT⟩⟩
        have FIN := Aside0.mk fin
        clear hlx hst hres hn hlen fin HLX hJ hk'
        match j, j2 with
        | 0, _ | 1, _ | 2, _ | 3, _ | 4, _ | 5, _ =>
          simp only [fnOf] at dj
          go_wp2_with fail
          refine HST.out.mono ?_
          rintro e W2 ⟨rfl, ⟨A', cap', hs2⟩, hb2⟩
          have HS2 := Aside0.mk hs2
          have HL2 := Aside0.mk (HL1.out.to hb2)
          clear hs2 hb2
          go_wp2_with fail
          exact FIN.out _ _ A' cap' rfl HS2.out HL2.out
    · have k1 : decide ((p : Int) < (src.size : Int)) = false := decide_eq_false (by omega)
      have k2 : decide (p < src.size) = false := decide_eq_false hlt
      rw [List.drop_of_length_le (by rw [bs_len]; omega)] at hlx
      have hRR : R = (l, 0, 0) := by rw [← hlx]; cases k <;> rfl
      subst hRR
      have b0 := blk_cell hL.e0 0
      have b1 := blk_cell hL.e1 0
      have b2 := blk_cell hL.e2 0
      have f0 := blk_frozen hL.e0 0
      have f1 := blk_frozen hL.e1 0
      have f2 := blk_frozen hL.e2 0
      simp only [List.getElem?_toArray, List.getElem?_cons_zero] at b0 b1 b2
      clear hL hS hlx BAD hJ hp hk hlt HLX
      go_wp2_with fail
      have hq := HL.out
      have how := HS.out.own
      have x0 := blk_set hq.e0 0 (.slice A l.length cap)
      have x1 := blk_set ((blk_far hq.e1 (p := ⟨w.heap.size, 0, none⟩) (by simp) (.slice A l.length cap))) 0 (.int .i64 0)
      have x2 := blk_set (blk_far ((blk_far hq.e2 (p := ⟨w.heap.size, 0, none⟩) (by simp; omega) (.slice A l.length cap))) (p := ⟨w.heap.size + 1, 0, none⟩) (by simp) (.int .i64 0)) 0 (.int .i64 0)
      have y0 := blk_far (blk_far x0 (p := ⟨w.heap.size + 1, 0, none⟩) (by simp) (.int .i64 0)) (p := ⟨w.heap.size + 1 + 1, 0, none⟩) (by simp; omega) (.int .i64 0)
      have y1 := blk_far x1 (p := ⟨w.heap.size + 1 + 1, 0, none⟩) (by simp) (.int .i64 0)
      simp only [List.setIfInBounds_toArray, List.set_cons_zero] at y0 y1 x2
      have z0 := blk_cell y0 0
      have z1 := blk_cell y1 0
      have z2 := blk_cell x2 0
      simp only [List.getElem?_toArray, List.getElem?_cons_zero] at z0 z1 z2
      have hne : ∀ b, b ≤ w.heap.size + 1 + 1 → some b ≠ (Value.slice A l.length cap).ownBlock := fun b hb e => by
        have := own_base how b e.symm
        omega
      have ho3 := own_weaken (own_setCell (own_setCell (own_setCell how (p := ⟨w.heap.size, 0, none⟩) (hne w.heap.size (by omega)) (.slice A l.length cap)) (p := ⟨w.heap.size + 1, 0, none⟩) (hne (w.heap.size + 1) (by omega)) (.int .i64 0)) (p := ⟨w.heap.size + 1 + 1, 0, none⟩) (hne _ (Nat.le_refl _)) (.int .i64 0)) (show w.heap.size ≤ w.heap.size + 1 + 1 + 1 + 1 + 1 by omega)
      refine leaves_cons (f := 24) (args := #[.pointer (some ⟨w.heap.size, 0, none⟩), .pointer (some ⟨w.heap.size + 1, 0, none⟩), .pointer (some ⟨w.heap.size + 1 + 1, 0, none⟩)]) (by simp) (by simp [go_sem]) ?_
      refine (rec_idle _ _ _ _).mono ?_
      rintro e u' w'' ⟨rfl, rfl, rfl⟩
      simp [Leaves, settle, results, Tryd.results12, go_sem, z0, z1, z2]
      exact ⟨ho3, below_set (below_set (below_set hq.hb (Nat.le_refl _)) (show w.heap.size ≤ w.heap.size + 1 by omega)) (show w.heap.size ≤ w.heap.size + 1 + 1 by omega)⟩
end LS
theorem reps35 {W : World} {base : Nat} {ok : Nat → Prop} : ∀ l : List S35, Reps (k35.M W base ok) 4 l (l.flatMap LS.enc35)
  | [] => Reps.none _ _
  | x :: l => Reps.c4 (k35_mkM W base ok x) (reps35 l)
theorem lex_Lex.calls (a0 : ByteArray) (r1 : List (S35)) (r2 : Int) (r3 : Int) (w : World) (hgl : GX.Glob w) (h : lex_Lex.f a0 = some (r1, r2, r3)) :
    Calls Tryd.prog 12 #[.string a0] w fun e w' => ∃ v0_ : Value, e = .returned (.tuple #[v0_, .int .i64 r2, .int .i64 r3]) ∧ Kd.R k35 35 w' w.heap.size (fun _ => True) v0_ r1 ∧ Below w.heap.size w w' := by
  unfold lex_Lex.f at h
  by_cases hs : a0.size ≤ 65536
  · rw [if_pos hs] at h
    have h' := Option.some.inj h
    refine (LS.lex_ok a0 hs w hgl).mono ?_
    rintro e w' ⟨v, rfl, ho, hb⟩
    rw [h'] at ho ⊢
    exact ⟨v, rfl, ⟨fun _ _ => trivial, _, ho, reps35 r1⟩, hb⟩
  · rw [if_neg hs] at h
    cases h
    refine (LS.lex_big a0 (by omega) w).mono ?_
    rintro e w' ⟨rfl, hb⟩
    exact ⟨_, rfl, Kd.R_nil _ _ _ _ _, hb⟩
end Go.Proofs.YtcckpmijdckocaaDoor.X
