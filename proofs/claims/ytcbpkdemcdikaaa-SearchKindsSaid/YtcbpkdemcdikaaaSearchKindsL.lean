/- Proved here: parts of the walk and of the plain law of SearchKinds, put into one text (names and lines made short by a program). -/
import Derived.Test.YtcbpkdemcdikaaaSearchKindsD
import Derived.Test.YtcbpkdemcdikaaaSearchKindsJ
import Derived.Shelf.Abstract
import Derived.Laws.EntriesVeiled
import Derived.Lib.AppendZerosOnto
import Derived.Maps.AppendAt
import Derived.Lib.Walk
import Derived.Lib.SliceRun
import Derived.Test.YtcbpkdemcdikaaaSearchKindsK
import Derived.Test.YtcbpkdemcdikaaaSearchKindsH
import Derived.WalkMore
import Derived.Test.YtcbpkdemcdikaaaSearchKindsF
namespace Go.Proofs.Ytcbpkdemcdikaaa.X
open Go.RowKit Go.Proofs.YtcbpkdemcdikaaaW.PrintWords Go.Proofs.YtcbpkdemcdikaaaW.PrintLast Go.Proofs.YtcbpkdemcdikaaaW.PrintMore
attribute [local go_sem] ay az aN aM ao ap aw ax
set_option linter.unusedVariables false
set_option linter.unusedSimpArgs false
namespace CC
attribute [local go_sem] Oper.semAt_some
set_option maxRecDepth 100000 in
set_option maxHeartbeats 4000000 in
theorem grow0_calls (w : World) : Calls Try.prog 61 #[.slice none 0 0, .int .i64 0] w fun e w' => e = .returned (.slice none 0 0) ∧ w' = w := by
  go_enter Try.func61, Try.ntmps61
  go_wp2_with fail
  exact bodyPost_ret (v := .slice none 0 0) (by simp [results, Try.results61, go_sem]) rfl ⟨rfl, rfl⟩
set_option maxRecDepth 100000 in
set_option maxHeartbeats 4000000 in
theorem grow_calls (n : Nat) (h0 : 0 < n) (h1 : n ≤ 1024) (w : World) : Calls Try.prog 61 #[.slice none 0 0, .int .i64 (n : Int)] w fun e w' => ∃ cap, e = .returned (.slice (some ⟨w.heap.size, 0, none⟩) 0 cap) ∧ w'.ownsRow w.heap.size 49 4 (.slice (some ⟨w.heap.size, 0, none⟩) 0 cap) 0 [] ∧ n ≤ cap ∧ Below w.heap.size w w' := by
  have hinfo := info49
  cases hi0 : Try.prog.info? 49 with
  | none => rw [hi0] at hinfo; cases hinfo
  | some i0 =>
  rw [hi0] at hinfo
  simp only [Option.map_some, Option.some.injEq, Prod.mk.injEq] at hinfo
  obtain ⟨hz0, hs0, hb0⟩ := hinfo
  have hrz : ∀ ty, (Builtin.append_ #[23, 3] ty #[.slice none 0 0, .int .i64 (n : Int)]).run Try.prog w = .ok (.slice (some ⟨w.heap.size, 0, none⟩) n (grownCap w n 0 49)) (w.drew.alloc (.cells (#[] ++ Builtin.zeroCells #[.int .i64 0, .int .i64 0, .slice none 0 0, .slice none 0 0] n ++ Builtin.zeroCells #[.int .i64 0, .int .i64 0, .slice none 0 0, .slice none 0 0] (grownCap w n 0 49 - n)) 49)) := fun ty => by
    have h := Lib.run_append_grow_zeros w 23 3 ty 49 i0 (.agg #[.int .i64 0, .int .i64 0, .slice none 0 0, .slice none 0 0]) .i64 .i64 (P := Try.prog) (by rfl) (by rfl) hi0 hz0 none 0 0 [] (run_firstCells_none w.drew i0.size 0 0 0) n h0 (by omega) (by omega) (by omega) (by rw [hb0]; omega) (by rw [hb0]; exact growslice_fits (by omega) (by omega))
    have hc : (Value.agg #[.int .i64 0, .int .i64 0, .slice none 0 0, .slice none 0 0]).cells = #[.int .i64 0, .int .i64 0, .slice none 0 0, .slice none 0 0] := by rfl
    rw [hc] at h
    simpa using h
  have hGn : n ≤ grownCap w n 0 49 := grownCap_ge w _ _ _
  have hGm : grownCap w n 0 49 ≤ maxLen := grownCap_le_maxLen w n 0 49 (by unfold maxLen; omega)
  obtain ⟨G, hG⟩ : ∃ G, G = grownCap w n 0 49 := ⟨_, rfl⟩
  rw [← hG] at hrz hGn hGm
  have hG9 : G ≤ 9223372036854775807 := by unfold maxLen at hGm; omega
  obtain ⟨cur, hcur⟩ : ∃ cur, #[] ++ Builtin.zeroCells #[.int .i64 0, .int .i64 0, .slice none 0 0, .slice none 0 0] n ++ Builtin.zeroCells #[.int .i64 0, .int .i64 0, .slice none 0 0, .slice none 0 0] (G - n) = cur := ⟨_, rfl⟩
  have hsz : cur.size = G * 4 := by
    rw [← hcur]
    simp only [Array.size_append, size_zeroCells]
    simp
    omega
  rw [hcur] at hrz
  have HG := Aside0.mk (And.intro hGm hsz)
  have k1 : ((n : Int) < 0) ↔ False := ⟨fun h => by omega, False.elim⟩
  have k2 : decide ((n : Int) < 0) = false := decide_eq_false (by omega)
  have k3 : decide ((n : Int) > 0) = true := decide_eq_true (by omega)
  clear hcur hsz hGm hG hi0 hz0 hs0 hb0
  go_enter Try.func61, Try.ntmps61
  go_wp2_with (at_builtin; refine Lib.wpList_append_run _ rfl _ _ _ _ rfl _ _ rfl rfl _ _ (hrz _) ?_)
  exact bodyPost_ret (v := .slice (some ⟨w.heap.size, 0, none⟩) 0 G) (by simp [results, Try.results61, go_sem]) rfl ⟨G, rfl, (World.ownsRow_made w cur G (Nat.le_refl _) HG.out.1 HG.out.2).drew, hGn, a5 (a6 (Below.refl _ _) _)⟩
theorem growR (n : Nat) (h1 : n ≤ 1024) (w : World) (ok : Nat → Prop) (hf : ∀ k, w.heap.size ≤ k → ok k) : Calls Try.prog 61 #[.slice none 0 0, .int .i64 (n : Int)] w fun e w' => ∃ v, e = .returned v ∧ Kd.N k49 49 w' w.heap.size ok v [] ∧ Below w.heap.size w w' := by
  by_cases h0 : 0 < n
  · refine (grow_calls n h0 h1 w).mono ?_
    rintro e w' ⟨cap, rfl, ho, _, hb⟩
    exact ⟨_, rfl, Kd.R_N ⟨fun k hk => hf k (bO ho k hk), [], ho, Reps.none _ _⟩, hb⟩
  · obtain rfl : n = 0 := by omega
    refine (grow0_calls w).mono ?_
    rintro e w' ⟨rfl, rfl⟩
    exact ⟨_, rfl, Kd.N_nil _ _ _ _ _, Below.refl _ _⟩
theorem fBelow {w W : World} {ok : Nat → Prop} {A : Option Addr} {n : Nat} {xs : List S49} (h : Kd.F k49 w ok A n xs) (hb : Below w.heap.size w W) : Kd.F k49 W (fun k => ok k ∧ k < w.heap.size) A n xs := fun W' hW =>
  h W' (fun k hk hlt => (hW k ⟨hk, hlt⟩ (Nat.lt_of_lt_of_le hlt hb.size)).trans (hb.block k hlt))
def szAt (n0 n1 i : Int) : Int := if i = 0 then 0 else if i = 1 then n0 else n0 + n1
def prefAt (l0 l1 : List S49) (i : Int) : List S49 := if i = 0 then [] else if i = 1 then l0 else l0 ++ l1
set_option maxRecDepth 100000 in
set_option maxHeartbeats 8000000 in
theorem concat_calls (gx : Nat) (A0 : Option Addr) (c0 : Nat) (l0 : List S49) (A1 : Option Addr) (c1 : Nat) (l1 : List S49) (w : World) (hx : w.heap[gx]? = some (.cells #[.slice A0 l0.length c0, .slice A1 l1.length c1] 23 (0, 0)))
    (ok : Nat → Prop) (hf : ∀ k, w.heap.size ≤ k → ok k) (hr0 : Kd.F k49 w ok A0 l0.length l0) (hc0 : l0.length ≤ c0) (hr1 : Kd.F k49 w ok A1 l1.length l1) (hc1 : l1.length ≤ c1) (hl0 : l0.length ≤ 256) (hl1 : l1.length ≤ 256) :
    Calls Try.prog 45 #[.slice (some ⟨gx, 0, none⟩) 2 2] w fun e w' => ∃ v, e = .returned v ∧ Kd.N k49 49 w' w.heap.size ok v (l0 ++ l1) ∧ Below w.heap.size w w' := by
  have x0 := a7 hx 0
  have x1 := a7 hx 1
  simp only [List.getElem?_toArray, List.getElem?_cons_zero, List.getElem?_cons_succ] at x0 x1
  obtain ⟨n0, hn0⟩ : ∃ n0 : Nat, l0.length = n0 := ⟨_, rfl⟩
  obtain ⟨n1, hn1⟩ : ∃ n1 : Nat, l1.length = n1 := ⟨_, rfl⟩
  have HR0 := Aside0.mk hr0
  have HF := Aside0.mk hf
  have HR1 := Aside0.mk hr1
  have HX := Aside0.mk hx
  have HN := Aside0.mk (And.intro hn0 hn1)
  rw [hn0] at x0 hl0 hc0
  rw [hn1] at x1 hl1 hc1
  clear hr0 hr1 hx hn0 hn1 hf
  go_enter Try.func45, Try.ntmps45
  go_wp2_with fail
  refine wp_loop_ghost_k (fun q a W' => ∃ (i : Int) (u : Nat → Value), q = (2 - i).toNat ∧ (i = 0 ∨ i = 1 ∨ i = 2) ∧ W' = w ∧ a = { tmps := List.toArray ((.slice (some ⟨gx, 0, none⟩) 2 2 : Value) :: u 1 :: u 2 :: (.int .i64 (szAt n0 n1 i) : Value) :: u 4 :: u 5 :: u 6 :: u 7 :: u 8 :: (.slice (some ⟨gx, 0, none⟩) 2 2 : Value) :: (.int .i64 2 : Value) :: (.int .i64 i : Value) :: u 12 :: u 13 :: u 14 :: u 15 :: u 16 :: u 17 :: u 18 :: u 19 :: u 20 :: u 21 :: u 22 :: u 23 :: u 24 :: u 25 :: u 26 :: u 27 :: u 28 :: u 29 :: u 30 :: u 31 :: u 32 :: u 33 :: u 34 :: u 35 :: []), defers := [] }) 2 ?start ?round
  case start =>
    have sta : ∀ T : Array Value, T = List.toArray ((.slice (some ⟨gx, 0, none⟩) 2 2 : Value) :: T.getD 1 undef :: T.getD 2 undef :: (.int .i64 0 : Value) :: T.getD 4 undef :: T.getD 5 undef :: T.getD 6 undef :: T.getD 7 undef :: T.getD 8 undef :: (.slice (some ⟨gx, 0, none⟩) 2 2 : Value) :: (.int .i64 2 : Value) :: (.int .i64 0 : Value) :: T.getD 12 undef :: T.getD 13 undef :: T.getD 14 undef :: T.getD 15 undef :: T.getD 16 undef :: T.getD 17 undef :: T.getD 18 undef :: T.getD 19 undef :: T.getD 20 undef :: T.getD 21 undef :: T.getD 22 undef :: T.getD 23 undef :: T.getD 24 undef :: T.getD 25 undef :: T.getD 26 undef :: T.getD 27 undef :: T.getD 28 undef :: T.getD 29 undef :: T.getD 30 undef :: T.getD 31 undef :: T.getD 32 undef :: T.getD 33 undef :: T.getD 34 undef :: T.getD 35 undef :: []) → ∃ (i : Int) (u : Nat → Value), 2 = (2 - i).toNat ∧ (i = 0 ∨ i = 1 ∨ i = 2) ∧ w = w ∧ (Act.mk T []) = { tmps := List.toArray ((.slice (some ⟨gx, 0, none⟩) 2 2 : Value) :: u 1 :: u 2 :: (.int .i64 (szAt n0 n1 i) : Value) :: u 4 :: u 5 :: u 6 :: u 7 :: u 8 :: (.slice (some ⟨gx, 0, none⟩) 2 2 : Value) :: (.int .i64 2 : Value) :: (.int .i64 i : Value) :: u 12 :: u 13 :: u 14 :: u 15 :: u 16 :: u 17 :: u 18 :: u 19 :: u 20 :: u 21 :: u 22 :: u 23 :: u 24 :: u 25 :: u 26 :: u 27 :: u 28 :: u 29 :: u 30 :: u 31 :: u 32 :: u 33 :: u 34 :: u 35 :: []), defers := [] } := fun T hT =>
      ⟨0, fun i => T.getD i undef, rfl, .inl rfl, rfl, congrArg (fun T => (Act.mk T _)) hT⟩
    exact sta _ rfl
  case round =>
    rintro q a W' ⟨i, u, rfl, hii, hWW, rfl⟩ J K hJ hK
    obtain rfl : w = W' := hWW.symm
    clear hWW
    have fin : ∀ (i' : Int) (T : Array Value), (2 - i').toNat < (2 - i).toNat → (i' = 0 ∨ i' = 1 ∨ i' = 2) → T = List.toArray ((.slice (some ⟨gx, 0, none⟩) 2 2 : Value) :: T.getD 1 undef :: T.getD 2 undef :: (.int .i64 (szAt n0 n1 i') : Value) :: T.getD 4 undef :: T.getD 5 undef :: T.getD 6 undef :: T.getD 7 undef :: T.getD 8 undef :: (.slice (some ⟨gx, 0, none⟩) 2 2 : Value) :: (.int .i64 2 : Value) :: (.int .i64 i' : Value) :: T.getD 12 undef :: T.getD 13 undef :: T.getD 14 undef :: T.getD 15 undef :: T.getD 16 undef :: T.getD 17 undef :: T.getD 18 undef :: T.getD 19 undef :: T.getD 20 undef :: T.getD 21 undef :: T.getD 22 undef :: T.getD 23 undef :: T.getD 24 undef :: T.getD 25 undef :: T.getD 26 undef :: T.getD 27 undef :: T.getD 28 undef :: T.getD 29 undef :: T.getD 30 undef :: T.getD 31 undef :: T.getD 32 undef :: T.getD 33 undef :: T.getD 34 undef :: T.getD 35 undef :: []) → Handed J (2 - i).toNat { tmps := T, defers := [] } w := fun i' T h1 h2 hT =>
      ⟨(2 - i').toNat, h1, hJ _ _ _ ⟨i', fun i => T.getD i undef, rfl, h2, rfl, congrArg (fun T => (Act.mk T _)) hT⟩⟩
    rcases hii with rfl | rfl | rfl
    · rw [show szAt n0 n1 0 = 0 from rfl]
      have k1 : decide ((n0 : Int) < 0) = false := decide_eq_false (by omega)
      go_wp2_with fail
      exact fin 1 _ (by decide) (by omega) rfl
    · rw [show szAt n0 n1 1 = (n0 : Int) from rfl]
      have k1 : decide ((n0 : Int) + (n1 : Int) < 0) = false := decide_eq_false (by omega)
      go_wp2_with fail
      exact fin 2 _ (by decide) (by omega) rfl
    · obtain ⟨n, hn⟩ : ∃ n : Nat, (n0 : Int) + (n1 : Int) = (n : Int) := ⟨n0 + n1, by omega⟩
      rw [show szAt n0 n1 2 = (n0 : Int) + (n1 : Int) from rfl, hn]
      have hnn : n ≤ 1024 := by omega
      clear fin hJ hn
      go_wp2_with fail
      refine (growR n hnn w ok HF.out).mono ?_
      rintro e w1 ⟨v6, rfl, ho, hb⟩
      have HO := Aside0.mk ho
      have HB := Aside0.mk hb
      have y0 : w1.cell? ⟨gx, 0, none⟩ = some (.slice A0 n0 c0) := by
        have h := a7 (ae HX.out hb) 0
        simp only [List.getElem?_toArray, List.getElem?_cons_zero] at h
        rw [HN.out.1] at h
        exact h
      clear ho hb x0 x1 y0
      go_wp2_with fail
      refine wp_loop_ghost_k (fun q a W' => ∃ (i : Int) (v : Value) (u : Nat → Value), q = (2 - i).toNat ∧ (i = 0 ∨ i = 1 ∨ i = 2) ∧ Kd.N k49 49 W' w.heap.size ok v (prefAt l0 l1 i) ∧ Below w.heap.size w W' ∧ a = { tmps := List.toArray ((.slice (some ⟨gx, 0, none⟩) 2 2 : Value) :: u 1 :: u 2 :: u 3 :: u 4 :: u 5 :: (v : Value) :: u 7 :: u 8 :: u 9 :: u 10 :: u 11 :: u 12 :: u 13 :: u 14 :: u 15 :: u 16 :: u 17 :: u 18 :: u 19 :: u 20 :: u 21 :: u 22 :: u 23 :: u 24 :: (.slice (some ⟨gx, 0, none⟩) 2 2 : Value) :: (.int .i64 2 : Value) :: (.int .i64 i : Value) :: u 28 :: u 29 :: u 30 :: u 31 :: u 32 :: u 33 :: u 34 :: u 35 :: []), defers := [] }) 2 ?start2 ?round2
      case start2 =>
        have sta : ∀ T : Array Value, T = List.toArray ((.slice (some ⟨gx, 0, none⟩) 2 2 : Value) :: T.getD 1 undef :: T.getD 2 undef :: T.getD 3 undef :: T.getD 4 undef :: T.getD 5 undef :: (v6 : Value) :: T.getD 7 undef :: T.getD 8 undef :: T.getD 9 undef :: T.getD 10 undef :: T.getD 11 undef :: T.getD 12 undef :: T.getD 13 undef :: T.getD 14 undef :: T.getD 15 undef :: T.getD 16 undef :: T.getD 17 undef :: T.getD 18 undef :: T.getD 19 undef :: T.getD 20 undef :: T.getD 21 undef :: T.getD 22 undef :: T.getD 23 undef :: T.getD 24 undef :: (.slice (some ⟨gx, 0, none⟩) 2 2 : Value) :: (.int .i64 2 : Value) :: (.int .i64 0 : Value) :: T.getD 28 undef :: T.getD 29 undef :: T.getD 30 undef :: T.getD 31 undef :: T.getD 32 undef :: T.getD 33 undef :: T.getD 34 undef :: T.getD 35 undef :: []) → ∃ (i : Int) (v : Value) (u : Nat → Value), 2 = (2 - i).toNat ∧ (i = 0 ∨ i = 1 ∨ i = 2) ∧ Kd.N k49 49 w1 w.heap.size ok v (prefAt l0 l1 i) ∧ Below w.heap.size w w1 ∧ (Act.mk T []) = { tmps := List.toArray ((.slice (some ⟨gx, 0, none⟩) 2 2 : Value) :: u 1 :: u 2 :: u 3 :: u 4 :: u 5 :: (v : Value) :: u 7 :: u 8 :: u 9 :: u 10 :: u 11 :: u 12 :: u 13 :: u 14 :: u 15 :: u 16 :: u 17 :: u 18 :: u 19 :: u 20 :: u 21 :: u 22 :: u 23 :: u 24 :: (.slice (some ⟨gx, 0, none⟩) 2 2 : Value) :: (.int .i64 2 : Value) :: (.int .i64 i : Value) :: u 28 :: u 29 :: u 30 :: u 31 :: u 32 :: u 33 :: u 34 :: u 35 :: []), defers := [] } := fun T hT =>
          ⟨0, v6, fun i => T.getD i undef, rfl, .inl rfl, HO.out, HB.out, congrArg (fun T => (Act.mk T _)) hT⟩
        exact sta _ rfl
      case round2 =>
        clear HO HB
        rintro q a W' ⟨i, v, y, rfl, hii, ho, hb, rfl⟩ J' K' hJ' hK'
        have HO := Aside0.mk ho
        have HB := Aside0.mk hb
        have fin : ∀ (i' : Int) (v' : Value) (W2 : World) (T : Array Value), (2 - i').toNat < (2 - i).toNat → (i' = 0 ∨ i' = 1 ∨ i' = 2) → Kd.N k49 49 W2 w.heap.size ok v' (prefAt l0 l1 i') → Below w.heap.size w W2 → T = List.toArray ((.slice (some ⟨gx, 0, none⟩) 2 2 : Value) :: T.getD 1 undef :: T.getD 2 undef :: T.getD 3 undef :: T.getD 4 undef :: T.getD 5 undef :: (v' : Value) :: T.getD 7 undef :: T.getD 8 undef :: T.getD 9 undef :: T.getD 10 undef :: T.getD 11 undef :: T.getD 12 undef :: T.getD 13 undef :: T.getD 14 undef :: T.getD 15 undef :: T.getD 16 undef :: T.getD 17 undef :: T.getD 18 undef :: T.getD 19 undef :: T.getD 20 undef :: T.getD 21 undef :: T.getD 22 undef :: T.getD 23 undef :: T.getD 24 undef :: (.slice (some ⟨gx, 0, none⟩) 2 2 : Value) :: (.int .i64 2 : Value) :: (.int .i64 i' : Value) :: T.getD 28 undef :: T.getD 29 undef :: T.getD 30 undef :: T.getD 31 undef :: T.getD 32 undef :: T.getD 33 undef :: T.getD 34 undef :: T.getD 35 undef :: []) → Handed J' (2 - i).toNat { tmps := T, defers := [] } W2 := fun i' v' W2 T h1 h2 h3 h4 hT =>
          ⟨(2 - i').toNat, h1, hJ' _ _ _ ⟨i', v', fun i => T.getD i undef, rfl, h2, h3, h4, congrArg (fun T => (Act.mk T _)) hT⟩⟩
        have x0 := a7 (ae HX.out hb) 0
        have x1 := a7 (ae HX.out hb) 1
        simp only [List.getElem?_toArray, List.getElem?_cons_zero, List.getElem?_cons_succ] at x0 x1
        rw [HN.out.1] at x0
        rw [HN.out.2] at x1
        clear ho hb
        rcases hii with rfl | rfl | rfl
        · go_wp2_with ((at_builtin; refine Kd.N_append_rows k49 (w0 := w) w.heap.size rfl (.tmp 31) (.tmp 32) 23 49 (.agg #[(.int .i64 0), (.int .i64 0), (.slice none 0 0), (.slice none 0 0)]) 64 rfl Try.underlying23 info49 rfl (by decide) (by omega) v [] l0 _ _ _ ok (fun k => ok k ∧ k < w.heap.size) rfl rfl HO.out (by have h := fBelow HR0.out HB.out; rw [HN.out.1] at h; exact h) (fun k hk => ⟨hk.1, fun e => by have := Kd.N_base HO.out k e.symm; have := hk.2; omega⟩) (fun k hk => HF.out k (Nat.le_trans HB.out.size hk)) HB.out HB.out.size (by simp; omega) ?_; intro v1 w2 ho hb _ _))
          exact fin 1 _ _ _ (by decide) (by omega) ho hb rfl
        · go_wp2_with ((at_builtin; refine Kd.N_append_rows k49 (w0 := w) w.heap.size rfl (.tmp 31) (.tmp 32) 23 49 (.agg #[(.int .i64 0), (.int .i64 0), (.slice none 0 0), (.slice none 0 0)]) 64 rfl Try.underlying23 info49 rfl (by decide) (by omega) v l0 l1 _ _ _ ok (fun k => ok k ∧ k < w.heap.size) rfl rfl HO.out (by have h := fBelow HR1.out HB.out; rw [HN.out.2] at h; exact h) (fun k hk => ⟨hk.1, fun e => by have := Kd.N_base HO.out k e.symm; have := hk.2; omega⟩) (fun k hk => HF.out k (Nat.le_trans HB.out.size hk)) HB.out HB.out.size (by have := HN.out.1; omega) ?_; intro v1 w2 ho hb _ _))
          exact fin 2 _ _ _ (by decide) (by omega) ho hb rfl
        · go_wp2_with fail
          exact bodyPost_ret (v := v) (by simp [results, Try.results45, go_sem]) rfl ⟨v, rfl, HO.out, HB.out⟩
end CC
end Go.Proofs.Ytcbpkdemcdikaaa.X
namespace Go.Proofs.Ytcbpkdemcdikaaa.X
open Go.RowKit Go.Proofs.YtcbpkdemcdikaaaW.PrintWords Go.Proofs.YtcbpkdemcdikaaaW.PrintLast Go.Proofs.YtcbpkdemcdikaaaW.PrintMore
attribute [local go_sem] ay az aN aM ao ap aw ax
set_option linter.unusedVariables false
set_option linter.unusedSimpArgs false
namespace DF
open SF RO CC
set_option maxHeartbeats 8000000
attribute [local go_sem] Oper.semAt_some
def coreR (ds : List (List Int)) : List (Int × S49) → List (Int × S49) → List Int
  | kept, [] => kept.map (·.1)
  | kept, r :: rest => if (sol (badB (kept.map (·.2) ++ rest.map (·.2))) ds []).isSome then coreR ds (kept ++ [r]) rest else coreR ds kept rest
def numbered (rs : List S49) : List (Int × S49) := (List.range rs.length).map fun i : Nat => ((i : Int), rs.getD i z49)
theorem core_no (A0 : Option Addr) (c0 : Nat) (ds : List (List Int)) (A1 : Option Addr) (c1 : Nat) (rs : List S49) (w : World) (is : Bool) (e0 : Int) (hno : e0 ≠ 0 ∨ is = true)
    (hs : ∀ W, Below w.heap.size w W → Calls Try.prog 15 #[.agg #[.slice A0 ds.length c0, .slice A1 rs.length c1]] W fun e w' => ∃ v0, e = .returned (.tuple #[v0, .bool is, .int .i64 e0]) ∧ Below W.heap.size W w') :
    Calls Try.prog 25 #[.agg #[.slice A0 ds.length c0, .slice A1 rs.length c1]] w fun e w' => e = .returned (.tuple #[.slice none 0 0, .bool false, .int .i64 e0]) ∧ Below w.heap.size w w' := by
  have HS := Aside0.mk hs
  have HB0 := Aside0.mk (a6 (Below.refl w.heap.size w) (.cells #[.slice A0 ds.length c0, .slice A1 rs.length c1] 25))
  clear hs
  by_cases h0 : e0 = 0
  · have g0 : (e0 != 0) = false := bne_eq_false_iff_eq.mpr h0
    obtain rfl : is = true := hno.resolve_left (fun h => h h0)
    clear hno h0
    go_enter Try.func25, Try.ntmps25
    go_wp2
    go_step3
    go_wp2_with (go_at_call 15; refine (HS.out _ HB0.out).mono ?_; rintro e w5 ⟨v0, rfl, hb5⟩; have HB5 := Aside0.mk (HB0.out.trans (hb5.mono HB0.out.size)); clear hb5)
    rw [Exit.noGoto_ret]
    exact bodyPost_ret (v := .tuple #[.slice none 0 0, .bool false, .int .i64 e0]) (by simp [results, Try.results25, go_sem]) rfl ⟨rfl, HB5.out⟩
  · have g0 : (e0 != 0) = true := bne_iff_ne.mpr h0
    clear hno h0
    go_enter Try.func25, Try.ntmps25
    go_wp2
    go_step3
    go_wp2_with (go_at_call 15; refine (HS.out _ HB0.out).mono ?_; rintro e w5 ⟨v0, rfl, hb5⟩; have HB5 := Aside0.mk (HB0.out.trans (hb5.mono HB0.out.size)); clear hb5)
    rw [Exit.noGoto_ret]
    exact bodyPost_ret (v := .tuple #[.slice none 0 0, .bool false, .int .i64 e0]) (by simp [results, Try.results25, go_sem]) rfl ⟨rfl, HB5.out⟩
theorem wp_calm {P : Program} {c : Code} {K : Act → World → Prop} {Q : Exit → Act → World → Prop} {a : Act} {w : World} (h : c.wp P (Exit.then K (fun _ _ _ => False)) a w) : c.wp P (Exit.then K Q) a w :=
  wp_mono h (fun e a w h => by cases e <;> first | exact h | exact h.elim)
def marks (bs : List Nat) : List Deferred := bs.map fun b => { target := .collected b, args := #[] }
theorem fm {F : Fence} {n : Nat} {P : Program} {fn : Func} {tmps : Array Value} {R : Ending → World → Prop} : ∀ (bs : List Nat) (W : World), bs.Nodup → (∀ b ∈ bs, W.heap[b]? = some (.deferred (some []))) →
    (∀ W', (∀ k, k ∉ bs → W'.heap[k]? = W.heap[k]?) → W'.heap.size = W.heap.size → W'.os = W.os → W'.tape = W.tape → W'.output = W.output → LeavesIn F n P fn tmps R [] .returning W') → LeavesInM F n P fn tmps R (marks bs) .returning W
  | [], W, _, _, h => h W (fun _ _ => rfl) rfl rfl rfl rfl
  | b :: bs, W, hn, hm, h => by
    have hb := hm b (by simp)
    refine ⟨by simp, .inl ⟨b, _, rfl, run_takeDeferred hb, ?_⟩⟩
    have hnb : b ∉ bs := (List.nodup_cons.mp hn).1
    refine fm bs _ (List.nodup_cons.mp hn).2 (fun b' hb' => ?_) (fun W' h1 h2 h3 h4 h5 => ?_)
    · rw [World.putObj_heap_other (fun e => hnb (by subst e; exact hb'))]
      exact hm b' (by simp [hb'])
    · refine h W' (fun k hk => ?_) (by rw [h2, World.putObj_size]) (by rw [h3]; rfl) (by rw [h4]; rfl) (by rw [h5]; rfl)
      rw [h1 k (fun e => hk (by simp [e])), World.putObj_heap_other (fun e => hk (by simp [e]))]
theorem fLater {w W : World} {ok : Nat → Prop} {A : Option Addr} {n : Nat} {xs : List S49} (h : Kd.F k49 w ok A n xs) (hb : Below w.heap.size w W) : Kd.F k49 W ok A n xs := fun W' hW =>
  h W' (fun k hk hlt => (hW k hk (Nat.lt_of_lt_of_le hlt hb.size)).trans (hb.block k hlt))
theorem foldOne (p : Tmp) (v : Value) (T : Array Value) : Array.foldl (fun t (x : Tmp × Value) => match x with | (p, v) => t.setIfInBounds p v) T (#[p].zip #[v]) = T.setIfInBounds p v := by
  have h : (#[p].zip #[v] : Array (Tmp × Value)) = #[(p, v)] := by simp [Array.zip_eq_zipWith]
  rw [h]; rfl
theorem fGrown {w W : World} {ok : Nat → Prop} {b : Nat} {A : Option Addr} {n : Nat} {xs : List S49} (h : Kd.F k49 w ok A n xs) (hg : w.grownBy W (some b)) (hne : ∀ j, ok j → j ≠ b) : Kd.F k49 W ok A n xs := fun W' hW =>
  h W' (fun k hk hlt => (hW k hk (Nat.lt_of_lt_of_le hlt hg.size)).trans (hg.block k hlt (fun e => hne k hk (Option.some.inj e))))
structure CMem (s b9 : Nat) (w5 : World) (kr : List (Int × S49)) (at_ : Nat) (bs : List Nat) (Al : Option Addr) (cl : Nat) (Ar : Option Addr) (cr : Nat) (W : World) : Prop where
  at9 : W.heap[b9]? = some (.cells #[.int .i64 (at_ : Int)] 3 (0, 0))
  own : W.ownsRow w5.heap.size 3 1 (.slice Al kr.length cl) kr.length (bM .i64 (kr.map (·.1)))
  ne9 : some b9 ≠ (Value.slice Al kr.length cl).ownBlock
  rules : Kd.F k49 W (fun k => some k ≠ (Value.slice Al kr.length cl).ownBlock ∧ k ≠ b9) Ar kr.length (kr.map (·.2))
  capr : kr.length ≤ cr
  below : Below w5.heap.size w5 W
  base : w5.heap.size ≤ b9
  nodup : bs.Nodup
  defs : ∀ b ∈ bs, b9 < b ∧ W.heap[b]? = some (.deferred (some []))
  ok : ∀ r ∈ kr.map (·.2), okR r
  len : kr.length ≤ 200
noncomputable def T12 : Bool × List (List Nat × List Nat) := dd .any (dG Try.f25 12)
theorem tab12 : dd .any (dG Try.f25 12) = T12 := rfl
theorem numbered_fst (rs : List S49) : (numbered rs).map (·.1) = (List.range rs.length).map fun i : Nat => (i : Int) := by
  simp [numbered, Function.comp_def]
theorem fl (rs : List S49) : (numbered rs).map (·.2) = rs := by
  unfold numbered
  rw [List.map_map]
  apply List.ext_getElem
  · simp
  · intro i h1 h2
    simp [List.getD, List.getElem?_eq_getElem h2]
theorem bX (rs : List S49) : (numbered rs).length = rs.length := by simp [numbered]
theorem core_yes (A0 : Option Addr) (c0 : Nat) (ds : List (List Int)) (A1 : Option Addr) (c1 : Nat) (rs : List S49) (w : World)
    (hs : ∀ W, Below w.heap.size w W → Calls Try.prog 15 #[.agg #[.slice A0 ds.length c0, .slice A1 rs.length c1]] W fun e w' => ∃ v0, e = .returned (.tuple #[v0, .bool false, .int .i64 0]) ∧ Below W.heap.size W w')
    (hr0 : Kd.C (Kd.slice 3 (Kd.int .i64)) w A0 ds.length ds) (hr1 : Kd.C k49 w A1 rs.length rs) (hc1 : rs.length ≤ c1) (hok : ∀ r ∈ rs, okR r) (hd : 0 < ds.length) (hdl : ds.length ≤ 1000) (hrl : rs.length ≤ 200) :
    Calls Try.prog 25 #[.agg #[.slice A0 ds.length c0, .slice A1 rs.length c1]] w fun e w' => ∃ v, e = .returned (.tuple #[v, .bool true, .int .i64 0]) ∧ w'.ownsRow w.heap.size 3 1 v (coreR ds [] (numbered rs)).length (bM .i64 (coreR ds [] (numbered rs))) ∧ Below w.heap.size w w' := by
  have HS := Aside0.mk hs
  have HB0 := Aside0.mk (a6 (Below.refl w.heap.size w) (.cells #[.slice A0 ds.length c0, .slice A1 rs.length c1] 25))
  have HR0 := Aside0.mk hr0; have HR1 := Aside0.mk hr1; have HC1 := Aside0.mk hc1; have HOK := Aside0.mk hok; have HD := Aside0.mk (And.intro hd hdl); have HRL := Aside0.mk hrl
  clear hs hr0 hr1 hc1 hok hd hdl hrl
  refine (callsIn_wide (n := 3)).1 ?_
  refine callsIn_of_wp_marks Try.func25 rfl trivial ?_ rfl
  simp only [Try.ntmps25, List.size_toArray, List.length_cons, List.length_nil, Nat.reduceAdd, Nat.reduceSub, Array.replicate_succ, Array.replicate_zero, List.push_toArray, List.append_toArray, List.nil_append, List.cons_append]
  refine wpIn_wide.2 ?_
  go_wp2
  go_step3
  go_wp2_with (go_at_call 15; refine (HS.out _ HB0.out).mono ?_; rintro e w5 ⟨v0, rfl, hb5⟩; have HB5 := Aside0.mk (HB0.out.trans (hb5.mono HB0.out.size)); have hbk := ae (aV w (.cells #[.slice A0 ds.length c0, .slice A1 rs.length c1] 25)) hb5; have HBK := Aside0.mk hbk; have z0 := a7 hbk 0; have z1 := a7 hbk 1; simp only [List.getElem?_toArray, List.getElem?_cons_zero, List.getElem?_cons_succ] at z0 z1; clear hb5 hbk)
  obtain ⟨s, hs⟩ : ∃ s, w.heap.size = s := ⟨_, rfl⟩
  have HSS := Aside0.mk hs
  rw [hs]
  clear hs
  go_loopg [2, 8, 28] rs.length (fun gg v2 _ v28 wr => ∃ (kk : Nat) (Al : Option Addr) (cl : Nat), v28 = .int .i64 kk ∧ v2 = .slice Al kk cl ∧ Aside0 (kk ≤ rs.length) ∧ Aside0 (rs.length - kk ≤ gg) ∧ Aside0 (wr.ownsRow w5.heap.size 3 1 (.slice Al kk cl) kk (bM .i64 ((List.range kk).map fun i : Nat => (i : Int)))) ∧ Aside0 (Below w5.heap.size w5 wr))
  case atStart => exact ⟨0, none, 0, rfl, rfl, ⟨Nat.zero_le _⟩, ⟨by omega⟩, ⟨World.ownsRow_nil _ _ _ _⟩, ⟨Below.refl _ _⟩⟩
  case round =>
    obtain ⟨kk, Al, cl, rfl, rfl, HK, HG, HO, HB⟩ := hrel
    by_cases c4 : kk < rs.length
    · have c4b : decide ((kk : Int) < (rs.length : Int)) = true := decide_eq_true (by omega)
      have c4n : decide (kk < rs.length) = true := decide_eq_true c4
      have HC := Aside0.mk c4
      have HRN := Aside0.mk (show ((List.range kk).map fun i : Nat => (i : Int)).length = kk by simp)
      clear c4
      go_wp2_with ((with_reducible refine cA (b := .append) (xs := #[.tmp 31, .tmp 33]) rfl ?_); at_builtin; refine cC (w0 := w5) w5.heap.size rfl (.tmp 31) (.tmp 33) 26 3 .i64 8 rfl Try.underlying26 dV (by omega) _ ((List.range kk).map fun i : Nat => (i : Int)) (kk : Int) rfl rfl ?aO ?aB ?aS ?aL ?_; (case aO => rw [HRN.out]; exact HO.out); (case aB => exact HB.out); (case aS => exact HB.out.size); (case aL => have := HRN.out; have := HC.out; have := HRL.out; omega); intro v9 w9 ho hb hg hat; obtain ⟨A9, c9, hv9⟩ := d5 ho; subst hv9; have HO9 := Aside0.mk ho; have HB9 := Aside0.mk hb; clear ho hb hg hat)
      have hrs : ((List.range kk).map fun i : Nat => (i : Int)) ++ [(kk : Int)] = (List.range (kk + 1)).map fun i : Nat => (i : Int) := by rw [List.range_succ, List.map_append]; rfl
      have hrl : (((List.range kk).map fun i : Nat => (i : Int)) ++ [(kk : Int)]).length = kk + 1 := by simp
      go_roundg (rs.length - (kk + 1))
      case measure => have := HG.out; have := HC.out; omega
      case rel =>
        have hm := HRL.out; have hc := HC.out
        refine ⟨kk + 1, A9, c9, by rw [wr64 _ (by omega) (by omega)]; rfl, by simp, ⟨hc⟩, ⟨by omega⟩, ⟨?_⟩, HB9⟩
        have h := HO9.out
        rw [hrl, hrs] at h
        exact h
    · have c4b : decide ((kk : Int) < (rs.length : Int)) = false := decide_eq_false (by omega)
      have c4n : decide (kk < rs.length) = false := decide_eq_false c4
      have hkk : kk = rs.length := by have := HK.out; omega
      subst hkk
      clear c4
      go_wp2_with (fail)
      go_step3
      go_wp2_with (fail)
      obtain ⟨b9, hb9⟩ : ∃ b9, wr.heap.size = b9 := ⟨_, rfl⟩
      obtain ⟨W0, hW0⟩ : ∃ W0, wr.alloc (.cells #[.int .i64 0] 3) = W0 := ⟨_, rfl⟩
      have hm0 : CMem s b9 w5 (numbered rs) 0 [] Al cl A1 c1 W0 := by
        have hbw : Below w.heap.size w wr := HB5.out.trans (HB.out.mono HB5.out.size)
        have hlo : ∀ k, (Value.slice Al rs.length cl).ownBlock = some k → w5.heap.size ≤ k ∧ k < wr.heap.size := fun k hk => ⟨bO HO.out k hk, own_lt HO.out k hk⟩
        refine ⟨?_, ?_, ?_, ?_, ?_, ?_, ?_, List.nodup_nil, (fun b hb => by cases hb), ?_, ?_⟩
        · rw [← hW0, ← hb9]; exact aV wr _
        · rw [bX, numbered_fst, ← hW0]; exact own_alloc HO.out _
        · rw [bX]
          intro e
          have := (hlo b9 e.symm).2
          omega
        · rw [bX, fl]
          have hf := Kd.C_F k49_heap HR1.out
          refine fun W' hW => hf W' (fun k hk hlt => ?_)
          have h1 : W0.heap[k]? = w.heap[k]? := by
            rw [← hW0]
            exact (a6 hbw _).block k hlt
          rw [← h1]
          refine hW k ⟨fun e => ?_, ?_⟩ ?_
          · have := (hlo k e.symm).1
            have := HB5.out.size
            omega
          · have := hbw.size
            omega
          · rw [← hW0]; have := hbw.size; simp; omega
        · rw [bX]; exact HC1.out
        · rw [← hW0]; exact a6 HB.out _
        · rw [← hb9]; exact HB.out.size
        · rw [fl]; exact HOK.out
        · rw [bX]; exact HRL.out
      rw [hW0, hb9]
      have hnl : (numbered rs).length = rs.length := bX rs
      have HM0 := Aside0.mk hm0
      have HNL := Aside0.mk hnl
      clear hm0 hb9 hW0 hnl
      refine wp_loop_ghost_k (fun q a W => ∃ (kept rest : List (Int × S49)) (bs : List Nat) (Al : Option Addr) (cl : Nat) (Ar : Option Addr) (cr : Nat) (u : Nat → Value), q = rest.length ∧ coreR ds kept rest = coreR ds [] (numbered rs) ∧ CMem s b9 w5 (kept ++ rest) kept.length bs Al cl Ar cr W ∧
        a = { tmps := List.toArray (u 0 :: (.pointer (some ⟨s, 0, none⟩) : Value) :: (.slice Al (kept ++ rest).length cl : Value) :: u 3 :: u 4 :: u 5 :: u 6 :: (.slice Ar (kept ++ rest).length cr : Value) :: u 8 :: (.pointer (some ⟨b9, 0, none⟩) : Value) :: u 10 :: u 11 :: u 12 :: u 13 :: u 14 :: u 15 :: u 16 :: u 17 :: u 18 :: u 19 :: u 20 :: u 21 :: u 22 :: u 23 :: u 24 :: u 25 :: u 26 :: u 27 :: u 28 :: u 29 :: u 30 :: u 31 :: u 32 :: u 33 :: u 34 :: u 35 :: u 36 :: u 37 :: u 38 :: u 39 :: u 40 :: u 41 :: u 42 :: u 43 :: u 44 :: u 45 :: u 46 :: u 47 :: u 48 :: u 49 :: u 50 :: u 51 :: u 52 :: u 53 :: u 54 :: u 55 :: u 56 :: u 57 :: u 58 :: u 59 :: u 60 :: u 61 :: u 62 :: []), defers := marks bs }) (numbered rs).length ?start ?round
      case start =>
        have sta : ∀ T : Array Value, T = List.toArray (T.getD 0 undef :: (.pointer (some ⟨s, 0, none⟩) : Value) :: (.slice Al rs.length cl : Value) :: T.getD 3 undef :: T.getD 4 undef :: T.getD 5 undef :: T.getD 6 undef :: (.slice A1 rs.length c1 : Value) :: T.getD 8 undef :: (.pointer (some ⟨b9, 0, none⟩) : Value) :: T.getD 10 undef :: T.getD 11 undef :: T.getD 12 undef :: T.getD 13 undef :: T.getD 14 undef :: T.getD 15 undef :: T.getD 16 undef :: T.getD 17 undef :: T.getD 18 undef :: T.getD 19 undef :: T.getD 20 undef :: T.getD 21 undef :: T.getD 22 undef :: T.getD 23 undef :: T.getD 24 undef :: T.getD 25 undef :: T.getD 26 undef :: T.getD 27 undef :: T.getD 28 undef :: T.getD 29 undef :: T.getD 30 undef :: T.getD 31 undef :: T.getD 32 undef :: T.getD 33 undef :: T.getD 34 undef :: T.getD 35 undef :: T.getD 36 undef :: T.getD 37 undef :: T.getD 38 undef :: T.getD 39 undef :: T.getD 40 undef :: T.getD 41 undef :: T.getD 42 undef :: T.getD 43 undef :: T.getD 44 undef :: T.getD 45 undef :: T.getD 46 undef :: T.getD 47 undef :: T.getD 48 undef :: T.getD 49 undef :: T.getD 50 undef :: T.getD 51 undef :: T.getD 52 undef :: T.getD 53 undef :: T.getD 54 undef :: T.getD 55 undef :: T.getD 56 undef :: T.getD 57 undef :: T.getD 58 undef :: T.getD 59 undef :: T.getD 60 undef :: T.getD 61 undef :: T.getD 62 undef :: []) → ∃ (kept rest : List (Int × S49)) (bs : List Nat) (Al : Option Addr) (cl : Nat) (Ar : Option Addr) (cr : Nat) (u : Nat → Value), (numbered rs).length = rest.length ∧ coreR ds kept rest = coreR ds [] (numbered rs) ∧ CMem s b9 w5 (kept ++ rest) kept.length bs Al cl Ar cr W0 ∧
            (Act.mk T []) = { tmps := List.toArray (u 0 :: (.pointer (some ⟨s, 0, none⟩) : Value) :: (.slice Al (kept ++ rest).length cl : Value) :: u 3 :: u 4 :: u 5 :: u 6 :: (.slice Ar (kept ++ rest).length cr : Value) :: u 8 :: (.pointer (some ⟨b9, 0, none⟩) : Value) :: u 10 :: u 11 :: u 12 :: u 13 :: u 14 :: u 15 :: u 16 :: u 17 :: u 18 :: u 19 :: u 20 :: u 21 :: u 22 :: u 23 :: u 24 :: u 25 :: u 26 :: u 27 :: u 28 :: u 29 :: u 30 :: u 31 :: u 32 :: u 33 :: u 34 :: u 35 :: u 36 :: u 37 :: u 38 :: u 39 :: u 40 :: u 41 :: u 42 :: u 43 :: u 44 :: u 45 :: u 46 :: u 47 :: u 48 :: u 49 :: u 50 :: u 51 :: u 52 :: u 53 :: u 54 :: u 55 :: u 56 :: u 57 :: u 58 :: u 59 :: u 60 :: u 61 :: u 62 :: []), defers := marks bs } := fun T hT =>
          ⟨[], numbered rs, [], Al, cl, A1, c1, fun i => T.getD i undef, rfl, rfl, HM0.out, by rw [List.nil_append, HNL.out]; exact congrArg (fun T => (Act.mk T [])) hT⟩
        exact sta _ rfl
      case round =>
        rintro q a W ⟨kept, rest, bs, Al, cl, Ar, cr, u, rfl, hcr, hm, rfl⟩ J K hJ hK
        have z9 : W.cell? ⟨b9, 0, none⟩ = some (.int .i64 (kept.length : Int)) := by simpa using a7 hm.at9 0
        cases rest with
        | nil =>
          rw [List.append_nil] at hm ⊢
          have hend : kept.map (·.1) = coreR ds [] (numbered rs) := hcr
          have d1 : decide ((kept.length : Int) < (kept.length : Int)) = false := decide_eq_false (by omega)
          have d2 : decide (kept.length < kept.length) = false := decide_eq_false (by omega)
          have HM := Aside0.mk hm
          have HE := Aside0.mk hend
          clear hm hcr hend
          go_wp2_with (fail)
          rw [Exit.noGoto_ret]
          refine fm bs W HM.out.nodup (fun b hb => (HM.out.defs b hb).2) ?_
          intro W' h1 h2 h3 h4 h5
          have hown : W'.ownsRow w5.heap.size 3 1 (.slice Al kept.length cl) kept.length (bM .i64 (kept.map (·.1))) := own_keep HM.out.own (fun g hg => h1 g (fun hb => by
            have hd := (HM.out.defs g hb).2
            rcases HM.out.own.2 with ⟨h, _⟩ | ⟨g', c', cur, e1, e2, e3, _⟩
            · rw [h] at hg; cases hg
            · rw [e1] at hg
              have hgg : g' = g := by simpa [Value.ownBlock] using hg
              subst hgg
              rw [hd] at e3
              cases e3))
          have hb1 : Below w5.heap.size w5 W' := HM.out.below.trans ⟨h3, h4, h5, by rw [h2]; exact Nat.le_refl _, fun k hk => h1 k (fun hb => by
            have := (HM.out.defs k hb).1
            have := HM.out.base
            omega)⟩
          refine ⟨.tuple #[.slice Al kept.length cl, .bool true, .int .i64 0], by simp [results, Try.results25, go_sem], .slice Al kept.length cl, rfl, ?_, HB5.out.trans (hb1.mono HB5.out.size)⟩
          rw [← HE.out]
          rw [show (kept.map (·.1)).length = kept.length by simp]
          exact dN hown HB5.out.size
        | cons r rest =>
          obtain ⟨N, hN⟩ : ∃ N, (kept ++ r :: rest).length = N := ⟨_, rfl⟩
          obtain ⟨k, hk⟩ : ∃ k, kept.length = k := ⟨_, rfl⟩
          have hNk : N = k + 1 + rest.length := by rw [← hN, ← hk, List.length_append, List.length_cons]; omega
          have hN2 : N ≤ 200 := by rw [← hN]; exact hm.len
          have hcap : N ≤ cr := by rw [← hN]; exact hm.capr
          have d1 : decide ((k : Int) < (N : Int)) = true := decide_eq_true (by omega)
          have d2 : decide (k < N) = true := decide_eq_true (by omega)
          have HM := Aside0.mk hm
          have HN := Aside0.mk hN
          have HK := Aside0.mk hk
          have HNK := Aside0.mk (And.intro hNk (And.intro hN2 hcap))
          have z9d : W.drew.cell? ⟨b9, 0, none⟩ = some (.int .i64 (k : Int)) := by rw [← hk]; simpa using z9
          rw [hk] at z9
          rw [hN]
          have q1 : (k ≤ N) = True := eq_true (by omega)
          have q2 : (k + 1 ≤ N) = True := eq_true (by omega)
          have q3 : (k ≤ cr) = True := eq_true (by omega)
          have q4 : ((k : Int) + 1 ≤ (N : Int)) = True := eq_true (by omega)
          have q5 : ((k : Int) ≤ (cr : Int)) = True := eq_true (by omega)
          have q6 : ((0 : Int) ≤ (k : Int) + 1) = True := eq_true (by omega)
          have hk200 : k < 1000 := by omega
          clear hm hN hk hNk hN2 hcap
          go_wp2_with (fail)
          have hwk1 : wrap64 ((k : Int) + 1) = (k : Int) + 1 := wr64 _ (by omega) (by omega)
          refine wp_calm ?_
          refine dT (n := 10) (S := fun w' => True ∧ w'.cell? ⟨b9, 0, none⟩ = some (.int .i64 (k : Int))) (ds := []) #[false, false, false, false, false, false, false, false, false, false] (by kernel_rfl) rfl rfl ⟨trivial, z9d⟩ (fun hHeld => ?_)
          refine cU tab12 (fun HT_ => ?_)
          refine bc (i := 0) (N := some 40) (v := ?_) (a' := ?_) #[true, false, false, false, false, false, false, false, false, false] rfl rfl (aH HT_.out (by kernel_rfl)) (fun _ _ _ h => h) (Or.inl ⟨by rfl, ?_⟩) ?_ ?_
          rotate_left
          · intro w'
            go_simp
            with_reducible rfl
          rotate_left
          · simp only [Act.put, List.setIfInBounds_toArray, List.set_cons_zero, List.set_cons_succ, aq, ar]
            rfl
          refine bc (i := 3) (N := some 43) (v := ?_) (a' := ?_) #[true, false, false, true, false, false, false, false, false, false] rfl rfl (aH HT_.out (by kernel_rfl)) (fun _ _ _ h => h) (Or.inl ⟨by rfl, ?_⟩) ?_ ?_
          rotate_left
          · intro w'
            go_simp
            with_reducible rfl
          rotate_left
          · simp only [Act.put, List.setIfInBounds_toArray, List.set_cons_zero, List.set_cons_succ, aq, ar]
            rfl
          refine take_ (i := 1) (N := some 41) (v := ?_) (a' := ?_) #[true, true, false, true, false, false, false, false, false, false] rfl rfl (bE HT_.out (by kernel_rfl)) (fun _ _ _ h => h) (Or.inl ⟨by rfl, ?_⟩) hHeld ?_ ?_
          rotate_left
          · rintro w' ⟨s0, s1⟩
            go_simp
            with_reducible rfl
          rotate_left
          · simp only [Act.put, List.setIfInBounds_toArray, List.set_cons_zero, List.set_cons_succ, aq, ar]
            rfl
          refine bc (i := 2) (N := some 42) (v := ?_) (a' := ?_) #[true, true, true, true, false, false, false, false, false, false] rfl rfl (aH HT_.out (by kernel_rfl)) (fun _ _ _ h => h) (Or.inl ⟨by rfl, ?_⟩) ?_ ?_
          rotate_left
          · intro w'
            go_simp
            with_reducible rfl
          rotate_left
          · simp only [Act.put, List.setIfInBounds_toArray, List.set_cons_zero, List.set_cons_succ, aq, ar]
            rfl
          refine take_ (i := 4) (N := some 44) (v := ?_) (a' := ?_) #[true, true, true, true, true, false, false, false, false, false] rfl rfl (bE HT_.out (by kernel_rfl)) (fun _ _ _ h => h) (Or.inl ⟨by rfl, ?_⟩) hHeld ?_ ?_
          rotate_left
          · rintro w' ⟨s0, s1⟩
            go_simp
            with_reducible rfl
          rotate_left
          · simp only [Act.put, List.setIfInBounds_toArray, List.set_cons_zero, List.set_cons_succ, aq, ar]
            rfl
          refine bc (i := 5) (N := some 45) (v := ?_) (a' := ?_) #[true, true, true, true, true, true, false, false, false, false] rfl rfl (aH HT_.out (by kernel_rfl)) (fun _ _ _ h => h) (Or.inl ⟨by rfl, ?_⟩) ?_ ?_
          rotate_left
          · intro w'
            go_simp
            with_reducible rfl
          rotate_left
          · simp only [Act.put, List.setIfInBounds_toArray, List.set_cons_zero, List.set_cons_succ, aq, ar]
            rfl
          refine bc (i := 6) (N := some 46) (v := ?_) (a' := ?_) #[true, true, true, true, true, true, true, false, false, false] rfl rfl (aH HT_.out (by kernel_rfl)) (fun _ _ _ h => h) (Or.inl ⟨by rfl, ?_⟩) ?_ ?_
          rotate_left
          · intro w'
            go_simp
            with_reducible rfl
          rotate_left
          · simp only [Act.put, List.setIfInBounds_toArray, List.set_cons_zero, List.set_cons_succ, aq, ar]
            rfl
          refine fz (i := 7) (N := some 47) #[true, true, true, true, true, true, true, true, false, false] rfl rfl (bB HT_.out (by kernel_rfl)) (by decide) (fun K hK => ?_)
          refine cq (w1 := W.drew.alloc (.cells #[.slice Ar k cr, .slice (if cr = k + 1 then Ar else Option.map (fun x => x.add ((k + 1) * 4)) Ar) (N - (k + 1)) (cr - (k + 1))] 23)) (v := .slice (some ⟨W.drew.heap.size, 0, none⟩) 2 2) rfl (by first | (go_simp; done) | (go_simp; rfl)) ?_
          refine hK.out _ _ ⟨trivial, dC z9d _⟩ (fun hHeld => ?_)
          clear hK K
          refine co (a' := ?_) ?_ ?_
          rotate_left
          · show Act.put _ (some 47) _ = _
            simp only [Act.put, List.setIfInBounds_toArray, List.set_cons_zero, List.set_cons_succ, aq, ar]
            rfl
          refine fz (i := 8) (N := some 48) #[true, true, true, true, true, true, true, true, true, false] rfl rfl (bB HT_.out (by kernel_rfl)) (by decide) (fun K hK => ?_)
          have hbA : Below W.heap.size W (W.drew.alloc (.cells #[.slice Ar k cr, .slice (if cr = k + 1 then Ar else Option.map (fun x => x.add ((k + 1) * 4)) Ar) (N - (k + 1)) (cr - (k + 1))] 23)) := ⟨rfl, rfl, rfl, by simp, fun j hj => (a6 (Below.refl W.drew.heap.size W.drew) _).block j hj⟩
          have hl0 : (kept.map (·.2)).length = k := by rw [List.length_map]; exact HK.out
          have hl1 : (rest.map (·.2)).length = N - (k + 1) := by rw [List.length_map]; have := HNK.out.1; omega
          have hlo : ∀ j, (Value.slice Al (kept ++ r :: rest).length cl).ownBlock = some j → j < W.heap.size := fun j hj => own_lt HM.out.own j hj
          have hb9l : b9 < W.heap.size := aZ HM.out.at9
          have hcall := CC.concat_calls W.drew.heap.size Ar cr (kept.map (·.2)) (if cr = k + 1 then Ar else Option.map (fun x => x.add ((k + 1) * 4)) Ar) (cr - (k + 1)) (rest.map (·.2)) (W.drew.alloc (.cells #[.slice Ar k cr, .slice (if cr = k + 1 then Ar else Option.map (fun x => x.add ((k + 1) * 4)) Ar) (N - (k + 1)) (cr - (k + 1))] 23))
            (by rw [hl0, hl1]; exact aV W.drew _) (fun j => some j ≠ (Value.slice Al (kept ++ r :: rest).length cl).ownBlock ∧ j ≠ b9) (fun j hj => by
              have h1 : W.heap.size < j := by simp at hj; omega
              exact ⟨fun e => by have := hlo j e.symm; omega, by omega⟩)
            (by
              have h := Kd.F_take (m := k) (xs := (kept ++ r :: rest).map (·.2)) (by rw [List.length_map]; exact HM.out.rules) (by rw [List.length_map, HN.out]; have := HNK.out.1; omega)
              rw [List.map_append, show k = (kept.map (·.2)).length from hl0.symm, List.take_left] at h
              exact fLater h hbA)
            (by rw [hl0]; have := HNK.out; omega)
            (by
              have h := Kd.F_cut (m := k + 1) (c := cr) (xs := (kept ++ r :: rest).map (·.2)) (by rw [List.length_map]; exact HM.out.rules) (by rw [List.length_map, HN.out]; have := HNK.out.1; omega) (by rw [List.length_map]; exact HM.out.capr)
              have hdrop : ((kept ++ r :: rest).map (·.2)).drop (k + 1) = rest.map (·.2) := by
                rw [List.map_append, List.map_cons, ← hl0, List.drop_append, List.drop_of_length_le (by omega)]
                simp
              rw [hdrop] at h
              exact fLater h hbA)
            (by rw [hl1]; have := HNK.out; omega) (by rw [hl0]; have := HNK.out; omega) (by rw [hl1]; have := HNK.out; omega)
          refine goes_ Try.func45 (by kernel_rfl) rfl #[.slice (some ⟨W.drew.heap.size, 0, none⟩) 2 2] (by rfl) rfl rfl (by (try simp only [List.map_toArray, List.map_cons, List.map_nil]); first | done | rfl) ?_
          refine hcall.mono ?_
          rintro e w2 ⟨v2, rfl, hn2, hb2⟩
          refine ⟨_, rfl, ?_⟩
          obtain ⟨A2, c2, hv2⟩ := Kd.N_slice hn2
          subst hv2
          have hbw2 : Below W.heap.size W w2 := hbA.trans (hb2.mono hbA.size)
          have hll : (kept.map (·.2) ++ rest.map (·.2)).length = N - 1 := by rw [List.length_append, hl0, hl1]; have := HNK.out.1; omega
          have hcN := (Kd.N_reads' hn2).2.1
          have hCN := (Kd.N_reads' hn2).2.2
          have hFN := Kd.N_F hn2
          have HF2 := Aside0.mk hFN
          have HC2 := Aside0.mk hcN
          have HCN := Aside0.mk hCN
          have HB2 := Aside0.mk hbw2
          have HLL := Aside0.mk hll
          have HLO := Aside0.mk hlo
          have HB9 := Aside0.mk hb9l
          have z9_2 : w2.cell? ⟨b9, 0, none⟩ = some (.int .i64 (k : Int)) := (hbw2.cell (p := ⟨b9, 0, none⟩) hb9l).trans z9
          rw [hll]
          clear hcall hn2 hb2 hbA hbw2 hl0 hl1 hlo hb9l hll hcN hCN hFN
          refine hK.out _ _ ⟨trivial, z9_2⟩ (fun hHeld => ?_)
          clear hK K
          refine co (a' := ?_) ?_ ?_
          rotate_left
          · show Act.put _ (some 48) _ = _
            simp only [Act.put, List.setIfInBounds_toArray, List.set_cons_zero, List.set_cons_succ, aq, ar]
            rfl
          refine bc (i := 9) (N := some 10) (v := ?_) (a' := ?_) #[true, true, true, true, true, true, true, true, true, true] rfl rfl (aH HT_.out (by kernel_rfl)) (fun _ _ _ h => h) (Or.inl ⟨by rfl, ?_⟩) ?_ ?_
          rotate_left
          · intro w'
            go_simp
            with_reducible rfl
          rotate_left
          · simp only [Act.put, List.setIfInBounds_toArray, List.set_cons_zero, List.set_cons_succ, aq, ar]
            rfl
          refine fX (cK HT_.out (by kernel_rfl)) ?_
          have hbk2 : w2.heap[s]? = some (.cells #[.slice A0 ds.length c0, .slice A1 rs.length c1] 25 (0, 0)) := by
            have h1 := HBK.out
            rw [HSS.out] at h1
            exact ae (ae h1 HM.out.below) HB2.out
          have zz := a7 hbk2 0
          simp only [List.getElem?_toArray, List.getElem?_cons_zero] at zz
          obtain ⟨A4, hA4⟩ : ∃ A4, (if cr = k + 1 then Ar else Option.map (fun x => x.add ((k + 1) * 4)) Ar) = A4 := ⟨_, rfl⟩
          rw [hA4]
          clear hHeld HT_ hwk1 z9d hbk2 hA4
          go_wp2_with (go_at_call 46; refine (fj A0 ds.length c0 A2 (N - 1) c2 _).mono ?_; rintro e w' ⟨rfl, rfl⟩)
          obtain ⟨b5, hb5⟩ : ∃ b5, w2.heap.size = b5 := ⟨_, rfl⟩
          obtain ⟨W3, hW3⟩ : ∃ W3, (w2.alloc (.cells #[.slice A0 ds.length c0] 22)).alloc (.cells #[.slice A2 (N - 1) c2] 23) = W3 := ⟨_, rfl⟩
          have hB3 : Below w2.heap.size w2 W3 := by rw [← hW3]; exact a6 (a6 (Below.refl _ _) _) _
          have hz3 : W3.heap.size = b5 + 1 + 1 := by rw [← hW3, ← hb5]; simp
          have k5 : W3.heap[b5]? = some (.cells #[.slice A0 ds.length c0] 22 (0, 0)) := by rw [← hW3, ← hb5]; exact a9 (aV w2 _) _
          have k6 : W3.heap[b5 + 1]? = some (.cells #[.slice A2 (N - 1) c2] 23 (0, 0)) := by
            rw [← hW3, ← hb5]
            have h := aV (w2.alloc (.cells #[.slice A0 ds.length c0] 22)) (.cells #[.slice A2 (N - 1) c2] 23)
            rw [World.size_alloc] at h
            exact h
          obtain ⟨less, hless⟩ : ∃ less, kept.map (·.2) ++ rest.map (·.2) = less := ⟨_, rfl⟩
          have hlen : less.length = N - 1 := by rw [← hless]; exact HLL.out
          have hBWW : Below w.heap.size w W3 := HB5.out.trans ((HM.out.below.mono HB5.out.size).trans ((HB2.out.mono (by have := HM.out.below.size; have := HB5.out.size; omega)).trans (hB3.mono (by have h1 := HM.out.below.size; have h2 := HB5.out.size; have h3 := HB2.out.size; omega))))
          have hcn := HCN.out
          have hf2 := HF2.out
          rw [hless] at hcn hf2
          have hcn3 : Kd.C k49 W3 A2 less.length less := Kd.C_below hcn hB3
          have hseq := iter_once 2 (by omega) b5 (b5 + 1) A0 c0 ds A2 c2 less W3 k5 (by rw [hlen]; exact k6) (Kd.C_below HR0.out hBWW) hcn3 (fun r' hr' => HM.out.ok r' (by
            rw [← hless] at hr'
            rcases List.mem_append.mp hr' with h | h
            · rw [List.map_append]; exact List.mem_append.mpr (.inl h)
            · rw [List.map_append, List.map_cons]; exact List.mem_append.mpr (.inr (List.mem_cons_of_mem _ h)))) HD.out.1 HD.out.2
          have HSEQ := Aside0.mk hseq
          have HB3 := Aside0.mk hB3
          have HZ3 := Aside0.mk hz3
          have HBW := Aside0.mk (show Below W.heap.size W W3 from HB2.out.trans (hB3.mono HB2.out.size))
          have HLS := Aside0.mk hless
          have HLN := Aside0.mk hlen
          have HF3 := Aside0.mk (fLater hf2 hB3)
          rw [hW3, hb5]
          clear hW3 hb5 hB3 hz3 k5 k6 hless hlen hBWW hcn hf2 hcn3 hseq
          refine (wpIn_wide (n := 3)).1 ?_
          refine g8 rfl (by omega) (gf := 62) (lb := #[.pointer (some ⟨b5, 0, none⟩), .pointer (some ⟨b5 + 1, 0, none⟩)]) rfl trivial (enters_of Try.func62 (by kernel_rfl) rfl) HSEQ.out (fun args W ⟨x, A, c, _, e, _⟩ => by rw [e]; rfl) ?hY
            (fun c W' => c = .exit 3 ∧ W'.heap[b9]? = some (.cells #[.int .i64 ((k : Int) + 1)] 3 (0, 0)) ∧ W3.grownBy W' (some b9)) ?hIx ?body ?done ?stop
          case hY =>
            rintro args W o o' ⟨x, A, c, h1, h2, h3⟩ hl ho
            exact ⟨x, A, c, h1, h2, ownsRow_putObj h3 _ hl ho⟩
          case hIx =>
            rintro c W' o o' ⟨h0, h1, h2⟩ hl ho
            have hlt : b9 < W3.heap.size := Nat.lt_of_lt_of_le HB9.out HBW.out.size
            refine ⟨h0, ?_, ?_⟩
            · rw [World.putObj_heap_other (by omega)]; exact h1
            · exact ⟨h2.os, h2.tape, h2.output, by rw [World.putObj_size]; exact h2.size, fun j hj hne => by rw [World.putObj_heap_other (by omega)]; exact h2.block j hj hne⟩
          case body =>
            rintro l args W' _ ⟨x, A, c, _, rfl, _⟩ hb hsz
            have h9 : W'.heap[b9]? = some (.cells #[.int .i64 (k : Int)] 3 (0, 0)) := by
              have h := ae (ae HM.out.at9 HBW.out) hb
              rw [HK.out] at h
              exact h
            have y9 := a7 h9 0
            have f9 := a8 h9 0
            simp only [List.getElem?_toArray, List.getElem?_cons_zero] at y9
            have H9 := Aside0.mk h9
            clear h9 z9 z9_2
            simp only [foldOne, List.setIfInBounds_toArray, List.set_cons_succ, List.set_cons_zero]
            gi_wp2
            refine ⟨(KeepsOthers.setCell _ _ _).from _, rfl, ?_, ?_⟩
            · exact cn H9.out 0 _
            · exact ⟨hb.os, hb.tape, hb.output, by simp; exact hb.size, fun j hj hne => (Below.heap_setCell _ _ _ _ (fun e => hne (by rw [e]))).trans (hb.block j hj)⟩
          case done =>
            intro W' hno hb hD
            obtain ⟨m, rfl⟩ : ∃ m, N = m + 1 := ⟨N - 1, by have := HNK.out.1; omega⟩
            have hBWW := HBW.out.trans (hb.mono HBW.out.size)
            have hown := bY HM.out.own hBWW
            rw [HN.out] at hown
            obtain ⟨g, hg⟩ : ∃ g, Al = some ⟨g, 0, none⟩ := by
              rcases hown.2 with ⟨_, h0⟩ | ⟨g, cp, cur, h1, _⟩
              · omega
              · injection h1 with h1
                exact ⟨g, h1⟩
            subst hg
            have hlt9 : b9 < W3.heap.size := Nat.lt_of_lt_of_le HB9.out HBW.out.size
            have hg9 : g ≠ b9 := fun e => HM.out.ne9 (by rw [e]; rfl)
            have h9 : W'.heap[b9]? = some (.cells #[.int .i64 (k : Int)] 3 (0, 0)) := by
              have h := ae HM.out.at9 hBWW
              rw [HK.out] at h
              exact h
            have y9 := a7 h9 0
            simp only [List.getElem?_toArray, List.getElem?_cons_zero] at y9
            have hdel := DD.delete_ok g cl m k w5.heap.size ((kept ++ r :: rest).map (·.1)) W' (by rw [List.length_map]; exact HN.out) (by have := HNK.out.1; omega) (by rw [List.length_map, HN.out]; have := HNK.out.2.1; omega) hown (Nat.le_trans HM.out.below.size hBWW.size)
            have HDEL := Aside0.mk hdel
            have H9 := Aside0.mk h9
            have HG9 := Aside0.mk hg9
            have HBB := Aside0.mk hBWW
            have HB1 := Aside0.mk hb
            have HDD := Aside0.mk hD
            have HNO := Aside0.mk hno
            have HLT9 := Aside0.mk hlt9
            clear hno hb hD hBWW hown hlt9 hg9 h9 hdel z9 z9_2
            go_wp2_with (go_at_call 47; refine HDEL.out.mono ?_; rintro e w4 ⟨rfl, ho4, hg4⟩; have HO4 := Aside0.mk ho4; have HG4 := Aside0.mk hg4; clear ho4 hg4)
            have hcr2 : coreR ds kept rest = coreR ds [] (numbered rs) := by
              rw [← hcr]
              show _ = (if (sol (badB (kept.map (·.2) ++ rest.map (·.2))) ds []).isSome then coreR ds (kept ++ [r]) rest else coreR ds kept rest)
              rw [HLS.out, if_neg]
              intro h
              obtain ⟨x, hx⟩ := Option.isSome_iff_exists.mp h
              exact HNO.out ⟨x, hx⟩
            have hl2 : (kept ++ rest).length = m := by rw [List.length_append, HK.out]; have := HNK.out.1; omega
            have her : ((kept ++ r :: rest).map (·.1)).eraseIdx k = (kept ++ rest).map (·.1) := by
              rw [List.map_append, List.map_cons, List.map_append, List.eraseIdx_append_of_length_le (by rw [List.length_map, HK.out]; exact Nat.le_refl _), List.length_map, HK.out, Nat.sub_self]
              rfl
            have hmap : (kept ++ rest).map (·.2) = less := by rw [List.map_append]; exact HLS.out
            have hnb : ∀ b ∈ bs, b < W.heap.size := fun b hb => (Array.getElem?_eq_some_iff.1 (HM.out.defs b hb).2).1
            have hown := HM.out.own
            rw [HN.out] at hown
            have hgW : ∃ cur, W.heap[g]? = some (.cells cur 3 (0, 0)) := by
              rcases hown.2 with ⟨h, _⟩ | ⟨g', cp, cur, h1, _, h3, _⟩
              · cases h
              · injection h1 with h1 _ _
                injection h1 with h1
                injection h1 with h1 _ _
                subst h1
                exact ⟨cur, h3⟩
            obtain ⟨cur, hcur⟩ := hgW
            have hgb : w5.heap.size ≤ g := bO hown g rfl
            have hgl := aZ hcur
            have hm2 : CMem s b9 w5 (kept ++ rest) kept.length (W3.heap.size :: bs) (some ⟨g, 0, none⟩) cl A2 c2 w4 := by
              refine ⟨?_, ?_, ?_, ?_, ?_, ?_, HM.out.base, ?_, ?_, ?_, ?_⟩
              · rw [HK.out]
                exact (HG4.out.block b9 (Nat.lt_of_lt_of_le HLT9.out HB1.out.size) (fun e => HG9.out (Option.some.inj e).symm)).trans H9.out
              · rw [hl2]
                have h := HO4.out
                rw [her] at h
                exact h
              · intro e
                exact HG9.out (Option.some.inj e).symm
              · rw [hl2, hmap]
                have h := HF3.out
                rw [show less.length = m from by rw [HLN.out]; rfl] at h
                exact fGrown (fLater h HB1.out) HG4.out (fun j hj e => hj.1 (by rw [e]; rfl))
              · rw [hl2]
                have h := HC2.out
                rw [HLL.out] at h
                exact h
              · exact ((HM.out.below.trans (HBB.out.mono HM.out.below.size))).grown HG4.out (Nat.le_trans HM.out.below.size HBB.out.size) (fun j hj => by cases hj; exact hgb)
              · exact List.nodup_cons.mpr ⟨fun h => by have := hnb _ h; have := HBW.out.size; omega, HM.out.nodup⟩
              · intro b hb
                rcases List.mem_cons.mp hb with rfl | hb
                · exact ⟨HLT9.out, (HG4.out.block _ (aZ HDD.out) (fun e => by have h := Option.some.inj e; have := HBW.out.size; omega)).trans HDD.out⟩
                · have hd := HM.out.defs b hb
                  exact ⟨hd.1, (HG4.out.block b (Nat.lt_of_lt_of_le (hnb b hb) HBB.out.size) (fun e => by
                    have h := Option.some.inj e
                    subst h
                    rw [hd.2] at hcur
                    cases hcur)).trans ((HBB.out.block b (hnb b hb)).trans hd.2)⟩
              · intro r' hr'
                rw [List.map_append] at hr'
                refine HM.out.ok r' ?_
                rw [List.map_append, List.map_cons]
                rcases List.mem_append.mp hr' with h | h
                · exact List.mem_append.mpr (.inl h)
                · exact List.mem_append.mpr (.inr (List.mem_cons_of_mem _ h))
              · rw [hl2]; have := HNK.out.2.1; omega
            have HM2 := Aside0.mk hm2
            have HL2 := Aside0.mk hl2
            have fin : ∀ T : Array Value, T = List.toArray (T.getD 0 undef :: (.pointer (some ⟨s, 0, none⟩) : Value) :: (.slice (some ⟨g, 0, none⟩) m cl : Value) :: T.getD 3 undef :: T.getD 4 undef :: T.getD 5 undef :: T.getD 6 undef :: (.slice A2 m c2 : Value) :: T.getD 8 undef :: (.pointer (some ⟨b9, 0, none⟩) : Value) :: T.getD 10 undef :: T.getD 11 undef :: T.getD 12 undef :: T.getD 13 undef :: T.getD 14 undef :: T.getD 15 undef :: T.getD 16 undef :: T.getD 17 undef :: T.getD 18 undef :: T.getD 19 undef :: T.getD 20 undef :: T.getD 21 undef :: T.getD 22 undef :: T.getD 23 undef :: T.getD 24 undef :: T.getD 25 undef :: T.getD 26 undef :: T.getD 27 undef :: T.getD 28 undef :: T.getD 29 undef :: T.getD 30 undef :: T.getD 31 undef :: T.getD 32 undef :: T.getD 33 undef :: T.getD 34 undef :: T.getD 35 undef :: T.getD 36 undef :: T.getD 37 undef :: T.getD 38 undef :: T.getD 39 undef :: T.getD 40 undef :: T.getD 41 undef :: T.getD 42 undef :: T.getD 43 undef :: T.getD 44 undef :: T.getD 45 undef :: T.getD 46 undef :: T.getD 47 undef :: T.getD 48 undef :: T.getD 49 undef :: T.getD 50 undef :: T.getD 51 undef :: T.getD 52 undef :: T.getD 53 undef :: T.getD 54 undef :: T.getD 55 undef :: T.getD 56 undef :: T.getD 57 undef :: T.getD 58 undef :: T.getD 59 undef :: T.getD 60 undef :: T.getD 61 undef :: T.getD 62 undef :: []) → Handed J (r :: rest).length { tmps := T, defers := { target := .collected W3.heap.size, args := #[] } :: marks bs } w4 := fun T hT =>
              ⟨rest.length, by simp, hJ _ _ _ ⟨kept, rest, W3.heap.size :: bs, some ⟨g, 0, none⟩, cl, A2, c2, fun i => T.getD i undef, rfl, hcr2, HM2.out, by rw [HL2.out]; exact congrArg (fun T => (Act.mk T _)) hT⟩⟩
            exact fin _ rfl
          case stop =>
            rintro c W' hyes ⟨rfl, h1, h2⟩ hD
            have hkr : (kept ++ [r]) ++ rest = kept ++ r :: rest := by simp
            have hlt : b9 < W3.heap.size := Nat.lt_of_lt_of_le HB9.out HBW.out.size
            have hnb : ∀ b ∈ bs, b < W.heap.size := fun b hb => (Array.getElem?_eq_some_iff.1 (HM.out.defs b hb).2).1
            have hm2 : CMem s b9 w5 ((kept ++ [r]) ++ rest) (kept ++ [r]).length (W3.heap.size :: bs) Al cl Ar cr W' := by
              rw [hkr]
              refine ⟨?_, ?_, HM.out.ne9, ?_, HM.out.capr, ?_, HM.out.base, ?_, ?_, HM.out.ok, HM.out.len⟩
              · rw [show ((kept ++ [r]).length : Int) = (k : Int) + 1 by rw [List.length_append, HK.out]; rfl]; exact h1
              · exact World.ownsRow.kept (bY HM.out.own HBW.out) h2 (.inr (fun e => HM.out.ne9 e.symm))
              · exact fGrown (fLater HM.out.rules HBW.out) h2 (fun j hj => hj.2)
              · exact (HM.out.below.trans (HBW.out.mono HM.out.below.size)).grown h2 (Nat.le_trans HM.out.below.size HBW.out.size) (fun j hj => by cases hj; exact HM.out.base)
              · exact List.nodup_cons.mpr ⟨fun h => by have := hnb _ h; have := HBW.out.size; omega, HM.out.nodup⟩
              · intro b hb
                rcases List.mem_cons.mp hb with rfl | hb
                · exact ⟨hlt, hD⟩
                · have hd := HM.out.defs b hb
                  exact ⟨hd.1, (h2.block b (Nat.lt_of_lt_of_le (hnb b hb) HBW.out.size) (fun e => by cases e; omega)).trans ((HBW.out.block b (hnb b hb)).trans hd.2)⟩
            have hcr2 : coreR ds (kept ++ [r]) rest = coreR ds [] (numbered rs) := by
              rw [← hcr]
              show _ = (if (sol (badB (kept.map (·.2) ++ rest.map (·.2))) ds []).isSome then coreR ds (kept ++ [r]) rest else coreR ds kept rest)
              rw [HLS.out, if_pos (by obtain ⟨x, hx⟩ := hyes; rw [hx]; rfl)]
            have HM2 := Aside0.mk hm2
            have HCR2 := Aside0.mk hcr2
            have HL2 := Aside0.mk (show ((kept ++ [r]) ++ rest).length = N by rw [hkr]; exact HN.out)
            clear hkr hlt hnb hm2 hcr2 h1 h2 hD hyes z9 z9_2
            gi_wp2
            have fin : ∀ T : Array Value, T = List.toArray (T.getD 0 undef :: (.pointer (some ⟨s, 0, none⟩) : Value) :: (.slice Al N cl : Value) :: T.getD 3 undef :: T.getD 4 undef :: T.getD 5 undef :: T.getD 6 undef :: (.slice Ar N cr : Value) :: T.getD 8 undef :: (.pointer (some ⟨b9, 0, none⟩) : Value) :: T.getD 10 undef :: T.getD 11 undef :: T.getD 12 undef :: T.getD 13 undef :: T.getD 14 undef :: T.getD 15 undef :: T.getD 16 undef :: T.getD 17 undef :: T.getD 18 undef :: T.getD 19 undef :: T.getD 20 undef :: T.getD 21 undef :: T.getD 22 undef :: T.getD 23 undef :: T.getD 24 undef :: T.getD 25 undef :: T.getD 26 undef :: T.getD 27 undef :: T.getD 28 undef :: T.getD 29 undef :: T.getD 30 undef :: T.getD 31 undef :: T.getD 32 undef :: T.getD 33 undef :: T.getD 34 undef :: T.getD 35 undef :: T.getD 36 undef :: T.getD 37 undef :: T.getD 38 undef :: T.getD 39 undef :: T.getD 40 undef :: T.getD 41 undef :: T.getD 42 undef :: T.getD 43 undef :: T.getD 44 undef :: T.getD 45 undef :: T.getD 46 undef :: T.getD 47 undef :: T.getD 48 undef :: T.getD 49 undef :: T.getD 50 undef :: T.getD 51 undef :: T.getD 52 undef :: T.getD 53 undef :: T.getD 54 undef :: T.getD 55 undef :: T.getD 56 undef :: T.getD 57 undef :: T.getD 58 undef :: T.getD 59 undef :: T.getD 60 undef :: T.getD 61 undef :: T.getD 62 undef :: []) → Handed J (rest.length + 1) { tmps := T, defers := { target := .collected W3.heap.size, args := #[] } :: marks bs } W' := fun T hT =>
              ⟨rest.length, by omega, hJ _ _ _ ⟨kept ++ [r], rest, W3.heap.size :: bs, Al, cl, Ar, cr, fun i => T.getD i undef, rfl, HCR2.out, HM2.out, by rw [HL2.out]; exact congrArg (fun T => (Act.mk T _)) hT⟩⟩
            exact fin _ rfl
end DF
end Go.Proofs.Ytcbpkdemcdikaaa.X
namespace Go.Proofs.Ytcbpkdemcdikaaa.X
open Go.RowKit Go.Proofs.YtcbpkdemcdikaaaW.PrintWords Go.Proofs.YtcbpkdemcdikaaaW.PrintLast Go.Proofs.YtcbpkdemcdikaaaW.PrintMore
attribute [local go_sem] ay az aN aM ao ap aw ax   
set_option linter.unusedVariables false
set_option linter.unusedSimpArgs false
def search_Core.f (k : Nat) (ai : List (List Int)) (af : List (S49)) : Option (List Int × Bool × Int) :=
 (search_Solve.f k ai af).bind fun s => if s.2.2 ≠ 0 ∨ s.2.1 = true then some ([], false, s.2.2) else if af.all SF.okB && decide (0 < ai.length) && decide (ai.length ≤ 1000) && decide (af.length ≤ 200) then some (DF.coreR ai [] (DF.numbered af), true, 0) else none
theorem search_Core.calls (k : Nat) (aC : Option Addr) (aA : Nat) (ai : List (List Int)) (aI : Option Addr) (au : Nat) (af : List (S49)) (r1 : List Int) (r2 : Bool) (r3 : Int) (w : World) (bA : Kd.C (Kd.slice 3 (Kd.int .i64)) w aC ai.length ai) (bJ : ai.length ≤ aA) (bx : Kd.C k49 w aI af.length af) (bC : af.length ≤ au) (h : search_Core.f k ai af = some (r1, r2, r3)) :
  Calls Try.prog 25 #[.agg #[.slice aC ai.length aA, .slice aI af.length au]] w fun e w' => ∃ v0_ : Value, e = .returned (.tuple #[v0_, .bool r2, .int .i64 r3]) ∧ Kd.R (Kd.int .i64) 3 w' w.heap.size (fun _ => True) v0_ r1 ∧ Below w.heap.size w w' := by
 unfold search_Core.f at h
 obtain ⟨⟨s1, s2, s3⟩, hs, h⟩ := Option.bind_eq_some_iff.mp h
 have hS : ∀ W, Below w.heap.size w W → Calls Try.prog 15 #[.agg #[.slice aC ai.length aA, .slice aI af.length au]] W fun e w' => ∃ v0, e = .returned (.tuple #[v0, .bool s2, .int .i64 s3]) ∧ Below W.heap.size W w' := fun W hW =>
  (search_Solve.calls k aC aA ai aI au af s1 s2 s3 W (Kd.C_below bA hW) bJ (Kd.C_below bx hW) bC hs).mono (by rintro e w' ⟨v, he, -, hb⟩; exact ⟨v, he, hb⟩)
 simp only at h
 split at h
 ·rename_i hno
  cases h
  refine (DF.core_no aC aA ai aI au af w s2 _ hno hS).mono ?_
  rintro e w' ⟨he, hb⟩
  exact ⟨_, he, Kd.R_of_own (World.ownsRow_nil _ _ _ _) (fun _ _ => trivial), hb⟩
 ·rename_i hyes
  split at h
  ·rename_i hk
   simp only [Bool.and_eq_true, decide_eq_true_eq, List.all_eq_true] at hk
   cases h
   obtain rfl : s3 = 0 := Decidable.byContradiction fun hn => hyes (.inl hn)
   obtain rfl : s2 = false := Bool.eq_false_iff.mpr fun hn => hyes (.inr hn)
   refine (DF.core_yes aC aA ai aI au af w hS bA bx bC (fun r hr => SF.okB_R (hk.1.1.1 r hr)) hk.1.1.2 hk.1.2 hk.2).mono ?_
   rintro e w' ⟨v, he, ho, hb⟩
   exact ⟨v, he, Kd.R_of_own ho (fun _ _ => trivial), hb⟩
  ·cases h
end Go.Proofs.Ytcbpkdemcdikaaa.X
namespace Go.Proofs.Ytcbpkdemcdikaaa.X
open Go.RowKit Go.Proofs.YtcbpkdemcdikaaaW.PrintWords Go.Proofs.YtcbpkdemcdikaaaW.PrintLast Go.Proofs.YtcbpkdemcdikaaaW.PrintMore
attribute [local go_sem] ay az aN aM ao ap aw ax   
set_option linter.unusedVariables false
set_option linter.unusedSimpArgs false
namespace SN
attribute [local go_sem] Oper.semAt_some
set_option maxHeartbeats 16000000
theorem cd {α : Type} {d : Kd α} {W : World} {g : Nat} {t : TypeId} (l : List α) (cs : List (List Value)) (hl : l.length < 1000) (h : W.heap[g]? = some (.cells cs.flatten.toArray t (0, 0))) (hlen : l.length = cs.length) (hK : ∀ q ∈ l.zip cs, q.2.length = d.sz ∧ d.K W q.1 q.2) : Kd.C d W (some ⟨g, 0, none⟩) l.length l := by
 refine ⟨rfl, by omega, fun hp => ⟨_, rfl, fun j p hj => ?_⟩⟩
 obtain ⟨hj1, rfl⟩ := List.getElem?_eq_some_iff.1 hj
 have hj2 : j < cs.length := hlen ▸ hj1
 have hz : (l.zip cs)[j]'(by simp; omega) = (l[j], cs[j]) := by simp
 obtain ⟨hs, hk⟩ := hK _ (hz ▸ List.getElem_mem (l := l.zip cs) (by simp; omega))
 refine ⟨cs[j], hs, hk, fun i u hu => ?_⟩
 have hi : i < cs[j].length := (List.getElem?_eq_some_iff.1 hu).1
 have hall : ∀ c ∈ cs, c.length = d.sz := fun c hc => by
  obtain ⟨m, hm, rfl⟩ := List.mem_iff_getElem.1 hc
  have hz' : (l.zip cs)[m]'(by simp; omega) = (l[m]'(by omega), cs[m]) := by simp
  exact (hK _ (hz' ▸ List.getElem_mem (l := l.zip cs) (by simp; omega))).1
 have hf : ∀ (cs : List (List Value)) (j : Nat) (hj : j < cs.length), (∀ c ∈ cs, c.length = d.sz) → i < d.sz → cs.flatten[j * d.sz + i]? = cs[j][i]? := by
  intro cs
  induction cs with
  | nil => intro j hj; simp at hj
  | cons a cs ih =>
   intro j hj ha hi
   have ha0 := ha a (by simp)
   cases j with
   | zero => simp [List.getElem?_append_left (by omega : i < a.length)]
   | succ j =>
    rw [List.flatten_cons, List.getElem?_append_right (by rw [ha0, Nat.succ_mul]; omega), ha0, show (j + 1) * d.sz + i - d.sz = j * d.sz + i by rw [Nat.succ_mul]; omega]
    exact ih j (by simpa using hj) (fun c hc => ha c (by simp [hc])) hi
 have := a7 h (j * d.sz + i)
 rw [List.getElem?_toArray, hf cs j hj2 hall (by rw [← hall _ (List.getElem_mem hj2)]; exact hi), hu] at this
 rw [add_plain]
 exact this
theorem flat_nums : ∀ l : List Int, (l.map fun x => [Value.int .i64 x]).flatten = bM .i64 l
 | [] => rfl
 | a :: l => by rw [List.map_cons, List.flatten_cons, flat_nums l]; rfl
theorem bP {W : World} {g : Nat} {t : TypeId} (l : List Int) (hl : l.length < 1000) (h : W.heap[g]? = some (.cells (bM .i64 l).toArray t (0, 0))) : Kd.C (Kd.int .i64) W (some ⟨g, 0, none⟩) l.length l := by
 refine cd l (l.map fun x => [.int .i64 x]) hl (by rw [h, flat_nums]) (by simp) (fun q hq => ?_)
 obtain ⟨j, hj, rfl⟩ := List.mem_iff_getElem.1 hq
 simp only [List.getElem_zip, List.getElem_map]
 exact ⟨rfl, rfl⟩
theorem row_K {W : World} {g : Nat} {l : List Int} (h : Kd.C (Kd.int .i64) W (some ⟨g, 0, none⟩) l.length l) : [Value.slice (some ⟨g, 0, none⟩) l.length l.length].length = (Kd.slice 3 (Kd.int .i64)).sz ∧ (Kd.slice 3 (Kd.int .i64)).K W l [.slice (some ⟨g, 0, none⟩) l.length l.length] := ⟨rfl, _, _, rfl, Nat.le_refl _, h⟩
theorem nil_C {W : World} {α : Type} {d : Kd α} : Kd.C d W none ([] : List α).length [] := ⟨rfl, by simp, fun h => by simp at h⟩
theorem fE {W : World} {g : Nat} {l : List Int} (a b : Int) (h : Kd.C (Kd.int .i64) W (some ⟨g, 0, none⟩) l.length l) : [Value.int .i64 a, .int .i64 b, .slice (some ⟨g, 0, none⟩) l.length l.length, .slice none 0 0].length = k49.sz ∧ k49.K W ⟨a, b, l, []⟩ [.int .i64 a, .int .i64 b, .slice (some ⟨g, 0, none⟩) l.length l.length, .slice none 0 0] :=
 ⟨rfl, k49_mk W ⟨a, b, l, []⟩ (Nat.le_refl _) h (Nat.le_refl _) nil_C⟩
theorem aX : ∀ (L : List Obj) (w : World) (i : Nat) (o : Obj), L[i]? = some o → (L.foldl World.alloc w).heap[w.heap.size + i]? = some o
 | [], _, _, _, h => by simp at h
 | a :: L, w, 0, o, h => by
  obtain rfl : a = o := by simpa using h
  have H : ∀ (L : List Obj) (W : World), W.heap[w.heap.size]? = some a → (L.foldl World.alloc W).heap[w.heap.size]? = some a := by
   intro L
   induction L with
   | nil => intro W hW; exact hW
   | cons b L ih => intro W hW; exact ih _ (a9 hW b)
  exact H L _ (aV w a)
 | a :: L, w, i + 1, o, h => by
  have := aX L (w.alloc a) i o (by simpa using h)
  rw [World.size_alloc] at this
  rw [show w.heap.size + (i + 1) = w.heap.size + 1 + i by omega]
  exact this
theorem below_list : ∀ (L : List Obj) (w W : World), Below w.heap.size w W → Below w.heap.size w (L.foldl World.alloc W)
 | [], _, _, h => h
 | a :: L, w, W, h => below_list L w _ (a6 h a)
structure SM (b2 b4 b5 b11 b12 b13 b15 b16 b18 b20 b21 b25 b27 b28 : Nat) (W : World) : Prop where
 k5 : W.heap[b5]? = some (.cells #[.slice (some ⟨b2, 0, none⟩) 2 2, .slice (some ⟨b4, 0, none⟩) 1 1] 25 (0, 0))
 k13 : W.heap[b13]? = some (.cells #[.slice (some ⟨b11, 0, none⟩) 3 3, .slice (some ⟨b12, 0, none⟩) 1 1] 25 (0, 0))
 k16 : W.heap[b16]? = some (.cells #[.slice (some ⟨b11, 0, none⟩) 3 3, .slice (some ⟨b15, 0, none⟩) 2 2] 25 (0, 0))
 k21 : W.heap[b21]? = some (.cells #[.slice (some ⟨b18, 0, none⟩) 1 1, .slice (some ⟨b20, 0, none⟩) 1 1] 25 (0, 0))
 k28 : W.heap[b28]? = some (.cells #[.slice (some ⟨b25, 0, none⟩) 3 3, .slice (some ⟨b27, 0, none⟩) 2 2] 25 (0, 0))
 p2 : Kd.C (Kd.slice 3 (Kd.int .i64)) W (some ⟨b2, 0, none⟩) 2 [[1, 2], [1, 2]]
 q4 : Kd.C k49 W (some ⟨b4, 0, none⟩) 1 [⟨4, 0, [0, 1], []⟩]
 p11 : Kd.C (Kd.slice 3 (Kd.int .i64)) W (some ⟨b11, 0, none⟩) 3 [[0, 1, 2], [0, 1, 2], [0, 1, 2]]
 q12 : Kd.C k49 W (some ⟨b12, 0, none⟩) 1 [⟨2, 0, [0, 1, 2], []⟩]
 q15 : Kd.C k49 W (some ⟨b15, 0, none⟩) 2 [⟨2, 0, [0, 1, 2], []⟩, ⟨3, 2, [0, 1], []⟩]
 p18 : Kd.C (Kd.slice 3 (Kd.int .i64)) W (some ⟨b18, 0, none⟩) 1 [[3, 4]]
 q20 : Kd.C k49 W (some ⟨b20, 0, none⟩) 1 [⟨1, 0, [0], []⟩]
 p25 : Kd.C (Kd.slice 3 (Kd.int .i64)) W (some ⟨b25, 0, none⟩) 3 [[0, 1], [0, 1], [0, 1]]
 q27 : Kd.C k49 W (some ⟨b27, 0, none⟩) 2 [⟨2, 0, [0, 1, 2], []⟩, ⟨4, 0, [0, 1], []⟩]
theorem SM.later {b2 b4 b5 b11 b12 b13 b15 b16 b18 b20 b21 b25 b27 b28 : Nat} {W W' : World} (h : SM b2 b4 b5 b11 b12 b13 b15 b16 b18 b20 b21 b25 b27 b28 W) (hb : Below W.heap.size W W') : SM b2 b4 b5 b11 b12 b13 b15 b16 b18 b20 b21 b25 b27 b28 W' :=
 ⟨ae h.k5 hb, ae h.k13 hb, ae h.k16 hb, ae h.k21 hb, ae h.k28 hb, Kd.C_below h.p2 hb, Kd.C_below h.q4 hb, Kd.C_below h.p11 hb, Kd.C_below h.q12 hb, Kd.C_below h.q15 hb, Kd.C_below h.p18 hb, Kd.C_below h.q20 hb, Kd.C_below h.p25 hb, Kd.C_below h.q27 hb⟩
def pr5 : List S39 := [⟨0, []⟩, ⟨0, []⟩]
set_option maxRecDepth 100000 in
theorem sane_calls (w : World) : Calls Try.prog 11 #[] w fun e w' => e = .returned (.bool true) ∧ Below w.heap.size w w' := by
 go_enter Try.func11, Try.ntmps11
 go_wp2_with fail
 obtain ⟨b1, hb1⟩ : ∃ b, w.heap.size + 1 = b := ⟨_, rfl⟩
 obtain ⟨b2, hb2⟩ : ∃ b, b1 + 1 = b := ⟨_, rfl⟩
 obtain ⟨b3, hb3⟩ : ∃ b, b2 + 1 = b := ⟨_, rfl⟩
 obtain ⟨b4, hb4⟩ : ∃ b, b3 + 1 = b := ⟨_, rfl⟩
 obtain ⟨b5, hb5⟩ : ∃ b, b4 + 1 = b := ⟨_, rfl⟩
 obtain ⟨b6, hb6⟩ : ∃ b, b5 + 1 = b := ⟨_, rfl⟩
 obtain ⟨b7, hb7⟩ : ∃ b, b6 + 1 = b := ⟨_, rfl⟩
 obtain ⟨b8, hb8⟩ : ∃ b, b7 + 1 = b := ⟨_, rfl⟩
 obtain ⟨b9, hb9⟩ : ∃ b, b8 + 1 = b := ⟨_, rfl⟩
 obtain ⟨b10, hb10⟩ : ∃ b, b9 + 1 = b := ⟨_, rfl⟩
 obtain ⟨b11, hb11⟩ : ∃ b, b10 + 1 = b := ⟨_, rfl⟩
 obtain ⟨b12, hb12⟩ : ∃ b, b11 + 1 = b := ⟨_, rfl⟩
 obtain ⟨b13, hb13⟩ : ∃ b, b12 + 1 = b := ⟨_, rfl⟩
 obtain ⟨b14, hb14⟩ : ∃ b, b13 + 1 = b := ⟨_, rfl⟩
 obtain ⟨b15, hb15⟩ : ∃ b, b14 + 1 = b := ⟨_, rfl⟩
 obtain ⟨b16, hb16⟩ : ∃ b, b15 + 1 = b := ⟨_, rfl⟩
 obtain ⟨b17, hb17⟩ : ∃ b, b16 + 1 = b := ⟨_, rfl⟩
 obtain ⟨b18, hb18⟩ : ∃ b, b17 + 1 = b := ⟨_, rfl⟩
 obtain ⟨b19, hb19⟩ : ∃ b, b18 + 1 = b := ⟨_, rfl⟩
 obtain ⟨b20, hb20⟩ : ∃ b, b19 + 1 = b := ⟨_, rfl⟩
 obtain ⟨b21, hb21⟩ : ∃ b, b20 + 1 = b := ⟨_, rfl⟩
 obtain ⟨b22, hb22⟩ : ∃ b, b21 + 1 = b := ⟨_, rfl⟩
 obtain ⟨b23, hb23⟩ : ∃ b, b22 + 1 = b := ⟨_, rfl⟩
 obtain ⟨b24, hb24⟩ : ∃ b, b23 + 1 = b := ⟨_, rfl⟩
 obtain ⟨b25, hb25⟩ : ∃ b, b24 + 1 = b := ⟨_, rfl⟩
 obtain ⟨b26, hb26⟩ : ∃ b, b25 + 1 = b := ⟨_, rfl⟩
 obtain ⟨b27, hb27⟩ : ∃ b, b26 + 1 = b := ⟨_, rfl⟩
 obtain ⟨b28, hb28⟩ : ∃ b, b27 + 1 = b := ⟨_, rfl⟩
 obtain ⟨b29, hb29⟩ : ∃ b, b28 + 1 = b := ⟨_, rfl⟩
 obtain ⟨b0, hb0⟩ : ∃ b, w.heap.size = b := ⟨_, rfl⟩
 simp only [hb29, hb28, hb27, hb26, hb25, hb24, hb23, hb22, hb21, hb20, hb19, hb18, hb17, hb16, hb15, hb14, hb13, hb12, hb11, hb10, hb9, hb8, hb7, hb6, hb5, hb4, hb3, hb2, hb1]
 obtain ⟨W0, hW0⟩ : ∃ W0, ([.cells #[.int .i64 1, .int .i64 2] 3, .cells #[.int .i64 1, .int .i64 2] 3, .cells #[.slice (some ⟨w.heap.size, 0, none⟩) 2 2, .slice (some ⟨b1, 0, none⟩) 2 2] 26, .cells #[.int .i64 0, .int .i64 1] 3, .cells #[.int .i64 4, .int .i64 0, .slice (some ⟨b3, 0, none⟩) 2 2, .slice none 0 0] 49, .cells #[.slice (some ⟨b2, 0, none⟩) 2 2, .slice (some ⟨b4, 0, none⟩) 1 1] 25, .cells #[.int .i64 0, .int .i64 1, .int .i64 2] 3, .cells #[.int .i64 2, .int .i64 0, .slice (some ⟨b6, 0, none⟩) 3 3, .slice none 0 0] 49, .cells #[.int .i64 0, .int .i64 1, .int .i64 2] 3, .cells #[.int .i64 0, .int .i64 1, .int .i64 2] 3, .cells #[.int .i64 0, .int .i64 1, .int .i64 2] 3, .cells #[.slice (some ⟨b8, 0, none⟩) 3 3, .slice (some ⟨b9, 0, none⟩) 3 3, .slice (some ⟨b10, 0, none⟩) 3 3] 26, .cells #[.int .i64 2, .int .i64 0, .slice (some ⟨b6, 0, none⟩) 3 3, .slice none 0 0] 49, .cells #[.slice (some ⟨b11, 0, none⟩) 3 3, .slice (some ⟨b12, 0, none⟩) 1 1] 25, .cells #[.int .i64 0, .int .i64 1] 3, .cells #[.int .i64 2, .int .i64 0, .slice (some ⟨b6, 0, none⟩) 3 3, .slice none 0 0, .int .i64 3, .int .i64 2, .slice (some ⟨b14, 0, none⟩) 2 2, .slice none 0 0] 49, .cells #[.slice (some ⟨b11, 0, none⟩) 3 3, .slice (some ⟨b15, 0, none⟩) 2 2] 25, .cells #[.int .i64 3, .int .i64 4] 3, .cells #[.slice (some ⟨b17, 0, none⟩) 2 2] 26, .cells #[.int .i64 0] 3, .cells #[.int .i64 1, .int .i64 0, .slice (some ⟨b19, 0, none⟩) 1 1, .slice none 0 0] 49, .cells #[.slice (some ⟨b18, 0, none⟩) 1 1, .slice (some ⟨b20, 0, none⟩) 1 1] 25, .cells #[.int .i64 0, .int .i64 1] 3, .cells #[.int .i64 0, .int .i64 1] 3, .cells #[.int .i64 0, .int .i64 1] 3, .cells #[.slice (some ⟨b22, 0, none⟩) 2 2, .slice (some ⟨b23, 0, none⟩) 2 2, .slice (some ⟨b24, 0, none⟩) 2 2] 26, .cells #[.int .i64 0, .int .i64 1] 3, .cells #[.int .i64 2, .int .i64 0, .slice (some ⟨b6, 0, none⟩) 3 3, .slice none 0 0, .int .i64 4, .int .i64 0, .slice (some ⟨b26, 0, none⟩) 2 2, .slice none 0 0] 49, .cells #[.slice (some ⟨b25, 0, none⟩) 3 3, .slice (some ⟨b27, 0, none⟩) 2 2] 25, .cells #[.int .i64 2, .int .i64 1] 3] : List Obj).foldl World.alloc w = W0 := ⟨_, rfl⟩
 have E0 := Aside0.mk (hW0 ▸ below_list [.cells #[.int .i64 1, .int .i64 2] 3, .cells #[.int .i64 1, .int .i64 2] 3, .cells #[.slice (some ⟨w.heap.size, 0, none⟩) 2 2, .slice (some ⟨b1, 0, none⟩) 2 2] 26, .cells #[.int .i64 0, .int .i64 1] 3, .cells #[.int .i64 4, .int .i64 0, .slice (some ⟨b3, 0, none⟩) 2 2, .slice none 0 0] 49, .cells #[.slice (some ⟨b2, 0, none⟩) 2 2, .slice (some ⟨b4, 0, none⟩) 1 1] 25, .cells #[.int .i64 0, .int .i64 1, .int .i64 2] 3, .cells #[.int .i64 2, .int .i64 0, .slice (some ⟨b6, 0, none⟩) 3 3, .slice none 0 0] 49, .cells #[.int .i64 0, .int .i64 1, .int .i64 2] 3, .cells #[.int .i64 0, .int .i64 1, .int .i64 2] 3, .cells #[.int .i64 0, .int .i64 1, .int .i64 2] 3, .cells #[.slice (some ⟨b8, 0, none⟩) 3 3, .slice (some ⟨b9, 0, none⟩) 3 3, .slice (some ⟨b10, 0, none⟩) 3 3] 26, .cells #[.int .i64 2, .int .i64 0, .slice (some ⟨b6, 0, none⟩) 3 3, .slice none 0 0] 49, .cells #[.slice (some ⟨b11, 0, none⟩) 3 3, .slice (some ⟨b12, 0, none⟩) 1 1] 25, .cells #[.int .i64 0, .int .i64 1] 3, .cells #[.int .i64 2, .int .i64 0, .slice (some ⟨b6, 0, none⟩) 3 3, .slice none 0 0, .int .i64 3, .int .i64 2, .slice (some ⟨b14, 0, none⟩) 2 2, .slice none 0 0] 49, .cells #[.slice (some ⟨b11, 0, none⟩) 3 3, .slice (some ⟨b15, 0, none⟩) 2 2] 25, .cells #[.int .i64 3, .int .i64 4] 3, .cells #[.slice (some ⟨b17, 0, none⟩) 2 2] 26, .cells #[.int .i64 0] 3, .cells #[.int .i64 1, .int .i64 0, .slice (some ⟨b19, 0, none⟩) 1 1, .slice none 0 0] 49, .cells #[.slice (some ⟨b18, 0, none⟩) 1 1, .slice (some ⟨b20, 0, none⟩) 1 1] 25, .cells #[.int .i64 0, .int .i64 1] 3, .cells #[.int .i64 0, .int .i64 1] 3, .cells #[.int .i64 0, .int .i64 1] 3, .cells #[.slice (some ⟨b22, 0, none⟩) 2 2, .slice (some ⟨b23, 0, none⟩) 2 2, .slice (some ⟨b24, 0, none⟩) 2 2] 26, .cells #[.int .i64 0, .int .i64 1] 3, .cells #[.int .i64 2, .int .i64 0, .slice (some ⟨b6, 0, none⟩) 3 3, .slice none 0 0, .int .i64 4, .int .i64 0, .slice (some ⟨b26, 0, none⟩) 2 2, .slice none 0 0] 49, .cells #[.slice (some ⟨b25, 0, none⟩) 3 3, .slice (some ⟨b27, 0, none⟩) 2 2] 25, .cells #[.int .i64 2, .int .i64 1] 3] w w (Below.refl _ _) : Below w.heap.size w W0)
 have k0 : W0.heap[b0]? = some (.cells #[.int .i64 1, .int .i64 2] 3 (0, 0)) := by rw [← hW0, show b0 = w.heap.size + 0 by omega]; exact aX _ w 0 _ rfl
 have k1 : W0.heap[b1]? = some (.cells #[.int .i64 1, .int .i64 2] 3 (0, 0)) := by rw [← hW0, show b1 = w.heap.size + 1 by omega]; exact aX _ w 1 _ rfl
 have k2 : W0.heap[b2]? = some (.cells #[.slice (some ⟨w.heap.size, 0, none⟩) 2 2, .slice (some ⟨b1, 0, none⟩) 2 2] 26 (0, 0)) := by rw [← hW0, show b2 = w.heap.size + 2 by omega]; exact aX _ w 2 _ rfl
 have k3 : W0.heap[b3]? = some (.cells #[.int .i64 0, .int .i64 1] 3 (0, 0)) := by rw [← hW0, show b3 = w.heap.size + 3 by omega]; exact aX _ w 3 _ rfl
 have k4 : W0.heap[b4]? = some (.cells #[.int .i64 4, .int .i64 0, .slice (some ⟨b3, 0, none⟩) 2 2, .slice none 0 0] 49 (0, 0)) := by rw [← hW0, show b4 = w.heap.size + 4 by omega]; exact aX _ w 4 _ rfl
 have k5 : W0.heap[b5]? = some (.cells #[.slice (some ⟨b2, 0, none⟩) 2 2, .slice (some ⟨b4, 0, none⟩) 1 1] 25 (0, 0)) := by rw [← hW0, show b5 = w.heap.size + 5 by omega]; exact aX _ w 5 _ rfl
 have k6 : W0.heap[b6]? = some (.cells #[.int .i64 0, .int .i64 1, .int .i64 2] 3 (0, 0)) := by rw [← hW0, show b6 = w.heap.size + 6 by omega]; exact aX _ w 6 _ rfl
 have k7 : W0.heap[b7]? = some (.cells #[.int .i64 2, .int .i64 0, .slice (some ⟨b6, 0, none⟩) 3 3, .slice none 0 0] 49 (0, 0)) := by rw [← hW0, show b7 = w.heap.size + 7 by omega]; exact aX _ w 7 _ rfl
 have k8 : W0.heap[b8]? = some (.cells #[.int .i64 0, .int .i64 1, .int .i64 2] 3 (0, 0)) := by rw [← hW0, show b8 = w.heap.size + 8 by omega]; exact aX _ w 8 _ rfl
 have k9 : W0.heap[b9]? = some (.cells #[.int .i64 0, .int .i64 1, .int .i64 2] 3 (0, 0)) := by rw [← hW0, show b9 = w.heap.size + 9 by omega]; exact aX _ w 9 _ rfl
 have k10 : W0.heap[b10]? = some (.cells #[.int .i64 0, .int .i64 1, .int .i64 2] 3 (0, 0)) := by rw [← hW0, show b10 = w.heap.size + 10 by omega]; exact aX _ w 10 _ rfl
 have k11 : W0.heap[b11]? = some (.cells #[.slice (some ⟨b8, 0, none⟩) 3 3, .slice (some ⟨b9, 0, none⟩) 3 3, .slice (some ⟨b10, 0, none⟩) 3 3] 26 (0, 0)) := by rw [← hW0, show b11 = w.heap.size + 11 by omega]; exact aX _ w 11 _ rfl
 have k12 : W0.heap[b12]? = some (.cells #[.int .i64 2, .int .i64 0, .slice (some ⟨b6, 0, none⟩) 3 3, .slice none 0 0] 49 (0, 0)) := by rw [← hW0, show b12 = w.heap.size + 12 by omega]; exact aX _ w 12 _ rfl
 have k13 : W0.heap[b13]? = some (.cells #[.slice (some ⟨b11, 0, none⟩) 3 3, .slice (some ⟨b12, 0, none⟩) 1 1] 25 (0, 0)) := by rw [← hW0, show b13 = w.heap.size + 13 by omega]; exact aX _ w 13 _ rfl
 have k14 : W0.heap[b14]? = some (.cells #[.int .i64 0, .int .i64 1] 3 (0, 0)) := by rw [← hW0, show b14 = w.heap.size + 14 by omega]; exact aX _ w 14 _ rfl
 have k15 : W0.heap[b15]? = some (.cells #[.int .i64 2, .int .i64 0, .slice (some ⟨b6, 0, none⟩) 3 3, .slice none 0 0, .int .i64 3, .int .i64 2, .slice (some ⟨b14, 0, none⟩) 2 2, .slice none 0 0] 49 (0, 0)) := by rw [← hW0, show b15 = w.heap.size + 15 by omega]; exact aX _ w 15 _ rfl
 have k16 : W0.heap[b16]? = some (.cells #[.slice (some ⟨b11, 0, none⟩) 3 3, .slice (some ⟨b15, 0, none⟩) 2 2] 25 (0, 0)) := by rw [← hW0, show b16 = w.heap.size + 16 by omega]; exact aX _ w 16 _ rfl
 have k17 : W0.heap[b17]? = some (.cells #[.int .i64 3, .int .i64 4] 3 (0, 0)) := by rw [← hW0, show b17 = w.heap.size + 17 by omega]; exact aX _ w 17 _ rfl
 have k18 : W0.heap[b18]? = some (.cells #[.slice (some ⟨b17, 0, none⟩) 2 2] 26 (0, 0)) := by rw [← hW0, show b18 = w.heap.size + 18 by omega]; exact aX _ w 18 _ rfl
 have k19 : W0.heap[b19]? = some (.cells #[.int .i64 0] 3 (0, 0)) := by rw [← hW0, show b19 = w.heap.size + 19 by omega]; exact aX _ w 19 _ rfl
 have k20 : W0.heap[b20]? = some (.cells #[.int .i64 1, .int .i64 0, .slice (some ⟨b19, 0, none⟩) 1 1, .slice none 0 0] 49 (0, 0)) := by rw [← hW0, show b20 = w.heap.size + 20 by omega]; exact aX _ w 20 _ rfl
 have k21 : W0.heap[b21]? = some (.cells #[.slice (some ⟨b18, 0, none⟩) 1 1, .slice (some ⟨b20, 0, none⟩) 1 1] 25 (0, 0)) := by rw [← hW0, show b21 = w.heap.size + 21 by omega]; exact aX _ w 21 _ rfl
 have k22 : W0.heap[b22]? = some (.cells #[.int .i64 0, .int .i64 1] 3 (0, 0)) := by rw [← hW0, show b22 = w.heap.size + 22 by omega]; exact aX _ w 22 _ rfl
 have k23 : W0.heap[b23]? = some (.cells #[.int .i64 0, .int .i64 1] 3 (0, 0)) := by rw [← hW0, show b23 = w.heap.size + 23 by omega]; exact aX _ w 23 _ rfl
 have k24 : W0.heap[b24]? = some (.cells #[.int .i64 0, .int .i64 1] 3 (0, 0)) := by rw [← hW0, show b24 = w.heap.size + 24 by omega]; exact aX _ w 24 _ rfl
 have k25 : W0.heap[b25]? = some (.cells #[.slice (some ⟨b22, 0, none⟩) 2 2, .slice (some ⟨b23, 0, none⟩) 2 2, .slice (some ⟨b24, 0, none⟩) 2 2] 26 (0, 0)) := by rw [← hW0, show b25 = w.heap.size + 25 by omega]; exact aX _ w 25 _ rfl
 have k26 : W0.heap[b26]? = some (.cells #[.int .i64 0, .int .i64 1] 3 (0, 0)) := by rw [← hW0, show b26 = w.heap.size + 26 by omega]; exact aX _ w 26 _ rfl
 have k27 : W0.heap[b27]? = some (.cells #[.int .i64 2, .int .i64 0, .slice (some ⟨b6, 0, none⟩) 3 3, .slice none 0 0, .int .i64 4, .int .i64 0, .slice (some ⟨b26, 0, none⟩) 2 2, .slice none 0 0] 49 (0, 0)) := by rw [← hW0, show b27 = w.heap.size + 27 by omega]; exact aX _ w 27 _ rfl
 have k28 : W0.heap[b28]? = some (.cells #[.slice (some ⟨b25, 0, none⟩) 3 3, .slice (some ⟨b27, 0, none⟩) 2 2] 25 (0, 0)) := by rw [← hW0, show b28 = w.heap.size + 28 by omega]; exact aX _ w 28 _ rfl
 have k29 : W0.heap[b29]? = some (.cells #[.int .i64 2, .int .i64 1] 3 (0, 0)) := by rw [← hW0, show b29 = w.heap.size + 29 by omega]; exact aX _ w 29 _ rfl
 simp only [List.foldl_cons, List.foldl_nil] at hW0
 rw [hW0]
 clear hW0
 rw [hb0] at k2
 have i0 := bP (W := W0) (g := b0) [1, 2] (by decide) k0
 have i1 := bP (W := W0) (g := b1) [1, 2] (by decide) k1
 have i3 := bP (W := W0) (g := b3) [0, 1] (by decide) k3
 have i6 := bP (W := W0) (g := b6) [0, 1, 2] (by decide) k6
 have i8 := bP (W := W0) (g := b8) [0, 1, 2] (by decide) k8
 have i9 := bP (W := W0) (g := b9) [0, 1, 2] (by decide) k9
 have i10 := bP (W := W0) (g := b10) [0, 1, 2] (by decide) k10
 have i14 := bP (W := W0) (g := b14) [0, 1] (by decide) k14
 have i17 := bP (W := W0) (g := b17) [3, 4] (by decide) k17
 have i19 := bP (W := W0) (g := b19) [0] (by decide) k19
 have i22 := bP (W := W0) (g := b22) [0, 1] (by decide) k22
 have i23 := bP (W := W0) (g := b23) [0, 1] (by decide) k23
 have i24 := bP (W := W0) (g := b24) [0, 1] (by decide) k24
 have i26 := bP (W := W0) (g := b26) [0, 1] (by decide) k26
 have i29 := bP (W := W0) (g := b29) [2, 1] (by decide) k29
 have c2 := cd (d := Kd.slice 3 (Kd.int .i64)) (W := W0) (g := b2) [[1, 2], [1, 2]] [[.slice (some ⟨b0, 0, none⟩) 2 2], [.slice (some ⟨b1, 0, none⟩) 2 2]] (by decide) k2 rfl (by simp only [List.zip_cons_cons, List.zip_nil_left, List.mem_cons, List.not_mem_nil, or_false, forall_eq_or_imp, forall_eq]; exact ⟨row_K i0, row_K i1⟩)
 have c4 := cd (d := k49) (W := W0) (g := b4) [⟨4, 0, [0, 1], []⟩] [[.int .i64 4, .int .i64 0, .slice (some ⟨b3, 0, none⟩) 2 2, .slice none 0 0]] (by decide) k4 rfl (by simp only [List.zip_cons_cons, List.zip_nil_left, List.mem_cons, List.not_mem_nil, or_false, forall_eq_or_imp, forall_eq]; exact fE _ _ i3)
 have c11 := cd (d := Kd.slice 3 (Kd.int .i64)) (W := W0) (g := b11) [[0, 1, 2], [0, 1, 2], [0, 1, 2]] [[.slice (some ⟨b8, 0, none⟩) 3 3], [.slice (some ⟨b9, 0, none⟩) 3 3], [.slice (some ⟨b10, 0, none⟩) 3 3]] (by decide) k11 rfl (by simp only [List.zip_cons_cons, List.zip_nil_left, List.mem_cons, List.not_mem_nil, or_false, forall_eq_or_imp, forall_eq]; exact ⟨row_K i8, row_K i9, row_K i10⟩)
 have c12 := cd (d := k49) (W := W0) (g := b12) [⟨2, 0, [0, 1, 2], []⟩] [[.int .i64 2, .int .i64 0, .slice (some ⟨b6, 0, none⟩) 3 3, .slice none 0 0]] (by decide) k12 rfl (by simp only [List.zip_cons_cons, List.zip_nil_left, List.mem_cons, List.not_mem_nil, or_false, forall_eq_or_imp, forall_eq]; exact fE _ _ i6)
 have c15 := cd (d := k49) (W := W0) (g := b15) [⟨2, 0, [0, 1, 2], []⟩, ⟨3, 2, [0, 1], []⟩] [[.int .i64 2, .int .i64 0, .slice (some ⟨b6, 0, none⟩) 3 3, .slice none 0 0], [.int .i64 3, .int .i64 2, .slice (some ⟨b14, 0, none⟩) 2 2, .slice none 0 0]] (by decide) k15 rfl (by simp only [List.zip_cons_cons, List.zip_nil_left, List.mem_cons, List.not_mem_nil, or_false, forall_eq_or_imp, forall_eq]; exact ⟨fE _ _ i6, fE _ _ i14⟩)
 have c18 := cd (d := Kd.slice 3 (Kd.int .i64)) (W := W0) (g := b18) [[3, 4]] [[.slice (some ⟨b17, 0, none⟩) 2 2]] (by decide) k18 rfl (by simp only [List.zip_cons_cons, List.zip_nil_left, List.mem_cons, List.not_mem_nil, or_false, forall_eq_or_imp, forall_eq]; exact row_K i17)
 have c20 := cd (d := k49) (W := W0) (g := b20) [⟨1, 0, [0], []⟩] [[.int .i64 1, .int .i64 0, .slice (some ⟨b19, 0, none⟩) 1 1, .slice none 0 0]] (by decide) k20 rfl (by simp only [List.zip_cons_cons, List.zip_nil_left, List.mem_cons, List.not_mem_nil, or_false, forall_eq_or_imp, forall_eq]; exact fE _ _ i19)
 have c25 := cd (d := Kd.slice 3 (Kd.int .i64)) (W := W0) (g := b25) [[0, 1], [0, 1], [0, 1]] [[.slice (some ⟨b22, 0, none⟩) 2 2], [.slice (some ⟨b23, 0, none⟩) 2 2], [.slice (some ⟨b24, 0, none⟩) 2 2]] (by decide) k25 rfl (by simp only [List.zip_cons_cons, List.zip_nil_left, List.mem_cons, List.not_mem_nil, or_false, forall_eq_or_imp, forall_eq]; exact ⟨row_K i22, row_K i23, row_K i24⟩)
 have c27 := cd (d := k49) (W := W0) (g := b27) [⟨2, 0, [0, 1, 2], []⟩, ⟨4, 0, [0, 1], []⟩] [[.int .i64 2, .int .i64 0, .slice (some ⟨b6, 0, none⟩) 3 3, .slice none 0 0], [.int .i64 4, .int .i64 0, .slice (some ⟨b26, 0, none⟩) 2 2, .slice none 0 0]] (by decide) k27 rfl (by simp only [List.zip_cons_cons, List.zip_nil_left, List.mem_cons, List.not_mem_nil, or_false, forall_eq_or_imp, forall_eq]; exact ⟨fE _ _ i6, fE _ _ i26⟩)
 have M0 := Aside0.mk (SM.mk k5 k13 k16 k21 k28 c2 c4 c11 c12 c15 c18 c20 c25 c27 : SM b2 b4 b5 b11 b12 b13 b15 b16 b18 b20 b21 b25 b27 b28 W0)
 have Z0 : w.heap.size ≤ W0.heap.size := E0.out.size
 have I29 := Aside0.mk i29
 clear k0 k1 k2 k3 k4 k5 k6 k7 k8 k9 k10 k11 k12 k13 k14 k15 k16 k17 k18 k19 k20 k21 k22 k23 k24 k25 k26 k27 k28 k29 i0 i1 i3 i6 i8 i9 i10 i14 i17 i19 i22 i23 i24 i26 i29 c2 c4 c11 c12 c15 c18 c20 c25 c27
 clear hb0 hb1 hb2 hb3 hb4 hb5 hb6 hb7 hb8 hb9 hb10 hb11 hb12 hb13 hb14 hb15 hb16 hb17 hb18 hb19 hb20 hb21 hb22 hb23 hb24 hb25 hb26 hb27 hb28 hb29
 refine (search_Broken.calls 60 _ 2 [[1, 2], [1, 2]] _ 1 [⟨4, 0, [0, 1], []⟩] _ 2 [2, 1] [0] 0 W0 M0.out.p2 (by decide) M0.out.q4 (by decide) I29.out (by decide) (by kernel_rfl)).mono ?_
 rintro e w1 ⟨v1_l, rfl, Rl, K⟩
 obtain ⟨Al, cl, rfl, hl, Cl⟩ := Kd.R_reads Rl
 have M1 := Aside0.mk (M0.out.later K)
 have E1 := Aside0.mk (bf E0.out Z0 K)
 have Z1 := E1.out.size
 have Dl := Aside0.mk Cl
 clear K M0 E0 Z0 Rl Cl
 clear I29
 have za := a7 M1.out.k5 0; have zb := a7 M1.out.k5 1; simp only [List.getElem?_toArray, List.getElem?_cons_zero, List.getElem?_cons_succ] at za zb
 go_wp2_with fail
 clear za zb
 have bl := a6 (Below.refl w1.heap.size w1) (.cells #[.int .i64 1, .int .i64 3] 3)
 have il := bP (W := w1.alloc (.cells #[.int .i64 1, .int .i64 3] 3)) (g := w1.heap.size) [1, 3] (by decide) (aV w1 _)
 have M1' := M1.out.later bl
 refine (search_Broken.calls 60 _ 2 [[1, 2], [1, 2]] _ 1 [⟨4, 0, [0, 1], []⟩] _ 2 [1, 3] [] 1 _ M1'.p2 (by decide) M1'.q4 (by decide) il (by decide) (by kernel_rfl)).mono ?_
 rintro e w2 ⟨v2_u, rfl, Ru, K⟩
 obtain ⟨Au, cu, rfl, hu, Cu⟩ := Kd.R_reads Ru
 have K := (a6 (Below.refl w1.heap.size w1) (.cells #[.int .i64 1, .int .i64 3] 3)).trans (K.mono (by simp))
 have M2 := Aside0.mk (M1.out.later K)
 have E2 := Aside0.mk (bf E1.out Z1 K)
 have Z2 := E2.out.size
 have Nl := Aside0.mk (Kd.C_below Dl.out K)
 clear Dl; have Dl := Nl; clear Nl
 have Du := Aside0.mk Cu
 clear K M1 E1 Z1 Ru Cu
 clear Du bl il M1'
 have za := a7 M2.out.k5 0; have zb := a7 M2.out.k5 1; simp only [List.getElem?_toArray, List.getElem?_cons_zero, List.getElem?_cons_succ] at za zb
 go_wp2_with fail
 clear za zb
 refine (search_Solve.calls 60 _ 2 [[1, 2], [1, 2]] _ 1 [⟨4, 0, [0, 1], []⟩] [1, 2] true 0 w2 M2.out.p2 (by decide) M2.out.q4 (by decide) (by kernel_rfl)).mono ?_
 rintro e w3 ⟨v3_x, rfl, Rx, K⟩
 obtain ⟨Ax, cx, rfl, hx, Cx⟩ := Kd.R_reads Rx
 have M3 := Aside0.mk (M2.out.later K)
 have E3 := Aside0.mk (bf E2.out Z2 K)
 have Z3 := E3.out.size
 have Nl := Aside0.mk (Kd.C_below Dl.out K)
 clear Dl; have Dl := Nl; clear Nl
 have Dx := Aside0.mk Cx
 clear K M2 E2 Z2 Rx Cx
 have za := a7 M3.out.k13 0; have zb := a7 M3.out.k13 1; simp only [List.getElem?_toArray, List.getElem?_cons_zero, List.getElem?_cons_succ] at za zb
 go_wp2_with fail
 clear za zb
 refine (search_Solve.calls 60 _ 3 [[0, 1, 2], [0, 1, 2], [0, 1, 2]] _ 1 [⟨2, 0, [0, 1, 2], []⟩] [0, 1, 2] true 0 w3 M3.out.p11 (by decide) M3.out.q12 (by decide) (by kernel_rfl)).mono ?_
 rintro e w4 ⟨v4_y, rfl, Ry, K⟩
 obtain ⟨Ay, cy, rfl, hy, Cy⟩ := Kd.R_reads Ry
 have M4 := Aside0.mk (M3.out.later K)
 have E4 := Aside0.mk (bf E3.out Z3 K)
 have Z4 := E4.out.size
 have Nl := Aside0.mk (Kd.C_below Dl.out K)
 clear Dl; have Dl := Nl; clear Nl
 have Nx := Aside0.mk (Kd.C_below Dx.out K)
 clear Dx; have Dx := Nx; clear Nx
 have Dy := Aside0.mk Cy
 clear K M3 E3 Z3 Ry Cy
 have za := a7 M4.out.k16 0; have zb := a7 M4.out.k16 1; simp only [List.getElem?_toArray, List.getElem?_cons_zero, List.getElem?_cons_succ] at za zb
 go_wp2_with fail
 clear za zb
 refine (search_Solve.calls 60 _ 3 [[0, 1, 2], [0, 1, 2], [0, 1, 2]] _ 2 [⟨2, 0, [0, 1, 2], []⟩, ⟨3, 2, [0, 1], []⟩] [0, 2, 1] true 0 w4 M4.out.p11 (by decide) M4.out.q15 (by decide) (by kernel_rfl)).mono ?_
 rintro e w5 ⟨v5_z, rfl, Rz, K⟩
 obtain ⟨Az, cz, rfl, hz, Cz⟩ := Kd.R_reads Rz
 have M5 := Aside0.mk (M4.out.later K)
 have E5 := Aside0.mk (bf E4.out Z4 K)
 have Z5 := E5.out.size
 have Nl := Aside0.mk (Kd.C_below Dl.out K)
 clear Dl; have Dl := Nl; clear Nl
 have Nx := Aside0.mk (Kd.C_below Dx.out K)
 clear Dx; have Dx := Nx; clear Nx
 have Ny := Aside0.mk (Kd.C_below Dy.out K)
 clear Dy; have Dy := Ny; clear Ny
 have Dz := Aside0.mk Cz
 clear K M4 E4 Z4 Rz Cz
 have za := a7 M5.out.k21 0; have zb := a7 M5.out.k21 1; simp only [List.getElem?_toArray, List.getElem?_cons_zero, List.getElem?_cons_succ] at za zb
 go_wp2_with fail
 clear za zb
 refine (search_Refute.calls 60 _ 1 [[3, 4]] _ 1 [⟨1, 0, [0], []⟩] (-1) pr5 true 0 w5 M5.out.p18 (by decide) M5.out.q20 (by decide) (by kernel_rfl)).mono ?_
 rintro e w6 ⟨v6_t, rfl, Rt, K⟩
 obtain ⟨At, ct, rfl, ht, Ct⟩ := Kd.R_reads Rt
 have M6 := Aside0.mk (M5.out.later K)
 have E6 := Aside0.mk (bf E5.out Z5 K)
 have Z6 := E6.out.size
 have Nl := Aside0.mk (Kd.C_below Dl.out K)
 clear Dl; have Dl := Nl; clear Nl
 have Nx := Aside0.mk (Kd.C_below Dx.out K)
 clear Dx; have Dx := Nx; clear Nx
 have Ny := Aside0.mk (Kd.C_below Dy.out K)
 clear Dy; have Dy := Ny; clear Ny
 have Nz := Aside0.mk (Kd.C_below Dz.out K)
 clear Dz; have Dz := Nz; clear Nz
 have Dt := Aside0.mk Ct
 clear K M5 E5 Z5 Rt Ct
 have kt := aV w6 (.cells #[.int .i64 (-1), .slice At pr5.length ct] 39)
 have za := a7 (a9 M6.out.k21 (.cells #[.int .i64 (-1), .slice At pr5.length ct] 39)) 0; have zb := a7 (a9 M6.out.k21 (.cells #[.int .i64 (-1), .slice At pr5.length ct] 39)) 1; simp only [List.getElem?_toArray, List.getElem?_cons_zero, List.getElem?_cons_succ] at za zb
 have ya := a7 kt 0; have yb := a7 kt 1; simp only [List.getElem?_toArray, List.getElem?_cons_zero, List.getElem?_cons_succ] at ya yb
 go_wp2_with fail
 clear za zb ya yb
 have bl := a6 (Below.refl w6.heap.size w6) (.cells #[.int .i64 (-1), .slice At pr5.length ct] 39)
 have M6' := M6.out.later bl
 have T6 := Kd.C_below Dt.out bl
 refine (search_Accepts.calls 60 _ 1 [[3, 4]] _ 1 [⟨1, 0, [0], []⟩] (-1) _ ct pr5 true 0 _ M6'.p18 (by decide) M6'.q20 (by decide) T6 ht (by kernel_rfl)).mono ?_
 rintro e w7 ⟨rfl, K⟩
 have KT := Aside0.mk (ae kt K)
 obtain ⟨bt, hbt⟩ : ∃ b, w6.heap.size = b := ⟨_, rfl⟩
 replace K := bl.trans (K.mono (by simp))
 clear bl M6' T6 kt
 have M7 := Aside0.mk (M6.out.later K); have E7 := Aside0.mk (bf E6.out Z6 K); have Z7 := E7.out.size
 have Nl := Aside0.mk (Kd.C_below Dl.out K); clear Dl; have Dl := Nl; clear Nl
 have Nx := Aside0.mk (Kd.C_below Dx.out K); clear Dx; have Dx := Nx; clear Nx
 have Ny := Aside0.mk (Kd.C_below Dy.out K); clear Dy; have Dy := Ny; clear Ny
 have Nz := Aside0.mk (Kd.C_below Dz.out K); clear Dz; have Dz := Nz; clear Nz
 have Nt := Aside0.mk (Kd.C_below Dt.out K); clear Dt; have Dt := Nt; clear Nt
 clear K M6 E6 Z6; rw [hbt] at KT ⊢; clear hbt
 have za := a7 M7.out.k5 0; have zb := a7 M7.out.k5 1; simp only [List.getElem?_toArray, List.getElem?_cons_zero, List.getElem?_cons_succ] at za zb
 have ya := a7 KT.out 0; have yb := a7 KT.out 1; simp only [List.getElem?_toArray, List.getElem?_cons_zero, List.getElem?_cons_succ] at ya yb
 go_wp2_with fail
 clear za zb ya yb
 refine (search_Accepts.calls 60 _ 2 [[1, 2], [1, 2]] _ 1 [⟨4, 0, [0, 1], []⟩] (-1) _ ct pr5 false 0 w7 M7.out.p2 (by decide) M7.out.q4 (by decide) Dt.out ht (by kernel_rfl)).mono ?_
 rintro e w8 ⟨rfl, K⟩
 have M8 := Aside0.mk (M7.out.later K)
 have E8 := Aside0.mk (bf E7.out Z7 K)
 have Z8 := E8.out.size
 have Nl := Aside0.mk (Kd.C_below Dl.out K)
 clear Dl; have Dl := Nl; clear Nl
 have Nx := Aside0.mk (Kd.C_below Dx.out K)
 clear Dx; have Dx := Nx; clear Nx
 have Ny := Aside0.mk (Kd.C_below Dy.out K)
 clear Dy; have Dy := Ny; clear Ny
 have Nz := Aside0.mk (Kd.C_below Dz.out K)
 clear Dz; have Dz := Nz; clear Nz
 have Nt := Aside0.mk (Kd.C_below Dt.out K)
 clear Dt; have Dt := Nt; clear Nt
 have NKT := Aside0.mk (ae KT.out K)
 clear KT; have KT := NKT; clear NKT
 clear K M7 E7 Z7
 have za := a7 M8.out.k28 0; have zb := a7 M8.out.k28 1; simp only [List.getElem?_toArray, List.getElem?_cons_zero, List.getElem?_cons_succ] at za zb
 go_wp2_with fail
 clear za zb
 refine (search_Core.calls 60 _ 3 [[0, 1], [0, 1], [0, 1]] _ 2 [⟨2, 0, [0, 1, 2], []⟩, ⟨4, 0, [0, 1], []⟩] [0] true 0 w8 M8.out.p25 (by decide) M8.out.q27 (by decide) (by kernel_rfl)).mono ?_
 rintro e w9 ⟨v9_g, rfl, Rg, K⟩
 obtain ⟨Ag, cg, rfl, hg, Cg⟩ := Kd.R_reads Rg
 have M9 := Aside0.mk (M8.out.later K)
 have E9 := Aside0.mk (bf E8.out Z8 K)
 have Z9 := E9.out.size
 have Nl := Aside0.mk (Kd.C_below Dl.out K)
 clear Dl; have Dl := Nl; clear Nl
 have Nx := Aside0.mk (Kd.C_below Dx.out K)
 clear Dx; have Dx := Nx; clear Nx
 have Ny := Aside0.mk (Kd.C_below Dy.out K)
 clear Dy; have Dy := Ny; clear Ny
 have Nz := Aside0.mk (Kd.C_below Dz.out K)
 clear Dz; have Dz := Nz; clear Nz
 have Nt := Aside0.mk (Kd.C_below Dt.out K)
 clear Dt; have Dt := Nt; clear Nt
 have NKT := Aside0.mk (ae KT.out K)
 clear KT; have KT := NKT; clear NKT
 have Dg := Aside0.mk Cg
 clear K M8 E8 Z8 Rg Cg
 clear M9
 go_wp2_with fail
 have kk := a9 (a9 (aV w9 (.cells #[.int .i64 0, .slice none 0 0, .int .i64 0, .slice none 0 0] 39)) (.cells #[.int .i64 (-1), .slice (some ⟨w9.heap.size, 0, none⟩) 2 2] 39)) (.cells #[.int .i64 0] 3)
 have kp := a9 (aV (w9.alloc (.cells #[.int .i64 0, .slice none 0 0, .int .i64 0, .slice none 0 0] 39)) (.cells #[.int .i64 (-1), .slice (some ⟨w9.heap.size, 0, none⟩) 2 2] 39)) (.cells #[.int .i64 0] 3)
 have ka := aV ((w9.alloc (.cells #[.int .i64 0, .slice none 0 0, .int .i64 0, .slice none 0 0] 39)).alloc (.cells #[.int .i64 (-1), .slice (some ⟨w9.heap.size, 0, none⟩) 2 2] 39)) (.cells #[.int .i64 0] 3)
 have K := a6 (a6 (a6 (Below.refl w9.heap.size w9) (.cells #[.int .i64 0, .slice none 0 0, .int .i64 0, .slice none 0 0] 39)) (.cells #[.int .i64 (-1), .slice (some ⟨w9.heap.size, 0, none⟩) 2 2] 39)) (.cells #[.int .i64 0] 3)
 simp only [World.size_alloc] at kp ka
 obtain ⟨W10, hW10⟩ : ∃ W, ((w9.alloc (.cells #[.int .i64 0, .slice none 0 0, .int .i64 0, .slice none 0 0] 39)).alloc (.cells #[.int .i64 (-1), .slice (some ⟨w9.heap.size, 0, none⟩) 2 2] 39)).alloc (.cells #[.int .i64 0] 3) = W := ⟨_, rfl⟩
 obtain ⟨ba, hba⟩ : ∃ b, w9.heap.size + 1 + 1 = b := ⟨_, rfl⟩
 obtain ⟨bp, hbp⟩ : ∃ b, w9.heap.size + 1 = b := ⟨_, rfl⟩
 obtain ⟨bk, hbk⟩ : ∃ b, w9.heap.size = b := ⟨_, rfl⟩
 rw [hW10] at kk kp ka K; rw [hW10, hba, hbp]; rw [hba] at ka; rw [hbp, hbk] at kp; rw [hbk] at kk; clear hW10 hba hbp hbk
 have E10 := Aside0.mk (bf E9.out Z9 K); have Z10 := E10.out.size
 have Nl := Aside0.mk (Kd.C_below Dl.out K); clear Dl; have Dl := Nl; clear Nl
 have Nx := Aside0.mk (Kd.C_below Dx.out K); clear Dx; have Dx := Nx; clear Nx
 have Ny := Aside0.mk (Kd.C_below Dy.out K); clear Dy; have Dy := Ny; clear Ny
 have Nz := Aside0.mk (Kd.C_below Dz.out K); clear Dz; have Dz := Nz; clear Nz
 have Nt := Aside0.mk (Kd.C_below Dt.out K); clear Dt; have Dt := Nt; clear Nt
 have Ng := Aside0.mk (Kd.C_below Dg.out K); clear Dg; have Dg := Ng; clear Ng
 have N := Aside0.mk (ae KT.out K); clear KT; have KT := N; clear N; have KP := Aside0.mk kp
 have ck := cd (d := k39) (W := W10) (g := bk) pr5 [[.int .i64 0, .slice none 0 0], [.int .i64 0, .slice none 0 0]] (by decide) kk rfl (by simp only [pr5, List.zip_cons_cons, List.zip_nil_left, List.mem_cons, List.not_mem_nil, or_false, forall_eq_or_imp, forall_eq, or_self]; exact ⟨rfl, k39_mk W10 ⟨0, []⟩ (Nat.le_refl _) nil_C⟩)
 have Dk := Aside0.mk ck
 have ia := bP (W := W10) (g := ba) [0] (by decide) ka
 clear kk kp ka ck K E9 Z9
 have B := Below.refl W10.heap.size W10
 refine (fastiref15_SameInts.calls 60 _ cl [0] _ 1 [0] true W10 Dl.out hl ia (by decide) (by kernel_rfl)).mono ?_
 rintro e w11 ⟨rfl, ⟨n, hn⟩⟩
 have K := a4 B n
 rw [← hn] at K
 clear hn B ia
 have E11 := Aside0.mk (bf E10.out Z10 K); have Z11 := E11.out.size
 have Nx := Aside0.mk (Kd.C_below Dx.out K); clear Dx; have Dx := Nx; clear Nx
 have Ny := Aside0.mk (Kd.C_below Dy.out K); clear Dy; have Dy := Ny; clear Ny
 have Nz := Aside0.mk (Kd.C_below Dz.out K); clear Dz; have Dz := Nz; clear Nz
 have Nt := Aside0.mk (Kd.C_below Dt.out K); clear Dt; have Dt := Nt; clear Nt
 have Ng := Aside0.mk (Kd.C_below Dg.out K); clear Dg; have Dg := Ng; clear Ng
 have Nk := Aside0.mk (Kd.C_below Dk.out K); clear Dk; have Dk := Nk; clear Nk
 have N := Aside0.mk (ae KT.out K); have N2 := Aside0.mk (ae KP.out K); clear KT KP; have KT := N; have KP := N2; clear N N2
 clear K E10 Z10 Dl
 go_wp2_with fail
 have B := a6 (Below.refl w11.heap.size w11) (.cells #[.int .i64 1, .int .i64 2] 3)
 have ia := bP (W := w11.alloc (.cells #[.int .i64 1, .int .i64 2] 3)) (g := w11.heap.size) [1, 2] (by decide) (aV w11 _)
 refine (fastiref15_SameInts.calls 60 _ cx [1, 2] _ 2 [1, 2] true _ (Kd.C_below Dx.out B) hx ia (by decide) (by kernel_rfl)).mono ?_
 rintro e w12 ⟨rfl, ⟨n, hn⟩⟩
 have K := a4 B n
 rw [← hn] at K
 clear hn B ia
 have E12 := Aside0.mk (bf E11.out Z11 K); have Z12 := E12.out.size
 have Ny := Aside0.mk (Kd.C_below Dy.out K); clear Dy; have Dy := Ny; clear Ny
 have Nz := Aside0.mk (Kd.C_below Dz.out K); clear Dz; have Dz := Nz; clear Nz
 have Nt := Aside0.mk (Kd.C_below Dt.out K); clear Dt; have Dt := Nt; clear Nt
 have Ng := Aside0.mk (Kd.C_below Dg.out K); clear Dg; have Dg := Ng; clear Ng
 have Nk := Aside0.mk (Kd.C_below Dk.out K); clear Dk; have Dk := Nk; clear Nk
 have N := Aside0.mk (ae KT.out K); have N2 := Aside0.mk (ae KP.out K); clear KT KP; have KT := N; have KP := N2; clear N N2
 clear K E11 Z11 Dx
 go_wp2_with fail
 have B := a6 (Below.refl w12.heap.size w12) (.cells #[.int .i64 0, .int .i64 1, .int .i64 2] 3)
 have ia := bP (W := w12.alloc (.cells #[.int .i64 0, .int .i64 1, .int .i64 2] 3)) (g := w12.heap.size) [0, 1, 2] (by decide) (aV w12 _)
 refine (fastiref15_SameInts.calls 60 _ cy [0, 1, 2] _ 3 [0, 1, 2] true _ (Kd.C_below Dy.out B) hy ia (by decide) (by kernel_rfl)).mono ?_
 rintro e w13 ⟨rfl, ⟨n, hn⟩⟩
 have K := a4 B n
 rw [← hn] at K
 clear hn B ia
 have E13 := Aside0.mk (bf E12.out Z12 K); have Z13 := E13.out.size
 have Nz := Aside0.mk (Kd.C_below Dz.out K); clear Dz; have Dz := Nz; clear Nz
 have Nt := Aside0.mk (Kd.C_below Dt.out K); clear Dt; have Dt := Nt; clear Nt
 have Ng := Aside0.mk (Kd.C_below Dg.out K); clear Dg; have Dg := Ng; clear Ng
 have Nk := Aside0.mk (Kd.C_below Dk.out K); clear Dk; have Dk := Nk; clear Nk
 have N := Aside0.mk (ae KT.out K); have N2 := Aside0.mk (ae KP.out K); clear KT KP; have KT := N; have KP := N2; clear N N2
 clear K E12 Z12 Dy
 go_wp2_with fail
 have B := a6 (Below.refl w13.heap.size w13) (.cells #[.int .i64 0, .int .i64 2, .int .i64 1] 3)
 have ia := bP (W := w13.alloc (.cells #[.int .i64 0, .int .i64 2, .int .i64 1] 3)) (g := w13.heap.size) [0, 2, 1] (by decide) (aV w13 _)
 refine (fastiref15_SameInts.calls 60 _ cz [0, 2, 1] _ 3 [0, 2, 1] true _ (Kd.C_below Dz.out B) hz ia (by decide) (by kernel_rfl)).mono ?_
 rintro e w14 ⟨rfl, ⟨n, hn⟩⟩
 have K := a4 B n
 rw [← hn] at K
 clear hn B ia
 have E14 := Aside0.mk (bf E13.out Z13 K); have Z14 := E14.out.size
 have Nt := Aside0.mk (Kd.C_below Dt.out K); clear Dt; have Dt := Nt; clear Nt
 have Ng := Aside0.mk (Kd.C_below Dg.out K); clear Dg; have Dg := Ng; clear Ng
 have Nk := Aside0.mk (Kd.C_below Dk.out K); clear Dk; have Dk := Nk; clear Nk
 have N := Aside0.mk (ae KT.out K); have N2 := Aside0.mk (ae KP.out K); clear KT KP; have KT := N; have KP := N2; clear N N2
 clear K E13 Z13 Dz
 have ya := a7 KT.out 0; have yb := a7 KT.out 1; have yc := a7 KP.out 0; have yd := a7 KP.out 1; simp only [List.getElem?_toArray, List.getElem?_cons_zero, List.getElem?_cons_succ] at ya yb yc yd
 go_wp2_with fail
 clear ya yb yc yd
 refine (fastiref15_Same.calls 60 (-1) _ ct pr5 (-1) _ 2 pr5 true w14 Dt.out ht Dk.out (by decide) (by kernel_rfl)).mono ?_
 rintro e w15 ⟨rfl, K⟩
 have E15 := Aside0.mk (bf E14.out Z14 K); have Z15 := E15.out.size
 have Ng := Aside0.mk (Kd.C_below Dg.out K); clear Dg; have Dg := Ng; clear Ng
 clear KT KP
 clear K E14 Z14 Dt Dk
 go_wp2_with fail
 have B := a6 (Below.refl w15.heap.size w15) (.cells #[.int .i64 0] 3)
 have ia := bP (W := w15.alloc (.cells #[.int .i64 0] 3)) (g := w15.heap.size) [0] (by decide) (aV w15 _)
 refine (fastiref15_SameInts.calls 60 _ cg [0] _ 1 [0] true _ (Kd.C_below Dg.out B) hg ia (by decide) (by kernel_rfl)).mono ?_
 rintro e w16 ⟨rfl, ⟨n, hn⟩⟩
 have K := a4 B n
 rw [← hn] at K
 clear hn B ia
 have E16 := Aside0.mk (bf E15.out Z15 K); have Z16 := E16.out.size
 clear K E15 Z15 Dg
 go_wp2_with fail
 refine (search_Check.calls 60 none 0 [] none 0 [] 150 w16 nil_C (by decide) nil_C (by decide) (by kernel_rfl)).mono ?_
 rintro e w17 ⟨rfl, K⟩
 have E17 := Aside0.mk (bf E16.out Z16 K); clear K E16 Z16
 go_wp2_with fail
 go_ret
 exact ⟨rfl, E17.out⟩
end SN
def fastilaw15_sane.f : Option (Bool) := some true
theorem fastilaw15_sane.calls (r : Bool) (w : World) (h : fastilaw15_sane.f = some r) :
  Calls Try.prog 11 #[] w fun e w' => e = .returned (.bool r) ∧ Below w.heap.size w w' := by
 cases h
 exact SN.sane_calls w
end Go.Proofs.Ytcbpkdemcdikaaa.X
namespace Go.Proofs.Ytcbpkdemcdikaaa.X
open Go.RowKit Go.Proofs.YtcbpkdemcdikaaaW.PrintWords Go.Proofs.YtcbpkdemcdikaaaW.PrintLast Go.Proofs.YtcbpkdemcdikaaaW.PrintMore
attribute [local go_sem] ay az aN aM ao ap aw ax   
set_option linter.unusedVariables false
set_option linter.unusedSimpArgs false
mutual
def fastilaw15_before.l0 : Nat → List Int → List Int → Int → Option (Bool)
 | 0, _, _, _ => none
 | k + 1, x0, x1, x5 => if x5 < (x0.length : Int) then (fastilaw15_before.j1 k x0 x1 x5 (decide (x5 < (x1.length : Int)))) else (fastilaw15_before.j1 k x0 x1 x5 false)
def fastilaw15_before.j1 : Nat → List Int → List Int → Int → Bool → Option (Bool)
 | 0, _, _, _, _ => none
 | k + 1, x0, x1, x5, x15 => if x15 = true then (if 0 ≤ x5 then (if x5 < (x0.length : Int) then (if x5 < (x1.length : Int) then (if (rd x0 x5) = (rd x1 x5) then (fastilaw15_before.l0 k x0 x1 (wrap64 (x5 + 1))) else (some (decide ((rd x0 x5) < (rd x1 x5))))) else (none)) else (none)) else (none)) else (some false)
end
def fastilaw15_before.f (k : Nat) (l0 : List Int) (l1 : List Int) : Option (Bool) := fastilaw15_before.l0 k l0 l1 0
set_option maxHeartbeats 8000000 in
set_option maxRecDepth 100000 in
theorem fastilaw15_before.calls (k : Nat) (A0 : Option Addr) (c0 : Nat) (l0 : List Int) (A1 : Option Addr) (c1 : Nat) (l1 : List Int) (r : Bool) (w : World) (hr0 : Kd.C (Kd.int .i64) w A0 l0.length l0) (hc0 : l0.length ≤ c0) (hr1 : Kd.C (Kd.int .i64) w A1 l1.length l1) (hc1 : l1.length ≤ c1) (h : fastilaw15_before.f k l0 l1 = some r) :
  Calls Try.prog 27 #[.slice A0 l0.length c0, .slice A1 l1.length c1] w fun e w' => e = .returned (.bool r) ∧ Drawn0 w w' := by
 have HR0 := Aside0.mk hr0
 have HC0 := Aside0.mk hc0
 clear hr0 hc0
 have HR1 := Aside0.mk hr1
 have HC1 := Aside0.mk hc1
 clear hr1 hc1
 have H : (fastilaw15_before.l0 k l0 l1 0) = some r := h
 clear h
 have H' := Aside0.mk H
 clear H
 go_enter Try.func27, Try.ntmps27
 go_wp2
 repeat (go_quiet (fail); try go_wp2)
 go_loopg [5] k (fun kq v5 w' => ∃ (x5_1 : Int), v5 = .int .i64 x5_1 ∧ Aside0 (fastilaw15_before.l0 kq l0 l1 x5_1 = some r) ∧ Aside0 (kq ≤ k) ∧ Drawn0 w w')
 case atStart => exact ⟨(0), (by first | rfl | (simp; done) | (simp [*]; done)), H', ⟨Nat.le_refl _⟩, by repeat (first | exact Drawn0.refl _ | apply Drawn0.step)⟩
 case round =>
  clear H'
  try clear c1; try clear c2; try clear p2
  obtain ⟨x5_1, rfl, HA, HK1, ⟨m1, rfl⟩⟩ := hrel
  cases gk with
  | zero => exact absurd HA.out (by simp [fastilaw15_before.l0])
  | succ k1 =>
   have H := HA.out
   clear HA
   simp only [fastilaw15_before.l0] at H
   have HC3 := Aside0.mk H
   clear H
   go_upto_region 2 with (fail)
   repeat (go_quiet (fail); go_upto_region 2 with (fail))
   go_cut [15] (fun v15 wc => ∃ (kq : Nat) (x15_2 : Bool), v15 = .bool x15_2 ∧ Aside0 (fastilaw15_before.j1 kq l0 l1 x5_1 x15_2 = some r) ∧ Aside0 (kq ≤ k1) ∧ Drawn0 w wc)
   case first =>
    have H := HC3.out
    clear HC3
    by_cases c4 : x5_1 < (l0.length : Int)
    ·rw [if_pos c4] at H
     have eb : decide (x5_1 < (l0.length : Int)) = true := decide_eq_true c4
     clear c4
     (first | rw [eb] | (simp only [aq, ar]; rw [eb]) | skip)
     have H' := Aside0.mk H
     clear H
     go_wp2
     repeat (go_quiet (fail); try go_wp2)
     go_meet
     case rel => exact ⟨_, (decide (x5_1 < (l1.length : Int))), (by first | rfl | (simp; done) | (simp [*]; done)), H', ⟨by have := HK1.out; first | omega | exact Nat.le_refl _⟩, by repeat (first | exact Drawn0.refl _ | apply Drawn0.step)⟩
    ·rw [if_neg c4] at H
     have eb : decide (x5_1 < (l0.length : Int)) = false := decide_eq_false c4
     clear c4
     (first | rw [eb] | (simp only [aq, ar]; rw [eb]) | skip)
     have H' := Aside0.mk H
     clear H
     go_wp2
     repeat (go_quiet (fail); try go_wp2)
     go_meet
     case rel => exact ⟨_, (false), (by first | rfl | (simp; done) | (simp [*]; done)), H', ⟨by have := HK1.out; first | omega | exact Nat.le_refl _⟩, by repeat (first | exact Drawn0.refl _ | apply Drawn0.step)⟩
   case rest =>
    clear HC3
    try clear c1; try clear c2; try clear p2; try clear c4; try clear eb
    obtain ⟨kq, x15_2, rfl, HA, HJ2, ⟨mc2, rfl⟩⟩ := hcut
    cases kq with
    | zero => exact absurd HA.out (by simp [fastilaw15_before.j1])
    | succ kj2 =>
     have H := HA.out
     clear HA
     simp only [fastilaw15_before.j1] at H
     by_cases c5 : x15_2 = true
     ·subst c5
      have H1 : (if 0 ≤ x5_1 then (if x5_1 < (l0.length : Int) then (if x5_1 < (l1.length : Int) then (if (rd l0 x5_1) = (rd l1 x5_1) then (fastilaw15_before.l0 kj2 l0 l1 (wrap64 (x5_1 + 1))) else (some (decide ((rd l0 x5_1) < (rd l1 x5_1))))) else (none)) else (none)) else (none)) = some r := by rw [if_pos rfl] at H; exact H
      clear H
      have H := H1
      clear H1
      by_cases c6 : 0 ≤ x5_1
      ·rw [if_pos c6] at H
       have c6b0 : decide (0 ≤ x5_1) = true := decide_eq_true c6
       clear c6
       by_cases c7 : x5_1 < (l0.length : Int)
       ·rw [if_pos c7] at H
        have c7b0 : decide (x5_1 < (l0.length : Int)) = true := decide_eq_true c7
        clear c7
        by_cases c8 : x5_1 < (l1.length : Int)
        ·rw [if_pos c8] at H
         have c8b0 : decide (x5_1 < (l1.length : Int)) = true := decide_eq_true c8
         clear c8
         by_cases c9 : (rd l0 x5_1) = (rd l1 x5_1)
         ·rw [if_pos c9] at H
          have c9b0 : ((rd l0 x5_1) == (rd l1 x5_1)) = true := beq_iff_eq.mpr c9
          have c9b1 : ((rd l0 x5_1) != (rd l1 x5_1)) = false := bne_eq_false_iff_eq.mpr c9
          clear c9
          have H' := Aside0.mk H
          clear H
          have p424 : 0 ≤ (x5_1 : Int) := of_decide_eq_true (by first | (with_reducible assumption) | assumption)
          have q424 : x5_1 < (l0.length : Int) := of_decide_eq_true (by first | (with_reducible assumption) | assumption)
          obtain ⟨ad424, e424, hx424_0⟩ := Kd.at_int HR0.out x5_1 p424 q424
          cases e424
          replace p424 := eq_true p424
          replace q424 := eq_true q424
          have p425 : 0 ≤ (x5_1 : Int) := of_decide_eq_true (by first | (with_reducible assumption) | assumption)
          have q425 : x5_1 < (l1.length : Int) := of_decide_eq_true (by first | (with_reducible assumption) | assumption)
          obtain ⟨ad425, e425, hx425_0⟩ := Kd.at_int HR1.out x5_1 p425 q425
          cases e425
          replace p425 := eq_true p425
          replace q425 := eq_true q425
          go_wp2
          repeat (go_quiet (fail); try go_wp2)
          go_roundg kj2
          case measure => have := HK1.out; have := HJ2.out; omega
          case rel => exact ⟨(wrap64 (x5_1 + 1)), (by first | rfl | (simp; done) | (simp [*]; done)), H', ⟨by have := HK1.out; have := HJ2.out; omega⟩, by repeat (first | exact Drawn0.refl _ | apply Drawn0.step)⟩
         ·rw [if_neg c9] at H
          have c9b0 : ((rd l0 x5_1) == (rd l1 x5_1)) = false := beq_eq_false_iff_ne.mpr c9
          have c9b1 : ((rd l0 x5_1) != (rd l1 x5_1)) = true := bne_iff_ne.mpr c9
          obtain rfl := Option.some.inj H
          have p424 : 0 ≤ (x5_1 : Int) := of_decide_eq_true (by first | (with_reducible assumption) | assumption)
          have q424 : x5_1 < (l0.length : Int) := of_decide_eq_true (by first | (with_reducible assumption) | assumption)
          obtain ⟨ad424, e424, hx424_0⟩ := Kd.at_int HR0.out x5_1 p424 q424
          cases e424
          replace p424 := eq_true p424
          replace q424 := eq_true q424
          have p425 : 0 ≤ (x5_1 : Int) := of_decide_eq_true (by first | (with_reducible assumption) | assumption)
          have q425 : x5_1 < (l1.length : Int) := of_decide_eq_true (by first | (with_reducible assumption) | assumption)
          obtain ⟨ad425, e425, hx425_0⟩ := Kd.at_int HR1.out x5_1 p425 q425
          cases e425
          replace p425 := eq_true p425
          replace q425 := eq_true q425
          have p426 : 0 ≤ (x5_1 : Int) := of_decide_eq_true (by first | (with_reducible assumption) | assumption)
          have q426 : x5_1 < (l0.length : Int) := of_decide_eq_true (by first | (with_reducible assumption) | assumption)
          obtain ⟨ad426, e426, hx426_0⟩ := Kd.at_int HR0.out x5_1 p426 q426
          obtain rfl : ad424 = ad426 := (by injection e426)
          replace p426 := eq_true p426
          replace q426 := eq_true q426
          have p427 : 0 ≤ (x5_1 : Int) := of_decide_eq_true (by first | (with_reducible assumption) | assumption)
          have q427 : x5_1 < (l1.length : Int) := of_decide_eq_true (by first | (with_reducible assumption) | assumption)
          obtain ⟨ad427, e427, hx427_0⟩ := Kd.at_int HR1.out x5_1 p427 q427
          obtain rfl : ad425 = ad427 := (by injection e427)
          replace p427 := eq_true p427
          replace q427 := eq_true q427
          go_wp2
          repeat (go_quiet (fail); try go_wp2)
          go_ret
          exact ⟨by first | rfl | (simp; done) | (simp [*]; done), by repeat (first | exact Drawn0.refl _ | apply Drawn0.step)⟩
        ·rw [if_neg c8] at H
         exact absurd H (by simp)
       ·rw [if_neg c7] at H
        exact absurd H (by simp)
      ·rw [if_neg c6] at H
       exact absurd H (by simp)
     ·replace c5 := Bool.eq_false_iff.mpr c5
      subst c5
      have H1 : (some false) = some r := by rw [if_neg (show ¬ (false = true) by decide)] at H; exact H
      clear H
      have H := H1
      clear H1
      obtain rfl := Option.some.inj H
      go_wp2
      repeat (go_quiet (fail); try go_wp2)
      go_ret
      exact ⟨by first | rfl | (simp; done) | (simp [*]; done), by repeat (first | exact Drawn0.refl _ | apply Drawn0.step)⟩
end Go.Proofs.Ytcbpkdemcdikaaa.X
namespace Go.Proofs.Ytcbpkdemcdikaaa.X
open Go.RowKit Go.Proofs.YtcbpkdemcdikaaaW.PrintWords Go.Proofs.YtcbpkdemcdikaaaW.PrintLast Go.Proofs.YtcbpkdemcdikaaaW.PrintMore
attribute [local go_sem] ay az aN aM ao ap aw ax
set_option linter.unusedVariables false
set_option linter.unusedSimpArgs false
namespace LK
set_option maxHeartbeats 8000000
attribute [local go_sem] Oper.semAt_some
theorem kinds_few (A0 : Option Addr) (c0 : Nat) (ds : List (List Int)) (A1 : Option Addr) (c1 : Nat) (rs : List S49) (a : Int) (w : World) (b : Bool)
    (hf : ∀ W, Below w.heap.size w W → Calls Try.prog 12 #[.agg #[.slice A0 ds.length c0, .slice (A1) rs.length c1]] W fun e w' => e = .returned (.bool b) ∧ Below W.heap.size W w') (hb : b = false ∨ rs.length = 0) :
    Calls Try.prog 10 #[.agg #[.slice A0 ds.length c0, .slice (A1) rs.length c1], .int .u8 a] w fun e w' => e = .returned (.bool true) ∧ Below w.heap.size w w' := by
  have HF := Aside0.mk hf
  have HB0 := Aside0.mk (a6 (Below.refl w.heap.size w) (.cells #[.slice A0 ds.length c0, .slice (A1) rs.length c1] 25))
  have hr : b = true → ((rs.length : Int) == 0) = true := by
    intro h
    rcases hb with h' | h'
    · rw [h] at h'; cases h'
    · rw [h']; rfl
  clear hf hb
  cases b
  all_goals
    try have hr0 := hr rfl
    clear hr
    go_enter Try.func10, Try.ntmps10
    go_wp2_with (first | (go_at_call 11; refine (fastilaw15_sane.calls true _ rfl).mono ?_; rintro e w1 ⟨rfl, hb⟩; have HA1 := Aside0.mk hb; have hbk := ae (aV w (.cells #[.slice A0 ds.length c0, .slice (A1) rs.length c1] 25)) HA1.out; have z1a := a7 hbk 0; have z1b := a7 hbk 1; simp only [List.getElem?_toArray, List.getElem?_cons_zero, List.getElem?_cons_succ] at z1a z1b; clear hbk; have HB1 := Aside0.mk (HB0.out.trans (HA1.out.mono HB0.out.size)); clear hb) | (go_at_call 12; refine (HF.out _ HB1.out).mono ?_; rintro e w2 ⟨rfl, hb⟩; have HA2 := Aside0.mk (HA1.out.trans (hb.mono HA1.out.size)); have hbk := ae (aV w (.cells #[.slice A0 ds.length c0, .slice (A1) rs.length c1] 25)) HA2.out; have z2a := a7 hbk 0; have z2b := a7 hbk 1; simp only [List.getElem?_toArray, List.getElem?_cons_zero, List.getElem?_cons_succ] at z2a z2b; clear hbk; have HB2 := Aside0.mk (HB0.out.trans (HA2.out.mono HB0.out.size)); clear hb))
    go_ret
    exact ⟨by first | rfl | simp, HB2.out⟩
theorem kinds_none (A0 : Option Addr) (c0 : Nat) (ds : List (List Int)) (ad : Addr) (c1 : Nat) (rs : List S49) (a : Int) (w : World) (x : List Int) (ok : Bool) (e0 kd : Int) (j : Nat) (hj : j < rs.length) (ej : Int.tmod (wrap64 a) (rs.length : Int) = (j : Int)) (ej2 : (wrap64 a) % (rs.length : Int) = (j : Int)) (hx : w.cell? (ad.add (j * 4)) = some (.int .i64 kd))
    (hf : ∀ W, Below w.heap.size w W → Calls Try.prog 12 #[.agg #[.slice A0 ds.length c0, .slice (some ad) rs.length c1]] W fun e w' => e = .returned (.bool true) ∧ Below W.heap.size W w')
    (hs : ∀ W, Below w.heap.size w W → Calls Try.prog 15 #[.agg #[.slice A0 ds.length c0, .slice (some ad) rs.length c1]] W fun e w' => ∃ v, e = .returned (.tuple #[v, .bool ok, .int .i64 e0]) ∧ Kd.R (Kd.int .i64) 3 w' W.heap.size (fun _ => True) v x ∧ Below W.heap.size W w') (hno : e0 ≠ 0 ∨ kd ≠ 2) :
    Calls Try.prog 10 #[.agg #[.slice A0 ds.length c0, .slice (some ad) rs.length c1], .int .u8 a] w fun e w' => e = .returned (.bool true) ∧ Below w.heap.size w w' := by
  have HF := Aside0.mk hf
  have HS := Aside0.mk hs
  have HX := Aside0.mk (And.intro hx (World.block_lt_of_cell? w _ hx))
  have HB0 := Aside0.mk (a6 (Below.refl w.heap.size w) (.cells #[.slice A0 ds.length c0, .slice (some ad) rs.length c1] 25))
  have hr0 : ((rs.length : Int) == 0) = false := by simp; intro h; rw [h] at hj; simp at hj
  have hr1 : ¬ ((rs.length : Int) = 0) := by omega
  have hj1 : (0 ≤ (j : Int)) = True := eq_true (by omega)
  have hj2 : ((j : Int) < (rs.length : Int)) = True := eq_true (by omega)
  have hj3 : (j < rs.length) = True := eq_true (by omega)
  have k1 : (e0 != 0) = false → (kd != 2) = true := by
    intro h
    rcases hno with h' | h'
    · simp at h; exact absurd h h'
    · simpa using h'
  clear hf hs hno hx
  cases hq : (e0 != 0)
  · have k := k1 hq
    clear k1
    go_enter Try.func10, Try.ntmps10
    go_wp2_with (first | (go_at_call 11; refine (fastilaw15_sane.calls true _ rfl).mono ?_; rintro e w1 ⟨rfl, hb⟩; have HA1 := Aside0.mk hb; have hbk := ae (aV w (.cells #[.slice A0 ds.length c0, .slice (some ad) rs.length c1] 25)) HA1.out; have z1a := a7 hbk 0; have z1b := a7 hbk 1; simp only [List.getElem?_toArray, List.getElem?_cons_zero, List.getElem?_cons_succ] at z1a z1b; clear hbk; have HB1 := Aside0.mk (HB0.out.trans (HA1.out.mono HB0.out.size)); clear hb) | (go_at_call 12; refine (HF.out _ HB1.out).mono ?_; rintro e w2 ⟨rfl, hb⟩; have HA2 := Aside0.mk (HA1.out.trans (hb.mono HA1.out.size)); have hbk := ae (aV w (.cells #[.slice A0 ds.length c0, .slice (some ad) rs.length c1] 25)) HA2.out; have z2a := a7 hbk 0; have z2b := a7 hbk 1; simp only [List.getElem?_toArray, List.getElem?_cons_zero, List.getElem?_cons_succ] at z2a z2b; clear hbk; have HB2 := Aside0.mk (HB0.out.trans (HA2.out.mono HB0.out.size)); clear hb) | (go_at_call 15; refine (HS.out _ HB2.out).mono ?_; rintro e w3 ⟨v3, rfl, ho, hb⟩; have HA3 := Aside0.mk (HA2.out.trans (hb.mono HA2.out.size)); have hbk := ae (aV w (.cells #[.slice A0 ds.length c0, .slice (some ad) rs.length c1] 25)) HA3.out; have z3a := a7 hbk 0; have z3b := a7 hbk 1; simp only [List.getElem?_toArray, List.getElem?_cons_zero, List.getElem?_cons_succ] at z3a z3b; clear hbk; have HB3 := Aside0.mk (HB0.out.trans (HA3.out.mono HB0.out.size)); obtain ⟨A3, c3, hv3⟩ := Kd.R_slice ho; subst hv3; have HO3 := Aside0.mk ho; have hx3 := (HB3.out.cell (p := ad.add (j * 4)) HX.out.2).trans HX.out.1; clear ho hb))
    go_ret
    exact ⟨by first | rfl | simp, HB3.out⟩
  · clear k1
    go_enter Try.func10, Try.ntmps10
    go_wp2_with (first | (go_at_call 11; refine (fastilaw15_sane.calls true _ rfl).mono ?_; rintro e w1 ⟨rfl, hb⟩; have HA1 := Aside0.mk hb; have hbk := ae (aV w (.cells #[.slice A0 ds.length c0, .slice (some ad) rs.length c1] 25)) HA1.out; have z1a := a7 hbk 0; have z1b := a7 hbk 1; simp only [List.getElem?_toArray, List.getElem?_cons_zero, List.getElem?_cons_succ] at z1a z1b; clear hbk; have HB1 := Aside0.mk (HB0.out.trans (HA1.out.mono HB0.out.size)); clear hb) | (go_at_call 12; refine (HF.out _ HB1.out).mono ?_; rintro e w2 ⟨rfl, hb⟩; have HA2 := Aside0.mk (HA1.out.trans (hb.mono HA1.out.size)); have hbk := ae (aV w (.cells #[.slice A0 ds.length c0, .slice (some ad) rs.length c1] 25)) HA2.out; have z2a := a7 hbk 0; have z2b := a7 hbk 1; simp only [List.getElem?_toArray, List.getElem?_cons_zero, List.getElem?_cons_succ] at z2a z2b; clear hbk; have HB2 := Aside0.mk (HB0.out.trans (HA2.out.mono HB0.out.size)); clear hb) | (go_at_call 15; refine (HS.out _ HB2.out).mono ?_; rintro e w3 ⟨v3, rfl, ho, hb⟩; have HA3 := Aside0.mk (HA2.out.trans (hb.mono HA2.out.size)); have hbk := ae (aV w (.cells #[.slice A0 ds.length c0, .slice (some ad) rs.length c1] 25)) HA3.out; have z3a := a7 hbk 0; have z3b := a7 hbk 1; simp only [List.getElem?_toArray, List.getElem?_cons_zero, List.getElem?_cons_succ] at z3a z3b; clear hbk; have HB3 := Aside0.mk (HB0.out.trans (HA3.out.mono HB0.out.size)); obtain ⟨A3, c3, hv3⟩ := Kd.R_slice ho; subst hv3; have HO3 := Aside0.mk ho; have hx3 := (HB3.out.cell (p := ad.add (j * 4)) HX.out.2).trans HX.out.1; clear ho hb))
    go_ret
    exact ⟨by first | rfl | simp, HB3.out⟩
theorem dF {P : Program} {ops : Array Oper} {o : Oper} {a : Act} {Q : Exit → Act → World → Prop} {Kc : Act → World → Prop} {W w1 : World} (hw : Region.wanted o (yielded ops a.tmps) = true) (hN : o.dst = none) (hrun : (execOp a.eval o).run P W = .ok .skip w1) (h : Kc a w1) :
    if Region.wanted o (yielded ops a.tmps) = true then Oper.wp P o a W Kc Q else Kc (a.put none undef) W := by
  rw [if_pos hw]
  unfold Oper.wp
  rw [hrun]
  show Kc (a.put o.dst undef) w1
  rw [hN]
  exact h
theorem put0 {W : World} {base g n cap : Nat} {ok : Nat → Prop} {xs : List S49} (h : Kd.N k49 49 W base ok (.slice (some ⟨g, 0, none⟩) n cap) xs) (j : Nat) (hj : j < n) (b : Int) :
    Kd.N k49 49 (W.setCell ⟨g, j * 4, none⟩ (.int .i64 b)) base ok (.slice (some ⟨g, 0, none⟩) n cap) (xs.set j ⟨b, (xs.getD j z49).f1, (xs.getD j z49).f2, (xs.getD j z49).f3⟩) := by
  obtain ⟨c, hcl, hF, hcc, _⟩ := Kd.N_elem h z49 (j : Int) (by omega) (by omega)
  rw [Int.toNat_natCast] at hF hcc
  obtain ⟨A2, c2, A3, c3, rfl, l2, g2, l3, g3⟩ := fJ hF
  exact (Kd.N_seg h (j : Int) (by omega) (by omega) (c := _) (seg := [.int .i64 b]) (j := 0) hcl (by rw [Int.toNat_natCast]; exact hcc) (by show 0 + 1 ≤ 4; omega) (k49_mkF W _ ⟨b, (xs.getD j z49).f1, (xs.getD j z49).f2, (xs.getD j z49).f3⟩ l2 g2 l3 g3) (fun k hk => hk)).1
theorem put1 {W : World} {base g n cap : Nat} {ok : Nat → Prop} {xs : List S49} (h : Kd.N k49 49 W base ok (.slice (some ⟨g, 0, none⟩) n cap) xs) (j : Nat) (hj : j < n) (b : Int) :
    Kd.N k49 49 (W.setCell ⟨g, j * 4 + 1, none⟩ (.int .i64 b)) base ok (.slice (some ⟨g, 0, none⟩) n cap) (xs.set j ⟨(xs.getD j z49).f0, b, (xs.getD j z49).f2, (xs.getD j z49).f3⟩) := by
  obtain ⟨c, hcl, hF, hcc, _⟩ := Kd.N_elem h z49 (j : Int) (by omega) (by omega)
  rw [Int.toNat_natCast] at hF hcc
  obtain ⟨A2, c2, A3, c3, rfl, l2, g2, l3, g3⟩ := fJ hF
  exact (Kd.N_seg h (j : Int) (by omega) (by omega) (c := _) (seg := [.int .i64 b]) (j := 1) hcl (by rw [Int.toNat_natCast]; exact hcc) (by show 1 + 1 ≤ 4; omega) (k49_mkF W _ ⟨(xs.getD j z49).f0, b, (xs.getD j z49).f2, (xs.getD j z49).f3⟩ l2 g2 l3 g3) (fun k hk => hk)).1
theorem eM {W : World} {base g n cap : Nat} {ok : Nat → Prop} {xs : List S49} (h : Kd.N k49 49 W base ok (.slice (some ⟨g, 0, none⟩) n cap) xs) (j : Nat) (hj : j < n) :
    W.cell? ⟨g, j * 4, none⟩ = some (.int .i64 (xs.getD j z49).f0) ∧ W.cell? ⟨g, j * 4 + 1, none⟩ = some (.int .i64 (xs.getD j z49).f1) ∧ W.frozen? ⟨g, j * 4, none⟩ = false ∧ W.frozen? ⟨g, j * 4 + 1, none⟩ = false := by
  obtain ⟨c, hcl, hF, hcc, hfr⟩ := Kd.N_elem h z49 (j : Int) (by omega) (by omega)
  rw [Int.toNat_natCast] at hF hcc hfr
  obtain ⟨A2, c2, A3, c3, rfl, l2, g2, l3, g3⟩ := fJ hF
  exact ⟨hcc 0 _ rfl, hcc 1 _ rfl, hfr 0, hfr 1⟩
noncomputable def T9 : Bool × List (List Nat × List Nat) := dd .any (dG Try.f10 9)
theorem tab9 : dd .any (dG Try.f10 9) = T9 := rfl
noncomputable def T10 : Bool × List (List Nat × List Nat) := dd .any (dG Try.f10 10)
theorem tab10 : dd .any (dG Try.f10 10) = T10 := rfl
noncomputable def T12 : Bool × List (List Nat × List Nat) := dd .any (dG Try.f10 12)
theorem tab12 : dd .any (dG Try.f10 12) = T12 := rfl
def toR (rs : List S49) (j : Nat) (a b : Int) : List S49 := rs.set j ⟨a, b, (rs.getD j z49).f2, (rs.getD j z49).f3⟩
theorem toR_len (rs : List S49) (j : Nat) (a b : Int) : (toR rs j a b).length = rs.length := List.length_set
theorem set_get (rs : List S49) (j : Nat) (hj : j < rs.length) {a b f1 : Int} {x : List Int} {y : List (List Int)} (hx : x = (rs.getD j z49).f2) (hy : y = (rs.getD j z49).f3) :
    (rs.set j ⟨a, f1, x, y⟩).set j ⟨((rs.set j ⟨a, f1, x, y⟩).getD j z49).f0, b, ((rs.set j ⟨a, f1, x, y⟩).getD j z49).f2, ((rs.set j ⟨a, f1, x, y⟩).getD j z49).f3⟩ = toR rs j a b := by
  subst hx hy
  have e : (rs.set j ⟨a, f1, (rs.getD j z49).f2, (rs.getD j z49).f3⟩).getD j z49 = ⟨a, f1, (rs.getD j z49).f2, (rs.getD j z49).f3⟩ := by
    rw [List.getD_eq_getElem?_getD, List.getElem?_set_self hj]; rfl
  rw [e]
  unfold toR
  rw [List.set_set]
theorem toR_get (rs : List S49) (j : Nat) (hj : j < rs.length) (a b : Int) : (toR rs j a b).getD j z49 = ⟨a, b, (rs.getD j z49).f2, (rs.getD j z49).f3⟩ := by
  unfold toR
  rw [List.getD_eq_getElem?_getD, List.getElem?_set_self hj]; rfl
theorem toR_toR (rs : List S49) (j : Nat) (hj : j < rs.length) (a b c d : Int) : toR (toR rs j a b) j c d = toR rs j c d := by
  have e := toR_get rs j hj a b
  unfold toR at e ⊢
  rw [e, List.set_set]
theorem kinds_yes (A0 : Option Addr) (c0 : Nat) (ds : List (List Int)) (ad : Addr) (c1 : Nat) (rs : List S49) (a : Int) (w : World) (x y z : List Int) (ok was : Bool) (j : Nat) (hj : j < rs.length) (ej : Int.tmod (wrap64 a) (rs.length : Int) = (j : Int)) (ej2 : (wrap64 a) % (rs.length : Int) = (j : Int)) (hrl : rs.length ≤ 200) (hx : w.cell? (ad.add (j * 4)) = some (.int .i64 2))
    (hr1 : Kd.C k49 w (some ad) rs.length rs)
    (hf : ∀ W, Below w.heap.size w W → Calls Try.prog 12 #[.agg #[.slice A0 ds.length c0, .slice (some ad) rs.length c1]] W fun e w' => e = .returned (.bool true) ∧ Below W.heap.size W w')
    (hs : ∀ W, Below w.heap.size w W → Calls Try.prog 15 #[.agg #[.slice A0 ds.length c0, .slice (some ad) rs.length c1]] W fun e w' => ∃ v, e = .returned (.tuple #[v, .bool ok, .int .i64 0]) ∧ Kd.R (Kd.int .i64) 3 w' W.heap.size (fun _ => True) v x ∧ Below W.heap.size W w')
    (hs2 : ∀ W A c, Below w.heap.size w W → Kd.C k49 W A rs.length (toR rs j 3 1) → rs.length ≤ c → Calls Try.prog 15 #[.agg #[.slice A0 ds.length c0, .slice A rs.length c]] W fun e w' => ∃ v, e = .returned (.tuple #[v, .bool ok, .int .i64 0]) ∧ Kd.R (Kd.int .i64) 3 w' W.heap.size (fun _ => True) v y ∧ Below W.heap.size W w')
    (hs3 : ∀ W A c, Below w.heap.size w W → Kd.C k49 W A rs.length (toR rs j 4 0) → rs.length ≤ c → Calls Try.prog 15 #[.agg #[.slice A0 ds.length c0, .slice A rs.length c]] W fun e w' => ∃ v, e = .returned (.tuple #[v, .bool was, .int .i64 0]) ∧ Kd.R (Kd.int .i64) 3 w' W.heap.size (fun _ => True) v z ∧ Below W.heap.size W w')
    (hsm : ∀ W A c A' c', Kd.C (Kd.int .i64) W A x.length x → x.length ≤ c → Kd.C (Kd.int .i64) W A' y.length y → y.length ≤ c' → Calls Try.prog 19 #[.slice A x.length c, .slice A' y.length c'] W fun e w' => e = .returned (.bool true) ∧ Below W.heap.size W w')
    (hend : was = true → ok = true ∧ z.length = x.length)
    (hbf : was = true → ∀ W A c A' c', Kd.C (Kd.int .i64) W A z.length z → z.length ≤ c → Kd.C (Kd.int .i64) W A' x.length x → x.length ≤ c' → Calls Try.prog 27 #[.slice A z.length c, .slice A' x.length c'] W fun e w' => e = .returned (.bool false) ∧ Below W.heap.size W w') :
    Calls Try.prog 10 #[.agg #[.slice A0 ds.length c0, .slice (some ad) rs.length c1], .int .u8 a] w fun e w' => e = .returned (.bool true) ∧ Below w.heap.size w w' := by
  have HF := Aside0.mk hf
  have HS := Aside0.mk hs
  have HS2 := Aside0.mk hs2
  have HS3 := Aside0.mk hs3
  have HSM := Aside0.mk hsm
  have HBF := Aside0.mk hbf
  have HEND := Aside0.mk hend
  have HX := Aside0.mk (And.intro hx (World.block_lt_of_cell? w _ hx))
  have HB0 := Aside0.mk (a6 (Below.refl w.heap.size w) (.cells #[.slice A0 ds.length c0, .slice (some ad) rs.length c1] 25))
  have HR1 := Aside0.mk hr1
  have HRL := Aside0.mk hrl
  have hr0 : ((rs.length : Int) == 0) = false := by simp; intro h; rw [h] at hj; simp at hj
  have hr2 : ¬ ((rs.length : Int) = 0) := by omega
  have hj1 : (0 ≤ (j : Int)) = True := eq_true (by omega)
  have hj2 : ((j : Int) < (rs.length : Int)) = True := eq_true (by omega)
  have hj3 : (j < rs.length) = True := eq_true (by omega)
  have HJ := Aside0.mk hj
  clear hf hs hs2 hs3 hsm hbf hx hr1 hrl hend
  go_enter Try.func10, Try.ntmps10
  go_upto_region 9 with (first | (go_at_call 11; refine (fastilaw15_sane.calls true _ rfl).mono ?_; rintro e w1 ⟨rfl, hb⟩; have HA1 := Aside0.mk hb; have hbk := ae (aV w (.cells #[.slice A0 ds.length c0, .slice (some ad) rs.length c1] 25)) HA1.out; have z1a := a7 hbk 0; have z1b := a7 hbk 1; simp only [List.getElem?_toArray, List.getElem?_cons_zero, List.getElem?_cons_succ] at z1a z1b; clear hbk; have HB1 := Aside0.mk (HB0.out.trans (HA1.out.mono HB0.out.size)); clear hb) | (go_at_call 12; refine (HF.out _ HB1.out).mono ?_; rintro e w2 ⟨rfl, hb⟩; have HA2 := Aside0.mk (HA1.out.trans (hb.mono HA1.out.size)); have hbk := ae (aV w (.cells #[.slice A0 ds.length c0, .slice (some ad) rs.length c1] 25)) HA2.out; have z2a := a7 hbk 0; have z2b := a7 hbk 1; simp only [List.getElem?_toArray, List.getElem?_cons_zero, List.getElem?_cons_succ] at z2a z2b; clear hbk; have HB2 := Aside0.mk (HB0.out.trans (HA2.out.mono HB0.out.size)); clear hb) | (go_at_call 15; refine (HS.out _ HB2.out).mono ?_; rintro e w3 ⟨v3, rfl, ho, hb⟩; have HA3 := Aside0.mk (HA2.out.trans (hb.mono HA2.out.size)); have hbk := ae (aV w (.cells #[.slice A0 ds.length c0, .slice (some ad) rs.length c1] 25)) HA3.out; have z3a := a7 hbk 0; have z3b := a7 hbk 1; simp only [List.getElem?_toArray, List.getElem?_cons_zero, List.getElem?_cons_succ] at z3a z3b; clear hbk; have HB3 := Aside0.mk (HB0.out.trans (HA3.out.mono HB0.out.size)); obtain ⟨A3, c3, hv3⟩ := Kd.R_slice ho; subst hv3; have HO3 := Aside0.mk ho; have hx3 := (HB3.out.cell (p := ad.add (j * 4)) HX.out.2).trans HX.out.1; clear ho hb))
  have FR : Kd.F k49 w3 (fun k => k < w.heap.size) (some ad) rs.length rs := fun W' hW => (Kd.C_F k49_heap HR1.out) W' (fun k hk hlt => (hW k hk (by have := HB3.out.size; omega)).trans (HB3.out.block k hlt))
  have FR := Aside0.mk FR
  have hbw : Below w3.heap.size w3 w3.drew := a5 (Below.refl _ _)
  have zda : w3.drew.cell? ⟨w.heap.size, 0, none⟩ = some (.slice A0 ds.length c0) := z3a
  have zdb : w3.drew.cell? ⟨w.heap.size, 1, none⟩ = some (.slice (some ad) rs.length c1) := z3b
  have HWS : w.heap.size < w3.heap.size := by have := HA3.out.size; simp at this; omega
  have HWS := Aside0.mk HWS
  clear ej ej2 hr0 hr2 hj
  refine dT (n := 9) (S := fun w' => w'.cell? ⟨w.heap.size, 0, none⟩ = some (.slice A0 ds.length c0) ∧ w'.cell? ⟨w.heap.size, 1, none⟩ = some (.slice (some ad) rs.length c1)) (ds := []) #[false, false, false, false, false, false, false, false, false] (by kernel_rfl) rfl rfl ⟨zda, zdb⟩ (fun hHeld => ?_)
  refine cU tab9 (fun HT_ => ?_)
  refine bc (i := 0) (N := some 50) (v := ?_) (a' := ?_) #[true, false, false, false, false, false, false, false, false] rfl rfl (aH HT_.out (by kernel_rfl)) (fun _ _ _ h => h) (Or.inl ⟨by rfl, ?_⟩) ?_ ?_
  rotate_left
  · intro w'
    go_simp
    with_reducible rfl
  rotate_left
  · simp only [Act.put, List.setIfInBounds_toArray, List.set_cons_zero, List.set_cons_succ, aq, ar]
    rfl
  refine bc (i := 3) (N := some 53) (v := ?_) (a' := ?_) #[true, false, false, true, false, false, false, false, false] rfl rfl (aH HT_.out (by kernel_rfl)) (fun _ _ _ h => h) (Or.inl ⟨by rfl, ?_⟩) ?_ ?_
  rotate_left
  · intro w'
    go_simp
    with_reducible rfl
  rotate_left
  · simp only [Act.put, List.setIfInBounds_toArray, List.set_cons_zero, List.set_cons_succ, aq, ar]
    rfl
  refine take_ (i := 1) (N := some 51) (v := ?_) (a' := ?_) #[true, true, false, true, false, false, false, false, false] rfl rfl (bE HT_.out (by kernel_rfl)) (fun _ _ _ h => h) (Or.inl ⟨by rfl, ?_⟩) hHeld ?_ ?_
  rotate_left
  · rintro w' ⟨s0, s1⟩
    go_simp
    with_reducible rfl
  rotate_left
  · simp only [Act.put, List.setIfInBounds_toArray, List.set_cons_zero, List.set_cons_succ, aq, ar]
    rfl
  refine take_ (i := 4) (N := some 54) (v := ?_) (a' := ?_) #[true, true, false, true, true, false, false, false, false] rfl rfl (bE HT_.out (by kernel_rfl)) (fun _ _ _ h => h) (Or.inl ⟨by rfl, ?_⟩) hHeld ?_ ?_
  rotate_left
  · rintro w' ⟨s0, s1⟩
    go_simp
    with_reducible rfl
  rotate_left
  · simp only [Act.put, List.setIfInBounds_toArray, List.set_cons_zero, List.set_cons_succ, aq, ar]
    rfl
  refine join_ (σ := Value × (Option Addr × Nat) × Nat) 1 #[true, true, true, true, true, true, true, true, false] (fun s_ => [(52, s_.1), (55, .slice s_.2.1.1 rs.length s_.2.1.2), (56, .agg #[.slice A0 ds.length c0, .slice s_.2.1.1 rs.length s_.2.1.2]), (9, .pointer (some ⟨s_.2.2, 0, none⟩))]) (fun s_ w' => (w'.cell? ⟨w.heap.size, 0, none⟩ = some (.slice A0 ds.length c0) ∧ w'.cell? ⟨w.heap.size, 1, none⟩ = some (.slice (some ad) rs.length c1)) ∧ Kd.N k49 49 w' w3.heap.size (fun k => k ≠ s_.2.2) (.slice s_.2.1.1 rs.length s_.2.1.2) rs ∧ w'.heap[s_.2.2]? = some (.cells #[.slice none 0 0, .slice none 0 0] 25 (0, 0)) ∧ w3.heap.size ≤ s_.2.2 ∧ Below w3.heap.size w3 w') ?_ ?_
  rotate_left
  · intro hCont
    refine two_ (i := 2) (j := 7) (Ni := some 52) (Nj := some 9) #[true, true, true, true, true, false, false, false, false] #[true, true, false, true, true, false, false, true, false] rfl rfl rfl rfl (two_of HT_.out (by kernel_rfl)) (by decide) (by decide) (fun K hK => ?_) (fun K hK => ?_)
    · refine Kd.N_lit_step k49 (w0 := w3) w3.heap.size 49 ?hg (N' := 52) ?hd (xs := ([] : List S49)) (inner := []) (ok := fun _ => True) (okp := fun _ => False) ?hr ?hp (fun _ hk => hk.elim) trivial hbw (Nat.le_refl _) (by simp) ?_; (case hd => rfl); (case hg => rfl); (case hr => first | (go_simp; done) | (go_simp; rfl)); (case hp => exact (Reps.none _ _))
      intro v4 w4 hn4 hb4 hg4 hat4
      have HN4 := Aside0.mk hn4
      have HB4 := Aside0.mk hb4
      clear hg4 hat4 hn4 hb4
      refine hK.out _ _ ⟨(HB4.out.cell (p := ⟨w.heap.size, 0, none⟩) HWS.out).trans z3a, (HB4.out.cell (p := ⟨w.heap.size, 1, none⟩) HWS.out).trans z3b⟩ (fun hHeld => ?_)
      clear hK K
      refine co (a' := ?_) ?_ ?_
      rotate_left
      · show Act.put _ (some 52) _ = _
        simp only [Act.put, List.setIfInBounds_toArray, List.set_cons_zero, List.set_cons_succ, aq, ar]
        rfl
      refine two_ (i := 5) (j := 7) (Ni := some 55) (Nj := some 9) #[true, true, true, true, true, true, false, false, false] #[true, true, true, true, true, false, false, true, false] rfl rfl rfl rfl (two_of HT_.out (by kernel_rfl)) (by decide) (by decide) (fun K hK => ?_) (fun K hK => ?_)
      · refine Kd.N_append_rows_step k49 (w0 := w3) w3.heap.size (by rfl) (.tmp 52) (.tmp 54) 23 49 (.agg #[(.int .i64 0), (.int .i64 0), (.slice none 0 0), (.slice none 0 0)]) 64 rfl Try.underlying23 info49 rfl (by decide) (by omega) v4 [] rs _ _ _ (fun _ => True) (fun k => k < w.heap.size) rfl rfl HN4.out (Kd.F_step FR.out (fun k hk hlt => HB4.out.block k (by have := HWS.out; omega))) (fun k hk => ⟨trivial, fun e => by have := Kd.N_base HN4.out k e.symm; have := HWS.out; omega⟩) (fun _ _ => trivial) HB4.out HB4.out.size (by have := HRL.out; simp only [List.length_nil, Nat.zero_add]; omega) ?_
        intro v5 w5 hn5 hb5 hg5 hat5
        rw [List.nil_append] at hn5
        obtain ⟨A5, c5, hv5⟩ := Kd.N_slice hn5
        subst hv5
        have HN5 := Aside0.mk hn5
        have HB5 := Aside0.mk hb5
        clear hg5 hat5 hn5 hb5
        refine hK.out _ _ ⟨(HB5.out.cell (p := ⟨w.heap.size, 0, none⟩) HWS.out).trans z3a, (HB5.out.cell (p := ⟨w.heap.size, 1, none⟩) HWS.out).trans z3b⟩ (fun hHeld => ?_)
        clear hK K
        refine co (a' := ?_) ?_ ?_
        rotate_left
        · show Act.put _ (some 55) _ = _
          simp only [Act.put, List.setIfInBounds_toArray, List.set_cons_zero, List.set_cons_succ, aq, ar]
          rfl
        refine bc (i := 6) (N := some 56) (v := ?_) (a' := ?_) #[true, true, true, true, true, true, true, false, false] rfl rfl (aH HT_.out (by kernel_rfl)) (fun _ _ _ h => h) (Or.inl ⟨by rfl, ?_⟩) ?_ ?_
        rotate_left
        · intro w'
          go_simp
          with_reducible rfl
        rotate_left
        · simp only [Act.put, List.setIfInBounds_toArray, List.set_cons_zero, List.set_cons_succ, aq, ar]
          rfl
        refine fz (i := 7) (N := some 9) #[true, true, true, true, true, true, true, true, false] rfl rfl (bB HT_.out (by kernel_rfl)) (by decide) (fun K hK => ?_)
        refine box_step (by rfl) (N := 9) rfl (cs := #[.slice none 0 0, .slice none 0 0]) (t := 25) (by first | (go_simp; done) | (go_simp; rfl)) ?_
        intro gq hgq w6 hq hb6
        have HB6 := Aside0.mk (HB5.out.trans (hb6.mono HB5.out.size))
        have HQ := Aside0.mk hq
        have HG := Aside0.mk (show w3.heap.size ≤ gq by rw [hgq]; exact HB5.out.size)
        have HN6 := Aside0.mk (Kd.N_below (Kd.N_mono (Kd.N_elderB HN5.out gq (by omega)) (fun k hk => hk.2)) hb6)
        clear hq hb6 hgq
        refine hK.out _ _ ⟨(HB6.out.cell (p := ⟨w.heap.size, 0, none⟩) HWS.out).trans z3a, (HB6.out.cell (p := ⟨w.heap.size, 1, none⟩) HWS.out).trans z3b⟩ (fun hHeld => ?_)
        clear hK K
        refine co (a' := ?_) ?_ ?_
        rotate_left
        · show Act.put _ (some 9) _ = _
          simp only [Act.put, List.setIfInBounds_toArray, List.set_cons_zero, List.set_cons_succ, aq, ar]
          rfl
        exact co (by simp only [fV, Act.put, List.setIfInBounds_toArray, List.set_cons_zero, List.set_cons_succ]) (hCont (v4, (A5, c5), gq) _ ⟨hHeld, HN6.out, HQ.out, HG.out, HB6.out⟩)
      · refine box_step (by rfl) (N := 9) rfl (cs := #[.slice none 0 0, .slice none 0 0]) (t := 25) (by first | (go_simp; done) | (go_simp; rfl)) ?_
        intro gq hgq w6 hq hb6
        have HB6 := Aside0.mk (HB4.out.trans (hb6.mono HB4.out.size))
        have HQ := Aside0.mk hq
        have HG := Aside0.mk (show w3.heap.size ≤ gq by rw [hgq]; exact HB4.out.size)
        have HGL := Aside0.mk (aZ hq)
        have HN6 := Aside0.mk (Kd.N_below (Kd.N_mono (Kd.N_elderB HN4.out gq (by omega)) (fun k hk => hk.2)) hb6)
        clear hq hb6 hgq
        refine hK.out _ _ ⟨(HB6.out.cell (p := ⟨w.heap.size, 0, none⟩) HWS.out).trans z3a, (HB6.out.cell (p := ⟨w.heap.size, 1, none⟩) HWS.out).trans z3b⟩ (fun hHeld => ?_)
        clear hK K
        refine co (a' := ?_) ?_ ?_
        rotate_left
        · show Act.put _ (some 9) _ = _
          simp only [Act.put, List.setIfInBounds_toArray, List.set_cons_zero, List.set_cons_succ, aq, ar]
          rfl
        refine fz (i := 5) (N := some 55) #[true, true, true, true, true, true, false, true, false] rfl rfl (bB HT_.out (by kernel_rfl)) (by decide) (fun K hK => ?_)
        refine Kd.N_append_rows_step k49 (w0 := w3) w3.heap.size (by rfl) (.tmp 52) (.tmp 54) 23 49 (.agg #[(.int .i64 0), (.int .i64 0), (.slice none 0 0), (.slice none 0 0)]) 64 rfl Try.underlying23 info49 rfl (by decide) (by omega) v4 [] rs _ _ _ (fun k => k ≠ gq) (fun k => k < w.heap.size) rfl rfl HN6.out (Kd.F_step FR.out (fun k hk hlt => HB6.out.block k (by have := HWS.out; omega))) (fun k hk => ⟨(by have := HG.out; have := HWS.out; omega), fun e => by have := Kd.N_base HN6.out k e.symm; have := HWS.out; omega⟩) (fun k hk => by have := HGL.out; omega) HB6.out HB6.out.size (by have := HRL.out; simp only [List.length_nil, Nat.zero_add]; omega) ?_
        intro v5 w5 hn5 hb5 hg5 hat5
        have HQ5 := Aside0.mk (dB HQ.out hg5 (Kd.N_ne HN6.out HQ.out (by decide)))
        rw [List.nil_append] at hn5
        obtain ⟨A5, c5, hv5⟩ := Kd.N_slice hn5
        subst hv5
        have HN5 := Aside0.mk hn5
        have HB5 := Aside0.mk hb5
        clear hg5 hat5 hn5 hb5
        refine hK.out _ _ ⟨(HB5.out.cell (p := ⟨w.heap.size, 0, none⟩) HWS.out).trans z3a, (HB5.out.cell (p := ⟨w.heap.size, 1, none⟩) HWS.out).trans z3b⟩ (fun hHeld => ?_)
        clear hK K
        refine co (a' := ?_) ?_ ?_
        rotate_left
        · show Act.put _ (some 55) _ = _
          simp only [Act.put, List.setIfInBounds_toArray, List.set_cons_zero, List.set_cons_succ, aq, ar]
          rfl
        refine bc (i := 6) (N := some 56) (v := ?_) (a' := ?_) #[true, true, true, true, true, true, true, true, false] rfl rfl (aH HT_.out (by kernel_rfl)) (fun _ _ _ h => h) (Or.inl ⟨by rfl, ?_⟩) ?_ ?_
        rotate_left
        · intro w'
          go_simp
          with_reducible rfl
        rotate_left
        · simp only [Act.put, List.setIfInBounds_toArray, List.set_cons_zero, List.set_cons_succ, aq, ar]
          rfl
        exact co (by simp only [fV, Act.put, List.setIfInBounds_toArray, List.set_cons_zero, List.set_cons_succ]) (hCont (v4, (A5, c5), gq) _ ⟨hHeld, HN5.out, HQ5.out, HG.out, HB5.out⟩)
    · refine box_step (by rfl) (N := 9) rfl (cs := #[.slice none 0 0, .slice none 0 0]) (t := 25) (by first | (go_simp; done) | (go_simp; rfl)) ?_
      intro gq hgq w6 hq hb6
      have HB6 := Aside0.mk (hbw.trans (hb6.mono hbw.size))
      have HQ := Aside0.mk hq
      have HG := Aside0.mk (show w3.heap.size ≤ gq by rw [hgq]; exact hbw.size)
      have HGL := Aside0.mk (aZ hq)
      clear hq hb6 hgq
      refine hK.out _ _ ⟨(HB6.out.cell (p := ⟨w.heap.size, 0, none⟩) HWS.out).trans z3a, (HB6.out.cell (p := ⟨w.heap.size, 1, none⟩) HWS.out).trans z3b⟩ (fun hHeld => ?_)
      clear hK K
      refine co (a' := ?_) ?_ ?_
      rotate_left
      · show Act.put _ (some 9) _ = _
        simp only [Act.put, List.setIfInBounds_toArray, List.set_cons_zero, List.set_cons_succ, aq, ar]
        rfl
      refine fz (i := 2) (N := some 52) #[true, true, true, true, true, false, false, true, false] rfl rfl (bB HT_.out (by kernel_rfl)) (by decide) (fun K hK => ?_)
      refine Kd.N_lit_step k49 (w0 := w3) w3.heap.size 49 ?hg (N' := 52) ?hd (xs := ([] : List S49)) (inner := []) (ok := (fun k => k ≠ gq)) (okp := fun _ => False) ?hr ?hp (fun _ hk => hk.elim) (by have := HGL.out; omega) HB6.out HB6.out.size (by simp) ?_; (case hd => rfl); (case hg => rfl); (case hr => first | (go_simp; done) | (go_simp; rfl)); (case hp => exact (Reps.none _ _))
      intro v4 w4 hn4 hb4 hg4 hat4
      have HQ4 := Aside0.mk (dB HQ.out hg4 (by simp))
      have HGL4 := Aside0.mk (aZ HQ4.out)
      have HN4 := Aside0.mk hn4
      have HB4 := Aside0.mk hb4
      clear hg4 hat4 hn4 hb4
      refine hK.out _ _ ⟨(HB4.out.cell (p := ⟨w.heap.size, 0, none⟩) HWS.out).trans z3a, (HB4.out.cell (p := ⟨w.heap.size, 1, none⟩) HWS.out).trans z3b⟩ (fun hHeld => ?_)
      clear hK K
      refine co (a' := ?_) ?_ ?_
      rotate_left
      · show Act.put _ (some 52) _ = _
        simp only [Act.put, List.setIfInBounds_toArray, List.set_cons_zero, List.set_cons_succ, aq, ar]
        rfl
      refine fz (i := 5) (N := some 55) #[true, true, true, true, true, true, false, true, false] rfl rfl (bB HT_.out (by kernel_rfl)) (by decide) (fun K hK => ?_)
      refine Kd.N_append_rows_step k49 (w0 := w3) w3.heap.size (by rfl) (.tmp 52) (.tmp 54) 23 49 (.agg #[(.int .i64 0), (.int .i64 0), (.slice none 0 0), (.slice none 0 0)]) 64 rfl Try.underlying23 info49 rfl (by decide) (by omega) v4 [] rs _ _ _ (fun k => k ≠ gq) (fun k => k < w.heap.size) rfl rfl HN4.out (Kd.F_step FR.out (fun k hk hlt => HB4.out.block k (by have := HWS.out; omega))) (fun k hk => ⟨(by have := HG.out; have := HWS.out; omega), fun e => by have := Kd.N_base HN4.out k e.symm; have := HWS.out; omega⟩) (fun k hk => by have := HGL4.out; omega) HB4.out HB4.out.size (by have := HRL.out; simp only [List.length_nil, Nat.zero_add]; omega) ?_
      intro v5 w5 hn5 hb5 hg5 hat5
      have HQ5 := Aside0.mk (dB HQ4.out hg5 (Kd.N_ne HN4.out HQ4.out (by decide)))
      rw [List.nil_append] at hn5
      obtain ⟨A5, c5, hv5⟩ := Kd.N_slice hn5
      subst hv5
      have HN5 := Aside0.mk hn5
      have HB5 := Aside0.mk hb5
      clear hg5 hat5 hn5 hb5
      refine hK.out _ _ ⟨(HB5.out.cell (p := ⟨w.heap.size, 0, none⟩) HWS.out).trans z3a, (HB5.out.cell (p := ⟨w.heap.size, 1, none⟩) HWS.out).trans z3b⟩ (fun hHeld => ?_)
      clear hK K
      refine co (a' := ?_) ?_ ?_
      rotate_left
      · show Act.put _ (some 55) _ = _
        simp only [Act.put, List.setIfInBounds_toArray, List.set_cons_zero, List.set_cons_succ, aq, ar]
        rfl
      refine bc (i := 6) (N := some 56) (v := ?_) (a' := ?_) #[true, true, true, true, true, true, true, true, false] rfl rfl (aH HT_.out (by kernel_rfl)) (fun _ _ _ h => h) (Or.inl ⟨by rfl, ?_⟩) ?_ ?_
      rotate_left
      · intro w'
        go_simp
        with_reducible rfl
      rotate_left
      · simp only [Act.put, List.setIfInBounds_toArray, List.set_cons_zero, List.set_cons_succ, aq, ar]
        rfl
      exact co (by simp only [fV, Act.put, List.setIfInBounds_toArray, List.set_cons_zero, List.set_cons_succ]) (hCont (v4, (A5, c5), gq) _ ⟨hHeld, HN5.out, HQ5.out, HG.out, HB5.out⟩)
  rintro ⟨v4, ⟨A5, c5⟩, gq⟩ w5 ⟨hHeld, hn5, hq5, hg5, hb5⟩
  have HN5 := Aside0.mk hn5
  have HQ5 := Aside0.mk hq5
  have HG5 := Aside0.mk hg5
  have HB5 := Aside0.mk hb5
  clear hn5 hq5 hg5 hb5
  refine co (a' := ?_) ?_ ?_
  rotate_left
  · simp only [fV, Act.put, List.setIfInBounds_toArray, List.set_cons_zero, List.set_cons_succ]
    rfl
  have y0 : w5.cell? ⟨gq, 0, none⟩ = some (.slice none 0 0) := (a7 HQ5.out 0).trans rfl
  have y1 : w5.cell? ⟨gq, 1, none⟩ = some (.slice none 0 0) := (a7 HQ5.out 1).trans rfl
  have f0 := a8 HQ5.out 0
  have f1 := a8 HQ5.out 1
  refine fz (i := 8) (N := none) #[true, true, true, true, true, true, true, true, true] rfl rfl (bB HT_.out (by kernel_rfl)) (by decide) (fun K hK => ?_)
  refine dF (w1 := (w5.setCell ⟨gq, 0, none⟩ (.slice A0 ds.length c0)).setCell ⟨gq, 1, none⟩ (.slice A5 rs.length c5)) rfl rfl (by first | (go_simp; done) | (go_simp; rfl)) ?_
  obtain ⟨w6, hw6⟩ : ∃ w6, (w5.setCell ⟨gq, 0, none⟩ (.slice A0 ds.length c0)).setCell ⟨gq, 1, none⟩ (.slice A5 rs.length c5) = w6 := ⟨_, rfl⟩
  rw [hw6]
  have HB6 := Aside0.mk (hw6 ▸ aa (aa HB5.out HG5.out) HG5.out : Below w3.heap.size w3 w6)
  have HN6 := Aside0.mk (hw6 ▸ Kd.N_far (Kd.N_far HN5.out (fun _ hk => hk) _) (fun _ hk => hk) _ : Kd.N k49 49 w6 w3.heap.size (fun k => k ≠ gq) (.slice A5 rs.length c5) rs)
  have HQ6 := Aside0.mk (hw6 ▸ aT (aT HQ5.out 0 _ rfl) 1 _ rfl : w6.heap[gq]? = some (.cells #[.slice A0 ds.length c0, .slice A5 rs.length c5] 25 (0, 0)))
  clear hw6 y0 y1 f0 f1
  refine hK.out _ _ ⟨(HB6.out.cell (p := ⟨w.heap.size, 0, none⟩) HWS.out).trans z3a, (HB6.out.cell (p := ⟨w.heap.size, 1, none⟩) HWS.out).trans z3b⟩ (fun hHeld => ?_)
  clear hK K
  refine fX (cK HT_.out (by kernel_rfl)) ?_
  clear hHeld HT_ HB5 HN5 HQ5 zda zdb
  have y0 : w6.cell? ⟨gq, 0, none⟩ = some (.slice A0 ds.length c0) := (a7 HQ6.out 0).trans rfl
  have y1 : w6.cell? ⟨gq, 1, none⟩ = some (.slice A5 rs.length c5) := (a7 HQ6.out 1).trans rfl
  obtain ⟨gr, c5', hv5, hgr, hgl, cr, hcr⟩ := Kd.N_form HN6.out (by have := HJ.out; omega)
  obtain ⟨rfl, -, rfl⟩ : A5 = some ⟨gr, 0, none⟩ ∧ True ∧ c5 = c5' := by injection hv5 with e1 e2 e3; exact ⟨e1, trivial, e3⟩
  have HN6d := Aside0.mk (Kd.N_drew HN6.out)
  obtain ⟨x0, x1, g0, g1⟩ := eM HN6d.out j HJ.out
  have yd0 : w6.drew.cell? ⟨gq, 0, none⟩ = some (.slice A0 ds.length c0) := y0
  have yd1 : w6.drew.cell? ⟨gq, 1, none⟩ = some (.slice (some ⟨gr, 0, none⟩) rs.length c5) := y1
  have HNE := Aside0.mk (Kd.N_ne HN6.out HQ6.out (by decide))
  go_upto_region 10 with (fail)
  refine dT (n := 12) (S := fun w' => w'.cell? ⟨gq, 0, none⟩ = some (.slice A0 ds.length c0) ∧ w'.cell? ⟨gq, 1, none⟩ = some (.slice (some ⟨gr, 0, none⟩) rs.length c5)) (ds := []) #[false, false, false, false, false, false, false, false, false, false, false, false] (by kernel_rfl) rfl rfl ⟨yd0, yd1⟩ (fun hHeld => ?_)
  refine cU tab10 (fun HT_ => ?_)
  refine bc (i := 0) (N := some 57) (v := ?_) (a' := ?_) #[true, false, false, false, false, false, false, false, false, false, false, false] rfl rfl (aH HT_.out (by kernel_rfl)) (fun _ _ _ h => h) (Or.inl ⟨by rfl, ?_⟩) ?_ ?_
  rotate_left
  · intro w'
    go_simp
    with_reducible rfl
  rotate_left
  · simp only [Act.put, List.setIfInBounds_toArray, List.set_cons_zero, List.set_cons_succ, aq, ar]
    rfl
  refine bc (i := 3) (N := some 60) (v := ?_) (a' := ?_) #[true, false, false, true, false, false, false, false, false, false, false, false] rfl rfl (aH HT_.out (by kernel_rfl)) (fun _ _ _ h => h) (Or.inl ⟨by rfl, ?_⟩) ?_ ?_
  rotate_left
  · intro w'
    go_simp
    with_reducible rfl
  rotate_left
  · simp only [Act.put, List.setIfInBounds_toArray, List.set_cons_zero, List.set_cons_succ, aq, ar]
    rfl
  refine take_ (i := 1) (N := some 58) (v := ?_) (a' := ?_) #[true, true, false, true, false, false, false, false, false, false, false, false] rfl rfl (bE HT_.out (by kernel_rfl)) (fun _ _ _ h => h) (Or.inl ⟨by rfl, ?_⟩) hHeld ?_ ?_
  rotate_left
  · rintro w' ⟨s0, s1⟩
    go_simp
    with_reducible rfl
  rotate_left
  · simp only [Act.put, List.setIfInBounds_toArray, List.set_cons_zero, List.set_cons_succ, aq, ar]
    rfl
  refine bc (i := 2) (N := some 59) (v := ?_) (a' := ?_) #[true, true, true, true, false, false, false, false, false, false, false, false] rfl rfl (aH HT_.out (by kernel_rfl)) (fun _ _ _ h => h) (Or.inl ⟨by rfl, ?_⟩) ?_ ?_
  rotate_left
  · intro w'
    go_simp
    with_reducible rfl
  rotate_left
  · simp only [Act.put, List.setIfInBounds_toArray, List.set_cons_zero, List.set_cons_succ, aq, ar]
    rfl
  refine take_ (i := 4) (N := some 61) (v := ?_) (a' := ?_) #[true, true, true, true, true, false, false, false, false, false, false, false] rfl rfl (bE HT_.out (by kernel_rfl)) (fun _ _ _ h => h) (Or.inl ⟨by rfl, ?_⟩) hHeld ?_ ?_
  rotate_left
  · rintro w' ⟨s0, s1⟩
    go_simp
    with_reducible rfl
  rotate_left
  · simp only [Act.put, List.setIfInBounds_toArray, List.set_cons_zero, List.set_cons_succ, aq, ar]
    rfl
  refine bc (i := 5) (N := some 62) (v := ?_) (a' := ?_) #[true, true, true, true, true, true, false, false, false, false, false, false] rfl rfl (aH HT_.out (by kernel_rfl)) (fun _ _ _ h => h) (Or.inl ⟨by rfl, ?_⟩) ?_ ?_
  rotate_left
  · intro w'
    go_simp
    with_reducible rfl
  rotate_left
  · simp only [Act.put, List.setIfInBounds_toArray, List.set_cons_zero, List.set_cons_succ, aq, ar]
    rfl
  refine bc (i := 6) (N := some 63) (v := ?_) (a' := ?_) #[true, true, true, true, true, true, true, false, false, false, false, false] rfl rfl (aH HT_.out (by kernel_rfl)) (fun _ _ _ h => h) (Or.inl ⟨by rfl, ?_⟩) ?_ ?_
  rotate_left
  · intro w'
    go_simp
    with_reducible rfl
  rotate_left
  · simp only [Act.put, List.setIfInBounds_toArray, List.set_cons_zero, List.set_cons_succ, aq, ar]
    rfl
  refine bc (i := 7) (N := some 64) (v := ?_) (a' := ?_) #[true, true, true, true, true, true, true, true, false, false, false, false] rfl rfl (aH HT_.out (by kernel_rfl)) (fun _ _ _ h => h) (Or.inl ⟨by rfl, ?_⟩) ?_ ?_
  rotate_left
  · intro w'
    go_simp
    with_reducible rfl
  rotate_left
  · simp only [Act.put, List.setIfInBounds_toArray, List.set_cons_zero, List.set_cons_succ, aq, ar]
    rfl
  refine fz (i := 8) (N := none) #[true, true, true, true, true, true, true, true, true, false, false, false] rfl rfl (bB HT_.out (by kernel_rfl)) (by decide) (fun K hK => ?_)
  refine dF (w1 := w6.drew.setCell ⟨gr, j * 4, none⟩ (.int .i64 3)) rfl rfl (by first | (go_simp; done) | (go_simp; rfl)) ?_
  obtain ⟨w7, hw7⟩ : ∃ w7, w6.drew.setCell ⟨gr, j * 4, none⟩ (.int .i64 3) = w7 := ⟨_, rfl⟩
  rw [hw7]
  have HN7 := Aside0.mk (hw7 ▸ put0 HN6d.out j HJ.out 3 : Kd.N k49 49 w7 w3.heap.size (fun k => k ≠ gq) (.slice (some ⟨gr, 0, none⟩) rs.length c5) (rs.set j ⟨3, (rs.getD j z49).f1, (rs.getD j z49).f2, (rs.getD j z49).f3⟩))
  have HB7 := Aside0.mk (hw7 ▸ aa (a5 HB6.out) hgr : Below w3.heap.size w3 w7)
  have HQ7 := Aside0.mk (hw7 ▸ aU (ac HQ6.out) (fun e => HNE.out (by rw [e]; rfl)) _ : w7.heap[gq]? = some (.cells #[.slice A0 ds.length c0, .slice (some ⟨gr, 0, none⟩) rs.length c5] 25 (0, 0)))
  clear hw7 x0 x1 g0 g1 yd0 yd1
  refine hK.out _ _ ⟨(a7 HQ7.out 0).trans rfl, (a7 HQ7.out 1).trans rfl⟩ (fun hHeld => ?_)
  clear hK K
  refine bc (i := 9) (N := some 65) (v := ?_) (a' := ?_) #[true, true, true, true, true, true, true, true, true, true, false, false] rfl rfl (aH HT_.out (by kernel_rfl)) (fun _ _ _ h => h) (Or.inl ⟨by rfl, ?_⟩) ?_ ?_
  rotate_left
  · intro w'
    go_simp
    with_reducible rfl
  rotate_left
  · simp only [Act.put, List.setIfInBounds_toArray, List.set_cons_zero, List.set_cons_succ, aq, ar]
    rfl
  refine bc (i := 10) (N := some 66) (v := ?_) (a' := ?_) #[true, true, true, true, true, true, true, true, true, true, true, false] rfl rfl (aH HT_.out (by kernel_rfl)) (fun _ _ _ h => h) (Or.inl ⟨by rfl, ?_⟩) ?_ ?_
  rotate_left
  · intro w'
    go_simp
    with_reducible rfl
  rotate_left
  · simp only [Act.put, List.setIfInBounds_toArray, List.set_cons_zero, List.set_cons_succ, aq, ar]
    rfl
  obtain ⟨x0, x1, g0, g1⟩ := eM HN7.out j HJ.out
  refine fz (i := 11) (N := none) #[true, true, true, true, true, true, true, true, true, true, true, true] rfl rfl (bB HT_.out (by kernel_rfl)) (by decide) (fun K hK => ?_)
  refine dF (w1 := w7.setCell ⟨gr, j * 4 + 1, none⟩ (.int .i64 1)) rfl rfl (by first | (go_simp; done) | (go_simp; rfl)) ?_
  obtain ⟨w8, hw8⟩ : ∃ w8, w7.setCell ⟨gr, j * 4 + 1, none⟩ (.int .i64 1) = w8 := ⟨_, rfl⟩
  rw [hw8]
  have HN8 := Aside0.mk (hw8 ▸ put1 HN7.out j HJ.out 1 : Kd.N k49 49 w8 w3.heap.size (fun k => k ≠ gq) (.slice (some ⟨gr, 0, none⟩) rs.length c5) _)
  have HB8 := Aside0.mk (hw8 ▸ aa HB7.out hgr : Below w3.heap.size w3 w8)
  have HQ8 := Aside0.mk (hw8 ▸ aU HQ7.out (fun e => HNE.out (by rw [e]; rfl)) _ : w8.heap[gq]? = some (.cells #[.slice A0 ds.length c0, .slice (some ⟨gr, 0, none⟩) rs.length c5] 25 (0, 0)))
  clear hw8 x0 x1 g0 g1
  rw [set_get rs j HJ.out rfl rfl] at HN8
  refine hK.out _ _ ⟨(a7 HQ8.out 0).trans rfl, (a7 HQ8.out 1).trans rfl⟩ (fun hHeld => ?_)
  clear hK K
  refine fX (cK HT_.out (by kernel_rfl)) ?_
  clear hHeld HT_ HB6 HN6 HN6d HQ6 HN7 HB7 HQ7 y0 y1
  have y0 : w8.cell? ⟨gq, 0, none⟩ = some (.slice A0 ds.length c0) := (a7 HQ8.out 0).trans rfl
  have y1 : w8.cell? ⟨gq, 1, none⟩ = some (.slice (some ⟨gr, 0, none⟩) rs.length c5) := (a7 HQ8.out 1).trans rfl
  have hcs : rs.length ≤ c5 := (Kd.N_reads' HN8.out).2.1
  have HCS := Aside0.mk hcs
  have HC8 : Kd.C k49 w8 (some ⟨gr, 0, none⟩) rs.length (toR rs j 3 1) := by have h := (Kd.N_reads' HN8.out).2.2; rw [toR_len] at h; exact h
  have HC8 := Aside0.mk HC8
  clear hcs
  go_upto_region 12 with (go_at_call 15; refine (HS2.out w8 (some ⟨gr, 0, none⟩) c5 (HB3.out.trans (HB8.out.mono HB3.out.size)) HC8.out HCS.out).mono ?_; rintro e w9 ⟨v9, rfl, ho, hb⟩; obtain ⟨A9, c9, hv9⟩ := Kd.R_slice ho; subst hv9; have HO9 := Aside0.mk ho; have HB9 := Aside0.mk (HB8.out.trans (hb.mono HB8.out.size)); have HN9 := Aside0.mk (Kd.N_below HN8.out hb); have HQ9 := Aside0.mk (ae HQ8.out hb); clear ho hb)
  clear y0 y1
  have HN9d := Aside0.mk (Kd.N_drew HN9.out)
  have hjt : j < (toR rs j 3 1).length := by rw [toR_len]; exact HJ.out
  have HJT := Aside0.mk hjt
  clear hjt
  obtain ⟨x0, x1, g0, g1⟩ := eM HN9d.out j HJ.out
  have y0 : w9.cell? ⟨gq, 0, none⟩ = some (.slice A0 ds.length c0) := (a7 HQ9.out 0).trans rfl
  have y1 : w9.cell? ⟨gq, 1, none⟩ = some (.slice (some ⟨gr, 0, none⟩) rs.length c5) := (a7 HQ9.out 1).trans rfl
  have yd0 : w9.drew.cell? ⟨gq, 0, none⟩ = some (.slice A0 ds.length c0) := y0
  have yd1 : w9.drew.cell? ⟨gq, 1, none⟩ = some (.slice (some ⟨gr, 0, none⟩) rs.length c5) := y1
  refine dT (n := 12) (S := fun w' => w'.cell? ⟨gq, 0, none⟩ = some (.slice A0 ds.length c0) ∧ w'.cell? ⟨gq, 1, none⟩ = some (.slice (some ⟨gr, 0, none⟩) rs.length c5)) (ds := []) #[false, false, false, false, false, false, false, false, false, false, false, false] (by kernel_rfl) rfl rfl ⟨yd0, yd1⟩ (fun hHeld => ?_)
  refine cU tab12 (fun HT_ => ?_)
  refine bc (i := 0) (N := some 73) (v := ?_) (a' := ?_) #[true, false, false, false, false, false, false, false, false, false, false, false] rfl rfl (aH HT_.out (by kernel_rfl)) (fun _ _ _ h => h) (Or.inl ⟨by rfl, ?_⟩) ?_ ?_
  rotate_left
  · intro w'
    go_simp
    with_reducible rfl
  rotate_left
  · simp only [Act.put, List.setIfInBounds_toArray, List.set_cons_zero, List.set_cons_succ, aq, ar]
    rfl
  refine bc (i := 3) (N := some 76) (v := ?_) (a' := ?_) #[true, false, false, true, false, false, false, false, false, false, false, false] rfl rfl (aH HT_.out (by kernel_rfl)) (fun _ _ _ h => h) (Or.inl ⟨by rfl, ?_⟩) ?_ ?_
  rotate_left
  · intro w'
    go_simp
    with_reducible rfl
  rotate_left
  · simp only [Act.put, List.setIfInBounds_toArray, List.set_cons_zero, List.set_cons_succ, aq, ar]
    rfl
  refine take_ (i := 1) (N := some 74) (v := ?_) (a' := ?_) #[true, true, false, true, false, false, false, false, false, false, false, false] rfl rfl (bE HT_.out (by kernel_rfl)) (fun _ _ _ h => h) (Or.inl ⟨by rfl, ?_⟩) hHeld ?_ ?_
  rotate_left
  · rintro w' ⟨s0, s1⟩
    go_simp
    with_reducible rfl
  rotate_left
  · simp only [Act.put, List.setIfInBounds_toArray, List.set_cons_zero, List.set_cons_succ, aq, ar]
    rfl
  refine bc (i := 2) (N := some 75) (v := ?_) (a' := ?_) #[true, true, true, true, false, false, false, false, false, false, false, false] rfl rfl (aH HT_.out (by kernel_rfl)) (fun _ _ _ h => h) (Or.inl ⟨by rfl, ?_⟩) ?_ ?_
  rotate_left
  · intro w'
    go_simp
    with_reducible rfl
  rotate_left
  · simp only [Act.put, List.setIfInBounds_toArray, List.set_cons_zero, List.set_cons_succ, aq, ar]
    rfl
  refine take_ (i := 4) (N := some 77) (v := ?_) (a' := ?_) #[true, true, true, true, true, false, false, false, false, false, false, false] rfl rfl (bE HT_.out (by kernel_rfl)) (fun _ _ _ h => h) (Or.inl ⟨by rfl, ?_⟩) hHeld ?_ ?_
  rotate_left
  · rintro w' ⟨s0, s1⟩
    go_simp
    with_reducible rfl
  rotate_left
  · simp only [Act.put, List.setIfInBounds_toArray, List.set_cons_zero, List.set_cons_succ, aq, ar]
    rfl
  refine bc (i := 5) (N := some 78) (v := ?_) (a' := ?_) #[true, true, true, true, true, true, false, false, false, false, false, false] rfl rfl (aH HT_.out (by kernel_rfl)) (fun _ _ _ h => h) (Or.inl ⟨by rfl, ?_⟩) ?_ ?_
  rotate_left
  · intro w'
    go_simp
    with_reducible rfl
  rotate_left
  · simp only [Act.put, List.setIfInBounds_toArray, List.set_cons_zero, List.set_cons_succ, aq, ar]
    rfl
  refine bc (i := 6) (N := some 79) (v := ?_) (a' := ?_) #[true, true, true, true, true, true, true, false, false, false, false, false] rfl rfl (aH HT_.out (by kernel_rfl)) (fun _ _ _ h => h) (Or.inl ⟨by rfl, ?_⟩) ?_ ?_
  rotate_left
  · intro w'
    go_simp
    with_reducible rfl
  rotate_left
  · simp only [Act.put, List.setIfInBounds_toArray, List.set_cons_zero, List.set_cons_succ, aq, ar]
    rfl
  refine bc (i := 7) (N := some 80) (v := ?_) (a' := ?_) #[true, true, true, true, true, true, true, true, false, false, false, false] rfl rfl (aH HT_.out (by kernel_rfl)) (fun _ _ _ h => h) (Or.inl ⟨by rfl, ?_⟩) ?_ ?_
  rotate_left
  · intro w'
    go_simp
    with_reducible rfl
  rotate_left
  · simp only [Act.put, List.setIfInBounds_toArray, List.set_cons_zero, List.set_cons_succ, aq, ar]
    rfl
  refine fz (i := 8) (N := none) #[true, true, true, true, true, true, true, true, true, false, false, false] rfl rfl (bB HT_.out (by kernel_rfl)) (by decide) (fun K hK => ?_)
  refine dF (w1 := w9.drew.setCell ⟨gr, j * 4, none⟩ (.int .i64 4)) rfl rfl (by first | (go_simp; done) | (go_simp; rfl)) ?_
  obtain ⟨wa, hwa⟩ : ∃ wa, w9.drew.setCell ⟨gr, j * 4, none⟩ (.int .i64 4) = wa := ⟨_, rfl⟩
  rw [hwa]
  have HNa := Aside0.mk (hwa ▸ put0 HN9d.out j HJ.out 4 : Kd.N k49 49 wa w3.heap.size (fun k => k ≠ gq) (.slice (some ⟨gr, 0, none⟩) rs.length c5) _)
  have HBa := Aside0.mk (hwa ▸ aa (a5 HB9.out) hgr : Below w3.heap.size w3 wa)
  have HQa := Aside0.mk (hwa ▸ aU (ac HQ9.out) (fun e => HNE.out (by rw [e]; rfl)) _ : wa.heap[gq]? = some (.cells #[.slice A0 ds.length c0, .slice (some ⟨gr, 0, none⟩) rs.length c5] 25 (0, 0)))
  have hwa9 := hwa
  clear hwa x0 x1 g0 g1 yd0 yd1
  refine hK.out _ _ ⟨(a7 HQa.out 0).trans rfl, (a7 HQa.out 1).trans rfl⟩ (fun hHeld => ?_)
  clear hK K
  refine bc (i := 9) (N := some 81) (v := ?_) (a' := ?_) #[true, true, true, true, true, true, true, true, true, true, false, false] rfl rfl (aH HT_.out (by kernel_rfl)) (fun _ _ _ h => h) (Or.inl ⟨by rfl, ?_⟩) ?_ ?_
  rotate_left
  · intro w'
    go_simp
    with_reducible rfl
  rotate_left
  · simp only [Act.put, List.setIfInBounds_toArray, List.set_cons_zero, List.set_cons_succ, aq, ar]
    rfl
  refine bc (i := 10) (N := some 82) (v := ?_) (a' := ?_) #[true, true, true, true, true, true, true, true, true, true, true, false] rfl rfl (aH HT_.out (by kernel_rfl)) (fun _ _ _ h => h) (Or.inl ⟨by rfl, ?_⟩) ?_ ?_
  rotate_left
  · intro w'
    go_simp
    with_reducible rfl
  rotate_left
  · simp only [Act.put, List.setIfInBounds_toArray, List.set_cons_zero, List.set_cons_succ, aq, ar]
    rfl
  obtain ⟨x0, x1, g0, g1⟩ := eM HNa.out j HJ.out
  refine fz (i := 11) (N := none) #[true, true, true, true, true, true, true, true, true, true, true, true] rfl rfl (bB HT_.out (by kernel_rfl)) (by decide) (fun K hK => ?_)
  refine dF (w1 := wa.setCell ⟨gr, j * 4 + 1, none⟩ (.int .i64 0)) rfl rfl (by first | (go_simp; done) | (go_simp; rfl)) ?_
  obtain ⟨wb, hwb⟩ : ∃ wb, wa.setCell ⟨gr, j * 4 + 1, none⟩ (.int .i64 0) = wb := ⟨_, rfl⟩
  rw [hwb]
  have HNb := Aside0.mk (hwb ▸ put1 HNa.out j HJ.out 0 : Kd.N k49 49 wb w3.heap.size (fun k => k ≠ gq) (.slice (some ⟨gr, 0, none⟩) rs.length c5) _)
  have HBb := Aside0.mk (hwb ▸ aa HBa.out hgr : Below w3.heap.size w3 wb)
  have HQb := Aside0.mk (hwb ▸ aU HQa.out (fun e => HNE.out (by rw [e]; rfl)) _ : wb.heap[gq]? = some (.cells #[.slice A0 ds.length c0, .slice (some ⟨gr, 0, none⟩) rs.length c5] 25 (0, 0)))
  have hgl8 := Kd.N_lt HN8.out gr rfl
  have hOb : (Kd.int .i64).R 3 wb w8.heap.size (fun k => w8.heap.size ≤ k) (.slice A9 y.length c9) y := by
    rw [← hwb, ← hwa9]
    exact Kd.R_far (Kd.R_far (Kd.R_drew (Kd.R_mono (Kd.R_bound HO9.out) (fun k hk => hk.2.1))) (p := ⟨gr, j * 4, none⟩) (fun k hk => by show k ≠ gr; omega) (.int .i64 4)) (p := ⟨gr, j * 4 + 1, none⟩) (fun k hk => by show k ≠ gr; omega) (.int .i64 0)
  have HOb := Aside0.mk hOb
  clear hOb
  clear hwb hwa9 hgl8 x0 x1 g0 g1
  rw [set_get (toR rs j 3 1) j HJT.out rfl rfl, toR_toR rs j HJ.out] at HNb
  refine hK.out _ _ ⟨(a7 HQb.out 0).trans rfl, (a7 HQb.out 1).trans rfl⟩ (fun hHeld => ?_)
  clear hK K
  refine fX (cK HT_.out (by kernel_rfl)) ?_
  clear hHeld HT_ HN9d HNa HBa HQa y0 y1
  have y0 : wb.cell? ⟨gq, 0, none⟩ = some (.slice A0 ds.length c0) := (a7 HQb.out 0).trans rfl
  have y1 : wb.cell? ⟨gq, 1, none⟩ = some (.slice (some ⟨gr, 0, none⟩) rs.length c5) := (a7 HQb.out 1).trans rfl
  have HCb : Kd.C k49 wb (some ⟨gr, 0, none⟩) rs.length (toR rs j 4 0) := by have h := (Kd.N_reads' HNb.out).2.2; rw [toR_len] at h; exact h
  have HCb := Aside0.mk HCb
  have HXL := Aside0.mk (HEND.out)
  go_upto_region 14 with (go_at_call 15; refine (HS3.out wb (some ⟨gr, 0, none⟩) c5 (HB3.out.trans (HBb.out.mono HB3.out.size)) HCb.out HCS.out).mono ?_; rintro e wc ⟨vc, rfl, ho, hb⟩; obtain ⟨Ac, cc, hvc⟩ := Kd.R_slice ho; subst hvc; have HOc := Aside0.mk ho; have HBc := Aside0.mk (HBb.out.trans (hb.mono HBb.out.size)); have HCx := Aside0.mk (Kd.C_below (Kd.R_reads' HO3.out).2.2 HBc.out); have HCy := Aside0.mk (Kd.C_below (Kd.R_reads' HOb.out).2.2 hb); clear ho hb)
  clear y0 y1
  clear HC8 HCb HB8 HNb HN8 HN9 HQ8 HQ9 HQb HCS
  cases was with
  | false =>
    clear HEND HXL HBF
    cases ok
    all_goals
      go_upto_region 16 with (go_at_call 19; refine (HSM.out wc A3 c3 A9 c9 HCx.out (Kd.R_reads' HO3.out).2.1 HCy.out (Kd.R_reads' HO9.out).2.1).mono ?_; rintro e wd ⟨rfl, hb⟩; have HBd := Aside0.mk (HBc.out.trans (hb.mono HBc.out.size)); clear hb)
      go_wp2_with (fail)
      go_ret
      exact ⟨by first | rfl | simp, HB3.out.trans (HBd.out.mono HB3.out.size)⟩
  | true =>
    obtain ⟨rfl, hzx⟩ := HEND.out rfl
    have HBF2 := Aside0.mk (HBF.out rfl)
    have HZX := Aside0.mk (show ((z.length : Int) == (x.length : Int)) = true by rw [hzx]; simp)
    clear HEND HXL HBF hzx
    go_upto_region 16 with (go_at_call 19; refine (HSM.out wc A3 c3 A9 c9 HCx.out (Kd.R_reads' HO3.out).2.1 HCy.out (Kd.R_reads' HO9.out).2.1).mono ?_; rintro e wd ⟨rfl, hb⟩; have HBd := Aside0.mk (HBc.out.trans (hb.mono HBc.out.size)); have HCz := Aside0.mk (Kd.C_below (Kd.R_reads' HOc.out).2.2 hb); have HCx2 := Aside0.mk (Kd.C_below HCx.out hb); clear hb)
    have e1 := HZX.out
    go_wp2_with (go_at_call 27; refine (HBF2.out wd Ac cc A3 c3 HCz.out (Kd.R_reads' HOc.out).2.1 HCx2.out (Kd.R_reads' HO3.out).2.1).mono ?_; rintro e we ⟨rfl, hb⟩; have HBe := Aside0.mk (HBd.out.trans (hb.mono HBd.out.size)); clear hb)
    go_ret
    exact ⟨by first | rfl | simp, HB3.out.trans (HBe.out.mono HB3.out.size)⟩
def fi (a : Int) (rs : List S49) : Nat := a.toNat % rs.length
theorem fi_lt (a : Int) {rs : List S49} (h : 0 < rs.length) : fi a rs < rs.length := Nat.mod_lt _ h
theorem fi_rest {a : Int} (h0 : 0 ≤ a) (h1 : a ≤ 255) {rs : List S49} (h : 0 < rs.length) : Int.tmod (wrap64 a) (rs.length : Int) = (fi a rs : Int) ∧ (wrap64 a) % (rs.length : Int) = (fi a rs : Int) := by
  have hw : wrap64 a = a := by unfold wrap64; omega
  have e : a % (rs.length : Int) = (fi a rs : Int) := by
    unfold fi
    rw [Int.natCast_emod, Int.toNat_of_nonneg h0]
  rw [hw, Int.tmod_eq_emod_of_nonneg h0]
  exact ⟨e, e⟩
end LK
def fastilaw15_SearchKinds.f (k : Nat) (ds : List (List Int)) (rs : List S49) (a : Int) : Option Bool :=
  (fastiref15_Few.f k ds rs).bind fun b => if b = false ∨ rs.length = 0 then some true else if 0 ≤ a ∧ a ≤ 255 then (search_Solve.f k ds rs).bind fun s => if s.2.2 ≠ 0 ∨ (rs.getD (LK.fi a rs) z49).f0 ≠ 2 then some true else
    if rs.length ≤ 200 then (search_Solve.f k ds (LK.toR rs (LK.fi a rs) 3 1)).bind fun t => (search_Solve.f k ds (LK.toR rs (LK.fi a rs) 4 0)).bind fun u => if t.2.2 = 0 ∧ u.2.2 = 0 ∧ t.2.1 = s.2.1 then (fastiref15_SameInts.f k s.1 t.1).bind fun m => if m = true then
      (if u.2.1 = false then some true else if s.2.1 = true ∧ u.1.length = s.1.length then (fastilaw15_before.f k u.1 s.1).bind fun z => some (!z) else some false) else some false else some false else none else none
theorem fastilaw15_SearchKinds.calls (k : Nat) (aC : Option Addr) (aA : Nat) (ai : List (List Int)) (aI : Option Addr) (au : Nat) (af : List (S49)) (a1 : Int) (r : Bool) (w : World) (bA : Kd.C (Kd.slice 3 (Kd.int .i64)) w aC ai.length ai) (bJ : ai.length ≤ aA) (bx : Kd.C k49 w aI af.length af) (bC : af.length ≤ au) (hrt : r = true) (h : fastilaw15_SearchKinds.f k ai af a1 = some r) :
    Calls Try.prog 10 #[.agg #[.slice aC ai.length aA, .slice aI af.length au], .int .u8 a1] w fun e w' => e = .returned (.bool r) ∧ Below w.heap.size w w' := by
  subst hrt
  unfold fastilaw15_SearchKinds.f at h
  obtain ⟨b, hb, h⟩ := Option.bind_eq_some_iff.mp h
  have hF : ∀ W, Below w.heap.size w W → Calls Try.prog 12 #[.agg #[.slice aC ai.length aA, .slice aI af.length au]] W fun e w' => e = .returned (.bool b) ∧ Below W.heap.size W w' := fun W hW =>
    fastiref15_Few.calls k _ _ ai _ _ af b W (Kd.C_below bA hW) bJ (Kd.C_below bx hW) bC hb
  split at h
  · rename_i hno
    exact LK.kinds_few aC aA ai aI au af a1 w b hF hno
  · rename_i hyes
    obtain rfl : b = true := Decidable.byContradiction fun hn => hyes (.inl (by simpa using hn))
    have hpos : 0 < af.length := Nat.pos_of_ne_zero fun h0 => hyes (.inr h0)
    split at h
    · rename_i hg
      obtain ⟨ej, ej2⟩ := LK.fi_rest hg.1 hg.2 hpos
      have hj := LK.fi_lt a1 hpos
      obtain ⟨ad, A2, c2, A3, c3, rfl, hx, -⟩ := dH bx (LK.fi a1 af : Int) (by omega) (by omega)
      rw [Int.toNat_natCast] at hx
      have hrd : ag af (LK.fi a1 af : Int) = af.getD (LK.fi a1 af) z49 := by simp [ag]
      rw [hrd] at hx
      obtain ⟨⟨x, ok, e0⟩, hs, h⟩ := Option.bind_eq_some_iff.mp h
      have hS : ∀ W, Below w.heap.size w W → Calls Try.prog 15 #[.agg #[.slice aC ai.length aA, .slice (some ad) af.length au]] W fun e w' => ∃ v, e = .returned (.tuple #[v, .bool ok, .int .i64 e0]) ∧ Kd.R (Kd.int .i64) 3 w' W.heap.size (fun _ => True) v x ∧ Below W.heap.size W w' := fun W hW =>
        search_Solve.calls k _ _ ai _ _ af x ok e0 W (Kd.C_below bA hW) bJ (Kd.C_below bx hW) bC hs
      simp only at h
      split at h
      · rename_i hno
        exact LK.kinds_none aC aA ai ad au af a1 w x ok e0 _ (LK.fi a1 af) hj ej ej2 hx hF hS hno
      · rename_i hyes2
        obtain rfl : e0 = 0 := Decidable.byContradiction fun hn => hyes2 (.inl hn)
        have hk2 : (af.getD (LK.fi a1 af) z49).f0 = 2 := Decidable.byContradiction fun hn => hyes2 (.inr hn)
        rw [hk2] at hx
        split at h
        · rename_i hrl
          obtain ⟨⟨y, ok2, e2⟩, hs2, h⟩ := Option.bind_eq_some_iff.mp h
          replace h := Option.bind_eq_some_iff.mp h
          obtain ⟨⟨z, was, e3⟩, hs3, h⟩ := h
          by_cases hq : e2 = 0 ∧ e3 = 0 ∧ ok2 = ok
          · replace h := (if_pos (show (y, ok2, e2).2.2 = 0 ∧ (z, was, e3).2.2 = 0 ∧ (y, ok2, e2).2.1 = ok from hq)).symm.trans h
            obtain ⟨rfl, rfl, rfl⟩ := hq
            replace h := Option.bind_eq_some_iff.mp h
            obtain ⟨m, hm, h⟩ := h
            by_cases hmt : m = true
            · rw [if_pos hmt] at h
              subst hmt
              have hend : was = true → ok2 = true ∧ z.length = x.length := by
                intro hwas
                subst hwas
                rw [if_neg (by simp)] at h
                split at h
                · assumption
                · cases h
              have hbef : was = true → fastilaw15_before.f k z x = some false := by
                intro hwas
                have he := hend hwas
                subst hwas
                rw [if_neg (by simp), if_pos he] at h
                obtain ⟨q, hq, h⟩ := Option.bind_eq_some_iff.mp h
                obtain rfl : q = false := by simpa using h
                exact hq
              exact LK.kinds_yes aC aA ai ad au af a1 w x y z ok2 was (LK.fi a1 af) hj ej ej2 hrl hx bx hF hS
                (fun W A c hW hC hc => by have := search_Solve.calls k _ _ ai A c _ y ok2 0 W (Kd.C_below bA hW) bJ (by rw [LK.toR_len]; exact hC) (by rw [LK.toR_len]; exact hc) hs2; rw [LK.toR_len] at this; exact this)
                (fun W A c hW hC hc => by have := search_Solve.calls k _ _ ai A c _ z was 0 W (Kd.C_below bA hW) bJ (by rw [LK.toR_len]; exact hC) (by rw [LK.toR_len]; exact hc) hs3; rw [LK.toR_len] at this; exact this)
                (fun W A c A' c' hC hc hC' hc' => (fastiref15_SameInts.calls k _ _ x _ _ y true W hC hc hC' hc' hm).mono fun e w' h => ⟨h.1, h.2.below⟩) hend
                (fun hwas W A c A' c' hC hc hC' hc' => (fastilaw15_before.calls k _ _ z _ _ x false W hC hc hC' hc' (hbef hwas)).mono fun e w' h => ⟨h.1, h.2.below⟩)
            · rw [if_neg hmt] at h
              cases h
          · replace h := (if_neg (show ¬ ((y, ok2, e2).2.2 = 0 ∧ (z, was, e3).2.2 = 0 ∧ (y, ok2, e2).2.1 = ok) from hq)).symm.trans h
            cases h
        · cases h
    · cases h
end Go.Proofs.Ytcbpkdemcdikaaa.X
namespace Go.Proofs.Ytcbpkdemcdikaaa.X
open Go.RowKit Go.Proofs.YtcbpkdemcdikaaaW.PrintWords Go.Proofs.YtcbpkdemcdikaaaW.PrintLast Go.Proofs.YtcbpkdemcdikaaaW.PrintMore
attribute [local go_sem] ay az aN aM ao ap aw ax   
set_option linter.unusedVariables false
set_option linter.unusedSimpArgs false
end Go.Proofs.Ytcbpkdemcdikaaa.X
namespace Go.Proofs.Ytcbpkdemcdikaaa.QR
open Go.RowKit Go.Proofs.Ytcbpkdemcdikaaa.X Go.Proofs.Ytcbpkdemcdikaaa.X.SF Go.Proofs.Ytcbpkdemcdikaaa.X.DF Go.Proofs.Ytcbpkdemcdikaaa.K Go.Proofs.YtcbpkdemcdikaaaW.PrintWords Go.Proofs.Ytcbpkdemcdikaaa.QB Go.Proofs.Ytcbpkdemcdikaaa.QC Go.Proofs.Ytcbpkdemcdikaaa.QP Go.Proofs.Ytcbpkdemcdikaaa.QK Go.Proofs.Ytcbpkdemcdikaaa.QS Go.Proofs.Ytcbpkdemcdikaaa.QX
set_option linter.unusedVariables false
set_option linter.unusedSimpArgs false
theorem solR_zero {ds : M} {rs : List S49} (h : (gb ds rs).2.2 = 0) : chk ds rs = 0 := by
  unfold gb at h
  split at h
  · assumption
  · exact h
theorem sol_mono {ds : M} {rs rs' : List S49} (hd : ∀ d ∈ ds, fI d = true) (hp : Pos rs') (hm : ∀ x, badB rs x = false → badB rs' x = false) (hn : badB rs [] = false) {x : List Int} (h : sol (badB rs) ds [] = some x) :
    ∃ y, sol (badB rs') ds [] = some y ∧ bef x y = false := by
  obtain ⟨h1, h2⟩ := gc (badB rs) ds [] x h hn
  exact sol_least rs' hp ds [] x (fun d hd' => dom_asc (hd d hd')) h1 (hm x h2)
end Go.Proofs.Ytcbpkdemcdikaaa.QR
namespace Go.Proofs.Ytcbpkdemcdikaaa.X
open Go.RowKit Go.Proofs.YtcbpkdemcdikaaaW.PrintWords Go.Proofs.YtcbpkdemcdikaaaW.PrintLast Go.Proofs.YtcbpkdemcdikaaaW.PrintMore
attribute [local go_sem] ay az aN aM ao ap aw ax   
set_option linter.unusedVariables false
set_option linter.unusedSimpArgs false
end Go.Proofs.Ytcbpkdemcdikaaa.X
namespace Go.Proofs.Ytcbpkdemcdikaaa.QY
open Go.RowKit Go.Proofs.Ytcbpkdemcdikaaa.X Go.Proofs.Ytcbpkdemcdikaaa.X.SF Go.Proofs.Ytcbpkdemcdikaaa.X.DF Go.Proofs.Ytcbpkdemcdikaaa.K Go.Proofs.YtcbpkdemcdikaaaW.PrintWords Go.Proofs.Ytcbpkdemcdikaaa.QB Go.Proofs.Ytcbpkdemcdikaaa.QX
set_option linter.unusedVariables false
set_option linter.unusedSimpArgs false
theorem bef_drop (a b : List Int) : ∀ m i : Nat, i + m = a.length → a.length ≤ 4096 → Ev (fun k => fastilaw15_before.l0 k a b (i : Int)) (bef (a.drop i) (b.drop i)) := by
  intro m
  induction m with
  | zero =>
    intro i hi hl
    have e : bef (a.drop i) (b.drop i) = false := by rw [List.drop_of_length_le (by omega)]; rfl
    rw [e]
    refine Ev.step (f := fun k => fastilaw15_before.j1 k a b (i : Int) false) (fun k => ?_) (Ev.eq fun k => rfl)
    simp only [fastilaw15_before.l0]
    rw [if_neg (by omega)]
  | succ m ih =>
    intro i hi hl
    have hil : i < a.length := by omega
    by_cases hb : i < b.length
    · have e : bef (a.drop i) (b.drop i) = if rd a (i : Int) = rd b (i : Int) then bef (a.drop (i + 1)) (b.drop (i + 1)) else decide (rd a (i : Int) < rd b (i : Int)) := by rw [drop_rd hil, drop_rd hb]; rfl
      rw [e]
      refine Ev.step (f := fun k => fastilaw15_before.j1 k a b (i : Int) true) (fun k => ?_) ?_
      · simp only [fastilaw15_before.l0]
        rw [if_pos (by omega), decide_eq_true (by omega)]
      · by_cases hab : rd a (i : Int) = rd b (i : Int)
        · rw [if_pos hab]
          refine Ev.step (f := fun k => fastilaw15_before.l0 k a b (wrap64 ((i : Int) + 1))) (fun k => ?_) (by rw [w64s i (by omega)]; exact ih (i + 1) (by omega) hl)
          simp only [fastilaw15_before.j1, if_true]
          rw [if_pos (by omega), if_pos (by omega), if_pos (by omega), if_pos hab]
        · rw [if_neg hab]
          refine Ev.eq fun k => ?_
          simp only [fastilaw15_before.j1, if_true]
          rw [if_pos (by omega), if_pos (by omega), if_pos (by omega), if_neg hab]
    · have e : bef (a.drop i) (b.drop i) = false := by
        rw [List.drop_of_length_le (show b.length ≤ i by omega)]
        cases a.drop i <;> rfl
      rw [e]
      refine Ev.step (f := fun k => fastilaw15_before.j1 k a b (i : Int) false) (fun k => ?_) (Ev.eq fun k => rfl)
      simp only [fastilaw15_before.l0]
      rw [if_pos (by omega), decide_eq_false (by omega)]
theorem before_f (a b : List Int) (hl : a.length ≤ 4096) : Ev (fun k => fastilaw15_before.f k a b) (bef a b) := bef_drop a b a.length 0 (by omega) hl
end Go.Proofs.Ytcbpkdemcdikaaa.QY
namespace Go.Proofs.Ytcbpkdemcdikaaa.Pure
open Go.RowKit Go.Proofs.Ytcbpkdemcdikaaa.X Go.Proofs.Ytcbpkdemcdikaaa.X.SF Go.Proofs.Ytcbpkdemcdikaaa.X.DF Go.Proofs.Ytcbpkdemcdikaaa.K Go.Proofs.YtcbpkdemcdikaaaW.PrintWords Go.Proofs.Ytcbpkdemcdikaaa.QB Go.Proofs.Ytcbpkdemcdikaaa.QC Go.Proofs.Ytcbpkdemcdikaaa.QP Go.Proofs.Ytcbpkdemcdikaaa.QK Go.Proofs.Ytcbpkdemcdikaaa.QS Go.Proofs.Ytcbpkdemcdikaaa.QX Go.Proofs.Ytcbpkdemcdikaaa.QY
set_option linter.unusedVariables false
set_option linter.unusedSimpArgs false
end Go.Proofs.Ytcbpkdemcdikaaa.Pure
namespace Go.Proofs.Ytcbpkdemcdikaaa.QZ
open Go.RowKit Go.Proofs.Ytcbpkdemcdikaaa.X Go.Proofs.Ytcbpkdemcdikaaa.X.SF Go.Proofs.Ytcbpkdemcdikaaa.X.DF Go.Proofs.Ytcbpkdemcdikaaa.K Go.Proofs.YtcbpkdemcdikaaaW.PrintWords Go.Proofs.Ytcbpkdemcdikaaa.QB Go.Proofs.Ytcbpkdemcdikaaa.QC Go.Proofs.Ytcbpkdemcdikaaa.QP Go.Proofs.Ytcbpkdemcdikaaa.QK Go.Proofs.Ytcbpkdemcdikaaa.QS Go.Proofs.Ytcbpkdemcdikaaa.QX Go.Proofs.Ytcbpkdemcdikaaa.QR
set_option linter.unusedVariables false
set_option linter.unusedSimpArgs false
theorem cut_at {rs : List S49} {j : Nat} (hj : j < rs.length) : rs = rs.take j ++ rs.getD j z49 :: rs.drop (j + 1) := by
  rw [dz hj, ← fD hj, List.take_append_drop]
theorem toR_at {rs : List S49} {j : Nat} (hj : j < rs.length) (a b : Int) : LK.toR rs j a b = rs.take j ++ ⟨a, b, (rs.getD j z49).f2, (rs.getD j z49).f3⟩ :: rs.drop (j + 1) := by
  unfold LK.toR
  rw [List.set_eq_take_append_cons_drop, if_pos hj]
theorem toR_mem {rs : List S49} {j : Nat} (hj : j < rs.length) {a b : Int} {r : S49} (h : r ∈ LK.toR rs j a b) : r ∈ rs ∨ r = ⟨a, b, (rs.getD j z49).f2, (rs.getD j z49).f3⟩ := by
  rw [toR_at hj] at h
  rcases List.mem_append.1 h with h | h
  · exact .inl (List.mem_of_mem_take h)
  · rcases List.mem_cons.1 h with h | h
    · exact .inr h
    · exact .inl (List.mem_of_mem_drop h)
theorem valid_two {r : S49} {n : Int} (h : validB r n = true) (hk : r.f0 = 2) : ¬ r.f2.length = 0 ∧ varsB r.f2 n = true ∧ r.f3.length = 0 ∧ r.f1 = 0 := by
  unfold validB at h
  rw [hk] at h
  by_cases h0 : r.f2.length = 0
  · rw [if_pos h0] at h; cases h
  · rw [if_neg h0, if_neg (by omega)] at h
    cases hv : varsB r.f2 n
    · rw [hv, if_pos rfl] at h; cases h
    · rw [hv, if_neg (by simp), if_neg (by omega)] at h
      by_cases h1 : 0 < r.f3.length
      · rw [if_pos ⟨by omega, h1⟩] at h; cases h
      · rw [if_neg (fun hh => h1 hh.2)] at h
        simp only [Bool.and_eq_true, decide_eq_true_eq] at h
        exact ⟨h0, rfl, by omega, h.1⟩
theorem valid_new {r : S49} {n : Int} (h : validB r n = true) (hk : r.f0 = 2) {a b : Int} (hab : (a = 3 ∧ b = 1) ∨ (a = 4 ∧ b = 0)) : validB ⟨a, b, r.f2, r.f3⟩ n = true := by
  obtain ⟨h0, hv, h3, h1⟩ := valid_two h hk
  unfold validB
  simp only
  have e3 : r.f3 = [] := List.eq_nil_of_length_eq_zero h3
  rcases hab with ⟨rfl, rfl⟩ | ⟨rfl, rfl⟩
  · rw [if_neg h0, if_neg (by omega), hv, if_neg (by simp), if_pos rfl, e3]; rfl
  · rw [if_neg h0, if_neg (by omega), hv, if_neg (by simp), if_neg (by omega), e3]; simp
theorem chk_toR {ds : M} {rs : List S49} {j : Nat} (hj : j < rs.length) (h : chk ds rs = 0) (hk : (rs.getD j z49).f0 = 2) {a b : Int} (hab : (a = 3 ∧ b = 1) ∨ (a = 4 ∧ b = 0)) : chk ds (LK.toR rs j a b) = 0 := by
  have ho := chk_ok h
  have hjm : rs.getD j z49 ∈ rs := by rw [dz hj]; exact List.getElem_mem hj
  unfold chk at h ⊢
  have hs : longB ds rs = false := by
    cases hq : longB ds rs with
    | false => rfl
    | true => rw [hq, if_pos rfl] at h; omega
  have hs' : longB ds (LK.toR rs j a b) = false := by
    unfold longB at hs ⊢
    simp only [Bool.or_eq_false_iff, decide_eq_false_iff_not, List.any_eq_false] at hs ⊢
    refine ⟨⟨⟨hs.1.1.1, by rw [LK.toR_len]; exact hs.1.1.2⟩, hs.1.2⟩, fun r hr => ?_⟩
    rcases toR_mem hj hr with hr | rfl
    · exact hs.2 r hr
    · have := hs.2 _ hjm
      unfold cQ at this ⊢
      exact this
  rw [hs] at h
  rw [hs']
  simp only [Bool.false_eq_true, if_false] at h ⊢
  rw [if_neg (by have := ho.pos; omega), if_pos (List.all_eq_true.2 ho.dom)] at h ⊢
  rw [if_pos (List.all_eq_true.2 ho.val)] at h
  rw [if_pos (List.all_eq_true.2 fun r hr => ?_)]
  · exact h
  · rcases toR_mem hj hr with hr | rfl
    · exact ho.val r hr
    · exact valid_new (ho.val _ hjm) hk hab
theorem bad_at {rs : List S49} {j : Nat} (hj : j < rs.length) (x : List Int) : badB rs x = ((rs.take j).any (fun r => brokenB r x) || (brokenB (rs.getD j z49) x || (rs.drop (j + 1)).any (fun r => brokenB r x))) := by
  unfold badB
  conv => lhs; rw [cut_at hj]
  rw [List.any_append, List.any_cons]
theorem bad_toR {rs : List S49} {j : Nat} (hj : j < rs.length) (a b : Int) (x : List Int) : badB (LK.toR rs j a b) x = ((rs.take j).any (fun r => brokenB r x) || (brokenB ⟨a, b, (rs.getD j z49).f2, (rs.getD j z49).f3⟩ x || (rs.drop (j + 1)).any (fun r => brokenB r x))) := by
  unfold badB
  rw [toR_at hj, List.any_append, List.any_cons]
theorem three_two {r : S49} (hk : r.f0 = 2) (hp : ∀ k ∈ r.f2, 0 ≤ k) {x : List Int} (hx : ∀ v ∈ x, 0 ≤ v ∧ v ≤ 73048) : brokenB ⟨3, 1, r.f2, r.f3⟩ x = brokenB r x := by
  unfold brokenB
  simp only
  by_cases ha : r.f2.all (fun k => decide (k < (x.length : Int))) = true
  · rw [if_pos ha, if_pos ha]
    congr 1
    unfold fulfilB
    simp only [hk]
    rw [if_neg (by omega), if_neg (by omega), if_pos trivial, if_neg (by omega), if_pos trivial]
    have hv : ∀ v ∈ r.f2.map (rd x), 0 ≤ v ∧ v ≤ 73048 := fun v hv => by
      obtain ⟨k, hk', rfl⟩ := List.mem_map.1 hv
      have h0 := hp k hk'
      have h1 := of_decide_eq_true (List.all_eq_true.1 ha k hk')
      obtain ⟨n, rfl⟩ : ∃ n : Nat, k = (n : Int) := ⟨k.toNat, by omega⟩
      exact hx _ (rd_mem (by omega))
    refine noneB_congr fun p hp' q hq => ?_
    have h1 := hv p hp'
    have h2 := hv q hq
    rw [w64 (by omega) (by omega)]
    by_cases he : p = q
    · subst he
      simp
    · rw [decide_eq_false (by omega)]
      exact (beq_eq_false_iff_ne.2 he).symm
  · rw [if_neg ha, if_neg ha]
theorem four_two {r : S49} (hk : r.f0 = 2) {x : List Int} (h : brokenB ⟨4, 0, r.f2, r.f3⟩ x = false) : brokenB r x = false := by
  unfold brokenB at h ⊢
  simp only at h
  by_cases ha : r.f2.all (fun k => decide (k < (x.length : Int))) = true
  · rw [if_pos ha] at h ⊢
    unfold fulfilB at h ⊢
    simp only [hk] at h ⊢
    rw [if_neg (by omega), if_neg (by omega), if_neg (by omega)] at h
    rw [if_neg (by omega), if_pos trivial]
    simp only [Bool.not_eq_false'] at h ⊢
    unfold dZ at h ⊢
    rw [List.all_eq_true] at h ⊢
    intro i hi
    have h' := h i hi
    rw [List.all_eq_true] at h' ⊢
    intro j hj
    have h'' := h' j hj
    simp only [Bool.not_eq_true', decide_eq_false_iff_not, beq_eq_false_iff_ne, ne_eq] at h'' ⊢
    omega
  · rw [if_neg ha]
theorem sol_congr (b1 b2 : List Int → Bool) (hb : ∀ x : List Int, (∀ v ∈ x, 0 ≤ v ∧ v ≤ 73048) → b1 x = b2 x) : ∀ (ds : M) (x : List Int), (∀ d ∈ ds, ∀ v ∈ d, 0 ≤ v ∧ v ≤ 73048) → (∀ v ∈ x, 0 ≤ v ∧ v ≤ 73048) → sol b1 ds x = sol b2 ds x
  | [], _, _, _ => rfl
  | d :: ds, x, hd, hx => by
    rw [sol, sol]
    have key : ∀ l : List Int, (∀ v ∈ l, 0 ≤ v ∧ v ≤ 73048) → (l.findSome? fun v => if b1 (x ++ [v]) then none else sol b1 ds (x ++ [v])) = l.findSome? fun v => if b2 (x ++ [v]) then none else sol b2 ds (x ++ [v]) := by
      intro l
      induction l with
      | nil => intro _; rfl
      | cons v l ih =>
        intro hl
        have hxv : ∀ u ∈ x ++ [v], 0 ≤ u ∧ u ≤ 73048 := fun u hu => by
          rcases List.mem_append.1 hu with hu | hu
          · exact hx u hu
          · rw [List.mem_singleton.1 hu]; exact hl v (by simp)
        rw [List.findSome?_cons, List.findSome?_cons, hb _ hxv, sol_congr b1 b2 hb ds (x ++ [v]) (fun d' hd' => hd d' (by simp [hd'])) hxv, ih (fun u hu => hl u (by simp [hu]))]
    exact key d (hd d (by simp))
end Go.Proofs.Ytcbpkdemcdikaaa.QZ
namespace Go.Proofs.Ytcbpkdemcdikaaa.Pure
open Go.RowKit Go.Proofs.Ytcbpkdemcdikaaa.X Go.Proofs.Ytcbpkdemcdikaaa.X.SF Go.Proofs.Ytcbpkdemcdikaaa.X.DF Go.Proofs.Ytcbpkdemcdikaaa.K Go.Proofs.YtcbpkdemcdikaaaW.PrintWords Go.Proofs.Ytcbpkdemcdikaaa.QB Go.Proofs.Ytcbpkdemcdikaaa.QC Go.Proofs.Ytcbpkdemcdikaaa.QP Go.Proofs.Ytcbpkdemcdikaaa.QK Go.Proofs.Ytcbpkdemcdikaaa.QS Go.Proofs.Ytcbpkdemcdikaaa.QX Go.Proofs.Ytcbpkdemcdikaaa.QR Go.Proofs.Ytcbpkdemcdikaaa.QY Go.Proofs.Ytcbpkdemcdikaaa.QZ
set_option linter.unusedVariables false
set_option linter.unusedSimpArgs false
theorem SearchKinds (ai : List (List Int)) (af : List S49) (a1 : Int) (hw : (Lit.int .u8 a1).wf = true) : ∃ k, fastilaw15_SearchKinds.f k ai af a1 = some true := by
  have ha : 0 ≤ a1 ∧ a1 ≤ 255 := by
    have := hw
    simp [Lit.wf] at this
    have a : IntKind.u8.min = 0 := by decide
    have b : IntKind.u8.max = 255 := by decide
    omega
  refine Ev.rounds ?_
  unfold fastilaw15_SearchKinds.f
  obtain ⟨b, hb⟩ := few_ref ai af
  refine Ev.bind hb ?_
  by_cases hn : b = false ∨ af.length = 0
  · simp only [if_pos hn]
    exact Ev.now _
  · simp only [if_neg hn, if_pos ha]
    have hpos : 0 < af.length := Nat.pos_of_ne_zero fun h0 => hn (.inr h0)
    obtain ⟨j, hje⟩ : ∃ j, j = LK.fi a1 af := ⟨_, rfl⟩
    have hj : j < af.length := by rw [hje]; exact LK.fi_lt a1 hpos
    rw [← hje]
    refine Ev.bind (fb ai af) ?_
    by_cases hq : (gb ai af).2.2 ≠ 0 ∨ (af.getD j z49).f0 ≠ 2
    · simp only [if_pos hq]
      exact Ev.now _
    · have h0 : (gb ai af).2.2 = 0 := Decidable.byContradiction fun hh => hq (.inl hh)
      have hk : (af.getD j z49).f0 = 2 := Decidable.byContradiction fun hh => hq (.inr hh)
      have hc := solR_zero h0
      have h := chk_ok hc
      have hjm : af.getD j z49 ∈ af := by rw [dz hj]; exact List.getElem_mem hj
      have hc3 := chk_toR hj hc hk (a := 3) (b := 1) (.inl ⟨rfl, rfl⟩)
      have hc4 := chk_toR hj hc hk (a := 4) (b := 0) (.inr ⟨rfl, rfl⟩)
      simp only [if_neg hq, if_pos (show af.length ≤ 200 by have := h.rl; omega)]
      refine Ev.bind (fb ai _) (Ev.bind (fb ai _) ?_)
      have e3 : sol (badB (LK.toR af j 3 1)) ai [] = sol (badB af) ai [] := by
        refine sol_congr _ _ (fun x hx => ?_) ai [] (fun d hd v hv => dom_range (h.dom d hd) hv) (fun v hv => by cases hv)
        rw [bad_toR hj, bad_at hj, three_two hk (fun k hk' => ok_pos h _ hjm k hk') hx]
      have eS3 : gb ai (LK.toR af j 3 1) = gb ai af := by unfold gb; rw [if_pos hc, if_pos hc3, e3]
      have h4 : (gb ai (LK.toR af j 4 0)).2.2 = 0 := by unfold gb; rw [if_pos hc4]
      have hlx : (gb ai af).1.length ≤ 4096 := by
        unfold gb
        rw [if_pos hc]
        cases hs : sol (badB af) ai [] with
        | none => exact Nat.zero_le _
        | some y =>
          have hl := ge _ _ _ _ hs
          have hm := h.len
          rw [List.length_nil] at hl
          show y.length ≤ 4096
          omega
      rw [eS3]
      simp only [if_pos (show (gb ai af).2.2 = 0 ∧ (gb ai (LK.toR af j 4 0)).2.2 = 0 ∧ True from ⟨h0, h4, trivial⟩)]
      have S := same_ref (gb ai af).1 (gb ai af).1 hlx
      rw [decide_eq_true rfl] at S
      refine Ev.bind S ?_
      simp only [if_true]
      cases hs4 : sol (badB (LK.toR af j 4 0)) ai [] with
      | none =>
        have e : (gb ai (LK.toR af j 4 0)).2.1 = false := by unfold gb; rw [if_pos hc4, hs4]; rfl
        simp only [if_pos e]
        exact Ev.now _
      | some z =>
        have eS4 : gb ai (LK.toR af j 4 0) = (z, true, 0) := by unfold gb; rw [if_pos hc4, hs4]; rfl
        obtain ⟨x, hx, hle⟩ := sol_mono h.dom (ok_pos h) (fun x hx => by
          rw [bad_toR hj] at hx
          rw [bad_at hj]
          simp only [Bool.or_eq_false_iff] at hx ⊢
          exact ⟨hx.1, four_two hk hx.2.1, hx.2.2⟩) (bad_nil (chk_ok hc4)) hs4
        have eS : gb ai af = (x, true, 0) := by unfold gb; rw [if_pos hc, hx]; rfl
        have lz := ge _ _ _ _ hs4
        have lx := ge _ _ _ _ hx
        rw [List.length_nil] at lz lx
        rw [eS4, eS]
        simp only [Bool.true_eq_false, if_false, true_and, if_pos (show z.length = x.length by omega)]
        have B := before_f z x (by have := h.len; omega)
        rw [hle] at B
        exact Ev.bind B (Ev.now _)
end Go.Proofs.Ytcbpkdemcdikaaa.Pure
