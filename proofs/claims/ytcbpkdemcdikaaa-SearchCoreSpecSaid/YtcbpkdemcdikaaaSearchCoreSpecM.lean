/- Proved here: parts of the walk and of the plain law of SearchCoreSpec, put into one text (names and lines made short by a program). -/
import Derived.Test.YtcbpkdemcdikaaaSearchCoreSpecD
import Derived.Test.YtcbpkdemcdikaaaSearchCoreSpecJ
import Derived.Shelf.Abstract
import Derived.Laws.EntriesVeiled
import Derived.Lib.AppendZerosOnto
import Derived.Maps.AppendAt
import Derived.Lib.Walk
import Derived.Lib.SliceRun
import Derived.Test.YtcbpkdemcdikaaaSearchCoreSpecL
import Derived.Test.YtcbpkdemcdikaaaSearchCoreSpecH
import Derived.WalkMore
import Derived.Test.YtcbpkdemcdikaaaSearchCoreSpecF
import Derived.Test.YtcbpkdemcdikaaaSearchCoreSpecK
namespace Go.Proofs.Ytcbpkdemcdikaaa.X
open Go.RowKit Go.Proofs.YtcbpkdemcdikaaaW.PrintWords Go.Proofs.YtcbpkdemcdikaaaW.PrintLast Go.Proofs.YtcbpkdemcdikaaaW.PrintMore
attribute [local go_sem] aK aJ bc aX aD aE aM aN
set_option linter.unusedVariables false
set_option linter.unusedSimpArgs false
namespace CC
attribute [local go_sem] Oper.semAt_some
set_option maxRecDepth 100000 in
set_option maxHeartbeats 4000000 in
theorem grow0_calls (w : World) : Calls Try.prog 61 #[.slice none 0 0, .int .i64 0] w fun e w' => e = .returned (.slice none 0 0) ∧ w' = w := by
  go_enter Try.func61, Try.ntmps61
  go_wp2_with fail
  exact bodyPost_ret (v := .slice none 0 0) (by simp [results, Try.results61, go_sem]) rfl ⟨rfl, rfl⟩
set_option maxRecDepth 100000 in
set_option maxHeartbeats 4000000 in
theorem grow_calls (n : Nat) (h0 : 0 < n) (h1 : n ≤ 1024) (w : World) : Calls Try.prog 61 #[.slice none 0 0, .int .i64 (n : Int)] w fun e w' => ∃ cap, e = .returned (.slice (some ⟨w.heap.size, 0, none⟩) 0 cap) ∧ w'.ownsRow w.heap.size 49 4 (.slice (some ⟨w.heap.size, 0, none⟩) 0 cap) 0 [] ∧ n ≤ cap ∧ Below w.heap.size w w' := by
  have hinfo := info49
  cases hi0 : Try.prog.info? 49 with
  | none => rw [hi0] at hinfo; cases hinfo
  | some i0 =>
  rw [hi0] at hinfo
  simp only [Option.map_some, Option.some.injEq, Prod.mk.injEq] at hinfo
  obtain ⟨hz0, hs0, hb0⟩ := hinfo
  have hrz : ∀ ty, (Builtin.append_ #[23, 3] ty #[.slice none 0 0, .int .i64 (n : Int)]).run Try.prog w = .ok (.slice (some ⟨w.heap.size, 0, none⟩) n (grownCap w n 0 49)) (w.drew.alloc (.cells (#[] ++ Builtin.zeroCells #[.int .i64 0, .int .i64 0, .slice none 0 0, .slice none 0 0] n ++ Builtin.zeroCells #[.int .i64 0, .int .i64 0, .slice none 0 0, .slice none 0 0] (grownCap w n 0 49 - n)) 49)) := fun ty => by
    have h := Lib.run_append_grow_zeros w 23 3 ty 49 i0 (.agg #[.int .i64 0, .int .i64 0, .slice none 0 0, .slice none 0 0]) .i64 .i64 (P := Try.prog) (by rfl) (by rfl) hi0 hz0 none 0 0 [] (run_firstCells_none w.drew i0.size 0 0 0) n h0 (by omega) (by omega) (by omega) (by rw [hb0]; omega) (by rw [hb0]; exact growslice_fits (by omega) (by omega))
    have hc : (Value.agg #[.int .i64 0, .int .i64 0, .slice none 0 0, .slice none 0 0]).cells = #[.int .i64 0, .int .i64 0, .slice none 0 0, .slice none 0 0] := by rfl
    rw [hc] at h
    simpa using h
  have hGn : n ≤ grownCap w n 0 49 := grownCap_ge w _ _ _
  have hGm : grownCap w n 0 49 ≤ maxLen := grownCap_le_maxLen w n 0 49 (by unfold maxLen; omega)
  obtain ⟨G, hG⟩ : ∃ G, G = grownCap w n 0 49 := ⟨_, rfl⟩
  rw [← hG] at hrz hGn hGm
  have hG9 : G ≤ 9223372036854775807 := by unfold maxLen at hGm; omega
  obtain ⟨cur, hcur⟩ : ∃ cur, #[] ++ Builtin.zeroCells #[.int .i64 0, .int .i64 0, .slice none 0 0, .slice none 0 0] n ++ Builtin.zeroCells #[.int .i64 0, .int .i64 0, .slice none 0 0, .slice none 0 0] (G - n) = cur := ⟨_, rfl⟩
  have hsz : cur.size = G * 4 := by
    rw [← hcur]
    simp only [Array.size_append, size_zeroCells]
    simp
    omega
  rw [hcur] at hrz
  have HG := Aside0.mk (And.intro hGm hsz)
  have k1 : ((n : Int) < 0) ↔ False := ⟨fun h => by omega, False.elim⟩
  have k2 : decide ((n : Int) < 0) = false := decide_eq_false (by omega)
  have k3 : decide ((n : Int) > 0) = true := decide_eq_true (by omega)
  clear hcur hsz hGm hG hi0 hz0 hs0 hb0
  go_enter Try.func61, Try.ntmps61
  go_wp2_with (at_builtin; refine Lib.wpList_append_run _ rfl _ _ _ _ rfl _ _ rfl rfl _ _ (hrz _) ?_)
  exact bodyPost_ret (v := .slice (some ⟨w.heap.size, 0, none⟩) 0 G) (by simp [results, Try.results61, go_sem]) rfl ⟨G, rfl, (World.ownsRow_made w cur G (Nat.le_refl _) HG.out.1 HG.out.2).drew, hGn, a5 (a6 (Below.refl _ _) _)⟩
theorem growR (n : Nat) (h1 : n ≤ 1024) (w : World) (ok : Nat → Prop) (hf : ∀ k, w.heap.size ≤ k → ok k) : Calls Try.prog 61 #[.slice none 0 0, .int .i64 (n : Int)] w fun e w' => ∃ v, e = .returned v ∧ Kd.N k49 49 w' w.heap.size ok v [] ∧ Below w.heap.size w w' := by
  by_cases h0 : 0 < n
  · refine (grow_calls n h0 h1 w).mono ?_
    rintro e w' ⟨cap, rfl, ho, _, hb⟩
    exact ⟨_, rfl, Kd.R_N ⟨fun k hk => hf k (cJ ho k hk), [], ho, Reps.none _ _⟩, hb⟩
  · obtain rfl : n = 0 := by omega
    refine (grow0_calls w).mono ?_
    rintro e w' ⟨rfl, rfl⟩
    exact ⟨_, rfl, Kd.N_nil _ _ _ _ _, Below.refl _ _⟩
theorem fBelow {w W : World} {ok : Nat → Prop} {A : Option Addr} {n : Nat} {xs : List S49} (h : Kd.F k49 w ok A n xs) (hb : Below w.heap.size w W) : Kd.F k49 W (fun k => ok k ∧ k < w.heap.size) A n xs := fun W' hW =>
  h W' (fun k hk hlt => (hW k ⟨hk, hlt⟩ (Nat.lt_of_lt_of_le hlt hb.size)).trans (hb.block k hlt))
def szAt (n0 n1 i : Int) : Int := if i = 0 then 0 else if i = 1 then n0 else n0 + n1
def prefAt (l0 l1 : List S49) (i : Int) : List S49 := if i = 0 then [] else if i = 1 then l0 else l0 ++ l1
set_option maxRecDepth 100000 in
set_option maxHeartbeats 8000000 in
theorem concat_calls (gx : Nat) (A0 : Option Addr) (c0 : Nat) (l0 : List S49) (A1 : Option Addr) (c1 : Nat) (l1 : List S49) (w : World) (hx : w.heap[gx]? = some (.cells #[.slice A0 l0.length c0, .slice A1 l1.length c1] 23 (0, 0)))
    (ok : Nat → Prop) (hf : ∀ k, w.heap.size ≤ k → ok k) (hr0 : Kd.F k49 w ok A0 l0.length l0) (hc0 : l0.length ≤ c0) (hr1 : Kd.F k49 w ok A1 l1.length l1) (hc1 : l1.length ≤ c1) (hl0 : l0.length ≤ 256) (hl1 : l1.length ≤ 256) :
    Calls Try.prog 45 #[.slice (some ⟨gx, 0, none⟩) 2 2] w fun e w' => ∃ v, e = .returned v ∧ Kd.N k49 49 w' w.heap.size ok v (l0 ++ l1) ∧ Below w.heap.size w w' := by
  have x0 := a7 hx 0
  have x1 := a7 hx 1
  simp only [List.getElem?_toArray, List.getElem?_cons_zero, List.getElem?_cons_succ] at x0 x1
  obtain ⟨n0, hn0⟩ : ∃ n0 : Nat, l0.length = n0 := ⟨_, rfl⟩
  obtain ⟨n1, hn1⟩ : ∃ n1 : Nat, l1.length = n1 := ⟨_, rfl⟩
  have HR0 := Aside0.mk hr0
  have HF := Aside0.mk hf
  have HR1 := Aside0.mk hr1
  have HX := Aside0.mk hx
  have HN := Aside0.mk (And.intro hn0 hn1)
  rw [hn0] at x0 hl0 hc0
  rw [hn1] at x1 hl1 hc1
  clear hr0 hr1 hx hn0 hn1 hf
  go_enter Try.func45, Try.ntmps45
  go_wp2_with fail
  refine wp_loop_ghost_k (fun q a W' => ∃ (i : Int) (u : Nat → Value), q = (2 - i).toNat ∧ (i = 0 ∨ i = 1 ∨ i = 2) ∧ W' = w ∧ a = { tmps := List.toArray ((.slice (some ⟨gx, 0, none⟩) 2 2 : Value) :: u 1 :: u 2 :: (.int .i64 (szAt n0 n1 i) : Value) :: u 4 :: u 5 :: u 6 :: u 7 :: u 8 :: (.slice (some ⟨gx, 0, none⟩) 2 2 : Value) :: (.int .i64 2 : Value) :: (.int .i64 i : Value) :: u 12 :: u 13 :: u 14 :: u 15 :: u 16 :: u 17 :: u 18 :: u 19 :: u 20 :: u 21 :: u 22 :: u 23 :: u 24 :: u 25 :: u 26 :: u 27 :: u 28 :: u 29 :: u 30 :: u 31 :: u 32 :: u 33 :: u 34 :: u 35 :: []), defers := [] }) 2 ?start ?round
  case start =>
    have sta : ∀ T : Array Value, T = List.toArray ((.slice (some ⟨gx, 0, none⟩) 2 2 : Value) :: T.getD 1 undef :: T.getD 2 undef :: (.int .i64 0 : Value) :: T.getD 4 undef :: T.getD 5 undef :: T.getD 6 undef :: T.getD 7 undef :: T.getD 8 undef :: (.slice (some ⟨gx, 0, none⟩) 2 2 : Value) :: (.int .i64 2 : Value) :: (.int .i64 0 : Value) :: T.getD 12 undef :: T.getD 13 undef :: T.getD 14 undef :: T.getD 15 undef :: T.getD 16 undef :: T.getD 17 undef :: T.getD 18 undef :: T.getD 19 undef :: T.getD 20 undef :: T.getD 21 undef :: T.getD 22 undef :: T.getD 23 undef :: T.getD 24 undef :: T.getD 25 undef :: T.getD 26 undef :: T.getD 27 undef :: T.getD 28 undef :: T.getD 29 undef :: T.getD 30 undef :: T.getD 31 undef :: T.getD 32 undef :: T.getD 33 undef :: T.getD 34 undef :: T.getD 35 undef :: []) → ∃ (i : Int) (u : Nat → Value), 2 = (2 - i).toNat ∧ (i = 0 ∨ i = 1 ∨ i = 2) ∧ w = w ∧ (Act.mk T []) = { tmps := List.toArray ((.slice (some ⟨gx, 0, none⟩) 2 2 : Value) :: u 1 :: u 2 :: (.int .i64 (szAt n0 n1 i) : Value) :: u 4 :: u 5 :: u 6 :: u 7 :: u 8 :: (.slice (some ⟨gx, 0, none⟩) 2 2 : Value) :: (.int .i64 2 : Value) :: (.int .i64 i : Value) :: u 12 :: u 13 :: u 14 :: u 15 :: u 16 :: u 17 :: u 18 :: u 19 :: u 20 :: u 21 :: u 22 :: u 23 :: u 24 :: u 25 :: u 26 :: u 27 :: u 28 :: u 29 :: u 30 :: u 31 :: u 32 :: u 33 :: u 34 :: u 35 :: []), defers := [] } := fun T hT =>
      ⟨0, fun i => T.getD i undef, rfl, .inl rfl, rfl, congrArg (fun T => (Act.mk T _)) hT⟩
    exact sta _ rfl
  case round =>
    rintro q a W' ⟨i, u, rfl, hii, hWW, rfl⟩ J K hJ hK
    obtain rfl : w = W' := hWW.symm
    clear hWW
    have fin : ∀ (i' : Int) (T : Array Value), (2 - i').toNat < (2 - i).toNat → (i' = 0 ∨ i' = 1 ∨ i' = 2) → T = List.toArray ((.slice (some ⟨gx, 0, none⟩) 2 2 : Value) :: T.getD 1 undef :: T.getD 2 undef :: (.int .i64 (szAt n0 n1 i') : Value) :: T.getD 4 undef :: T.getD 5 undef :: T.getD 6 undef :: T.getD 7 undef :: T.getD 8 undef :: (.slice (some ⟨gx, 0, none⟩) 2 2 : Value) :: (.int .i64 2 : Value) :: (.int .i64 i' : Value) :: T.getD 12 undef :: T.getD 13 undef :: T.getD 14 undef :: T.getD 15 undef :: T.getD 16 undef :: T.getD 17 undef :: T.getD 18 undef :: T.getD 19 undef :: T.getD 20 undef :: T.getD 21 undef :: T.getD 22 undef :: T.getD 23 undef :: T.getD 24 undef :: T.getD 25 undef :: T.getD 26 undef :: T.getD 27 undef :: T.getD 28 undef :: T.getD 29 undef :: T.getD 30 undef :: T.getD 31 undef :: T.getD 32 undef :: T.getD 33 undef :: T.getD 34 undef :: T.getD 35 undef :: []) → Handed J (2 - i).toNat { tmps := T, defers := [] } w := fun i' T h1 h2 hT =>
      ⟨(2 - i').toNat, h1, hJ _ _ _ ⟨i', fun i => T.getD i undef, rfl, h2, rfl, congrArg (fun T => (Act.mk T _)) hT⟩⟩
    rcases hii with rfl | rfl | rfl
    · rw [show szAt n0 n1 0 = 0 from rfl]
      have k1 : decide ((n0 : Int) < 0) = false := decide_eq_false (by omega)
      go_wp2_with fail
      exact fin 1 _ (by decide) (by omega) rfl
    · rw [show szAt n0 n1 1 = (n0 : Int) from rfl]
      have k1 : decide ((n0 : Int) + (n1 : Int) < 0) = false := decide_eq_false (by omega)
      go_wp2_with fail
      exact fin 2 _ (by decide) (by omega) rfl
    · obtain ⟨n, hn⟩ : ∃ n : Nat, (n0 : Int) + (n1 : Int) = (n : Int) := ⟨n0 + n1, by omega⟩
      rw [show szAt n0 n1 2 = (n0 : Int) + (n1 : Int) from rfl, hn]
      have hnn : n ≤ 1024 := by omega
      clear fin hJ hn
      go_wp2_with fail
      refine (growR n hnn w ok HF.out).mono ?_
      rintro e w1 ⟨v6, rfl, ho, hb⟩
      have HO := Aside0.mk ho
      have HB := Aside0.mk hb
      have y0 : w1.cell? ⟨gx, 0, none⟩ = some (.slice A0 n0 c0) := by
        have h := a7 (af HX.out hb) 0
        simp only [List.getElem?_toArray, List.getElem?_cons_zero] at h
        rw [HN.out.1] at h
        exact h
      clear ho hb x0 x1 y0
      go_wp2_with fail
      refine wp_loop_ghost_k (fun q a W' => ∃ (i : Int) (v : Value) (u : Nat → Value), q = (2 - i).toNat ∧ (i = 0 ∨ i = 1 ∨ i = 2) ∧ Kd.N k49 49 W' w.heap.size ok v (prefAt l0 l1 i) ∧ Below w.heap.size w W' ∧ a = { tmps := List.toArray ((.slice (some ⟨gx, 0, none⟩) 2 2 : Value) :: u 1 :: u 2 :: u 3 :: u 4 :: u 5 :: (v : Value) :: u 7 :: u 8 :: u 9 :: u 10 :: u 11 :: u 12 :: u 13 :: u 14 :: u 15 :: u 16 :: u 17 :: u 18 :: u 19 :: u 20 :: u 21 :: u 22 :: u 23 :: u 24 :: (.slice (some ⟨gx, 0, none⟩) 2 2 : Value) :: (.int .i64 2 : Value) :: (.int .i64 i : Value) :: u 28 :: u 29 :: u 30 :: u 31 :: u 32 :: u 33 :: u 34 :: u 35 :: []), defers := [] }) 2 ?start2 ?round2
      case start2 =>
        have sta : ∀ T : Array Value, T = List.toArray ((.slice (some ⟨gx, 0, none⟩) 2 2 : Value) :: T.getD 1 undef :: T.getD 2 undef :: T.getD 3 undef :: T.getD 4 undef :: T.getD 5 undef :: (v6 : Value) :: T.getD 7 undef :: T.getD 8 undef :: T.getD 9 undef :: T.getD 10 undef :: T.getD 11 undef :: T.getD 12 undef :: T.getD 13 undef :: T.getD 14 undef :: T.getD 15 undef :: T.getD 16 undef :: T.getD 17 undef :: T.getD 18 undef :: T.getD 19 undef :: T.getD 20 undef :: T.getD 21 undef :: T.getD 22 undef :: T.getD 23 undef :: T.getD 24 undef :: (.slice (some ⟨gx, 0, none⟩) 2 2 : Value) :: (.int .i64 2 : Value) :: (.int .i64 0 : Value) :: T.getD 28 undef :: T.getD 29 undef :: T.getD 30 undef :: T.getD 31 undef :: T.getD 32 undef :: T.getD 33 undef :: T.getD 34 undef :: T.getD 35 undef :: []) → ∃ (i : Int) (v : Value) (u : Nat → Value), 2 = (2 - i).toNat ∧ (i = 0 ∨ i = 1 ∨ i = 2) ∧ Kd.N k49 49 w1 w.heap.size ok v (prefAt l0 l1 i) ∧ Below w.heap.size w w1 ∧ (Act.mk T []) = { tmps := List.toArray ((.slice (some ⟨gx, 0, none⟩) 2 2 : Value) :: u 1 :: u 2 :: u 3 :: u 4 :: u 5 :: (v : Value) :: u 7 :: u 8 :: u 9 :: u 10 :: u 11 :: u 12 :: u 13 :: u 14 :: u 15 :: u 16 :: u 17 :: u 18 :: u 19 :: u 20 :: u 21 :: u 22 :: u 23 :: u 24 :: (.slice (some ⟨gx, 0, none⟩) 2 2 : Value) :: (.int .i64 2 : Value) :: (.int .i64 i : Value) :: u 28 :: u 29 :: u 30 :: u 31 :: u 32 :: u 33 :: u 34 :: u 35 :: []), defers := [] } := fun T hT =>
          ⟨0, v6, fun i => T.getD i undef, rfl, .inl rfl, HO.out, HB.out, congrArg (fun T => (Act.mk T _)) hT⟩
        exact sta _ rfl
      case round2 =>
        clear HO HB
        rintro q a W' ⟨i, v, y, rfl, hii, ho, hb, rfl⟩ J' K' hJ' hK'
        have HO := Aside0.mk ho
        have HB := Aside0.mk hb
        have fin : ∀ (i' : Int) (v' : Value) (W2 : World) (T : Array Value), (2 - i').toNat < (2 - i).toNat → (i' = 0 ∨ i' = 1 ∨ i' = 2) → Kd.N k49 49 W2 w.heap.size ok v' (prefAt l0 l1 i') → Below w.heap.size w W2 → T = List.toArray ((.slice (some ⟨gx, 0, none⟩) 2 2 : Value) :: T.getD 1 undef :: T.getD 2 undef :: T.getD 3 undef :: T.getD 4 undef :: T.getD 5 undef :: (v' : Value) :: T.getD 7 undef :: T.getD 8 undef :: T.getD 9 undef :: T.getD 10 undef :: T.getD 11 undef :: T.getD 12 undef :: T.getD 13 undef :: T.getD 14 undef :: T.getD 15 undef :: T.getD 16 undef :: T.getD 17 undef :: T.getD 18 undef :: T.getD 19 undef :: T.getD 20 undef :: T.getD 21 undef :: T.getD 22 undef :: T.getD 23 undef :: T.getD 24 undef :: (.slice (some ⟨gx, 0, none⟩) 2 2 : Value) :: (.int .i64 2 : Value) :: (.int .i64 i' : Value) :: T.getD 28 undef :: T.getD 29 undef :: T.getD 30 undef :: T.getD 31 undef :: T.getD 32 undef :: T.getD 33 undef :: T.getD 34 undef :: T.getD 35 undef :: []) → Handed J' (2 - i).toNat { tmps := T, defers := [] } W2 := fun i' v' W2 T h1 h2 h3 h4 hT =>
          ⟨(2 - i').toNat, h1, hJ' _ _ _ ⟨i', v', fun i => T.getD i undef, rfl, h2, h3, h4, congrArg (fun T => (Act.mk T _)) hT⟩⟩
        have x0 := a7 (af HX.out hb) 0
        have x1 := a7 (af HX.out hb) 1
        simp only [List.getElem?_toArray, List.getElem?_cons_zero, List.getElem?_cons_succ] at x0 x1
        rw [HN.out.1] at x0
        rw [HN.out.2] at x1
        clear ho hb
        rcases hii with rfl | rfl | rfl
        · go_wp2_with ((at_builtin; refine Kd.N_append_rows k49 (w0 := w) w.heap.size rfl (.tmp 31) (.tmp 32) 23 49 (.agg #[(.int .i64 0), (.int .i64 0), (.slice none 0 0), (.slice none 0 0)]) 64 rfl Try.underlying23 info49 rfl (by decide) (by omega) v [] l0 _ _ _ ok (fun k => ok k ∧ k < w.heap.size) rfl rfl HO.out (by have h := fBelow HR0.out HB.out; rw [HN.out.1] at h; exact h) (fun k hk => ⟨hk.1, fun e => by have := Kd.N_base HO.out k e.symm; have := hk.2; omega⟩) (fun k hk => HF.out k (Nat.le_trans HB.out.size hk)) HB.out HB.out.size (by simp; omega) ?_; intro v1 w2 ho hb _ _))
          exact fin 1 _ _ _ (by decide) (by omega) ho hb rfl
        · go_wp2_with ((at_builtin; refine Kd.N_append_rows k49 (w0 := w) w.heap.size rfl (.tmp 31) (.tmp 32) 23 49 (.agg #[(.int .i64 0), (.int .i64 0), (.slice none 0 0), (.slice none 0 0)]) 64 rfl Try.underlying23 info49 rfl (by decide) (by omega) v l0 l1 _ _ _ ok (fun k => ok k ∧ k < w.heap.size) rfl rfl HO.out (by have h := fBelow HR1.out HB.out; rw [HN.out.2] at h; exact h) (fun k hk => ⟨hk.1, fun e => by have := Kd.N_base HO.out k e.symm; have := hk.2; omega⟩) (fun k hk => HF.out k (Nat.le_trans HB.out.size hk)) HB.out HB.out.size (by have := HN.out.1; omega) ?_; intro v1 w2 ho hb _ _))
          exact fin 2 _ _ _ (by decide) (by omega) ho hb rfl
        · go_wp2_with fail
          exact bodyPost_ret (v := v) (by simp [results, Try.results45, go_sem]) rfl ⟨v, rfl, HO.out, HB.out⟩
end CC
end Go.Proofs.Ytcbpkdemcdikaaa.X
namespace Go.Proofs.Ytcbpkdemcdikaaa.X
open Go.RowKit Go.Proofs.YtcbpkdemcdikaaaW.PrintWords Go.Proofs.YtcbpkdemcdikaaaW.PrintLast Go.Proofs.YtcbpkdemcdikaaaW.PrintMore
attribute [local go_sem] aK aJ bc aX aD aE aM aN
set_option linter.unusedVariables false
set_option linter.unusedSimpArgs false
namespace DF
open SF RO CC
set_option maxHeartbeats 8000000
attribute [local go_sem] Oper.semAt_some
def coreR (ds : List (List Int)) : List (Int × S49) → List (Int × S49) → List Int
  | kept, [] => kept.map (·.1)
  | kept, r :: rest => if (sol (badB (kept.map (·.2) ++ rest.map (·.2))) ds []).isSome then coreR ds (kept ++ [r]) rest else coreR ds kept rest
def numbered (rs : List S49) : List (Int × S49) := (List.range rs.length).map fun i : Nat => ((i : Int), rs.getD i z49)
theorem core_no (A0 : Option Addr) (c0 : Nat) (ds : List (List Int)) (A1 : Option Addr) (c1 : Nat) (rs : List S49) (w : World) (is : Bool) (e0 : Int) (hno : e0 ≠ 0 ∨ is = true)
    (hs : ∀ W, Below w.heap.size w W → Calls Try.prog 15 #[.agg #[.slice A0 ds.length c0, .slice A1 rs.length c1]] W fun e w' => ∃ v0, e = .returned (.tuple #[v0, .bool is, .int .i64 e0]) ∧ Below W.heap.size W w') :
    Calls Try.prog 25 #[.agg #[.slice A0 ds.length c0, .slice A1 rs.length c1]] w fun e w' => e = .returned (.tuple #[.slice none 0 0, .bool false, .int .i64 e0]) ∧ Below w.heap.size w w' := by
  have HS := Aside0.mk hs
  have HB0 := Aside0.mk (a6 (Below.refl w.heap.size w) (.cells #[.slice A0 ds.length c0, .slice A1 rs.length c1] 25))
  clear hs
  by_cases h0 : e0 = 0
  · have g0 : (e0 != 0) = false := bne_eq_false_iff_eq.mpr h0
    obtain rfl : is = true := hno.resolve_left (fun h => h h0)
    clear hno h0
    go_enter Try.func25, Try.ntmps25
    go_wp2
    go_step3
    go_wp2_with (go_at_call 15; refine (HS.out _ HB0.out).mono ?_; rintro e w5 ⟨v0, rfl, hb5⟩; have HB5 := Aside0.mk (HB0.out.trans (hb5.mono HB0.out.size)); clear hb5)
    rw [Exit.noGoto_ret]
    exact bodyPost_ret (v := .tuple #[.slice none 0 0, .bool false, .int .i64 e0]) (by simp [results, Try.results25, go_sem]) rfl ⟨rfl, HB5.out⟩
  · have g0 : (e0 != 0) = true := bne_iff_ne.mpr h0
    clear hno h0
    go_enter Try.func25, Try.ntmps25
    go_wp2
    go_step3
    go_wp2_with (go_at_call 15; refine (HS.out _ HB0.out).mono ?_; rintro e w5 ⟨v0, rfl, hb5⟩; have HB5 := Aside0.mk (HB0.out.trans (hb5.mono HB0.out.size)); clear hb5)
    rw [Exit.noGoto_ret]
    exact bodyPost_ret (v := .tuple #[.slice none 0 0, .bool false, .int .i64 e0]) (by simp [results, Try.results25, go_sem]) rfl ⟨rfl, HB5.out⟩
theorem wp_calm {P : Program} {c : Code} {K : Act → World → Prop} {Q : Exit → Act → World → Prop} {a : Act} {w : World} (h : c.wp P (Exit.then K (fun _ _ _ => False)) a w) : c.wp P (Exit.then K Q) a w :=
  wp_mono h (fun e a w h => by cases e <;> first | exact h | exact h.elim)
def marks (bs : List Nat) : List Deferred := bs.map fun b => { target := .collected b, args := #[] }
theorem iD {F : Fence} {n : Nat} {P : Program} {fn : Func} {tmps : Array Value} {R : Ending → World → Prop} : ∀ (bs : List Nat) (W : World), bs.Nodup → (∀ b ∈ bs, W.heap[b]? = some (.deferred (some []))) →
    (∀ W', (∀ k, k ∉ bs → W'.heap[k]? = W.heap[k]?) → W'.heap.size = W.heap.size → W'.os = W.os → W'.tape = W.tape → W'.output = W.output → LeavesIn F n P fn tmps R [] .returning W') → LeavesInM F n P fn tmps R (marks bs) .returning W
  | [], W, _, _, h => h W (fun _ _ => rfl) rfl rfl rfl rfl
  | b :: bs, W, hn, hm, h => by
    have hb := hm b (by simp)
    refine ⟨by simp, .inl ⟨b, _, rfl, run_takeDeferred hb, ?_⟩⟩
    have hnb : b ∉ bs := (List.nodup_cons.mp hn).1
    refine iD bs _ (List.nodup_cons.mp hn).2 (fun b' hb' => ?_) (fun W' h1 h2 h3 h4 h5 => ?_)
    · rw [World.putObj_heap_other (fun e => hnb (by subst e; exact hb'))]
      exact hm b' (by simp [hb'])
    · refine h W' (fun k hk => ?_) (by rw [h2, World.putObj_size]) (by rw [h3]; rfl) (by rw [h4]; rfl) (by rw [h5]; rfl)
      rw [h1 k (fun e => hk (by simp [e])), World.putObj_heap_other (fun e => hk (by simp [e]))]
theorem fLater {w W : World} {ok : Nat → Prop} {A : Option Addr} {n : Nat} {xs : List S49} (h : Kd.F k49 w ok A n xs) (hb : Below w.heap.size w W) : Kd.F k49 W ok A n xs := fun W' hW =>
  h W' (fun k hk hlt => (hW k hk (Nat.lt_of_lt_of_le hlt hb.size)).trans (hb.block k hlt))
theorem foldOne (p : Tmp) (v : Value) (T : Array Value) : Array.foldl (fun t (x : Tmp × Value) => match x with | (p, v) => t.setIfInBounds p v) T (#[p].zip #[v]) = T.setIfInBounds p v := by
  have h : (#[p].zip #[v] : Array (Tmp × Value)) = #[(p, v)] := by simp [Array.zip_eq_zipWith]
  rw [h]; rfl
theorem fGrown {w W : World} {ok : Nat → Prop} {b : Nat} {A : Option Addr} {n : Nat} {xs : List S49} (h : Kd.F k49 w ok A n xs) (hg : w.grownBy W (some b)) (hne : ∀ j, ok j → j ≠ b) : Kd.F k49 W ok A n xs := fun W' hW =>
  h W' (fun k hk hlt => (hW k hk (Nat.lt_of_lt_of_le hlt hg.size)).trans (hg.block k hlt (fun e => hne k hk (Option.some.inj e))))
structure CMem (s b9 : Nat) (w5 : World) (kr : List (Int × S49)) (at_ : Nat) (bs : List Nat) (Al : Option Addr) (cl : Nat) (Ar : Option Addr) (cr : Nat) (W : World) : Prop where
  at9 : W.heap[b9]? = some (.cells #[.int .i64 (at_ : Int)] 3 (0, 0))
  own : W.ownsRow w5.heap.size 3 1 (.slice Al kr.length cl) kr.length (cI .i64 (kr.map (·.1)))
  ne9 : some b9 ≠ (Value.slice Al kr.length cl).ownBlock
  rules : Kd.F k49 W (fun k => some k ≠ (Value.slice Al kr.length cl).ownBlock ∧ k ≠ b9) Ar kr.length (kr.map (·.2))
  capr : kr.length ≤ cr
  below : Below w5.heap.size w5 W
  base : w5.heap.size ≤ b9
  nodup : bs.Nodup
  defs : ∀ b ∈ bs, b9 < b ∧ W.heap[b]? = some (.deferred (some []))
  ok : ∀ r ∈ kr.map (·.2), okR r
  len : kr.length ≤ 200
noncomputable def T12 : Bool × List (List Nat × List Nat) := eX .any (gG Try.f25 12)
theorem tab12 : eX .any (gG Try.f25 12) = T12 := rfl
theorem numbered_fst (rs : List S49) : (numbered rs).map (·.1) = (List.range rs.length).map fun i : Nat => (i : Int) := by
  simp [numbered, Function.comp_def]
theorem iF (rs : List S49) : (numbered rs).map (·.2) = rs := by
  unfold numbered
  rw [List.map_map]
  apply List.ext_getElem
  · simp
  · intro i h1 h2
    simp [List.getD, List.getElem?_eq_getElem h2]
theorem cY (rs : List S49) : (numbered rs).length = rs.length := by simp [numbered]
theorem core_yes (A0 : Option Addr) (c0 : Nat) (ds : List (List Int)) (A1 : Option Addr) (c1 : Nat) (rs : List S49) (w : World)
    (hs : ∀ W, Below w.heap.size w W → Calls Try.prog 15 #[.agg #[.slice A0 ds.length c0, .slice A1 rs.length c1]] W fun e w' => ∃ v0, e = .returned (.tuple #[v0, .bool false, .int .i64 0]) ∧ Below W.heap.size W w')
    (hr0 : Kd.C (Kd.slice 3 (Kd.int .i64)) w A0 ds.length ds) (hr1 : Kd.C k49 w A1 rs.length rs) (hc1 : rs.length ≤ c1) (hok : ∀ r ∈ rs, okR r) (hd : 0 < ds.length) (hdl : ds.length ≤ 1000) (hrl : rs.length ≤ 200) :
    Calls Try.prog 25 #[.agg #[.slice A0 ds.length c0, .slice A1 rs.length c1]] w fun e w' => ∃ v, e = .returned (.tuple #[v, .bool true, .int .i64 0]) ∧ w'.ownsRow w.heap.size 3 1 v (coreR ds [] (numbered rs)).length (cI .i64 (coreR ds [] (numbered rs))) ∧ Below w.heap.size w w' := by
  have HS := Aside0.mk hs
  have HB0 := Aside0.mk (a6 (Below.refl w.heap.size w) (.cells #[.slice A0 ds.length c0, .slice A1 rs.length c1] 25))
  have HR0 := Aside0.mk hr0; have HR1 := Aside0.mk hr1; have HC1 := Aside0.mk hc1; have HOK := Aside0.mk hok; have HD := Aside0.mk (And.intro hd hdl); have HRL := Aside0.mk hrl
  clear hs hr0 hr1 hc1 hok hd hdl hrl
  refine (callsIn_wide (n := 3)).1 ?_
  refine callsIn_of_wp_marks Try.func25 rfl trivial ?_ rfl
  simp only [Try.ntmps25, List.size_toArray, List.length_cons, List.length_nil, Nat.reduceAdd, Nat.reduceSub, Array.replicate_succ, Array.replicate_zero, List.push_toArray, List.append_toArray, List.nil_append, List.cons_append]
  refine wpIn_wide.2 ?_
  go_wp2
  go_step3
  go_wp2_with (go_at_call 15; refine (HS.out _ HB0.out).mono ?_; rintro e w5 ⟨v0, rfl, hb5⟩; have HB5 := Aside0.mk (HB0.out.trans (hb5.mono HB0.out.size)); have hbk := af (bz w (.cells #[.slice A0 ds.length c0, .slice A1 rs.length c1] 25)) hb5; have HBK := Aside0.mk hbk; have z0 := a7 hbk 0; have z1 := a7 hbk 1; simp only [List.getElem?_toArray, List.getElem?_cons_zero, List.getElem?_cons_succ] at z0 z1; clear hb5 hbk)
  obtain ⟨s, hs⟩ : ∃ s, w.heap.size = s := ⟨_, rfl⟩
  have HSS := Aside0.mk hs
  rw [hs]
  clear hs
  go_loopg [2, 8, 28] rs.length (fun gg v2 _ v28 wr => ∃ (kk : Nat) (Al : Option Addr) (cl : Nat), v28 = .int .i64 kk ∧ v2 = .slice Al kk cl ∧ Aside0 (kk ≤ rs.length) ∧ Aside0 (rs.length - kk ≤ gg) ∧ Aside0 (wr.ownsRow w5.heap.size 3 1 (.slice Al kk cl) kk (cI .i64 ((List.range kk).map fun i : Nat => (i : Int)))) ∧ Aside0 (Below w5.heap.size w5 wr))
  case atStart => exact ⟨0, none, 0, rfl, rfl, ⟨Nat.zero_le _⟩, ⟨by omega⟩, ⟨World.ownsRow_nil _ _ _ _⟩, ⟨Below.refl _ _⟩⟩
  case round =>
    obtain ⟨kk, Al, cl, rfl, rfl, HK, HG, HO, HB⟩ := hrel
    by_cases c4 : kk < rs.length
    · have c4b : decide ((kk : Int) < (rs.length : Int)) = true := decide_eq_true (by omega)
      have c4n : decide (kk < rs.length) = true := decide_eq_true c4
      have HC := Aside0.mk c4
      have HRN := Aside0.mk (show ((List.range kk).map fun i : Nat => (i : Int)).length = kk by simp)
      clear c4
      go_wp2_with ((with_reducible refine ci (b := .append) (xs := #[.tmp 31, .tmp 33]) rfl ?_); at_builtin; refine dG (w0 := w5) w5.heap.size rfl (.tmp 31) (.tmp 33) 26 3 .i64 8 rfl Try.underlying26 fM (by omega) _ ((List.range kk).map fun i : Nat => (i : Int)) (kk : Int) rfl rfl ?aO ?aB ?aS ?aL ?_; (case aO => rw [HRN.out]; exact HO.out); (case aB => exact HB.out); (case aS => exact HB.out.size); (case aL => have := HRN.out; have := HC.out; have := HRL.out; omega); intro v9 w9 ho hb hg hat; obtain ⟨A9, c9, hv9⟩ := ex ho; subst hv9; have HO9 := Aside0.mk ho; have HB9 := Aside0.mk hb; clear ho hb hg hat)
      have hrs : ((List.range kk).map fun i : Nat => (i : Int)) ++ [(kk : Int)] = (List.range (kk + 1)).map fun i : Nat => (i : Int) := by rw [List.range_succ, List.map_append]; rfl
      have hrl : (((List.range kk).map fun i : Nat => (i : Int)) ++ [(kk : Int)]).length = kk + 1 := by simp
      go_roundg (rs.length - (kk + 1))
      case measure => have := HG.out; have := HC.out; omega
      case rel =>
        have hm := HRL.out; have hc := HC.out
        refine ⟨kk + 1, A9, c9, by rw [iR _ (by omega) (by omega)]; rfl, by simp, ⟨hc⟩, ⟨by omega⟩, ⟨?_⟩, HB9⟩
        have h := HO9.out
        rw [hrl, hrs] at h
        exact h
    · have c4b : decide ((kk : Int) < (rs.length : Int)) = false := decide_eq_false (by omega)
      have c4n : decide (kk < rs.length) = false := decide_eq_false c4
      have hkk : kk = rs.length := by have := HK.out; omega
      subst hkk
      clear c4
      go_wp2_with (fail)
      go_step3
      go_wp2_with (fail)
      obtain ⟨b9, hb9⟩ : ∃ b9, wr.heap.size = b9 := ⟨_, rfl⟩
      obtain ⟨W0, hW0⟩ : ∃ W0, wr.alloc (.cells #[.int .i64 0] 3) = W0 := ⟨_, rfl⟩
      have hm0 : CMem s b9 w5 (numbered rs) 0 [] Al cl A1 c1 W0 := by
        have hbw : Below w.heap.size w wr := HB5.out.trans (HB.out.mono HB5.out.size)
        have hlo : ∀ k, (Value.slice Al rs.length cl).ownBlock = some k → w5.heap.size ≤ k ∧ k < wr.heap.size := fun k hk => ⟨cJ HO.out k hk, own_lt HO.out k hk⟩
        refine ⟨?_, ?_, ?_, ?_, ?_, ?_, ?_, List.nodup_nil, (fun b hb => by cases hb), ?_, ?_⟩
        · rw [← hW0, ← hb9]; exact bz wr _
        · rw [cY, numbered_fst, ← hW0]; exact own_alloc HO.out _
        · rw [cY]
          intro e
          have := (hlo b9 e.symm).2
          omega
        · rw [cY, iF]
          have hf := Kd.C_F iX HR1.out
          refine fun W' hW => hf W' (fun k hk hlt => ?_)
          have h1 : W0.heap[k]? = w.heap[k]? := by
            rw [← hW0]
            exact (a6 hbw _).block k hlt
          rw [← h1]
          refine hW k ⟨fun e => ?_, ?_⟩ ?_
          · have := (hlo k e.symm).1
            have := HB5.out.size
            omega
          · have := hbw.size
            omega
          · rw [← hW0]; have := hbw.size; simp; omega
        · rw [cY]; exact HC1.out
        · rw [← hW0]; exact a6 HB.out _
        · rw [← hb9]; exact HB.out.size
        · rw [iF]; exact HOK.out
        · rw [cY]; exact HRL.out
      rw [hW0, hb9]
      have hnl : (numbered rs).length = rs.length := cY rs
      have HM0 := Aside0.mk hm0
      have HNL := Aside0.mk hnl
      clear hm0 hb9 hW0 hnl
      refine wp_loop_ghost_k (fun q a W => ∃ (kept rest : List (Int × S49)) (bs : List Nat) (Al : Option Addr) (cl : Nat) (Ar : Option Addr) (cr : Nat) (u : Nat → Value), q = rest.length ∧ coreR ds kept rest = coreR ds [] (numbered rs) ∧ CMem s b9 w5 (kept ++ rest) kept.length bs Al cl Ar cr W ∧
        a = { tmps := List.toArray (u 0 :: (.pointer (some ⟨s, 0, none⟩) : Value) :: (.slice Al (kept ++ rest).length cl : Value) :: u 3 :: u 4 :: u 5 :: u 6 :: (.slice Ar (kept ++ rest).length cr : Value) :: u 8 :: (.pointer (some ⟨b9, 0, none⟩) : Value) :: u 10 :: u 11 :: u 12 :: u 13 :: u 14 :: u 15 :: u 16 :: u 17 :: u 18 :: u 19 :: u 20 :: u 21 :: u 22 :: u 23 :: u 24 :: u 25 :: u 26 :: u 27 :: u 28 :: u 29 :: u 30 :: u 31 :: u 32 :: u 33 :: u 34 :: u 35 :: u 36 :: u 37 :: u 38 :: u 39 :: u 40 :: u 41 :: u 42 :: u 43 :: u 44 :: u 45 :: u 46 :: u 47 :: u 48 :: u 49 :: u 50 :: u 51 :: u 52 :: u 53 :: u 54 :: u 55 :: u 56 :: u 57 :: u 58 :: u 59 :: u 60 :: u 61 :: u 62 :: []), defers := marks bs }) (numbered rs).length ?start ?round
      case start =>
        have sta : ∀ T : Array Value, T = List.toArray (T.getD 0 undef :: (.pointer (some ⟨s, 0, none⟩) : Value) :: (.slice Al rs.length cl : Value) :: T.getD 3 undef :: T.getD 4 undef :: T.getD 5 undef :: T.getD 6 undef :: (.slice A1 rs.length c1 : Value) :: T.getD 8 undef :: (.pointer (some ⟨b9, 0, none⟩) : Value) :: T.getD 10 undef :: T.getD 11 undef :: T.getD 12 undef :: T.getD 13 undef :: T.getD 14 undef :: T.getD 15 undef :: T.getD 16 undef :: T.getD 17 undef :: T.getD 18 undef :: T.getD 19 undef :: T.getD 20 undef :: T.getD 21 undef :: T.getD 22 undef :: T.getD 23 undef :: T.getD 24 undef :: T.getD 25 undef :: T.getD 26 undef :: T.getD 27 undef :: T.getD 28 undef :: T.getD 29 undef :: T.getD 30 undef :: T.getD 31 undef :: T.getD 32 undef :: T.getD 33 undef :: T.getD 34 undef :: T.getD 35 undef :: T.getD 36 undef :: T.getD 37 undef :: T.getD 38 undef :: T.getD 39 undef :: T.getD 40 undef :: T.getD 41 undef :: T.getD 42 undef :: T.getD 43 undef :: T.getD 44 undef :: T.getD 45 undef :: T.getD 46 undef :: T.getD 47 undef :: T.getD 48 undef :: T.getD 49 undef :: T.getD 50 undef :: T.getD 51 undef :: T.getD 52 undef :: T.getD 53 undef :: T.getD 54 undef :: T.getD 55 undef :: T.getD 56 undef :: T.getD 57 undef :: T.getD 58 undef :: T.getD 59 undef :: T.getD 60 undef :: T.getD 61 undef :: T.getD 62 undef :: []) → ∃ (kept rest : List (Int × S49)) (bs : List Nat) (Al : Option Addr) (cl : Nat) (Ar : Option Addr) (cr : Nat) (u : Nat → Value), (numbered rs).length = rest.length ∧ coreR ds kept rest = coreR ds [] (numbered rs) ∧ CMem s b9 w5 (kept ++ rest) kept.length bs Al cl Ar cr W0 ∧
            (Act.mk T []) = { tmps := List.toArray (u 0 :: (.pointer (some ⟨s, 0, none⟩) : Value) :: (.slice Al (kept ++ rest).length cl : Value) :: u 3 :: u 4 :: u 5 :: u 6 :: (.slice Ar (kept ++ rest).length cr : Value) :: u 8 :: (.pointer (some ⟨b9, 0, none⟩) : Value) :: u 10 :: u 11 :: u 12 :: u 13 :: u 14 :: u 15 :: u 16 :: u 17 :: u 18 :: u 19 :: u 20 :: u 21 :: u 22 :: u 23 :: u 24 :: u 25 :: u 26 :: u 27 :: u 28 :: u 29 :: u 30 :: u 31 :: u 32 :: u 33 :: u 34 :: u 35 :: u 36 :: u 37 :: u 38 :: u 39 :: u 40 :: u 41 :: u 42 :: u 43 :: u 44 :: u 45 :: u 46 :: u 47 :: u 48 :: u 49 :: u 50 :: u 51 :: u 52 :: u 53 :: u 54 :: u 55 :: u 56 :: u 57 :: u 58 :: u 59 :: u 60 :: u 61 :: u 62 :: []), defers := marks bs } := fun T hT =>
          ⟨[], numbered rs, [], Al, cl, A1, c1, fun i => T.getD i undef, rfl, rfl, HM0.out, by rw [List.nil_append, HNL.out]; exact congrArg (fun T => (Act.mk T [])) hT⟩
        exact sta _ rfl
      case round =>
        rintro q a W ⟨kept, rest, bs, Al, cl, Ar, cr, u, rfl, hcr, hm, rfl⟩ J K hJ hK
        have z9 : W.cell? ⟨b9, 0, none⟩ = some (.int .i64 (kept.length : Int)) := by simpa using a7 hm.at9 0
        cases rest with
        | nil =>
          rw [List.append_nil] at hm ⊢
          have hend : kept.map (·.1) = coreR ds [] (numbered rs) := hcr
          have d1 : decide ((kept.length : Int) < (kept.length : Int)) = false := decide_eq_false (by omega)
          have d2 : decide (kept.length < kept.length) = false := decide_eq_false (by omega)
          have HM := Aside0.mk hm
          have HE := Aside0.mk hend
          clear hm hcr hend
          go_wp2_with (fail)
          rw [Exit.noGoto_ret]
          refine iD bs W HM.out.nodup (fun b hb => (HM.out.defs b hb).2) ?_
          intro W' h1 h2 h3 h4 h5
          have hown : W'.ownsRow w5.heap.size 3 1 (.slice Al kept.length cl) kept.length (cI .i64 (kept.map (·.1))) := own_keep HM.out.own (fun g hg => h1 g (fun hb => by
            have hd := (HM.out.defs g hb).2
            rcases HM.out.own.2 with ⟨h, _⟩ | ⟨g', c', cur, e1, e2, e3, _⟩
            · rw [h] at hg; cases hg
            · rw [e1] at hg
              have hgg : g' = g := by simpa [Value.ownBlock] using hg
              subst hgg
              rw [hd] at e3
              cases e3))
          have hb1 : Below w5.heap.size w5 W' := HM.out.below.trans ⟨h3, h4, h5, by rw [h2]; exact Nat.le_refl _, fun k hk => h1 k (fun hb => by
            have := (HM.out.defs k hb).1
            have := HM.out.base
            omega)⟩
          refine ⟨.tuple #[.slice Al kept.length cl, .bool true, .int .i64 0], by simp [results, Try.results25, go_sem], .slice Al kept.length cl, rfl, ?_, HB5.out.trans (hb1.mono HB5.out.size)⟩
          rw [← HE.out]
          rw [show (kept.map (·.1)).length = kept.length by simp]
          exact fF hown HB5.out.size
        | cons r rest =>
          obtain ⟨N, hN⟩ : ∃ N, (kept ++ r :: rest).length = N := ⟨_, rfl⟩
          obtain ⟨k, hk⟩ : ∃ k, kept.length = k := ⟨_, rfl⟩
          have hNk : N = k + 1 + rest.length := by rw [← hN, ← hk, List.length_append, List.length_cons]; omega
          have hN2 : N ≤ 200 := by rw [← hN]; exact hm.len
          have hcap : N ≤ cr := by rw [← hN]; exact hm.capr
          have d1 : decide ((k : Int) < (N : Int)) = true := decide_eq_true (by omega)
          have d2 : decide (k < N) = true := decide_eq_true (by omega)
          have HM := Aside0.mk hm
          have HN := Aside0.mk hN
          have HK := Aside0.mk hk
          have HNK := Aside0.mk (And.intro hNk (And.intro hN2 hcap))
          have z9d : W.drew.cell? ⟨b9, 0, none⟩ = some (.int .i64 (k : Int)) := by rw [← hk]; simpa using z9
          rw [hk] at z9
          rw [hN]
          have q1 : (k ≤ N) = True := eq_true (by omega)
          have q2 : (k + 1 ≤ N) = True := eq_true (by omega)
          have q3 : (k ≤ cr) = True := eq_true (by omega)
          have q4 : ((k : Int) + 1 ≤ (N : Int)) = True := eq_true (by omega)
          have q5 : ((k : Int) ≤ (cr : Int)) = True := eq_true (by omega)
          have q6 : ((0 : Int) ≤ (k : Int) + 1) = True := eq_true (by omega)
          have hk200 : k < 1000 := by omega
          clear hm hN hk hNk hN2 hcap
          go_wp2_with (fail)
          have hwk1 : wrap64 ((k : Int) + 1) = (k : Int) + 1 := iR _ (by omega) (by omega)
          refine wp_calm ?_
          refine eS (n := 10) (S := fun w' => True ∧ w'.cell? ⟨b9, 0, none⟩ = some (.int .i64 (k : Int))) (ds := []) #[false, false, false, false, false, false, false, false, false, false] (by kernel_rfl) rfl rfl ⟨trivial, z9d⟩ (fun hHeld => ?_)
          refine gF tab12 (fun HT_ => ?_)
          refine aY (i := 0) (N := some 40) (v := ?_) (a' := ?_) #[true, false, false, false, false, false, false, false, false, false] rfl rfl (aG HT_.out (by kernel_rfl)) (fun _ _ _ h => h) (Or.inl ⟨by rfl, ?_⟩) ?_ ?_
          rotate_left
          · intro w'
            go_simp
            with_reducible rfl
          rotate_left
          · simp only [Act.put, List.setIfInBounds_toArray, List.set_cons_zero, List.set_cons_succ, aw, ax]
            rfl
          refine aY (i := 3) (N := some 43) (v := ?_) (a' := ?_) #[true, false, false, true, false, false, false, false, false, false] rfl rfl (aG HT_.out (by kernel_rfl)) (fun _ _ _ h => h) (Or.inl ⟨by rfl, ?_⟩) ?_ ?_
          rotate_left
          · intro w'
            go_simp
            with_reducible rfl
          rotate_left
          · simp only [Act.put, List.setIfInBounds_toArray, List.set_cons_zero, List.set_cons_succ, aw, ax]
            rfl
          refine take_ (i := 1) (N := some 41) (v := ?_) (a' := ?_) #[true, true, false, true, false, false, false, false, false, false] rfl rfl (dH HT_.out (by kernel_rfl)) (fun _ _ _ h => h) (Or.inl ⟨by rfl, ?_⟩) hHeld ?_ ?_
          rotate_left
          · rintro w' ⟨s0, s1⟩
            go_simp
            with_reducible rfl
          rotate_left
          · simp only [Act.put, List.setIfInBounds_toArray, List.set_cons_zero, List.set_cons_succ, aw, ax]
            rfl
          refine aY (i := 2) (N := some 42) (v := ?_) (a' := ?_) #[true, true, true, true, false, false, false, false, false, false] rfl rfl (aG HT_.out (by kernel_rfl)) (fun _ _ _ h => h) (Or.inl ⟨by rfl, ?_⟩) ?_ ?_
          rotate_left
          · intro w'
            go_simp
            with_reducible rfl
          rotate_left
          · simp only [Act.put, List.setIfInBounds_toArray, List.set_cons_zero, List.set_cons_succ, aw, ax]
            rfl
          refine take_ (i := 4) (N := some 44) (v := ?_) (a' := ?_) #[true, true, true, true, true, false, false, false, false, false] rfl rfl (dH HT_.out (by kernel_rfl)) (fun _ _ _ h => h) (Or.inl ⟨by rfl, ?_⟩) hHeld ?_ ?_
          rotate_left
          · rintro w' ⟨s0, s1⟩
            go_simp
            with_reducible rfl
          rotate_left
          · simp only [Act.put, List.setIfInBounds_toArray, List.set_cons_zero, List.set_cons_succ, aw, ax]
            rfl
          refine aY (i := 5) (N := some 45) (v := ?_) (a' := ?_) #[true, true, true, true, true, true, false, false, false, false] rfl rfl (aG HT_.out (by kernel_rfl)) (fun _ _ _ h => h) (Or.inl ⟨by rfl, ?_⟩) ?_ ?_
          rotate_left
          · intro w'
            go_simp
            with_reducible rfl
          rotate_left
          · simp only [Act.put, List.setIfInBounds_toArray, List.set_cons_zero, List.set_cons_succ, aw, ax]
            rfl
          refine aY (i := 6) (N := some 46) (v := ?_) (a' := ?_) #[true, true, true, true, true, true, true, false, false, false] rfl rfl (aG HT_.out (by kernel_rfl)) (fun _ _ _ h => h) (Or.inl ⟨by rfl, ?_⟩) ?_ ?_
          rotate_left
          · intro w'
            go_simp
            with_reducible rfl
          rotate_left
          · simp only [Act.put, List.setIfInBounds_toArray, List.set_cons_zero, List.set_cons_succ, aw, ax]
            rfl
          refine gB (i := 7) (N := some 47) #[true, true, true, true, true, true, true, true, false, false] rfl rfl (bP HT_.out (by kernel_rfl)) (by decide) (fun K hK => ?_)
          refine dO (w1 := W.drew.alloc (.cells #[.slice Ar k cr, .slice (if cr = k + 1 then Ar else Option.map (fun x => x.add ((k + 1) * 4)) Ar) (N - (k + 1)) (cr - (k + 1))] 23)) (v := .slice (some ⟨W.drew.heap.size, 0, none⟩) 2 2) rfl (by first | (go_simp; done) | (go_simp; rfl)) ?_
          refine hK.out _ _ ⟨trivial, f6 z9d _⟩ (fun hHeld => ?_)
          clear hK K
          refine bZ (a' := ?_) ?_ ?_
          rotate_left
          · show Act.put _ (some 47) _ = _
            simp only [Act.put, List.setIfInBounds_toArray, List.set_cons_zero, List.set_cons_succ, aw, ax]
            rfl
          refine gB (i := 8) (N := some 48) #[true, true, true, true, true, true, true, true, true, false] rfl rfl (bP HT_.out (by kernel_rfl)) (by decide) (fun K hK => ?_)
          have hbA : Below W.heap.size W (W.drew.alloc (.cells #[.slice Ar k cr, .slice (if cr = k + 1 then Ar else Option.map (fun x => x.add ((k + 1) * 4)) Ar) (N - (k + 1)) (cr - (k + 1))] 23)) := ⟨rfl, rfl, rfl, by simp, fun j hj => (a6 (Below.refl W.drew.heap.size W.drew) _).block j hj⟩
          have hl0 : (kept.map (·.2)).length = k := by rw [List.length_map]; exact HK.out
          have hl1 : (rest.map (·.2)).length = N - (k + 1) := by rw [List.length_map]; have := HNK.out.1; omega
          have hlo : ∀ j, (Value.slice Al (kept ++ r :: rest).length cl).ownBlock = some j → j < W.heap.size := fun j hj => own_lt HM.out.own j hj
          have hb9l : b9 < W.heap.size := bf HM.out.at9
          have hcall := CC.concat_calls W.drew.heap.size Ar cr (kept.map (·.2)) (if cr = k + 1 then Ar else Option.map (fun x => x.add ((k + 1) * 4)) Ar) (cr - (k + 1)) (rest.map (·.2)) (W.drew.alloc (.cells #[.slice Ar k cr, .slice (if cr = k + 1 then Ar else Option.map (fun x => x.add ((k + 1) * 4)) Ar) (N - (k + 1)) (cr - (k + 1))] 23))
            (by rw [hl0, hl1]; exact bz W.drew _) (fun j => some j ≠ (Value.slice Al (kept ++ r :: rest).length cl).ownBlock ∧ j ≠ b9) (fun j hj => by
              have h1 : W.heap.size < j := by simp at hj; omega
              exact ⟨fun e => by have := hlo j e.symm; omega, by omega⟩)
            (by
              have h := Kd.F_take (m := k) (xs := (kept ++ r :: rest).map (·.2)) (by rw [List.length_map]; exact HM.out.rules) (by rw [List.length_map, HN.out]; have := HNK.out.1; omega)
              rw [List.map_append, show k = (kept.map (·.2)).length from hl0.symm, List.take_left] at h
              exact fLater h hbA)
            (by rw [hl0]; have := HNK.out; omega)
            (by
              have h := Kd.F_cut (m := k + 1) (c := cr) (xs := (kept ++ r :: rest).map (·.2)) (by rw [List.length_map]; exact HM.out.rules) (by rw [List.length_map, HN.out]; have := HNK.out.1; omega) (by rw [List.length_map]; exact HM.out.capr)
              have hdrop : ((kept ++ r :: rest).map (·.2)).drop (k + 1) = rest.map (·.2) := by
                rw [List.map_append, List.map_cons, ← hl0, List.drop_append, List.drop_of_length_le (by omega)]
                simp
              rw [hdrop] at h
              exact fLater h hbA)
            (by rw [hl1]; have := HNK.out; omega) (by rw [hl0]; have := HNK.out; omega) (by rw [hl1]; have := HNK.out; omega)
          refine goes_ Try.func45 (by kernel_rfl) rfl #[.slice (some ⟨W.drew.heap.size, 0, none⟩) 2 2] (by rfl) rfl rfl (by (try simp only [List.map_toArray, List.map_cons, List.map_nil]); first | done | rfl) ?_
          refine hcall.mono ?_
          rintro e w2 ⟨v2, rfl, hn2, hb2⟩
          refine ⟨_, rfl, ?_⟩
          obtain ⟨A2, c2, hv2⟩ := Kd.N_slice hn2
          subst hv2
          have hbw2 : Below W.heap.size W w2 := hbA.trans (hb2.mono hbA.size)
          have hll : (kept.map (·.2) ++ rest.map (·.2)).length = N - 1 := by rw [List.length_append, hl0, hl1]; have := HNK.out.1; omega
          have hcN := (Kd.N_reads' hn2).2.1
          have hCN := (Kd.N_reads' hn2).2.2
          have hFN := Kd.N_F hn2
          have HF2 := Aside0.mk hFN
          have HC2 := Aside0.mk hcN
          have HCN := Aside0.mk hCN
          have HB2 := Aside0.mk hbw2
          have HLL := Aside0.mk hll
          have HLO := Aside0.mk hlo
          have HB9 := Aside0.mk hb9l
          have z9_2 : w2.cell? ⟨b9, 0, none⟩ = some (.int .i64 (k : Int)) := (hbw2.cell (p := ⟨b9, 0, none⟩) hb9l).trans z9
          rw [hll]
          clear hcall hn2 hb2 hbA hbw2 hl0 hl1 hlo hb9l hll hcN hCN hFN
          refine hK.out _ _ ⟨trivial, z9_2⟩ (fun hHeld => ?_)
          clear hK K
          refine bZ (a' := ?_) ?_ ?_
          rotate_left
          · show Act.put _ (some 48) _ = _
            simp only [Act.put, List.setIfInBounds_toArray, List.set_cons_zero, List.set_cons_succ, aw, ax]
            rfl
          refine aY (i := 9) (N := some 10) (v := ?_) (a' := ?_) #[true, true, true, true, true, true, true, true, true, true] rfl rfl (aG HT_.out (by kernel_rfl)) (fun _ _ _ h => h) (Or.inl ⟨by rfl, ?_⟩) ?_ ?_
          rotate_left
          · intro w'
            go_simp
            with_reducible rfl
          rotate_left
          · simp only [Act.put, List.setIfInBounds_toArray, List.set_cons_zero, List.set_cons_succ, aw, ax]
            rfl
          refine gW (dj HT_.out (by kernel_rfl)) ?_
          have hbk2 : w2.heap[s]? = some (.cells #[.slice A0 ds.length c0, .slice A1 rs.length c1] 25 (0, 0)) := by
            have h1 := HBK.out
            rw [HSS.out] at h1
            exact af (af h1 HM.out.below) HB2.out
          have zz := a7 hbk2 0
          simp only [List.getElem?_toArray, List.getElem?_cons_zero] at zz
          obtain ⟨A4, hA4⟩ : ∃ A4, (if cr = k + 1 then Ar else Option.map (fun x => x.add ((k + 1) * 4)) Ar) = A4 := ⟨_, rfl⟩
          rw [hA4]
          clear hHeld HT_ hwk1 z9d hbk2 hA4
          go_wp2_with (go_at_call 46; refine (iz A0 ds.length c0 A2 (N - 1) c2 _).mono ?_; rintro e w' ⟨rfl, rfl⟩)
          obtain ⟨b5, hb5⟩ : ∃ b5, w2.heap.size = b5 := ⟨_, rfl⟩
          obtain ⟨W3, hW3⟩ : ∃ W3, (w2.alloc (.cells #[.slice A0 ds.length c0] 22)).alloc (.cells #[.slice A2 (N - 1) c2] 23) = W3 := ⟨_, rfl⟩
          have hB3 : Below w2.heap.size w2 W3 := by rw [← hW3]; exact a6 (a6 (Below.refl _ _) _) _
          have hz3 : W3.heap.size = b5 + 1 + 1 := by rw [← hW3, ← hb5]; simp
          have k5 : W3.heap[b5]? = some (.cells #[.slice A0 ds.length c0] 22 (0, 0)) := by rw [← hW3, ← hb5]; exact aa (bz w2 _) _
          have k6 : W3.heap[b5 + 1]? = some (.cells #[.slice A2 (N - 1) c2] 23 (0, 0)) := by
            rw [← hW3, ← hb5]
            have h := bz (w2.alloc (.cells #[.slice A0 ds.length c0] 22)) (.cells #[.slice A2 (N - 1) c2] 23)
            rw [World.size_alloc] at h
            exact h
          obtain ⟨less, hless⟩ : ∃ less, kept.map (·.2) ++ rest.map (·.2) = less := ⟨_, rfl⟩
          have hlen : less.length = N - 1 := by rw [← hless]; exact HLL.out
          have hBWW : Below w.heap.size w W3 := HB5.out.trans ((HM.out.below.mono HB5.out.size).trans ((HB2.out.mono (by have := HM.out.below.size; have := HB5.out.size; omega)).trans (hB3.mono (by have h1 := HM.out.below.size; have h2 := HB5.out.size; have h3 := HB2.out.size; omega))))
          have hcn := HCN.out
          have hf2 := HF2.out
          rw [hless] at hcn hf2
          have hcn3 : Kd.C k49 W3 A2 less.length less := Kd.C_below hcn hB3
          have hseq := iter_once 2 (by omega) b5 (b5 + 1) A0 c0 ds A2 c2 less W3 k5 (by rw [hlen]; exact k6) (Kd.C_below HR0.out hBWW) hcn3 (fun r' hr' => HM.out.ok r' (by
            rw [← hless] at hr'
            rcases List.mem_append.mp hr' with h | h
            · rw [List.map_append]; exact List.mem_append.mpr (.inl h)
            · rw [List.map_append, List.map_cons]; exact List.mem_append.mpr (.inr (List.mem_cons_of_mem _ h)))) HD.out.1 HD.out.2
          have HSEQ := Aside0.mk hseq
          have HB3 := Aside0.mk hB3
          have HZ3 := Aside0.mk hz3
          have HBW := Aside0.mk (show Below W.heap.size W W3 from HB2.out.trans (hB3.mono HB2.out.size))
          have HLS := Aside0.mk hless
          have HLN := Aside0.mk hlen
          have HF3 := Aside0.mk (fLater hf2 hB3)
          rw [hW3, hb5]
          clear hW3 hb5 hB3 hz3 k5 k6 hless hlen hBWW hcn hf2 hcn3 hseq
          refine (wpIn_wide (n := 3)).1 ?_
          refine jh rfl (by omega) (gf := 62) (lb := #[.pointer (some ⟨b5, 0, none⟩), .pointer (some ⟨b5 + 1, 0, none⟩)]) rfl trivial (enters_of Try.func62 (by kernel_rfl) rfl) HSEQ.out (fun args W ⟨x, A, c, _, e, _⟩ => by rw [e]; rfl) ?hY
            (fun c W' => c = .exit 3 ∧ W'.heap[b9]? = some (.cells #[.int .i64 ((k : Int) + 1)] 3 (0, 0)) ∧ W3.grownBy W' (some b9)) ?hIx ?body ?done ?stop
          case hY =>
            rintro args W o o' ⟨x, A, c, h1, h2, h3⟩ hl ho
            exact ⟨x, A, c, h1, h2, ownsRow_putObj h3 _ hl ho⟩
          case hIx =>
            rintro c W' o o' ⟨h0, h1, h2⟩ hl ho
            have hlt : b9 < W3.heap.size := Nat.lt_of_lt_of_le HB9.out HBW.out.size
            refine ⟨h0, ?_, ?_⟩
            · rw [World.putObj_heap_other (by omega)]; exact h1
            · exact ⟨h2.os, h2.tape, h2.output, by rw [World.putObj_size]; exact h2.size, fun j hj hne => by rw [World.putObj_heap_other (by omega)]; exact h2.block j hj hne⟩
          case body =>
            rintro l args W' _ ⟨x, A, c, _, rfl, _⟩ hb hsz
            have h9 : W'.heap[b9]? = some (.cells #[.int .i64 (k : Int)] 3 (0, 0)) := by
              have h := af (af HM.out.at9 HBW.out) hb
              rw [HK.out] at h
              exact h
            have y9 := a7 h9 0
            have f9 := a8 h9 0
            simp only [List.getElem?_toArray, List.getElem?_cons_zero] at y9
            have H9 := Aside0.mk h9
            clear h9 z9 z9_2
            simp only [foldOne, List.setIfInBounds_toArray, List.set_cons_succ, List.set_cons_zero]
            gi_wp2
            refine ⟨(KeepsOthers.setCell _ _ _).from _, rfl, ?_, ?_⟩
            · exact dk H9.out 0 _
            · exact ⟨hb.os, hb.tape, hb.output, by simp; exact hb.size, fun j hj hne => (Below.heap_setCell _ _ _ _ (fun e => hne (by rw [e]))).trans (hb.block j hj)⟩
          case done =>
            intro W' hno hb hD
            obtain ⟨m, rfl⟩ : ∃ m, N = m + 1 := ⟨N - 1, by have := HNK.out.1; omega⟩
            have hBWW := HBW.out.trans (hb.mono HBW.out.size)
            have hown := cZ HM.out.own hBWW
            rw [HN.out] at hown
            obtain ⟨g, hg⟩ : ∃ g, Al = some ⟨g, 0, none⟩ := by
              rcases hown.2 with ⟨_, h0⟩ | ⟨g, cp, cur, h1, _⟩
              · omega
              · injection h1 with h1
                exact ⟨g, h1⟩
            subst hg
            have hlt9 : b9 < W3.heap.size := Nat.lt_of_lt_of_le HB9.out HBW.out.size
            have hg9 : g ≠ b9 := fun e => HM.out.ne9 (by rw [e]; rfl)
            have h9 : W'.heap[b9]? = some (.cells #[.int .i64 (k : Int)] 3 (0, 0)) := by
              have h := af HM.out.at9 hBWW
              rw [HK.out] at h
              exact h
            have y9 := a7 h9 0
            simp only [List.getElem?_toArray, List.getElem?_cons_zero] at y9
            have hdel := DD.delete_ok g cl m k w5.heap.size ((kept ++ r :: rest).map (·.1)) W' (by rw [List.length_map]; exact HN.out) (by have := HNK.out.1; omega) (by rw [List.length_map, HN.out]; have := HNK.out.2.1; omega) hown (Nat.le_trans HM.out.below.size hBWW.size)
            have HDEL := Aside0.mk hdel
            have H9 := Aside0.mk h9
            have HG9 := Aside0.mk hg9
            have HBB := Aside0.mk hBWW
            have HB1 := Aside0.mk hb
            have HDD := Aside0.mk hD
            have HNO := Aside0.mk hno
            have HLT9 := Aside0.mk hlt9
            clear hno hb hD hBWW hown hlt9 hg9 h9 hdel z9 z9_2
            go_wp2_with (go_at_call 47; refine HDEL.out.mono ?_; rintro e w4 ⟨rfl, ho4, hg4⟩; have HO4 := Aside0.mk ho4; have HG4 := Aside0.mk hg4; clear ho4 hg4)
            have hcr2 : coreR ds kept rest = coreR ds [] (numbered rs) := by
              rw [← hcr]
              show _ = (if (sol (badB (kept.map (·.2) ++ rest.map (·.2))) ds []).isSome then coreR ds (kept ++ [r]) rest else coreR ds kept rest)
              rw [HLS.out, if_neg]
              intro h
              obtain ⟨x, hx⟩ := Option.isSome_iff_exists.mp h
              exact HNO.out ⟨x, hx⟩
            have hl2 : (kept ++ rest).length = m := by rw [List.length_append, HK.out]; have := HNK.out.1; omega
            have her : ((kept ++ r :: rest).map (·.1)).eraseIdx k = (kept ++ rest).map (·.1) := by
              rw [List.map_append, List.map_cons, List.map_append, List.eraseIdx_append_of_length_le (by rw [List.length_map, HK.out]; exact Nat.le_refl _), List.length_map, HK.out, Nat.sub_self]
              rfl
            have hmap : (kept ++ rest).map (·.2) = less := by rw [List.map_append]; exact HLS.out
            have hnb : ∀ b ∈ bs, b < W.heap.size := fun b hb => (Array.getElem?_eq_some_iff.1 (HM.out.defs b hb).2).1
            have hown := HM.out.own
            rw [HN.out] at hown
            have hgW : ∃ cur, W.heap[g]? = some (.cells cur 3 (0, 0)) := by
              rcases hown.2 with ⟨h, _⟩ | ⟨g', cp, cur, h1, _, h3, _⟩
              · cases h
              · injection h1 with h1 _ _
                injection h1 with h1
                injection h1 with h1 _ _
                subst h1
                exact ⟨cur, h3⟩
            obtain ⟨cur, hcur⟩ := hgW
            have hgb : w5.heap.size ≤ g := cJ hown g rfl
            have hgl := bf hcur
            have hm2 : CMem s b9 w5 (kept ++ rest) kept.length (W3.heap.size :: bs) (some ⟨g, 0, none⟩) cl A2 c2 w4 := by
              refine ⟨?_, ?_, ?_, ?_, ?_, ?_, HM.out.base, ?_, ?_, ?_, ?_⟩
              · rw [HK.out]
                exact (HG4.out.block b9 (Nat.lt_of_lt_of_le HLT9.out HB1.out.size) (fun e => HG9.out (Option.some.inj e).symm)).trans H9.out
              · rw [hl2]
                have h := HO4.out
                rw [her] at h
                exact h
              · intro e
                exact HG9.out (Option.some.inj e).symm
              · rw [hl2, hmap]
                have h := HF3.out
                rw [show less.length = m from by rw [HLN.out]; rfl] at h
                exact fGrown (fLater h HB1.out) HG4.out (fun j hj e => hj.1 (by rw [e]; rfl))
              · rw [hl2]
                have h := HC2.out
                rw [HLL.out] at h
                exact h
              · exact ((HM.out.below.trans (HBB.out.mono HM.out.below.size))).grown HG4.out (Nat.le_trans HM.out.below.size HBB.out.size) (fun j hj => by cases hj; exact hgb)
              · exact List.nodup_cons.mpr ⟨fun h => by have := hnb _ h; have := HBW.out.size; omega, HM.out.nodup⟩
              · intro b hb
                rcases List.mem_cons.mp hb with rfl | hb
                · exact ⟨HLT9.out, (HG4.out.block _ (bf HDD.out) (fun e => by have h := Option.some.inj e; have := HBW.out.size; omega)).trans HDD.out⟩
                · have hd := HM.out.defs b hb
                  exact ⟨hd.1, (HG4.out.block b (Nat.lt_of_lt_of_le (hnb b hb) HBB.out.size) (fun e => by
                    have h := Option.some.inj e
                    subst h
                    rw [hd.2] at hcur
                    cases hcur)).trans ((HBB.out.block b (hnb b hb)).trans hd.2)⟩
              · intro r' hr'
                rw [List.map_append] at hr'
                refine HM.out.ok r' ?_
                rw [List.map_append, List.map_cons]
                rcases List.mem_append.mp hr' with h | h
                · exact List.mem_append.mpr (.inl h)
                · exact List.mem_append.mpr (.inr (List.mem_cons_of_mem _ h))
              · rw [hl2]; have := HNK.out.2.1; omega
            have HM2 := Aside0.mk hm2
            have HL2 := Aside0.mk hl2
            have fin : ∀ T : Array Value, T = List.toArray (T.getD 0 undef :: (.pointer (some ⟨s, 0, none⟩) : Value) :: (.slice (some ⟨g, 0, none⟩) m cl : Value) :: T.getD 3 undef :: T.getD 4 undef :: T.getD 5 undef :: T.getD 6 undef :: (.slice A2 m c2 : Value) :: T.getD 8 undef :: (.pointer (some ⟨b9, 0, none⟩) : Value) :: T.getD 10 undef :: T.getD 11 undef :: T.getD 12 undef :: T.getD 13 undef :: T.getD 14 undef :: T.getD 15 undef :: T.getD 16 undef :: T.getD 17 undef :: T.getD 18 undef :: T.getD 19 undef :: T.getD 20 undef :: T.getD 21 undef :: T.getD 22 undef :: T.getD 23 undef :: T.getD 24 undef :: T.getD 25 undef :: T.getD 26 undef :: T.getD 27 undef :: T.getD 28 undef :: T.getD 29 undef :: T.getD 30 undef :: T.getD 31 undef :: T.getD 32 undef :: T.getD 33 undef :: T.getD 34 undef :: T.getD 35 undef :: T.getD 36 undef :: T.getD 37 undef :: T.getD 38 undef :: T.getD 39 undef :: T.getD 40 undef :: T.getD 41 undef :: T.getD 42 undef :: T.getD 43 undef :: T.getD 44 undef :: T.getD 45 undef :: T.getD 46 undef :: T.getD 47 undef :: T.getD 48 undef :: T.getD 49 undef :: T.getD 50 undef :: T.getD 51 undef :: T.getD 52 undef :: T.getD 53 undef :: T.getD 54 undef :: T.getD 55 undef :: T.getD 56 undef :: T.getD 57 undef :: T.getD 58 undef :: T.getD 59 undef :: T.getD 60 undef :: T.getD 61 undef :: T.getD 62 undef :: []) → Handed J (r :: rest).length { tmps := T, defers := { target := .collected W3.heap.size, args := #[] } :: marks bs } w4 := fun T hT =>
              ⟨rest.length, by simp, hJ _ _ _ ⟨kept, rest, W3.heap.size :: bs, some ⟨g, 0, none⟩, cl, A2, c2, fun i => T.getD i undef, rfl, hcr2, HM2.out, by rw [HL2.out]; exact congrArg (fun T => (Act.mk T _)) hT⟩⟩
            exact fin _ rfl
          case stop =>
            rintro c W' hyes ⟨rfl, h1, h2⟩ hD
            have hkr : (kept ++ [r]) ++ rest = kept ++ r :: rest := by simp
            have hlt : b9 < W3.heap.size := Nat.lt_of_lt_of_le HB9.out HBW.out.size
            have hnb : ∀ b ∈ bs, b < W.heap.size := fun b hb => (Array.getElem?_eq_some_iff.1 (HM.out.defs b hb).2).1
            have hm2 : CMem s b9 w5 ((kept ++ [r]) ++ rest) (kept ++ [r]).length (W3.heap.size :: bs) Al cl Ar cr W' := by
              rw [hkr]
              refine ⟨?_, ?_, HM.out.ne9, ?_, HM.out.capr, ?_, HM.out.base, ?_, ?_, HM.out.ok, HM.out.len⟩
              · rw [show ((kept ++ [r]).length : Int) = (k : Int) + 1 by rw [List.length_append, HK.out]; rfl]; exact h1
              · exact World.ownsRow.kept (cZ HM.out.own HBW.out) h2 (.inr (fun e => HM.out.ne9 e.symm))
              · exact fGrown (fLater HM.out.rules HBW.out) h2 (fun j hj => hj.2)
              · exact (HM.out.below.trans (HBW.out.mono HM.out.below.size)).grown h2 (Nat.le_trans HM.out.below.size HBW.out.size) (fun j hj => by cases hj; exact HM.out.base)
              · exact List.nodup_cons.mpr ⟨fun h => by have := hnb _ h; have := HBW.out.size; omega, HM.out.nodup⟩
              · intro b hb
                rcases List.mem_cons.mp hb with rfl | hb
                · exact ⟨hlt, hD⟩
                · have hd := HM.out.defs b hb
                  exact ⟨hd.1, (h2.block b (Nat.lt_of_lt_of_le (hnb b hb) HBW.out.size) (fun e => by cases e; omega)).trans ((HBW.out.block b (hnb b hb)).trans hd.2)⟩
            have hcr2 : coreR ds (kept ++ [r]) rest = coreR ds [] (numbered rs) := by
              rw [← hcr]
              show _ = (if (sol (badB (kept.map (·.2) ++ rest.map (·.2))) ds []).isSome then coreR ds (kept ++ [r]) rest else coreR ds kept rest)
              rw [HLS.out, if_pos (by obtain ⟨x, hx⟩ := hyes; rw [hx]; rfl)]
            have HM2 := Aside0.mk hm2
            have HCR2 := Aside0.mk hcr2
            have HL2 := Aside0.mk (show ((kept ++ [r]) ++ rest).length = N by rw [hkr]; exact HN.out)
            clear hkr hlt hnb hm2 hcr2 h1 h2 hD hyes z9 z9_2
            gi_wp2
            have fin : ∀ T : Array Value, T = List.toArray (T.getD 0 undef :: (.pointer (some ⟨s, 0, none⟩) : Value) :: (.slice Al N cl : Value) :: T.getD 3 undef :: T.getD 4 undef :: T.getD 5 undef :: T.getD 6 undef :: (.slice Ar N cr : Value) :: T.getD 8 undef :: (.pointer (some ⟨b9, 0, none⟩) : Value) :: T.getD 10 undef :: T.getD 11 undef :: T.getD 12 undef :: T.getD 13 undef :: T.getD 14 undef :: T.getD 15 undef :: T.getD 16 undef :: T.getD 17 undef :: T.getD 18 undef :: T.getD 19 undef :: T.getD 20 undef :: T.getD 21 undef :: T.getD 22 undef :: T.getD 23 undef :: T.getD 24 undef :: T.getD 25 undef :: T.getD 26 undef :: T.getD 27 undef :: T.getD 28 undef :: T.getD 29 undef :: T.getD 30 undef :: T.getD 31 undef :: T.getD 32 undef :: T.getD 33 undef :: T.getD 34 undef :: T.getD 35 undef :: T.getD 36 undef :: T.getD 37 undef :: T.getD 38 undef :: T.getD 39 undef :: T.getD 40 undef :: T.getD 41 undef :: T.getD 42 undef :: T.getD 43 undef :: T.getD 44 undef :: T.getD 45 undef :: T.getD 46 undef :: T.getD 47 undef :: T.getD 48 undef :: T.getD 49 undef :: T.getD 50 undef :: T.getD 51 undef :: T.getD 52 undef :: T.getD 53 undef :: T.getD 54 undef :: T.getD 55 undef :: T.getD 56 undef :: T.getD 57 undef :: T.getD 58 undef :: T.getD 59 undef :: T.getD 60 undef :: T.getD 61 undef :: T.getD 62 undef :: []) → Handed J (rest.length + 1) { tmps := T, defers := { target := .collected W3.heap.size, args := #[] } :: marks bs } W' := fun T hT =>
              ⟨rest.length, by omega, hJ _ _ _ ⟨kept ++ [r], rest, W3.heap.size :: bs, Al, cl, Ar, cr, fun i => T.getD i undef, rfl, HCR2.out, HM2.out, by rw [HL2.out]; exact congrArg (fun T => (Act.mk T _)) hT⟩⟩
            exact fin _ rfl
end DF
end Go.Proofs.Ytcbpkdemcdikaaa.X
namespace Go.Proofs.Ytcbpkdemcdikaaa.X
open Go.RowKit Go.Proofs.YtcbpkdemcdikaaaW.PrintWords Go.Proofs.YtcbpkdemcdikaaaW.PrintLast Go.Proofs.YtcbpkdemcdikaaaW.PrintMore
attribute [local go_sem] aK aJ bc aX aD aE aM aN   
set_option linter.unusedVariables false
set_option linter.unusedSimpArgs false
def search_Core.f (k : Nat) (aj : List (List Int)) (ag : List (S49)) : Option (List Int × Bool × Int) :=
 (search_Solve.f k aj ag).bind fun s => if s.2.2 ≠ 0 ∨ s.2.1 = true then some ([], false, s.2.2) else if ag.all SF.okB && decide (0 < aj.length) && decide (aj.length ≤ 1000) && decide (ag.length ≤ 200) then some (DF.coreR aj [] (DF.numbered ag), true, 0) else none
theorem search_Core.calls (k : Nat) (ar : Option Addr) (ap : Nat) (aj : List (List Int)) (au : Option Addr) (ao : Nat) (ag : List (S49)) (r1 : List Int) (r2 : Bool) (r3 : Int) (w : World) (bL : Kd.C (Kd.slice 3 (Kd.int .i64)) w ar aj.length aj) (bR : aj.length ≤ ap) (bE : Kd.C k49 w au ag.length ag) (bJ : ag.length ≤ ao) (h : search_Core.f k aj ag = some (r1, r2, r3)) :
  Calls Try.prog 25 #[.agg #[.slice ar aj.length ap, .slice au ag.length ao]] w fun e w' => ∃ v0_ : Value, e = .returned (.tuple #[v0_, .bool r2, .int .i64 r3]) ∧ Kd.R (Kd.int .i64) 3 w' w.heap.size (fun _ => True) v0_ r1 ∧ Below w.heap.size w w' := by
 unfold search_Core.f at h
 obtain ⟨⟨s1, s2, s3⟩, hs, h⟩ := Option.bind_eq_some_iff.mp h
 have hS : ∀ W, Below w.heap.size w W → Calls Try.prog 15 #[.agg #[.slice ar aj.length ap, .slice au ag.length ao]] W fun e w' => ∃ v0, e = .returned (.tuple #[v0, .bool s2, .int .i64 s3]) ∧ Below W.heap.size W w' := fun W hW =>
  (search_Solve.calls k ar ap aj au ao ag s1 s2 s3 W (Kd.C_below bL hW) bR (Kd.C_below bE hW) bJ hs).mono (by rintro e w' ⟨v, he, -, hb⟩; exact ⟨v, he, hb⟩)
 simp only at h
 split at h
 ·rename_i hno
  cases h
  refine (DF.core_no ar ap aj au ao ag w s2 _ hno hS).mono ?_
  rintro e w' ⟨he, hb⟩
  exact ⟨_, he, Kd.R_of_own (World.ownsRow_nil _ _ _ _) (fun _ _ => trivial), hb⟩
 ·rename_i hyes
  split at h
  ·rename_i hk
   simp only [Bool.and_eq_true, decide_eq_true_eq, List.all_eq_true] at hk
   cases h
   obtain rfl : s3 = 0 := Decidable.byContradiction fun hn => hyes (.inl hn)
   obtain rfl : s2 = false := Bool.eq_false_iff.mpr fun hn => hyes (.inr hn)
   refine (DF.core_yes ar ap aj au ao ag w hS bL bE bJ (fun r hr => SF.okB_R (hk.1.1.1 r hr)) hk.1.1.2 hk.1.2 hk.2).mono ?_
   rintro e w' ⟨v, he, ho, hb⟩
   exact ⟨v, he, Kd.R_of_own ho (fun _ _ => trivial), hb⟩
  ·cases h
end Go.Proofs.Ytcbpkdemcdikaaa.X
namespace Go.Proofs.Ytcbpkdemcdikaaa.X
open Go.RowKit Go.Proofs.YtcbpkdemcdikaaaW.PrintWords Go.Proofs.YtcbpkdemcdikaaaW.PrintLast Go.Proofs.YtcbpkdemcdikaaaW.PrintMore
attribute [local go_sem] aK aJ bc aX aD aE aM aN   
set_option linter.unusedVariables false
set_option linter.unusedSimpArgs false
namespace SN
attribute [local go_sem] Oper.semAt_some
set_option maxHeartbeats 16000000
theorem da {α : Type} {d : Kd α} {W : World} {g : Nat} {t : TypeId} (l : List α) (cs : List (List Value)) (hl : l.length < 1000) (h : W.heap[g]? = some (.cells cs.flatten.toArray t (0, 0))) (hlen : l.length = cs.length) (hK : ∀ q ∈ l.zip cs, q.2.length = d.sz ∧ d.K W q.1 q.2) : Kd.C d W (some ⟨g, 0, none⟩) l.length l := by
 refine ⟨rfl, by omega, fun hp => ⟨_, rfl, fun j p hj => ?_⟩⟩
 obtain ⟨hj1, rfl⟩ := List.getElem?_eq_some_iff.1 hj
 have hj2 : j < cs.length := hlen ▸ hj1
 have hz : (l.zip cs)[j]'(by simp; omega) = (l[j], cs[j]) := by simp
 obtain ⟨hs, hk⟩ := hK _ (hz ▸ List.getElem_mem (l := l.zip cs) (by simp; omega))
 refine ⟨cs[j], hs, hk, fun i u hu => ?_⟩
 have hi : i < cs[j].length := (List.getElem?_eq_some_iff.1 hu).1
 have hall : ∀ c ∈ cs, c.length = d.sz := fun c hc => by
  obtain ⟨m, hm, rfl⟩ := List.mem_iff_getElem.1 hc
  have hz' : (l.zip cs)[m]'(by simp; omega) = (l[m]'(by omega), cs[m]) := by simp
  exact (hK _ (hz' ▸ List.getElem_mem (l := l.zip cs) (by simp; omega))).1
 have hf : ∀ (cs : List (List Value)) (j : Nat) (hj : j < cs.length), (∀ c ∈ cs, c.length = d.sz) → i < d.sz → cs.flatten[j * d.sz + i]? = cs[j][i]? := by
  intro cs
  induction cs with
  | nil => intro j hj; simp at hj
  | cons a cs ih =>
   intro j hj ha hi
   have ha0 := ha a (by simp)
   cases j with
   | zero => simp [List.getElem?_append_left (by omega : i < a.length)]
   | succ j =>
    rw [List.flatten_cons, List.getElem?_append_right (by rw [ha0, Nat.succ_mul]; omega), ha0, show (j + 1) * d.sz + i - d.sz = j * d.sz + i by rw [Nat.succ_mul]; omega]
    exact ih j (by simpa using hj) (fun c hc => ha c (by simp [hc])) hi
 have := a7 h (j * d.sz + i)
 rw [List.getElem?_toArray, hf cs j hj2 hall (by rw [← hall _ (List.getElem_mem hj2)]; exact hi), hu] at this
 rw [add_plain]
 exact this
theorem flat_nums : ∀ l : List Int, (l.map fun x => [Value.int .i64 x]).flatten = cI .i64 l
 | [] => rfl
 | a :: l => by rw [List.map_cons, List.flatten_cons, flat_nums l]; rfl
theorem cQ {W : World} {g : Nat} {t : TypeId} (l : List Int) (hl : l.length < 1000) (h : W.heap[g]? = some (.cells (cI .i64 l).toArray t (0, 0))) : Kd.C (Kd.int .i64) W (some ⟨g, 0, none⟩) l.length l := by
 refine da l (l.map fun x => [.int .i64 x]) hl (by rw [h, flat_nums]) (by simp) (fun q hq => ?_)
 obtain ⟨j, hj, rfl⟩ := List.mem_iff_getElem.1 hq
 simp only [List.getElem_zip, List.getElem_map]
 exact ⟨rfl, rfl⟩
theorem row_K {W : World} {g : Nat} {l : List Int} (h : Kd.C (Kd.int .i64) W (some ⟨g, 0, none⟩) l.length l) : [Value.slice (some ⟨g, 0, none⟩) l.length l.length].length = (Kd.slice 3 (Kd.int .i64)).sz ∧ (Kd.slice 3 (Kd.int .i64)).K W l [.slice (some ⟨g, 0, none⟩) l.length l.length] := ⟨rfl, _, _, rfl, Nat.le_refl _, h⟩
theorem nil_C {W : World} {α : Type} {d : Kd α} : Kd.C d W none ([] : List α).length [] := ⟨rfl, by simp, fun h => by simp at h⟩
theorem jl {W : World} {g : Nat} {l : List Int} (a b : Int) (h : Kd.C (Kd.int .i64) W (some ⟨g, 0, none⟩) l.length l) : [Value.int .i64 a, .int .i64 b, .slice (some ⟨g, 0, none⟩) l.length l.length, .slice none 0 0].length = k49.sz ∧ k49.K W ⟨a, b, l, []⟩ [.int .i64 a, .int .i64 b, .slice (some ⟨g, 0, none⟩) l.length l.length, .slice none 0 0] :=
 ⟨rfl, k49_mk W ⟨a, b, l, []⟩ (Nat.le_refl _) h (Nat.le_refl _) nil_C⟩
theorem bi : ∀ (L : List Obj) (w : World) (i : Nat) (o : Obj), L[i]? = some o → (L.foldl World.alloc w).heap[w.heap.size + i]? = some o
 | [], _, _, _, h => by simp at h
 | a :: L, w, 0, o, h => by
  obtain rfl : a = o := by simpa using h
  have H : ∀ (L : List Obj) (W : World), W.heap[w.heap.size]? = some a → (L.foldl World.alloc W).heap[w.heap.size]? = some a := by
   intro L
   induction L with
   | nil => intro W hW; exact hW
   | cons b L ih => intro W hW; exact ih _ (aa hW b)
  exact H L _ (bz w a)
 | a :: L, w, i + 1, o, h => by
  have := bi L (w.alloc a) i o (by simpa using h)
  rw [World.size_alloc] at this
  rw [show w.heap.size + (i + 1) = w.heap.size + 1 + i by omega]
  exact this
theorem below_list : ∀ (L : List Obj) (w W : World), Below w.heap.size w W → Below w.heap.size w (L.foldl World.alloc W)
 | [], _, _, h => h
 | a :: L, w, W, h => below_list L w _ (a6 h a)
structure SM (b2 b4 b5 b11 b12 b13 b15 b16 b18 b20 b21 b25 b27 b28 : Nat) (W : World) : Prop where
 k5 : W.heap[b5]? = some (.cells #[.slice (some ⟨b2, 0, none⟩) 2 2, .slice (some ⟨b4, 0, none⟩) 1 1] 25 (0, 0))
 k13 : W.heap[b13]? = some (.cells #[.slice (some ⟨b11, 0, none⟩) 3 3, .slice (some ⟨b12, 0, none⟩) 1 1] 25 (0, 0))
 k16 : W.heap[b16]? = some (.cells #[.slice (some ⟨b11, 0, none⟩) 3 3, .slice (some ⟨b15, 0, none⟩) 2 2] 25 (0, 0))
 k21 : W.heap[b21]? = some (.cells #[.slice (some ⟨b18, 0, none⟩) 1 1, .slice (some ⟨b20, 0, none⟩) 1 1] 25 (0, 0))
 k28 : W.heap[b28]? = some (.cells #[.slice (some ⟨b25, 0, none⟩) 3 3, .slice (some ⟨b27, 0, none⟩) 2 2] 25 (0, 0))
 p2 : Kd.C (Kd.slice 3 (Kd.int .i64)) W (some ⟨b2, 0, none⟩) 2 [[1, 2], [1, 2]]
 q4 : Kd.C k49 W (some ⟨b4, 0, none⟩) 1 [⟨4, 0, [0, 1], []⟩]
 p11 : Kd.C (Kd.slice 3 (Kd.int .i64)) W (some ⟨b11, 0, none⟩) 3 [[0, 1, 2], [0, 1, 2], [0, 1, 2]]
 q12 : Kd.C k49 W (some ⟨b12, 0, none⟩) 1 [⟨2, 0, [0, 1, 2], []⟩]
 q15 : Kd.C k49 W (some ⟨b15, 0, none⟩) 2 [⟨2, 0, [0, 1, 2], []⟩, ⟨3, 2, [0, 1], []⟩]
 p18 : Kd.C (Kd.slice 3 (Kd.int .i64)) W (some ⟨b18, 0, none⟩) 1 [[3, 4]]
 q20 : Kd.C k49 W (some ⟨b20, 0, none⟩) 1 [⟨1, 0, [0], []⟩]
 p25 : Kd.C (Kd.slice 3 (Kd.int .i64)) W (some ⟨b25, 0, none⟩) 3 [[0, 1], [0, 1], [0, 1]]
 q27 : Kd.C k49 W (some ⟨b27, 0, none⟩) 2 [⟨2, 0, [0, 1, 2], []⟩, ⟨4, 0, [0, 1], []⟩]
theorem SM.later {b2 b4 b5 b11 b12 b13 b15 b16 b18 b20 b21 b25 b27 b28 : Nat} {W W' : World} (h : SM b2 b4 b5 b11 b12 b13 b15 b16 b18 b20 b21 b25 b27 b28 W) (hb : Below W.heap.size W W') : SM b2 b4 b5 b11 b12 b13 b15 b16 b18 b20 b21 b25 b27 b28 W' :=
 ⟨af h.k5 hb, af h.k13 hb, af h.k16 hb, af h.k21 hb, af h.k28 hb, Kd.C_below h.p2 hb, Kd.C_below h.q4 hb, Kd.C_below h.p11 hb, Kd.C_below h.q12 hb, Kd.C_below h.q15 hb, Kd.C_below h.p18 hb, Kd.C_below h.q20 hb, Kd.C_below h.p25 hb, Kd.C_below h.q27 hb⟩
def pr5 : List S39 := [⟨0, []⟩, ⟨0, []⟩]
set_option maxRecDepth 100000 in
theorem sane_calls (w : World) : Calls Try.prog 11 #[] w fun e w' => e = .returned (.bool true) ∧ Below w.heap.size w w' := by
 go_enter Try.func11, Try.ntmps11
 go_wp2_with fail
 obtain ⟨b1, hb1⟩ : ∃ b, w.heap.size + 1 = b := ⟨_, rfl⟩
 obtain ⟨b2, hb2⟩ : ∃ b, b1 + 1 = b := ⟨_, rfl⟩
 obtain ⟨b3, hb3⟩ : ∃ b, b2 + 1 = b := ⟨_, rfl⟩
 obtain ⟨b4, hb4⟩ : ∃ b, b3 + 1 = b := ⟨_, rfl⟩
 obtain ⟨b5, hb5⟩ : ∃ b, b4 + 1 = b := ⟨_, rfl⟩
 obtain ⟨b6, hb6⟩ : ∃ b, b5 + 1 = b := ⟨_, rfl⟩
 obtain ⟨b7, hb7⟩ : ∃ b, b6 + 1 = b := ⟨_, rfl⟩
 obtain ⟨b8, hb8⟩ : ∃ b, b7 + 1 = b := ⟨_, rfl⟩
 obtain ⟨b9, hb9⟩ : ∃ b, b8 + 1 = b := ⟨_, rfl⟩
 obtain ⟨b10, hb10⟩ : ∃ b, b9 + 1 = b := ⟨_, rfl⟩
 obtain ⟨b11, hb11⟩ : ∃ b, b10 + 1 = b := ⟨_, rfl⟩
 obtain ⟨b12, hb12⟩ : ∃ b, b11 + 1 = b := ⟨_, rfl⟩
 obtain ⟨b13, hb13⟩ : ∃ b, b12 + 1 = b := ⟨_, rfl⟩
 obtain ⟨b14, hb14⟩ : ∃ b, b13 + 1 = b := ⟨_, rfl⟩
 obtain ⟨b15, hb15⟩ : ∃ b, b14 + 1 = b := ⟨_, rfl⟩
 obtain ⟨b16, hb16⟩ : ∃ b, b15 + 1 = b := ⟨_, rfl⟩
 obtain ⟨b17, hb17⟩ : ∃ b, b16 + 1 = b := ⟨_, rfl⟩
 obtain ⟨b18, hb18⟩ : ∃ b, b17 + 1 = b := ⟨_, rfl⟩
 obtain ⟨b19, hb19⟩ : ∃ b, b18 + 1 = b := ⟨_, rfl⟩
 obtain ⟨b20, hb20⟩ : ∃ b, b19 + 1 = b := ⟨_, rfl⟩
 obtain ⟨b21, hb21⟩ : ∃ b, b20 + 1 = b := ⟨_, rfl⟩
 obtain ⟨b22, hb22⟩ : ∃ b, b21 + 1 = b := ⟨_, rfl⟩
 obtain ⟨b23, hb23⟩ : ∃ b, b22 + 1 = b := ⟨_, rfl⟩
 obtain ⟨b24, hb24⟩ : ∃ b, b23 + 1 = b := ⟨_, rfl⟩
 obtain ⟨b25, hb25⟩ : ∃ b, b24 + 1 = b := ⟨_, rfl⟩
 obtain ⟨b26, hb26⟩ : ∃ b, b25 + 1 = b := ⟨_, rfl⟩
 obtain ⟨b27, hb27⟩ : ∃ b, b26 + 1 = b := ⟨_, rfl⟩
 obtain ⟨b28, hb28⟩ : ∃ b, b27 + 1 = b := ⟨_, rfl⟩
 obtain ⟨b29, hb29⟩ : ∃ b, b28 + 1 = b := ⟨_, rfl⟩
 obtain ⟨b0, hb0⟩ : ∃ b, w.heap.size = b := ⟨_, rfl⟩
 simp only [hb29, hb28, hb27, hb26, hb25, hb24, hb23, hb22, hb21, hb20, hb19, hb18, hb17, hb16, hb15, hb14, hb13, hb12, hb11, hb10, hb9, hb8, hb7, hb6, hb5, hb4, hb3, hb2, hb1]
 obtain ⟨W0, hW0⟩ : ∃ W0, ([.cells #[.int .i64 1, .int .i64 2] 3, .cells #[.int .i64 1, .int .i64 2] 3, .cells #[.slice (some ⟨w.heap.size, 0, none⟩) 2 2, .slice (some ⟨b1, 0, none⟩) 2 2] 26, .cells #[.int .i64 0, .int .i64 1] 3, .cells #[.int .i64 4, .int .i64 0, .slice (some ⟨b3, 0, none⟩) 2 2, .slice none 0 0] 49, .cells #[.slice (some ⟨b2, 0, none⟩) 2 2, .slice (some ⟨b4, 0, none⟩) 1 1] 25, .cells #[.int .i64 0, .int .i64 1, .int .i64 2] 3, .cells #[.int .i64 2, .int .i64 0, .slice (some ⟨b6, 0, none⟩) 3 3, .slice none 0 0] 49, .cells #[.int .i64 0, .int .i64 1, .int .i64 2] 3, .cells #[.int .i64 0, .int .i64 1, .int .i64 2] 3, .cells #[.int .i64 0, .int .i64 1, .int .i64 2] 3, .cells #[.slice (some ⟨b8, 0, none⟩) 3 3, .slice (some ⟨b9, 0, none⟩) 3 3, .slice (some ⟨b10, 0, none⟩) 3 3] 26, .cells #[.int .i64 2, .int .i64 0, .slice (some ⟨b6, 0, none⟩) 3 3, .slice none 0 0] 49, .cells #[.slice (some ⟨b11, 0, none⟩) 3 3, .slice (some ⟨b12, 0, none⟩) 1 1] 25, .cells #[.int .i64 0, .int .i64 1] 3, .cells #[.int .i64 2, .int .i64 0, .slice (some ⟨b6, 0, none⟩) 3 3, .slice none 0 0, .int .i64 3, .int .i64 2, .slice (some ⟨b14, 0, none⟩) 2 2, .slice none 0 0] 49, .cells #[.slice (some ⟨b11, 0, none⟩) 3 3, .slice (some ⟨b15, 0, none⟩) 2 2] 25, .cells #[.int .i64 3, .int .i64 4] 3, .cells #[.slice (some ⟨b17, 0, none⟩) 2 2] 26, .cells #[.int .i64 0] 3, .cells #[.int .i64 1, .int .i64 0, .slice (some ⟨b19, 0, none⟩) 1 1, .slice none 0 0] 49, .cells #[.slice (some ⟨b18, 0, none⟩) 1 1, .slice (some ⟨b20, 0, none⟩) 1 1] 25, .cells #[.int .i64 0, .int .i64 1] 3, .cells #[.int .i64 0, .int .i64 1] 3, .cells #[.int .i64 0, .int .i64 1] 3, .cells #[.slice (some ⟨b22, 0, none⟩) 2 2, .slice (some ⟨b23, 0, none⟩) 2 2, .slice (some ⟨b24, 0, none⟩) 2 2] 26, .cells #[.int .i64 0, .int .i64 1] 3, .cells #[.int .i64 2, .int .i64 0, .slice (some ⟨b6, 0, none⟩) 3 3, .slice none 0 0, .int .i64 4, .int .i64 0, .slice (some ⟨b26, 0, none⟩) 2 2, .slice none 0 0] 49, .cells #[.slice (some ⟨b25, 0, none⟩) 3 3, .slice (some ⟨b27, 0, none⟩) 2 2] 25, .cells #[.int .i64 2, .int .i64 1] 3] : List Obj).foldl World.alloc w = W0 := ⟨_, rfl⟩
 have E0 := Aside0.mk (hW0 ▸ below_list [.cells #[.int .i64 1, .int .i64 2] 3, .cells #[.int .i64 1, .int .i64 2] 3, .cells #[.slice (some ⟨w.heap.size, 0, none⟩) 2 2, .slice (some ⟨b1, 0, none⟩) 2 2] 26, .cells #[.int .i64 0, .int .i64 1] 3, .cells #[.int .i64 4, .int .i64 0, .slice (some ⟨b3, 0, none⟩) 2 2, .slice none 0 0] 49, .cells #[.slice (some ⟨b2, 0, none⟩) 2 2, .slice (some ⟨b4, 0, none⟩) 1 1] 25, .cells #[.int .i64 0, .int .i64 1, .int .i64 2] 3, .cells #[.int .i64 2, .int .i64 0, .slice (some ⟨b6, 0, none⟩) 3 3, .slice none 0 0] 49, .cells #[.int .i64 0, .int .i64 1, .int .i64 2] 3, .cells #[.int .i64 0, .int .i64 1, .int .i64 2] 3, .cells #[.int .i64 0, .int .i64 1, .int .i64 2] 3, .cells #[.slice (some ⟨b8, 0, none⟩) 3 3, .slice (some ⟨b9, 0, none⟩) 3 3, .slice (some ⟨b10, 0, none⟩) 3 3] 26, .cells #[.int .i64 2, .int .i64 0, .slice (some ⟨b6, 0, none⟩) 3 3, .slice none 0 0] 49, .cells #[.slice (some ⟨b11, 0, none⟩) 3 3, .slice (some ⟨b12, 0, none⟩) 1 1] 25, .cells #[.int .i64 0, .int .i64 1] 3, .cells #[.int .i64 2, .int .i64 0, .slice (some ⟨b6, 0, none⟩) 3 3, .slice none 0 0, .int .i64 3, .int .i64 2, .slice (some ⟨b14, 0, none⟩) 2 2, .slice none 0 0] 49, .cells #[.slice (some ⟨b11, 0, none⟩) 3 3, .slice (some ⟨b15, 0, none⟩) 2 2] 25, .cells #[.int .i64 3, .int .i64 4] 3, .cells #[.slice (some ⟨b17, 0, none⟩) 2 2] 26, .cells #[.int .i64 0] 3, .cells #[.int .i64 1, .int .i64 0, .slice (some ⟨b19, 0, none⟩) 1 1, .slice none 0 0] 49, .cells #[.slice (some ⟨b18, 0, none⟩) 1 1, .slice (some ⟨b20, 0, none⟩) 1 1] 25, .cells #[.int .i64 0, .int .i64 1] 3, .cells #[.int .i64 0, .int .i64 1] 3, .cells #[.int .i64 0, .int .i64 1] 3, .cells #[.slice (some ⟨b22, 0, none⟩) 2 2, .slice (some ⟨b23, 0, none⟩) 2 2, .slice (some ⟨b24, 0, none⟩) 2 2] 26, .cells #[.int .i64 0, .int .i64 1] 3, .cells #[.int .i64 2, .int .i64 0, .slice (some ⟨b6, 0, none⟩) 3 3, .slice none 0 0, .int .i64 4, .int .i64 0, .slice (some ⟨b26, 0, none⟩) 2 2, .slice none 0 0] 49, .cells #[.slice (some ⟨b25, 0, none⟩) 3 3, .slice (some ⟨b27, 0, none⟩) 2 2] 25, .cells #[.int .i64 2, .int .i64 1] 3] w w (Below.refl _ _) : Below w.heap.size w W0)
 have k0 : W0.heap[b0]? = some (.cells #[.int .i64 1, .int .i64 2] 3 (0, 0)) := by rw [← hW0, show b0 = w.heap.size + 0 by omega]; exact bi _ w 0 _ rfl
 have k1 : W0.heap[b1]? = some (.cells #[.int .i64 1, .int .i64 2] 3 (0, 0)) := by rw [← hW0, show b1 = w.heap.size + 1 by omega]; exact bi _ w 1 _ rfl
 have k2 : W0.heap[b2]? = some (.cells #[.slice (some ⟨w.heap.size, 0, none⟩) 2 2, .slice (some ⟨b1, 0, none⟩) 2 2] 26 (0, 0)) := by rw [← hW0, show b2 = w.heap.size + 2 by omega]; exact bi _ w 2 _ rfl
 have k3 : W0.heap[b3]? = some (.cells #[.int .i64 0, .int .i64 1] 3 (0, 0)) := by rw [← hW0, show b3 = w.heap.size + 3 by omega]; exact bi _ w 3 _ rfl
 have k4 : W0.heap[b4]? = some (.cells #[.int .i64 4, .int .i64 0, .slice (some ⟨b3, 0, none⟩) 2 2, .slice none 0 0] 49 (0, 0)) := by rw [← hW0, show b4 = w.heap.size + 4 by omega]; exact bi _ w 4 _ rfl
 have k5 : W0.heap[b5]? = some (.cells #[.slice (some ⟨b2, 0, none⟩) 2 2, .slice (some ⟨b4, 0, none⟩) 1 1] 25 (0, 0)) := by rw [← hW0, show b5 = w.heap.size + 5 by omega]; exact bi _ w 5 _ rfl
 have k6 : W0.heap[b6]? = some (.cells #[.int .i64 0, .int .i64 1, .int .i64 2] 3 (0, 0)) := by rw [← hW0, show b6 = w.heap.size + 6 by omega]; exact bi _ w 6 _ rfl
 have k7 : W0.heap[b7]? = some (.cells #[.int .i64 2, .int .i64 0, .slice (some ⟨b6, 0, none⟩) 3 3, .slice none 0 0] 49 (0, 0)) := by rw [← hW0, show b7 = w.heap.size + 7 by omega]; exact bi _ w 7 _ rfl
 have k8 : W0.heap[b8]? = some (.cells #[.int .i64 0, .int .i64 1, .int .i64 2] 3 (0, 0)) := by rw [← hW0, show b8 = w.heap.size + 8 by omega]; exact bi _ w 8 _ rfl
 have k9 : W0.heap[b9]? = some (.cells #[.int .i64 0, .int .i64 1, .int .i64 2] 3 (0, 0)) := by rw [← hW0, show b9 = w.heap.size + 9 by omega]; exact bi _ w 9 _ rfl
 have k10 : W0.heap[b10]? = some (.cells #[.int .i64 0, .int .i64 1, .int .i64 2] 3 (0, 0)) := by rw [← hW0, show b10 = w.heap.size + 10 by omega]; exact bi _ w 10 _ rfl
 have k11 : W0.heap[b11]? = some (.cells #[.slice (some ⟨b8, 0, none⟩) 3 3, .slice (some ⟨b9, 0, none⟩) 3 3, .slice (some ⟨b10, 0, none⟩) 3 3] 26 (0, 0)) := by rw [← hW0, show b11 = w.heap.size + 11 by omega]; exact bi _ w 11 _ rfl
 have k12 : W0.heap[b12]? = some (.cells #[.int .i64 2, .int .i64 0, .slice (some ⟨b6, 0, none⟩) 3 3, .slice none 0 0] 49 (0, 0)) := by rw [← hW0, show b12 = w.heap.size + 12 by omega]; exact bi _ w 12 _ rfl
 have k13 : W0.heap[b13]? = some (.cells #[.slice (some ⟨b11, 0, none⟩) 3 3, .slice (some ⟨b12, 0, none⟩) 1 1] 25 (0, 0)) := by rw [← hW0, show b13 = w.heap.size + 13 by omega]; exact bi _ w 13 _ rfl
 have k14 : W0.heap[b14]? = some (.cells #[.int .i64 0, .int .i64 1] 3 (0, 0)) := by rw [← hW0, show b14 = w.heap.size + 14 by omega]; exact bi _ w 14 _ rfl
 have k15 : W0.heap[b15]? = some (.cells #[.int .i64 2, .int .i64 0, .slice (some ⟨b6, 0, none⟩) 3 3, .slice none 0 0, .int .i64 3, .int .i64 2, .slice (some ⟨b14, 0, none⟩) 2 2, .slice none 0 0] 49 (0, 0)) := by rw [← hW0, show b15 = w.heap.size + 15 by omega]; exact bi _ w 15 _ rfl
 have k16 : W0.heap[b16]? = some (.cells #[.slice (some ⟨b11, 0, none⟩) 3 3, .slice (some ⟨b15, 0, none⟩) 2 2] 25 (0, 0)) := by rw [← hW0, show b16 = w.heap.size + 16 by omega]; exact bi _ w 16 _ rfl
 have k17 : W0.heap[b17]? = some (.cells #[.int .i64 3, .int .i64 4] 3 (0, 0)) := by rw [← hW0, show b17 = w.heap.size + 17 by omega]; exact bi _ w 17 _ rfl
 have k18 : W0.heap[b18]? = some (.cells #[.slice (some ⟨b17, 0, none⟩) 2 2] 26 (0, 0)) := by rw [← hW0, show b18 = w.heap.size + 18 by omega]; exact bi _ w 18 _ rfl
 have k19 : W0.heap[b19]? = some (.cells #[.int .i64 0] 3 (0, 0)) := by rw [← hW0, show b19 = w.heap.size + 19 by omega]; exact bi _ w 19 _ rfl
 have k20 : W0.heap[b20]? = some (.cells #[.int .i64 1, .int .i64 0, .slice (some ⟨b19, 0, none⟩) 1 1, .slice none 0 0] 49 (0, 0)) := by rw [← hW0, show b20 = w.heap.size + 20 by omega]; exact bi _ w 20 _ rfl
 have k21 : W0.heap[b21]? = some (.cells #[.slice (some ⟨b18, 0, none⟩) 1 1, .slice (some ⟨b20, 0, none⟩) 1 1] 25 (0, 0)) := by rw [← hW0, show b21 = w.heap.size + 21 by omega]; exact bi _ w 21 _ rfl
 have k22 : W0.heap[b22]? = some (.cells #[.int .i64 0, .int .i64 1] 3 (0, 0)) := by rw [← hW0, show b22 = w.heap.size + 22 by omega]; exact bi _ w 22 _ rfl
 have k23 : W0.heap[b23]? = some (.cells #[.int .i64 0, .int .i64 1] 3 (0, 0)) := by rw [← hW0, show b23 = w.heap.size + 23 by omega]; exact bi _ w 23 _ rfl
 have k24 : W0.heap[b24]? = some (.cells #[.int .i64 0, .int .i64 1] 3 (0, 0)) := by rw [← hW0, show b24 = w.heap.size + 24 by omega]; exact bi _ w 24 _ rfl
 have k25 : W0.heap[b25]? = some (.cells #[.slice (some ⟨b22, 0, none⟩) 2 2, .slice (some ⟨b23, 0, none⟩) 2 2, .slice (some ⟨b24, 0, none⟩) 2 2] 26 (0, 0)) := by rw [← hW0, show b25 = w.heap.size + 25 by omega]; exact bi _ w 25 _ rfl
 have k26 : W0.heap[b26]? = some (.cells #[.int .i64 0, .int .i64 1] 3 (0, 0)) := by rw [← hW0, show b26 = w.heap.size + 26 by omega]; exact bi _ w 26 _ rfl
 have k27 : W0.heap[b27]? = some (.cells #[.int .i64 2, .int .i64 0, .slice (some ⟨b6, 0, none⟩) 3 3, .slice none 0 0, .int .i64 4, .int .i64 0, .slice (some ⟨b26, 0, none⟩) 2 2, .slice none 0 0] 49 (0, 0)) := by rw [← hW0, show b27 = w.heap.size + 27 by omega]; exact bi _ w 27 _ rfl
 have k28 : W0.heap[b28]? = some (.cells #[.slice (some ⟨b25, 0, none⟩) 3 3, .slice (some ⟨b27, 0, none⟩) 2 2] 25 (0, 0)) := by rw [← hW0, show b28 = w.heap.size + 28 by omega]; exact bi _ w 28 _ rfl
 have k29 : W0.heap[b29]? = some (.cells #[.int .i64 2, .int .i64 1] 3 (0, 0)) := by rw [← hW0, show b29 = w.heap.size + 29 by omega]; exact bi _ w 29 _ rfl
 simp only [List.foldl_cons, List.foldl_nil] at hW0
 rw [hW0]
 clear hW0
 rw [hb0] at k2
 have i0 := cQ (W := W0) (g := b0) [1, 2] (by decide) k0
 have i1 := cQ (W := W0) (g := b1) [1, 2] (by decide) k1
 have i3 := cQ (W := W0) (g := b3) [0, 1] (by decide) k3
 have i6 := cQ (W := W0) (g := b6) [0, 1, 2] (by decide) k6
 have i8 := cQ (W := W0) (g := b8) [0, 1, 2] (by decide) k8
 have i9 := cQ (W := W0) (g := b9) [0, 1, 2] (by decide) k9
 have i10 := cQ (W := W0) (g := b10) [0, 1, 2] (by decide) k10
 have i14 := cQ (W := W0) (g := b14) [0, 1] (by decide) k14
 have i17 := cQ (W := W0) (g := b17) [3, 4] (by decide) k17
 have i19 := cQ (W := W0) (g := b19) [0] (by decide) k19
 have i22 := cQ (W := W0) (g := b22) [0, 1] (by decide) k22
 have i23 := cQ (W := W0) (g := b23) [0, 1] (by decide) k23
 have i24 := cQ (W := W0) (g := b24) [0, 1] (by decide) k24
 have i26 := cQ (W := W0) (g := b26) [0, 1] (by decide) k26
 have i29 := cQ (W := W0) (g := b29) [2, 1] (by decide) k29
 have c2 := da (d := Kd.slice 3 (Kd.int .i64)) (W := W0) (g := b2) [[1, 2], [1, 2]] [[.slice (some ⟨b0, 0, none⟩) 2 2], [.slice (some ⟨b1, 0, none⟩) 2 2]] (by decide) k2 rfl (by simp only [List.zip_cons_cons, List.zip_nil_left, List.mem_cons, List.not_mem_nil, or_false, forall_eq_or_imp, forall_eq]; exact ⟨row_K i0, row_K i1⟩)
 have c4 := da (d := k49) (W := W0) (g := b4) [⟨4, 0, [0, 1], []⟩] [[.int .i64 4, .int .i64 0, .slice (some ⟨b3, 0, none⟩) 2 2, .slice none 0 0]] (by decide) k4 rfl (by simp only [List.zip_cons_cons, List.zip_nil_left, List.mem_cons, List.not_mem_nil, or_false, forall_eq_or_imp, forall_eq]; exact jl _ _ i3)
 have c11 := da (d := Kd.slice 3 (Kd.int .i64)) (W := W0) (g := b11) [[0, 1, 2], [0, 1, 2], [0, 1, 2]] [[.slice (some ⟨b8, 0, none⟩) 3 3], [.slice (some ⟨b9, 0, none⟩) 3 3], [.slice (some ⟨b10, 0, none⟩) 3 3]] (by decide) k11 rfl (by simp only [List.zip_cons_cons, List.zip_nil_left, List.mem_cons, List.not_mem_nil, or_false, forall_eq_or_imp, forall_eq]; exact ⟨row_K i8, row_K i9, row_K i10⟩)
 have c12 := da (d := k49) (W := W0) (g := b12) [⟨2, 0, [0, 1, 2], []⟩] [[.int .i64 2, .int .i64 0, .slice (some ⟨b6, 0, none⟩) 3 3, .slice none 0 0]] (by decide) k12 rfl (by simp only [List.zip_cons_cons, List.zip_nil_left, List.mem_cons, List.not_mem_nil, or_false, forall_eq_or_imp, forall_eq]; exact jl _ _ i6)
 have c15 := da (d := k49) (W := W0) (g := b15) [⟨2, 0, [0, 1, 2], []⟩, ⟨3, 2, [0, 1], []⟩] [[.int .i64 2, .int .i64 0, .slice (some ⟨b6, 0, none⟩) 3 3, .slice none 0 0], [.int .i64 3, .int .i64 2, .slice (some ⟨b14, 0, none⟩) 2 2, .slice none 0 0]] (by decide) k15 rfl (by simp only [List.zip_cons_cons, List.zip_nil_left, List.mem_cons, List.not_mem_nil, or_false, forall_eq_or_imp, forall_eq]; exact ⟨jl _ _ i6, jl _ _ i14⟩)
 have c18 := da (d := Kd.slice 3 (Kd.int .i64)) (W := W0) (g := b18) [[3, 4]] [[.slice (some ⟨b17, 0, none⟩) 2 2]] (by decide) k18 rfl (by simp only [List.zip_cons_cons, List.zip_nil_left, List.mem_cons, List.not_mem_nil, or_false, forall_eq_or_imp, forall_eq]; exact row_K i17)
 have c20 := da (d := k49) (W := W0) (g := b20) [⟨1, 0, [0], []⟩] [[.int .i64 1, .int .i64 0, .slice (some ⟨b19, 0, none⟩) 1 1, .slice none 0 0]] (by decide) k20 rfl (by simp only [List.zip_cons_cons, List.zip_nil_left, List.mem_cons, List.not_mem_nil, or_false, forall_eq_or_imp, forall_eq]; exact jl _ _ i19)
 have c25 := da (d := Kd.slice 3 (Kd.int .i64)) (W := W0) (g := b25) [[0, 1], [0, 1], [0, 1]] [[.slice (some ⟨b22, 0, none⟩) 2 2], [.slice (some ⟨b23, 0, none⟩) 2 2], [.slice (some ⟨b24, 0, none⟩) 2 2]] (by decide) k25 rfl (by simp only [List.zip_cons_cons, List.zip_nil_left, List.mem_cons, List.not_mem_nil, or_false, forall_eq_or_imp, forall_eq]; exact ⟨row_K i22, row_K i23, row_K i24⟩)
 have c27 := da (d := k49) (W := W0) (g := b27) [⟨2, 0, [0, 1, 2], []⟩, ⟨4, 0, [0, 1], []⟩] [[.int .i64 2, .int .i64 0, .slice (some ⟨b6, 0, none⟩) 3 3, .slice none 0 0], [.int .i64 4, .int .i64 0, .slice (some ⟨b26, 0, none⟩) 2 2, .slice none 0 0]] (by decide) k27 rfl (by simp only [List.zip_cons_cons, List.zip_nil_left, List.mem_cons, List.not_mem_nil, or_false, forall_eq_or_imp, forall_eq]; exact ⟨jl _ _ i6, jl _ _ i26⟩)
 have M0 := Aside0.mk (SM.mk k5 k13 k16 k21 k28 c2 c4 c11 c12 c15 c18 c20 c25 c27 : SM b2 b4 b5 b11 b12 b13 b15 b16 b18 b20 b21 b25 b27 b28 W0)
 have Z0 : w.heap.size ≤ W0.heap.size := E0.out.size
 have I29 := Aside0.mk i29
 clear k0 k1 k2 k3 k4 k5 k6 k7 k8 k9 k10 k11 k12 k13 k14 k15 k16 k17 k18 k19 k20 k21 k22 k23 k24 k25 k26 k27 k28 k29 i0 i1 i3 i6 i8 i9 i10 i14 i17 i19 i22 i23 i24 i26 i29 c2 c4 c11 c12 c15 c18 c20 c25 c27
 clear hb0 hb1 hb2 hb3 hb4 hb5 hb6 hb7 hb8 hb9 hb10 hb11 hb12 hb13 hb14 hb15 hb16 hb17 hb18 hb19 hb20 hb21 hb22 hb23 hb24 hb25 hb26 hb27 hb28 hb29
 refine (search_Broken.calls 60 _ 2 [[1, 2], [1, 2]] _ 1 [⟨4, 0, [0, 1], []⟩] _ 2 [2, 1] [0] 0 W0 M0.out.p2 (by decide) M0.out.q4 (by decide) I29.out (by decide) (by kernel_rfl)).mono ?_
 rintro e w1 ⟨v1_l, rfl, Rl, K⟩
 obtain ⟨Al, cl, rfl, hl, Cl⟩ := Kd.R_reads Rl
 have M1 := Aside0.mk (M0.out.later K)
 have E1 := Aside0.mk (bx E0.out Z0 K)
 have Z1 := E1.out.size
 have Dl := Aside0.mk Cl
 clear K M0 E0 Z0 Rl Cl
 clear I29
 have za := a7 M1.out.k5 0; have zb := a7 M1.out.k5 1; simp only [List.getElem?_toArray, List.getElem?_cons_zero, List.getElem?_cons_succ] at za zb
 go_wp2_with fail
 clear za zb
 have bl := a6 (Below.refl w1.heap.size w1) (.cells #[.int .i64 1, .int .i64 3] 3)
 have il := cQ (W := w1.alloc (.cells #[.int .i64 1, .int .i64 3] 3)) (g := w1.heap.size) [1, 3] (by decide) (bz w1 _)
 have M1' := M1.out.later bl
 refine (search_Broken.calls 60 _ 2 [[1, 2], [1, 2]] _ 1 [⟨4, 0, [0, 1], []⟩] _ 2 [1, 3] [] 1 _ M1'.p2 (by decide) M1'.q4 (by decide) il (by decide) (by kernel_rfl)).mono ?_
 rintro e w2 ⟨v2_u, rfl, Ru, K⟩
 obtain ⟨Au, cu, rfl, hu, Cu⟩ := Kd.R_reads Ru
 have K := (a6 (Below.refl w1.heap.size w1) (.cells #[.int .i64 1, .int .i64 3] 3)).trans (K.mono (by simp))
 have M2 := Aside0.mk (M1.out.later K)
 have E2 := Aside0.mk (bx E1.out Z1 K)
 have Z2 := E2.out.size
 have Nl := Aside0.mk (Kd.C_below Dl.out K)
 clear Dl; have Dl := Nl; clear Nl
 have Du := Aside0.mk Cu
 clear K M1 E1 Z1 Ru Cu
 clear Du bl il M1'
 have za := a7 M2.out.k5 0; have zb := a7 M2.out.k5 1; simp only [List.getElem?_toArray, List.getElem?_cons_zero, List.getElem?_cons_succ] at za zb
 go_wp2_with fail
 clear za zb
 refine (search_Solve.calls 60 _ 2 [[1, 2], [1, 2]] _ 1 [⟨4, 0, [0, 1], []⟩] [1, 2] true 0 w2 M2.out.p2 (by decide) M2.out.q4 (by decide) (by kernel_rfl)).mono ?_
 rintro e w3 ⟨v3_x, rfl, Rx, K⟩
 obtain ⟨Ax, cx, rfl, hx, Cx⟩ := Kd.R_reads Rx
 have M3 := Aside0.mk (M2.out.later K)
 have E3 := Aside0.mk (bx E2.out Z2 K)
 have Z3 := E3.out.size
 have Nl := Aside0.mk (Kd.C_below Dl.out K)
 clear Dl; have Dl := Nl; clear Nl
 have Dx := Aside0.mk Cx
 clear K M2 E2 Z2 Rx Cx
 have za := a7 M3.out.k13 0; have zb := a7 M3.out.k13 1; simp only [List.getElem?_toArray, List.getElem?_cons_zero, List.getElem?_cons_succ] at za zb
 go_wp2_with fail
 clear za zb
 refine (search_Solve.calls 60 _ 3 [[0, 1, 2], [0, 1, 2], [0, 1, 2]] _ 1 [⟨2, 0, [0, 1, 2], []⟩] [0, 1, 2] true 0 w3 M3.out.p11 (by decide) M3.out.q12 (by decide) (by kernel_rfl)).mono ?_
 rintro e w4 ⟨v4_y, rfl, Ry, K⟩
 obtain ⟨Ay, cy, rfl, hy, Cy⟩ := Kd.R_reads Ry
 have M4 := Aside0.mk (M3.out.later K)
 have E4 := Aside0.mk (bx E3.out Z3 K)
 have Z4 := E4.out.size
 have Nl := Aside0.mk (Kd.C_below Dl.out K)
 clear Dl; have Dl := Nl; clear Nl
 have Nx := Aside0.mk (Kd.C_below Dx.out K)
 clear Dx; have Dx := Nx; clear Nx
 have Dy := Aside0.mk Cy
 clear K M3 E3 Z3 Ry Cy
 have za := a7 M4.out.k16 0; have zb := a7 M4.out.k16 1; simp only [List.getElem?_toArray, List.getElem?_cons_zero, List.getElem?_cons_succ] at za zb
 go_wp2_with fail
 clear za zb
 refine (search_Solve.calls 60 _ 3 [[0, 1, 2], [0, 1, 2], [0, 1, 2]] _ 2 [⟨2, 0, [0, 1, 2], []⟩, ⟨3, 2, [0, 1], []⟩] [0, 2, 1] true 0 w4 M4.out.p11 (by decide) M4.out.q15 (by decide) (by kernel_rfl)).mono ?_
 rintro e w5 ⟨v5_z, rfl, Rz, K⟩
 obtain ⟨Az, cz, rfl, hz, Cz⟩ := Kd.R_reads Rz
 have M5 := Aside0.mk (M4.out.later K)
 have E5 := Aside0.mk (bx E4.out Z4 K)
 have Z5 := E5.out.size
 have Nl := Aside0.mk (Kd.C_below Dl.out K)
 clear Dl; have Dl := Nl; clear Nl
 have Nx := Aside0.mk (Kd.C_below Dx.out K)
 clear Dx; have Dx := Nx; clear Nx
 have Ny := Aside0.mk (Kd.C_below Dy.out K)
 clear Dy; have Dy := Ny; clear Ny
 have Dz := Aside0.mk Cz
 clear K M4 E4 Z4 Rz Cz
 have za := a7 M5.out.k21 0; have zb := a7 M5.out.k21 1; simp only [List.getElem?_toArray, List.getElem?_cons_zero, List.getElem?_cons_succ] at za zb
 go_wp2_with fail
 clear za zb
 refine (search_Refute.calls 60 _ 1 [[3, 4]] _ 1 [⟨1, 0, [0], []⟩] (-1) pr5 true 0 w5 M5.out.p18 (by decide) M5.out.q20 (by decide) (by kernel_rfl)).mono ?_
 rintro e w6 ⟨v6_t, rfl, Rt, K⟩
 obtain ⟨At, ct, rfl, ht, Ct⟩ := Kd.R_reads Rt
 have M6 := Aside0.mk (M5.out.later K)
 have E6 := Aside0.mk (bx E5.out Z5 K)
 have Z6 := E6.out.size
 have Nl := Aside0.mk (Kd.C_below Dl.out K)
 clear Dl; have Dl := Nl; clear Nl
 have Nx := Aside0.mk (Kd.C_below Dx.out K)
 clear Dx; have Dx := Nx; clear Nx
 have Ny := Aside0.mk (Kd.C_below Dy.out K)
 clear Dy; have Dy := Ny; clear Ny
 have Nz := Aside0.mk (Kd.C_below Dz.out K)
 clear Dz; have Dz := Nz; clear Nz
 have Dt := Aside0.mk Ct
 clear K M5 E5 Z5 Rt Ct
 have kt := bz w6 (.cells #[.int .i64 (-1), .slice At pr5.length ct] 39)
 have za := a7 (aa M6.out.k21 (.cells #[.int .i64 (-1), .slice At pr5.length ct] 39)) 0; have zb := a7 (aa M6.out.k21 (.cells #[.int .i64 (-1), .slice At pr5.length ct] 39)) 1; simp only [List.getElem?_toArray, List.getElem?_cons_zero, List.getElem?_cons_succ] at za zb
 have ya := a7 kt 0; have yb := a7 kt 1; simp only [List.getElem?_toArray, List.getElem?_cons_zero, List.getElem?_cons_succ] at ya yb
 go_wp2_with fail
 clear za zb ya yb
 have bl := a6 (Below.refl w6.heap.size w6) (.cells #[.int .i64 (-1), .slice At pr5.length ct] 39)
 have M6' := M6.out.later bl
 have T6 := Kd.C_below Dt.out bl
 refine (search_Accepts.calls 60 _ 1 [[3, 4]] _ 1 [⟨1, 0, [0], []⟩] (-1) _ ct pr5 true 0 _ M6'.p18 (by decide) M6'.q20 (by decide) T6 ht (by kernel_rfl)).mono ?_
 rintro e w7 ⟨rfl, K⟩
 have KT := Aside0.mk (af kt K)
 obtain ⟨bt, hbt⟩ : ∃ b, w6.heap.size = b := ⟨_, rfl⟩
 replace K := bl.trans (K.mono (by simp))
 clear bl M6' T6 kt
 have M7 := Aside0.mk (M6.out.later K); have E7 := Aside0.mk (bx E6.out Z6 K); have Z7 := E7.out.size
 have Nl := Aside0.mk (Kd.C_below Dl.out K); clear Dl; have Dl := Nl; clear Nl
 have Nx := Aside0.mk (Kd.C_below Dx.out K); clear Dx; have Dx := Nx; clear Nx
 have Ny := Aside0.mk (Kd.C_below Dy.out K); clear Dy; have Dy := Ny; clear Ny
 have Nz := Aside0.mk (Kd.C_below Dz.out K); clear Dz; have Dz := Nz; clear Nz
 have Nt := Aside0.mk (Kd.C_below Dt.out K); clear Dt; have Dt := Nt; clear Nt
 clear K M6 E6 Z6; rw [hbt] at KT ⊢; clear hbt
 have za := a7 M7.out.k5 0; have zb := a7 M7.out.k5 1; simp only [List.getElem?_toArray, List.getElem?_cons_zero, List.getElem?_cons_succ] at za zb
 have ya := a7 KT.out 0; have yb := a7 KT.out 1; simp only [List.getElem?_toArray, List.getElem?_cons_zero, List.getElem?_cons_succ] at ya yb
 go_wp2_with fail
 clear za zb ya yb
 refine (search_Accepts.calls 60 _ 2 [[1, 2], [1, 2]] _ 1 [⟨4, 0, [0, 1], []⟩] (-1) _ ct pr5 false 0 w7 M7.out.p2 (by decide) M7.out.q4 (by decide) Dt.out ht (by kernel_rfl)).mono ?_
 rintro e w8 ⟨rfl, K⟩
 have M8 := Aside0.mk (M7.out.later K)
 have E8 := Aside0.mk (bx E7.out Z7 K)
 have Z8 := E8.out.size
 have Nl := Aside0.mk (Kd.C_below Dl.out K)
 clear Dl; have Dl := Nl; clear Nl
 have Nx := Aside0.mk (Kd.C_below Dx.out K)
 clear Dx; have Dx := Nx; clear Nx
 have Ny := Aside0.mk (Kd.C_below Dy.out K)
 clear Dy; have Dy := Ny; clear Ny
 have Nz := Aside0.mk (Kd.C_below Dz.out K)
 clear Dz; have Dz := Nz; clear Nz
 have Nt := Aside0.mk (Kd.C_below Dt.out K)
 clear Dt; have Dt := Nt; clear Nt
 have NKT := Aside0.mk (af KT.out K)
 clear KT; have KT := NKT; clear NKT
 clear K M7 E7 Z7
 have za := a7 M8.out.k28 0; have zb := a7 M8.out.k28 1; simp only [List.getElem?_toArray, List.getElem?_cons_zero, List.getElem?_cons_succ] at za zb
 go_wp2_with fail
 clear za zb
 refine (search_Core.calls 60 _ 3 [[0, 1], [0, 1], [0, 1]] _ 2 [⟨2, 0, [0, 1, 2], []⟩, ⟨4, 0, [0, 1], []⟩] [0] true 0 w8 M8.out.p25 (by decide) M8.out.q27 (by decide) (by kernel_rfl)).mono ?_
 rintro e w9 ⟨v9_g, rfl, Rg, K⟩
 obtain ⟨Ag, cg, rfl, hg, Cg⟩ := Kd.R_reads Rg
 have M9 := Aside0.mk (M8.out.later K)
 have E9 := Aside0.mk (bx E8.out Z8 K)
 have Z9 := E9.out.size
 have Nl := Aside0.mk (Kd.C_below Dl.out K)
 clear Dl; have Dl := Nl; clear Nl
 have Nx := Aside0.mk (Kd.C_below Dx.out K)
 clear Dx; have Dx := Nx; clear Nx
 have Ny := Aside0.mk (Kd.C_below Dy.out K)
 clear Dy; have Dy := Ny; clear Ny
 have Nz := Aside0.mk (Kd.C_below Dz.out K)
 clear Dz; have Dz := Nz; clear Nz
 have Nt := Aside0.mk (Kd.C_below Dt.out K)
 clear Dt; have Dt := Nt; clear Nt
 have NKT := Aside0.mk (af KT.out K)
 clear KT; have KT := NKT; clear NKT
 have Dg := Aside0.mk Cg
 clear K M8 E8 Z8 Rg Cg
 clear M9
 go_wp2_with fail
 have kk := aa (aa (bz w9 (.cells #[.int .i64 0, .slice none 0 0, .int .i64 0, .slice none 0 0] 39)) (.cells #[.int .i64 (-1), .slice (some ⟨w9.heap.size, 0, none⟩) 2 2] 39)) (.cells #[.int .i64 0] 3)
 have kp := aa (bz (w9.alloc (.cells #[.int .i64 0, .slice none 0 0, .int .i64 0, .slice none 0 0] 39)) (.cells #[.int .i64 (-1), .slice (some ⟨w9.heap.size, 0, none⟩) 2 2] 39)) (.cells #[.int .i64 0] 3)
 have ka := bz ((w9.alloc (.cells #[.int .i64 0, .slice none 0 0, .int .i64 0, .slice none 0 0] 39)).alloc (.cells #[.int .i64 (-1), .slice (some ⟨w9.heap.size, 0, none⟩) 2 2] 39)) (.cells #[.int .i64 0] 3)
 have K := a6 (a6 (a6 (Below.refl w9.heap.size w9) (.cells #[.int .i64 0, .slice none 0 0, .int .i64 0, .slice none 0 0] 39)) (.cells #[.int .i64 (-1), .slice (some ⟨w9.heap.size, 0, none⟩) 2 2] 39)) (.cells #[.int .i64 0] 3)
 simp only [World.size_alloc] at kp ka
 obtain ⟨W10, hW10⟩ : ∃ W, ((w9.alloc (.cells #[.int .i64 0, .slice none 0 0, .int .i64 0, .slice none 0 0] 39)).alloc (.cells #[.int .i64 (-1), .slice (some ⟨w9.heap.size, 0, none⟩) 2 2] 39)).alloc (.cells #[.int .i64 0] 3) = W := ⟨_, rfl⟩
 obtain ⟨ba, hba⟩ : ∃ b, w9.heap.size + 1 + 1 = b := ⟨_, rfl⟩
 obtain ⟨bp, hbp⟩ : ∃ b, w9.heap.size + 1 = b := ⟨_, rfl⟩
 obtain ⟨bk, hbk⟩ : ∃ b, w9.heap.size = b := ⟨_, rfl⟩
 rw [hW10] at kk kp ka K; rw [hW10, hba, hbp]; rw [hba] at ka; rw [hbp, hbk] at kp; rw [hbk] at kk; clear hW10 hba hbp hbk
 have E10 := Aside0.mk (bx E9.out Z9 K); have Z10 := E10.out.size
 have Nl := Aside0.mk (Kd.C_below Dl.out K); clear Dl; have Dl := Nl; clear Nl
 have Nx := Aside0.mk (Kd.C_below Dx.out K); clear Dx; have Dx := Nx; clear Nx
 have Ny := Aside0.mk (Kd.C_below Dy.out K); clear Dy; have Dy := Ny; clear Ny
 have Nz := Aside0.mk (Kd.C_below Dz.out K); clear Dz; have Dz := Nz; clear Nz
 have Nt := Aside0.mk (Kd.C_below Dt.out K); clear Dt; have Dt := Nt; clear Nt
 have Ng := Aside0.mk (Kd.C_below Dg.out K); clear Dg; have Dg := Ng; clear Ng
 have N := Aside0.mk (af KT.out K); clear KT; have KT := N; clear N; have KP := Aside0.mk kp
 have ck := da (d := k39) (W := W10) (g := bk) pr5 [[.int .i64 0, .slice none 0 0], [.int .i64 0, .slice none 0 0]] (by decide) kk rfl (by simp only [pr5, List.zip_cons_cons, List.zip_nil_left, List.mem_cons, List.not_mem_nil, or_false, forall_eq_or_imp, forall_eq, or_self]; exact ⟨rfl, k39_mk W10 ⟨0, []⟩ (Nat.le_refl _) nil_C⟩)
 have Dk := Aside0.mk ck
 have ia := cQ (W := W10) (g := ba) [0] (by decide) ka
 clear kk kp ka ck K E9 Z9
 have B := Below.refl W10.heap.size W10
 refine (fastiref15_SameInts.calls 60 _ cl [0] _ 1 [0] true W10 Dl.out hl ia (by decide) (by kernel_rfl)).mono ?_
 rintro e w11 ⟨rfl, ⟨n, hn⟩⟩
 have K := a4 B n
 rw [← hn] at K
 clear hn B ia
 have E11 := Aside0.mk (bx E10.out Z10 K); have Z11 := E11.out.size
 have Nx := Aside0.mk (Kd.C_below Dx.out K); clear Dx; have Dx := Nx; clear Nx
 have Ny := Aside0.mk (Kd.C_below Dy.out K); clear Dy; have Dy := Ny; clear Ny
 have Nz := Aside0.mk (Kd.C_below Dz.out K); clear Dz; have Dz := Nz; clear Nz
 have Nt := Aside0.mk (Kd.C_below Dt.out K); clear Dt; have Dt := Nt; clear Nt
 have Ng := Aside0.mk (Kd.C_below Dg.out K); clear Dg; have Dg := Ng; clear Ng
 have Nk := Aside0.mk (Kd.C_below Dk.out K); clear Dk; have Dk := Nk; clear Nk
 have N := Aside0.mk (af KT.out K); have N2 := Aside0.mk (af KP.out K); clear KT KP; have KT := N; have KP := N2; clear N N2
 clear K E10 Z10 Dl
 go_wp2_with fail
 have B := a6 (Below.refl w11.heap.size w11) (.cells #[.int .i64 1, .int .i64 2] 3)
 have ia := cQ (W := w11.alloc (.cells #[.int .i64 1, .int .i64 2] 3)) (g := w11.heap.size) [1, 2] (by decide) (bz w11 _)
 refine (fastiref15_SameInts.calls 60 _ cx [1, 2] _ 2 [1, 2] true _ (Kd.C_below Dx.out B) hx ia (by decide) (by kernel_rfl)).mono ?_
 rintro e w12 ⟨rfl, ⟨n, hn⟩⟩
 have K := a4 B n
 rw [← hn] at K
 clear hn B ia
 have E12 := Aside0.mk (bx E11.out Z11 K); have Z12 := E12.out.size
 have Ny := Aside0.mk (Kd.C_below Dy.out K); clear Dy; have Dy := Ny; clear Ny
 have Nz := Aside0.mk (Kd.C_below Dz.out K); clear Dz; have Dz := Nz; clear Nz
 have Nt := Aside0.mk (Kd.C_below Dt.out K); clear Dt; have Dt := Nt; clear Nt
 have Ng := Aside0.mk (Kd.C_below Dg.out K); clear Dg; have Dg := Ng; clear Ng
 have Nk := Aside0.mk (Kd.C_below Dk.out K); clear Dk; have Dk := Nk; clear Nk
 have N := Aside0.mk (af KT.out K); have N2 := Aside0.mk (af KP.out K); clear KT KP; have KT := N; have KP := N2; clear N N2
 clear K E11 Z11 Dx
 go_wp2_with fail
 have B := a6 (Below.refl w12.heap.size w12) (.cells #[.int .i64 0, .int .i64 1, .int .i64 2] 3)
 have ia := cQ (W := w12.alloc (.cells #[.int .i64 0, .int .i64 1, .int .i64 2] 3)) (g := w12.heap.size) [0, 1, 2] (by decide) (bz w12 _)
 refine (fastiref15_SameInts.calls 60 _ cy [0, 1, 2] _ 3 [0, 1, 2] true _ (Kd.C_below Dy.out B) hy ia (by decide) (by kernel_rfl)).mono ?_
 rintro e w13 ⟨rfl, ⟨n, hn⟩⟩
 have K := a4 B n
 rw [← hn] at K
 clear hn B ia
 have E13 := Aside0.mk (bx E12.out Z12 K); have Z13 := E13.out.size
 have Nz := Aside0.mk (Kd.C_below Dz.out K); clear Dz; have Dz := Nz; clear Nz
 have Nt := Aside0.mk (Kd.C_below Dt.out K); clear Dt; have Dt := Nt; clear Nt
 have Ng := Aside0.mk (Kd.C_below Dg.out K); clear Dg; have Dg := Ng; clear Ng
 have Nk := Aside0.mk (Kd.C_below Dk.out K); clear Dk; have Dk := Nk; clear Nk
 have N := Aside0.mk (af KT.out K); have N2 := Aside0.mk (af KP.out K); clear KT KP; have KT := N; have KP := N2; clear N N2
 clear K E12 Z12 Dy
 go_wp2_with fail
 have B := a6 (Below.refl w13.heap.size w13) (.cells #[.int .i64 0, .int .i64 2, .int .i64 1] 3)
 have ia := cQ (W := w13.alloc (.cells #[.int .i64 0, .int .i64 2, .int .i64 1] 3)) (g := w13.heap.size) [0, 2, 1] (by decide) (bz w13 _)
 refine (fastiref15_SameInts.calls 60 _ cz [0, 2, 1] _ 3 [0, 2, 1] true _ (Kd.C_below Dz.out B) hz ia (by decide) (by kernel_rfl)).mono ?_
 rintro e w14 ⟨rfl, ⟨n, hn⟩⟩
 have K := a4 B n
 rw [← hn] at K
 clear hn B ia
 have E14 := Aside0.mk (bx E13.out Z13 K); have Z14 := E14.out.size
 have Nt := Aside0.mk (Kd.C_below Dt.out K); clear Dt; have Dt := Nt; clear Nt
 have Ng := Aside0.mk (Kd.C_below Dg.out K); clear Dg; have Dg := Ng; clear Ng
 have Nk := Aside0.mk (Kd.C_below Dk.out K); clear Dk; have Dk := Nk; clear Nk
 have N := Aside0.mk (af KT.out K); have N2 := Aside0.mk (af KP.out K); clear KT KP; have KT := N; have KP := N2; clear N N2
 clear K E13 Z13 Dz
 have ya := a7 KT.out 0; have yb := a7 KT.out 1; have yc := a7 KP.out 0; have yd := a7 KP.out 1; simp only [List.getElem?_toArray, List.getElem?_cons_zero, List.getElem?_cons_succ] at ya yb yc yd
 go_wp2_with fail
 clear ya yb yc yd
 refine (fastiref15_Same.calls 60 (-1) _ ct pr5 (-1) _ 2 pr5 true w14 Dt.out ht Dk.out (by decide) (by kernel_rfl)).mono ?_
 rintro e w15 ⟨rfl, K⟩
 have E15 := Aside0.mk (bx E14.out Z14 K); have Z15 := E15.out.size
 have Ng := Aside0.mk (Kd.C_below Dg.out K); clear Dg; have Dg := Ng; clear Ng
 clear KT KP
 clear K E14 Z14 Dt Dk
 go_wp2_with fail
 have B := a6 (Below.refl w15.heap.size w15) (.cells #[.int .i64 0] 3)
 have ia := cQ (W := w15.alloc (.cells #[.int .i64 0] 3)) (g := w15.heap.size) [0] (by decide) (bz w15 _)
 refine (fastiref15_SameInts.calls 60 _ cg [0] _ 1 [0] true _ (Kd.C_below Dg.out B) hg ia (by decide) (by kernel_rfl)).mono ?_
 rintro e w16 ⟨rfl, ⟨n, hn⟩⟩
 have K := a4 B n
 rw [← hn] at K
 clear hn B ia
 have E16 := Aside0.mk (bx E15.out Z15 K); have Z16 := E16.out.size
 clear K E15 Z15 Dg
 go_wp2_with fail
 refine (search_Check.calls 60 none 0 [] none 0 [] 150 w16 nil_C (by decide) nil_C (by decide) (by kernel_rfl)).mono ?_
 rintro e w17 ⟨rfl, K⟩
 have E17 := Aside0.mk (bx E16.out Z16 K); clear K E16 Z16
 go_wp2_with fail
 go_ret
 exact ⟨rfl, E17.out⟩
end SN
def fastilaw15_sane.f : Option (Bool) := some true
theorem fastilaw15_sane.calls (r : Bool) (w : World) (h : fastilaw15_sane.f = some r) :
  Calls Try.prog 11 #[] w fun e w' => e = .returned (.bool r) ∧ Below w.heap.size w w' := by
 cases h
 exact SN.sane_calls w
end Go.Proofs.Ytcbpkdemcdikaaa.X
namespace Go.Proofs.Ytcbpkdemcdikaaa.X
open Go.RowKit Go.Proofs.YtcbpkdemcdikaaaW.PrintWords Go.Proofs.YtcbpkdemcdikaaaW.PrintLast Go.Proofs.YtcbpkdemcdikaaaW.PrintMore
attribute [local go_sem] aK aJ bc aX aD aE aM aN   
set_option linter.unusedVariables false
set_option linter.unusedSimpArgs false
def fastiref15_Some.l0 : Nat → List Int → Int → List (List Int) → List (S49) → List (List Int) → List (S49) → Option ((List (List Int)) × (List (S49)))
 | 0, _, _, _, _, _, _ => none
 | k + 1, x1, x6, x353000, it, x355000, x355001 => if x6 < (x1.length : Int) then (if 0 ≤ x6 then (if 0 ≤ (rd x1 x6) then (if (rd x1 x6) < (it.length : Int) then (if x355001.length < 2199023255552 then (fastiref15_Some.l0 k x1 (wrap64 (x6 + 1)) x353000 it x355000 (x355001 ++ [(⟨(ai it (rd x1 x6)).f0, (ai it (rd x1 x6)).f1, (ai it (rd x1 x6)).f2, (ai it (rd x1 x6)).f3⟩ : S49)])) else (none)) else (none)) else (none)) else (none)) else (some (x355000, x355001))
def fastiref15_Some.f (k : Nat) (aj : List (List Int)) (ag : List (S49)) (l1 : List Int) : Option ((List (List Int)) × (List (S49))) := fastiref15_Some.l0 k l1 0 aj ag aj ([] : List (S49))
def fastiref15_Some.T5 : Bool × List (List Nat × List Nat) := (true, [([], []), ([0], [0]), ([], []), ([2], [2]), ([], []), ([], []), ([4, 5], [4, 5]), ([6], [6]), ([3, 7], [3, 7]), ([8], [8]), ([9], [9]), ([1, 10], [1, 10]), ([0, 1, 2, 3, 4, 5, 6, 7, 8, 9, 10, 11], []), ([12, 11, 11, 0, 1, 2, 3, 4, 5, 6, 7, 8, 9, 10, 11], [11, 12])])
def fastiref15_Some.B5 : List Nat := [0, 1, 0, 4, 0, 0, 48, 112, 252, 508, 1020, 2047, 4095, 8191]
theorem fastiref15_Some.tab5 : eX .any (gG Try.f28 5) = fastiref15_Some.T5 := by kernel_rfl
theorem fastiref15_Some.bits5 : f7 fastiref15_Some.T5.2 fastiref15_Some.B5 = true := by kernel_rfl
set_option maxHeartbeats 8000000 in
set_option maxRecDepth 100000 in
theorem fastiref15_Some.calls (k : Nat) (P0_0_ : Nat → Prop) (ar : Option Addr) (ap : Nat) (aj : List (List Int)) (P0_1_ : Nat → Prop) (au : Option Addr) (ao : Nat) (ag : List (S49)) (A1 : Option Addr) (c1 : Nat) (l1 : List Int) (r1 : List (List Int)) (r2 : List (S49)) (w : World) (hs0_0 : Kd.V (Kd.slice 3 (Kd.int .i64)) 26 w w.heap.size (fun k_ => P0_0_ k_) (.slice ar aj.length ap) aj) (hs0_1 : Kd.V k49 49 w w.heap.size (fun k_ => P0_1_ k_) (.slice au ag.length ao) ag) (hr1 : Kd.C (Kd.int .i64) w A1 l1.length l1) (hc1 : l1.length ≤ c1) (h : fastiref15_Some.f k aj ag l1 = some (r1, r2)) :
  Calls Try.prog 28 #[.agg #[.slice ar aj.length ap, .slice au ag.length ao], .slice A1 l1.length c1] w fun e w' => ∃ v0_ v1_ : Value, e = .returned (.agg #[v0_, v1_]) ∧ Kd.V (Kd.slice 3 (Kd.int .i64)) 26 w' w.heap.size (fun k_ => ((P0_0_ k_ ∨ P0_1_ k_) ∨ w.heap.size ≤ k_) ∧ some k_ ≠ (v1_ : Value).ownBlock) v0_ r1 ∧ Kd.N k49 49 w' w.heap.size (fun k_ => ((P0_0_ k_ ∨ P0_1_ k_) ∨ w.heap.size ≤ k_)) v1_ r2 ∧ Below w.heap.size w w' := by
 have hu25 := Try.underlying25
 have hu49 := Try.underlying49
 have kF := Aside0.mk (show Kd.V (Kd.slice 3 (Kd.int .i64)) 26 w w.heap.size (fun k_ => ((P0_0_ k_ ∨ P0_1_ k_) ∨ w.heap.size ≤ k_)) (.slice ar aj.length ap) aj from Kd.V_mono hs0_0 (fun k_ hk => .inl (.inl hk)))
 have HO0_1 := Aside0.mk (show Kd.V k49 49 w w.heap.size (fun k_ => ((P0_0_ k_ ∨ P0_1_ k_) ∨ w.heap.size ≤ k_)) (.slice au ag.length ao) ag from Kd.V_mono hs0_1 (fun k_ hk => .inl (.inr hk)))
 have HR1 := Aside0.mk hr1
 have HC1 := Aside0.mk hc1
 clear hr1 hc1
 have HB := Aside0.mk (Below.refl w.heap.size w)
 have H : (fastiref15_Some.l0 k l1 0 aj ag aj ([] : List (S49))) = some (r1, r2) := h
 clear h
 have H' := Aside0.mk H
 clear H
 go_enter Try.func28, Try.ntmps28
 go_wp2_with (first | ((with_reducible refine az (N := 2) rfl ?_); refine aq ?hg (N := 2) ?hd (cs := #[.slice ar aj.length ap, .slice au ag.length ao]) (t := 25) ?hr ?_; (case hd => rfl); (case hg => rfl); (case hr => first | (go_simp; done) | (go_simp; rfl)); intro cA hg w3 hbox hb; have n0_ := Aside0.mk (Kd.V_below (Kd.V_elderB (by (with_reducible repeat (first | apply Kd.V_alloc | apply Kd.V_drewN | apply Kd.V_drew)); exact kF.out) cA (Nat.le_of_eq hg.symm)) hb); have n1_ := Aside0.mk (Kd.V_below (Kd.V_elderB (by (with_reducible repeat (first | apply Kd.V_alloc | apply Kd.V_drewN | apply Kd.V_drew)); exact HO0_1.out) cA (Nat.le_of_eq hg.symm)) hb); have n2_ := Aside0.mk (ah (by repeat (first | (with_reducible first | exact HB.out | apply a6 | apply a4 | apply a5) | exact HB.out)) hb); have n3_ := Aside0.mk (hbox); have n4_ := Aside0.mk ((by rw [hg]; exact (ae (by repeat (first | (with_reducible first | exact HB.out | apply a6 | apply a4 | apply a5) | exact HB.out))) : w.heap.size ≤ cA)); have n5_ := Aside0.mk ((by rw [hg]; exact (ae (by repeat (first | (with_reducible first | exact HB.out | apply a6 | apply a4 | apply a5) | exact HB.out))) : w.heap.size ≤ cA)); clear kF; clear HO0_1; clear HB; have kF := n0_; have HO0_1 := n1_; have HB := n2_; have d6 := n3_; have GW352 := n4_; have iW := n5_; clear n0_ n1_ n2_ n3_ n4_ n5_; clear hb hbox hg) | ((with_reducible refine az (N := 4) rfl ?_); refine aq ?hg (N := 4) ?hd (cs := #[.slice none 0 0, .slice none 0 0]) (t := 25) ?hr ?_; (case hd => rfl); (case hg => rfl); (case hr => first | (go_simp; done) | (go_simp; rfl)); intro cm hg w4 hbox hb; have n0_ := Aside0.mk (Kd.V_below (Kd.V_elderB (by (with_reducible repeat (first | apply Kd.V_alloc | apply Kd.V_drewN | apply Kd.V_drew)); exact kF.out) cm (Nat.le_of_eq hg.symm)) hb); have n1_ := Aside0.mk (Kd.V_below (Kd.V_elderB (by (with_reducible repeat (first | apply Kd.V_alloc | apply Kd.V_drewN | apply Kd.V_drew)); exact HO0_1.out) cm (Nat.le_of_eq hg.symm)) hb); have n2_ := Aside0.mk (af (g := cA) (o := .cells #[.slice ar aj.length ap, .slice au ag.length ao] 25 (0, 0)) (by (with_reducible repeat (first | refine ab ?_ _ | refine ac ?_ | refine aa ?_ _)); exact d6.out) hb); have n3_ := Aside0.mk (ah (by repeat (first | (with_reducible first | exact HB.out | apply a6 | apply a4 | apply a5 | refine a9 ?_ iW.out) | exact HB.out)) hb); have n4_ := Aside0.mk (hbox); have n5_ := Aside0.mk ((by rw [hg]; exact (ae (by repeat (first | (with_reducible first | exact HB.out | apply a6 | apply a4 | apply a5 | refine a9 ?_ iW.out) | exact HB.out))) : w.heap.size ≤ cm)); have n6_ := Aside0.mk ((by rw [hg]; exact (ae (by repeat (first | (with_reducible first | exact HB.out | apply a6 | apply a4 | apply a5 | refine a9 ?_ iW.out) | exact HB.out))) : w.heap.size ≤ cm)); have n7_ := Aside0.mk ((by rw [hg]; exact Nat.ne_of_lt (bf (g := cA) (o := .cells #[.slice ar aj.length ap, .slice au ag.length ao] 25 (0, 0)) (by (with_reducible repeat (first | refine ab ?_ _ | refine ac ?_ | refine aa ?_ _)); exact d6.out)) : cA ≠ cm)); have n8_ := Aside0.mk ((by rw [hg]; exact Nat.ne_of_gt (bf (g := cA) (o := .cells #[.slice ar aj.length ap, .slice au ag.length ao] 25 (0, 0)) (by (with_reducible repeat (first | refine ab ?_ _ | refine ac ?_ | refine aa ?_ _)); exact d6.out)) : cm ≠ cA)); clear kF; clear HO0_1; clear d6; clear HB; have kF := n0_; have HO0_1 := n1_; have d6 := n2_; have HB := n3_; have ef := n4_; have GW353 := n5_; have GE353 := n6_; have NB352_353 := n7_; have NB353_352 := n8_; clear n0_ n1_ n2_ n3_ n4_ n5_ n6_ n7_ n8_; clear hb hbox hg; have hnb5 := NB352_353.out; have hnc5 := NB353_352.out; have dw : w4.cell? ⟨cA, 0, none⟩ = some (.slice ar aj.length ap) := (a7 d6.out 0).trans rfl; have dx : w4.cell? ⟨cA, 1, none⟩ = some (.slice au ag.length ao) := (a7 d6.out 1).trans rfl; have dy := a8 d6.out 0; have dz := a8 d6.out 1) | ((with_reducible refine az (N := 5) rfl ?_); refine aq ?hg (N := 5) ?hd (cs := #[.slice none 0 0, .slice none 0 0]) (t := 25) ?hr ?_; (case hd => rfl); (case hg => rfl); (case hr => first | (go_simp; done) | (go_simp; rfl)); intro bQ hg w7 hbox hb; have n0_ := Aside0.mk (Kd.V_below (Kd.V_elderB (by (with_reducible repeat (first | apply Kd.V_alloc | apply Kd.V_drewN | apply Kd.V_drew)); exact kF.out) bQ (Nat.le_of_eq hg.symm)) hb); have n1_ := Aside0.mk (Kd.V_below (Kd.V_elderB (by (with_reducible repeat (first | apply Kd.V_alloc | apply Kd.V_drewN | apply Kd.V_drew)); exact HO0_1.out) bQ (Nat.le_of_eq hg.symm)) hb); have n2_ := Aside0.mk (af (g := cA) (o := .cells #[.slice ar aj.length ap, .slice au ag.length ao] 25 (0, 0)) (by (with_reducible repeat (first | refine ab ?_ _ | refine ac ?_ | refine aa ?_ _)); exact d6.out) hb); have n3_ := Aside0.mk (af (g := cm) (o := .cells #[.slice none 0 0, .slice none 0 0] 25 (0, 0)) (by (with_reducible repeat (first | refine ab ?_ _ | refine ac ?_ | refine aa ?_ _)); exact ef.out) hb); have n4_ := Aside0.mk (ah (by repeat (first | (with_reducible first | exact HB.out | apply a6 | apply a4 | apply a5 | refine a9 ?_ iW.out | refine a9 ?_ GE353.out) | exact HB.out)) hb); have n5_ := Aside0.mk (hbox); have n6_ := Aside0.mk ((by rw [hg]; exact (ae (by repeat (first | (with_reducible first | exact HB.out | apply a6 | apply a4 | apply a5 | refine a9 ?_ iW.out | refine a9 ?_ GE353.out) | exact HB.out))) : w.heap.size ≤ bQ)); have n7_ := Aside0.mk ((by rw [hg]; exact (ae (by repeat (first | (with_reducible first | exact HB.out | apply a6 | apply a4 | apply a5 | refine a9 ?_ iW.out | refine a9 ?_ GE353.out) | exact HB.out))) : w.heap.size ≤ bQ)); have n8_ := Aside0.mk ((by rw [hg]; exact Nat.ne_of_lt (bf (g := cA) (o := .cells #[.slice ar aj.length ap, .slice au ag.length ao] 25 (0, 0)) (by (with_reducible repeat (first | refine ab ?_ _ | refine ac ?_ | refine aa ?_ _)); exact d6.out)) : cA ≠ bQ)); have n9_ := Aside0.mk ((by rw [hg]; exact Nat.ne_of_gt (bf (g := cA) (o := .cells #[.slice ar aj.length ap, .slice au ag.length ao] 25 (0, 0)) (by (with_reducible repeat (first | refine ab ?_ _ | refine ac ?_ | refine aa ?_ _)); exact d6.out)) : bQ ≠ cA)); have n10_ := Aside0.mk ((by rw [hg]; exact Nat.ne_of_lt (bf (g := cm) (o := .cells #[.slice none 0 0, .slice none 0 0] 25 (0, 0)) (by (with_reducible repeat (first | refine ab ?_ _ | refine ac ?_ | refine aa ?_ _)); exact ef.out)) : cm ≠ bQ)); have n11_ := Aside0.mk ((by rw [hg]; exact Nat.ne_of_gt (bf (g := cm) (o := .cells #[.slice none 0 0, .slice none 0 0] 25 (0, 0)) (by (with_reducible repeat (first | refine ab ?_ _ | refine ac ?_ | refine aa ?_ _)); exact ef.out)) : bQ ≠ cm)); clear kF; clear HO0_1; clear d6; clear ef; clear HB; have kF := n0_; have HO0_1 := n1_; have d6 := n2_; have ef := n3_; have HB := n4_; have dD := n5_; have GW354 := n6_; have GE354 := n7_; have NB352_354 := n8_; have NB354_352 := n9_; have NB353_354 := n10_; have NB354_353 := n11_; clear n0_ n1_ n2_ n3_ n4_ n5_ n6_ n7_ n8_ n9_ n10_ n11_; clear hb hbox hg; have hnb8 := NB354_352.out; have hnc8 := NB352_354.out; have hnb9 := NB354_353.out; have hnc9 := NB353_354.out; have fh : w7.cell? ⟨bQ, 0, none⟩ = some (.slice none 0 0) := (a7 dD.out 0).trans rfl; have fj : w7.cell? ⟨bQ, 1, none⟩ = some (.slice none 0 0) := (a7 dD.out 1).trans rfl; have fk := a8 dD.out 0; have fl := a8 dD.out 1))
 go_loopg [6] k (fun kq v6 w' => ∃ (x6_1 : Int) (x355001_1 : List (S49)) (u355001 : Value), v6 = .int .i64 x6_1 ∧ Aside0 (fastiref15_Some.l0 kq l1 x6_1 aj ag aj x355001_1 = some (r1, r2)) ∧ Aside0 (kq ≤ k) ∧ Aside0 (Kd.V (Kd.slice 3 (Kd.int .i64)) 26 w' w.heap.size (fun k_ => ((P0_0_ k_ ∨ P0_1_ k_) ∨ w.heap.size ≤ k_) ∧ some k_ ≠ (u355001 : Value).ownBlock ∧ k_ ≠ cA ∧ k_ ≠ cm ∧ k_ ≠ bQ) (.slice ar aj.length ap) aj) ∧ Aside0 (Kd.V k49 49 w' w.heap.size (fun k_ => ((P0_0_ k_ ∨ P0_1_ k_) ∨ w.heap.size ≤ k_) ∧ some k_ ≠ (u355001 : Value).ownBlock ∧ k_ ≠ cA ∧ k_ ≠ cm ∧ k_ ≠ bQ) (.slice au ag.length ao) ag) ∧ Aside0 (Kd.V (Kd.slice 3 (Kd.int .i64)) 26 w' w.heap.size (fun k_ => ((P0_0_ k_ ∨ P0_1_ k_) ∨ w.heap.size ≤ k_) ∧ some k_ ≠ (u355001 : Value).ownBlock ∧ k_ ≠ cA ∧ k_ ≠ cm ∧ k_ ≠ bQ) (.slice ar aj.length ap) aj) ∧ Aside0 (Kd.N k49 49 w' w.heap.size (fun k_ => ((P0_0_ k_ ∨ P0_1_ k_) ∨ w.heap.size ≤ k_) ∧ k_ ≠ cA ∧ k_ ≠ cm ∧ k_ ≠ bQ) u355001 x355001_1) ∧ Aside0 (w'.heap[cA]? = some (.cells #[(.slice ar aj.length ap), (.slice au ag.length ao)] 25 (0, 0))) ∧ Aside0 (w'.heap[cm]? = some (.cells #[(.slice none 0 0), (.slice none 0 0)] 25 (0, 0))) ∧ Aside0 (w'.heap[bQ]? = some (.cells #[(.slice ar aj.length ap), u355001] 25 (0, 0))) ∧ Aside0 (Below w.heap.size w w'))
 case atStart => exact ⟨(0), (([] : List (S49))), (.slice none 0 0), (by first | rfl | (simp; done) | (simp [*]; done)), H', ⟨Nat.le_refl _⟩, ⟨by (with_reducible repeat (first | apply Kd.V_alloc | apply Kd.V_drewN | apply Kd.V_drew)); exact Kd.V_mono (Kd.V_far (p := ⟨bQ, 1, none⟩) (Kd.V_far (p := ⟨bQ, 0, none⟩) (Kd.V_mono kF.out (fun k_ hk => (⟨hk, hk.2⟩ : _ ∧ k_ ≠ bQ))) (fun _ hk => hk.2) (.slice ar aj.length ap)) (fun _ hk => hk.2) (.slice none 0 0)) (fun _ hk => ⟨hk.1.1.1.1, ⟨(by simp [Value.ownBlock]), ⟨hk.1.1.1.2, ⟨hk.1.1.2, hk.1.2⟩⟩⟩⟩)⟩, ⟨by (with_reducible repeat (first | apply Kd.V_alloc | apply Kd.V_drewN | apply Kd.V_drew)); exact Kd.V_mono (Kd.V_far (p := ⟨bQ, 1, none⟩) (Kd.V_far (p := ⟨bQ, 0, none⟩) (Kd.V_mono HO0_1.out (fun k_ hk => (⟨hk, hk.2⟩ : _ ∧ k_ ≠ bQ))) (fun _ hk => hk.2) (.slice ar aj.length ap)) (fun _ hk => hk.2) (.slice none 0 0)) (fun _ hk => ⟨hk.1.1.1.1, ⟨(by simp [Value.ownBlock]), ⟨hk.1.1.1.2, ⟨hk.1.1.2, hk.1.2⟩⟩⟩⟩)⟩, ⟨by (with_reducible repeat (first | apply Kd.V_alloc | apply Kd.V_drewN | apply Kd.V_drew)); exact Kd.V_mono (Kd.V_far (p := ⟨bQ, 1, none⟩) (Kd.V_far (p := ⟨bQ, 0, none⟩) (Kd.V_mono kF.out (fun k_ hk => (⟨hk, hk.2⟩ : _ ∧ k_ ≠ bQ))) (fun _ hk => hk.2) (.slice ar aj.length ap)) (fun _ hk => hk.2) (.slice none 0 0)) (fun _ hk => ⟨hk.1.1.1.1, ⟨(by simp [Value.ownBlock]), ⟨hk.1.1.1.2, ⟨hk.1.1.2, hk.1.2⟩⟩⟩⟩)⟩, ⟨by first | exact Kd.R_nil _ _ _ _ _ | exact Kd.N_nil _ _ _ _ _ | exact Kd.V_nil _ _ _ _ _ | exact Kd.Q_nil _ _ _ _ _ | exact Kd.S_nil _ _ _ _ _⟩, ⟨by (with_reducible repeat (first | refine ab ?_ _ | refine ac ?_ | refine aa ?_ _)); refine aZ ?_ NB352_354.out _; (with_reducible repeat (first | refine ab ?_ _ | refine ac ?_ | refine aa ?_ _)); refine aZ ?_ NB352_354.out _; (with_reducible repeat (first | refine ab ?_ _ | refine ac ?_ | refine aa ?_ _)); exact d6.out⟩, ⟨by (with_reducible repeat (first | refine ab ?_ _ | refine ac ?_ | refine aa ?_ _)); refine aZ ?_ NB353_354.out _; (with_reducible repeat (first | refine ab ?_ _ | refine ac ?_ | refine aa ?_ _)); refine aZ ?_ NB353_354.out _; (with_reducible repeat (first | refine ab ?_ _ | refine ac ?_ | refine aa ?_ _)); exact ef.out⟩, ⟨by (with_reducible repeat (first | refine ab ?_ _ | refine ac ?_ | refine aa ?_ _)); refine aU (cs := #[.slice ar aj.length ap, .slice none 0 0]) ?_ 1 _ rfl; (with_reducible repeat (first | refine ab ?_ _ | refine ac ?_ | refine aa ?_ _)); refine aU (cs := #[.slice none 0 0, .slice none 0 0]) ?_ 0 _ rfl; (with_reducible repeat (first | refine ab ?_ _ | refine ac ?_ | refine aa ?_ _)); exact dD.out⟩, ⟨by repeat (first | (with_reducible first | exact HB.out | apply a6 | apply a4 | apply a5 | refine a9 ?_ iW.out | refine a9 ?_ GE353.out | refine a9 ?_ GE354.out) | exact HB.out)⟩⟩
 case round =>
  clear H'
  try clear c1; try clear c2; try clear p2; try clear c5; try clear c8; try clear c9; try clear fh; try clear fj; try clear dw; try clear dx; try clear fk; try clear fl; try clear dy; try clear dz
  obtain ⟨x6_1, x355001_1, u355001, rfl, HA, HK1, dE, cG, df, cH, d6, ef, dD, HB⟩ := hrel
  cases gk with
  | zero => exact absurd HA.out (by simp [fastiref15_Some.l0])
  | succ k1 =>
   have H := HA.out
   clear HA
   simp only [fastiref15_Some.l0] at H
   by_cases c11 : x6_1 < (l1.length : Int)
   ·rw [if_pos c11] at H
    have c11b0 : decide (x6_1 < (l1.length : Int)) = true := decide_eq_true c11
    clear c11
    by_cases c12 : 0 ≤ x6_1
    ·rw [if_pos c12] at H
     have c12b0 : decide (0 ≤ x6_1) = true := decide_eq_true c12
     clear c12
     by_cases c13 : 0 ≤ (rd l1 x6_1)
     ·rw [if_pos c13] at H
      have c13b0 : decide (0 ≤ (rd l1 x6_1)) = true := decide_eq_true c13
      clear c13
      by_cases c14 : (rd l1 x6_1) < (ag.length : Int)
      ·rw [if_pos c14] at H
       have iS : decide ((rd l1 x6_1) < (ag.length : Int)) = true := decide_eq_true c14
       clear c14
       by_cases c15 : x355001_1.length < 2199023255552
       ·rw [if_pos c15] at H
        have LMc15 := Aside0.mk c15
        clear c15
        obtain ⟨y357, hy357⟩ : ∃ y_ : List (S49), y_ = (x355001_1 ++ [(⟨(ai ag (rd l1 x6_1)).f0, (ai ag (rd l1 x6_1)).f1, (ai ag (rd l1 x6_1)).f2, (ai ag (rd l1 x6_1)).f3⟩ : S49)]) := ⟨_, rfl⟩
        replace H : (fastiref15_Some.l0 k1 l1 (wrap64 (x6_1 + 1)) aj ag aj y357) = some (r1, r2) := by first | (rw [hy357]; with_reducible exact H) | (have H2_ := (Option.bind_some _ _).symm.trans H; rw [hy357]; with_reducible exact H2_) | (have H2_ := (Option.bind_some _ _).symm.trans H; with_reducible exact H2_) | with_reducible exact H | (rw [hy357]; exact H) | exact H
        have Ny357 := Aside0.mk hy357
        clear hy357
        have H' := Aside0.mk H
        clear H
        try go_wp2
        have n0_ := Aside0.mk (Kd.V_drew dE.out)
        have n1_ := Aside0.mk (Kd.V_drew cG.out)
        have n2_ := Aside0.mk (Kd.V_drew df.out)
        have n3_ := Aside0.mk (Kd.N_drew cH.out)
        have n4_ := Aside0.mk (ac d6.out)
        have n5_ := Aside0.mk (ac ef.out)
        have n6_ := Aside0.mk (ac dD.out)
        have n7_ := Aside0.mk (a5 HB.out)
        clear dE
        clear cG
        clear df
        clear cH
        clear d6
        clear ef
        clear dD
        clear HB
        have dE := n0_
        have cG := n1_
        have df := n2_
        have cH := n3_
        have d6 := n4_
        have ef := n5_
        have dD := n6_
        have HB := n7_
        clear n0_ n1_ n2_ n3_ n4_ n5_ n6_ n7_
        have p355 : 0 ≤ (x6_1 : Int) := of_decide_eq_true (by first | (with_reducible assumption) | assumption)
        have q355 : x6_1 < (l1.length : Int) := of_decide_eq_true (by first | (with_reducible assumption) | assumption)
        obtain ⟨ad355, e355, kG⟩ := Kd.at_int HR1.out x6_1 p355 q355
        have iu := kG
        cases e355
        replace kG := (HB.out.cell (World.block_lt_of_cell? w _ kG)).trans kG
        replace p355 := eq_true p355
        replace q355 := eq_true q355
        have p356 : 0 ≤ ((rd l1 x6_1) : Int) := of_decide_eq_true (by first | (with_reducible assumption) | assumption)
        have q356 : (rd l1 x6_1) < (ag.length : Int) := of_decide_eq_true (by first | (with_reducible assumption) | assumption)
        obtain ⟨ad356, A356_2, c356_2, A356_3, c356_3, e356, hx356_0, hx356_1, hx356_2, hx356_3, hl356_2, hi356_2, hl356_3, hi356_3⟩ := dS (Kd.V_reads' cG.out).2.2 (rd l1 x6_1) p356 q356
        cases e356
        obtain ⟨ce356, hce356, hMe356, hcc356⟩ := Kd.V_get cG.out z49 (rd l1 x6_1) p356 (by first | exact q356 | exact of_decide_eq_true (by first | (with_reducible assumption) | assumption) | (have e_ := (Kd.V_reads' cG.out).1; omega))
        obtain ⟨ua356_2, uc356_2, ua356_3, uc356_3, rfl, ul356_2, ge356_2, ul356_3, ge356_3⟩ := k49_openF hMe356
        have hv356_2 := hcc356 2 _ rfl
        rw [ew _ _ 2 (by omega)] at hv356_2
        replace hv356_2 := Option.some.inj (hv356_2.symm.trans hx356_2)
        injection hv356_2 with hva_ hvn_ hvc_
        rw [hva_] at ge356_2
        rw [hvc_] at ul356_2
        have iv := Aside0.mk (show Kd.V (Kd.int .i64) 3 _ w.heap.size _ _ ((ai ag (rd l1 x6_1)).f2) from Kd.V_mk ul356_2 ge356_2)
        clear hva_ hvn_ hvc_ ge356_2 ul356_2
        have hv356_3 := hcc356 3 _ rfl
        rw [ew _ _ 3 (by omega)] at hv356_3
        replace hv356_3 := Option.some.inj (hv356_3.symm.trans hx356_3)
        injection hv356_3 with hva_ hvn_ hvc_
        rw [hva_] at ge356_3
        rw [hvc_] at ul356_3
        have iw := Aside0.mk (show Kd.V (Kd.slice 3 (Kd.int .i64)) 26 _ w.heap.size _ _ ((ai ag (rd l1 x6_1)).f3) from Kd.V_mk ul356_3 ge356_3)
        clear hva_ hvn_ hvc_ ge356_3 ul356_3
        clear hcc356 hce356
        have HR356_2 := Aside0.mk hi356_2
        have HC356_2 := Aside0.mk hl356_2
        clear hi356_2 hl356_2
        have HR356_3 := Aside0.mk hi356_3
        have HC356_3 := Aside0.mk hl356_3
        clear hi356_3 hl356_3
        replace p356 := eq_true p356
        replace q356 := eq_true q356
        refine eS (n := 14) (S := fun w' => w'.cell? ⟨bQ, 0, none⟩ = some (.slice ar aj.length ap) ∧ w'.cell? ⟨bQ, 1, none⟩ = some (u355001) ∧ w'.cell? ⟨cA, 0, none⟩ = some (.slice ar aj.length ap) ∧ w'.cell? ⟨cA, 1, none⟩ = some (.slice (some ad356) ag.length ao) ∧ w'.cell? (ad355.add (x6_1).toNat) = some (.int .i64 (rd l1 x6_1)) ∧ w'.cell? (ad356.add (((rd l1 x6_1)).toNat * 4)) = some (.int .i64 ((ai ag (rd l1 x6_1)).f0)) ∧ w'.cell? ⟨(ad356.add (((rd l1 x6_1)).toNat * 4)).block, (ad356.add (((rd l1 x6_1)).toNat * 4)).off + 1, none⟩ = some (.int .i64 ((ai ag (rd l1 x6_1)).f1)) ∧ w'.cell? ⟨(ad356.add (((rd l1 x6_1)).toNat * 4)).block, (ad356.add (((rd l1 x6_1)).toNat * 4)).off + 2, none⟩ = some (.slice A356_2 ((ai ag (rd l1 x6_1)).f2).length c356_2) ∧ w'.cell? ⟨(ad356.add (((rd l1 x6_1)).toNat * 4)).block, (ad356.add (((rd l1 x6_1)).toNat * 4)).off + 3, none⟩ = some (.slice A356_3 ((ai ag (rd l1 x6_1)).f3).length c356_3)) (ds := [11, 13]) #[false, false, false, false, false, false, false, false, false, false, false, false, false, false] (by kernel_rfl) rfl rfl ⟨(a7 dD.out 0).trans rfl, (a7 dD.out 1).trans rfl, (a7 d6.out 0).trans rfl, (a7 d6.out 1).trans rfl, ((HB.out.cell (World.block_lt_of_cell? w _ iu)).trans iu), hx356_0, hx356_1, hx356_2, hx356_3⟩ (fun hHeld => ?_); refine dR fastiref15_Some.tab5 fastiref15_Some.bits5 (fun HT_ HW_ => ?_)
        generalize wr.drew = w16 at dE cG df cH d6 ef dD HB iv iw HR356_2 HR356_3 kG hx356_0 hx356_1 hx356_2 hx356_3 hHeld ⊢
        refine aY (i := 0) (N := some 16) (v := ?_) (a' := ?_) #[true, false, false, false, false, false, false, false, false, false, false, false, false, false] rfl rfl (aG HT_.out (by kernel_rfl)) (fun _ _ _ h => h) (Or.inl ⟨by rfl, ?_⟩) ?_ ?_
        rotate_left
        ·intro w'
         go_simp
         with_reducible rfl
        rotate_left
        ·simp only [Act.put, List.setIfInBounds_toArray, List.set_cons_zero, List.set_cons_succ, aw, ax]
         rfl
        refine aY (i := 2) (N := some 18) (v := ?_) (a' := ?_) #[true, false, true, false, false, false, false, false, false, false, false, false, false, false] rfl rfl (aG HT_.out (by kernel_rfl)) (fun _ _ _ h => h) (Or.inl ⟨by rfl, ?_⟩) ?_ ?_
        rotate_left
        ·intro w'
         go_simp
         with_reducible rfl
        rotate_left
        ·simp only [Act.put, List.setIfInBounds_toArray, List.set_cons_zero, List.set_cons_succ, aw, ax]
         rfl
        refine aY (i := 4) (N := some 20) (v := ?_) (a' := ?_) #[true, false, true, false, true, false, false, false, false, false, false, false, false, false] rfl rfl (aG HT_.out (by kernel_rfl)) (fun _ _ _ h => h) (Or.inl ⟨by rfl, ?_⟩) ?_ ?_
        rotate_left
        ·intro w'
         go_simp
         with_reducible rfl
        rotate_left
        ·simp only [Act.put, List.setIfInBounds_toArray, List.set_cons_zero, List.set_cons_succ, aw, ax]
         rfl
        refine aY (i := 5) (N := some 21) (v := ?_) (a' := ?_) #[true, false, true, false, true, true, false, false, false, false, false, false, false, false] rfl rfl (aG HT_.out (by kernel_rfl)) (fun _ _ _ h => h) (Or.inl ⟨by rfl, ?_⟩) ?_ ?_
        rotate_left
        ·intro w'
         go_simp
         with_reducible rfl
        rotate_left
        ·simp only [Act.put, List.setIfInBounds_toArray, List.set_cons_zero, List.set_cons_succ, aw, ax]
         rfl
        refine aY (i := 6) (N := some 22) (v := ?_) (a' := ?_) #[true, false, true, false, true, true, true, false, false, false, false, false, false, false] rfl rfl (aG HT_.out (by kernel_rfl)) (fun _ _ _ h => h) (Or.inl ⟨by rfl, ?_⟩) ?_ ?_
        rotate_left
        ·intro w'
         go_simp
         with_reducible rfl
        rotate_left
        ·simp only [Act.put, List.setIfInBounds_toArray, List.set_cons_zero, List.set_cons_succ, aw, ax]
         rfl
        refine take_ (i := 1) (N := some 17) (v := ?_) (a' := ?_) #[true, true, true, false, true, true, true, false, false, false, false, false, false, false] rfl rfl (bF HT_.out HW_.out (by kernel_rfl)) (fun _ _ _ h => h) (Or.inl ⟨by rfl, ?_⟩) hHeld ?_ ?_
        rotate_left
        ·rintro w' ⟨s0, s1, s2, s3, s4, s5, s6, s7, s8⟩
         go_simp
         with_reducible rfl
        rotate_left
        ·simp only [Act.put, List.setIfInBounds_toArray, List.set_cons_zero, List.set_cons_succ, aw, ax]
         rfl
        refine take_ (i := 3) (N := some 19) (v := ?_) (a' := ?_) #[true, true, true, true, true, true, true, false, false, false, false, false, false, false] rfl rfl (bF HT_.out HW_.out (by kernel_rfl)) (fun _ _ _ h => h) (Or.inl ⟨by rfl, ?_⟩) hHeld ?_ ?_
        rotate_left
        ·rintro w' ⟨s0, s1, s2, s3, s4, s5, s6, s7, s8⟩
         go_simp
         with_reducible rfl
        rotate_left
        ·simp only [Act.put, List.setIfInBounds_toArray, List.set_cons_zero, List.set_cons_succ, aw, ax]
         rfl
        refine take_ (i := 7) (N := some 23) (v := ?_) (a' := ?_) #[true, true, true, true, true, true, true, true, false, false, false, false, false, false] rfl rfl (bF HT_.out HW_.out (by kernel_rfl)) (fun _ _ _ h => h) (Or.inl ⟨by rfl, ?_⟩) hHeld ?_ ?_
        rotate_left
        ·rintro w' ⟨s0, s1, s2, s3, s4, s5, s6, s7, s8⟩
         go_simp
         with_reducible rfl
        rotate_left
        ·simp only [Act.put, List.setIfInBounds_toArray, List.set_cons_zero, List.set_cons_succ, aw, ax]
         rfl
        refine aY (i := 8) (N := some 24) (v := ?_) (a' := ?_) #[true, true, true, true, true, true, true, true, true, false, false, false, false, false] rfl rfl (aG HT_.out (by kernel_rfl)) (fun _ _ _ h => h) (Or.inl ⟨by rfl, ?_⟩) ?_ ?_
        rotate_left
        ·intro w'
         go_simp
         with_reducible rfl
        rotate_left
        ·simp only [Act.put, List.setIfInBounds_toArray, List.set_cons_zero, List.set_cons_succ, aw, ax]
         rfl
        refine take_ (i := 9) (N := some 25) (v := ?_) (a' := ?_) #[true, true, true, true, true, true, true, true, true, true, false, false, false, false] rfl rfl (bF HT_.out HW_.out (by kernel_rfl)) (fun _ _ _ h => h) (Or.inl ⟨by rfl, ?_⟩) hHeld ?_ ?_
        rotate_left
        ·rintro w' ⟨s0, s1, s2, s3, s4, s5, s6, s7, s8⟩
         go_simp
         with_reducible rfl
        rotate_left
        ·simp only [Act.put, List.setIfInBounds_toArray, List.set_cons_zero, List.set_cons_succ, aw, ax]
         rfl
        refine gB (i := 10) (N := some 26) #[true, true, true, true, true, true, true, true, true, true, true, false, false, false] rfl rfl (bP HT_.out (by kernel_rfl)) (by decide) (fun K hK => ?_)
        refine value_ (w1 := ?_) (v := ?_) (by rfl) rfl ?_ ?_
        rotate_left 2
        ·go_simp
         constructor
         ·rfl
         ·rfl
        refine hK.out _ _ ⟨(a7 (aa dD.out _) 0).trans rfl, (a7 (aa dD.out _) 1).trans rfl, (a7 (aa d6.out _) 0).trans rfl, (a7 (aa d6.out _) 1).trans rfl, (World.cell?_alloc_lt _ _ _ (World.block_lt_of_cell? _ _ (((HB.out.cell (World.block_lt_of_cell? w _ iu)).trans iu)))).trans (((HB.out.cell (World.block_lt_of_cell? w _ iu)).trans iu)), (World.cell?_alloc_lt _ _ _ (World.block_lt_of_cell? _ _ (hHeld.2.2.2.2.2.1))).trans (hHeld.2.2.2.2.2.1), (World.cell?_alloc_lt _ _ _ (World.block_lt_of_cell? _ _ (hHeld.2.2.2.2.2.2.1))).trans (hHeld.2.2.2.2.2.2.1), (World.cell?_alloc_lt _ _ _ (World.block_lt_of_cell? _ _ (hHeld.2.2.2.2.2.2.2.1))).trans (hHeld.2.2.2.2.2.2.2.1), (World.cell?_alloc_lt _ _ _ (World.block_lt_of_cell? _ _ (hHeld.2.2.2.2.2.2.2.2))).trans (hHeld.2.2.2.2.2.2.2.2)⟩ (fun hHeld => ?_)
        clear hK K
        refine bZ (a' := ?_) ?_ ?_
        rotate_left
        ·show Act.put _ (some 26) _ = _
         simp only [Act.put, List.setIfInBounds_toArray, List.set_cons_zero, List.set_cons_succ, aw, ax]
         rfl
        refine last_ (i := 11) (N := some 27) #[true, true, true, true, true, true, true, true, true, true, true, true, false, false] rfl rfl (bP HT_.out (by kernel_rfl)) (by decide) (fun K hK => ?_)
        refine Kd.N_append_step k49 (w0 := w) w.heap.size (by rfl) (.tmp 17) (.tmp 26) 23 49 (.agg #[(.int .i64 0), (.int .i64 0), (.slice none 0 0), (.slice none 0 0)]) 64 rfl Try.underlying23 info49 rfl (by decide) (by omega) u355001 x355001_1 (⟨(ai ag (rd l1 x6_1)).f0, (ai ag (rd l1 x6_1)).f1, (ai ag (rd l1 x6_1)).f2, (ai ag (rd l1 x6_1)).f3⟩ : S49) [.int .i64 ((ai ag (rd l1 x6_1)).f0), .int .i64 ((ai ag (rd l1 x6_1)).f1), .slice A356_2 ((ai ag (rd l1 x6_1)).f2).length c356_2, .slice A356_3 ((ai ag (rd l1 x6_1)).f3).length c356_3] (fun k_ => ((P0_0_ k_ ∨ P0_1_ k_) ∨ w.heap.size ≤ k_) ∧ k_ ≠ cA ∧ k_ ≠ cm ∧ k_ ≠ bQ) (fun k_ => ((fun k_ => ((P0_0_ k_ ∨ P0_1_ k_) ∨ w.heap.size ≤ k_) ∧ k_ ≠ cA ∧ k_ ≠ cm ∧ k_ ≠ bQ)) k_ ∧ some k_ ≠ (u355001 : Value).ownBlock) rfl rfl ?aP (fun _ hk => hk) ?aF ?aO ?aB ?aS ?aL ?_
        (case aP => exact (k49_mkF _ _ (⟨(ai ag (rd l1 x6_1)).f0, (ai ag (rd l1 x6_1)).f1, (ai ag (rd l1 x6_1)).f2, (ai ag (rd l1 x6_1)).f3⟩ : S49) (Kd.V_reads' (Kd.V_mono (ok' := (fun k_ => ((fun k_ => ((P0_0_ k_ ∨ P0_1_ k_) ∨ w.heap.size ≤ k_) ∧ k_ ≠ cA ∧ k_ ≠ cm ∧ k_ ≠ bQ)) k_ ∧ some k_ ≠ (u355001 : Value).ownBlock)) (iv.out) (fun k_ hk => ⟨⟨hk.1, ⟨hk.2.2.1, ⟨hk.2.2.2.1, hk.2.2.2.2⟩⟩⟩, hk.2.1⟩))).2.1 (Kd.V_F (Kd.V_mono (ok' := (fun k_ => ((fun k_ => ((P0_0_ k_ ∨ P0_1_ k_) ∨ w.heap.size ≤ k_) ∧ k_ ≠ cA ∧ k_ ≠ cm ∧ k_ ≠ bQ)) k_ ∧ some k_ ≠ (u355001 : Value).ownBlock)) (iv.out) (fun k_ hk => ⟨⟨hk.1, ⟨hk.2.2.1, ⟨hk.2.2.2.1, hk.2.2.2.2⟩⟩⟩, hk.2.1⟩))) (Kd.V_reads' (Kd.V_mono (ok' := (fun k_ => ((fun k_ => ((P0_0_ k_ ∨ P0_1_ k_) ∨ w.heap.size ≤ k_) ∧ k_ ≠ cA ∧ k_ ≠ cm ∧ k_ ≠ bQ)) k_ ∧ some k_ ≠ (u355001 : Value).ownBlock)) (iw.out) (fun k_ hk => ⟨⟨hk.1, ⟨hk.2.2.1, ⟨hk.2.2.2.1, hk.2.2.2.2⟩⟩⟩, hk.2.1⟩))).2.1 (Kd.V_F (Kd.V_mono (ok' := (fun k_ => ((fun k_ => ((P0_0_ k_ ∨ P0_1_ k_) ∨ w.heap.size ≤ k_) ∧ k_ ≠ cA ∧ k_ ≠ cm ∧ k_ ≠ bQ)) k_ ∧ some k_ ≠ (u355001 : Value).ownBlock)) (iw.out) (fun k_ hk => ⟨⟨hk.1, ⟨hk.2.2.1, ⟨hk.2.2.2.1, hk.2.2.2.2⟩⟩⟩, hk.2.1⟩)))))
        (case aB => exact (by repeat (first | (with_reducible first | exact HB.out | apply a6 | apply a4 | apply a5 | refine a9 ?_ iW.out | refine a9 ?_ GE353.out | refine a9 ?_ GE354.out) | exact HB.out)))
        (case aF => exact (fun k_ hk => ⟨(.inr (Nat.le_trans (ae (by repeat (first | (with_reducible first | exact HB.out | apply a6 | apply a4 | apply a5 | refine a9 ?_ iW.out | refine a9 ?_ GE353.out | refine a9 ?_ GE354.out) | exact HB.out))) hk)), Kd.freshB (g := cA) (o := .cells #[.slice ar aj.length ap, .slice (some ad356) ag.length ao] 25 (0, 0)) (by (with_reducible repeat (first | refine ab ?_ _ | refine ac ?_ | refine aa ?_ _)); exact d6.out) k_ hk, Kd.freshB (g := cm) (o := .cells #[.slice none 0 0, .slice none 0 0] 25 (0, 0)) (by (with_reducible repeat (first | refine ab ?_ _ | refine ac ?_ | refine aa ?_ _)); exact ef.out) k_ hk, Kd.freshB (g := bQ) (o := .cells #[.slice ar aj.length ap, u355001] 25 (0, 0)) (by (with_reducible repeat (first | refine ab ?_ _ | refine ac ?_ | refine aa ?_ _)); exact dD.out) k_ hk⟩))
        (case aO => exact (by (with_reducible repeat (first | apply Kd.N_alloc | apply Kd.N_drewN | apply Kd.N_drew)); exact cH.out))
        (case aS => exact (ae (by repeat (first | (with_reducible first | exact HB.out | apply a6 | apply a4 | apply a5 | refine a9 ?_ iW.out | refine a9 ?_ GE353.out | refine a9 ?_ GE354.out) | exact HB.out))))
        (case aL => have := LMc15.out; omega)
        intro v358 w17 ho hb hg hat
        rw [← Ny357.out] at ho
        have n0_ := Aside0.mk (Kd.V_afterv (ok := (fun k_ => ((P0_0_ k_ ∨ P0_1_ k_) ∨ w.heap.size ≤ k_) ∧ k_ ≠ cA ∧ k_ ≠ cm ∧ k_ ≠ bQ)) (by (with_reducible repeat (first | apply Kd.V_alloc | apply Kd.V_drewN | apply Kd.V_drew)); exact Kd.V_mono dE.out (fun _ hk => ⟨⟨hk.1, ⟨hk.2.2.1, ⟨hk.2.2.2.1, hk.2.2.2.2⟩⟩⟩, hk.2.1⟩)) hg hat)
        have n1_ := Aside0.mk (Kd.V_afterv (ok := (fun k_ => ((P0_0_ k_ ∨ P0_1_ k_) ∨ w.heap.size ≤ k_) ∧ k_ ≠ cA ∧ k_ ≠ cm ∧ k_ ≠ bQ)) (by (with_reducible repeat (first | apply Kd.V_alloc | apply Kd.V_drewN | apply Kd.V_drew)); exact Kd.V_mono cG.out (fun _ hk => ⟨⟨hk.1, ⟨hk.2.2.1, ⟨hk.2.2.2.1, hk.2.2.2.2⟩⟩⟩, hk.2.1⟩)) hg hat)
        have n2_ := Aside0.mk (Kd.V_afterv (ok := (fun k_ => ((P0_0_ k_ ∨ P0_1_ k_) ∨ w.heap.size ≤ k_) ∧ k_ ≠ cA ∧ k_ ≠ cm ∧ k_ ≠ bQ)) (by (with_reducible repeat (first | apply Kd.V_alloc | apply Kd.V_drewN | apply Kd.V_drew)); exact Kd.V_mono df.out (fun _ hk => ⟨⟨hk.1, ⟨hk.2.2.1, ⟨hk.2.2.2.1, hk.2.2.2.2⟩⟩⟩, hk.2.1⟩)) hg hat)
        have n3_ := Aside0.mk (bO (g := cA) (o := .cells #[.slice ar aj.length ap, .slice (some ad356) ag.length ao] 25 (0, 0)) (by (with_reducible repeat (first | refine ab ?_ _ | refine ac ?_ | refine aa ?_ _)); exact d6.out) hg (Kd.N_ne cH.out d6.out (by decide)))
        have n4_ := Aside0.mk (bO (g := cm) (o := .cells #[.slice none 0 0, .slice none 0 0] 25 (0, 0)) (by (with_reducible repeat (first | refine ab ?_ _ | refine ac ?_ | refine aa ?_ _)); exact ef.out) hg (Kd.N_ne cH.out ef.out (by decide)))
        have n5_ := Aside0.mk (bO (g := bQ) (o := .cells #[.slice ar aj.length ap, u355001] 25 (0, 0)) (by (with_reducible repeat (first | refine ab ?_ _ | refine ac ?_ | refine aa ?_ _)); exact dD.out) hg (Kd.N_ne cH.out dD.out (by decide)))
        have n6_ := Aside0.mk (Kd.V_afterv (ok := (fun k_ => ((P0_0_ k_ ∨ P0_1_ k_) ∨ w.heap.size ≤ k_) ∧ k_ ≠ cA ∧ k_ ≠ cm ∧ k_ ≠ bQ)) (by (with_reducible repeat (first | apply Kd.V_alloc | apply Kd.V_drewN | apply Kd.V_drew)); exact Kd.V_mono iv.out (fun _ hk => ⟨⟨hk.1, ⟨hk.2.2.1, ⟨hk.2.2.2.1, hk.2.2.2.2⟩⟩⟩, hk.2.1⟩)) hg hat)
        have n7_ := Aside0.mk (Kd.V_afterv (ok := (fun k_ => ((P0_0_ k_ ∨ P0_1_ k_) ∨ w.heap.size ≤ k_) ∧ k_ ≠ cA ∧ k_ ≠ cm ∧ k_ ≠ bQ)) (by (with_reducible repeat (first | apply Kd.V_alloc | apply Kd.V_drewN | apply Kd.V_drew)); exact Kd.V_mono iw.out (fun _ hk => ⟨⟨hk.1, ⟨hk.2.2.1, ⟨hk.2.2.2.1, hk.2.2.2.2⟩⟩⟩, hk.2.1⟩)) hg hat)
        have n8_ := Aside0.mk (hb)
        have n9_ := Aside0.mk (ho)
        clear dE
        clear cG
        clear df
        clear d6
        clear ef
        clear dD
        clear iv
        clear iw
        clear HB
        clear cH
        have dE := n0_
        have cG := n1_
        have df := n2_
        have d6 := n3_
        have ef := n4_
        have dD := n5_
        have iv := n6_
        have iw := n7_
        have HB := n8_
        have HO359 := n9_
        clear n0_ n1_ n2_ n3_ n4_ n5_ n6_ n7_ n8_ n9_
        clear ho hb hg hat
        obtain ⟨Ao18, co18, eo18⟩ := Kd.N_slice HO359.out
        (first | subst eo18 | (injection eo18 with f1_ f2_ f3_; have f4_ := f1_.symm; have f5_ := f3_.symm; clear f1_ f2_ f3_; subst f4_; subst f5_))
        refine hK.out _ _ ?_
        clear hK K
        refine bZ (a' := ?_) ?_ ?_
        rotate_left
        ·show Act.put _ (some 27) _ = _
         simp only [Act.put, List.setIfInBounds_toArray, List.set_cons_zero, List.set_cons_succ, aw, ax]
         rfl
        refine aY (i := 12) (N := some 28) (v := ?_) (a' := ?_) #[true, true, true, true, true, true, true, true, true, true, true, true, true, false] rfl rfl (aG HT_.out (by kernel_rfl)) (fun _ _ _ h => h) (Or.inl ⟨by rfl, ?_⟩) ?_ ?_
        rotate_left
        ·intro w'
         go_simp
         with_reducible rfl
        rotate_left
        ·simp only [Act.put, List.setIfInBounds_toArray, List.set_cons_zero, List.set_cons_succ, aw, ax]
         rfl
        refine last_ (i := 13) (N := none) #[true, true, true, true, true, true, true, true, true, true, true, true, true, true] rfl rfl (bP HT_.out (by kernel_rfl)) (by decide) (fun K hK => ?_)
        have hs19 : w17.cell? ⟨bQ, 1, none⟩ = some (u355001) := (a7 dD.out 1).trans rfl
        have hfs19 := a8 dD.out 1
        have hns19_0 := NB352_354.out
        have hns19_1 := NB353_354.out
        have hms19_0 := NB354_352.out
        have hms19_1 := NB354_353.out
        refine skip_ (w1 := ?_) (by rfl) rfl ?_ ?_
        rotate_left
        ·go_simp
         rfl
        refine hK.out _ _ ?_
        clear hK K
        refine gW (dj HT_.out (by kernel_rfl)) ?_
        try go_wp2
        go_roundg k1
        case measure => have := HK1.out; omega
        case rel => exact ⟨(wrap64 (x6_1 + 1)), (y357), (.slice Ao18 y357.length co18), (by first | rfl | (simp; done) | (simp [*]; done)), H', ⟨by have := HK1.out; omega⟩, ⟨by (with_reducible repeat (first | apply Kd.V_alloc | apply Kd.V_drewN | apply Kd.V_drew)); exact Kd.V_mono (Kd.V_far (p := ⟨bQ, 1, none⟩) (Kd.V_mono dE.out (fun k_ hk => (⟨hk, hk.1.2.2.2⟩ : _ ∧ k_ ≠ bQ))) (fun _ hk => hk.2) (.slice Ao18 y357.length co18)) (fun _ hk => ⟨hk.1.1.1, ⟨hk.1.2, ⟨hk.1.1.2.1, ⟨hk.1.1.2.2.1, hk.1.1.2.2.2⟩⟩⟩⟩)⟩, ⟨by (with_reducible repeat (first | apply Kd.V_alloc | apply Kd.V_drewN | apply Kd.V_drew)); exact Kd.V_mono (Kd.V_far (p := ⟨bQ, 1, none⟩) (Kd.V_mono cG.out (fun k_ hk => (⟨hk, hk.1.2.2.2⟩ : _ ∧ k_ ≠ bQ))) (fun _ hk => hk.2) (.slice Ao18 y357.length co18)) (fun _ hk => ⟨hk.1.1.1, ⟨hk.1.2, ⟨hk.1.1.2.1, ⟨hk.1.1.2.2.1, hk.1.1.2.2.2⟩⟩⟩⟩)⟩, ⟨by (with_reducible repeat (first | apply Kd.V_alloc | apply Kd.V_drewN | apply Kd.V_drew)); exact Kd.V_mono (Kd.V_far (p := ⟨bQ, 1, none⟩) (Kd.V_mono df.out (fun k_ hk => (⟨hk, hk.1.2.2.2⟩ : _ ∧ k_ ≠ bQ))) (fun _ hk => hk.2) (.slice Ao18 y357.length co18)) (fun _ hk => ⟨hk.1.1.1, ⟨hk.1.2, ⟨hk.1.1.2.1, ⟨hk.1.1.2.2.1, hk.1.1.2.2.2⟩⟩⟩⟩)⟩, ⟨by (with_reducible repeat (first | apply Kd.N_alloc | apply Kd.N_drewN | apply Kd.N_drew)); exact Kd.N_mono (Kd.N_far (p := ⟨bQ, 1, none⟩) (Kd.N_mono HO359.out (fun k_ hk => (⟨hk, hk.2.2.2⟩ : _ ∧ k_ ≠ bQ))) (fun _ hk => hk.2) (.slice Ao18 y357.length co18)) (fun _ hk => ⟨hk.1.1, ⟨hk.1.2.1, ⟨hk.1.2.2.1, hk.1.2.2.2⟩⟩⟩)⟩, ⟨by (with_reducible repeat (first | refine ab ?_ _ | refine ac ?_ | refine aa ?_ _)); refine aZ ?_ NB352_354.out _; (with_reducible repeat (first | refine ab ?_ _ | refine ac ?_ | refine aa ?_ _)); exact d6.out⟩, ⟨by (with_reducible repeat (first | refine ab ?_ _ | refine ac ?_ | refine aa ?_ _)); refine aZ ?_ NB353_354.out _; (with_reducible repeat (first | refine ab ?_ _ | refine ac ?_ | refine aa ?_ _)); exact ef.out⟩, ⟨by (with_reducible repeat (first | refine ab ?_ _ | refine ac ?_ | refine aa ?_ _)); refine aU (cs := #[.slice ar aj.length ap, u355001]) ?_ 1 _ rfl; (with_reducible repeat (first | refine ab ?_ _ | refine ac ?_ | refine aa ?_ _)); exact dD.out⟩, ⟨by repeat (first | (with_reducible first | exact HB.out | apply a6 | apply a4 | apply a5 | refine a9 ?_ iW.out | refine a9 ?_ GE353.out | refine a9 ?_ GE354.out) | exact HB.out)⟩⟩
       ·rw [if_neg c15] at H
        exact absurd H (by simp)
      ·rw [if_neg c14] at H
       exact absurd H (by simp)
     ·rw [if_neg c13] at H
      exact absurd H (by simp)
    ·rw [if_neg c12] at H
     exact absurd H (by simp)
   ·rw [if_neg c11] at H
    have c11b0 : decide (x6_1 < (l1.length : Int)) = false := decide_eq_false c11
    clear c11
    simp only [Option.some.injEq, Prod.mk.injEq] at H
    obtain ⟨rfl, rfl⟩ := H
    have hnb20 := NB354_352.out
    have hnc20 := NB352_354.out
    have hnb21 := NB354_353.out
    have hnc21 := NB353_354.out
    have hcz22_0 : wr.cell? ⟨bQ, 0, none⟩ = some (.slice ar aj.length ap) := (a7 dD.out 0).trans rfl
    have hcz22_1 : wr.cell? ⟨bQ, 1, none⟩ = some (u355001) := (a7 dD.out 1).trans rfl
    have hfz22_0 := a8 dD.out 0
    have hfz22_1 := a8 dD.out 1
    have hnb23 := NB353_352.out
    have hnc23 := NB352_353.out
    have hcz24_0 : wr.cell? ⟨cm, 0, none⟩ = some (.slice none 0 0) := (a7 ef.out 0).trans rfl
    have hcz24_1 : wr.cell? ⟨cm, 1, none⟩ = some (.slice none 0 0) := (a7 ef.out 1).trans rfl
    have hfz24_0 := a8 ef.out 0
    have hfz24_1 := a8 ef.out 1
    obtain ⟨Ao25, co25, eo25⟩ := Kd.N_slice cH.out
    subst eo25
    go_wp2
    refine bodyPost_ret (results_cell_row rfl _ _ cm 25 #[.slice ar aj.length ap, .slice Ao25 x355001_1.length co25] (0, 0) _ rfl (by (with_reducible repeat (first | refine ab ?_ _ | refine ac ?_ | refine aa ?_ _)); refine aU (cs := #[.slice ar aj.length ap, .slice none 0 0]) ?_ 1 _ rfl; (with_reducible repeat (first | refine ab ?_ _ | refine ac ?_ | refine aa ?_ _)); refine aU (cs := #[.slice none 0 0, .slice none 0 0]) ?_ 0 _ rfl; (with_reducible repeat (first | refine ab ?_ _ | refine ac ?_ | refine aa ?_ _)); exact ef.out) Try.underlying25 rfl (by kernel_rfl)) rfl ?_
    exact ⟨_, _, by first | rfl | (simp [ak, al] <;> rfl) | (simp [*, ak, al] <;> rfl), by (with_reducible repeat (first | apply Kd.V_alloc | apply Kd.V_drewN | apply Kd.V_drew)); exact Kd.V_mono (Kd.V_far (p := ⟨cm, 1, none⟩) (Kd.V_far (p := ⟨cm, 0, none⟩) (Kd.V_mono df.out (fun k_ hk => (⟨hk, hk.2.2.2.1⟩ : _ ∧ k_ ≠ cm))) (fun _ hk => hk.2) (.slice ar aj.length ap)) (fun _ hk => hk.2) (.slice Ao25 x355001_1.length co25)) (fun _ hk => ⟨hk.1.1, hk.1.2.1⟩), by (with_reducible repeat (first | apply Kd.N_alloc | apply Kd.N_drewN | apply Kd.N_drew)); exact Kd.N_mono (Kd.N_far (p := ⟨cm, 1, none⟩) (Kd.N_far (p := ⟨cm, 0, none⟩) (Kd.N_mono cH.out (fun k_ hk => (⟨hk, hk.2.2.1⟩ : _ ∧ k_ ≠ cm))) (fun _ hk => hk.2) (.slice ar aj.length ap)) (fun _ hk => hk.2) (.slice Ao25 x355001_1.length co25)) (fun _ hk => hk.1.1), by repeat (first | (with_reducible first | exact HB.out | apply a6 | apply a4 | apply a5 | refine a9 ?_ iW.out | refine a9 ?_ GE353.out | refine a9 ?_ GE354.out) | exact HB.out)⟩
end Go.Proofs.Ytcbpkdemcdikaaa.X
namespace Go.Proofs.Ytcbpkdemcdikaaa.X
open Go.RowKit Go.Proofs.YtcbpkdemcdikaaaW.PrintWords Go.Proofs.YtcbpkdemcdikaaaW.PrintLast Go.Proofs.YtcbpkdemcdikaaaW.PrintMore
attribute [local go_sem] aK aJ bc aX aD aE aM aN   
set_option linter.unusedVariables false
set_option linter.unusedSimpArgs false
mutual
def fastiref15_Core.j0 : Nat → Int → Bool → List (List Int) → List (S49) → Option (List Int × Bool × Int)
 | 0, _, _, _, _ => none
 | k + 1, x7, x25, dL, dg => if x25 = true then (some (([] : List Int), false, x7)) else (fastiref15_Core.l0 k ([] : List Int) 0 dL dg)
def fastiref15_Core.l0 : Nat → List Int → Int → List (List Int) → List (S49) → Option (List Int × Bool × Int)
 | 0, _, _, _, _ => none
 | k + 1, x8, x9, dL, dg => if x9 < (dg.length : Int) then (if x8.length < 17592186044416 then (fastiref15_Core.l0 k (x8 ++ [x9]) (wrap64 (x9 + 1)) dL dg) else (none)) else (fastiref15_Core.l1 k x8 0 dL dg)
def fastiref15_Core.l1 : Nat → List Int → Int → List (List Int) → List (S49) → Option (List Int × Bool × Int)
 | 0, _, _, _, _ => none
 | k + 1, x8, x10, dL, dg => if x10 < (dg.length : Int) then (fastiref15_Core.l2 k x8 x10 ([] : List Int) 0 dL dg) else (some (x8, true, 0))
def fastiref15_Core.l2 : Nat → List Int → Int → List Int → Int → List (List Int) → List (S49) → Option (List Int × Bool × Int)
 | 0, _, _, _, _, _, _ => none
 | k + 1, x8, x10, x11, x12, dL, dg => if x12 < (x8.length : Int) then (if 0 ≤ x12 then (if (rd x8 x12) = x10 then (fastiref15_Core.l2 k x8 x10 x11 (wrap64 (x12 + 1)) dL dg) else (if x11.length < 17592186044416 then (fastiref15_Core.l2 k x8 x10 (x11 ++ [rd x8 x12]) (wrap64 (x12 + 1)) dL dg) else (none))) else (none)) else ((fastiref15_Some.f k dL dg x11).bind fun bt374 => ((fastiref15_solve.f k bt374.1 bt374.2 ([] : List Int)).bind fun bt380 => (if bt380.2 = true then (fastiref15_Core.l1 k x8 (wrap64 (x10 + 1)) dL dg) else (fastiref15_Core.l1 k x11 (wrap64 (x10 + 1)) dL dg))))
end
def fastiref15_Core.f (k : Nat) (aj : List (List Int)) (ag : List (S49)) : Option (List Int × Bool × Int) := (fastiref15_Solve.f k aj ag).bind fun gU => (if gU.2.2 = 0 then (fastiref15_Core.j0 k gU.2.2 gU.2.1 aj ag) else (fastiref15_Core.j0 k gU.2.2 true aj ag))
set_option maxHeartbeats 8000000 in
set_option maxRecDepth 100000 in
theorem fastiref15_Core.calls (k : Nat) (ar : Option Addr) (ap : Nat) (aj : List (List Int)) (au : Option Addr) (ao : Nat) (ag : List (S49)) (r1 : List Int) (r2 : Bool) (r3 : Int) (w : World) (bL : Kd.C (Kd.slice 3 (Kd.int .i64)) w ar aj.length aj) (bR : aj.length ≤ ap) (bE : Kd.C k49 w au ag.length ag) (bJ : ag.length ≤ ao) (h : fastiref15_Core.f k aj ag = some (r1, r2, r3)) :
  Calls Try.prog 26 #[.agg #[.slice ar aj.length ap, .slice au ag.length ao]] w fun e w' => ∃ v0_ : Value, e = .returned (.tuple #[v0_, .bool r2, .int .i64 r3]) ∧ Kd.R (Kd.int .i64) 3 w' w.heap.size (fun _ => True) v0_ r1 ∧ Below w.heap.size w w' := by
 have hu25 := Try.underlying25
 have bm := Aside0.mk bL
 have bu := Aside0.mk bR
 clear bL bR
 have bg := Aside0.mk bE
 have bo := Aside0.mk bJ
 clear bE bJ
 have HB := Aside0.mk (Below.refl w.heap.size w)
 have H : ((fastiref15_Solve.f k aj ag).bind fun gU => (if gU.2.2 = 0 then (fastiref15_Core.j0 k gU.2.2 gU.2.1 aj ag) else (fastiref15_Core.j0 k gU.2.2 true aj ag))) = some (r1, r2, r3) := h
 clear h
 replace H := Option.bind_eq_some_iff.mp H
 obtain ⟨⟨t361, t364, t365⟩, A20, H⟩ := H
 replace H : (if t365 = 0 then (fastiref15_Core.j0 k t365 t364 aj ag) else (fastiref15_Core.j0 k t365 true aj ag)) = some (r1, r2, r3) := H
 have A2 := Aside0.mk A20
 clear A20
 have HC3 := Aside0.mk H
 clear H
 go_enter Try.func26, Try.ntmps26
 go_upto_region 2 with (first | ((with_reducible refine az (N := 1) rfl ?_); refine aq ?hg (N := 1) ?hd (cs := #[.slice ar aj.length ap, .slice au ag.length ao]) (t := 25) ?hr ?_; (case hd => rfl); (case hg => rfl); (case hr => first | (go_simp; done) | (go_simp; rfl)); intro cn hg w4 hbox hb; have n0_ := Aside0.mk (ah (by repeat (first | (with_reducible first | exact HB.out | apply a6 | apply a4 | apply a5) | exact HB.out)) hb); have n1_ := Aside0.mk (hbox); have n2_ := Aside0.mk ((by rw [hg]; exact (ae (by repeat (first | (with_reducible first | exact HB.out | apply a6 | apply a4 | apply a5) | exact HB.out))) : w.heap.size ≤ cn)); have n3_ := Aside0.mk ((by rw [hg]; exact (ae (by repeat (first | (with_reducible first | exact HB.out | apply a6 | apply a4 | apply a5) | exact HB.out))) : w.heap.size ≤ cn)); clear HB; have HB := n0_; have br := n1_; have GW360 := n2_; have d7 := n3_; clear n0_ n1_ n2_ n3_; clear hb hbox hg; have dr : w4.cell? ⟨cn, 0, none⟩ = some (.slice ar aj.length ap) := (a7 br.out 0).trans rfl; have dt : w4.cell? ⟨cn, 1, none⟩ = some (.slice au ag.length ao) := (a7 br.out 1).trans rfl; have du := a8 br.out 0; have dv := a8 br.out 1) | ((with_reducible refine am (f := 16) rfl ?_); refine aV (some 17) rfl rfl Try.func16 (by kernel_rfl) rfl #[.agg #[.slice ar aj.length ap, .slice au ag.length ao]] rfl (by (try simp only [List.map_toArray, List.map_cons, List.map_nil]); first | done | rfl | (simp only [List.length_drop, List.length_take]; rfl)) ?_; (with_reducible refine (fastiref15_Solve.calls k _ _ aj _ _ ag t361 t364 t365 _ ?side1 ?side2 ?side3 ?side4 A2.out).mono ?_); (case side1 => repeat (first | exact (Kd.C_below bm.out HB.out) | (with_reducible refine Kd.C_alloc ?_ _) | (with_reducible refine Kd.C_drewN ?_ _) | (with_reducible refine Kd.C_drew ?_))); (case side2 => exact bu.out); (case side3 => repeat (first | exact (Kd.C_below bg.out HB.out) | (with_reducible refine Kd.C_alloc ?_ _) | (with_reducible refine Kd.C_drewN ?_ _) | (with_reducible refine Kd.C_drew ?_))); (case side4 => exact bo.out); rintro e w6 ⟨v362, rfl, ho0, hb⟩; refine ⟨_, rfl, ?_⟩; have n0_ := Aside0.mk (Kd.R_lower ho0 (ae (by repeat (first | (with_reducible first | exact HB.out | apply a6 | apply a4 | apply a5 | refine a9 ?_ d7.out) | exact HB.out)))); have n1_ := Aside0.mk (af (g := cn) (o := .cells #[.slice ar aj.length ap, .slice au ag.length ao] 25 (0, 0)) (by (with_reducible repeat (first | refine ab ?_ _ | refine ac ?_ | refine aa ?_ _)); exact br.out) hb); have n2_ := Aside0.mk (ah (by repeat (first | (with_reducible first | exact HB.out | apply a6 | apply a4 | apply a5 | refine a9 ?_ d7.out) | exact HB.out)) hb); clear br; clear HB; have HO363 := n0_; have br := n1_; have HB := n2_; clear n0_ n1_ n2_; (try clear hb); (try clear hb2); (try clear hk); (try clear hi); (try clear ho0)))
 (try simp only [Act.put, List.setIfInBounds_toArray, List.set_cons_zero, List.set_cons_succ])
 go_cut [25] (fun v25 wc => ∃ (kq : Nat) (x25_2 : Bool), v25 = .bool x25_2 ∧ Aside0 (fastiref15_Core.j0 kq t365 x25_2 aj ag = some (r1, r2, r3)) ∧ Aside0 (kq ≤ k) ∧ Aside0 (wc.heap[cn]? = some (.cells #[(.slice ar aj.length ap), (.slice au ag.length ao)] 25 (0, 0))) ∧ Aside0 (Below w.heap.size w wc))
 case first =>
  have H := HC3.out
  clear HC3
  by_cases c7 : t365 = 0
  ·rw [if_pos c7] at H
   have c7b0 : (t365 == 0) = true := beq_iff_eq.mpr c7
   have c7b1 : (t365 != 0) = false := bne_eq_false_iff_eq.mpr c7
   clear c7
   (first | rw [c7b0] | (simp only [aw, ax]; rw [c7b0]) | skip)
   have H' := Aside0.mk H
   clear H
   go_wp2
   go_meet
   case rel => exact ⟨_, (t364), (by first | rfl | (simp; done) | (simp [*]; done)), H', ⟨by first | omega | exact Nat.le_refl _⟩, ⟨by (with_reducible repeat (first | refine ab ?_ _ | refine ac ?_ | refine aa ?_ _)); exact br.out⟩, ⟨by repeat (first | (with_reducible first | exact HB.out | apply a6 | apply a4 | apply a5 | refine a9 ?_ d7.out) | exact HB.out)⟩⟩
  ·rw [if_neg c7] at H
   have c7b0 : (t365 == 0) = false := beq_eq_false_iff_ne.mpr c7
   have c7b1 : (t365 != 0) = true := bne_iff_ne.mpr c7
   (first | rw [c7b0] | (simp only [aw, ax]; rw [c7b0]) | skip)
   have H' := Aside0.mk H
   clear H
   go_wp2
   go_meet
   case rel => exact ⟨_, (true), (by first | rfl | (simp; done) | (simp [*]; done)), H', ⟨by first | omega | exact Nat.le_refl _⟩, ⟨by (with_reducible repeat (first | refine ab ?_ _ | refine ac ?_ | refine aa ?_ _)); exact br.out⟩, ⟨by repeat (first | (with_reducible first | exact HB.out | apply a6 | apply a4 | apply a5 | refine a9 ?_ d7.out) | exact HB.out)⟩⟩
 case rest =>
  clear HC3
  try clear c1; try clear c2; try clear p2; try clear c7; try clear c7b0; try clear c7b1; try clear dr; try clear dt; try clear du; try clear dv
  obtain ⟨kq, x25_2, rfl, HA, HJ2, br, HB⟩ := hcut
  cases kq with
  | zero => exact absurd HA.out (by simp [fastiref15_Core.j0])
  | succ kj2 =>
   have H := HA.out
   clear HA
   simp only [fastiref15_Core.j0] at H
   by_cases c8 : x25_2 = true
   ·subst c8
    have H1 : (some (([] : List Int), false, t365)) = some (r1, r2, r3) := by rw [if_pos rfl] at H; exact H
    clear H
    have H := H1
    clear H1
    simp only [Option.some.injEq, Prod.mk.injEq] at H
    obtain ⟨rfl, rfl, rfl⟩ := H
    go_wp2
    go_ret3
    exact ⟨_, by first | rfl | (simp [ak, al] <;> rfl) | (simp [*, ak, al] <;> rfl), by first | exact Kd.R_nil _ _ _ _ _ | exact Kd.N_nil _ _ _ _ _ | exact Kd.V_nil _ _ _ _ _ | exact Kd.Q_nil _ _ _ _ _ | exact Kd.S_nil _ _ _ _ _, by repeat (first | (with_reducible first | exact HB.out | apply a6 | apply a4 | apply a5 | refine a9 ?_ d7.out) | exact HB.out)⟩
   ·replace c8 := Bool.eq_false_iff.mpr c8
    subst c8
    have H1 : (fastiref15_Core.l0 kj2 ([] : List Int) 0 aj ag) = some (r1, r2, r3) := by rw [if_neg (show ¬ (false = true) by decide)] at H; exact H
    clear H
    have H := H1
    clear H1
    have H' := Aside0.mk H
    clear H
    go_wp2
    go_loopg [8, 9] kj2 (fun kq v8 v9 w' => ∃ (x8_2 : List Int) (x9_2 : Int), v9 = .int .i64 x9_2 ∧ Aside0 (fastiref15_Core.l0 kq x8_2 x9_2 aj ag = some (r1, r2, r3)) ∧ Aside0 (kq ≤ kj2) ∧ Aside0 (Kd.R (Kd.int .i64) 3 w' w.heap.size (fun _ => True) v8 x8_2) ∧ Aside0 (w'.heap[cn]? = some (.cells #[(.slice ar aj.length ap), (.slice au ag.length ao)] 25 (0, 0))) ∧ Aside0 (Below w.heap.size w w'))
    case atStart => exact ⟨(([] : List Int)), (0), (by first | rfl | (simp; done) | (simp [*]; done)), H', ⟨Nat.le_refl _⟩, ⟨by first | exact Kd.R_nil _ _ _ _ _ | exact Kd.N_nil _ _ _ _ _ | exact Kd.V_nil _ _ _ _ _ | exact Kd.Q_nil _ _ _ _ _ | exact Kd.S_nil _ _ _ _ _⟩, ⟨by (with_reducible repeat (first | refine ab ?_ _ | refine ac ?_ | refine aa ?_ _)); exact br.out⟩, ⟨by repeat (first | (with_reducible first | exact HB.out | apply a6 | apply a4 | apply a5 | refine a9 ?_ d7.out) | exact HB.out)⟩⟩
    case round =>
     clear H'
     try clear c1; try clear c2; try clear p2; try clear c7; try clear c7b0; try clear c7b1; try clear c8; try clear dr; try clear dt; try clear du; try clear dv
     obtain ⟨x8_2, x9_2, rfl, HA, HK2, dP, br, HB⟩ := hrel
     cases gk with
     | zero => exact absurd HA.out (by simp [fastiref15_Core.l0])
     | succ k2 =>
      have H := HA.out
      clear HA
      simp only [fastiref15_Core.l0] at H
      by_cases c9 : x9_2 < (ag.length : Int)
      ·rw [if_pos c9] at H
       have c9b0 : decide (x9_2 < (ag.length : Int)) = true := decide_eq_true c9
       clear c9
       by_cases c10 : x8_2.length < 17592186044416
       ·rw [if_pos c10] at H
        have LMc10 := Aside0.mk c10
        clear c10
        obtain ⟨y366, hy366⟩ : ∃ y_ : List Int, y_ = (x8_2 ++ [x9_2]) := ⟨_, rfl⟩
        replace H : (fastiref15_Core.l0 k2 y366 (wrap64 (x9_2 + 1)) aj ag) = some (r1, r2, r3) := by first | (rw [hy366]; with_reducible exact H) | (have H2_ := (Option.bind_some _ _).symm.trans H; rw [hy366]; with_reducible exact H2_) | (have H2_ := (Option.bind_some _ _).symm.trans H; with_reducible exact H2_) | with_reducible exact H | (rw [hy366]; exact H) | exact H
        have Ny366 := Aside0.mk hy366
        clear hy366
        have H' := Aside0.mk H
        clear H
        have bS : wr.cell? ⟨cn, 0, none⟩ = some (.slice ar aj.length ap) := (a7 br.out 0).trans rfl
        have bT : wr.cell? ⟨cn, 1, none⟩ = some (.slice au ag.length ao) := (a7 br.out 1).trans rfl
        have bU := a8 br.out 0
        have bV := a8 br.out 1
        go_wp2_with (first | ((with_reducible refine ci (b := .append) (xs := #[.tmp 34, .tmp 36]) rfl ?_); at_builtin; refine Kd.R_append (Kd.int .i64) (w0 := w) w.heap.size rfl (.tmp 34) (.tmp 36) 26 3 (.int .i64 0) 8 rfl Try.underlying26 iO rfl (by decide) (by omega) u8 x8_2 x9_2 [.int .i64 x9_2] (fun _ => True) (fun _ => False) rfl rfl ?aP (fun _ hk => hk.elim) ?aF ?aO ?aB ?aS ?aL ?_; (case aP => exact rfl); (case aB => exact (by repeat (first | (with_reducible first | exact HB.out | apply a6 | apply a4 | apply a5 | refine a9 ?_ d7.out) | exact HB.out))); (case aF => exact (fun _ _ => trivial)); (case aO => exact (by (with_reducible repeat (first | apply Kd.R_alloc | apply Kd.R_drewN | apply Kd.R_drew)); exact dP.out)); (case aS => exact (ae (by repeat (first | (with_reducible first | exact HB.out | apply a6 | apply a4 | apply a5 | refine a9 ?_ d7.out) | exact HB.out)))); (case aL => have := LMc10.out; omega); intro v367 w12 ho hb hg hat; rw [← Ny366.out] at ho; have n0_ := Aside0.mk (bO (g := cn) (o := .cells #[.slice ar aj.length ap, .slice au ag.length ao] 25 (0, 0)) (by (with_reducible repeat (first | refine ab ?_ _ | refine ac ?_ | refine aa ?_ _)); exact br.out) hg (Kd.R_ne dP.out br.out (by decide))); have n1_ := Aside0.mk (hb); have n2_ := Aside0.mk (ho); clear br; clear HB; clear dP; have br := n0_; have HB := n1_; have HO368 := n2_; clear n0_ n1_ n2_; clear ho hb hg hat))
        go_roundg k2
        case measure => have := HJ2.out; have := HK2.out; omega
        case rel => exact ⟨(y366), (wrap64 (x9_2 + 1)), (by first | rfl | (simp; done) | (simp [*]; done)), H', ⟨by have := HJ2.out; have := HK2.out; omega⟩, ⟨by (with_reducible repeat (first | apply Kd.R_alloc | apply Kd.R_drewN | apply Kd.R_drew)); exact HO368.out⟩, ⟨by (with_reducible repeat (first | refine ab ?_ _ | refine ac ?_ | refine aa ?_ _)); exact br.out⟩, ⟨by repeat (first | (with_reducible first | exact HB.out | apply a6 | apply a4 | apply a5 | refine a9 ?_ d7.out) | exact HB.out)⟩⟩
       ·rw [if_neg c10] at H
        exact absurd H (by simp)
      ·rw [if_neg c9] at H
       have c9b0 : decide (x9_2 < (ag.length : Int)) = false := decide_eq_false c9
       clear c9
       have H' := Aside0.mk H
       clear H
       have cM : wr.cell? ⟨cn, 0, none⟩ = some (.slice ar aj.length ap) := (a7 br.out 0).trans rfl
       have cN : wr.cell? ⟨cn, 1, none⟩ = some (.slice au ag.length ao) := (a7 br.out 1).trans rfl
       have cO := a8 br.out 0
       have cP := a8 br.out 1
       go_wp2
       go_loopg [8, 10] k2 (fun kq v8 v10 w' => ∃ (x8_3 : List Int) (x10_3 : Int), v10 = .int .i64 x10_3 ∧ Aside0 (fastiref15_Core.l1 kq x8_3 x10_3 aj ag = some (r1, r2, r3)) ∧ Aside0 (kq ≤ k2) ∧ Aside0 (Kd.R (Kd.int .i64) 3 w' w.heap.size (fun _ => True) v8 x8_3) ∧ Aside0 (w'.heap[cn]? = some (.cells #[(.slice ar aj.length ap), (.slice au ag.length ao)] 25 (0, 0))) ∧ Aside0 (Below w.heap.size w w'))
       case atStart => exact ⟨(x8_2), (0), (by first | rfl | (simp; done) | (simp [*]; done)), H', ⟨Nat.le_refl _⟩, ⟨by (with_reducible repeat (first | apply Kd.R_alloc | apply Kd.R_drewN | apply Kd.R_drew)); exact dP.out⟩, ⟨by (with_reducible repeat (first | refine ab ?_ _ | refine ac ?_ | refine aa ?_ _)); exact br.out⟩, ⟨by repeat (first | (with_reducible first | exact HB.out | apply a6 | apply a4 | apply a5 | refine a9 ?_ d7.out) | exact HB.out)⟩⟩
       case round =>
        clear H'
        try clear c1; try clear c2; try clear p2; try clear p6; try clear c7; try clear c7b0; try clear c7b1; try clear c8; try clear c9; try clear c9b0; try clear c10; try clear bS; try clear bT; try clear cM; try clear cN; try clear dr; try clear dt; try clear bU; try clear bV; try clear cO; try clear cP; try clear du; try clear dv
        obtain ⟨x8_3, x10_3, rfl, HA, HK3, dP, br, HB⟩ := hrel
        cases gk with
        | zero => exact absurd HA.out (by simp [fastiref15_Core.l1])
        | succ k3 =>
         have H := HA.out
         clear HA
         simp only [fastiref15_Core.l1] at H
         by_cases c14 : x10_3 < (ag.length : Int)
         ·rw [if_pos c14] at H
          have iS : decide (x10_3 < (ag.length : Int)) = true := decide_eq_true c14
          clear c14
          have H' := Aside0.mk H
          clear H
          have eo : wr.cell? ⟨cn, 0, none⟩ = some (.slice ar aj.length ap) := (a7 br.out 0).trans rfl
          have ep : wr.cell? ⟨cn, 1, none⟩ = some (.slice au ag.length ao) := (a7 br.out 1).trans rfl
          have et := a8 br.out 0
          have eu := a8 br.out 1
          go_wp2
          go_loopg [11, 12] k3 (fun kq v11 v12 w' => ∃ (x11_4 : List Int) (x12_4 : Int), v12 = .int .i64 x12_4 ∧ Aside0 (fastiref15_Core.l2 kq x8_3 x10_3 x11_4 x12_4 aj ag = some (r1, r2, r3)) ∧ Aside0 (kq ≤ k3) ∧ Aside0 (Kd.R (Kd.int .i64) 3 w' w.heap.size (fun k_ => some k_ ≠ (v11 : Value).ownBlock) u8 x8_3) ∧ Aside0 (Kd.R (Kd.int .i64) 3 w' w.heap.size (fun k_ => some k_ ≠ (u8 : Value).ownBlock) v11 x11_4) ∧ Aside0 (w'.heap[cn]? = some (.cells #[(.slice ar aj.length ap), (.slice au ag.length ao)] 25 (0, 0))) ∧ Aside0 (Below w.heap.size w w'))
          case atStart => exact ⟨(([] : List Int)), (0), (by first | rfl | (simp; done) | (simp [*]; done)), H', ⟨Nat.le_refl _⟩, ⟨by (with_reducible repeat (first | apply Kd.R_alloc | apply Kd.R_drewN | apply Kd.R_drew)); exact Kd.R_mono dP.out (fun _ hk => (by simp [Value.ownBlock]))⟩, ⟨by first | exact Kd.R_nil _ _ _ _ _ | exact Kd.N_nil _ _ _ _ _ | exact Kd.V_nil _ _ _ _ _ | exact Kd.Q_nil _ _ _ _ _ | exact Kd.S_nil _ _ _ _ _⟩, ⟨by (with_reducible repeat (first | refine ab ?_ _ | refine ac ?_ | refine aa ?_ _)); exact br.out⟩, ⟨by repeat (first | (with_reducible first | exact HB.out | apply a6 | apply a4 | apply a5 | refine a9 ?_ d7.out) | exact HB.out)⟩⟩
          case round =>
           clear H'
           try clear c1; try clear c2; try clear p2; try clear p6; try clear c7; try clear c7b0; try clear c7b1; try clear c8; try clear c9; try clear c9b0; try clear c10; try clear c14; try clear iS; try clear bS; try clear bT; try clear cM; try clear cN; try clear eo; try clear ep; try clear dr; try clear dt; try clear bU; try clear bV; try clear cO; try clear cP; try clear et; try clear eu; try clear du; try clear dv
           obtain ⟨x11_4, x12_4, rfl, HA, HK4, dP, co, br, HB⟩ := hrel
           cases gk with
           | zero => exact absurd HA.out (by simp [fastiref15_Core.l2])
           | succ k4 =>
            have H := HA.out
            clear HA
            simp only [fastiref15_Core.l2] at H
            by_cases c16 : x12_4 < (x8_3.length : Int)
            ·rw [if_pos c16] at H
             have c16b0 : decide (x12_4 < (x8_3.length : Int)) = true := decide_eq_true c16
             clear c16
             by_cases c17 : 0 ≤ x12_4
             ·rw [if_pos c17] at H
              have ig : decide (0 ≤ x12_4) = true := decide_eq_true c17
              clear c17
              by_cases c18 : (rd x8_3 x12_4) = x10_3
              ·rw [if_pos c18] at H
               have c18b0 : ((rd x8_3 x12_4) == x10_3) = true := beq_iff_eq.mpr c18
               have c18b1 : ((rd x8_3 x12_4) != x10_3) = false := bne_eq_false_iff_eq.mpr c18
               clear c18
               have H' := Aside0.mk H
               clear H
               obtain ⟨Ao19, fy, eo19⟩ := Kd.R_slice dP.out
               subst eo19
               have p369 : 0 ≤ (x12_4 : Int) := of_decide_eq_true (by first | (with_reducible assumption) | assumption)
               have q369 : x12_4 < (x8_3.length : Int) := of_decide_eq_true (by first | (with_reducible assumption) | assumption)
               obtain ⟨ad369, e369, hx369_0⟩ := Kd.at_int (Kd.R_reads' dP.out).2.2 x12_4 p369 q369
               cases e369
               replace p369 := eq_true p369
               replace q369 := eq_true q369
               go_wp2
               go_roundg k4
               case measure => have := HJ2.out; have := HK2.out; have := HK3.out; have := HK4.out; omega
               case rel => exact ⟨(x11_4), (wrap64 (x12_4 + 1)), (by first | rfl | (simp; done) | (simp [*]; done)), H', ⟨by have := HJ2.out; have := HK2.out; have := HK3.out; have := HK4.out; omega⟩, ⟨by (with_reducible repeat (first | apply Kd.R_alloc | apply Kd.R_drewN | apply Kd.R_drew)); exact dP.out⟩, ⟨by (with_reducible repeat (first | apply Kd.R_alloc | apply Kd.R_drewN | apply Kd.R_drew)); exact co.out⟩, ⟨by (with_reducible repeat (first | refine ab ?_ _ | refine ac ?_ | refine aa ?_ _)); exact br.out⟩, ⟨by repeat (first | (with_reducible first | exact HB.out | apply a6 | apply a4 | apply a5 | refine a9 ?_ d7.out) | exact HB.out)⟩⟩
              ·rw [if_neg c18] at H
               have c18b0 : ((rd x8_3 x12_4) == x10_3) = false := beq_eq_false_iff_ne.mpr c18
               have c18b1 : ((rd x8_3 x12_4) != x10_3) = true := bne_iff_ne.mpr c18
               by_cases c20 : x11_4.length < 17592186044416
               ·rw [if_pos c20] at H
                have LMc20 := Aside0.mk c20
                clear c20
                obtain ⟨y371, hy371⟩ : ∃ y_ : List Int, y_ = (x11_4 ++ [rd x8_3 x12_4]) := ⟨_, rfl⟩
                replace H : (fastiref15_Core.l2 k4 x8_3 x10_3 y371 (wrap64 (x12_4 + 1)) aj ag) = some (r1, r2, r3) := by first | (rw [hy371]; with_reducible exact H) | (have H2_ := (Option.bind_some _ _).symm.trans H; rw [hy371]; with_reducible exact H2_) | (have H2_ := (Option.bind_some _ _).symm.trans H; with_reducible exact H2_) | with_reducible exact H | (rw [hy371]; exact H) | exact H
                have Ny371 := Aside0.mk hy371
                clear hy371
                have H' := Aside0.mk H
                clear H
                obtain ⟨Ao21, co21, eo21⟩ := Kd.R_slice dP.out
                subst eo21
                have p369 : 0 ≤ (x12_4 : Int) := of_decide_eq_true (by first | (with_reducible assumption) | assumption)
                have q369 : x12_4 < (x8_3.length : Int) := of_decide_eq_true (by first | (with_reducible assumption) | assumption)
                obtain ⟨ad369, e369, hx369_0⟩ := Kd.at_int (Kd.R_reads' dP.out).2.2 x12_4 p369 q369
                cases e369
                replace p369 := eq_true p369
                replace q369 := eq_true q369
                have p370 : 0 ≤ (x12_4 : Int) := of_decide_eq_true (by first | (with_reducible assumption) | assumption)
                have q370 : x12_4 < (x8_3.length : Int) := of_decide_eq_true (by first | (with_reducible assumption) | assumption)
                obtain ⟨ad370, e370, hx370_0⟩ := Kd.at_int (Kd.R_reads' dP.out).2.2 x12_4 p370 q370
                obtain rfl : ad369 = ad370 := (by injection e370)
                replace p370 := eq_true p370
                replace q370 := eq_true q370
                go_wp2_with (first | ((with_reducible refine ci (b := .append) (xs := #[.tmp 57, .tmp 62]) rfl ?_); at_builtin; refine Kd.R_append (Kd.int .i64) (w0 := w) w.heap.size rfl (.tmp 57) (.tmp 62) 26 3 (.int .i64 0) 8 rfl Try.underlying26 iO rfl (by decide) (by omega) u11 x11_4 (rd x8_3 x12_4) [.int .i64 (rd x8_3 x12_4)] (fun k_ => some k_ ≠ (.slice (some ad369) x8_3.length co21 : Value).ownBlock) (fun _ => False) rfl rfl ?aP (fun _ hk => hk.elim) ?aF ?aO ?aB ?aS ?aL ?_; (case aP => exact rfl); (case aB => exact (by repeat (first | (with_reducible first | exact HB.out | apply a6 | apply a4 | apply a5 | refine a9 ?_ d7.out) | exact HB.out))); (case aF => exact (fun k_ hk => Kd.fresh' (Kd.R_lt (by (with_reducible repeat (first | apply Kd.R_alloc | apply Kd.R_drewN | apply Kd.R_drew)); exact dP.out)) k_ hk)); (case aO => exact (by (with_reducible repeat (first | apply Kd.R_alloc | apply Kd.R_drewN | apply Kd.R_drew)); exact co.out)); (case aS => exact (ae (by repeat (first | (with_reducible first | exact HB.out | apply a6 | apply a4 | apply a5 | refine a9 ?_ d7.out) | exact HB.out)))); (case aL => have := LMc20.out; omega); intro v372 w22 ho hb hg hat; rw [← Ny371.out] at ho; have n0_ := Aside0.mk (Kd.R_after (ok := (fun _ => True)) (by (with_reducible repeat (first | apply Kd.R_alloc | apply Kd.R_drewN | apply Kd.R_drew)); exact Kd.R_mono dP.out (fun _ hk => ⟨trivial, hk⟩)) hg hat); have n1_ := Aside0.mk (bO (g := cn) (o := .cells #[.slice ar aj.length ap, .slice au ag.length ao] 25 (0, 0)) (by (with_reducible repeat (first | refine ab ?_ _ | refine ac ?_ | refine aa ?_ _)); exact br.out) hg (Kd.R_ne co.out br.out (by decide))); have n2_ := Aside0.mk (hb); have n3_ := Aside0.mk (ho); clear dP; clear br; clear HB; clear co; have dP := n0_; have br := n1_; have HB := n2_; have HO373 := n3_; clear n0_ n1_ n2_ n3_; clear ho hb hg hat))
                go_roundg k4
                case measure => have := HJ2.out; have := HK2.out; have := HK3.out; have := HK4.out; omega
                case rel => exact ⟨(y371), (wrap64 (x12_4 + 1)), (by first | rfl | (simp; done) | (simp [*]; done)), H', ⟨by have := HJ2.out; have := HK2.out; have := HK3.out; have := HK4.out; omega⟩, ⟨by (with_reducible repeat (first | apply Kd.R_alloc | apply Kd.R_drewN | apply Kd.R_drew)); exact Kd.R_mono dP.out (fun _ hk => hk.2)⟩, ⟨by (with_reducible repeat (first | apply Kd.R_alloc | apply Kd.R_drewN | apply Kd.R_drew)); exact HO373.out⟩, ⟨by (with_reducible repeat (first | refine ab ?_ _ | refine ac ?_ | refine aa ?_ _)); exact br.out⟩, ⟨by repeat (first | (with_reducible first | exact HB.out | apply a6 | apply a4 | apply a5 | refine a9 ?_ d7.out) | exact HB.out)⟩⟩
               ·rw [if_neg c20] at H
                exact absurd H (by simp)
             ·rw [if_neg c17] at H
              exact absurd H (by simp)
            ·rw [if_neg c16] at H
             have c16b0 : decide (x12_4 < (x8_3.length : Int)) = false := decide_eq_false c16
             clear c16
             replace H := Option.bind_eq_some_iff.mp H
             obtain ⟨⟨t374, t377⟩, A230, H⟩ := H
             replace H : ((fastiref15_solve.f k4 t374 t377 ([] : List Int)).bind fun bt380 => (if bt380.2 = true then (fastiref15_Core.l1 k4 x8_3 (wrap64 (x10_3 + 1)) aj ag) else (fastiref15_Core.l1 k4 x11_4 (wrap64 (x10_3 + 1)) aj ag))) = some (r1, r2, r3) := H
             have A23 := Aside0.mk A230
             clear A230
             replace H := Option.bind_eq_some_iff.mp H
             obtain ⟨⟨t380, t383⟩, A240, H⟩ := H
             replace H : (if t383 = true then (fastiref15_Core.l1 k4 x8_3 (wrap64 (x10_3 + 1)) aj ag) else (fastiref15_Core.l1 k4 x11_4 (wrap64 (x10_3 + 1)) aj ag)) = some (r1, r2, r3) := H
             have A24 := Aside0.mk A240
             clear A240
             by_cases c25 : t383 = true
             ·subst c25
              have H1 : (fastiref15_Core.l1 k4 x8_3 (wrap64 (x10_3 + 1)) aj ag) = some (r1, r2, r3) := by rw [if_pos rfl] at H; exact H
              clear H
              have H := H1
              clear H1
              have H' := Aside0.mk H
              clear H
              obtain ⟨Ao26, co26, eo26⟩ := Kd.R_slice dP.out
              subst eo26
              have hcz27_0 : wr.cell? ⟨cn, 0, none⟩ = some (.slice ar aj.length ap) := (a7 br.out 0).trans rfl
              have hcz27_1 : wr.cell? ⟨cn, 1, none⟩ = some (.slice au ag.length ao) := (a7 br.out 1).trans rfl
              have hfz27_0 := a8 br.out 0
              have hfz27_1 := a8 br.out 1
              obtain ⟨Ao28, co28, eo28⟩ := Kd.R_slice co.out
              subst eo28
              go_wp2_with (first | ((with_reducible refine am (f := 28) rfl ?_); refine aV (some 67) rfl rfl Try.func28 (by kernel_rfl) rfl #[.agg #[.slice ar aj.length ap, .slice au ag.length ao], .slice Ao28 x11_4.length co28] rfl (by (try simp only [List.map_toArray, List.map_cons, List.map_nil]); first | done | rfl | (simp only [List.length_drop, List.length_take]; rfl)) ?_; (with_reducible refine (fastiref15_Some.calls k4 (fun k_ => k_ < w.heap.size) _ _ aj (fun k_ => k_ < w.heap.size) _ _ ag _ _ x11_4 t374 t377 _ ?side1 ?side2 ?side3 ?side4 A23.out).mono ?_); (case side1 => exact Kd.V_mk bu.out (Kd.F_below (Kd.C_F (Kd.heap_slice 3 (Kd.heap_int .i64)) bm.out) (by repeat (first | (with_reducible first | exact HB.out | apply a6 | apply a4 | apply a5 | refine a9 ?_ d7.out) | exact HB.out)))); (case side2 => exact Kd.V_mk bo.out (Kd.F_below (Kd.C_F iX bg.out) (by repeat (first | (with_reducible first | exact HB.out | apply a6 | apply a4 | apply a5 | refine a9 ?_ d7.out) | exact HB.out)))); (case side3 => repeat (first | exact (Kd.R_reads' co.out).2.2 | (with_reducible refine Kd.C_alloc ?_ _) | (with_reducible refine Kd.C_drewN ?_ _) | (with_reducible refine Kd.C_drew ?_))); (case side4 => exact (Kd.R_reads' co.out).2.1); rintro e w29 ⟨v375, v378, rfl, ho0, ho1, hb⟩; refine ⟨_, rfl, ?_⟩; have n0_ := Aside0.mk (Kd.R_below (by (with_reducible repeat (first | apply Kd.R_alloc | apply Kd.R_drewN | apply Kd.R_drew)); exact dP.out) hb); have n1_ := Aside0.mk (Kd.R_below (by (with_reducible repeat (first | apply Kd.R_alloc | apply Kd.R_drewN | apply Kd.R_drew)); exact co.out) hb); have n2_ := Aside0.mk (Kd.V_lower (Kd.V_mono (ok' := fun k_ => some k_ ≠ (v378 : Value).ownBlock ∧ some k_ ≠ (.slice Ao26 x8_3.length co26 : Value).ownBlock ∧ some k_ ≠ (.slice Ao28 x11_4.length co28 : Value).ownBlock ∧ k_ ≠ cn) ho0 (fun k_ hk_ => ⟨hk_.2, Or.elim hk_.1 (fun hs_ => Or.elim hs_ (fun hs_ => fun e_ => Nat.not_le.2 hs_ (Kd.R_base dP.out k_ e_.symm)) (fun hs_ => fun e_ => Nat.not_le.2 hs_ (Kd.R_base dP.out k_ e_.symm))) (fun hn_ => (Kd.fresh' (Kd.R_lt (by (with_reducible repeat (first | apply Kd.R_alloc | apply Kd.R_drewN | apply Kd.R_drew)); exact dP.out)) k_ hn_)), Or.elim hk_.1 (fun hs_ => Or.elim hs_ (fun hs_ => fun e_ => Nat.not_le.2 hs_ (Kd.R_base co.out k_ e_.symm)) (fun hs_ => fun e_ => Nat.not_le.2 hs_ (Kd.R_base co.out k_ e_.symm))) (fun hn_ => (Kd.fresh' (Kd.R_lt (by (with_reducible repeat (first | apply Kd.R_alloc | apply Kd.R_drewN | apply Kd.R_drew)); exact co.out)) k_ hn_)), Or.elim hk_.1 (fun hs_ => Or.elim hs_ (fun hs_ => fun e_ => Nat.not_le.2 hs_ (by rw [e_]; exact GW360.out)) (fun hs_ => fun e_ => Nat.not_le.2 hs_ (by rw [e_]; exact GW360.out))) (fun hn_ => (Kd.freshB (g := cn) (o := .cells #[.slice ar aj.length ap, .slice au ag.length ao] 25 (0, 0)) (by (with_reducible repeat (first | refine ab ?_ _ | refine ac ?_ | refine aa ?_ _)); exact br.out) k_ hn_))⟩)) (ae (by repeat (first | (with_reducible first | exact HB.out | apply a6 | apply a4 | apply a5 | refine a9 ?_ d7.out) | exact HB.out)))); have n3_ := Aside0.mk (Kd.N_lower (Kd.N_mono (ok' := fun k_ => some k_ ≠ (.slice Ao26 x8_3.length co26 : Value).ownBlock ∧ some k_ ≠ (.slice Ao28 x11_4.length co28 : Value).ownBlock ∧ k_ ≠ cn) ho1 (fun k_ hk_ => ⟨Or.elim hk_ (fun hs_ => Or.elim hs_ (fun hs_ => fun e_ => Nat.not_le.2 hs_ (Kd.R_base dP.out k_ e_.symm)) (fun hs_ => fun e_ => Nat.not_le.2 hs_ (Kd.R_base dP.out k_ e_.symm))) (fun hn_ => (Kd.fresh' (Kd.R_lt (by (with_reducible repeat (first | apply Kd.R_alloc | apply Kd.R_drewN | apply Kd.R_drew)); exact dP.out)) k_ hn_)), Or.elim hk_ (fun hs_ => Or.elim hs_ (fun hs_ => fun e_ => Nat.not_le.2 hs_ (Kd.R_base co.out k_ e_.symm)) (fun hs_ => fun e_ => Nat.not_le.2 hs_ (Kd.R_base co.out k_ e_.symm))) (fun hn_ => (Kd.fresh' (Kd.R_lt (by (with_reducible repeat (first | apply Kd.R_alloc | apply Kd.R_drewN | apply Kd.R_drew)); exact co.out)) k_ hn_)), Or.elim hk_ (fun hs_ => Or.elim hs_ (fun hs_ => fun e_ => Nat.not_le.2 hs_ (by rw [e_]; exact GW360.out)) (fun hs_ => fun e_ => Nat.not_le.2 hs_ (by rw [e_]; exact GW360.out))) (fun hn_ => (Kd.freshB (g := cn) (o := .cells #[.slice ar aj.length ap, .slice au ag.length ao] 25 (0, 0)) (by (with_reducible repeat (first | refine ab ?_ _ | refine ac ?_ | refine aa ?_ _)); exact br.out) k_ hn_))⟩)) (ae (by repeat (first | (with_reducible first | exact HB.out | apply a6 | apply a4 | apply a5 | refine a9 ?_ d7.out) | exact HB.out)))); have n4_ := Aside0.mk (af (g := cn) (o := .cells #[.slice ar aj.length ap, .slice au ag.length ao] 25 (0, 0)) (by (with_reducible repeat (first | refine ab ?_ _ | refine ac ?_ | refine aa ?_ _)); exact br.out) hb); have n5_ := Aside0.mk (ah (by repeat (first | (with_reducible first | exact HB.out | apply a6 | apply a4 | apply a5 | refine a9 ?_ d7.out) | exact HB.out)) hb); clear dP; clear co; clear br; clear HB; have dP := n0_; have co := n1_; have ix := n2_; have iy := n3_; have br := n4_; have HB := n5_; clear n0_ n1_ n2_ n3_ n4_ n5_; (try clear hb); (try clear hb2); (try clear hk); (try clear hi); (try clear ho0); (try clear ho1); obtain ⟨Ao30, co30, eo30⟩ := Kd.V_slice ix.out; subst eo30; obtain ⟨Ao31, co31, eo31⟩ := Kd.N_slice iy.out; subst eo31) | ((with_reducible refine am (f := 36) rfl ?_); refine aV (some 68) rfl rfl Try.func36 (by kernel_rfl) rfl #[.agg #[.slice Ao30 t374.length co30, .slice Ao31 t377.length co31], .slice none 0 0] rfl (by (try simp only [List.map_toArray, List.map_cons, List.map_nil]); first | done | rfl | (simp only [List.length_drop, List.length_take]; rfl)) ?_; (refine (fastiref15_solve.calls k4 _ _ t374 _ _ t377 (fun k_ => some k_ = (.slice none 0 0 : Value).ownBlock) (.slice none 0 0) ([] : List Int) t380 true w _ ?side1 ?side2 ?side3 ?side4 ?side5 ?side6 A24.out).mono ?_); (case side1 => repeat (first | (with_reducible first | exact HB.out | apply a6 | apply a4 | apply a5 | refine a9 ?_ d7.out) | exact HB.out)); (case side2 => exact Kd.C_kept_ownV (ix.out) (fun k_ hk_ hs_ => (fun e_ => by simp [Value.ownBlock] at e_) hs_)); (case side3 => exact (Kd.V_reads' ix.out).2.1); (case side4 => exact Kd.C_kept_ownV (Kd.N_V (base' := 0) (iy.out)) (fun k_ hk_ hs_ => (fun e_ => by simp [Value.ownBlock] at e_) hs_)); (case side5 => exact (Kd.N_reads' iy.out).2.1); (case side6 => exact Kd.R_nil _ _ _ _ _); rintro e w32 ⟨v381, rfl, ho0, hb, hkp⟩; refine ⟨_, rfl, ?_⟩; have n0_ := Aside0.mk (Kd.R_mono (ok' := fun k_ => some k_ ≠ (.slice Ao28 x11_4.length co28 : Value).ownBlock ∧ some k_ ≠ (v381 : Value).ownBlock) (Kd.R_keptB (dP.out) hkp (fun k_ hk_ hs_ => (fun e_ => by simp [Value.ownBlock] at e_) hs_)) (fun k_ hk_ => ⟨hk_.1, fun e_ => Or.elim (ho0.1 k_ e_.symm) (fun hs_ => hk_.2.1 hs_) (fun hn_ => Nat.not_le.2 hk_.2.2 hn_)⟩)); have n1_ := Aside0.mk (Kd.R_mono (ok' := fun k_ => some k_ ≠ (.slice Ao26 x8_3.length co26 : Value).ownBlock ∧ some k_ ≠ (v381 : Value).ownBlock) (Kd.R_keptB (co.out) hkp (fun k_ hk_ hs_ => (fun e_ => by simp [Value.ownBlock] at e_) hs_)) (fun k_ hk_ => ⟨hk_.1, fun e_ => Or.elim (ho0.1 k_ e_.symm) (fun hs_ => hk_.2.1 hs_) (fun hn_ => Nat.not_le.2 hk_.2.2 hn_)⟩)); have n2_ := Aside0.mk (gK (by (with_reducible repeat (first | refine ab ?_ _ | refine ac ?_ | refine aa ?_ _)); exact br.out) hkp (fun hs_ => (fun e_ => by simp [Value.ownBlock] at e_) hs_)); have n3_ := Aside0.mk (Kd.V_mono (ok' := fun k_ => some k_ ≠ (.slice Ao26 x8_3.length co26 : Value).ownBlock ∧ some k_ ≠ (.slice Ao28 x11_4.length co28 : Value).ownBlock ∧ some k_ ≠ (.slice Ao31 t377.length co31 : Value).ownBlock ∧ k_ ≠ cn ∧ some k_ ≠ (v381 : Value).ownBlock) (Kd.V_keptB (ix.out) hkp (fun k_ hk_ hs_ => (fun e_ => by simp [Value.ownBlock] at e_) hs_)) (fun k_ hk_ => ⟨hk_.1.2.1, hk_.1.2.2.1, hk_.1.1, hk_.1.2.2.2, fun e_ => Or.elim (ho0.1 k_ e_.symm) (fun hs_ => hk_.2.1 hs_) (fun hn_ => Nat.not_le.2 hk_.2.2 hn_)⟩)); have n4_ := Aside0.mk (Kd.N_mono (ok' := fun k_ => some k_ ≠ (.slice Ao26 x8_3.length co26 : Value).ownBlock ∧ some k_ ≠ (.slice Ao28 x11_4.length co28 : Value).ownBlock ∧ k_ ≠ cn ∧ some k_ ≠ (v381 : Value).ownBlock) (Kd.N_keptB (iy.out) hkp (fun k_ hk_ hs_ => (fun e_ => by simp [Value.ownBlock] at e_) hs_)) (fun k_ hk_ => ⟨hk_.1.1, hk_.1.2.1, hk_.1.2.2, fun e_ => Or.elim (ho0.1 k_ e_.symm) (fun hs_ => hk_.2.1 hs_) (fun hn_ => Nat.not_le.2 hk_.2.2 hn_)⟩)); have n5_ := Aside0.mk (Kd.R_mono (ok' := fun k_ => some k_ ≠ (.slice Ao26 x8_3.length co26 : Value).ownBlock ∧ some k_ ≠ (.slice Ao28 x11_4.length co28 : Value).ownBlock) ho0 (fun k_ hk_ => ⟨Or.elim hk_ (fun hs_ => absurd hs_ (by simp [Value.ownBlock])) (fun hn_ => (Kd.fresh' (Kd.R_lt (by (with_reducible repeat (first | apply Kd.R_alloc | apply Kd.R_drewN | apply Kd.R_drew)); exact dP.out)) k_ hn_)), Or.elim hk_ (fun hs_ => absurd hs_ (by simp [Value.ownBlock])) (fun hn_ => (Kd.fresh' (Kd.R_lt (by (with_reducible repeat (first | apply Kd.R_alloc | apply Kd.R_drewN | apply Kd.R_drew)); exact co.out)) k_ hn_))⟩)); have n6_ := Aside0.mk (hb); clear dP; clear co; clear br; clear ix; clear iy; clear HB; have dP := n0_; have co := n1_; have br := n2_; have ix := n3_; have iy := n4_; have HO382 := n5_; have HB := n6_; clear n0_ n1_ n2_ n3_ n4_ n5_ n6_; (try clear hb); (try clear hkp); (try clear ho0)))
              go_roundg k4
              case measure => have := HJ2.out; have := HK2.out; have := HK3.out; have := HK4.out; omega
              case rel => exact ⟨(x8_3), (wrap64 (x10_3 + 1)), (by first | rfl | (simp; done) | (simp [*]; done)), H', ⟨by have := HJ2.out; have := HK2.out; have := HK3.out; have := HK4.out; omega⟩, ⟨by (with_reducible repeat (first | apply Kd.R_alloc | apply Kd.R_drewN | apply Kd.R_drew)); exact Kd.R_mono dP.out (fun _ hk => trivial)⟩, ⟨by (with_reducible repeat (first | refine ab ?_ _ | refine ac ?_ | refine aa ?_ _)); exact br.out⟩, ⟨by repeat (first | (with_reducible first | exact HB.out | apply a6 | apply a4 | apply a5 | refine a9 ?_ d7.out) | exact HB.out)⟩⟩
             ·replace c25 := Bool.eq_false_iff.mpr c25
              subst c25
              have H1 : (fastiref15_Core.l1 k4 x11_4 (wrap64 (x10_3 + 1)) aj ag) = some (r1, r2, r3) := by rw [if_neg (show ¬ (false = true) by decide)] at H; exact H
              clear H
              have H := H1
              clear H1
              have H' := Aside0.mk H
              clear H
              obtain ⟨Ao33, co33, eo33⟩ := Kd.R_slice dP.out
              subst eo33
              have hcz34_0 : wr.cell? ⟨cn, 0, none⟩ = some (.slice ar aj.length ap) := (a7 br.out 0).trans rfl
              have hcz34_1 : wr.cell? ⟨cn, 1, none⟩ = some (.slice au ag.length ao) := (a7 br.out 1).trans rfl
              have hfz34_0 := a8 br.out 0
              have hfz34_1 := a8 br.out 1
              obtain ⟨Ao35, co35, eo35⟩ := Kd.R_slice co.out
              subst eo35
              go_wp2_with (first | ((with_reducible refine am (f := 28) rfl ?_); refine aV (some 67) rfl rfl Try.func28 (by kernel_rfl) rfl #[.agg #[.slice ar aj.length ap, .slice au ag.length ao], .slice Ao35 x11_4.length co35] rfl (by (try simp only [List.map_toArray, List.map_cons, List.map_nil]); first | done | rfl | (simp only [List.length_drop, List.length_take]; rfl)) ?_; (with_reducible refine (fastiref15_Some.calls k4 (fun k_ => k_ < w.heap.size) _ _ aj (fun k_ => k_ < w.heap.size) _ _ ag _ _ x11_4 t374 t377 _ ?side1 ?side2 ?side3 ?side4 A23.out).mono ?_); (case side1 => exact Kd.V_mk bu.out (Kd.F_below (Kd.C_F (Kd.heap_slice 3 (Kd.heap_int .i64)) bm.out) (by repeat (first | (with_reducible first | exact HB.out | apply a6 | apply a4 | apply a5 | refine a9 ?_ d7.out) | exact HB.out)))); (case side2 => exact Kd.V_mk bo.out (Kd.F_below (Kd.C_F iX bg.out) (by repeat (first | (with_reducible first | exact HB.out | apply a6 | apply a4 | apply a5 | refine a9 ?_ d7.out) | exact HB.out)))); (case side3 => repeat (first | exact (Kd.R_reads' co.out).2.2 | (with_reducible refine Kd.C_alloc ?_ _) | (with_reducible refine Kd.C_drewN ?_ _) | (with_reducible refine Kd.C_drew ?_))); (case side4 => exact (Kd.R_reads' co.out).2.1); rintro e w36 ⟨v375, v378, rfl, ho0, ho1, hb⟩; refine ⟨_, rfl, ?_⟩; have n0_ := Aside0.mk (Kd.R_below (by (with_reducible repeat (first | apply Kd.R_alloc | apply Kd.R_drewN | apply Kd.R_drew)); exact dP.out) hb); have n1_ := Aside0.mk (Kd.R_below (by (with_reducible repeat (first | apply Kd.R_alloc | apply Kd.R_drewN | apply Kd.R_drew)); exact co.out) hb); have n2_ := Aside0.mk (Kd.V_lower (Kd.V_mono (ok' := fun k_ => some k_ ≠ (v378 : Value).ownBlock ∧ some k_ ≠ (.slice Ao33 x8_3.length co33 : Value).ownBlock ∧ some k_ ≠ (.slice Ao35 x11_4.length co35 : Value).ownBlock ∧ k_ ≠ cn) ho0 (fun k_ hk_ => ⟨hk_.2, Or.elim hk_.1 (fun hs_ => Or.elim hs_ (fun hs_ => fun e_ => Nat.not_le.2 hs_ (Kd.R_base dP.out k_ e_.symm)) (fun hs_ => fun e_ => Nat.not_le.2 hs_ (Kd.R_base dP.out k_ e_.symm))) (fun hn_ => (Kd.fresh' (Kd.R_lt (by (with_reducible repeat (first | apply Kd.R_alloc | apply Kd.R_drewN | apply Kd.R_drew)); exact dP.out)) k_ hn_)), Or.elim hk_.1 (fun hs_ => Or.elim hs_ (fun hs_ => fun e_ => Nat.not_le.2 hs_ (Kd.R_base co.out k_ e_.symm)) (fun hs_ => fun e_ => Nat.not_le.2 hs_ (Kd.R_base co.out k_ e_.symm))) (fun hn_ => (Kd.fresh' (Kd.R_lt (by (with_reducible repeat (first | apply Kd.R_alloc | apply Kd.R_drewN | apply Kd.R_drew)); exact co.out)) k_ hn_)), Or.elim hk_.1 (fun hs_ => Or.elim hs_ (fun hs_ => fun e_ => Nat.not_le.2 hs_ (by rw [e_]; exact GW360.out)) (fun hs_ => fun e_ => Nat.not_le.2 hs_ (by rw [e_]; exact GW360.out))) (fun hn_ => (Kd.freshB (g := cn) (o := .cells #[.slice ar aj.length ap, .slice au ag.length ao] 25 (0, 0)) (by (with_reducible repeat (first | refine ab ?_ _ | refine ac ?_ | refine aa ?_ _)); exact br.out) k_ hn_))⟩)) (ae (by repeat (first | (with_reducible first | exact HB.out | apply a6 | apply a4 | apply a5 | refine a9 ?_ d7.out) | exact HB.out)))); have n3_ := Aside0.mk (Kd.N_lower (Kd.N_mono (ok' := fun k_ => some k_ ≠ (.slice Ao33 x8_3.length co33 : Value).ownBlock ∧ some k_ ≠ (.slice Ao35 x11_4.length co35 : Value).ownBlock ∧ k_ ≠ cn) ho1 (fun k_ hk_ => ⟨Or.elim hk_ (fun hs_ => Or.elim hs_ (fun hs_ => fun e_ => Nat.not_le.2 hs_ (Kd.R_base dP.out k_ e_.symm)) (fun hs_ => fun e_ => Nat.not_le.2 hs_ (Kd.R_base dP.out k_ e_.symm))) (fun hn_ => (Kd.fresh' (Kd.R_lt (by (with_reducible repeat (first | apply Kd.R_alloc | apply Kd.R_drewN | apply Kd.R_drew)); exact dP.out)) k_ hn_)), Or.elim hk_ (fun hs_ => Or.elim hs_ (fun hs_ => fun e_ => Nat.not_le.2 hs_ (Kd.R_base co.out k_ e_.symm)) (fun hs_ => fun e_ => Nat.not_le.2 hs_ (Kd.R_base co.out k_ e_.symm))) (fun hn_ => (Kd.fresh' (Kd.R_lt (by (with_reducible repeat (first | apply Kd.R_alloc | apply Kd.R_drewN | apply Kd.R_drew)); exact co.out)) k_ hn_)), Or.elim hk_ (fun hs_ => Or.elim hs_ (fun hs_ => fun e_ => Nat.not_le.2 hs_ (by rw [e_]; exact GW360.out)) (fun hs_ => fun e_ => Nat.not_le.2 hs_ (by rw [e_]; exact GW360.out))) (fun hn_ => (Kd.freshB (g := cn) (o := .cells #[.slice ar aj.length ap, .slice au ag.length ao] 25 (0, 0)) (by (with_reducible repeat (first | refine ab ?_ _ | refine ac ?_ | refine aa ?_ _)); exact br.out) k_ hn_))⟩)) (ae (by repeat (first | (with_reducible first | exact HB.out | apply a6 | apply a4 | apply a5 | refine a9 ?_ d7.out) | exact HB.out)))); have n4_ := Aside0.mk (af (g := cn) (o := .cells #[.slice ar aj.length ap, .slice au ag.length ao] 25 (0, 0)) (by (with_reducible repeat (first | refine ab ?_ _ | refine ac ?_ | refine aa ?_ _)); exact br.out) hb); have n5_ := Aside0.mk (ah (by repeat (first | (with_reducible first | exact HB.out | apply a6 | apply a4 | apply a5 | refine a9 ?_ d7.out) | exact HB.out)) hb); clear dP; clear co; clear br; clear HB; have dP := n0_; have co := n1_; have ix := n2_; have iy := n3_; have br := n4_; have HB := n5_; clear n0_ n1_ n2_ n3_ n4_ n5_; (try clear hb); (try clear hb2); (try clear hk); (try clear hi); (try clear ho0); (try clear ho1); obtain ⟨Ao37, co37, eo37⟩ := Kd.V_slice ix.out; subst eo37; obtain ⟨Ao38, co38, eo38⟩ := Kd.N_slice iy.out; subst eo38) | ((with_reducible refine am (f := 36) rfl ?_); refine aV (some 68) rfl rfl Try.func36 (by kernel_rfl) rfl #[.agg #[.slice Ao37 t374.length co37, .slice Ao38 t377.length co38], .slice none 0 0] rfl (by (try simp only [List.map_toArray, List.map_cons, List.map_nil]); first | done | rfl | (simp only [List.length_drop, List.length_take]; rfl)) ?_; (refine (fastiref15_solve.calls k4 _ _ t374 _ _ t377 (fun k_ => some k_ = (.slice none 0 0 : Value).ownBlock) (.slice none 0 0) ([] : List Int) t380 false w _ ?side1 ?side2 ?side3 ?side4 ?side5 ?side6 A24.out).mono ?_); (case side1 => repeat (first | (with_reducible first | exact HB.out | apply a6 | apply a4 | apply a5 | refine a9 ?_ d7.out) | exact HB.out)); (case side2 => exact Kd.C_kept_ownV (ix.out) (fun k_ hk_ hs_ => (fun e_ => by simp [Value.ownBlock] at e_) hs_)); (case side3 => exact (Kd.V_reads' ix.out).2.1); (case side4 => exact Kd.C_kept_ownV (Kd.N_V (base' := 0) (iy.out)) (fun k_ hk_ hs_ => (fun e_ => by simp [Value.ownBlock] at e_) hs_)); (case side5 => exact (Kd.N_reads' iy.out).2.1); (case side6 => exact Kd.R_nil _ _ _ _ _); rintro e w39 ⟨v381, rfl, ho0, hb, hkp⟩; refine ⟨_, rfl, ?_⟩; have n0_ := Aside0.mk (Kd.R_mono (ok' := fun k_ => some k_ ≠ (.slice Ao35 x11_4.length co35 : Value).ownBlock ∧ some k_ ≠ (v381 : Value).ownBlock) (Kd.R_keptB (dP.out) hkp (fun k_ hk_ hs_ => (fun e_ => by simp [Value.ownBlock] at e_) hs_)) (fun k_ hk_ => ⟨hk_.1, fun e_ => Or.elim (ho0.1 k_ e_.symm) (fun hs_ => hk_.2.1 hs_) (fun hn_ => Nat.not_le.2 hk_.2.2 hn_)⟩)); have n1_ := Aside0.mk (Kd.R_mono (ok' := fun k_ => some k_ ≠ (.slice Ao33 x8_3.length co33 : Value).ownBlock ∧ some k_ ≠ (v381 : Value).ownBlock) (Kd.R_keptB (co.out) hkp (fun k_ hk_ hs_ => (fun e_ => by simp [Value.ownBlock] at e_) hs_)) (fun k_ hk_ => ⟨hk_.1, fun e_ => Or.elim (ho0.1 k_ e_.symm) (fun hs_ => hk_.2.1 hs_) (fun hn_ => Nat.not_le.2 hk_.2.2 hn_)⟩)); have n2_ := Aside0.mk (gK (by (with_reducible repeat (first | refine ab ?_ _ | refine ac ?_ | refine aa ?_ _)); exact br.out) hkp (fun hs_ => (fun e_ => by simp [Value.ownBlock] at e_) hs_)); have n3_ := Aside0.mk (Kd.V_mono (ok' := fun k_ => some k_ ≠ (.slice Ao33 x8_3.length co33 : Value).ownBlock ∧ some k_ ≠ (.slice Ao35 x11_4.length co35 : Value).ownBlock ∧ some k_ ≠ (.slice Ao38 t377.length co38 : Value).ownBlock ∧ k_ ≠ cn ∧ some k_ ≠ (v381 : Value).ownBlock) (Kd.V_keptB (ix.out) hkp (fun k_ hk_ hs_ => (fun e_ => by simp [Value.ownBlock] at e_) hs_)) (fun k_ hk_ => ⟨hk_.1.2.1, hk_.1.2.2.1, hk_.1.1, hk_.1.2.2.2, fun e_ => Or.elim (ho0.1 k_ e_.symm) (fun hs_ => hk_.2.1 hs_) (fun hn_ => Nat.not_le.2 hk_.2.2 hn_)⟩)); have n4_ := Aside0.mk (Kd.N_mono (ok' := fun k_ => some k_ ≠ (.slice Ao33 x8_3.length co33 : Value).ownBlock ∧ some k_ ≠ (.slice Ao35 x11_4.length co35 : Value).ownBlock ∧ k_ ≠ cn ∧ some k_ ≠ (v381 : Value).ownBlock) (Kd.N_keptB (iy.out) hkp (fun k_ hk_ hs_ => (fun e_ => by simp [Value.ownBlock] at e_) hs_)) (fun k_ hk_ => ⟨hk_.1.1, hk_.1.2.1, hk_.1.2.2, fun e_ => Or.elim (ho0.1 k_ e_.symm) (fun hs_ => hk_.2.1 hs_) (fun hn_ => Nat.not_le.2 hk_.2.2 hn_)⟩)); have n5_ := Aside0.mk (Kd.R_mono (ok' := fun k_ => some k_ ≠ (.slice Ao33 x8_3.length co33 : Value).ownBlock ∧ some k_ ≠ (.slice Ao35 x11_4.length co35 : Value).ownBlock) ho0 (fun k_ hk_ => ⟨Or.elim hk_ (fun hs_ => absurd hs_ (by simp [Value.ownBlock])) (fun hn_ => (Kd.fresh' (Kd.R_lt (by (with_reducible repeat (first | apply Kd.R_alloc | apply Kd.R_drewN | apply Kd.R_drew)); exact dP.out)) k_ hn_)), Or.elim hk_ (fun hs_ => absurd hs_ (by simp [Value.ownBlock])) (fun hn_ => (Kd.fresh' (Kd.R_lt (by (with_reducible repeat (first | apply Kd.R_alloc | apply Kd.R_drewN | apply Kd.R_drew)); exact co.out)) k_ hn_))⟩)); have n6_ := Aside0.mk (hb); clear dP; clear co; clear br; clear ix; clear iy; clear HB; have dP := n0_; have co := n1_; have br := n2_; have ix := n3_; have iy := n4_; have HO382 := n5_; have HB := n6_; clear n0_ n1_ n2_ n3_ n4_ n5_ n6_; (try clear hb); (try clear hkp); (try clear ho0)))
              go_roundg k4
              case measure => have := HJ2.out; have := HK2.out; have := HK3.out; have := HK4.out; omega
              case rel => exact ⟨(x11_4), (wrap64 (x10_3 + 1)), (by first | rfl | (simp; done) | (simp [*]; done)), H', ⟨by have := HJ2.out; have := HK2.out; have := HK3.out; have := HK4.out; omega⟩, ⟨by (with_reducible repeat (first | apply Kd.R_alloc | apply Kd.R_drewN | apply Kd.R_drew)); exact Kd.R_mono co.out (fun _ hk => trivial)⟩, ⟨by (with_reducible repeat (first | refine ab ?_ _ | refine ac ?_ | refine aa ?_ _)); exact br.out⟩, ⟨by repeat (first | (with_reducible first | exact HB.out | apply a6 | apply a4 | apply a5 | refine a9 ?_ d7.out) | exact HB.out)⟩⟩
         ·rw [if_neg c14] at H
          have iS : decide (x10_3 < (ag.length : Int)) = false := decide_eq_false c14
          clear c14
          simp only [Option.some.injEq, Prod.mk.injEq] at H
          obtain ⟨rfl, rfl, rfl⟩ := H
          have hcz40_0 : wr.cell? ⟨cn, 0, none⟩ = some (.slice ar aj.length ap) := (a7 br.out 0).trans rfl
          have hcz40_1 : wr.cell? ⟨cn, 1, none⟩ = some (.slice au ag.length ao) := (a7 br.out 1).trans rfl
          have hfz40_0 := a8 br.out 0
          have hfz40_1 := a8 br.out 1
          go_wp2
          go_ret3
          exact ⟨_, by first | rfl | (simp [ak, al] <;> rfl) | (simp [*, ak, al] <;> rfl), by (with_reducible repeat (first | apply Kd.R_alloc | apply Kd.R_drewN | apply Kd.R_drew)); exact dP.out, by repeat (first | (with_reducible first | exact HB.out | apply a6 | apply a4 | apply a5 | refine a9 ?_ d7.out) | exact HB.out)⟩
def fastilaw15_SearchCoreSpec.f (k : Nat) (aj : List (List Int)) (ag : List (S49)) : Option (Bool) := (fastilaw15_sane.f).bind fun t385 => (if t385 = true then ((fastiref15_Few.f k aj ag).bind fun t386 => (if t386 = true then ((search_Core.f k aj ag).bind fun e7 => ((fastiref15_Core.f k aj ag).bind fun dn => ((fastiref15_SameInts.f k e7.1 dn.1).bind fun t397 => (if t397 = true then (if (e7.2.1 == dn.2.1) = true then (some (e7.2.2 == dn.2.2)) else (some false)) else (some false))))) else (some true))) else (some false))
set_option maxHeartbeats 8000000 in
set_option maxRecDepth 100000 in
theorem fastilaw15_SearchCoreSpec.calls (k : Nat) (ar : Option Addr) (ap : Nat) (aj : List (List Int)) (au : Option Addr) (ao : Nat) (ag : List (S49)) (r : Bool) (w : World) (bL : Kd.C (Kd.slice 3 (Kd.int .i64)) w ar aj.length aj) (bR : aj.length ≤ ap) (bE : Kd.C k49 w au ag.length ag) (bJ : ag.length ≤ ao) (h : fastilaw15_SearchCoreSpec.f k aj ag = some r) :
  Calls Try.prog 5 #[.agg #[.slice ar aj.length ap, .slice au ag.length ao]] w fun e w' => e = .returned (.bool r) ∧ Below w.heap.size w w' := by
 have hu25 := Try.underlying25
 have bm := Aside0.mk bL
 have bu := Aside0.mk bR
 clear bL bR
 have bg := Aside0.mk bE
 have bo := Aside0.mk bJ
 clear bE bJ
 have HB := Aside0.mk (Below.refl w.heap.size w)
 have H : ((fastilaw15_sane.f).bind fun t385 => (if t385 = true then ((fastiref15_Few.f k aj ag).bind fun t386 => (if t386 = true then ((search_Core.f k aj ag).bind fun e7 => ((fastiref15_Core.f k aj ag).bind fun dn => ((fastiref15_SameInts.f k e7.1 dn.1).bind fun t397 => (if t397 = true then (if (e7.2.1 == dn.2.1) = true then (some (e7.2.2 == dn.2.2)) else (some false)) else (some false))))) else (some true))) else (some false))) = some r := h
 clear h
 replace H := Option.bind_eq_some_iff.mp H
 obtain ⟨t385, A20, H⟩ := H
 replace H : (if t385 = true then ((fastiref15_Few.f k aj ag).bind fun t386 => (if t386 = true then ((search_Core.f k aj ag).bind fun e7 => ((fastiref15_Core.f k aj ag).bind fun dn => ((fastiref15_SameInts.f k e7.1 dn.1).bind fun t397 => (if t397 = true then (if (e7.2.1 == dn.2.1) = true then (some (e7.2.2 == dn.2.2)) else (some false)) else (some false))))) else (some true))) else (some false)) = some r := H
 have A2 := Aside0.mk A20
 clear A20
 by_cases c3 : t385 = true
 ·subst c3
  have H1 : ((fastiref15_Few.f k aj ag).bind fun t386 => (if t386 = true then ((search_Core.f k aj ag).bind fun e7 => ((fastiref15_Core.f k aj ag).bind fun dn => ((fastiref15_SameInts.f k e7.1 dn.1).bind fun t397 => (if t397 = true then (if (e7.2.1 == dn.2.1) = true then (some (e7.2.2 == dn.2.2)) else (some false)) else (some false))))) else (some true))) = some r := by rw [if_pos rfl] at H; exact H
  clear H
  have H := H1
  clear H1
  replace H := Option.bind_eq_some_iff.mp H
  obtain ⟨t386, A40, H⟩ := H
  replace H : (if t386 = true then ((search_Core.f k aj ag).bind fun e7 => ((fastiref15_Core.f k aj ag).bind fun dn => ((fastiref15_SameInts.f k e7.1 dn.1).bind fun t397 => (if t397 = true then (if (e7.2.1 == dn.2.1) = true then (some (e7.2.2 == dn.2.2)) else (some false)) else (some false))))) else (some true)) = some r := H
  have A4 := Aside0.mk A40
  clear A40
  by_cases c5 : t386 = true
  ·subst c5
   have H1 : ((search_Core.f k aj ag).bind fun e7 => ((fastiref15_Core.f k aj ag).bind fun dn => ((fastiref15_SameInts.f k e7.1 dn.1).bind fun t397 => (if t397 = true then (if (e7.2.1 == dn.2.1) = true then (some (e7.2.2 == dn.2.2)) else (some false)) else (some false))))) = some r := by rw [if_pos rfl] at H; exact H
   clear H
   have H := H1
   clear H1
   replace H := Option.bind_eq_some_iff.mp H
   obtain ⟨⟨t387, t390, t391⟩, A60, H⟩ := H
   replace H : ((fastiref15_Core.f k aj ag).bind fun dn => ((fastiref15_SameInts.f k t387 dn.1).bind fun t397 => (if t397 = true then (if (t390 == dn.2.1) = true then (some (t391 == dn.2.2)) else (some false)) else (some false)))) = some r := H
   have A6 := Aside0.mk A60
   clear A60
   replace H := Option.bind_eq_some_iff.mp H
   obtain ⟨⟨t392, t395, t396⟩, A70, H⟩ := H
   replace H : ((fastiref15_SameInts.f k t387 t392).bind fun t397 => (if t397 = true then (if (t390 == t395) = true then (some (t391 == t396)) else (some false)) else (some false))) = some r := H
   have A7 := Aside0.mk A70
   clear A70
   replace H := Option.bind_eq_some_iff.mp H
   obtain ⟨t397, A80, H⟩ := H
   replace H : (if t397 = true then (if (t390 == t395) = true then (some (t391 == t396)) else (some false)) else (some false)) = some r := H
   have A8 := Aside0.mk A80
   clear A80
   by_cases c9 : t397 = true
   ·subst c9
    have H1 : (if (t390 == t395) = true then (some (t391 == t396)) else (some false)) = some r := by rw [if_pos rfl] at H; exact H
    clear H
    have H := H1
    clear H1
    by_cases c10 : (t390 == t395) = true
    ·rw [if_pos c10] at H
     have fK : (t390 == t395) = true := c10
     (try (have c10b1 : decide (t390 = t395) = true := by simpa using c10))
     (try (have c10b2 : (t390 == t395) = true := by simpa using c10))
     clear c10
     obtain rfl := Option.some.inj H
     go_enter Try.func5, Try.ntmps5
     go_wp2_with (first | ((with_reducible refine az (N := 1) rfl ?_); refine aq ?hg (N := 1) ?hd (cs := #[.slice ar aj.length ap, .slice au ag.length ao]) (t := 25) ?hr ?_; (case hd => rfl); (case hg => rfl); (case hr => first | (go_simp; done) | (go_simp; rfl)); intro bW hg w11 hbox hb; have n0_ := Aside0.mk (ah (by repeat (first | (with_reducible first | exact HB.out | apply a6 | apply a4 | apply a5) | exact HB.out)) hb); have n1_ := Aside0.mk (hbox); have n2_ := Aside0.mk ((by rw [hg]; exact (ae (by repeat (first | (with_reducible first | exact HB.out | apply a6 | apply a4 | apply a5) | exact HB.out))) : w.heap.size ≤ bW)); have n3_ := Aside0.mk ((by rw [hg]; exact (ae (by repeat (first | (with_reducible first | exact HB.out | apply a6 | apply a4 | apply a5) | exact HB.out))) : w.heap.size ≤ bW)); clear HB; have HB := n0_; have be := n1_; have GW384 := n2_; have d8 := n3_; clear n0_ n1_ n2_ n3_; clear hb hbox hg) | ((with_reducible refine am (f := 11) rfl ?_); refine aV (some 9) rfl rfl Try.func11 (by kernel_rfl) rfl #[] rfl (by (try simp only [List.map_toArray, List.map_cons, List.map_nil]); first | done | rfl | (simp only [List.length_drop, List.length_take]; rfl)) ?_; (with_reducible refine (fastilaw15_sane.calls  true _ A2.out).mono ?_); rintro e w12 ⟨rfl, hb⟩; refine ⟨_, rfl, ?_⟩; have n0_ := Aside0.mk (af (g := bW) (o := .cells #[.slice ar aj.length ap, .slice au ag.length ao] 25 (0, 0)) (by (with_reducible repeat (first | refine ab ?_ _ | refine ac ?_ | refine aa ?_ _)); exact be.out) hb); have n1_ := Aside0.mk (ah (by repeat (first | (with_reducible first | exact HB.out | apply a6 | apply a4 | apply a5 | refine a9 ?_ d8.out) | exact HB.out)) hb); clear be; clear HB; have be := n0_; have HB := n1_; clear n0_ n1_; (try clear hb); (try clear hb2); (try clear hk); (try clear hi); have cM : w12.cell? ⟨bW, 0, none⟩ = some (.slice ar aj.length ap) := (a7 be.out 0).trans rfl; have cN : w12.cell? ⟨bW, 1, none⟩ = some (.slice au ag.length ao) := (a7 be.out 1).trans rfl; have cO := a8 be.out 0; have cP := a8 be.out 1) | ((with_reducible refine am (f := 12) rfl ?_); refine aV (some 12) rfl rfl Try.func12 (by kernel_rfl) rfl #[.agg #[.slice ar aj.length ap, .slice au ag.length ao]] rfl (by (try simp only [List.map_toArray, List.map_cons, List.map_nil]); first | done | rfl | (simp only [List.length_drop, List.length_take]; rfl)) ?_; (with_reducible refine (fastiref15_Few.calls k _ _ aj _ _ ag true _ ?side1 ?side2 ?side3 ?side4 A4.out).mono ?_); (case side1 => repeat (first | exact (Kd.C_below bm.out HB.out) | (with_reducible refine Kd.C_alloc ?_ _) | (with_reducible refine Kd.C_drewN ?_ _) | (with_reducible refine Kd.C_drew ?_))); (case side2 => exact bu.out); (case side3 => repeat (first | exact (Kd.C_below bg.out HB.out) | (with_reducible refine Kd.C_alloc ?_ _) | (with_reducible refine Kd.C_drewN ?_ _) | (with_reducible refine Kd.C_drew ?_))); (case side4 => exact bo.out); rintro e w14 ⟨rfl, hb⟩; refine ⟨_, rfl, ?_⟩; have n0_ := Aside0.mk (af (g := bW) (o := .cells #[.slice ar aj.length ap, .slice au ag.length ao] 25 (0, 0)) (by (with_reducible repeat (first | refine ab ?_ _ | refine ac ?_ | refine aa ?_ _)); exact be.out) hb); have n1_ := Aside0.mk (ah (by repeat (first | (with_reducible first | exact HB.out | apply a6 | apply a4 | apply a5 | refine a9 ?_ d8.out) | exact HB.out)) hb); clear be; clear HB; have be := n0_; have HB := n1_; clear n0_ n1_; (try clear hb); (try clear hb2); (try clear hk); (try clear hi); have eo : w14.cell? ⟨bW, 0, none⟩ = some (.slice ar aj.length ap) := (a7 be.out 0).trans rfl; have ep : w14.cell? ⟨bW, 1, none⟩ = some (.slice au ag.length ao) := (a7 be.out 1).trans rfl; have et := a8 be.out 0; have eu := a8 be.out 1) | ((with_reducible refine am (f := 25) rfl ?_); refine aV (some 16) rfl rfl Try.func25 (by kernel_rfl) rfl #[.agg #[.slice ar aj.length ap, .slice au ag.length ao]] rfl (by (try simp only [List.map_toArray, List.map_cons, List.map_nil]); first | done | rfl | (simp only [List.length_drop, List.length_take]; rfl)) ?_; (with_reducible refine (search_Core.calls k _ _ aj _ _ ag t387 t390 t391 _ ?side1 ?side2 ?side3 ?side4 A6.out).mono ?_); (case side1 => repeat (first | exact (Kd.C_below bm.out HB.out) | (with_reducible refine Kd.C_alloc ?_ _) | (with_reducible refine Kd.C_drewN ?_ _) | (with_reducible refine Kd.C_drew ?_))); (case side2 => exact bu.out); (case side3 => repeat (first | exact (Kd.C_below bg.out HB.out) | (with_reducible refine Kd.C_alloc ?_ _) | (with_reducible refine Kd.C_drewN ?_ _) | (with_reducible refine Kd.C_drew ?_))); (case side4 => exact bo.out); rintro e w16 ⟨v388, rfl, ho0, hb⟩; refine ⟨_, rfl, ?_⟩; have n0_ := Aside0.mk (Kd.R_lower ho0 (ae (by repeat (first | (with_reducible first | exact HB.out | apply a6 | apply a4 | apply a5 | refine a9 ?_ d8.out) | exact HB.out)))); have n1_ := Aside0.mk (af (g := bW) (o := .cells #[.slice ar aj.length ap, .slice au ag.length ao] 25 (0, 0)) (by (with_reducible repeat (first | refine ab ?_ _ | refine ac ?_ | refine aa ?_ _)); exact be.out) hb); have n2_ := Aside0.mk (ah (by repeat (first | (with_reducible first | exact HB.out | apply a6 | apply a4 | apply a5 | refine a9 ?_ d8.out) | exact HB.out)) hb); clear be; clear HB; have e8 := n0_; have be := n1_; have HB := n2_; clear n0_ n1_ n2_; (try clear hb); (try clear hb2); (try clear hk); (try clear hi); (try clear ho0); have fd : w16.cell? ⟨bW, 0, none⟩ = some (.slice ar aj.length ap) := (a7 be.out 0).trans rfl; have fe : w16.cell? ⟨bW, 1, none⟩ = some (.slice au ag.length ao) := (a7 be.out 1).trans rfl; have ff := a8 be.out 0; have fg := a8 be.out 1) | ((with_reducible refine am (f := 26) rfl ?_); refine aV (some 22) rfl rfl Try.func26 (by kernel_rfl) rfl #[.agg #[.slice ar aj.length ap, .slice au ag.length ao]] rfl (by (try simp only [List.map_toArray, List.map_cons, List.map_nil]); first | done | rfl | (simp only [List.length_drop, List.length_take]; rfl)) ?_; (with_reducible refine (fastiref15_Core.calls k _ _ aj _ _ ag t392 t395 t396 _ ?side1 ?side2 ?side3 ?side4 A7.out).mono ?_); (case side1 => repeat (first | exact (Kd.C_below bm.out HB.out) | (with_reducible refine Kd.C_alloc ?_ _) | (with_reducible refine Kd.C_drewN ?_ _) | (with_reducible refine Kd.C_drew ?_))); (case side2 => exact bu.out); (case side3 => repeat (first | exact (Kd.C_below bg.out HB.out) | (with_reducible refine Kd.C_alloc ?_ _) | (with_reducible refine Kd.C_drewN ?_ _) | (with_reducible refine Kd.C_drew ?_))); (case side4 => exact bo.out); rintro e w18 ⟨v393, rfl, ho0, hb⟩; refine ⟨_, rfl, ?_⟩; have n0_ := Aside0.mk (Kd.R_elder' (by (with_reducible repeat (first | apply Kd.R_alloc | apply Kd.R_drewN | apply Kd.R_drew)); exact e8.out) (Kd.R_base ho0) hb); have n1_ := Aside0.mk (Kd.R_lower (Kd.R_new' ho0 (Kd.R_lt (by (with_reducible repeat (first | apply Kd.R_alloc | apply Kd.R_drewN | apply Kd.R_drew)); exact e8.out))) (ae (by repeat (first | (with_reducible first | exact HB.out | apply a6 | apply a4 | apply a5 | refine a9 ?_ d8.out) | exact HB.out)))); have n2_ := Aside0.mk (af (g := bW) (o := .cells #[.slice ar aj.length ap, .slice au ag.length ao] 25 (0, 0)) (by (with_reducible repeat (first | refine ab ?_ _ | refine ac ?_ | refine aa ?_ _)); exact be.out) hb); have n3_ := Aside0.mk (ah (by repeat (first | (with_reducible first | exact HB.out | apply a6 | apply a4 | apply a5 | refine a9 ?_ d8.out) | exact HB.out)) hb); clear e8; clear be; clear HB; have e8 := n0_; have kH := n1_; have be := n2_; have HB := n3_; clear n0_ n1_ n2_ n3_; (try clear hb); (try clear hb2); (try clear hk); (try clear hi); (try clear ho0); obtain ⟨Ao19, fy, eo19⟩ := Kd.R_slice e8.out; subst eo19; obtain ⟨Ao20, co20, eo20⟩ := Kd.R_slice kH.out; subst eo20) | ((with_reducible refine am (f := 19) rfl ?_); refine aV (some 28) rfl rfl Try.func19 (by kernel_rfl) rfl #[.slice Ao19 t387.length fy, .slice Ao20 t392.length co20] rfl (by (try simp only [List.map_toArray, List.map_cons, List.map_nil]); first | done | rfl | (simp only [List.length_drop, List.length_take]; rfl)) ?_; (with_reducible refine (fastiref15_SameInts.calls k _ _ t387 _ _ t392 true _ ?side1 ?side2 ?side3 ?side4 A8.out).mono ?_); (case side1 => repeat (first | exact (Kd.R_reads' e8.out).2.2 | (with_reducible refine Kd.C_alloc ?_ _) | (with_reducible refine Kd.C_drewN ?_ _) | (with_reducible refine Kd.C_drew ?_))); (case side2 => exact (Kd.R_reads' e8.out).2.1); (case side3 => repeat (first | exact (Kd.R_reads' kH.out).2.2 | (with_reducible refine Kd.C_alloc ?_ _) | (with_reducible refine Kd.C_drewN ?_ _) | (with_reducible refine Kd.C_drew ?_))); (case side4 => exact (Kd.R_reads' kH.out).2.1); rintro e w' ⟨rfl, ⟨nd, rfl⟩⟩; refine ⟨_, rfl, ?_⟩))
     go_ret
     exact ⟨by first | rfl | (simp [ak, al] <;> rfl) | (simp [*, ak, al] <;> rfl), by repeat (first | (with_reducible first | exact HB.out | apply a6 | apply a4 | apply a5 | refine a9 ?_ d8.out) | exact HB.out)⟩
    ·rw [if_neg c10] at H
     have fK : (t390 == t395) = false := by simpa using c10
     (try (have c10b1 : decide (t390 = t395) = false := by simpa using c10))
     (try (have c10b2 : (t390 == t395) = false := by simpa using c10))
     (try (have c10b3 : ¬ (t390 = t395) := by simpa using c10))
     clear c10
     obtain rfl := Option.some.inj H
     go_enter Try.func5, Try.ntmps5
     go_wp2_with (first | ((with_reducible refine az (N := 1) rfl ?_); refine aq ?hg (N := 1) ?hd (cs := #[.slice ar aj.length ap, .slice au ag.length ao]) (t := 25) ?hr ?_; (case hd => rfl); (case hg => rfl); (case hr => first | (go_simp; done) | (go_simp; rfl)); intro bW hg w21 hbox hb; have n0_ := Aside0.mk (ah (by repeat (first | (with_reducible first | exact HB.out | apply a6 | apply a4 | apply a5) | exact HB.out)) hb); have n1_ := Aside0.mk (hbox); have n2_ := Aside0.mk ((by rw [hg]; exact (ae (by repeat (first | (with_reducible first | exact HB.out | apply a6 | apply a4 | apply a5) | exact HB.out))) : w.heap.size ≤ bW)); have n3_ := Aside0.mk ((by rw [hg]; exact (ae (by repeat (first | (with_reducible first | exact HB.out | apply a6 | apply a4 | apply a5) | exact HB.out))) : w.heap.size ≤ bW)); clear HB; have HB := n0_; have be := n1_; have GW384 := n2_; have d8 := n3_; clear n0_ n1_ n2_ n3_; clear hb hbox hg) | ((with_reducible refine am (f := 11) rfl ?_); refine aV (some 9) rfl rfl Try.func11 (by kernel_rfl) rfl #[] rfl (by (try simp only [List.map_toArray, List.map_cons, List.map_nil]); first | done | rfl | (simp only [List.length_drop, List.length_take]; rfl)) ?_; (with_reducible refine (fastilaw15_sane.calls  true _ A2.out).mono ?_); rintro e w22 ⟨rfl, hb⟩; refine ⟨_, rfl, ?_⟩; have n0_ := Aside0.mk (af (g := bW) (o := .cells #[.slice ar aj.length ap, .slice au ag.length ao] 25 (0, 0)) (by (with_reducible repeat (first | refine ab ?_ _ | refine ac ?_ | refine aa ?_ _)); exact be.out) hb); have n1_ := Aside0.mk (ah (by repeat (first | (with_reducible first | exact HB.out | apply a6 | apply a4 | apply a5 | refine a9 ?_ d8.out) | exact HB.out)) hb); clear be; clear HB; have be := n0_; have HB := n1_; clear n0_ n1_; (try clear hb); (try clear hb2); (try clear hk); (try clear hi); have hcz23_0 : w22.cell? ⟨bW, 0, none⟩ = some (.slice ar aj.length ap) := (a7 be.out 0).trans rfl; have hcz23_1 : w22.cell? ⟨bW, 1, none⟩ = some (.slice au ag.length ao) := (a7 be.out 1).trans rfl; have hfz23_0 := a8 be.out 0; have hfz23_1 := a8 be.out 1) | ((with_reducible refine am (f := 12) rfl ?_); refine aV (some 12) rfl rfl Try.func12 (by kernel_rfl) rfl #[.agg #[.slice ar aj.length ap, .slice au ag.length ao]] rfl (by (try simp only [List.map_toArray, List.map_cons, List.map_nil]); first | done | rfl | (simp only [List.length_drop, List.length_take]; rfl)) ?_; (with_reducible refine (fastiref15_Few.calls k _ _ aj _ _ ag true _ ?side1 ?side2 ?side3 ?side4 A4.out).mono ?_); (case side1 => repeat (first | exact (Kd.C_below bm.out HB.out) | (with_reducible refine Kd.C_alloc ?_ _) | (with_reducible refine Kd.C_drewN ?_ _) | (with_reducible refine Kd.C_drew ?_))); (case side2 => exact bu.out); (case side3 => repeat (first | exact (Kd.C_below bg.out HB.out) | (with_reducible refine Kd.C_alloc ?_ _) | (with_reducible refine Kd.C_drewN ?_ _) | (with_reducible refine Kd.C_drew ?_))); (case side4 => exact bo.out); rintro e w24 ⟨rfl, hb⟩; refine ⟨_, rfl, ?_⟩; have n0_ := Aside0.mk (af (g := bW) (o := .cells #[.slice ar aj.length ap, .slice au ag.length ao] 25 (0, 0)) (by (with_reducible repeat (first | refine ab ?_ _ | refine ac ?_ | refine aa ?_ _)); exact be.out) hb); have n1_ := Aside0.mk (ah (by repeat (first | (with_reducible first | exact HB.out | apply a6 | apply a4 | apply a5 | refine a9 ?_ d8.out) | exact HB.out)) hb); clear be; clear HB; have be := n0_; have HB := n1_; clear n0_ n1_; (try clear hb); (try clear hb2); (try clear hk); (try clear hi); have hL : w24.cell? ⟨bW, 0, none⟩ = some (.slice ar aj.length ap) := (a7 be.out 0).trans rfl; have hU : w24.cell? ⟨bW, 1, none⟩ = some (.slice au ag.length ao) := (a7 be.out 1).trans rfl; have hX := a8 be.out 0; have i2 := a8 be.out 1) | ((with_reducible refine am (f := 25) rfl ?_); refine aV (some 16) rfl rfl Try.func25 (by kernel_rfl) rfl #[.agg #[.slice ar aj.length ap, .slice au ag.length ao]] rfl (by (try simp only [List.map_toArray, List.map_cons, List.map_nil]); first | done | rfl | (simp only [List.length_drop, List.length_take]; rfl)) ?_; (with_reducible refine (search_Core.calls k _ _ aj _ _ ag t387 t390 t391 _ ?side1 ?side2 ?side3 ?side4 A6.out).mono ?_); (case side1 => repeat (first | exact (Kd.C_below bm.out HB.out) | (with_reducible refine Kd.C_alloc ?_ _) | (with_reducible refine Kd.C_drewN ?_ _) | (with_reducible refine Kd.C_drew ?_))); (case side2 => exact bu.out); (case side3 => repeat (first | exact (Kd.C_below bg.out HB.out) | (with_reducible refine Kd.C_alloc ?_ _) | (with_reducible refine Kd.C_drewN ?_ _) | (with_reducible refine Kd.C_drew ?_))); (case side4 => exact bo.out); rintro e w26 ⟨v388, rfl, ho0, hb⟩; refine ⟨_, rfl, ?_⟩; have n0_ := Aside0.mk (Kd.R_lower ho0 (ae (by repeat (first | (with_reducible first | exact HB.out | apply a6 | apply a4 | apply a5 | refine a9 ?_ d8.out) | exact HB.out)))); have n1_ := Aside0.mk (af (g := bW) (o := .cells #[.slice ar aj.length ap, .slice au ag.length ao] 25 (0, 0)) (by (with_reducible repeat (first | refine ab ?_ _ | refine ac ?_ | refine aa ?_ _)); exact be.out) hb); have n2_ := Aside0.mk (ah (by repeat (first | (with_reducible first | exact HB.out | apply a6 | apply a4 | apply a5 | refine a9 ?_ d8.out) | exact HB.out)) hb); clear be; clear HB; have e8 := n0_; have be := n1_; have HB := n2_; clear n0_ n1_ n2_; (try clear hb); (try clear hb2); (try clear hk); (try clear hi); (try clear ho0); have hcz27_0 : w26.cell? ⟨bW, 0, none⟩ = some (.slice ar aj.length ap) := (a7 be.out 0).trans rfl; have hcz27_1 : w26.cell? ⟨bW, 1, none⟩ = some (.slice au ag.length ao) := (a7 be.out 1).trans rfl; have hfz27_0 := a8 be.out 0; have hfz27_1 := a8 be.out 1) | ((with_reducible refine am (f := 26) rfl ?_); refine aV (some 22) rfl rfl Try.func26 (by kernel_rfl) rfl #[.agg #[.slice ar aj.length ap, .slice au ag.length ao]] rfl (by (try simp only [List.map_toArray, List.map_cons, List.map_nil]); first | done | rfl | (simp only [List.length_drop, List.length_take]; rfl)) ?_; (with_reducible refine (fastiref15_Core.calls k _ _ aj _ _ ag t392 t395 t396 _ ?side1 ?side2 ?side3 ?side4 A7.out).mono ?_); (case side1 => repeat (first | exact (Kd.C_below bm.out HB.out) | (with_reducible refine Kd.C_alloc ?_ _) | (with_reducible refine Kd.C_drewN ?_ _) | (with_reducible refine Kd.C_drew ?_))); (case side2 => exact bu.out); (case side3 => repeat (first | exact (Kd.C_below bg.out HB.out) | (with_reducible refine Kd.C_alloc ?_ _) | (with_reducible refine Kd.C_drewN ?_ _) | (with_reducible refine Kd.C_drew ?_))); (case side4 => exact bo.out); rintro e w28 ⟨v393, rfl, ho0, hb⟩; refine ⟨_, rfl, ?_⟩; have n0_ := Aside0.mk (Kd.R_elder' (by (with_reducible repeat (first | apply Kd.R_alloc | apply Kd.R_drewN | apply Kd.R_drew)); exact e8.out) (Kd.R_base ho0) hb); have n1_ := Aside0.mk (Kd.R_lower (Kd.R_new' ho0 (Kd.R_lt (by (with_reducible repeat (first | apply Kd.R_alloc | apply Kd.R_drewN | apply Kd.R_drew)); exact e8.out))) (ae (by repeat (first | (with_reducible first | exact HB.out | apply a6 | apply a4 | apply a5 | refine a9 ?_ d8.out) | exact HB.out)))); have n2_ := Aside0.mk (af (g := bW) (o := .cells #[.slice ar aj.length ap, .slice au ag.length ao] 25 (0, 0)) (by (with_reducible repeat (first | refine ab ?_ _ | refine ac ?_ | refine aa ?_ _)); exact be.out) hb); have n3_ := Aside0.mk (ah (by repeat (first | (with_reducible first | exact HB.out | apply a6 | apply a4 | apply a5 | refine a9 ?_ d8.out) | exact HB.out)) hb); clear e8; clear be; clear HB; have e8 := n0_; have kH := n1_; have be := n2_; have HB := n3_; clear n0_ n1_ n2_ n3_; (try clear hb); (try clear hb2); (try clear hk); (try clear hi); (try clear ho0); obtain ⟨Ao29, co29, eo29⟩ := Kd.R_slice e8.out; subst eo29; obtain ⟨Ao30, co30, eo30⟩ := Kd.R_slice kH.out; subst eo30) | ((with_reducible refine am (f := 19) rfl ?_); refine aV (some 28) rfl rfl Try.func19 (by kernel_rfl) rfl #[.slice Ao29 t387.length co29, .slice Ao30 t392.length co30] rfl (by (try simp only [List.map_toArray, List.map_cons, List.map_nil]); first | done | rfl | (simp only [List.length_drop, List.length_take]; rfl)) ?_; (with_reducible refine (fastiref15_SameInts.calls k _ _ t387 _ _ t392 true _ ?side1 ?side2 ?side3 ?side4 A8.out).mono ?_); (case side1 => repeat (first | exact (Kd.R_reads' e8.out).2.2 | (with_reducible refine Kd.C_alloc ?_ _) | (with_reducible refine Kd.C_drewN ?_ _) | (with_reducible refine Kd.C_drew ?_))); (case side2 => exact (Kd.R_reads' e8.out).2.1); (case side3 => repeat (first | exact (Kd.R_reads' kH.out).2.2 | (with_reducible refine Kd.C_alloc ?_ _) | (with_reducible refine Kd.C_drewN ?_ _) | (with_reducible refine Kd.C_drew ?_))); (case side4 => exact (Kd.R_reads' kH.out).2.1); rintro e w' ⟨rfl, ⟨nd, rfl⟩⟩; refine ⟨_, rfl, ?_⟩))
     go_ret
     exact ⟨by first | rfl | (simp [ak, al] <;> rfl) | (simp [*, ak, al] <;> rfl), by repeat (first | (with_reducible first | exact HB.out | apply a6 | apply a4 | apply a5 | refine a9 ?_ d8.out) | exact HB.out)⟩
   ·replace c9 := Bool.eq_false_iff.mpr c9
    subst c9
    have H1 : (some false) = some r := by rw [if_neg (show ¬ (false = true) by decide)] at H; exact H
    clear H
    have H := H1
    clear H1
    obtain rfl := Option.some.inj H
    go_enter Try.func5, Try.ntmps5
    go_wp2_with (first | ((with_reducible refine az (N := 1) rfl ?_); refine aq ?hg (N := 1) ?hd (cs := #[.slice ar aj.length ap, .slice au ag.length ao]) (t := 25) ?hr ?_; (case hd => rfl); (case hg => rfl); (case hr => first | (go_simp; done) | (go_simp; rfl)); intro bW hg w31 hbox hb; have n0_ := Aside0.mk (ah (by repeat (first | (with_reducible first | exact HB.out | apply a6 | apply a4 | apply a5) | exact HB.out)) hb); have n1_ := Aside0.mk (hbox); have n2_ := Aside0.mk ((by rw [hg]; exact (ae (by repeat (first | (with_reducible first | exact HB.out | apply a6 | apply a4 | apply a5) | exact HB.out))) : w.heap.size ≤ bW)); have n3_ := Aside0.mk ((by rw [hg]; exact (ae (by repeat (first | (with_reducible first | exact HB.out | apply a6 | apply a4 | apply a5) | exact HB.out))) : w.heap.size ≤ bW)); clear HB; have HB := n0_; have be := n1_; have GW384 := n2_; have d8 := n3_; clear n0_ n1_ n2_ n3_; clear hb hbox hg) | ((with_reducible refine am (f := 11) rfl ?_); refine aV (some 9) rfl rfl Try.func11 (by kernel_rfl) rfl #[] rfl (by (try simp only [List.map_toArray, List.map_cons, List.map_nil]); first | done | rfl | (simp only [List.length_drop, List.length_take]; rfl)) ?_; (with_reducible refine (fastilaw15_sane.calls  true _ A2.out).mono ?_); rintro e w32 ⟨rfl, hb⟩; refine ⟨_, rfl, ?_⟩; have n0_ := Aside0.mk (af (g := bW) (o := .cells #[.slice ar aj.length ap, .slice au ag.length ao] 25 (0, 0)) (by (with_reducible repeat (first | refine ab ?_ _ | refine ac ?_ | refine aa ?_ _)); exact be.out) hb); have n1_ := Aside0.mk (ah (by repeat (first | (with_reducible first | exact HB.out | apply a6 | apply a4 | apply a5 | refine a9 ?_ d8.out) | exact HB.out)) hb); clear be; clear HB; have be := n0_; have HB := n1_; clear n0_ n1_; (try clear hb); (try clear hb2); (try clear hk); (try clear hi); have hcz33_0 : w32.cell? ⟨bW, 0, none⟩ = some (.slice ar aj.length ap) := (a7 be.out 0).trans rfl; have hcz33_1 : w32.cell? ⟨bW, 1, none⟩ = some (.slice au ag.length ao) := (a7 be.out 1).trans rfl; have hfz33_0 := a8 be.out 0; have hfz33_1 := a8 be.out 1) | ((with_reducible refine am (f := 12) rfl ?_); refine aV (some 12) rfl rfl Try.func12 (by kernel_rfl) rfl #[.agg #[.slice ar aj.length ap, .slice au ag.length ao]] rfl (by (try simp only [List.map_toArray, List.map_cons, List.map_nil]); first | done | rfl | (simp only [List.length_drop, List.length_take]; rfl)) ?_; (with_reducible refine (fastiref15_Few.calls k _ _ aj _ _ ag true _ ?side1 ?side2 ?side3 ?side4 A4.out).mono ?_); (case side1 => repeat (first | exact (Kd.C_below bm.out HB.out) | (with_reducible refine Kd.C_alloc ?_ _) | (with_reducible refine Kd.C_drewN ?_ _) | (with_reducible refine Kd.C_drew ?_))); (case side2 => exact bu.out); (case side3 => repeat (first | exact (Kd.C_below bg.out HB.out) | (with_reducible refine Kd.C_alloc ?_ _) | (with_reducible refine Kd.C_drewN ?_ _) | (with_reducible refine Kd.C_drew ?_))); (case side4 => exact bo.out); rintro e w34 ⟨rfl, hb⟩; refine ⟨_, rfl, ?_⟩; have n0_ := Aside0.mk (af (g := bW) (o := .cells #[.slice ar aj.length ap, .slice au ag.length ao] 25 (0, 0)) (by (with_reducible repeat (first | refine ab ?_ _ | refine ac ?_ | refine aa ?_ _)); exact be.out) hb); have n1_ := Aside0.mk (ah (by repeat (first | (with_reducible first | exact HB.out | apply a6 | apply a4 | apply a5 | refine a9 ?_ d8.out) | exact HB.out)) hb); clear be; clear HB; have be := n0_; have HB := n1_; clear n0_ n1_; (try clear hb); (try clear hb2); (try clear hk); (try clear hi); have hcz35_0 : w34.cell? ⟨bW, 0, none⟩ = some (.slice ar aj.length ap) := (a7 be.out 0).trans rfl; have hcz35_1 : w34.cell? ⟨bW, 1, none⟩ = some (.slice au ag.length ao) := (a7 be.out 1).trans rfl; have hfz35_0 := a8 be.out 0; have hfz35_1 := a8 be.out 1) | ((with_reducible refine am (f := 25) rfl ?_); refine aV (some 16) rfl rfl Try.func25 (by kernel_rfl) rfl #[.agg #[.slice ar aj.length ap, .slice au ag.length ao]] rfl (by (try simp only [List.map_toArray, List.map_cons, List.map_nil]); first | done | rfl | (simp only [List.length_drop, List.length_take]; rfl)) ?_; (with_reducible refine (search_Core.calls k _ _ aj _ _ ag t387 t390 t391 _ ?side1 ?side2 ?side3 ?side4 A6.out).mono ?_); (case side1 => repeat (first | exact (Kd.C_below bm.out HB.out) | (with_reducible refine Kd.C_alloc ?_ _) | (with_reducible refine Kd.C_drewN ?_ _) | (with_reducible refine Kd.C_drew ?_))); (case side2 => exact bu.out); (case side3 => repeat (first | exact (Kd.C_below bg.out HB.out) | (with_reducible refine Kd.C_alloc ?_ _) | (with_reducible refine Kd.C_drewN ?_ _) | (with_reducible refine Kd.C_drew ?_))); (case side4 => exact bo.out); rintro e w36 ⟨v388, rfl, ho0, hb⟩; refine ⟨_, rfl, ?_⟩; have n0_ := Aside0.mk (Kd.R_lower ho0 (ae (by repeat (first | (with_reducible first | exact HB.out | apply a6 | apply a4 | apply a5 | refine a9 ?_ d8.out) | exact HB.out)))); have n1_ := Aside0.mk (af (g := bW) (o := .cells #[.slice ar aj.length ap, .slice au ag.length ao] 25 (0, 0)) (by (with_reducible repeat (first | refine ab ?_ _ | refine ac ?_ | refine aa ?_ _)); exact be.out) hb); have n2_ := Aside0.mk (ah (by repeat (first | (with_reducible first | exact HB.out | apply a6 | apply a4 | apply a5 | refine a9 ?_ d8.out) | exact HB.out)) hb); clear be; clear HB; have e8 := n0_; have be := n1_; have HB := n2_; clear n0_ n1_ n2_; (try clear hb); (try clear hb2); (try clear hk); (try clear hi); (try clear ho0); have hcz37_0 : w36.cell? ⟨bW, 0, none⟩ = some (.slice ar aj.length ap) := (a7 be.out 0).trans rfl; have hcz37_1 : w36.cell? ⟨bW, 1, none⟩ = some (.slice au ag.length ao) := (a7 be.out 1).trans rfl; have hfz37_0 := a8 be.out 0; have hfz37_1 := a8 be.out 1) | ((with_reducible refine am (f := 26) rfl ?_); refine aV (some 22) rfl rfl Try.func26 (by kernel_rfl) rfl #[.agg #[.slice ar aj.length ap, .slice au ag.length ao]] rfl (by (try simp only [List.map_toArray, List.map_cons, List.map_nil]); first | done | rfl | (simp only [List.length_drop, List.length_take]; rfl)) ?_; (with_reducible refine (fastiref15_Core.calls k _ _ aj _ _ ag t392 t395 t396 _ ?side1 ?side2 ?side3 ?side4 A7.out).mono ?_); (case side1 => repeat (first | exact (Kd.C_below bm.out HB.out) | (with_reducible refine Kd.C_alloc ?_ _) | (with_reducible refine Kd.C_drewN ?_ _) | (with_reducible refine Kd.C_drew ?_))); (case side2 => exact bu.out); (case side3 => repeat (first | exact (Kd.C_below bg.out HB.out) | (with_reducible refine Kd.C_alloc ?_ _) | (with_reducible refine Kd.C_drewN ?_ _) | (with_reducible refine Kd.C_drew ?_))); (case side4 => exact bo.out); rintro e w38 ⟨v393, rfl, ho0, hb⟩; refine ⟨_, rfl, ?_⟩; have n0_ := Aside0.mk (Kd.R_elder' (by (with_reducible repeat (first | apply Kd.R_alloc | apply Kd.R_drewN | apply Kd.R_drew)); exact e8.out) (Kd.R_base ho0) hb); have n1_ := Aside0.mk (Kd.R_lower (Kd.R_new' ho0 (Kd.R_lt (by (with_reducible repeat (first | apply Kd.R_alloc | apply Kd.R_drewN | apply Kd.R_drew)); exact e8.out))) (ae (by repeat (first | (with_reducible first | exact HB.out | apply a6 | apply a4 | apply a5 | refine a9 ?_ d8.out) | exact HB.out)))); have n2_ := Aside0.mk (af (g := bW) (o := .cells #[.slice ar aj.length ap, .slice au ag.length ao] 25 (0, 0)) (by (with_reducible repeat (first | refine ab ?_ _ | refine ac ?_ | refine aa ?_ _)); exact be.out) hb); have n3_ := Aside0.mk (ah (by repeat (first | (with_reducible first | exact HB.out | apply a6 | apply a4 | apply a5 | refine a9 ?_ d8.out) | exact HB.out)) hb); clear e8; clear be; clear HB; have e8 := n0_; have kH := n1_; have be := n2_; have HB := n3_; clear n0_ n1_ n2_ n3_; (try clear hb); (try clear hb2); (try clear hk); (try clear hi); (try clear ho0); obtain ⟨Ao39, co39, eo39⟩ := Kd.R_slice e8.out; subst eo39; obtain ⟨Ao40, co40, eo40⟩ := Kd.R_slice kH.out; subst eo40) | ((with_reducible refine am (f := 19) rfl ?_); refine aV (some 28) rfl rfl Try.func19 (by kernel_rfl) rfl #[.slice Ao39 t387.length co39, .slice Ao40 t392.length co40] rfl (by (try simp only [List.map_toArray, List.map_cons, List.map_nil]); first | done | rfl | (simp only [List.length_drop, List.length_take]; rfl)) ?_; (with_reducible refine (fastiref15_SameInts.calls k _ _ t387 _ _ t392 false _ ?side1 ?side2 ?side3 ?side4 A8.out).mono ?_); (case side1 => repeat (first | exact (Kd.R_reads' e8.out).2.2 | (with_reducible refine Kd.C_alloc ?_ _) | (with_reducible refine Kd.C_drewN ?_ _) | (with_reducible refine Kd.C_drew ?_))); (case side2 => exact (Kd.R_reads' e8.out).2.1); (case side3 => repeat (first | exact (Kd.R_reads' kH.out).2.2 | (with_reducible refine Kd.C_alloc ?_ _) | (with_reducible refine Kd.C_drewN ?_ _) | (with_reducible refine Kd.C_drew ?_))); (case side4 => exact (Kd.R_reads' kH.out).2.1); rintro e w' ⟨rfl, ⟨nd, rfl⟩⟩; refine ⟨_, rfl, ?_⟩))
    go_ret
    exact ⟨by first | rfl | (simp [ak, al] <;> rfl) | (simp [*, ak, al] <;> rfl), by repeat (first | (with_reducible first | exact HB.out | apply a6 | apply a4 | apply a5 | refine a9 ?_ d8.out) | exact HB.out)⟩
  ·replace c5 := Bool.eq_false_iff.mpr c5
   subst c5
   have H1 : (some true) = some r := by rw [if_neg (show ¬ (false = true) by decide)] at H; exact H
   clear H
   have H := H1
   clear H1
   obtain rfl := Option.some.inj H
   go_enter Try.func5, Try.ntmps5
   go_wp2_with (first | ((with_reducible refine az (N := 1) rfl ?_); refine aq ?hg (N := 1) ?hd (cs := #[.slice ar aj.length ap, .slice au ag.length ao]) (t := 25) ?hr ?_; (case hd => rfl); (case hg => rfl); (case hr => first | (go_simp; done) | (go_simp; rfl)); intro bW hg w41 hbox hb; have n0_ := Aside0.mk (ah (by repeat (first | (with_reducible first | exact HB.out | apply a6 | apply a4 | apply a5) | exact HB.out)) hb); have n1_ := Aside0.mk (hbox); have n2_ := Aside0.mk ((by rw [hg]; exact (ae (by repeat (first | (with_reducible first | exact HB.out | apply a6 | apply a4 | apply a5) | exact HB.out))) : w.heap.size ≤ bW)); have n3_ := Aside0.mk ((by rw [hg]; exact (ae (by repeat (first | (with_reducible first | exact HB.out | apply a6 | apply a4 | apply a5) | exact HB.out))) : w.heap.size ≤ bW)); clear HB; have HB := n0_; have be := n1_; have GW384 := n2_; have d8 := n3_; clear n0_ n1_ n2_ n3_; clear hb hbox hg) | ((with_reducible refine am (f := 11) rfl ?_); refine aV (some 9) rfl rfl Try.func11 (by kernel_rfl) rfl #[] rfl (by (try simp only [List.map_toArray, List.map_cons, List.map_nil]); first | done | rfl | (simp only [List.length_drop, List.length_take]; rfl)) ?_; (with_reducible refine (fastilaw15_sane.calls  true _ A2.out).mono ?_); rintro e w42 ⟨rfl, hb⟩; refine ⟨_, rfl, ?_⟩; have n0_ := Aside0.mk (af (g := bW) (o := .cells #[.slice ar aj.length ap, .slice au ag.length ao] 25 (0, 0)) (by (with_reducible repeat (first | refine ab ?_ _ | refine ac ?_ | refine aa ?_ _)); exact be.out) hb); have n1_ := Aside0.mk (ah (by repeat (first | (with_reducible first | exact HB.out | apply a6 | apply a4 | apply a5 | refine a9 ?_ d8.out) | exact HB.out)) hb); clear be; clear HB; have be := n0_; have HB := n1_; clear n0_ n1_; (try clear hb); (try clear hb2); (try clear hk); (try clear hi); have hcz43_0 : w42.cell? ⟨bW, 0, none⟩ = some (.slice ar aj.length ap) := (a7 be.out 0).trans rfl; have hcz43_1 : w42.cell? ⟨bW, 1, none⟩ = some (.slice au ag.length ao) := (a7 be.out 1).trans rfl; have hfz43_0 := a8 be.out 0; have hfz43_1 := a8 be.out 1) | ((with_reducible refine am (f := 12) rfl ?_); refine aV (some 12) rfl rfl Try.func12 (by kernel_rfl) rfl #[.agg #[.slice ar aj.length ap, .slice au ag.length ao]] rfl (by (try simp only [List.map_toArray, List.map_cons, List.map_nil]); first | done | rfl | (simp only [List.length_drop, List.length_take]; rfl)) ?_; (with_reducible refine (fastiref15_Few.calls k _ _ aj _ _ ag false _ ?side1 ?side2 ?side3 ?side4 A4.out).mono ?_); (case side1 => repeat (first | exact (Kd.C_below bm.out HB.out) | (with_reducible refine Kd.C_alloc ?_ _) | (with_reducible refine Kd.C_drewN ?_ _) | (with_reducible refine Kd.C_drew ?_))); (case side2 => exact bu.out); (case side3 => repeat (first | exact (Kd.C_below bg.out HB.out) | (with_reducible refine Kd.C_alloc ?_ _) | (with_reducible refine Kd.C_drewN ?_ _) | (with_reducible refine Kd.C_drew ?_))); (case side4 => exact bo.out); rintro e w44 ⟨rfl, hb⟩; refine ⟨_, rfl, ?_⟩; have n0_ := Aside0.mk (af (g := bW) (o := .cells #[.slice ar aj.length ap, .slice au ag.length ao] 25 (0, 0)) (by (with_reducible repeat (first | refine ab ?_ _ | refine ac ?_ | refine aa ?_ _)); exact be.out) hb); have n1_ := Aside0.mk (ah (by repeat (first | (with_reducible first | exact HB.out | apply a6 | apply a4 | apply a5 | refine a9 ?_ d8.out) | exact HB.out)) hb); clear be; clear HB; have be := n0_; have HB := n1_; clear n0_ n1_; (try clear hb); (try clear hb2); (try clear hk); (try clear hi)))
   go_ret
   exact ⟨by first | rfl | (simp [ak, al] <;> rfl) | (simp [*, ak, al] <;> rfl), by repeat (first | (with_reducible first | exact HB.out | apply a6 | apply a4 | apply a5 | refine a9 ?_ d8.out) | exact HB.out)⟩
 ·replace c3 := Bool.eq_false_iff.mpr c3
  subst c3
  have H1 : (some false) = some r := by rw [if_neg (show ¬ (false = true) by decide)] at H; exact H
  clear H
  have H := H1
  clear H1
  obtain rfl := Option.some.inj H
  go_enter Try.func5, Try.ntmps5
  go_wp2_with (first | ((with_reducible refine az (N := 1) rfl ?_); refine aq ?hg (N := 1) ?hd (cs := #[.slice ar aj.length ap, .slice au ag.length ao]) (t := 25) ?hr ?_; (case hd => rfl); (case hg => rfl); (case hr => first | (go_simp; done) | (go_simp; rfl)); intro bW hg w45 hbox hb; have n0_ := Aside0.mk (ah (by repeat (first | (with_reducible first | exact HB.out | apply a6 | apply a4 | apply a5) | exact HB.out)) hb); have n1_ := Aside0.mk (hbox); have n2_ := Aside0.mk ((by rw [hg]; exact (ae (by repeat (first | (with_reducible first | exact HB.out | apply a6 | apply a4 | apply a5) | exact HB.out))) : w.heap.size ≤ bW)); have n3_ := Aside0.mk ((by rw [hg]; exact (ae (by repeat (first | (with_reducible first | exact HB.out | apply a6 | apply a4 | apply a5) | exact HB.out))) : w.heap.size ≤ bW)); clear HB; have HB := n0_; have be := n1_; have GW384 := n2_; have d8 := n3_; clear n0_ n1_ n2_ n3_; clear hb hbox hg) | ((with_reducible refine am (f := 11) rfl ?_); refine aV (some 9) rfl rfl Try.func11 (by kernel_rfl) rfl #[] rfl (by (try simp only [List.map_toArray, List.map_cons, List.map_nil]); first | done | rfl | (simp only [List.length_drop, List.length_take]; rfl)) ?_; (with_reducible refine (fastilaw15_sane.calls  false _ A2.out).mono ?_); rintro e w46 ⟨rfl, hb⟩; refine ⟨_, rfl, ?_⟩; have n0_ := Aside0.mk (af (g := bW) (o := .cells #[.slice ar aj.length ap, .slice au ag.length ao] 25 (0, 0)) (by (with_reducible repeat (first | refine ab ?_ _ | refine ac ?_ | refine aa ?_ _)); exact be.out) hb); have n1_ := Aside0.mk (ah (by repeat (first | (with_reducible first | exact HB.out | apply a6 | apply a4 | apply a5 | refine a9 ?_ d8.out) | exact HB.out)) hb); clear be; clear HB; have be := n0_; have HB := n1_; clear n0_ n1_; (try clear hb); (try clear hb2); (try clear hk); (try clear hi)))
  go_ret
  exact ⟨by first | rfl | (simp [ak, al] <;> rfl) | (simp [*, ak, al] <;> rfl), by repeat (first | (with_reducible first | exact HB.out | apply a6 | apply a4 | apply a5 | refine a9 ?_ d8.out) | exact HB.out)⟩
end Go.Proofs.Ytcbpkdemcdikaaa.X
namespace Go.Proofs.Ytcbpkdemcdikaaa.QR
open Go.RowKit Go.Proofs.Ytcbpkdemcdikaaa.X Go.Proofs.Ytcbpkdemcdikaaa.X.SF Go.Proofs.Ytcbpkdemcdikaaa.X.DF Go.Proofs.Ytcbpkdemcdikaaa.K Go.Proofs.YtcbpkdemcdikaaaW.PrintWords Go.Proofs.Ytcbpkdemcdikaaa.QB Go.Proofs.Ytcbpkdemcdikaaa.QC Go.Proofs.Ytcbpkdemcdikaaa.QP Go.Proofs.Ytcbpkdemcdikaaa.QK Go.Proofs.Ytcbpkdemcdikaaa.QS Go.Proofs.Ytcbpkdemcdikaaa.QX
set_option linter.unusedVariables false
set_option linter.unusedSimpArgs false
theorem ok_sub {ds : M} {rs rs' : List S49} (h : Ok ds rs) (hm : ∀ r ∈ rs', r ∈ rs) (hl : rs'.length ≤ 64) : Ok ds rs' :=
  ⟨h.pos, h.len, hl, h.dl, fun r hr => h.rok r (hm r hr), h.dom, fun r hr => h.val r (hm r hr)⟩
theorem some_ref (ds : M) (rs : List S49) (l : List Int) (hl : l.length ≤ 4096) (hv : ∀ v ∈ l, 0 ≤ v ∧ v < (rs.length : Int)) : Ev (fun k => fastiref15_Some.f k ds rs l) (ds, l.map (ai rs)) := by
  have H : ∀ m i, i + m = l.length → Ev (fun k => fastiref15_Some.l0 k l (i : Int) ds rs ds ((l.take i).map (ai rs))) (ds, l.map (ai rs)) := by
    intro m
    induction m with
    | zero =>
      intro i hi
      refine Ev.eq fun k => ?_
      simp only [fastiref15_Some.l0]
      rw [if_neg (by omega), List.take_of_length_le (by omega)]
    | succ m ih =>
      intro i hi
      have hil : i < l.length := by omega
      have hr := hv _ (List.getElem_mem hil)
      have N := ih (i + 1) (by omega)
      refine Ev.step (f := fun k => fastiref15_Some.l0 k l (wrap64 ((i : Int) + 1)) ds rs ds ((l.take i).map (ai rs) ++ [ai rs l[i]])) (fun k => ?_) ?_
      · simp only [fastiref15_Some.l0, fU hil]
        rw [if_pos (by omega), if_pos (by omega), if_pos hr.1, if_pos hr.2, if_pos (by simp; omega)]
      · rw [iM i (by omega)]
        rw [take_get hil, List.map_append] at N
        exact N
  exact H l.length 0 (by omega)
theorem core_l0 (ds : M) (rs : List S49) (hl : rs.length ≤ 64) (r : List Int × Bool × Int) (h : Ev (fun k => fastiref15_Core.l1 k ((List.range rs.length).map fun i : Nat => (i : Int)) 0 ds rs) r) :
    Ev (fun k => fastiref15_Core.l0 k [] 0 ds rs) r := by
  have H : ∀ m i, i + m = rs.length → Ev (fun k => fastiref15_Core.l0 k ((List.range i).map fun i : Nat => (i : Int)) (i : Int) ds rs) r := by
    intro m
    induction m with
    | zero =>
      intro i hi
      obtain rfl : i = rs.length := by omega
      refine Ev.step (f := fun k => fastiref15_Core.l1 k ((List.range rs.length).map fun i : Nat => (i : Int)) 0 ds rs) (fun k => ?_) h
      simp only [fastiref15_Core.l0]
      rw [if_neg (by omega)]
    | succ m ih =>
      intro i hi
      have N := ih (i + 1) (by omega)
      refine Ev.step (f := fun k => fastiref15_Core.l0 k (((List.range i).map fun i : Nat => (i : Int)) ++ [(i : Int)]) (wrap64 ((i : Int) + 1)) ds rs) (fun k => ?_) ?_
      · simp only [fastiref15_Core.l0]
        rw [if_pos (by omega), if_pos (by simp; omega)]
      · rw [iM i (by omega)]
        rw [List.range_succ, List.map_append] at N
        exact N
  exact H rs.length 0 (by omega)
theorem core_l2 (ds : M) (rs : List S49) (l : List Int) (v : Int) (hl : l.length ≤ 64) (r : List Int × Bool × Int)
    (h : Ev (fun k => (fastiref15_Some.f k ds rs (l.filter fun a => decide (a ≠ v))).bind fun bt374 => ((fastiref15_solve.f k bt374.1 bt374.2 ([] : List Int)).bind fun bt380 => (if bt380.2 = true then (fastiref15_Core.l1 k l (wrap64 (v + 1)) ds rs) else (fastiref15_Core.l1 k (l.filter fun a => decide (a ≠ v)) (wrap64 (v + 1)) ds rs)))) r) :
    Ev (fun k => fastiref15_Core.l2 k l v [] 0 ds rs) r := by
  have H : ∀ m i, i + m = l.length → Ev (fun k => fastiref15_Core.l2 k l v ((l.take i).filter fun a => decide (a ≠ v)) (i : Int) ds rs) r := by
    intro m
    induction m with
    | zero =>
      intro i hi
      rw [List.take_of_length_le (by omega)]
      refine Ev.step (fun k => ?_) h
      simp only [fastiref15_Core.l2]
      rw [if_neg (by omega)]
    | succ m ih =>
      intro i hi
      have hil : i < l.length := by omega
      have N := ih (i + 1) (by omega)
      rw [take_get hil, List.filter_append] at N
      have hfl : ((l.take i).filter fun a => decide (a ≠ v)).length ≤ 64 := Nat.le_trans (List.length_filter_le _ _) (by rw [List.length_take]; omega)
      by_cases he : l[i] = v
      · refine Ev.step (f := fun k => fastiref15_Core.l2 k l v ((l.take i).filter fun a => decide (a ≠ v)) (wrap64 ((i : Int) + 1)) ds rs) (fun k => ?_) ?_
        · simp only [fastiref15_Core.l2, fU hil]
          rw [if_pos (by omega), if_pos (by omega), if_pos he]
        · rw [iM i (by omega)]
          simp only [List.filter_cons, he, ne_eq, not_true_eq_false, decide_false, Bool.false_eq_true, if_false, List.filter_nil, List.append_nil] at N ⊢
          exact N
      · refine Ev.step (f := fun k => fastiref15_Core.l2 k l v (((l.take i).filter fun a => decide (a ≠ v)) ++ [l[i]]) (wrap64 ((i : Int) + 1)) ds rs) (fun k => ?_) ?_
        · simp only [fastiref15_Core.l2, fU hil]
          rw [if_pos (by omega), if_pos (by omega), if_neg he, if_pos (by omega)]
        · rw [iM i (by omega)]
          rw [show [l[i]].filter (fun a => decide (a ≠ v)) = [l[i]] by simp [he]] at N
          exact N
  exact H l.length 0 (by omega)
theorem num_get (rs : List S49) {i : Nat} (hi : i < rs.length) : (numbered rs).drop i = ((i : Int), ai rs (i : Int)) :: (numbered rs).drop (i + 1) := by
  have hn : i < (numbered rs).length := by simpa [numbered] using hi
  rw [fG hn]
  congr 1
  simp [numbered, T49n]
theorem num_mem (rs : List S49) {i : Nat} {p : Int × S49} (hp : p ∈ (numbered rs).drop i) : p.2 = ai rs p.1 ∧ (i : Int) ≤ p.1 ∧ p.1 < (rs.length : Int) := by
  obtain ⟨j, hj, rfl⟩ := List.mem_iff_getElem.1 hp
  have hl : (numbered rs).length = rs.length := by simp [numbered]
  rw [List.length_drop, hl] at hj
  simp only [List.getElem_drop, numbered, List.getElem_map, List.getElem_range, T49n, true_and]
  omega
theorem num_len (rs : List S49) (i : Nat) : ((numbered rs).drop i).length = rs.length - i := by simp [numbered]
theorem snd_map (rs : List S49) (l : List (Int × S49)) (h : ∀ p ∈ l, p.2 = ai rs p.1) : (l.map (·.1)).map (ai rs) = l.map (·.2) := by
  rw [List.map_map]
  exact List.map_congr_left fun p hp => (h p hp).symm
theorem T49_mem {rs : List S49} {v : Int} (h0 : 0 ≤ v) (h1 : v < (rs.length : Int)) : ai rs v ∈ rs := by
  obtain ⟨n, rfl⟩ : ∃ n : Nat, v = (n : Int) := ⟨v.toNat, by omega⟩
  rw [T49n, cB (by omega : n < rs.length)]
  exact List.getElem_mem _
theorem core_l1 (ds : M) (rs : List S49) (h : Ok ds rs) : ∀ (m i : Nat) (kept : List (Int × S49)), i + m = rs.length → kept.length ≤ i → (∀ p ∈ kept, p.2 = ai rs p.1 ∧ 0 ≤ p.1 ∧ p.1 < (i : Int)) →
    Ev (fun k => fastiref15_Core.l1 k ((kept ++ (numbered rs).drop i).map (·.1)) (i : Int) ds rs) (coreR ds kept ((numbered rs).drop i), true, 0) := by
  intro m
  induction m with
  | zero =>
    intro i kept hi _ _
    have e : (numbered rs).drop i = [] := List.eq_nil_of_length_eq_zero (by rw [num_len]; omega)
    rw [e, coreR, List.append_nil]
    refine Ev.eq fun k => ?_
    simp only [fastiref15_Core.l1]
    rw [if_neg (by omega)]
  | succ m ih =>
    intro i kept hi hkl hk
    have hil : i < rs.length := by omega
    have hrl := h.rl
    rw [num_get rs hil, coreR]
    have hR : ∀ p ∈ (numbered rs).drop (i + 1), p.2 = ai rs p.1 ∧ ((i + 1 : Nat) : Int) ≤ p.1 ∧ p.1 < (rs.length : Int) := fun p hp => num_mem rs hp
    have hall : ∀ p ∈ kept ++ (numbered rs).drop (i + 1), p.2 = ai rs p.1 ∧ 0 ≤ p.1 ∧ p.1 < (rs.length : Int) := fun p hp => by
      rcases List.mem_append.1 hp with hp | hp
      · have := hk p hp; exact ⟨this.1, this.2.1, by omega⟩
      · have := hR p hp; exact ⟨this.1, by omega, this.2.2⟩
    have hlen : (kept ++ (numbered rs).drop (i + 1)).length ≤ 64 := by rw [List.length_append, num_len]; omega
    have hf : ((kept ++ ((i : Int), ai rs (i : Int)) :: (numbered rs).drop (i + 1)).map (·.1)).filter (fun a => decide (a ≠ (i : Int))) = (kept ++ (numbered rs).drop (i + 1)).map (·.1) := by
      simp only [List.map_append, List.map_cons, List.filter_append, List.filter_cons, ne_eq, not_true_eq_false, decide_false, Bool.false_eq_true, if_false]
      congr 1
      · refine List.filter_eq_self.2 fun a ha => ?_
        obtain ⟨p, hp, rfl⟩ := List.mem_map.1 ha
        have := hk p hp
        simp; omega
      · refine List.filter_eq_self.2 fun a ha => ?_
        obtain ⟨p, hp, rfl⟩ := List.mem_map.1 ha
        have := hR p hp
        simp; omega
    have hmem : ∀ r ∈ (kept ++ (numbered rs).drop (i + 1)).map (·.2), r ∈ rs := fun r hr => by
      obtain ⟨p, hp, rfl⟩ := List.mem_map.1 hr
      have := hall p hp
      rw [this.1]
      exact T49_mem this.2.1 this.2.2
    have hok : Ok ds ((kept ++ (numbered rs).drop (i + 1)).map (·.2)) := ok_sub h hmem (by rw [List.length_map]; exact hlen)
    have S1 := some_ref ds rs ((kept ++ (numbered rs).drop (i + 1)).map (·.1)) (by rw [List.length_map]; omega) (fun v hv => by
      obtain ⟨p, hp, rfl⟩ := List.mem_map.1 hv
      exact (hall p hp).2)
    rw [snd_map rs _ (fun p hp => (hall p hp).1)] at S1
    have S2 := solve_ref ds _ hok ds [] rfl (Nat.zero_le _) (fun a ha => by cases ha)
    rw [if_neg (by rw [bad_nil hok]; simp)] at S2
    refine Ev.step (f := fun k => fastiref15_Core.l2 k ((kept ++ ((i : Int), ai rs (i : Int)) :: (numbered rs).drop (i + 1)).map (·.1)) (i : Int) [] 0 ds rs) (fun k => ?_) (core_l2 ds rs _ _ (by simp only [List.length_map, List.length_append, List.length_cons] at hlen ⊢; rw [num_len] at hlen ⊢; omega) _ ?_)
    · simp only [fastiref15_Core.l1]
      rw [if_pos (by omega)]
    · rw [hf]
      refine Ev.bind S1 (Ev.bind S2 ?_)
      rw [List.map_append] 
      simp only [pr, iM i (show i < 4611686018427387904 by omega)]
      cases (sol (badB (kept.map (·.2) ++ ((numbered rs).drop (i + 1)).map (·.2))) ds []).isSome with
      | true =>
        simp only [if_true]
        have N := ih (i + 1) (kept ++ [((i : Int), ai rs (i : Int))]) (by omega) (by rw [List.length_append, List.length_singleton]; omega) (fun p hp => by
          rcases List.mem_append.1 hp with hp | hp
          · have := hk p hp; exact ⟨this.1, this.2.1, by omega⟩
          · obtain rfl := List.mem_singleton.1 hp; exact ⟨rfl, by simp, by simp; omega⟩)
        rw [List.append_assoc] at N
        exact N
      | false =>
        simp only [Bool.false_eq_true, if_false]
        have N := ih (i + 1) kept (by omega) (by omega) (fun p hp => by have := hk p hp; exact ⟨this.1, this.2.1, by omega⟩)
        exact N
def corR (ds : M) (rs : List S49) : List Int × Bool × Int := if (solR ds rs).2.2 ≠ 0 ∨ (solR ds rs).2.1 = true then ([], false, (solR ds rs).2.2) else (coreR ds [] (numbered rs), true, 0)
theorem jg {ds : M} {rs : List S49} (h : (solR ds rs).2.2 = 0) : chk ds rs = 0 := by
  unfold solR at h
  split at h
  · assumption
  · exact h
theorem Core_ref (ds : M) (rs : List S49) : Ev (fun k => fastiref15_Core.f k ds rs) (corR ds rs) := by
  unfold fastiref15_Core.f corR
  refine Ev.bind1 (f := fun k (gU : List Int × Bool × Int) => if gU.2.2 = 0 then (fastiref15_Core.j0 k gU.2.2 gU.2.1 ds rs) else (fastiref15_Core.j0 k gU.2.2 true ds rs)) (Solve_ref ds rs) ?_
  have out : ∀ e : Int, Ev (fun k => fastiref15_Core.j0 k e true ds rs) ([], false, e) := fun e => Ev.eq fun k => rfl
  by_cases h0 : (solR ds rs).2.2 = 0
  · simp only [if_pos h0]
    cases h1 : (solR ds rs).2.1 with
    | true =>
      rw [if_pos (.inr rfl)]
      exact out _
    | false =>
      rw [if_neg (by simp [h0])]
      have h := chk_ok (jg h0)
      refine Ev.step (f := fun k => fastiref15_Core.l0 k [] 0 ds rs) (fun k => by simp only [fastiref15_Core.j0, Bool.false_eq_true, if_false]) (core_l0 ds rs h.rl _ ?_)
      have N := core_l1 ds rs h rs.length 0 [] (by omega) (Nat.le_refl _) (fun p hp => by cases hp)
      rw [List.drop_zero, List.nil_append] at N
      rw [show (List.range rs.length).map (fun i : Nat => (i : Int)) = (numbered rs).map (·.1) by simp [numbered, Function.comp_def]]
      exact N
  · simp only [if_neg h0]
    rw [if_pos (.inl h0)]
    exact out _
theorem Core_prog (ds : M) (rs : List S49) : Ev (fun k => search_Core.f k ds rs) (corR ds rs) := by
  unfold search_Core.f corR
  refine Ev.bind1 (f := fun _ (s : List Int × Bool × Int) => if s.2.2 ≠ 0 ∨ s.2.1 = true then some ([], false, s.2.2) else if rs.all SF.okB && decide (0 < ds.length) && decide (ds.length ≤ 1000) && decide (rs.length ≤ 200) then some (DF.coreR ds [] (DF.numbered rs), true, 0) else none) (Solve_prog ds rs) ?_
  by_cases h : (solR ds rs).2.2 ≠ 0 ∨ (solR ds rs).2.1 = true
  · simp only [if_pos h]
    exact Ev.now _
  · simp only [if_neg h]
    have h0 : (solR ds rs).2.2 = 0 := Decidable.byContradiction fun hh => h (.inl hh)
    have hk := chk_ok (jg h0)
    rw [ok_guard hk, decide_eq_true hk.pos, decide_eq_true (show ds.length ≤ 1000 by have := hk.len; omega), decide_eq_true (show rs.length ≤ 200 by have := hk.rl; omega)]
    exact Ev.now _
def coreL (ds : M) : List (Int × S49) → List (Int × S49) → List (Int × S49)
  | kept, [] => kept
  | kept, r :: rest => if (sol (badB (kept.map (·.2) ++ rest.map (·.2))) ds []).isSome then coreL ds (kept ++ [r]) rest else coreL ds kept rest
theorem coreR_L (ds : M) : ∀ (rest kept : List (Int × S49)), coreR ds kept rest = (coreL ds kept rest).map (·.1)
  | [], kept => rfl
  | r :: rest, kept => by
    rw [coreR, coreL]
    split
    · exact coreR_L ds rest _
    · exact coreR_L ds rest _
theorem j5 (ds : M) : ∀ (rest kept : List (Int × S49)), (coreL ds kept rest).Sublist (kept ++ rest)
  | [], kept => by rw [coreL, List.append_nil]; exact List.Sublist.refl _
  | r :: rest, kept => by
    rw [coreL]
    split
    · have := j5 ds rest (kept ++ [r])
      rwa [List.append_assoc] at this
    · exact (j5 ds rest kept).trans (List.Sublist.append_left (List.sublist_cons_self r rest) kept)
theorem corR_len (ds : M) (rs : List S49) : (corR ds rs).1.length ≤ 4096 := by
  unfold corR
  split
  · exact Nat.zero_le _
  · rename_i h
    have h0 : (solR ds rs).2.2 = 0 := Decidable.byContradiction fun hh => h (.inl hh)
    have hk := chk_ok (jg h0)
    have := (j5 ds (numbered rs) []).length_le
    have e : (numbered rs).length = rs.length := by simp [numbered]
    have := hk.rl
    simp only [coreR_L, List.length_map, List.nil_append] at *
    omega
end Go.Proofs.Ytcbpkdemcdikaaa.QR
namespace Go.Proofs.Ytcbpkdemcdikaaa.Pure
open Go.RowKit Go.Proofs.Ytcbpkdemcdikaaa.X Go.Proofs.Ytcbpkdemcdikaaa.X.SF Go.Proofs.Ytcbpkdemcdikaaa.X.DF Go.Proofs.Ytcbpkdemcdikaaa.K Go.Proofs.YtcbpkdemcdikaaaW.PrintWords Go.Proofs.Ytcbpkdemcdikaaa.QB Go.Proofs.Ytcbpkdemcdikaaa.QC Go.Proofs.Ytcbpkdemcdikaaa.QP Go.Proofs.Ytcbpkdemcdikaaa.QK Go.Proofs.Ytcbpkdemcdikaaa.QS Go.Proofs.Ytcbpkdemcdikaaa.QX Go.Proofs.Ytcbpkdemcdikaaa.QR
set_option linter.unusedVariables false
set_option linter.unusedSimpArgs false
theorem SearchCoreSpec (aj : List (List Int)) (ag : List S49) : ∃ k, fastilaw15_SearchCoreSpec.f k aj ag = some true := by
  refine Ev.rounds ?_
  unfold fastilaw15_SearchCoreSpec.f
  refine Ev.bind (f := fun k t331 => _) (a := true) (Ev.now _) ?_
  simp only [if_true]
  obtain ⟨b, hb⟩ := few_ref aj ag
  refine Ev.bind hb ?_
  cases b
  · exact Ev.now _
  · simp only [if_true]
    refine Ev.bind (Core_prog aj ag) (Ev.bind (Core_ref aj ag) ?_)
    have S := same_ref (corR aj ag).1 (corR aj ag).1 (corR_len aj ag)
    rw [decide_eq_true rfl] at S
    refine Ev.bind S ?_
    simp only [if_true, beq_self_eq_true]
    exact Ev.now _
end Go.Proofs.Ytcbpkdemcdikaaa.Pure
