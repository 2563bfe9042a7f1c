/- Proved here: slices.Grow and slices.Concat at spans (CC) -/
import Derived.Test.YtpodgkmgameocaaDoorX0
import Derived.Test.YtpodgkmgameocaaDoorK
import Derived.Test.YtpodgkmgameocaaDoorX5
import Derived.Lib.AppendZerosOnto
import Derived.Maps.AppendAt
import Derived.Lib.Walk
import Derived.Lib.SliceRun
namespace Go.Proofs.YtpodgkmgameocaaDoor.X
open Go.RowKit Go.Proofs.YtpodgkmgameocaaDoorW.PrintWords Go.Proofs.YtpodgkmgameocaaDoorW.PrintLast Go.Proofs.YtpodgkmgameocaaDoorW.PrintMore
attribute [local go_sem] max2_int min2_int max_two min_two max_three min_three max_four min_four
set_option linter.unusedVariables false
set_option linter.unusedSimpArgs false
namespace CC
open Go.Proofs.YtpodgkmgameocaaDoor.K
attribute [local go_sem] Oper.semAt_some
def enc45 (s : S45) : List Value := [.int .i64 s.f0, .int .i64 s.f1]
set_option maxRecDepth 100000 in
set_option maxHeartbeats 4000000 in
theorem grow0_calls (w : World) : Calls Tryd.prog 51 #[.slice none 0 0, .int .i64 0] w fun e w' => e = .returned (.slice none 0 0) ∧ w' = w := by
  go_enter Tryd.func51, Tryd.ntmps51
  go_wp2_with fail
  exact bodyPost_ret (v := .slice none 0 0) (by simp [results, Tryd.results51, go_sem]) rfl ⟨rfl, rfl⟩
set_option maxRecDepth 100000 in
set_option maxHeartbeats 4000000 in
theorem grow_calls (n : Nat) (h0 : 0 < n) (h1 : n ≤ 1024) (w : World) : Calls Tryd.prog 51 #[.slice none 0 0, .int .i64 (n : Int)] w fun e w' => ∃ cap, e = .returned (.slice (some ⟨w.heap.size, 0, none⟩) 0 cap) ∧ w'.ownsRow w.heap.size 45 2 (.slice (some ⟨w.heap.size, 0, none⟩) 0 cap) 0 [] ∧ n ≤ cap ∧ Below w.heap.size w w' := by
  have hinfo := info45
  cases hi0 : Tryd.prog.info? 45 with
  | none => rw [hi0] at hinfo; cases hinfo
  | some i0 =>
  rw [hi0] at hinfo
  simp only [Option.map_some, Option.some.injEq, Prod.mk.injEq] at hinfo
  obtain ⟨hz0, hs0, hb0⟩ := hinfo
  have hrz : ∀ ty, (Builtin.append_ #[32, 3] ty #[.slice none 0 0, .int .i64 (n : Int)]).run Tryd.prog w = .ok (.slice (some ⟨w.heap.size, 0, none⟩) n (grownCap w n 0 45)) (w.drew.alloc (.cells (#[] ++ Builtin.zeroCells #[.int .i64 0, .int .i64 0] n ++ Builtin.zeroCells #[.int .i64 0, .int .i64 0] (grownCap w n 0 45 - n)) 45)) := fun ty => by
    have h := Lib.run_append_grow_zeros w 32 3 ty 45 i0 (.agg #[.int .i64 0, .int .i64 0]) .i64 .i64 (P := Tryd.prog) (by rfl) (by rfl) hi0 hz0 none 0 0 [] (run_firstCells_none w.drew i0.size 0 0 0) n h0 (by omega) (by omega) (by omega) (by rw [hb0]; omega) (by rw [hb0]; exact growslice_fits (by omega) (by omega))
    have hc : (Value.agg #[.int .i64 0, .int .i64 0]).cells = #[.int .i64 0, .int .i64 0] := by rfl
    rw [hc] at h
    simpa using h
  have hGn : n ≤ grownCap w n 0 45 := grownCap_ge w _ _ _
  have hGm : grownCap w n 0 45 ≤ maxLen := grownCap_le_maxLen w n 0 45 (by unfold maxLen; omega)
  obtain ⟨G, hG⟩ : ∃ G, G = grownCap w n 0 45 := ⟨_, rfl⟩
  rw [← hG] at hrz hGn hGm
  have hG9 : G ≤ 9223372036854775807 := by unfold maxLen at hGm; omega
  obtain ⟨cur, hcur⟩ : ∃ cur, #[] ++ Builtin.zeroCells #[.int .i64 0, .int .i64 0] n ++ Builtin.zeroCells #[.int .i64 0, .int .i64 0] (G - n) = cur := ⟨_, rfl⟩
  have hsz : cur.size = G * 2 := by
    rw [← hcur]
    simp only [Array.size_append, size_zeroCells]
    simp
    omega
  rw [hcur] at hrz
  have HG := Aside0.mk (And.intro hGm hsz)
  have k1 : ((n : Int) < 0) ↔ False := ⟨fun h => by omega, False.elim⟩
  have k2 : decide ((n : Int) < 0) = false := decide_eq_false (by omega)
  have k3 : decide ((n : Int) > 0) = true := decide_eq_true (by omega)
  clear hcur hsz hGm hG hi0 hz0 hs0 hb0
  go_enter Tryd.func51, Tryd.ntmps51
  go_wp2_with (at_builtin; refine Lib.wpList_append_run _ rfl _ _ _ _ rfl _ _ rfl rfl _ _ (hrz _) ?_)
  exact bodyPost_ret (v := .slice (some ⟨w.heap.size, 0, none⟩) 0 G) (by simp [results, Tryd.results51, go_sem]) rfl ⟨G, rfl, (World.ownsRow_made w cur G (Nat.le_refl _) HG.out.1 HG.out.2).drew, hGn, below_drew1 (below_alloc (Below.refl _ _) _)⟩
theorem growR (n : Nat) (h1 : n ≤ 1024) (w : World) : Calls Tryd.prog 51 #[.slice none 0 0, .int .i64 (n : Int)] w fun e w' => ∃ v, e = .returned v ∧ Kd.R k45 45 w' w.heap.size (fun _ => True) v [] ∧ Below w.heap.size w w' := by
  by_cases h0 : 0 < n
  · refine (grow_calls n h0 h1 w).mono ?_
    rintro e w' ⟨cap, rfl, ho, _, hb⟩
    exact ⟨_, rfl, ⟨fun _ _ => trivial, [], ho, Reps.none _ _⟩, hb⟩
  · obtain rfl : n = 0 := by omega
    refine (grow0_calls w).mono ?_
    rintro e w' ⟨rfl, rfl⟩
    exact ⟨_, rfl, Kd.R_nil _ _ _ _ _, Below.refl _ _⟩
def szAt (n0 n1 i : Int) : Int := if i = 0 then 0 else if i = 1 then n0 else n0 + n1
def prefAt (l0 l1 : List S45) (i : Int) : List S45 := if i = 0 then [] else if i = 1 then l0 else l0 ++ l1
set_option maxRecDepth 100000 in
set_option maxHeartbeats 8000000 in
theorem concat_calls (gx : Nat) (A0 : Option Addr) (c0 : Nat) (l0 : List S45) (A1 : Option Addr) (c1 : Nat) (l1 : List S45) (w : World) (hx : w.heap[gx]? = some (.cells #[.slice A0 l0.length c0, .slice A1 l1.length c1] 32 (0, 0)))
    (hr0 : Kd.C k45 w A0 l0.length l0) (hc0 : l0.length ≤ c0) (hr1 : Kd.C k45 w A1 l1.length l1) (hc1 : l1.length ≤ c1) (hl0 : l0.length ≤ 256) (hl1 : l1.length ≤ 256) :
    Calls Tryd.prog 45 #[.slice (some ⟨gx, 0, none⟩) 2 2] w fun e w' => ∃ v, e = .returned v ∧ Kd.R k45 45 w' w.heap.size (fun _ => True) v (l0 ++ l1) ∧ Below w.heap.size w w' := by
  have x0 := blk_cell hx 0
  have x1 := blk_cell hx 1
  simp only [List.getElem?_toArray, List.getElem?_cons_zero, List.getElem?_cons_succ] at x0 x1
  obtain ⟨n0, hn0⟩ : ∃ n0 : Nat, l0.length = n0 := ⟨_, rfl⟩
  obtain ⟨n1, hn1⟩ : ∃ n1 : Nat, l1.length = n1 := ⟨_, rfl⟩
  have HR0 := Aside0.mk hr0
  have HR1 := Aside0.mk hr1
  have HX := Aside0.mk hx
  have HN := Aside0.mk (And.intro hn0 hn1)
  rw [hn0] at x0 hl0 hc0
  rw [hn1] at x1 hl1 hc1
  clear hr0 hr1 hx hn0 hn1
  go_enter Tryd.func45, Tryd.ntmps45
  go_wp2_with fail
  refine wp_loop_ghost_k (fun q a W' => ∃ (i : Int) (u : Nat → Value), q = (2 - i).toNat ∧ (i = 0 ∨ i = 1 ∨ i = 2) ∧ W' = w ∧ a = { tmps := List.toArray ((.slice (some ⟨gx, 0, none⟩) 2 2 : Value) :: u 1 :: u 2 :: (.int .i64 (szAt n0 n1 i) : Value) :: u 4 :: u 5 :: u 6 :: u 7 :: u 8 :: (.slice (some ⟨gx, 0, none⟩) 2 2 : Value) :: (.int .i64 2 : Value) :: (.int .i64 i : Value) :: u 12 :: u 13 :: u 14 :: u 15 :: u 16 :: u 17 :: u 18 :: u 19 :: u 20 :: u 21 :: u 22 :: u 23 :: u 24 :: u 25 :: u 26 :: u 27 :: u 28 :: u 29 :: u 30 :: u 31 :: u 32 :: u 33 :: u 34 :: u 35 :: []), defers := [] }) 2 ?start ?round
  case start =>
    have sta : ∀ T : Array Value, T = List.toArray ((.slice (some ⟨gx, 0, none⟩) 2 2 : Value) :: T.getD 1 undef :: T.getD 2 undef :: (.int .i64 0 : Value) :: T.getD 4 undef :: T.getD 5 undef :: T.getD 6 undef :: T.getD 7 undef :: T.getD 8 undef :: (.slice (some ⟨gx, 0, none⟩) 2 2 : Value) :: (.int .i64 2 : Value) :: (.int .i64 0 : Value) :: T.getD 12 undef :: T.getD 13 undef :: T.getD 14 undef :: T.getD 15 undef :: T.getD 16 undef :: T.getD 17 undef :: T.getD 18 undef :: T.getD 19 undef :: T.getD 20 undef :: T.getD 21 undef :: T.getD 22 undef :: T.getD 23 undef :: T.getD 24 undef :: T.getD 25 undef :: T.getD 26 undef :: T.getD 27 undef :: T.getD 28 undef :: T.getD 29 undef :: T.getD 30 undef :: T.getD 31 undef :: T.getD 32 undef :: T.getD 33 undef :: T.getD 34 undef :: T.getD 35 undef :: []) → ∃ (i : Int) (u : Nat → Value), 2 = (2 - i).toNat ∧ (i = 0 ∨ i = 1 ∨ i = 2) ∧ w = w ∧ (Act.mk T []) = { tmps := List.toArray ((.slice (some ⟨gx, 0, none⟩) 2 2 : Value) :: u 1 :: u 2 :: (.int .i64 (szAt n0 n1 i) : Value) :: u 4 :: u 5 :: u 6 :: u 7 :: u 8 :: (.slice (some ⟨gx, 0, none⟩) 2 2 : Value) :: (.int .i64 2 : Value) :: (.int .i64 i : Value) :: u 12 :: u 13 :: u 14 :: u 15 :: u 16 :: u 17 :: u 18 :: u 19 :: u 20 :: u 21 :: u 22 :: u 23 :: u 24 :: u 25 :: u 26 :: u 27 :: u 28 :: u 29 :: u 30 :: u 31 :: u 32 :: u 33 :: u 34 :: u 35 :: []), defers := [] } := fun T hT =>
      ⟨0, fun i => T.getD i undef, rfl, .inl rfl, rfl, congrArg (fun T => (Act.mk T _)) hT⟩
    exact sta _ rfl
  case round =>
    rintro q a W' ⟨i, u, rfl, hii, hWW, rfl⟩ J K hJ hK
    obtain rfl : w = W' := hWW.symm
    clear hWW
    have fin : ∀ (i' : Int) (T : Array Value), (2 - i').toNat < (2 - i).toNat → (i' = 0 ∨ i' = 1 ∨ i' = 2) → T = List.toArray ((.slice (some ⟨gx, 0, none⟩) 2 2 : Value) :: T.getD 1 undef :: T.getD 2 undef :: (.int .i64 (szAt n0 n1 i') : Value) :: T.getD 4 undef :: T.getD 5 undef :: T.getD 6 undef :: T.getD 7 undef :: T.getD 8 undef :: (.slice (some ⟨gx, 0, none⟩) 2 2 : Value) :: (.int .i64 2 : Value) :: (.int .i64 i' : Value) :: T.getD 12 undef :: T.getD 13 undef :: T.getD 14 undef :: T.getD 15 undef :: T.getD 16 undef :: T.getD 17 undef :: T.getD 18 undef :: T.getD 19 undef :: T.getD 20 undef :: T.getD 21 undef :: T.getD 22 undef :: T.getD 23 undef :: T.getD 24 undef :: T.getD 25 undef :: T.getD 26 undef :: T.getD 27 undef :: T.getD 28 undef :: T.getD 29 undef :: T.getD 30 undef :: T.getD 31 undef :: T.getD 32 undef :: T.getD 33 undef :: T.getD 34 undef :: T.getD 35 undef :: []) → Handed J (2 - i).toNat { tmps := T, defers := [] } w := fun i' T h1 h2 hT =>
      ⟨(2 - i').toNat, h1, hJ _ _ _ ⟨i', fun i => T.getD i undef, rfl, h2, rfl, congrArg (fun T => (Act.mk T _)) hT⟩⟩
    rcases hii with rfl | rfl | rfl
    · rw [show szAt n0 n1 0 = 0 from rfl]
      have k1 : decide ((n0 : Int) < 0) = false := decide_eq_false (by omega)
      go_wp2_with fail
      exact fin 1 _ (by decide) (by omega) rfl
    · rw [show szAt n0 n1 1 = (n0 : Int) from rfl]
      have k1 : decide ((n0 : Int) + (n1 : Int) < 0) = false := decide_eq_false (by omega)
      go_wp2_with fail
      exact fin 2 _ (by decide) (by omega) rfl
    · obtain ⟨n, hn⟩ : ∃ n : Nat, (n0 : Int) + (n1 : Int) = (n : Int) := ⟨n0 + n1, by omega⟩
      rw [show szAt n0 n1 2 = (n0 : Int) + (n1 : Int) from rfl, hn]
      have hnn : n ≤ 1024 := by omega
      clear fin hJ hn
      go_wp2_with fail
      refine (growR n hnn w).mono ?_
      rintro e w1 ⟨v6, rfl, ho, hb⟩
      have HO := Aside0.mk ho
      have HB := Aside0.mk hb
      have y0 : w1.cell? ⟨gx, 0, none⟩ = some (.slice A0 n0 c0) := by
        have h := blk_cell (blk_below HX.out hb) 0
        simp only [List.getElem?_toArray, List.getElem?_cons_zero] at h
        rw [HN.out.1] at h
        exact h
      clear ho hb x0 x1 y0
      go_wp2_with fail
      refine wp_loop_ghost_k (fun q a W' => ∃ (i : Int) (v : Value) (u : Nat → Value), q = (2 - i).toNat ∧ (i = 0 ∨ i = 1 ∨ i = 2) ∧ Kd.R k45 45 W' w.heap.size (fun _ => True) v (prefAt l0 l1 i) ∧ Below w.heap.size w W' ∧ a = { tmps := List.toArray ((.slice (some ⟨gx, 0, none⟩) 2 2 : Value) :: u 1 :: u 2 :: u 3 :: u 4 :: u 5 :: (v : Value) :: u 7 :: u 8 :: u 9 :: u 10 :: u 11 :: u 12 :: u 13 :: u 14 :: u 15 :: u 16 :: u 17 :: u 18 :: u 19 :: u 20 :: u 21 :: u 22 :: u 23 :: u 24 :: (.slice (some ⟨gx, 0, none⟩) 2 2 : Value) :: (.int .i64 2 : Value) :: (.int .i64 i : Value) :: u 28 :: u 29 :: u 30 :: u 31 :: u 32 :: u 33 :: u 34 :: u 35 :: []), defers := [] }) 2 ?start2 ?round2
      case start2 =>
        have sta : ∀ T : Array Value, T = List.toArray ((.slice (some ⟨gx, 0, none⟩) 2 2 : Value) :: T.getD 1 undef :: T.getD 2 undef :: T.getD 3 undef :: T.getD 4 undef :: T.getD 5 undef :: (v6 : Value) :: T.getD 7 undef :: T.getD 8 undef :: T.getD 9 undef :: T.getD 10 undef :: T.getD 11 undef :: T.getD 12 undef :: T.getD 13 undef :: T.getD 14 undef :: T.getD 15 undef :: T.getD 16 undef :: T.getD 17 undef :: T.getD 18 undef :: T.getD 19 undef :: T.getD 20 undef :: T.getD 21 undef :: T.getD 22 undef :: T.getD 23 undef :: T.getD 24 undef :: (.slice (some ⟨gx, 0, none⟩) 2 2 : Value) :: (.int .i64 2 : Value) :: (.int .i64 0 : Value) :: T.getD 28 undef :: T.getD 29 undef :: T.getD 30 undef :: T.getD 31 undef :: T.getD 32 undef :: T.getD 33 undef :: T.getD 34 undef :: T.getD 35 undef :: []) → ∃ (i : Int) (v : Value) (u : Nat → Value), 2 = (2 - i).toNat ∧ (i = 0 ∨ i = 1 ∨ i = 2) ∧ Kd.R k45 45 w1 w.heap.size (fun _ => True) v (prefAt l0 l1 i) ∧ Below w.heap.size w w1 ∧ (Act.mk T []) = { tmps := List.toArray ((.slice (some ⟨gx, 0, none⟩) 2 2 : Value) :: u 1 :: u 2 :: u 3 :: u 4 :: u 5 :: (v : Value) :: u 7 :: u 8 :: u 9 :: u 10 :: u 11 :: u 12 :: u 13 :: u 14 :: u 15 :: u 16 :: u 17 :: u 18 :: u 19 :: u 20 :: u 21 :: u 22 :: u 23 :: u 24 :: (.slice (some ⟨gx, 0, none⟩) 2 2 : Value) :: (.int .i64 2 : Value) :: (.int .i64 i : Value) :: u 28 :: u 29 :: u 30 :: u 31 :: u 32 :: u 33 :: u 34 :: u 35 :: []), defers := [] } := fun T hT =>
          ⟨0, v6, fun i => T.getD i undef, rfl, .inl rfl, HO.out, HB.out, congrArg (fun T => (Act.mk T _)) hT⟩
        exact sta _ rfl
      case round2 =>
        clear HO HB
        rintro q a W' ⟨i, v, y, rfl, hii, ho, hb, rfl⟩ J' K' hJ' hK'
        have HO := Aside0.mk ho
        have HB := Aside0.mk hb
        have fin : ∀ (i' : Int) (v' : Value) (W2 : World) (T : Array Value), (2 - i').toNat < (2 - i).toNat → (i' = 0 ∨ i' = 1 ∨ i' = 2) → Kd.R k45 45 W2 w.heap.size (fun _ => True) v' (prefAt l0 l1 i') → Below w.heap.size w W2 → T = List.toArray ((.slice (some ⟨gx, 0, none⟩) 2 2 : Value) :: T.getD 1 undef :: T.getD 2 undef :: T.getD 3 undef :: T.getD 4 undef :: T.getD 5 undef :: (v' : Value) :: T.getD 7 undef :: T.getD 8 undef :: T.getD 9 undef :: T.getD 10 undef :: T.getD 11 undef :: T.getD 12 undef :: T.getD 13 undef :: T.getD 14 undef :: T.getD 15 undef :: T.getD 16 undef :: T.getD 17 undef :: T.getD 18 undef :: T.getD 19 undef :: T.getD 20 undef :: T.getD 21 undef :: T.getD 22 undef :: T.getD 23 undef :: T.getD 24 undef :: (.slice (some ⟨gx, 0, none⟩) 2 2 : Value) :: (.int .i64 2 : Value) :: (.int .i64 i' : Value) :: T.getD 28 undef :: T.getD 29 undef :: T.getD 30 undef :: T.getD 31 undef :: T.getD 32 undef :: T.getD 33 undef :: T.getD 34 undef :: T.getD 35 undef :: []) → Handed J' (2 - i).toNat { tmps := T, defers := [] } W2 := fun i' v' W2 T h1 h2 h3 h4 hT =>
          ⟨(2 - i').toNat, h1, hJ' _ _ _ ⟨i', v', fun i => T.getD i undef, rfl, h2, h3, h4, congrArg (fun T => (Act.mk T _)) hT⟩⟩
        have x0 := blk_cell (blk_below HX.out hb) 0
        have x1 := blk_cell (blk_below HX.out hb) 1
        simp only [List.getElem?_toArray, List.getElem?_cons_zero, List.getElem?_cons_succ] at x0 x1
        rw [HN.out.1] at x0
        rw [HN.out.2] at x1
        clear ho hb
        rcases hii with rfl | rfl | rfl
        · go_wp2_with ((at_builtin; refine Kd.R_append_rows k45 (w0 := w) w.heap.size rfl (.tmp 31) (.tmp 32) 32 45 (.agg #[(.int .i64 0), (.int .i64 0)]) 16 rfl Tryd.underlying32 info45 rfl (by decide) (by omega) v [] l0 _ _ _ (fun _ => True) (fun _ => False) rfl rfl HO.out (by have h := Kd.C_below HR0.out HB.out; rw [HN.out.1] at h; exact h) (fun _ _ h => h) (fun _ h => h.elim) (fun _ _ => trivial) HB.out HB.out.size (by simp; omega) ?_; intro v1 w2 ho hb _ _))
          exact fin 1 _ _ _ (by decide) (by omega) ho hb rfl
        · go_wp2_with ((at_builtin; refine Kd.R_append_rows k45 (w0 := w) w.heap.size rfl (.tmp 31) (.tmp 32) 32 45 (.agg #[(.int .i64 0), (.int .i64 0)]) 16 rfl Tryd.underlying32 info45 rfl (by decide) (by omega) v l0 l1 _ _ _ (fun _ => True) (fun _ => False) rfl rfl HO.out (by have h := Kd.C_below HR1.out HB.out; rw [HN.out.2] at h; exact h) (fun _ _ h => h) (fun _ h => h.elim) (fun _ _ => trivial) HB.out HB.out.size (by have := HN.out.1; omega) ?_; intro v1 w2 ho hb _ _))
          exact fin 2 _ _ _ (by decide) (by omega) ho hb rfl
        · go_wp2_with fail
          exact bodyPost_ret (v := v) (by simp [results, Tryd.results45, go_sem]) rfl ⟨v, rfl, HO.out, HB.out⟩
end CC
end Go.Proofs.YtpodgkmgameocaaDoor.X
