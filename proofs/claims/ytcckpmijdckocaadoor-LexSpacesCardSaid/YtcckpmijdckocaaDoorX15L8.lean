/- Proved here: for functions of the program and of the reference, what each call returns (theorems '.calls'), under the conditions that each theorem names. Printed by this project's own driver over the kit's printer; parts marked EXT are written by hand. Lean checks it. -/
import Derived.Test.YtcckpmijdckocaaDoorX0
import Derived.Test.YtcckpmijdckocaaDoorX4
import Derived.Test.YtcckpmijdckocaaDoorX7
import Derived.Test.YtcckpmijdckocaaDoorX8
import Derived.Test.YtcckpmijdckocaaDoorX9
import Derived.Test.YtcckpmijdckocaaDoorXLex
import Derived.Test.YtcckpmijdckocaaDoorX15
namespace Go.Proofs.YtcckpmijdckocaaDoor.X
open Go.RowKit Go.Proofs.YtcckpmijdckocaaDoorW.PrintWords Go.Proofs.YtcckpmijdckocaaDoorW.PrintLast Go.Proofs.YtcckpmijdckocaaDoorW.PrintMore
attribute [local go_sem] max2_int min2_int max_two min_two max_three min_three max_four min_four   -- for this text's walks alone
set_option linter.unusedVariables false
set_option linter.unusedSimpArgs false

-- IMPORTS: Derived.Test.YtcckpmijdckocaaDoorXLex
/-! ### fastilaw03_LexSpaces: function 8 -/
mutual
def fastilaw03_LexSpaces.j0 : Nat → List (S35) → List Int → ByteArray → Bool → Option (Bool)
  | 0, _, _, _, _ => none
  | k + 1, x0, x1, x2, x30 => if x30 = true then (some true) else (fastilaw03_LexSpaces.l0 k x0 x1 x2 (⟨#[]⟩ : ByteArray) 0)
def fastilaw03_LexSpaces.l0 : Nat → List (S35) → List Int → ByteArray → ByteArray → Int → Option (Bool)
  | 0, _, _, _, _, _ => none
  | k + 1, x0, x1, x2, x7, x8 => if x8 < (x2.size : Int) then (if 0 ≤ x8 then (if (bt x2 x8) = 10 then (fastilaw03_LexSpaces.l0 k x0 x1 x2 x7 (wrap64 (x8 + 1))) else (if x8 ≤ (wrap64 (x8 + 1)) then (if (wrap64 (x8 + 1)) ≤ (x2.size : Int) then (if x7.size + (x2.extract (x8 : Int).toNat ((wrap64 (x8 + 1)) : Int).toNat).size ≤ 9223372036854775807 then (fastilaw03_LexSpaces.l0 k x0 x1 x2 (x7 ++ (x2.extract (x8 : Int).toNat ((wrap64 (x8 + 1)) : Int).toNat)) (wrap64 (x8 + 1))) else (none)) else (none)) else (none))) else (none)) else (if 2 + x7.size ≤ 9223372036854775807 then (if ((⟨#[47, 47]⟩ : ByteArray) ++ x7).size + 1 ≤ 9223372036854775807 then (fastilaw03_LexSpaces.l1 k x0 x1 (([(⟨#[32]⟩ : ByteArray), (⟨#[9]⟩ : ByteArray), (⟨#[10]⟩ : ByteArray), (⟨#[13, 10]⟩ : ByteArray), (⟨#[32, 32]⟩ : ByteArray), ((⟨#[47, 47]⟩ : ByteArray) ++ x7) ++ (⟨#[10]⟩ : ByteArray), (⟨#[32, 47, 47, 32, 10]⟩ : ByteArray), (⟨#[10, 47, 47, 10]⟩ : ByteArray)] : List ByteArray)) (⟨#[10]⟩ : ByteArray) x0 (x0.length : Int) 0) else (none)) else (none))
def fastilaw03_LexSpaces.l1 : Nat → List (S35) → List Int → List ByteArray → ByteArray → List (S35) → Int → Int → Option (Bool)
  | 0, _, _, _, _, _, _, _ => none
  | k + 1, x0, x1, x9, x10, x52, x53, x54 => if x54 < x53 then (if 0 ≤ x54 then (if x54 < (x52.length : Int) then ((lex_Text.f k (([(⟨(rd_T35 x52 x54).f0, (rd_T35 x52 x54).f1, (rd_T35 x52 x54).f2, (rd_T35 x52 x54).f3⟩ : S35)] : List (S35)))).bind fun bt361 => (if bt361.2 = 0 then (if x54 < (x1.length : Int) then (if (x9.length : Int) = 0 then (none) else (if 0 ≤ (Int.tmod (wrap64 (rd x1 x54)) (x9.length : Int)) then (if (Int.tmod (wrap64 (rd x1 x54)) (x9.length : Int)) < (x9.length : Int) then (if bt361.1.size + 1 ≤ 9223372036854775807 then (if (bt361.1 ++ (⟨#[32]⟩ : ByteArray)).size + (rdOf ByteArray.empty x9 (Int.tmod (wrap64 (rd x1 x54)) (x9.length : Int))).size ≤ 9223372036854775807 then (if x10.size + ((bt361.1 ++ (⟨#[32]⟩ : ByteArray)) ++ (rdOf ByteArray.empty x9 (Int.tmod (wrap64 (rd x1 x54)) (x9.length : Int)))).size ≤ 9223372036854775807 then (fastilaw03_LexSpaces.l1 k x0 x1 x9 (x10 ++ ((bt361.1 ++ (⟨#[32]⟩ : ByteArray)) ++ (rdOf ByteArray.empty x9 (Int.tmod (wrap64 (rd x1 x54)) (x9.length : Int))))) x52 x53 (wrap64 (x54 + 1))) else (none)) else (none)) else (none)) else (none)) else (none))) else (if bt361.1.size + 1 ≤ 9223372036854775807 then (if (bt361.1 ++ (⟨#[32]⟩ : ByteArray)).size + 1 ≤ 9223372036854775807 then (if x10.size + ((bt361.1 ++ (⟨#[32]⟩ : ByteArray)) ++ (⟨#[32]⟩ : ByteArray)).size ≤ 9223372036854775807 then (fastilaw03_LexSpaces.l1 k x0 x1 x9 (x10 ++ ((bt361.1 ++ (⟨#[32]⟩ : ByteArray)) ++ (⟨#[32]⟩ : ByteArray))) x52 x53 (wrap64 (x54 + 1))) else (none)) else (none)) else (none))) else ((lex_Text.f k x0).bind fun bt365 => (some (bt365.2 == 30))))) else (none)) else (none)) else ((lex_Lex.f x10).bind fun bt350 => (if bt350.2.2 = 0 then (if bt350.2.1 = 0 then ((lex_Same.f x0 bt350.1).bind fun t355 => (some t355)) else (some false)) else (some false)))
end
def fastilaw03_LexSpaces.f (k : Nat) (l0 : List (S35)) (l1 : List Int) (a2 : ByteArray) : Option (Bool) := (fastilaw03_sane.f k).bind fun t345 => (if t345 = true then ((fastiref03_Few.f k l0).bind fun t346 => (if t346 = true then (fastilaw03_LexSpaces.j0 k l0 l1 a2 (decide ((a2.size : Int) > 100))) else (fastilaw03_LexSpaces.j0 k l0 l1 a2 true))) else (some false))
theorem fastilaw03_LexSpaces.mono_l : ∀ k, (∀ y0 y1 y2 y3, LeO (fastilaw03_LexSpaces.j0 k y0 y1 y2 y3) (fastilaw03_LexSpaces.j0 (k + 1) y0 y1 y2 y3)) ∧ (∀ y0 y1 y2 y3 y4, LeO (fastilaw03_LexSpaces.l0 k y0 y1 y2 y3 y4) (fastilaw03_LexSpaces.l0 (k + 1) y0 y1 y2 y3 y4)) ∧ (∀ y0 y1 y2 y3 y4 y5 y6, LeO (fastilaw03_LexSpaces.l1 k y0 y1 y2 y3 y4 y5 y6) (fastilaw03_LexSpaces.l1 (k + 1) y0 y1 y2 y3 y4 y5 y6))
  | 0 => ⟨fun _ _ _ _ r h => by simp [fastilaw03_LexSpaces.j0] at h, fun _ _ _ _ _ r h => by simp [fastilaw03_LexSpaces.l0] at h, fun _ _ _ _ _ _ _ r h => by simp [fastilaw03_LexSpaces.l1] at h⟩
  | k + 1 => by
    obtain ⟨ih0, ih1, ih2⟩ := fastilaw03_LexSpaces.mono_l k
    refine ⟨?_, ?_, ?_⟩
    · intro y0 y1 y2 y3
      unfold fastilaw03_LexSpaces.j0
      repeat' first
      | (with_reducible exact ih0 _ _ _ _)
      | (with_reducible exact ih1 _ _ _ _ _)
      | (with_reducible exact ih2 _ _ _ _ _ _ _)
      | (with_reducible exact fastilaw03_sane.mono _)
      | (with_reducible exact fastiref03_Few.mono _ _)
      | (with_reducible exact lex_Text.mono _ _)
      | (with_reducible exact LeO.refl _)
      | (with_reducible exact LeO.none _)
      | (with_reducible refine LeO.ite ?_ ?_)
      | (with_reducible refine LeO.bind ?_ (fun _ => ?_))
      | exact ih0 _ _ _ _
      | exact ih1 _ _ _ _ _
      | exact ih2 _ _ _ _ _ _ _
      | exact fastilaw03_sane.mono _
      | exact fastiref03_Few.mono _ _
      | exact lex_Text.mono _ _
      | exact LeO.none _
      | refine LeO.ite ?_ ?_
      | refine LeO.bind ?_ (fun _ => ?_)
    · intro y0 y1 y2 y3 y4
      unfold fastilaw03_LexSpaces.l0
      repeat' first
      | (with_reducible exact ih0 _ _ _ _)
      | (with_reducible exact ih1 _ _ _ _ _)
      | (with_reducible exact ih2 _ _ _ _ _ _ _)
      | (with_reducible exact fastilaw03_sane.mono _)
      | (with_reducible exact fastiref03_Few.mono _ _)
      | (with_reducible exact lex_Text.mono _ _)
      | (with_reducible exact LeO.refl _)
      | (with_reducible exact LeO.none _)
      | (with_reducible refine LeO.ite ?_ ?_)
      | (with_reducible refine LeO.bind ?_ (fun _ => ?_))
      | exact ih0 _ _ _ _
      | exact ih1 _ _ _ _ _
      | exact ih2 _ _ _ _ _ _ _
      | exact fastilaw03_sane.mono _
      | exact fastiref03_Few.mono _ _
      | exact lex_Text.mono _ _
      | exact LeO.none _
      | refine LeO.ite ?_ ?_
      | refine LeO.bind ?_ (fun _ => ?_)
    · intro y0 y1 y2 y3 y4 y5 y6
      unfold fastilaw03_LexSpaces.l1
      repeat' first
      | (with_reducible exact ih0 _ _ _ _)
      | (with_reducible exact ih1 _ _ _ _ _)
      | (with_reducible exact ih2 _ _ _ _ _ _ _)
      | (with_reducible exact fastilaw03_sane.mono _)
      | (with_reducible exact fastiref03_Few.mono _ _)
      | (with_reducible exact lex_Text.mono _ _)
      | (with_reducible exact LeO.refl _)
      | (with_reducible exact LeO.none _)
      | (with_reducible refine LeO.ite ?_ ?_)
      | (with_reducible refine LeO.bind ?_ (fun _ => ?_))
      | exact ih0 _ _ _ _
      | exact ih1 _ _ _ _ _
      | exact ih2 _ _ _ _ _ _ _
      | exact fastilaw03_sane.mono _
      | exact fastiref03_Few.mono _ _
      | exact lex_Text.mono _ _
      | exact LeO.none _
      | refine LeO.ite ?_ ?_
      | refine LeO.bind ?_ (fun _ => ?_)
theorem fastilaw03_LexSpaces.mono : ∀ a0 a1 a2 k, LeO (fastilaw03_LexSpaces.f k a0 a1 a2) (fastilaw03_LexSpaces.f (k + 1) a0 a1 a2) := by
  intro a0 a1 a2 k
  obtain ⟨ih0, ih1, ih2⟩ := fastilaw03_LexSpaces.mono_l k
  unfold fastilaw03_LexSpaces.f
  repeat' first
      | (with_reducible exact ih0 _ _ _ _)
      | (with_reducible exact ih1 _ _ _ _ _)
      | (with_reducible exact ih2 _ _ _ _ _ _ _)
      | (with_reducible exact fastilaw03_sane.mono _)
      | (with_reducible exact fastiref03_Few.mono _ _)
      | (with_reducible exact lex_Text.mono _ _)
      | (with_reducible exact LeO.refl _)
      | (with_reducible exact LeO.none _)
      | (with_reducible refine LeO.ite ?_ ?_)
      | (with_reducible refine LeO.bind ?_ (fun _ => ?_))
      | exact ih0 _ _ _ _
      | exact ih1 _ _ _ _ _
      | exact ih2 _ _ _ _ _ _ _
      | exact fastilaw03_sane.mono _
      | exact fastiref03_Few.mono _ _
      | exact lex_Text.mono _ _
      | exact LeO.none _
      | refine LeO.ite ?_ ?_
      | refine LeO.bind ?_ (fun _ => ?_)
set_option maxHeartbeats 8000000 in
set_option maxRecDepth 100000 in
theorem fastilaw03_LexSpaces.calls (k : Nat) (A0 : Option Addr) (c0 : Nat) (l0 : List (S35)) (A1 : Option Addr) (c1 : Nat) (l1 : List Int) (a2 : ByteArray) (r : Bool) (w : World) (hgl : GX.Glob w) (hr0 : Kd.C k35 w A0 l0.length l0) (hc0 : l0.length ≤ c0) (hr1 : Kd.C (Kd.int .u8) w A1 l1.length l1) (hc1 : l1.length ≤ c1) (h : fastilaw03_LexSpaces.f k l0 l1 a2 = some r) :
    Calls Tryd.prog 8 #[.slice A0 l0.length c0, .slice A1 l1.length c1, .string a2] w fun e w' => e = .returned (.bool r) ∧ Below w.heap.size w w' := by
  have HGL := Aside0.mk hgl
  clear hgl
  have hu35 := Tryd.underlying35
  have HR0 := Aside0.mk hr0
  have HC0 := Aside0.mk hc0
  clear hr0 hc0
  have HR1 := Aside0.mk hr1
  have HC1 := Aside0.mk hc1
  clear hr1 hc1
  have HB := Aside0.mk (Below.refl w.heap.size w)
  have H : ((fastilaw03_sane.f k).bind fun t345 => (if t345 = true then ((fastiref03_Few.f k l0).bind fun t346 => (if t346 = true then (fastilaw03_LexSpaces.j0 k l0 l1 a2 (decide ((a2.size : Int) > 100))) else (fastilaw03_LexSpaces.j0 k l0 l1 a2 true))) else (some false))) = some r := h
  clear h
  replace H := Option.bind_eq_some_iff.mp H
  obtain ⟨t345, A40, H⟩ := H
  replace H : (if t345 = true then ((fastiref03_Few.f k l0).bind fun t346 => (if t346 = true then (fastilaw03_LexSpaces.j0 k l0 l1 a2 (decide ((a2.size : Int) > 100))) else (fastilaw03_LexSpaces.j0 k l0 l1 a2 true))) else (some false)) = some r := H
  have A4 := Aside0.mk A40
  clear A40
  by_cases c5 : t345 = true
  · subst c5
    have H1 : ((fastiref03_Few.f k l0).bind fun t346 => (if t346 = true then (fastilaw03_LexSpaces.j0 k l0 l1 a2 (decide ((a2.size : Int) > 100))) else (fastilaw03_LexSpaces.j0 k l0 l1 a2 true))) = some r := by rw [if_pos rfl] at H; exact H
    clear H
    have H := H1
    clear H1
    have HC6 := Aside0.mk H
    clear H
    go_enter Tryd.func8, Tryd.ntmps8
    go_upto_region 3 with (first | ((with_reducible refine gate_callee (f := 11) rfl ?_); refine goesL_ (some 21) rfl rfl Tryd.func11 (by kernel_rfl) rfl #[] rfl (by (try simp only [List.map_toArray, List.map_cons, List.map_nil]); first | done | rfl | (simp only [List.length_drop, List.length_take]; rfl)) ?_; (with_reducible refine (fastilaw03_sane.calls k  true _ (GX.gl HGL.out (by repeat (first | (with_reducible first | exact HB.out | apply below_alloc | apply pw_below_drewN | apply below_drew1) | exact HB.out))) A4.out).mono ?_); rintro e w7 ⟨rfl, hb⟩; refine ⟨_, rfl, ?_⟩; have n0_ := Aside0.mk (below_step (by repeat (first | (with_reducible first | exact HB.out | apply below_alloc | apply pw_below_drewN | apply below_drew1) | exact HB.out)) hb); clear HB; have HB := n0_; clear n0_; (try clear hb); (try clear hb2); (try clear hk); (try clear hi)))
    (try simp only [Act.put, List.setIfInBounds_toArray, List.set_cons_zero, List.set_cons_succ])
    go_cut [30] (fun v30 wc => ∃ (kq : Nat) (x30_5 : Bool), v30 = .bool x30_5 ∧ Aside0 (fastilaw03_LexSpaces.j0 kq l0 l1 a2 x30_5 = some r) ∧ Aside0 (kq ≤ k) ∧ Aside0 (Below w.heap.size w wc))
    case first =>
      have H := HC6.out
      clear HC6
      replace H := Option.bind_eq_some_iff.mp H
      obtain ⟨t346, A80, H⟩ := H
      replace H : (if t346 = true then (fastilaw03_LexSpaces.j0 k l0 l1 a2 (decide ((a2.size : Int) > 100))) else (fastilaw03_LexSpaces.j0 k l0 l1 a2 true)) = some r := H
      have A8 := Aside0.mk A80
      clear A80
      by_cases c9 : t346 = true
      · subst c9
        have H1 : (fastilaw03_LexSpaces.j0 k l0 l1 a2 (decide ((a2.size : Int) > 100))) = some r := by rw [if_pos rfl] at H; exact H
        clear H
        have H := H1
        clear H1
        have H' := Aside0.mk H
        clear H
        go_wp2_with (first | ((with_reducible refine gate_callee (f := 15) rfl ?_); refine goesL_ (some 24) rfl rfl Tryd.func15 (by kernel_rfl) rfl #[.slice A0 l0.length c0] rfl (by (try simp only [List.map_toArray, List.map_cons, List.map_nil]); first | done | rfl | (simp only [List.length_drop, List.length_take]; rfl)) ?_; (with_reducible refine (fastiref03_Few.calls k _ _ l0 true _ ?side1 ?side2 A8.out).mono ?_); (case side1 => repeat (first | exact (Kd.C_below HR0.out HB.out) | (with_reducible refine Kd.C_alloc ?_ _) | (with_reducible refine Kd.C_drewN ?_ _) | (with_reducible refine Kd.C_drew ?_))); (case side2 => exact HC0.out); rintro e w' ⟨rfl, ⟨nd, rfl⟩⟩; refine ⟨_, rfl, ?_⟩))
        go_meet
        case rel => exact ⟨_, (decide ((a2.size : Int) > 100)), (by first | rfl | (simp; done) | (simp [*]; done)), H', ⟨by first | omega | exact Nat.le_refl _⟩, ⟨by repeat (first | (with_reducible first | exact HB.out | apply below_alloc | apply pw_below_drewN | apply below_drew1) | exact HB.out)⟩⟩
      · replace c9 := Bool.eq_false_iff.mpr c9
        subst c9
        have H1 : (fastilaw03_LexSpaces.j0 k l0 l1 a2 true) = some r := by rw [if_neg (show ¬ (false = true) by decide)] at H; exact H
        clear H
        have H := H1
        clear H1
        have H' := Aside0.mk H
        clear H
        go_wp2_with (first | ((with_reducible refine gate_callee (f := 15) rfl ?_); refine goesL_ (some 24) rfl rfl Tryd.func15 (by kernel_rfl) rfl #[.slice A0 l0.length c0] rfl (by (try simp only [List.map_toArray, List.map_cons, List.map_nil]); first | done | rfl | (simp only [List.length_drop, List.length_take]; rfl)) ?_; (with_reducible refine (fastiref03_Few.calls k _ _ l0 false _ ?side1 ?side2 A8.out).mono ?_); (case side1 => repeat (first | exact (Kd.C_below HR0.out HB.out) | (with_reducible refine Kd.C_alloc ?_ _) | (with_reducible refine Kd.C_drewN ?_ _) | (with_reducible refine Kd.C_drew ?_))); (case side2 => exact HC0.out); rintro e w' ⟨rfl, ⟨nd, rfl⟩⟩; refine ⟨_, rfl, ?_⟩))
        go_meet
        case rel => exact ⟨_, (true), (by first | rfl | (simp; done) | (simp [*]; done)), H', ⟨by first | omega | exact Nat.le_refl _⟩, ⟨by repeat (first | (with_reducible first | exact HB.out | apply below_alloc | apply pw_below_drewN | apply below_drew1) | exact HB.out)⟩⟩
    case rest =>
      clear HC6
      try clear c1
      try clear p2
      try clear c5
      try clear c8
      try clear c9
      obtain ⟨kq, x30_5, rfl, HA, HJ5, HB⟩ := hcut
      cases kq with
      | zero => exact absurd HA.out (by simp [fastilaw03_LexSpaces.j0])
      | succ kj5 =>
        have H := HA.out
        clear HA
        simp only [fastilaw03_LexSpaces.j0] at H
        by_cases c10 : x30_5 = true
        · subst c10
          have H1 : (some true) = some r := by rw [if_pos rfl] at H; exact H
          clear H
          have H := H1
          clear H1
          obtain rfl := Option.some.inj H
          go_wp2
          go_ret
          exact ⟨by first | rfl | (simp [errW_none, errW_some] <;> rfl) | (simp [*, errW_none, errW_some] <;> rfl), by repeat (first | (with_reducible first | exact HB.out | apply below_alloc | apply pw_below_drewN | apply below_drew1) | exact HB.out)⟩
        · replace c10 := Bool.eq_false_iff.mpr c10
          subst c10
          have H1 : (fastilaw03_LexSpaces.l0 kj5 l0 l1 a2 (⟨#[]⟩ : ByteArray) 0) = some r := by rw [if_neg (show ¬ (false = true) by decide)] at H; exact H
          clear H
          have H := H1
          clear H1
          have H' := Aside0.mk H
          clear H
          go_wp2
          go_loopg [7, 8] kj5 (fun kq v7 v8 w' => ∃ (x7_2 : ByteArray) (x8_2 : Int), v7 = .string x7_2 ∧ v8 = .int .i64 x8_2 ∧ Aside0 (fastilaw03_LexSpaces.l0 kq l0 l1 a2 x7_2 x8_2 = some r) ∧ Aside0 (kq ≤ kj5) ∧ Aside0 (Below w.heap.size w w'))
          case atStart => exact ⟨((⟨#[]⟩ : ByteArray)), (0), (by first | rfl | (simp; done) | (simp [*]; done)), (by first | rfl | (simp; done) | (simp [*]; done)), H', ⟨Nat.le_refl _⟩, ⟨by repeat (first | (with_reducible first | exact HB.out | apply below_alloc | apply pw_below_drewN | apply below_drew1) | exact HB.out)⟩⟩
          case round =>
            clear H'
            try clear c1
            try clear p2
            try clear c5
            try clear c8
            try clear c9
            try clear c10
            try clear p2
            obtain ⟨x7_2, x8_2, rfl, rfl, HA, HK2, HB⟩ := hrel
            cases gk with
            | zero => exact absurd HA.out (by simp [fastilaw03_LexSpaces.l0])
            | succ k2 =>
              have H := HA.out
              clear HA
              simp only [fastilaw03_LexSpaces.l0] at H
              by_cases c11 : x8_2 < (a2.size : Int)
              · rw [if_pos c11] at H
                have c11b0 : decide (x8_2 < (a2.size : Int)) = true := decide_eq_true c11
                clear c11
                by_cases c12 : 0 ≤ x8_2
                · rw [if_pos c12] at H
                  have c12b0 : decide (0 ≤ x8_2) = true := decide_eq_true c12
                  clear c12
                  by_cases c14 : (bt a2 x8_2) = 10
                  · rw [if_pos c14] at H
                    have c14b0 : ((bt a2 x8_2) == 10) = true := beq_iff_eq.mpr c14
                    have c14b1 : ((bt a2 x8_2) != 10) = false := bne_eq_false_iff_eq.mpr c14
                    clear c14
                    have H' := Aside0.mk H
                    clear H
                    have p13 : 0 ≤ (x8_2 : Int) := of_decide_eq_true (by first | (with_reducible assumption) | assumption)
                    have q13 : x8_2 < (a2.size : Int) := of_decide_eq_true (by first | (with_reducible assumption) | assumption)
                    have hx13 := bt_at a2 x8_2
                    replace p13 := eq_true p13
                    replace q13 := eq_true q13
                    go_wp2
                    go_roundg k2
                    case measure => have := HJ5.out; have := HK2.out; omega
                    case rel => exact ⟨(x7_2), (wrap64 (x8_2 + 1)), (by first | rfl | (simp; done) | (simp [*]; done)), (by first | rfl | (simp; done) | (simp [*]; done)), H', ⟨by have := HJ5.out; have := HK2.out; omega⟩, ⟨by repeat (first | (with_reducible first | exact HB.out | apply below_alloc | apply pw_below_drewN | apply below_drew1) | exact HB.out)⟩⟩
                  · rw [if_neg c14] at H
                    have c14b0 : ((bt a2 x8_2) == 10) = false := beq_eq_false_iff_ne.mpr c14
                    have c14b1 : ((bt a2 x8_2) != 10) = true := bne_iff_ne.mpr c14
                    have c15b0 := eq_true (of_decide_eq_true (by first | (with_reducible assumption) | assumption) : 0 ≤ x8_2)
                    by_cases c16 : x8_2 ≤ (wrap64 (x8_2 + 1))
                    · rw [if_pos c16] at H
                      have c16b0 := eq_true c16
                      have c16b1 : decide (x8_2 ≤ (wrap64 (x8_2 + 1))) = true := decide_eq_true c16
                      by_cases c17 : (wrap64 (x8_2 + 1)) ≤ (a2.size : Int)
                      · rw [if_pos c17] at H
                        have c17b0 := eq_true c17
                        have c17b1 : decide ((wrap64 (x8_2 + 1)) ≤ (a2.size : Int)) = true := decide_eq_true c17
                        by_cases c18 : x7_2.size + (a2.extract (x8_2 : Int).toNat ((wrap64 (x8_2 + 1)) : Int).toNat).size ≤ 9223372036854775807
                        · rw [if_pos c18] at H
                          have c18n0 : (x7_2.size + ((a2.extract (x8_2 : Int).toNat ((wrap64 (x8_2 + 1)) : Int).toNat).size) ≤ 9223372036854775807) = True := eq_true (by have h_ := c18; (try simp only [ByteArray.size_append] at h_); exact h_)
                          have c18n1 : decide (x7_2.size + ((a2.extract (x8_2 : Int).toNat ((wrap64 (x8_2 + 1)) : Int).toNat).size) ≤ 9223372036854775807) = true := decide_eq_true (by have h_ := c18; (try simp only [ByteArray.size_append] at h_); exact h_)
                          have c18n2 : (9223372036854775807 < x7_2.size + ((a2.extract (x8_2 : Int).toNat ((wrap64 (x8_2 + 1)) : Int).toNat).size)) = False := eq_false (by have h_ := c18; (try simp only [ByteArray.size_append] at h_); exact Nat.not_lt.2 h_)
                          have c18b0 := eq_true c18
                          have c18b1 : decide (x7_2.size + (a2.extract (x8_2 : Int).toNat ((wrap64 (x8_2 + 1)) : Int).toNat).size ≤ 9223372036854775807) = true := decide_eq_true c18
                          try have c18b2 : (9223372036854775807 < x7_2.size + (a2.extract (x8_2 : Int).toNat ((wrap64 (x8_2 + 1)) : Int).toNat).size) = False := eq_false (Nat.not_lt.2 c18)
                          have H' := Aside0.mk H
                          clear H
                          have p13 : 0 ≤ (x8_2 : Int) := of_decide_eq_true (by first | (with_reducible assumption) | assumption)
                          have q13 : x8_2 < (a2.size : Int) := of_decide_eq_true (by first | (with_reducible assumption) | assumption)
                          have hx13 := bt_at a2 x8_2
                          replace p13 := eq_true p13
                          replace q13 := eq_true q13
                          go_wp2
                          go_roundg k2
                          case measure => have := HJ5.out; have := HK2.out; omega
                          case rel => exact ⟨(x7_2 ++ (a2.extract (x8_2 : Int).toNat ((wrap64 (x8_2 + 1)) : Int).toNat)), (wrap64 (x8_2 + 1)), (by first | rfl | (simp; done) | (simp [*]; done)), (by first | rfl | (simp; done) | (simp [*]; done)), H', ⟨by have := HJ5.out; have := HK2.out; omega⟩, ⟨by repeat (first | (with_reducible first | exact HB.out | apply below_alloc | apply pw_below_drewN | apply below_drew1) | exact HB.out)⟩⟩
                        · rw [if_neg c18] at H
                          exact absurd H (by simp)
                      · rw [if_neg c17] at H
                        exact absurd H (by simp)
                    · rw [if_neg c16] at H
                      exact absurd H (by simp)
                · rw [if_neg c12] at H
                  exact absurd H (by simp)
              · rw [if_neg c11] at H
                have c11b0 : decide (x8_2 < (a2.size : Int)) = false := decide_eq_false c11
                clear c11
                by_cases c19 : 2 + x7_2.size ≤ 9223372036854775807
                · rw [if_pos c19] at H
                  have c19b0 := eq_true c19
                  have c19b1 : decide (2 + x7_2.size ≤ 9223372036854775807) = true := decide_eq_true c19
                  try have c19b2 : (9223372036854775807 < 2 + x7_2.size) = False := eq_false (Nat.not_lt.2 c19)
                  by_cases c20 : ((⟨#[47, 47]⟩ : ByteArray) ++ x7_2).size + 1 ≤ 9223372036854775807
                  · rw [if_pos c20] at H
                    have c20n0 : (2 + x7_2.size + 1 ≤ 9223372036854775807) = True := eq_true (by have h_ := c20; (try simp only [ByteArray.size_append] at h_); exact h_)
                    have c20n1 : decide (2 + x7_2.size + 1 ≤ 9223372036854775807) = true := decide_eq_true (by have h_ := c20; (try simp only [ByteArray.size_append] at h_); exact h_)
                    have c20n2 : (9223372036854775807 < 2 + x7_2.size + 1) = False := eq_false (by have h_ := c20; (try simp only [ByteArray.size_append] at h_); exact Nat.not_lt.2 h_)
                    have c20b0 := eq_true c20
                    have c20b1 : decide (((⟨#[47, 47]⟩ : ByteArray) ++ x7_2).size + 1 ≤ 9223372036854775807) = true := decide_eq_true c20
                    try have c20b2 : (9223372036854775807 < ((⟨#[47, 47]⟩ : ByteArray) ++ x7_2).size + 1) = False := eq_false (Nat.not_lt.2 c20)
                    obtain ⟨y347, hy347⟩ : ∃ y_ : List ByteArray, y_ = (([(⟨#[32]⟩ : ByteArray), (⟨#[9]⟩ : ByteArray), (⟨#[10]⟩ : ByteArray), (⟨#[13, 10]⟩ : ByteArray), (⟨#[32, 32]⟩ : ByteArray), ((⟨#[47, 47]⟩ : ByteArray) ++ x7_2) ++ (⟨#[10]⟩ : ByteArray), (⟨#[32, 47, 47, 32, 10]⟩ : ByteArray), (⟨#[10, 47, 47, 10]⟩ : ByteArray)] : List ByteArray)) := ⟨_, rfl⟩
                    replace H : (fastilaw03_LexSpaces.l1 k2 l0 l1 y347 (⟨#[10]⟩ : ByteArray) l0 (l0.length : Int) 0) = some r := by first | (rw [hy347]; with_reducible exact H) | (have H2_ := (Option.bind_some _ _).symm.trans H; rw [hy347]; with_reducible exact H2_) | (have H2_ := (Option.bind_some _ _).symm.trans H; with_reducible exact H2_) | with_reducible exact H | (rw [hy347]; exact H) | exact H
                    have Ny347 := Aside0.mk hy347
                    clear hy347
                    have H' := Aside0.mk H
                    clear H
                    go_wp2_with (first | ((with_reducible refine gate_dst (N := 51) rfl ?_); (try (refine gate_guard (by rfl) ?_; dsimp only)); refine Kd.R_lit Kd.string _ 9 ?hg (N := 51) ?hd (xs := ([(⟨#[32]⟩ : ByteArray), (⟨#[9]⟩ : ByteArray), (⟨#[10]⟩ : ByteArray), (⟨#[13, 10]⟩ : ByteArray), (⟨#[32, 32]⟩ : ByteArray), ((⟨#[47, 47]⟩ : ByteArray) ++ x7_2) ++ (⟨#[10]⟩ : ByteArray), (⟨#[32, 47, 47, 32, 10]⟩ : ByteArray), (⟨#[10, 47, 47, 10]⟩ : ByteArray)] : List ByteArray)) (inner := [.string (⟨#[32]⟩ : ByteArray), .string (⟨#[9]⟩ : ByteArray), .string (⟨#[10]⟩ : ByteArray), .string (⟨#[13, 10]⟩ : ByteArray), .string (⟨#[32, 32]⟩ : ByteArray), .string (((⟨#[47, 47]⟩ : ByteArray) ++ x7_2) ++ (⟨#[10]⟩ : ByteArray)), .string (⟨#[32, 47, 47, 32, 10]⟩ : ByteArray), .string (⟨#[10, 47, 47, 10]⟩ : ByteArray)]) (ok := fun _ => True) (okp := fun _ => True) ?hr ?hp (fun _ hk => hk) trivial (Below.refl _ _) (Nat.le_refl _) (by simp) ?_; (case hd => rfl); (case hg => rfl); (case hr => first | (go_simp; done) | (go_simp; rfl)); (case hp => exact (Reps.one (show Kd.M Kd.string _ _ _ (⟨#[32]⟩ : ByteArray) [.string (⟨#[32]⟩ : ByteArray)] from rfl) (Reps.one (show Kd.M Kd.string _ _ _ (⟨#[9]⟩ : ByteArray) [.string (⟨#[9]⟩ : ByteArray)] from rfl) (Reps.one (show Kd.M Kd.string _ _ _ (⟨#[10]⟩ : ByteArray) [.string (⟨#[10]⟩ : ByteArray)] from rfl) (Reps.one (show Kd.M Kd.string _ _ _ (⟨#[13, 10]⟩ : ByteArray) [.string (⟨#[13, 10]⟩ : ByteArray)] from rfl) (Reps.one (show Kd.M Kd.string _ _ _ (⟨#[32, 32]⟩ : ByteArray) [.string (⟨#[32, 32]⟩ : ByteArray)] from rfl) (Reps.one (show Kd.M Kd.string _ _ _ (((⟨#[47, 47]⟩ : ByteArray) ++ x7_2) ++ (⟨#[10]⟩ : ByteArray)) [.string (((⟨#[47, 47]⟩ : ByteArray) ++ x7_2) ++ (⟨#[10]⟩ : ByteArray))] from rfl) (Reps.one (show Kd.M Kd.string _ _ _ (⟨#[32, 47, 47, 32, 10]⟩ : ByteArray) [.string (⟨#[32, 47, 47, 32, 10]⟩ : ByteArray)] from rfl) (Reps.one (show Kd.M Kd.string _ _ _ (⟨#[10, 47, 47, 10]⟩ : ByteArray) [.string (⟨#[10, 47, 47, 10]⟩ : ByteArray)] from rfl) (Reps.none _ _)))))))))); intro v348 w21 ho22 hb hg_ hnew_; clear hg_ hnew_; (first | rw [← Ny347.out] at ho22 | (simp only [Int.reduceToNat] at ho22; rw [← Ny347.out] at ho22)); have n0_ := Aside0.mk (Kd.R_lower ho22 (below_size (by repeat (first | (with_reducible first | exact HB.out | apply below_alloc | apply pw_below_drewN | apply below_drew1) | exact HB.out)))); have n1_ := Aside0.mk (below_step (by repeat (first | (with_reducible first | exact HB.out | apply below_alloc | apply pw_below_drewN | apply below_drew1) | exact HB.out)) hb); clear HB; have HO349 := n0_; have HB := n1_; clear n0_ n1_; clear hb ho22))
                    go_loopg [10, 54] k2 (fun kq v10 v54 w' => ∃ (x10_3 : ByteArray) (x54_3 : Int), v10 = .string x10_3 ∧ v54 = .int .i64 x54_3 ∧ Aside0 (fastilaw03_LexSpaces.l1 kq l0 l1 y347 x10_3 l0 (l0.length : Int) x54_3 = some r) ∧ Aside0 (kq ≤ k2) ∧ Aside0 (Kd.R Kd.string 9 w' w.heap.size (fun _ => True) v348 y347) ∧ Aside0 (Below w.heap.size w w'))
                    case atStart => exact ⟨((⟨#[10]⟩ : ByteArray)), (0), (by first | rfl | (simp; done) | (simp [*]; done)), (by first | rfl | (simp; done) | (simp [*]; done)), H', ⟨Nat.le_refl _⟩, ⟨by (with_reducible repeat (first | apply Kd.R_alloc | apply Kd.R_drewN | apply Kd.R_drew)); exact HO349.out⟩, ⟨by repeat (first | (with_reducible first | exact HB.out | apply below_alloc | apply pw_below_drewN | apply below_drew1) | exact HB.out)⟩⟩
                    case round =>
                      clear H'
                      try clear c1
                      try clear p1
                      try clear q1
                      try clear hx1
                      try clear c2
                      try clear p2
                      try clear c5
                      try clear p6
                      try clear c8
                      try clear c9
                      try clear c10
                      try clear c11
                      try clear c11b0
                      try clear c12
                      try clear c12b0
                      try clear p13
                      try clear q13
                      try clear hx13
                      try clear c14
                      try clear c14b0
                      try clear c14b1
                      try clear c15
                      try clear c15b0
                      try clear c16
                      try clear c16b0
                      try clear c16b1
                      try clear c17
                      try clear c17b0
                      try clear c17b1
                      try clear c18
                      try clear c18b0
                      try clear c18b1
                      try clear c18b2
                      try clear c19
                      try clear c19b0
                      try clear c19b1
                      try clear c19b2
                      try clear c20
                      try clear c20b0
                      try clear c20b1
                      try clear c20b2
                      try clear p13
                      try clear p2
                      try clear q13
                      obtain ⟨x10_3, x54_3, rfl, rfl, HA, HK3, HO_9, HB⟩ := hrel
                      cases gk with
                      | zero => exact absurd HA.out (by simp [fastilaw03_LexSpaces.l1])
                      | succ k3 =>
                        have H := HA.out
                        clear HA
                        simp only [fastilaw03_LexSpaces.l1] at H
                        by_cases c23 : x54_3 < (l0.length : Int)
                        · rw [if_pos c23] at H
                          have c23b0 : decide (x54_3 < (l0.length : Int)) = true := decide_eq_true c23
                          clear c23
                          by_cases c24 : 0 ≤ x54_3
                          · rw [if_pos c24] at H
                            have c24b0 : decide (0 ≤ x54_3) = true := decide_eq_true c24
                            clear c24
                            by_cases c25 : x54_3 < (l0.length : Int)
                            · rw [if_pos c25] at H
                              have c25b0 : decide (x54_3 < (l0.length : Int)) = true := decide_eq_true c25
                              clear c25
                              obtain ⟨y358, hy358⟩ : ∃ y_ : List (S35), y_ = (([(⟨(rd_T35 l0 x54_3).f0, (rd_T35 l0 x54_3).f1, (rd_T35 l0 x54_3).f2, (rd_T35 l0 x54_3).f3⟩ : S35)] : List (S35))) := ⟨_, rfl⟩
                              replace H : ((lex_Text.f k3 y358).bind fun bt361 => (if bt361.2 = 0 then (if x54_3 < (l1.length : Int) then (if (y347.length : Int) = 0 then (none) else (if 0 ≤ (Int.tmod (wrap64 (rd l1 x54_3)) (y347.length : Int)) then (if (Int.tmod (wrap64 (rd l1 x54_3)) (y347.length : Int)) < (y347.length : Int) then (if bt361.1.size + 1 ≤ 9223372036854775807 then (if (bt361.1 ++ (⟨#[32]⟩ : ByteArray)).size + (rdOf ByteArray.empty y347 (Int.tmod (wrap64 (rd l1 x54_3)) (y347.length : Int))).size ≤ 9223372036854775807 then (if x10_3.size + ((bt361.1 ++ (⟨#[32]⟩ : ByteArray)) ++ (rdOf ByteArray.empty y347 (Int.tmod (wrap64 (rd l1 x54_3)) (y347.length : Int)))).size ≤ 9223372036854775807 then (fastilaw03_LexSpaces.l1 k3 l0 l1 y347 (x10_3 ++ ((bt361.1 ++ (⟨#[32]⟩ : ByteArray)) ++ (rdOf ByteArray.empty y347 (Int.tmod (wrap64 (rd l1 x54_3)) (y347.length : Int))))) l0 (l0.length : Int) (wrap64 (x54_3 + 1))) else (none)) else (none)) else (none)) else (none)) else (none))) else (if bt361.1.size + 1 ≤ 9223372036854775807 then (if (bt361.1 ++ (⟨#[32]⟩ : ByteArray)).size + 1 ≤ 9223372036854775807 then (if x10_3.size + ((bt361.1 ++ (⟨#[32]⟩ : ByteArray)) ++ (⟨#[32]⟩ : ByteArray)).size ≤ 9223372036854775807 then (fastilaw03_LexSpaces.l1 k3 l0 l1 y347 (x10_3 ++ ((bt361.1 ++ (⟨#[32]⟩ : ByteArray)) ++ (⟨#[32]⟩ : ByteArray))) l0 (l0.length : Int) (wrap64 (x54_3 + 1))) else (none)) else (none)) else (none))) else ((lex_Text.f k3 l0).bind fun bt365 => (some (bt365.2 == 30))))) = some r := by first | (rw [hy358]; with_reducible exact H) | (have H2_ := (Option.bind_some _ _).symm.trans H; rw [hy358]; with_reducible exact H2_) | (have H2_ := (Option.bind_some _ _).symm.trans H; with_reducible exact H2_) | with_reducible exact H | (rw [hy358]; exact H) | exact H
                              have Ny358 := Aside0.mk hy358
                              clear hy358
                              replace H := Option.bind_eq_some_iff.mp H
                              obtain ⟨⟨t361, t362⟩, A260, H⟩ := H
                              replace H : (if t362 = 0 then (if x54_3 < (l1.length : Int) then (if (y347.length : Int) = 0 then (none) else (if 0 ≤ (Int.tmod (wrap64 (rd l1 x54_3)) (y347.length : Int)) then (if (Int.tmod (wrap64 (rd l1 x54_3)) (y347.length : Int)) < (y347.length : Int) then (if t361.size + 1 ≤ 9223372036854775807 then (if (t361 ++ (⟨#[32]⟩ : ByteArray)).size + (rdOf ByteArray.empty y347 (Int.tmod (wrap64 (rd l1 x54_3)) (y347.length : Int))).size ≤ 9223372036854775807 then (if x10_3.size + ((t361 ++ (⟨#[32]⟩ : ByteArray)) ++ (rdOf ByteArray.empty y347 (Int.tmod (wrap64 (rd l1 x54_3)) (y347.length : Int)))).size ≤ 9223372036854775807 then (fastilaw03_LexSpaces.l1 k3 l0 l1 y347 (x10_3 ++ ((t361 ++ (⟨#[32]⟩ : ByteArray)) ++ (rdOf ByteArray.empty y347 (Int.tmod (wrap64 (rd l1 x54_3)) (y347.length : Int))))) l0 (l0.length : Int) (wrap64 (x54_3 + 1))) else (none)) else (none)) else (none)) else (none)) else (none))) else (if t361.size + 1 ≤ 9223372036854775807 then (if (t361 ++ (⟨#[32]⟩ : ByteArray)).size + 1 ≤ 9223372036854775807 then (if x10_3.size + ((t361 ++ (⟨#[32]⟩ : ByteArray)) ++ (⟨#[32]⟩ : ByteArray)).size ≤ 9223372036854775807 then (fastilaw03_LexSpaces.l1 k3 l0 l1 y347 (x10_3 ++ ((t361 ++ (⟨#[32]⟩ : ByteArray)) ++ (⟨#[32]⟩ : ByteArray))) l0 (l0.length : Int) (wrap64 (x54_3 + 1))) else (none)) else (none)) else (none))) else ((lex_Text.f k3 l0).bind fun bt365 => (some (bt365.2 == 30)))) = some r := H
                              have A26 := Aside0.mk A260
                              clear A260
                              by_cases c27 : t362 = 0
                              · rw [if_pos c27] at H
                                have c27b0 : (t362 == 0) = true := beq_iff_eq.mpr c27
                                have c27b1 : (t362 != 0) = false := bne_eq_false_iff_eq.mpr c27
                                clear c27
                                by_cases c28 : x54_3 < (l1.length : Int)
                                · rw [if_pos c28] at H
                                  have c28b0 : decide (x54_3 < (l1.length : Int)) = true := decide_eq_true c28
                                  clear c28
                                  by_cases c29 : (y347.length : Int) = 0
                                  · rw [if_pos c29] at H
                                    exact absurd H (by simp)
                                  · rw [if_neg c29] at H
                                    have c29b0 : ((y347.length : Int) == 0) = false := beq_eq_false_iff_ne.mpr c29
                                    have c29b1 : ((y347.length : Int) != 0) = true := bne_iff_ne.mpr c29
                                    have c29b2 : ¬ (y347 = []) := fun h_ => c29 (by rw [h_]; rfl)
                                    obtain ⟨ji30, hji30⟩ : ∃ j_ : Int, (Int.tmod (wrap64 (rd l1 x54_3)) (y347.length : Int)) = j_ := ⟨_, rfl⟩
                                    replace H : (if 0 ≤ (ji30) then (if (ji30) < (y347.length : Int) then (if t361.size + 1 ≤ 9223372036854775807 then (if (t361 ++ (⟨#[32]⟩ : ByteArray)).size + (rdOf ByteArray.empty y347 (ji30)).size ≤ 9223372036854775807 then (if x10_3.size + ((t361 ++ (⟨#[32]⟩ : ByteArray)) ++ (rdOf ByteArray.empty y347 (ji30))).size ≤ 9223372036854775807 then (fastilaw03_LexSpaces.l1 k3 l0 l1 y347 (x10_3 ++ ((t361 ++ (⟨#[32]⟩ : ByteArray)) ++ (rdOf ByteArray.empty y347 (ji30)))) l0 (l0.length : Int) (wrap64 (x54_3 + 1))) else (none)) else (none)) else (none)) else (none)) else (none)) = some r := by first | (rw [hji30] at H; exact H) | (simp only [hji30] at H ⊢; exact H)
                                    (try rw [hji30] at A26)
                                    by_cases c31 : 0 ≤ (ji30)
                                    · rw [if_pos c31] at H
                                      have c31b0 : decide (0 ≤ (ji30)) = true := decide_eq_true c31
                                      clear c31
                                      by_cases c32 : (ji30) < (y347.length : Int)
                                      · rw [if_pos c32] at H
                                        have c32b0 : decide ((ji30) < (y347.length : Int)) = true := decide_eq_true c32
                                        clear c32
                                        by_cases c33 : t361.size + 1 ≤ 9223372036854775807
                                        · rw [if_pos c33] at H
                                          have c33b0 := eq_true c33
                                          have c33b1 : decide (t361.size + 1 ≤ 9223372036854775807) = true := decide_eq_true c33
                                          try have c33b2 : (9223372036854775807 < t361.size + 1) = False := eq_false (Nat.not_lt.2 c33)
                                          by_cases c34 : (t361 ++ (⟨#[32]⟩ : ByteArray)).size + (rdOf ByteArray.empty y347 (ji30)).size ≤ 9223372036854775807
                                          · rw [if_pos c34] at H
                                            have c34n0 : (t361.size + 1 + (rdOf ByteArray.empty y347 (ji30)).size ≤ 9223372036854775807) = True := eq_true (by have h_ := c34; (try simp only [ByteArray.size_append] at h_); exact h_)
                                            have c34n1 : decide (t361.size + 1 + (rdOf ByteArray.empty y347 (ji30)).size ≤ 9223372036854775807) = true := decide_eq_true (by have h_ := c34; (try simp only [ByteArray.size_append] at h_); exact h_)
                                            have c34n2 : (9223372036854775807 < t361.size + 1 + (rdOf ByteArray.empty y347 (ji30)).size) = False := eq_false (by have h_ := c34; (try simp only [ByteArray.size_append] at h_); exact Nat.not_lt.2 h_)
                                            have c34b0 := eq_true c34
                                            have c34b1 : decide ((t361 ++ (⟨#[32]⟩ : ByteArray)).size + (rdOf ByteArray.empty y347 (ji30)).size ≤ 9223372036854775807) = true := decide_eq_true c34
                                            try have c34b2 : (9223372036854775807 < (t361 ++ (⟨#[32]⟩ : ByteArray)).size + (rdOf ByteArray.empty y347 (ji30)).size) = False := eq_false (Nat.not_lt.2 c34)
                                            by_cases c35 : x10_3.size + ((t361 ++ (⟨#[32]⟩ : ByteArray)) ++ (rdOf ByteArray.empty y347 (ji30))).size ≤ 9223372036854775807
                                            · rw [if_pos c35] at H
                                              have c35n0 : (x10_3.size + (t361.size + 1 + (rdOf ByteArray.empty y347 (ji30)).size) ≤ 9223372036854775807) = True := eq_true (by have h_ := c35; (try simp only [ByteArray.size_append] at h_); exact h_)
                                              have c35n1 : decide (x10_3.size + (t361.size + 1 + (rdOf ByteArray.empty y347 (ji30)).size) ≤ 9223372036854775807) = true := decide_eq_true (by have h_ := c35; (try simp only [ByteArray.size_append] at h_); exact h_)
                                              have c35n2 : (9223372036854775807 < x10_3.size + (t361.size + 1 + (rdOf ByteArray.empty y347 (ji30)).size)) = False := eq_false (by have h_ := c35; (try simp only [ByteArray.size_append] at h_); exact Nat.not_lt.2 h_)
                                              have c35b0 := eq_true c35
                                              have c35b1 : decide (x10_3.size + ((t361 ++ (⟨#[32]⟩ : ByteArray)) ++ (rdOf ByteArray.empty y347 (ji30))).size ≤ 9223372036854775807) = true := decide_eq_true c35
                                              try have c35b2 : (9223372036854775807 < x10_3.size + ((t361 ++ (⟨#[32]⟩ : ByteArray)) ++ (rdOf ByteArray.empty y347 (ji30))).size) = False := eq_false (Nat.not_lt.2 c35)
                                              have H' := Aside0.mk H
                                              clear H
                                              have p356 : 0 ≤ (x54_3 : Int) := of_decide_eq_true (by first | (with_reducible assumption) | assumption)
                                              have q356 : x54_3 < (l0.length : Int) := of_decide_eq_true (by first | (with_reducible assumption) | assumption)
                                              obtain ⟨ad356, e356, hx356_0, hx356_1, hx356_2, hx356_3⟩ := at_T35 HR0.out x54_3 p356 q356
                                              cases e356
                                              replace hx356_0 := (HB.out.cell (World.block_lt_of_cell? w _ hx356_0)).trans hx356_0
                                              replace hx356_1 := (HB.out.cell (World.block_lt_of_cell? w _ hx356_1)).trans hx356_1
                                              replace hx356_2 := (HB.out.cell (World.block_lt_of_cell? w _ hx356_2)).trans hx356_2
                                              replace hx356_3 := (HB.out.cell (World.block_lt_of_cell? w _ hx356_3)).trans hx356_3
                                              replace p356 := eq_true p356
                                              replace q356 := eq_true q356
                                              go_wp2_with (first | ((with_reducible refine gate_dst (N := 12) rfl ?_); (try (refine gate_guard (by rfl) ?_; dsimp only)); refine box_event ?hg (N := 12) ?hd (cs := #[.int .i64 0, .string (⟨#[]⟩ : ByteArray), .int .i64 0, .int .i64 0]) (t := 35) ?hr ?_; (case hd => rfl); (case hg => rfl); (case hr => first | (go_simp; done) | (go_simp; rfl)); intro gb357 hg w36 hbox hb; have n0_ := Aside0.mk (Kd.R_below (by (with_reducible repeat (first | apply Kd.R_alloc | apply Kd.R_drewN | apply Kd.R_drew)); exact HO_9.out) hb); have n1_ := Aside0.mk (below_step (by repeat (first | (with_reducible first | exact HB.out | apply below_alloc | apply pw_below_drewN | apply below_drew1) | exact HB.out)) hb); have n2_ := Aside0.mk (hbox); have n3_ := Aside0.mk ((by rw [hg]; exact (below_size (by repeat (first | (with_reducible first | exact HB.out | apply below_alloc | apply pw_below_drewN | apply below_drew1) | exact HB.out))) : w.heap.size ≤ gb357)); have n4_ := Aside0.mk ((by rw [hg]; exact (below_size (by repeat (first | (with_reducible first | exact HB.out | apply below_alloc | apply pw_below_drewN | apply below_drew1) | exact HB.out))) : w.heap.size ≤ gb357)); clear HO_9; clear HB; have HO_9 := n0_; have HB := n1_; have BK357 := n2_; have GW357 := n3_; have GE357 := n4_; clear n0_ n1_ n2_ n3_ n4_; clear hb hbox hg; have hcz37_0 : w36.cell? ⟨gb357, 0, none⟩ = some (.int .i64 0) := (blk_cell BK357.out 0).trans rfl; have hcz37_1 : w36.cell? ⟨gb357, 1, none⟩ = some (.string (⟨#[]⟩ : ByteArray)) := (blk_cell BK357.out 1).trans rfl; have hcz37_2 : w36.cell? ⟨gb357, 2, none⟩ = some (.int .i64 0) := (blk_cell BK357.out 2).trans rfl; have hcz37_3 : w36.cell? ⟨gb357, 3, none⟩ = some (.int .i64 0) := (blk_cell BK357.out 3).trans rfl; have hfz37_0 := blk_frozen BK357.out 0; have hfz37_1 := blk_frozen BK357.out 1; have hfz37_2 := blk_frozen BK357.out 2; have hfz37_3 := blk_frozen BK357.out 3; have hcy37 := fun (x0 x1 x2 x3 x4 : Value) => (blk_cell (blk_set (blk_set (blk_set (blk_set (blk_set BK357.out 0 x0) 1 x1) 2 x2) 3 x3) 3 x4) 3).trans (show _ = some x4 from rfl)) | ((with_reducible refine gate_dst (N := 61) rfl ?_); (try (refine gate_guard (by rfl) ?_; dsimp only)); refine Kd.R_lit k35 _ 35 ?hg (N := 61) ?hd (xs := ([(⟨(rd_T35 l0 x54_3).f0, (rd_T35 l0 x54_3).f1, (rd_T35 l0 x54_3).f2, (rd_T35 l0 x54_3).f3⟩ : S35)] : List (S35))) (inner := [.int .i64 ((rd_T35 l0 x54_3).f0), .string ((rd_T35 l0 x54_3).f1), .int .i64 ((rd_T35 l0 x54_3).f2), .int .i64 ((rd_T35 l0 x54_3).f3)]) (ok := fun _ => True) (okp := fun _ => True) ?hr ?hp (fun _ hk => hk) trivial (Below.refl _ _) (Nat.le_refl _) (by simp) ?_; (case hd => rfl); (case hg => rfl); (case hr => first | (go_simp; done) | (go_simp; rfl)); (case hp => exact (Reps.c4 (show Kd.M k35 _ _ _ (⟨(rd_T35 l0 x54_3).f0, (rd_T35 l0 x54_3).f1, (rd_T35 l0 x54_3).f2, (rd_T35 l0 x54_3).f3⟩ : S35) [.int .i64 ((rd_T35 l0 x54_3).f0), .string ((rd_T35 l0 x54_3).f1), .int .i64 ((rd_T35 l0 x54_3).f2), .int .i64 ((rd_T35 l0 x54_3).f3)] from (k35_mkM _ _ _ (⟨(rd_T35 l0 x54_3).f0, (rd_T35 l0 x54_3).f1, (rd_T35 l0 x54_3).f2, (rd_T35 l0 x54_3).f3⟩ : S35) )) (Reps.none _ _))); intro v359 w38 ho39 hb hg_ hnew_; clear hg_ hnew_; (first | rw [← Ny358.out] at ho39 | (simp only [Int.reduceToNat] at ho39; rw [← Ny358.out] at ho39)); have n0_ := Aside0.mk (Kd.R_below (by (with_reducible repeat (first | apply Kd.R_alloc | apply Kd.R_drewN | apply Kd.R_drew)); exact (Kd.R_mono (Kd.R_far (p := ⟨gb357, 3, none⟩) (Kd.R_far (p := ⟨gb357, 2, none⟩) (Kd.R_far (p := ⟨gb357, 1, none⟩) (Kd.R_far (p := ⟨gb357, 0, none⟩) (Kd.R_types HO_9.out BK357.out (by decide)) (fun _ hk => hk.2) (.int .i64 ((rd_T35 l0 x54_3).f0))) (fun _ hk => hk.2) (.string ((rd_T35 l0 x54_3).f1))) (fun _ hk => hk.2) (.int .i64 ((rd_T35 l0 x54_3).f2))) (fun _ hk => hk.2) (.int .i64 ((rd_T35 l0 x54_3).f3))) (fun _ h_ => h_.1))) hb); have n1_ := Aside0.mk (Kd.R_lower (Kd.R_newB ho39 (g := gb357) (o := .cells #[.int .i64 ((rd_T35 l0 x54_3).f0), .string ((rd_T35 l0 x54_3).f1), .int .i64 ((rd_T35 l0 x54_3).f2), .int .i64 ((rd_T35 l0 x54_3).f3)] 35 (0, 0)) (by (with_reducible repeat (first | refine blk_drewN ?_ _ | refine blk_drew ?_ | refine blk_alloc ?_ _)); refine blk_put (cs := #[.int .i64 ((rd_T35 l0 x54_3).f0), .string ((rd_T35 l0 x54_3).f1), .int .i64 ((rd_T35 l0 x54_3).f2), .int .i64 0]) ?_ 3 _ rfl; (with_reducible repeat (first | refine blk_drewN ?_ _ | refine blk_drew ?_ | refine blk_alloc ?_ _)); refine blk_put (cs := #[.int .i64 ((rd_T35 l0 x54_3).f0), .string ((rd_T35 l0 x54_3).f1), .int .i64 0, .int .i64 0]) ?_ 2 _ rfl; (with_reducible repeat (first | refine blk_drewN ?_ _ | refine blk_drew ?_ | refine blk_alloc ?_ _)); refine blk_put (cs := #[.int .i64 ((rd_T35 l0 x54_3).f0), .string (⟨#[]⟩ : ByteArray), .int .i64 0, .int .i64 0]) ?_ 1 _ rfl; (with_reducible repeat (first | refine blk_drewN ?_ _ | refine blk_drew ?_ | refine blk_alloc ?_ _)); refine blk_put (cs := #[.int .i64 0, .string (⟨#[]⟩ : ByteArray), .int .i64 0, .int .i64 0]) ?_ 0 _ rfl; (with_reducible repeat (first | refine blk_drewN ?_ _ | refine blk_drew ?_ | refine blk_alloc ?_ _)); exact BK357.out)) (below_size (by repeat (first | (with_reducible first | exact HB.out | apply below_alloc | apply pw_below_drewN | apply below_drew1 | refine below_set ?_ GE357.out) | exact HB.out)))); have n2_ := Aside0.mk (blk_below (g := gb357) (o := .cells #[.int .i64 ((rd_T35 l0 x54_3).f0), .string ((rd_T35 l0 x54_3).f1), .int .i64 ((rd_T35 l0 x54_3).f2), .int .i64 ((rd_T35 l0 x54_3).f3)] 35 (0, 0)) (by (with_reducible repeat (first | refine blk_drewN ?_ _ | refine blk_drew ?_ | refine blk_alloc ?_ _)); refine blk_put (cs := #[.int .i64 ((rd_T35 l0 x54_3).f0), .string ((rd_T35 l0 x54_3).f1), .int .i64 ((rd_T35 l0 x54_3).f2), .int .i64 0]) ?_ 3 _ rfl; (with_reducible repeat (first | refine blk_drewN ?_ _ | refine blk_drew ?_ | refine blk_alloc ?_ _)); refine blk_put (cs := #[.int .i64 ((rd_T35 l0 x54_3).f0), .string ((rd_T35 l0 x54_3).f1), .int .i64 0, .int .i64 0]) ?_ 2 _ rfl; (with_reducible repeat (first | refine blk_drewN ?_ _ | refine blk_drew ?_ | refine blk_alloc ?_ _)); refine blk_put (cs := #[.int .i64 ((rd_T35 l0 x54_3).f0), .string (⟨#[]⟩ : ByteArray), .int .i64 0, .int .i64 0]) ?_ 1 _ rfl; (with_reducible repeat (first | refine blk_drewN ?_ _ | refine blk_drew ?_ | refine blk_alloc ?_ _)); refine blk_put (cs := #[.int .i64 0, .string (⟨#[]⟩ : ByteArray), .int .i64 0, .int .i64 0]) ?_ 0 _ rfl; (with_reducible repeat (first | refine blk_drewN ?_ _ | refine blk_drew ?_ | refine blk_alloc ?_ _)); exact BK357.out) hb); have n3_ := Aside0.mk (below_step (by repeat (first | (with_reducible first | exact HB.out | apply below_alloc | apply pw_below_drewN | apply below_drew1 | refine below_set ?_ GE357.out) | exact HB.out)) hb); clear HO_9; clear BK357; clear HB; have HO_9 := n0_; have HO360 := n1_; have BK357 := n2_; have HB := n3_; clear n0_ n1_ n2_ n3_; clear hb ho39; obtain ⟨Ao40, co40, eo40⟩ := Kd.R_slice HO360.out; subst eo40) | ((with_reducible refine gate_callee (f := 16) rfl ?_); refine goesL_ (some 62) rfl rfl Tryd.func16 (by kernel_rfl) rfl #[.slice Ao40 y358.length co40] rfl (by (try simp only [List.map_toArray, List.map_cons, List.map_nil]); first | done | rfl | (simp only [List.length_drop, List.length_take]; rfl)) ?_; (with_reducible refine (lex_Text.calls k3 _ _ y358 t361 t362 _ ?side1 ?side2 (GX.gl HGL.out (by repeat (first | (with_reducible first | exact HB.out | apply below_alloc | apply pw_below_drewN | apply below_drew1 | refine below_set ?_ GE357.out) | exact HB.out))) A26.out).mono ?_); (case side1 => repeat (first | exact (Kd.R_reads' HO360.out).2.2 | (with_reducible refine Kd.C_alloc ?_ _) | (with_reducible refine Kd.C_drewN ?_ _) | (with_reducible refine Kd.C_drew ?_))); (case side2 => exact (Kd.R_reads' HO360.out).2.1); rintro e w41 ⟨rfl, hb⟩; refine ⟨_, rfl, ?_⟩; have n0_ := Aside0.mk (Kd.R_below (by (with_reducible repeat (first | apply Kd.R_alloc | apply Kd.R_drewN | apply Kd.R_drew)); exact HO_9.out) hb); have n1_ := Aside0.mk (Kd.R_below (by (with_reducible repeat (first | apply Kd.R_alloc | apply Kd.R_drewN | apply Kd.R_drew)); exact HO360.out) hb); have n2_ := Aside0.mk (blk_below (g := gb357) (o := .cells #[.int .i64 ((rd_T35 l0 x54_3).f0), .string ((rd_T35 l0 x54_3).f1), .int .i64 ((rd_T35 l0 x54_3).f2), .int .i64 ((rd_T35 l0 x54_3).f3)] 35 (0, 0)) (by (with_reducible repeat (first | refine blk_drewN ?_ _ | refine blk_drew ?_ | refine blk_alloc ?_ _)); exact BK357.out) hb); have n3_ := Aside0.mk (below_step (by repeat (first | (with_reducible first | exact HB.out | apply below_alloc | apply pw_below_drewN | apply below_drew1 | refine below_set ?_ GE357.out) | exact HB.out)) hb); clear HO_9; clear HO360; clear BK357; clear HB; have HO_9 := n0_; have HO360 := n1_; have BK357 := n2_; have HB := n3_; clear n0_ n1_ n2_ n3_; (try clear hb); (try clear hb2); (try clear hk); (try clear hi); have p363 : 0 ≤ (x54_3 : Int) := of_decide_eq_true (by first | (with_reducible assumption) | assumption); have q363 : x54_3 < (l1.length : Int) := of_decide_eq_true (by first | (with_reducible assumption) | assumption); obtain ⟨ad363, e363, hx363_0⟩ := Kd.at_int HR1.out x54_3 p363 q363; cases e363; replace hx363_0 := (HB.out.cell (World.block_lt_of_cell? w _ hx363_0)).trans hx363_0; replace p363 := eq_true p363; replace q363 := eq_true q363; obtain ⟨Ao42, co42, eo42⟩ := Kd.R_slice HO_9.out; subst eo42; have p364 : 0 ≤ ((ji30) : Int) := of_decide_eq_true (by first | (with_reducible assumption) | assumption); have q364 : (ji30) < (y347.length : Int) := of_decide_eq_true (by first | (with_reducible assumption) | assumption); obtain ⟨ad364, e364, hx364_0⟩ := Kd.at_string (Kd.R_reads' HO_9.out).2.2 (ji30) p364 q364; cases e364; replace p364 := eq_true p364; replace q364 := eq_true q364))
                                              go_roundg k3
                                              case measure => have := HJ5.out; have := HK2.out; have := HK3.out; omega
                                              case rel => exact ⟨(x10_3 ++ ((t361 ++ (⟨#[32]⟩ : ByteArray)) ++ (rdOf ByteArray.empty y347 (ji30)))), (wrap64 (x54_3 + 1)), (by first | rfl | (simp; done) | (simp only [← hji30] <;> (first | rfl | simp)) | (simp [*]; done)), (by first | rfl | (simp; done) | (simp [*]; done)), H', ⟨by have := HJ5.out; have := HK2.out; have := HK3.out; omega⟩, ⟨by (with_reducible repeat (first | apply Kd.R_alloc | apply Kd.R_drewN | apply Kd.R_drew)); exact HO_9.out⟩, ⟨by repeat (first | (with_reducible first | exact HB.out | apply below_alloc | apply pw_below_drewN | apply below_drew1 | refine below_set ?_ GE357.out) | exact HB.out)⟩⟩
                                            · rw [if_neg c35] at H
                                              exact absurd H (by simp)
                                          · rw [if_neg c34] at H
                                            exact absurd H (by simp)
                                        · rw [if_neg c33] at H
                                          exact absurd H (by simp)
                                      · rw [if_neg c32] at H
                                        exact absurd H (by simp)
                                    · rw [if_neg c31] at H
                                      exact absurd H (by simp)
                                · rw [if_neg c28] at H
                                  have c28b0 : decide (x54_3 < (l1.length : Int)) = false := decide_eq_false c28
                                  clear c28
                                  by_cases c43 : t361.size + 1 ≤ 9223372036854775807
                                  · rw [if_pos c43] at H
                                    have c43b0 := eq_true c43
                                    have c43b1 : decide (t361.size + 1 ≤ 9223372036854775807) = true := decide_eq_true c43
                                    try have c43b2 : (9223372036854775807 < t361.size + 1) = False := eq_false (Nat.not_lt.2 c43)
                                    by_cases c44 : (t361 ++ (⟨#[32]⟩ : ByteArray)).size + 1 ≤ 9223372036854775807
                                    · rw [if_pos c44] at H
                                      have c44n0 : (t361.size + 1 + 1 ≤ 9223372036854775807) = True := eq_true (by have h_ := c44; (try simp only [ByteArray.size_append] at h_); exact h_)
                                      have c44n1 : decide (t361.size + 1 + 1 ≤ 9223372036854775807) = true := decide_eq_true (by have h_ := c44; (try simp only [ByteArray.size_append] at h_); exact h_)
                                      have c44n2 : (9223372036854775807 < t361.size + 1 + 1) = False := eq_false (by have h_ := c44; (try simp only [ByteArray.size_append] at h_); exact Nat.not_lt.2 h_)
                                      have c44b0 := eq_true c44
                                      have c44b1 : decide ((t361 ++ (⟨#[32]⟩ : ByteArray)).size + 1 ≤ 9223372036854775807) = true := decide_eq_true c44
                                      try have c44b2 : (9223372036854775807 < (t361 ++ (⟨#[32]⟩ : ByteArray)).size + 1) = False := eq_false (Nat.not_lt.2 c44)
                                      by_cases c45 : x10_3.size + ((t361 ++ (⟨#[32]⟩ : ByteArray)) ++ (⟨#[32]⟩ : ByteArray)).size ≤ 9223372036854775807
                                      · rw [if_pos c45] at H
                                        have c45n0 : (x10_3.size + (t361.size + 1 + 1) ≤ 9223372036854775807) = True := eq_true (by have h_ := c45; (try simp only [ByteArray.size_append] at h_); exact h_)
                                        have c45n1 : decide (x10_3.size + (t361.size + 1 + 1) ≤ 9223372036854775807) = true := decide_eq_true (by have h_ := c45; (try simp only [ByteArray.size_append] at h_); exact h_)
                                        have c45n2 : (9223372036854775807 < x10_3.size + (t361.size + 1 + 1)) = False := eq_false (by have h_ := c45; (try simp only [ByteArray.size_append] at h_); exact Nat.not_lt.2 h_)
                                        have c45b0 := eq_true c45
                                        have c45b1 : decide (x10_3.size + ((t361 ++ (⟨#[32]⟩ : ByteArray)) ++ (⟨#[32]⟩ : ByteArray)).size ≤ 9223372036854775807) = true := decide_eq_true c45
                                        try have c45b2 : (9223372036854775807 < x10_3.size + ((t361 ++ (⟨#[32]⟩ : ByteArray)) ++ (⟨#[32]⟩ : ByteArray)).size) = False := eq_false (Nat.not_lt.2 c45)
                                        have H' := Aside0.mk H
                                        clear H
                                        have p356 : 0 ≤ (x54_3 : Int) := of_decide_eq_true (by first | (with_reducible assumption) | assumption)
                                        have q356 : x54_3 < (l0.length : Int) := of_decide_eq_true (by first | (with_reducible assumption) | assumption)
                                        obtain ⟨ad356, e356, hx356_0, hx356_1, hx356_2, hx356_3⟩ := at_T35 HR0.out x54_3 p356 q356
                                        cases e356
                                        replace hx356_0 := (HB.out.cell (World.block_lt_of_cell? w _ hx356_0)).trans hx356_0
                                        replace hx356_1 := (HB.out.cell (World.block_lt_of_cell? w _ hx356_1)).trans hx356_1
                                        replace hx356_2 := (HB.out.cell (World.block_lt_of_cell? w _ hx356_2)).trans hx356_2
                                        replace hx356_3 := (HB.out.cell (World.block_lt_of_cell? w _ hx356_3)).trans hx356_3
                                        replace p356 := eq_true p356
                                        replace q356 := eq_true q356
                                        go_wp2_with (first | ((with_reducible refine gate_dst (N := 12) rfl ?_); (try (refine gate_guard (by rfl) ?_; dsimp only)); refine box_event ?hg (N := 12) ?hd (cs := #[.int .i64 0, .string (⟨#[]⟩ : ByteArray), .int .i64 0, .int .i64 0]) (t := 35) ?hr ?_; (case hd => rfl); (case hg => rfl); (case hr => first | (go_simp; done) | (go_simp; rfl)); intro gb357 hg w46 hbox hb; have n0_ := Aside0.mk (Kd.R_below (by (with_reducible repeat (first | apply Kd.R_alloc | apply Kd.R_drewN | apply Kd.R_drew)); exact HO_9.out) hb); have n1_ := Aside0.mk (below_step (by repeat (first | (with_reducible first | exact HB.out | apply below_alloc | apply pw_below_drewN | apply below_drew1) | exact HB.out)) hb); have n2_ := Aside0.mk (hbox); have n3_ := Aside0.mk ((by rw [hg]; exact (below_size (by repeat (first | (with_reducible first | exact HB.out | apply below_alloc | apply pw_below_drewN | apply below_drew1) | exact HB.out))) : w.heap.size ≤ gb357)); have n4_ := Aside0.mk ((by rw [hg]; exact (below_size (by repeat (first | (with_reducible first | exact HB.out | apply below_alloc | apply pw_below_drewN | apply below_drew1) | exact HB.out))) : w.heap.size ≤ gb357)); clear HO_9; clear HB; have HO_9 := n0_; have HB := n1_; have BK357 := n2_; have GW357 := n3_; have GE357 := n4_; clear n0_ n1_ n2_ n3_ n4_; clear hb hbox hg; have hcz47_0 : w46.cell? ⟨gb357, 0, none⟩ = some (.int .i64 0) := (blk_cell BK357.out 0).trans rfl; have hcz47_1 : w46.cell? ⟨gb357, 1, none⟩ = some (.string (⟨#[]⟩ : ByteArray)) := (blk_cell BK357.out 1).trans rfl; have hcz47_2 : w46.cell? ⟨gb357, 2, none⟩ = some (.int .i64 0) := (blk_cell BK357.out 2).trans rfl; have hcz47_3 : w46.cell? ⟨gb357, 3, none⟩ = some (.int .i64 0) := (blk_cell BK357.out 3).trans rfl; have hfz47_0 := blk_frozen BK357.out 0; have hfz47_1 := blk_frozen BK357.out 1; have hfz47_2 := blk_frozen BK357.out 2; have hfz47_3 := blk_frozen BK357.out 3; have hcy47 := fun (x0 x1 x2 x3 x4 : Value) => (blk_cell (blk_set (blk_set (blk_set (blk_set (blk_set BK357.out 0 x0) 1 x1) 2 x2) 3 x3) 3 x4) 3).trans (show _ = some x4 from rfl)) | ((with_reducible refine gate_dst (N := 61) rfl ?_); (try (refine gate_guard (by rfl) ?_; dsimp only)); refine Kd.R_lit k35 _ 35 ?hg (N := 61) ?hd (xs := ([(⟨(rd_T35 l0 x54_3).f0, (rd_T35 l0 x54_3).f1, (rd_T35 l0 x54_3).f2, (rd_T35 l0 x54_3).f3⟩ : S35)] : List (S35))) (inner := [.int .i64 ((rd_T35 l0 x54_3).f0), .string ((rd_T35 l0 x54_3).f1), .int .i64 ((rd_T35 l0 x54_3).f2), .int .i64 ((rd_T35 l0 x54_3).f3)]) (ok := fun _ => True) (okp := fun _ => True) ?hr ?hp (fun _ hk => hk) trivial (Below.refl _ _) (Nat.le_refl _) (by simp) ?_; (case hd => rfl); (case hg => rfl); (case hr => first | (go_simp; done) | (go_simp; rfl)); (case hp => exact (Reps.c4 (show Kd.M k35 _ _ _ (⟨(rd_T35 l0 x54_3).f0, (rd_T35 l0 x54_3).f1, (rd_T35 l0 x54_3).f2, (rd_T35 l0 x54_3).f3⟩ : S35) [.int .i64 ((rd_T35 l0 x54_3).f0), .string ((rd_T35 l0 x54_3).f1), .int .i64 ((rd_T35 l0 x54_3).f2), .int .i64 ((rd_T35 l0 x54_3).f3)] from (k35_mkM _ _ _ (⟨(rd_T35 l0 x54_3).f0, (rd_T35 l0 x54_3).f1, (rd_T35 l0 x54_3).f2, (rd_T35 l0 x54_3).f3⟩ : S35) )) (Reps.none _ _))); intro v359 w48 ho49 hb hg_ hnew_; clear hg_ hnew_; (first | rw [← Ny358.out] at ho49 | (simp only [Int.reduceToNat] at ho49; rw [← Ny358.out] at ho49)); have n0_ := Aside0.mk (Kd.R_below (by (with_reducible repeat (first | apply Kd.R_alloc | apply Kd.R_drewN | apply Kd.R_drew)); exact (Kd.R_mono (Kd.R_far (p := ⟨gb357, 3, none⟩) (Kd.R_far (p := ⟨gb357, 2, none⟩) (Kd.R_far (p := ⟨gb357, 1, none⟩) (Kd.R_far (p := ⟨gb357, 0, none⟩) (Kd.R_types HO_9.out BK357.out (by decide)) (fun _ hk => hk.2) (.int .i64 ((rd_T35 l0 x54_3).f0))) (fun _ hk => hk.2) (.string ((rd_T35 l0 x54_3).f1))) (fun _ hk => hk.2) (.int .i64 ((rd_T35 l0 x54_3).f2))) (fun _ hk => hk.2) (.int .i64 ((rd_T35 l0 x54_3).f3))) (fun _ h_ => h_.1))) hb); have n1_ := Aside0.mk (Kd.R_lower (Kd.R_newB ho49 (g := gb357) (o := .cells #[.int .i64 ((rd_T35 l0 x54_3).f0), .string ((rd_T35 l0 x54_3).f1), .int .i64 ((rd_T35 l0 x54_3).f2), .int .i64 ((rd_T35 l0 x54_3).f3)] 35 (0, 0)) (by (with_reducible repeat (first | refine blk_drewN ?_ _ | refine blk_drew ?_ | refine blk_alloc ?_ _)); refine blk_put (cs := #[.int .i64 ((rd_T35 l0 x54_3).f0), .string ((rd_T35 l0 x54_3).f1), .int .i64 ((rd_T35 l0 x54_3).f2), .int .i64 0]) ?_ 3 _ rfl; (with_reducible repeat (first | refine blk_drewN ?_ _ | refine blk_drew ?_ | refine blk_alloc ?_ _)); refine blk_put (cs := #[.int .i64 ((rd_T35 l0 x54_3).f0), .string ((rd_T35 l0 x54_3).f1), .int .i64 0, .int .i64 0]) ?_ 2 _ rfl; (with_reducible repeat (first | refine blk_drewN ?_ _ | refine blk_drew ?_ | refine blk_alloc ?_ _)); refine blk_put (cs := #[.int .i64 ((rd_T35 l0 x54_3).f0), .string (⟨#[]⟩ : ByteArray), .int .i64 0, .int .i64 0]) ?_ 1 _ rfl; (with_reducible repeat (first | refine blk_drewN ?_ _ | refine blk_drew ?_ | refine blk_alloc ?_ _)); refine blk_put (cs := #[.int .i64 0, .string (⟨#[]⟩ : ByteArray), .int .i64 0, .int .i64 0]) ?_ 0 _ rfl; (with_reducible repeat (first | refine blk_drewN ?_ _ | refine blk_drew ?_ | refine blk_alloc ?_ _)); exact BK357.out)) (below_size (by repeat (first | (with_reducible first | exact HB.out | apply below_alloc | apply pw_below_drewN | apply below_drew1 | refine below_set ?_ GE357.out) | exact HB.out)))); have n2_ := Aside0.mk (blk_below (g := gb357) (o := .cells #[.int .i64 ((rd_T35 l0 x54_3).f0), .string ((rd_T35 l0 x54_3).f1), .int .i64 ((rd_T35 l0 x54_3).f2), .int .i64 ((rd_T35 l0 x54_3).f3)] 35 (0, 0)) (by (with_reducible repeat (first | refine blk_drewN ?_ _ | refine blk_drew ?_ | refine blk_alloc ?_ _)); refine blk_put (cs := #[.int .i64 ((rd_T35 l0 x54_3).f0), .string ((rd_T35 l0 x54_3).f1), .int .i64 ((rd_T35 l0 x54_3).f2), .int .i64 0]) ?_ 3 _ rfl; (with_reducible repeat (first | refine blk_drewN ?_ _ | refine blk_drew ?_ | refine blk_alloc ?_ _)); refine blk_put (cs := #[.int .i64 ((rd_T35 l0 x54_3).f0), .string ((rd_T35 l0 x54_3).f1), .int .i64 0, .int .i64 0]) ?_ 2 _ rfl; (with_reducible repeat (first | refine blk_drewN ?_ _ | refine blk_drew ?_ | refine blk_alloc ?_ _)); refine blk_put (cs := #[.int .i64 ((rd_T35 l0 x54_3).f0), .string (⟨#[]⟩ : ByteArray), .int .i64 0, .int .i64 0]) ?_ 1 _ rfl; (with_reducible repeat (first | refine blk_drewN ?_ _ | refine blk_drew ?_ | refine blk_alloc ?_ _)); refine blk_put (cs := #[.int .i64 0, .string (⟨#[]⟩ : ByteArray), .int .i64 0, .int .i64 0]) ?_ 0 _ rfl; (with_reducible repeat (first | refine blk_drewN ?_ _ | refine blk_drew ?_ | refine blk_alloc ?_ _)); exact BK357.out) hb); have n3_ := Aside0.mk (below_step (by repeat (first | (with_reducible first | exact HB.out | apply below_alloc | apply pw_below_drewN | apply below_drew1 | refine below_set ?_ GE357.out) | exact HB.out)) hb); clear HO_9; clear BK357; clear HB; have HO_9 := n0_; have HO360 := n1_; have BK357 := n2_; have HB := n3_; clear n0_ n1_ n2_ n3_; clear hb ho49; obtain ⟨Ao50, co50, eo50⟩ := Kd.R_slice HO360.out; subst eo50) | ((with_reducible refine gate_callee (f := 16) rfl ?_); refine goesL_ (some 62) rfl rfl Tryd.func16 (by kernel_rfl) rfl #[.slice Ao50 y358.length co50] rfl (by (try simp only [List.map_toArray, List.map_cons, List.map_nil]); first | done | rfl | (simp only [List.length_drop, List.length_take]; rfl)) ?_; (with_reducible refine (lex_Text.calls k3 _ _ y358 t361 t362 _ ?side1 ?side2 (GX.gl HGL.out (by repeat (first | (with_reducible first | exact HB.out | apply below_alloc | apply pw_below_drewN | apply below_drew1 | refine below_set ?_ GE357.out) | exact HB.out))) A26.out).mono ?_); (case side1 => repeat (first | exact (Kd.R_reads' HO360.out).2.2 | (with_reducible refine Kd.C_alloc ?_ _) | (with_reducible refine Kd.C_drewN ?_ _) | (with_reducible refine Kd.C_drew ?_))); (case side2 => exact (Kd.R_reads' HO360.out).2.1); rintro e w51 ⟨rfl, hb⟩; refine ⟨_, rfl, ?_⟩; have n0_ := Aside0.mk (Kd.R_below (by (with_reducible repeat (first | apply Kd.R_alloc | apply Kd.R_drewN | apply Kd.R_drew)); exact HO_9.out) hb); have n1_ := Aside0.mk (Kd.R_below (by (with_reducible repeat (first | apply Kd.R_alloc | apply Kd.R_drewN | apply Kd.R_drew)); exact HO360.out) hb); have n2_ := Aside0.mk (blk_below (g := gb357) (o := .cells #[.int .i64 ((rd_T35 l0 x54_3).f0), .string ((rd_T35 l0 x54_3).f1), .int .i64 ((rd_T35 l0 x54_3).f2), .int .i64 ((rd_T35 l0 x54_3).f3)] 35 (0, 0)) (by (with_reducible repeat (first | refine blk_drewN ?_ _ | refine blk_drew ?_ | refine blk_alloc ?_ _)); exact BK357.out) hb); have n3_ := Aside0.mk (below_step (by repeat (first | (with_reducible first | exact HB.out | apply below_alloc | apply pw_below_drewN | apply below_drew1 | refine below_set ?_ GE357.out) | exact HB.out)) hb); clear HO_9; clear HO360; clear BK357; clear HB; have HO_9 := n0_; have HO360 := n1_; have BK357 := n2_; have HB := n3_; clear n0_ n1_ n2_ n3_; (try clear hb); (try clear hb2); (try clear hk); (try clear hi)))
                                        go_roundg k3
                                        case measure => have := HJ5.out; have := HK2.out; have := HK3.out; omega
                                        case rel => exact ⟨(x10_3 ++ ((t361 ++ (⟨#[32]⟩ : ByteArray)) ++ (⟨#[32]⟩ : ByteArray))), (wrap64 (x54_3 + 1)), (by first | rfl | (simp; done) | (simp [*]; done)), (by first | rfl | (simp; done) | (simp [*]; done)), H', ⟨by have := HJ5.out; have := HK2.out; have := HK3.out; omega⟩, ⟨by (with_reducible repeat (first | apply Kd.R_alloc | apply Kd.R_drewN | apply Kd.R_drew)); exact HO_9.out⟩, ⟨by repeat (first | (with_reducible first | exact HB.out | apply below_alloc | apply pw_below_drewN | apply below_drew1 | refine below_set ?_ GE357.out) | exact HB.out)⟩⟩
                                      · rw [if_neg c45] at H
                                        exact absurd H (by simp)
                                    · rw [if_neg c44] at H
                                      exact absurd H (by simp)
                                  · rw [if_neg c43] at H
                                    exact absurd H (by simp)
                              · rw [if_neg c27] at H
                                have c27b0 : (t362 == 0) = false := beq_eq_false_iff_ne.mpr c27
                                have c27b1 : (t362 != 0) = true := bne_iff_ne.mpr c27
                                replace H := Option.bind_eq_some_iff.mp H
                                obtain ⟨⟨t365, t366⟩, A520, H⟩ := H
                                replace H : (some (t366 == 30)) = some r := H
                                have A52 := Aside0.mk A520
                                clear A520
                                obtain rfl := Option.some.inj H
                                have p356 : 0 ≤ (x54_3 : Int) := of_decide_eq_true (by first | (with_reducible assumption) | assumption)
                                have q356 : x54_3 < (l0.length : Int) := of_decide_eq_true (by first | (with_reducible assumption) | assumption)
                                obtain ⟨ad356, e356, hx356_0, hx356_1, hx356_2, hx356_3⟩ := at_T35 HR0.out x54_3 p356 q356
                                cases e356
                                replace hx356_0 := (HB.out.cell (World.block_lt_of_cell? w _ hx356_0)).trans hx356_0
                                replace hx356_1 := (HB.out.cell (World.block_lt_of_cell? w _ hx356_1)).trans hx356_1
                                replace hx356_2 := (HB.out.cell (World.block_lt_of_cell? w _ hx356_2)).trans hx356_2
                                replace hx356_3 := (HB.out.cell (World.block_lt_of_cell? w _ hx356_3)).trans hx356_3
                                replace p356 := eq_true p356
                                replace q356 := eq_true q356
                                go_wp2_with (first | ((with_reducible refine gate_dst (N := 12) rfl ?_); (try (refine gate_guard (by rfl) ?_; dsimp only)); refine box_event ?hg (N := 12) ?hd (cs := #[.int .i64 0, .string (⟨#[]⟩ : ByteArray), .int .i64 0, .int .i64 0]) (t := 35) ?hr ?_; (case hd => rfl); (case hg => rfl); (case hr => first | (go_simp; done) | (go_simp; rfl)); intro gb357 hg w53 hbox hb; have n0_ := Aside0.mk (Kd.R_below (by (with_reducible repeat (first | apply Kd.R_alloc | apply Kd.R_drewN | apply Kd.R_drew)); exact HO_9.out) hb); have n1_ := Aside0.mk (below_step (by repeat (first | (with_reducible first | exact HB.out | apply below_alloc | apply pw_below_drewN | apply below_drew1) | exact HB.out)) hb); have n2_ := Aside0.mk (hbox); have n3_ := Aside0.mk ((by rw [hg]; exact (below_size (by repeat (first | (with_reducible first | exact HB.out | apply below_alloc | apply pw_below_drewN | apply below_drew1) | exact HB.out))) : w.heap.size ≤ gb357)); have n4_ := Aside0.mk ((by rw [hg]; exact (below_size (by repeat (first | (with_reducible first | exact HB.out | apply below_alloc | apply pw_below_drewN | apply below_drew1) | exact HB.out))) : w.heap.size ≤ gb357)); clear HO_9; clear HB; have HO_9 := n0_; have HB := n1_; have BK357 := n2_; have GW357 := n3_; have GE357 := n4_; clear n0_ n1_ n2_ n3_ n4_; clear hb hbox hg; have hcz54_0 : w53.cell? ⟨gb357, 0, none⟩ = some (.int .i64 0) := (blk_cell BK357.out 0).trans rfl; have hcz54_1 : w53.cell? ⟨gb357, 1, none⟩ = some (.string (⟨#[]⟩ : ByteArray)) := (blk_cell BK357.out 1).trans rfl; have hcz54_2 : w53.cell? ⟨gb357, 2, none⟩ = some (.int .i64 0) := (blk_cell BK357.out 2).trans rfl; have hcz54_3 : w53.cell? ⟨gb357, 3, none⟩ = some (.int .i64 0) := (blk_cell BK357.out 3).trans rfl; have hfz54_0 := blk_frozen BK357.out 0; have hfz54_1 := blk_frozen BK357.out 1; have hfz54_2 := blk_frozen BK357.out 2; have hfz54_3 := blk_frozen BK357.out 3; have hcy54 := fun (x0 x1 x2 x3 x4 : Value) => (blk_cell (blk_set (blk_set (blk_set (blk_set (blk_set BK357.out 0 x0) 1 x1) 2 x2) 3 x3) 3 x4) 3).trans (show _ = some x4 from rfl)) | ((with_reducible refine gate_dst (N := 61) rfl ?_); (try (refine gate_guard (by rfl) ?_; dsimp only)); refine Kd.R_lit k35 _ 35 ?hg (N := 61) ?hd (xs := ([(⟨(rd_T35 l0 x54_3).f0, (rd_T35 l0 x54_3).f1, (rd_T35 l0 x54_3).f2, (rd_T35 l0 x54_3).f3⟩ : S35)] : List (S35))) (inner := [.int .i64 ((rd_T35 l0 x54_3).f0), .string ((rd_T35 l0 x54_3).f1), .int .i64 ((rd_T35 l0 x54_3).f2), .int .i64 ((rd_T35 l0 x54_3).f3)]) (ok := fun _ => True) (okp := fun _ => True) ?hr ?hp (fun _ hk => hk) trivial (Below.refl _ _) (Nat.le_refl _) (by simp) ?_; (case hd => rfl); (case hg => rfl); (case hr => first | (go_simp; done) | (go_simp; rfl)); (case hp => exact (Reps.c4 (show Kd.M k35 _ _ _ (⟨(rd_T35 l0 x54_3).f0, (rd_T35 l0 x54_3).f1, (rd_T35 l0 x54_3).f2, (rd_T35 l0 x54_3).f3⟩ : S35) [.int .i64 ((rd_T35 l0 x54_3).f0), .string ((rd_T35 l0 x54_3).f1), .int .i64 ((rd_T35 l0 x54_3).f2), .int .i64 ((rd_T35 l0 x54_3).f3)] from (k35_mkM _ _ _ (⟨(rd_T35 l0 x54_3).f0, (rd_T35 l0 x54_3).f1, (rd_T35 l0 x54_3).f2, (rd_T35 l0 x54_3).f3⟩ : S35) )) (Reps.none _ _))); intro v359 w55 ho56 hb hg_ hnew_; clear hg_ hnew_; (first | rw [← Ny358.out] at ho56 | (simp only [Int.reduceToNat] at ho56; rw [← Ny358.out] at ho56)); have n0_ := Aside0.mk (Kd.R_below (by (with_reducible repeat (first | apply Kd.R_alloc | apply Kd.R_drewN | apply Kd.R_drew)); exact (Kd.R_mono (Kd.R_far (p := ⟨gb357, 3, none⟩) (Kd.R_far (p := ⟨gb357, 2, none⟩) (Kd.R_far (p := ⟨gb357, 1, none⟩) (Kd.R_far (p := ⟨gb357, 0, none⟩) (Kd.R_types HO_9.out BK357.out (by decide)) (fun _ hk => hk.2) (.int .i64 ((rd_T35 l0 x54_3).f0))) (fun _ hk => hk.2) (.string ((rd_T35 l0 x54_3).f1))) (fun _ hk => hk.2) (.int .i64 ((rd_T35 l0 x54_3).f2))) (fun _ hk => hk.2) (.int .i64 ((rd_T35 l0 x54_3).f3))) (fun _ h_ => h_.1))) hb); have n1_ := Aside0.mk (Kd.R_lower (Kd.R_newB ho56 (g := gb357) (o := .cells #[.int .i64 ((rd_T35 l0 x54_3).f0), .string ((rd_T35 l0 x54_3).f1), .int .i64 ((rd_T35 l0 x54_3).f2), .int .i64 ((rd_T35 l0 x54_3).f3)] 35 (0, 0)) (by (with_reducible repeat (first | refine blk_drewN ?_ _ | refine blk_drew ?_ | refine blk_alloc ?_ _)); refine blk_put (cs := #[.int .i64 ((rd_T35 l0 x54_3).f0), .string ((rd_T35 l0 x54_3).f1), .int .i64 ((rd_T35 l0 x54_3).f2), .int .i64 0]) ?_ 3 _ rfl; (with_reducible repeat (first | refine blk_drewN ?_ _ | refine blk_drew ?_ | refine blk_alloc ?_ _)); refine blk_put (cs := #[.int .i64 ((rd_T35 l0 x54_3).f0), .string ((rd_T35 l0 x54_3).f1), .int .i64 0, .int .i64 0]) ?_ 2 _ rfl; (with_reducible repeat (first | refine blk_drewN ?_ _ | refine blk_drew ?_ | refine blk_alloc ?_ _)); refine blk_put (cs := #[.int .i64 ((rd_T35 l0 x54_3).f0), .string (⟨#[]⟩ : ByteArray), .int .i64 0, .int .i64 0]) ?_ 1 _ rfl; (with_reducible repeat (first | refine blk_drewN ?_ _ | refine blk_drew ?_ | refine blk_alloc ?_ _)); refine blk_put (cs := #[.int .i64 0, .string (⟨#[]⟩ : ByteArray), .int .i64 0, .int .i64 0]) ?_ 0 _ rfl; (with_reducible repeat (first | refine blk_drewN ?_ _ | refine blk_drew ?_ | refine blk_alloc ?_ _)); exact BK357.out)) (below_size (by repeat (first | (with_reducible first | exact HB.out | apply below_alloc | apply pw_below_drewN | apply below_drew1 | refine below_set ?_ GE357.out) | exact HB.out)))); have n2_ := Aside0.mk (blk_below (g := gb357) (o := .cells #[.int .i64 ((rd_T35 l0 x54_3).f0), .string ((rd_T35 l0 x54_3).f1), .int .i64 ((rd_T35 l0 x54_3).f2), .int .i64 ((rd_T35 l0 x54_3).f3)] 35 (0, 0)) (by (with_reducible repeat (first | refine blk_drewN ?_ _ | refine blk_drew ?_ | refine blk_alloc ?_ _)); refine blk_put (cs := #[.int .i64 ((rd_T35 l0 x54_3).f0), .string ((rd_T35 l0 x54_3).f1), .int .i64 ((rd_T35 l0 x54_3).f2), .int .i64 0]) ?_ 3 _ rfl; (with_reducible repeat (first | refine blk_drewN ?_ _ | refine blk_drew ?_ | refine blk_alloc ?_ _)); refine blk_put (cs := #[.int .i64 ((rd_T35 l0 x54_3).f0), .string ((rd_T35 l0 x54_3).f1), .int .i64 0, .int .i64 0]) ?_ 2 _ rfl; (with_reducible repeat (first | refine blk_drewN ?_ _ | refine blk_drew ?_ | refine blk_alloc ?_ _)); refine blk_put (cs := #[.int .i64 ((rd_T35 l0 x54_3).f0), .string (⟨#[]⟩ : ByteArray), .int .i64 0, .int .i64 0]) ?_ 1 _ rfl; (with_reducible repeat (first | refine blk_drewN ?_ _ | refine blk_drew ?_ | refine blk_alloc ?_ _)); refine blk_put (cs := #[.int .i64 0, .string (⟨#[]⟩ : ByteArray), .int .i64 0, .int .i64 0]) ?_ 0 _ rfl; (with_reducible repeat (first | refine blk_drewN ?_ _ | refine blk_drew ?_ | refine blk_alloc ?_ _)); exact BK357.out) hb); have n3_ := Aside0.mk (below_step (by repeat (first | (with_reducible first | exact HB.out | apply below_alloc | apply pw_below_drewN | apply below_drew1 | refine below_set ?_ GE357.out) | exact HB.out)) hb); clear HO_9; clear BK357; clear HB; have HO_9 := n0_; have HO360 := n1_; have BK357 := n2_; have HB := n3_; clear n0_ n1_ n2_ n3_; clear hb ho56; obtain ⟨Ao57, co57, eo57⟩ := Kd.R_slice HO360.out; subst eo57) | ((with_reducible refine gate_callee (f := 16) rfl ?_); refine goesL_ (some 62) rfl rfl Tryd.func16 (by kernel_rfl) rfl #[.slice Ao57 y358.length co57] rfl (by (try simp only [List.map_toArray, List.map_cons, List.map_nil]); first | done | rfl | (simp only [List.length_drop, List.length_take]; rfl)) ?_; (with_reducible refine (lex_Text.calls k3 _ _ y358 t361 t362 _ ?side1 ?side2 (GX.gl HGL.out (by repeat (first | (with_reducible first | exact HB.out | apply below_alloc | apply pw_below_drewN | apply below_drew1 | refine below_set ?_ GE357.out) | exact HB.out))) A26.out).mono ?_); (case side1 => repeat (first | exact (Kd.R_reads' HO360.out).2.2 | (with_reducible refine Kd.C_alloc ?_ _) | (with_reducible refine Kd.C_drewN ?_ _) | (with_reducible refine Kd.C_drew ?_))); (case side2 => exact (Kd.R_reads' HO360.out).2.1); rintro e w58 ⟨rfl, hb⟩; refine ⟨_, rfl, ?_⟩; have n0_ := Aside0.mk (Kd.R_below (by (with_reducible repeat (first | apply Kd.R_alloc | apply Kd.R_drewN | apply Kd.R_drew)); exact HO_9.out) hb); have n1_ := Aside0.mk (Kd.R_below (by (with_reducible repeat (first | apply Kd.R_alloc | apply Kd.R_drewN | apply Kd.R_drew)); exact HO360.out) hb); have n2_ := Aside0.mk (blk_below (g := gb357) (o := .cells #[.int .i64 ((rd_T35 l0 x54_3).f0), .string ((rd_T35 l0 x54_3).f1), .int .i64 ((rd_T35 l0 x54_3).f2), .int .i64 ((rd_T35 l0 x54_3).f3)] 35 (0, 0)) (by (with_reducible repeat (first | refine blk_drewN ?_ _ | refine blk_drew ?_ | refine blk_alloc ?_ _)); exact BK357.out) hb); have n3_ := Aside0.mk (below_step (by repeat (first | (with_reducible first | exact HB.out | apply below_alloc | apply pw_below_drewN | apply below_drew1 | refine below_set ?_ GE357.out) | exact HB.out)) hb); clear HO_9; clear HO360; clear BK357; clear HB; have HO_9 := n0_; have HO360 := n1_; have BK357 := n2_; have HB := n3_; clear n0_ n1_ n2_ n3_; (try clear hb); (try clear hb2); (try clear hk); (try clear hi)) | ((with_reducible refine gate_callee (f := 16) rfl ?_); refine goesL_ (some 69) rfl rfl Tryd.func16 (by kernel_rfl) rfl #[.slice (some ad356) l0.length c0] rfl (by (try simp only [List.map_toArray, List.map_cons, List.map_nil]); first | done | rfl | (simp only [List.length_drop, List.length_take]; rfl)) ?_; (with_reducible refine (lex_Text.calls k3 _ _ l0 t365 t366 _ ?side1 ?side2 (GX.gl HGL.out (by repeat (first | (with_reducible first | exact HB.out | apply below_alloc | apply pw_below_drewN | apply below_drew1 | refine below_set ?_ GE357.out) | exact HB.out))) A52.out).mono ?_); (case side1 => repeat (first | exact (Kd.C_below HR0.out HB.out) | (with_reducible refine Kd.C_alloc ?_ _) | (with_reducible refine Kd.C_drewN ?_ _) | (with_reducible refine Kd.C_drew ?_))); (case side2 => exact HC0.out); rintro e w59 ⟨rfl, hb⟩; refine ⟨_, rfl, ?_⟩; have n0_ := Aside0.mk (Kd.R_below (by (with_reducible repeat (first | apply Kd.R_alloc | apply Kd.R_drewN | apply Kd.R_drew)); exact HO_9.out) hb); have n1_ := Aside0.mk (Kd.R_below (by (with_reducible repeat (first | apply Kd.R_alloc | apply Kd.R_drewN | apply Kd.R_drew)); exact HO360.out) hb); have n2_ := Aside0.mk (blk_below (g := gb357) (o := .cells #[.int .i64 ((rd_T35 l0 x54_3).f0), .string ((rd_T35 l0 x54_3).f1), .int .i64 ((rd_T35 l0 x54_3).f2), .int .i64 ((rd_T35 l0 x54_3).f3)] 35 (0, 0)) (by (with_reducible repeat (first | refine blk_drewN ?_ _ | refine blk_drew ?_ | refine blk_alloc ?_ _)); exact BK357.out) hb); have n3_ := Aside0.mk (below_step (by repeat (first | (with_reducible first | exact HB.out | apply below_alloc | apply pw_below_drewN | apply below_drew1 | refine below_set ?_ GE357.out) | exact HB.out)) hb); clear HO_9; clear HO360; clear BK357; clear HB; have HO_9 := n0_; have HO360 := n1_; have BK357 := n2_; have HB := n3_; clear n0_ n1_ n2_ n3_; (try clear hb); (try clear hb2); (try clear hk); (try clear hi)))
                                go_ret
                                exact ⟨by first | rfl | (simp [errW_none, errW_some] <;> rfl) | (simp [*, errW_none, errW_some] <;> rfl), by repeat (first | (with_reducible first | exact HB.out | apply below_alloc | apply pw_below_drewN | apply below_drew1 | refine below_set ?_ GE357.out) | exact HB.out)⟩
                            · rw [if_neg c25] at H
                              exact absurd H (by simp)
                          · rw [if_neg c24] at H
                            exact absurd H (by simp)
                        · rw [if_neg c23] at H
                          have c23b0 : decide (x54_3 < (l0.length : Int)) = false := decide_eq_false c23
                          clear c23
                          replace H := Option.bind_eq_some_iff.mp H
                          obtain ⟨⟨t350, t351, t352⟩, A600, H⟩ := H
                          replace H : (if t352 = 0 then (if t351 = 0 then ((lex_Same.f l0 t350).bind fun t355 => (some t355)) else (some false)) else (some false)) = some r := H
                          have A60 := Aside0.mk A600
                          clear A600
                          by_cases c61 : t352 = 0
                          · rw [if_pos c61] at H
                            have c61b0 : (t352 == 0) = true := beq_iff_eq.mpr c61
                            have c61b1 : (t352 != 0) = false := bne_eq_false_iff_eq.mpr c61
                            clear c61
                            by_cases c62 : t351 = 0
                            · rw [if_pos c62] at H
                              have c62b0 : (t351 == 0) = true := beq_iff_eq.mpr c62
                              have c62b1 : (t351 != 0) = false := bne_eq_false_iff_eq.mpr c62
                              clear c62
                              replace H := Option.bind_eq_some_iff.mp H
                              obtain ⟨t355, A630, H⟩ := H
                              replace H : (some t355) = some r := H
                              have A63 := Aside0.mk A630
                              clear A630
                              obtain rfl := Option.some.inj H
                              go_wp2_with (first | ((with_reducible refine gate_callee (f := 12) rfl ?_); refine goesL_ (some 98) rfl rfl Tryd.func12 (by kernel_rfl) rfl #[.string x10_3] rfl (by (try simp only [List.map_toArray, List.map_cons, List.map_nil]); first | done | rfl | (simp only [List.length_drop, List.length_take]; rfl)) ?_; (with_reducible refine (lex_Lex.calls x10_3 t350 t351 t352 _ (GX.gl HGL.out (by repeat (first | (with_reducible first | exact HB.out | apply below_alloc | apply pw_below_drewN | apply below_drew1) | exact HB.out))) A60.out).mono ?_); rintro e w64 ⟨v353, rfl, ho0, hb⟩; refine ⟨_, rfl, ?_⟩; have n0_ := Aside0.mk (Kd.R_below (by (with_reducible repeat (first | apply Kd.R_alloc | apply Kd.R_drewN | apply Kd.R_drew)); exact HO_9.out) hb); have n1_ := Aside0.mk (Kd.R_lower ho0 (below_size (by repeat (first | (with_reducible first | exact HB.out | apply below_alloc | apply pw_below_drewN | apply below_drew1) | exact HB.out)))); have n2_ := Aside0.mk (below_step (by repeat (first | (with_reducible first | exact HB.out | apply below_alloc | apply pw_below_drewN | apply below_drew1) | exact HB.out)) hb); clear HO_9; clear HB; have HO_9 := n0_; have HO354 := n1_; have HB := n2_; clear n0_ n1_ n2_; (try clear hb); (try clear hb2); (try clear hk); (try clear hi); (try clear ho0); obtain ⟨Ao65, co65, eo65⟩ := Kd.R_slice HO354.out; subst eo65) | (go_at_call 18; (with_reducible refine (lex_Same.calls _ _ l0 _ _ t350 t355 _ ?side1 ?side2 ?side3 ?side4 A63.out).mono ?_); (case side1 => repeat (first | exact (Kd.C_below HR0.out HB.out) | (with_reducible refine Kd.C_alloc ?_ _) | (with_reducible refine Kd.C_drewN ?_ _) | (with_reducible refine Kd.C_drew ?_))); (case side2 => exact HC0.out); (case side3 => repeat (first | exact (Kd.R_reads' HO354.out).2.2 | (with_reducible refine Kd.C_alloc ?_ _) | (with_reducible refine Kd.C_drewN ?_ _) | (with_reducible refine Kd.C_drew ?_))); (case side4 => exact (Kd.R_reads' HO354.out).2.1); rintro e w66 ⟨rfl, hb⟩; have n0_ := Aside0.mk (Kd.R_below (by (with_reducible repeat (first | apply Kd.R_alloc | apply Kd.R_drewN | apply Kd.R_drew)); exact HO_9.out) hb); have n1_ := Aside0.mk (Kd.R_below (by (with_reducible repeat (first | apply Kd.R_alloc | apply Kd.R_drewN | apply Kd.R_drew)); exact HO354.out) hb); have n2_ := Aside0.mk (below_step (by repeat (first | (with_reducible first | exact HB.out | apply below_alloc | apply pw_below_drewN | apply below_drew1) | exact HB.out)) hb); clear HO_9; clear HO354; clear HB; have HO_9 := n0_; have HO354 := n1_; have HB := n2_; clear n0_ n1_ n2_; (try clear hb); (try clear hb2); (try clear hk); (try clear hi)))
                              go_ret
                              exact ⟨by first | rfl | (simp [errW_none, errW_some] <;> rfl) | (simp [*, errW_none, errW_some] <;> rfl), by repeat (first | (with_reducible first | exact HB.out | apply below_alloc | apply pw_below_drewN | apply below_drew1) | exact HB.out)⟩
                            · rw [if_neg c62] at H
                              have c62b0 : (t351 == 0) = false := beq_eq_false_iff_ne.mpr c62
                              have c62b1 : (t351 != 0) = true := bne_iff_ne.mpr c62
                              obtain rfl := Option.some.inj H
                              go_wp2_with (first | ((with_reducible refine gate_callee (f := 12) rfl ?_); refine goesL_ (some 98) rfl rfl Tryd.func12 (by kernel_rfl) rfl #[.string x10_3] rfl (by (try simp only [List.map_toArray, List.map_cons, List.map_nil]); first | done | rfl | (simp only [List.length_drop, List.length_take]; rfl)) ?_; (with_reducible refine (lex_Lex.calls x10_3 t350 t351 t352 _ (GX.gl HGL.out (by repeat (first | (with_reducible first | exact HB.out | apply below_alloc | apply pw_below_drewN | apply below_drew1) | exact HB.out))) A60.out).mono ?_); rintro e w67 ⟨v353, rfl, ho0, hb⟩; refine ⟨_, rfl, ?_⟩; have n0_ := Aside0.mk (Kd.R_below (by (with_reducible repeat (first | apply Kd.R_alloc | apply Kd.R_drewN | apply Kd.R_drew)); exact HO_9.out) hb); have n1_ := Aside0.mk (Kd.R_lower ho0 (below_size (by repeat (first | (with_reducible first | exact HB.out | apply below_alloc | apply pw_below_drewN | apply below_drew1) | exact HB.out)))); have n2_ := Aside0.mk (below_step (by repeat (first | (with_reducible first | exact HB.out | apply below_alloc | apply pw_below_drewN | apply below_drew1) | exact HB.out)) hb); clear HO_9; clear HB; have HO_9 := n0_; have HO354 := n1_; have HB := n2_; clear n0_ n1_ n2_; (try clear hb); (try clear hb2); (try clear hk); (try clear hi); (try clear ho0)))
                              go_ret
                              exact ⟨by first | rfl | (simp [errW_none, errW_some] <;> rfl) | (simp [*, errW_none, errW_some] <;> rfl), by repeat (first | (with_reducible first | exact HB.out | apply below_alloc | apply pw_below_drewN | apply below_drew1) | exact HB.out)⟩
                          · rw [if_neg c61] at H
                            have c61b0 : (t352 == 0) = false := beq_eq_false_iff_ne.mpr c61
                            have c61b1 : (t352 != 0) = true := bne_iff_ne.mpr c61
                            obtain rfl := Option.some.inj H
                            go_wp2_with (first | ((with_reducible refine gate_callee (f := 12) rfl ?_); refine goesL_ (some 98) rfl rfl Tryd.func12 (by kernel_rfl) rfl #[.string x10_3] rfl (by (try simp only [List.map_toArray, List.map_cons, List.map_nil]); first | done | rfl | (simp only [List.length_drop, List.length_take]; rfl)) ?_; (with_reducible refine (lex_Lex.calls x10_3 t350 t351 t352 _ (GX.gl HGL.out (by repeat (first | (with_reducible first | exact HB.out | apply below_alloc | apply pw_below_drewN | apply below_drew1) | exact HB.out))) A60.out).mono ?_); rintro e w68 ⟨v353, rfl, ho0, hb⟩; refine ⟨_, rfl, ?_⟩; have n0_ := Aside0.mk (Kd.R_below (by (with_reducible repeat (first | apply Kd.R_alloc | apply Kd.R_drewN | apply Kd.R_drew)); exact HO_9.out) hb); have n1_ := Aside0.mk (Kd.R_lower ho0 (below_size (by repeat (first | (with_reducible first | exact HB.out | apply below_alloc | apply pw_below_drewN | apply below_drew1) | exact HB.out)))); have n2_ := Aside0.mk (below_step (by repeat (first | (with_reducible first | exact HB.out | apply below_alloc | apply pw_below_drewN | apply below_drew1) | exact HB.out)) hb); clear HO_9; clear HB; have HO_9 := n0_; have HO354 := n1_; have HB := n2_; clear n0_ n1_ n2_; (try clear hb); (try clear hb2); (try clear hk); (try clear hi); (try clear ho0)))
                            go_ret
                            exact ⟨by first | rfl | (simp [errW_none, errW_some] <;> rfl) | (simp [*, errW_none, errW_some] <;> rfl), by repeat (first | (with_reducible first | exact HB.out | apply below_alloc | apply pw_below_drewN | apply below_drew1) | exact HB.out)⟩
                  · rw [if_neg c20] at H
                    exact absurd H (by simp)
                · rw [if_neg c19] at H
                  exact absurd H (by simp)
  · replace c5 := Bool.eq_false_iff.mpr c5
    subst c5
    have H1 : (some false) = some r := by rw [if_neg (show ¬ (false = true) by decide)] at H; exact H
    clear H
    have H := H1
    clear H1
    obtain rfl := Option.some.inj H
    go_enter Tryd.func8, Tryd.ntmps8
    go_wp2_with (first | ((with_reducible refine gate_callee (f := 11) rfl ?_); refine goesL_ (some 21) rfl rfl Tryd.func11 (by kernel_rfl) rfl #[] rfl (by (try simp only [List.map_toArray, List.map_cons, List.map_nil]); first | done | rfl | (simp only [List.length_drop, List.length_take]; rfl)) ?_; (with_reducible refine (fastilaw03_sane.calls k  false _ (GX.gl HGL.out (by repeat (first | (with_reducible first | exact HB.out | apply below_alloc | apply pw_below_drewN | apply below_drew1) | exact HB.out))) A4.out).mono ?_); rintro e w69 ⟨rfl, hb⟩; refine ⟨_, rfl, ?_⟩; have n0_ := Aside0.mk (below_step (by repeat (first | (with_reducible first | exact HB.out | apply below_alloc | apply pw_below_drewN | apply below_drew1) | exact HB.out)) hb); clear HB; have HB := n0_; clear n0_; (try clear hb); (try clear hb2); (try clear hk); (try clear hi)))
    go_ret
    exact ⟨by first | rfl | (simp [errW_none, errW_some] <;> rfl) | (simp [*, errW_none, errW_some] <;> rfl), by repeat (first | (with_reducible first | exact HB.out | apply below_alloc | apply pw_below_drewN | apply below_drew1) | exact HB.out)⟩

end Go.Proofs.YtcckpmijdckocaaDoor.X
