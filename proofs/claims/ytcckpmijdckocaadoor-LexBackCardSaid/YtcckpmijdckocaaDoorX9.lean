/- Proved here: for functions of the program and of the reference, what each call returns (theorems '.calls'), under the conditions that each theorem names. Printed by this project's own driver over the kit's printer; parts marked EXT are written by hand. Lean checks it. -/
import Derived.Test.YtcckpmijdckocaaDoorX0
import Derived.Test.YtcckpmijdckocaaDoorX2
import Derived.Test.YtcckpmijdckocaaDoorX4
import Derived.Test.YtcckpmijdckocaaDoorX7
import Derived.Test.YtcckpmijdckocaaDoorX8
import Derived.Test.YtcckpmijdckocaaDoorXLex
namespace Go.Proofs.YtcckpmijdckocaaDoor.X
open Go.RowKit Go.Proofs.YtcckpmijdckocaaDoorW.PrintWords Go.Proofs.YtcckpmijdckocaaDoorW.PrintLast Go.Proofs.YtcckpmijdckocaaDoorW.PrintMore
attribute [local go_sem] max2_int min2_int max_two min_two max_three min_three max_four min_four   -- for this text's walks alone
set_option linter.unusedVariables false
set_option linter.unusedSimpArgs false

-- IMPORTS: Derived.Test.YtcckpmijdckocaaDoorXLex
/-! ### fastilaw03_sane: function 11 -/
def fastilaw03_sane.j0 : Nat → List (S35) → List (S35) → List (S35) → List (S35) → List (S35) → ByteArray → Bool → Option (Bool)
  | 0, _, _, _, _, _, _, _ => none
  | k + 1, x1, x4, x8, x11, x17, x20, x127 => if x127 = true then (some false) else ((fastiref03_Equal.f k x1 x4).bind fun t171 => (if t171 = true then (if (x8.length : Int) = 1 then (if 0 < (x8.length : Int) then (if ((rd_T35 x8 0).f2) = 1099511627776 then (if (x11.length : Int) = 1 then (if 0 < (x11.length : Int) then (if ((rd_T35 x11 0).f1).toList = ([97] : List UInt8) then (if x20.toList = ([97, 32, 61, 32, 49] : List UInt8) then ((lex_Name.f k (⟨#[66, 95, 49, 50]⟩ : ByteArray)).bind fun t174 => (if t174 = true then ((lex_Name.f k (⟨#[95, 49, 50]⟩ : ByteArray)).bind fun t175 => (if t175 = true then (some false) else ((lex_Same.f x11 x17).bind fun t176 => (if t176 = true then (some false) else ((lex_Same.f x11 (([(⟨1, (⟨#[97]⟩ : ByteArray), 0, 9⟩ : S35)] : List (S35)))).bind fun t180 => (some t180)))))) else (some false))) else (some false)) else (some false)) else (none)) else (some false)) else (some false)) else (none)) else (some false)) else (some false)))
def fastilaw03_sane.f (k : Nat)  : Option (Bool) := (lex_Lex.f (⟨#[115, 117, 109, 32, 51, 48, 59]⟩ : ByteArray)).bind fun bt126 => ((some (([(⟨1, (⟨#[115, 117, 109]⟩ : ByteArray), 0, 0⟩ : S35), (⟨2, (⟨#[]⟩ : ByteArray), 30, 4⟩ : S35), (⟨3, (⟨#[59]⟩ : ByteArray), 0, 6⟩ : S35)] : List (S35)) : List (S35))).bind fun y131 => ((lex_Lex.f (⟨#[48, 48, 55]⟩ : ByteArray)).bind fun bt134 => ((lex_Lex.f (⟨#[49, 48, 57, 57, 53, 49, 49, 54, 50, 55, 55, 55, 54]⟩ : ByteArray)).bind fun bt139 => ((lex_Lex.f (⟨#[97, 32, 47, 47, 32, 98]⟩ : ByteArray)).bind fun bt144 => ((lex_Lex.f (⟨#[97, 32, 36]⟩ : ByteArray)).bind fun bt149 => ((lex_Lex.f (⟨#[97, 61, 49]⟩ : ByteArray)).bind fun bt154 => ((lex_Text.f k bt154.1).bind fun bt159 => ((lex_Lex.f (⟨#[]⟩ : ByteArray)).bind fun bt161 => ((lex_Text.f k (([(⟨0, (⟨#[]⟩ : ByteArray), 0, 0⟩ : S35)] : List (S35)))).bind fun bt169 => (if bt126.2.1 = 0 then (if bt126.2.2 = 0 then (if bt134.2.2 = 30 then (if bt134.2.1 = 0 then (if bt139.2.2 = 0 then (if bt144.2.2 = 0 then (if bt149.2.2 = 30 then (if bt149.2.1 = 2 then (if bt154.2.2 = 0 then (if bt159.2 = 0 then (if bt161.2.2 = 0 then (if bt169.2 = 30 then (fastilaw03_sane.j0 k bt126.1 y131 bt139.1 bt144.1 bt154.1 bt159.1 ((bt161.1.length : Int) != 0)) else (fastilaw03_sane.j0 k bt126.1 y131 bt139.1 bt144.1 bt154.1 bt159.1 true)) else (fastilaw03_sane.j0 k bt126.1 y131 bt139.1 bt144.1 bt154.1 bt159.1 true)) else (fastilaw03_sane.j0 k bt126.1 y131 bt139.1 bt144.1 bt154.1 bt159.1 true)) else (fastilaw03_sane.j0 k bt126.1 y131 bt139.1 bt144.1 bt154.1 bt159.1 true)) else (fastilaw03_sane.j0 k bt126.1 y131 bt139.1 bt144.1 bt154.1 bt159.1 true)) else (fastilaw03_sane.j0 k bt126.1 y131 bt139.1 bt144.1 bt154.1 bt159.1 true)) else (fastilaw03_sane.j0 k bt126.1 y131 bt139.1 bt144.1 bt154.1 bt159.1 true)) else (fastilaw03_sane.j0 k bt126.1 y131 bt139.1 bt144.1 bt154.1 bt159.1 true)) else (fastilaw03_sane.j0 k bt126.1 y131 bt139.1 bt144.1 bt154.1 bt159.1 true)) else (fastilaw03_sane.j0 k bt126.1 y131 bt139.1 bt144.1 bt154.1 bt159.1 true)) else (fastilaw03_sane.j0 k bt126.1 y131 bt139.1 bt144.1 bt154.1 bt159.1 true)) else (fastilaw03_sane.j0 k bt126.1 y131 bt139.1 bt144.1 bt154.1 bt159.1 true)))))))))))
theorem fastilaw03_sane.mono_l : ∀ k, (∀ y0 y1 y2 y3 y4 y5 y6, LeO (fastilaw03_sane.j0 k y0 y1 y2 y3 y4 y5 y6) (fastilaw03_sane.j0 (k + 1) y0 y1 y2 y3 y4 y5 y6))
  | 0 => fun _ _ _ _ _ _ _ r h => by simp [fastilaw03_sane.j0] at h
  | k + 1 => by
    have ih0 := fastilaw03_sane.mono_l k
    · intro y0 y1 y2 y3 y4 y5 y6
      unfold fastilaw03_sane.j0
      repeat' first
      | (with_reducible exact ih0 _ _ _ _ _ _ _)
      | (with_reducible exact fastiref03_Equal.mono _ _ _)
      | (with_reducible exact lex_Name.mono _ _)
      | (with_reducible exact lex_Text.mono _ _)
      | (with_reducible exact LeO.refl _)
      | (with_reducible exact LeO.none _)
      | (with_reducible refine LeO.ite ?_ ?_)
      | (with_reducible refine LeO.bind ?_ (fun _ => ?_))
      | exact ih0 _ _ _ _ _ _ _
      | exact fastiref03_Equal.mono _ _ _
      | exact lex_Name.mono _ _
      | exact lex_Text.mono _ _
      | exact LeO.none _
      | refine LeO.ite ?_ ?_
      | refine LeO.bind ?_ (fun _ => ?_)
theorem fastilaw03_sane.mono : ∀ k, LeO (fastilaw03_sane.f k ) (fastilaw03_sane.f (k + 1) ) := by
  intro  k
  have ih0 := fastilaw03_sane.mono_l k
  unfold fastilaw03_sane.f
  repeat' first
      | (with_reducible exact ih0 _ _ _ _ _ _ _)
      | (with_reducible exact fastiref03_Equal.mono _ _ _)
      | (with_reducible exact lex_Name.mono _ _)
      | (with_reducible exact lex_Text.mono _ _)
      | (with_reducible exact LeO.refl _)
      | (with_reducible exact LeO.none _)
      | (with_reducible refine LeO.ite ?_ ?_)
      | (with_reducible refine LeO.bind ?_ (fun _ => ?_))
      | exact ih0 _ _ _ _ _ _ _
      | exact fastiref03_Equal.mono _ _ _
      | exact lex_Name.mono _ _
      | exact lex_Text.mono _ _
      | exact LeO.none _
      | refine LeO.ite ?_ ?_
      | refine LeO.bind ?_ (fun _ => ?_)
set_option maxHeartbeats 8000000 in
set_option maxRecDepth 100000 in
theorem fastilaw03_sane.calls (k : Nat)  (r : Bool) (w : World) (hgl : GX.Glob w) (h : fastilaw03_sane.f k  = some r) :
    Calls Tryd.prog 11 #[] w fun e w' => e = .returned (.bool r) ∧ Below w.heap.size w w' := by
  have HGL := Aside0.mk hgl
  clear hgl
  have hu35 := Tryd.underlying35
  have HB := Aside0.mk (Below.refl w.heap.size w)
  have H : ((lex_Lex.f (⟨#[115, 117, 109, 32, 51, 48, 59]⟩ : ByteArray)).bind fun bt126 => ((some (([(⟨1, (⟨#[115, 117, 109]⟩ : ByteArray), 0, 0⟩ : S35), (⟨2, (⟨#[]⟩ : ByteArray), 30, 4⟩ : S35), (⟨3, (⟨#[59]⟩ : ByteArray), 0, 6⟩ : S35)] : List (S35)) : List (S35))).bind fun y131 => ((lex_Lex.f (⟨#[48, 48, 55]⟩ : ByteArray)).bind fun bt134 => ((lex_Lex.f (⟨#[49, 48, 57, 57, 53, 49, 49, 54, 50, 55, 55, 55, 54]⟩ : ByteArray)).bind fun bt139 => ((lex_Lex.f (⟨#[97, 32, 47, 47, 32, 98]⟩ : ByteArray)).bind fun bt144 => ((lex_Lex.f (⟨#[97, 32, 36]⟩ : ByteArray)).bind fun bt149 => ((lex_Lex.f (⟨#[97, 61, 49]⟩ : ByteArray)).bind fun bt154 => ((lex_Text.f k bt154.1).bind fun bt159 => ((lex_Lex.f (⟨#[]⟩ : ByteArray)).bind fun bt161 => ((lex_Text.f k (([(⟨0, (⟨#[]⟩ : ByteArray), 0, 0⟩ : S35)] : List (S35)))).bind fun bt169 => (if bt126.2.1 = 0 then (if bt126.2.2 = 0 then (if bt134.2.2 = 30 then (if bt134.2.1 = 0 then (if bt139.2.2 = 0 then (if bt144.2.2 = 0 then (if bt149.2.2 = 30 then (if bt149.2.1 = 2 then (if bt154.2.2 = 0 then (if bt159.2 = 0 then (if bt161.2.2 = 0 then (if bt169.2 = 30 then (fastilaw03_sane.j0 k bt126.1 y131 bt139.1 bt144.1 bt154.1 bt159.1 ((bt161.1.length : Int) != 0)) else (fastilaw03_sane.j0 k bt126.1 y131 bt139.1 bt144.1 bt154.1 bt159.1 true)) else (fastilaw03_sane.j0 k bt126.1 y131 bt139.1 bt144.1 bt154.1 bt159.1 true)) else (fastilaw03_sane.j0 k bt126.1 y131 bt139.1 bt144.1 bt154.1 bt159.1 true)) else (fastilaw03_sane.j0 k bt126.1 y131 bt139.1 bt144.1 bt154.1 bt159.1 true)) else (fastilaw03_sane.j0 k bt126.1 y131 bt139.1 bt144.1 bt154.1 bt159.1 true)) else (fastilaw03_sane.j0 k bt126.1 y131 bt139.1 bt144.1 bt154.1 bt159.1 true)) else (fastilaw03_sane.j0 k bt126.1 y131 bt139.1 bt144.1 bt154.1 bt159.1 true)) else (fastilaw03_sane.j0 k bt126.1 y131 bt139.1 bt144.1 bt154.1 bt159.1 true)) else (fastilaw03_sane.j0 k bt126.1 y131 bt139.1 bt144.1 bt154.1 bt159.1 true)) else (fastilaw03_sane.j0 k bt126.1 y131 bt139.1 bt144.1 bt154.1 bt159.1 true)) else (fastilaw03_sane.j0 k bt126.1 y131 bt139.1 bt144.1 bt154.1 bt159.1 true)) else (fastilaw03_sane.j0 k bt126.1 y131 bt139.1 bt144.1 bt154.1 bt159.1 true)))))))))))) = some r := h
  clear h
  replace H := Option.bind_eq_some_iff.mp H
  obtain ⟨⟨t126, t127, t128⟩, A10, H⟩ := H
  replace H : ((some (([(⟨1, (⟨#[115, 117, 109]⟩ : ByteArray), 0, 0⟩ : S35), (⟨2, (⟨#[]⟩ : ByteArray), 30, 4⟩ : S35), (⟨3, (⟨#[59]⟩ : ByteArray), 0, 6⟩ : S35)] : List (S35)) : List (S35))).bind fun y131 => ((lex_Lex.f (⟨#[48, 48, 55]⟩ : ByteArray)).bind fun bt134 => ((lex_Lex.f (⟨#[49, 48, 57, 57, 53, 49, 49, 54, 50, 55, 55, 55, 54]⟩ : ByteArray)).bind fun bt139 => ((lex_Lex.f (⟨#[97, 32, 47, 47, 32, 98]⟩ : ByteArray)).bind fun bt144 => ((lex_Lex.f (⟨#[97, 32, 36]⟩ : ByteArray)).bind fun bt149 => ((lex_Lex.f (⟨#[97, 61, 49]⟩ : ByteArray)).bind fun bt154 => ((lex_Text.f k bt154.1).bind fun bt159 => ((lex_Lex.f (⟨#[]⟩ : ByteArray)).bind fun bt161 => ((lex_Text.f k (([(⟨0, (⟨#[]⟩ : ByteArray), 0, 0⟩ : S35)] : List (S35)))).bind fun bt169 => (if t127 = 0 then (if t128 = 0 then (if bt134.2.2 = 30 then (if bt134.2.1 = 0 then (if bt139.2.2 = 0 then (if bt144.2.2 = 0 then (if bt149.2.2 = 30 then (if bt149.2.1 = 2 then (if bt154.2.2 = 0 then (if bt159.2 = 0 then (if bt161.2.2 = 0 then (if bt169.2 = 30 then (fastilaw03_sane.j0 k t126 y131 bt139.1 bt144.1 bt154.1 bt159.1 ((bt161.1.length : Int) != 0)) else (fastilaw03_sane.j0 k t126 y131 bt139.1 bt144.1 bt154.1 bt159.1 true)) else (fastilaw03_sane.j0 k t126 y131 bt139.1 bt144.1 bt154.1 bt159.1 true)) else (fastilaw03_sane.j0 k t126 y131 bt139.1 bt144.1 bt154.1 bt159.1 true)) else (fastilaw03_sane.j0 k t126 y131 bt139.1 bt144.1 bt154.1 bt159.1 true)) else (fastilaw03_sane.j0 k t126 y131 bt139.1 bt144.1 bt154.1 bt159.1 true)) else (fastilaw03_sane.j0 k t126 y131 bt139.1 bt144.1 bt154.1 bt159.1 true)) else (fastilaw03_sane.j0 k t126 y131 bt139.1 bt144.1 bt154.1 bt159.1 true)) else (fastilaw03_sane.j0 k t126 y131 bt139.1 bt144.1 bt154.1 bt159.1 true)) else (fastilaw03_sane.j0 k t126 y131 bt139.1 bt144.1 bt154.1 bt159.1 true)) else (fastilaw03_sane.j0 k t126 y131 bt139.1 bt144.1 bt154.1 bt159.1 true)) else (fastilaw03_sane.j0 k t126 y131 bt139.1 bt144.1 bt154.1 bt159.1 true)) else (fastilaw03_sane.j0 k t126 y131 bt139.1 bt144.1 bt154.1 bt159.1 true))))))))))) = some r := H
  have A1 := Aside0.mk A10
  clear A10
  obtain ⟨y131, hy131⟩ : ∃ y_ : List (S35), y_ = (([(⟨1, (⟨#[115, 117, 109]⟩ : ByteArray), 0, 0⟩ : S35), (⟨2, (⟨#[]⟩ : ByteArray), 30, 4⟩ : S35), (⟨3, (⟨#[59]⟩ : ByteArray), 0, 6⟩ : S35)] : List (S35))) := ⟨_, rfl⟩
  replace H : ((lex_Lex.f (⟨#[48, 48, 55]⟩ : ByteArray)).bind fun bt134 => ((lex_Lex.f (⟨#[49, 48, 57, 57, 53, 49, 49, 54, 50, 55, 55, 55, 54]⟩ : ByteArray)).bind fun bt139 => ((lex_Lex.f (⟨#[97, 32, 47, 47, 32, 98]⟩ : ByteArray)).bind fun bt144 => ((lex_Lex.f (⟨#[97, 32, 36]⟩ : ByteArray)).bind fun bt149 => ((lex_Lex.f (⟨#[97, 61, 49]⟩ : ByteArray)).bind fun bt154 => ((lex_Text.f k bt154.1).bind fun bt159 => ((lex_Lex.f (⟨#[]⟩ : ByteArray)).bind fun bt161 => ((lex_Text.f k (([(⟨0, (⟨#[]⟩ : ByteArray), 0, 0⟩ : S35)] : List (S35)))).bind fun bt169 => (if t127 = 0 then (if t128 = 0 then (if bt134.2.2 = 30 then (if bt134.2.1 = 0 then (if bt139.2.2 = 0 then (if bt144.2.2 = 0 then (if bt149.2.2 = 30 then (if bt149.2.1 = 2 then (if bt154.2.2 = 0 then (if bt159.2 = 0 then (if bt161.2.2 = 0 then (if bt169.2 = 30 then (fastilaw03_sane.j0 k t126 y131 bt139.1 bt144.1 bt154.1 bt159.1 ((bt161.1.length : Int) != 0)) else (fastilaw03_sane.j0 k t126 y131 bt139.1 bt144.1 bt154.1 bt159.1 true)) else (fastilaw03_sane.j0 k t126 y131 bt139.1 bt144.1 bt154.1 bt159.1 true)) else (fastilaw03_sane.j0 k t126 y131 bt139.1 bt144.1 bt154.1 bt159.1 true)) else (fastilaw03_sane.j0 k t126 y131 bt139.1 bt144.1 bt154.1 bt159.1 true)) else (fastilaw03_sane.j0 k t126 y131 bt139.1 bt144.1 bt154.1 bt159.1 true)) else (fastilaw03_sane.j0 k t126 y131 bt139.1 bt144.1 bt154.1 bt159.1 true)) else (fastilaw03_sane.j0 k t126 y131 bt139.1 bt144.1 bt154.1 bt159.1 true)) else (fastilaw03_sane.j0 k t126 y131 bt139.1 bt144.1 bt154.1 bt159.1 true)) else (fastilaw03_sane.j0 k t126 y131 bt139.1 bt144.1 bt154.1 bt159.1 true)) else (fastilaw03_sane.j0 k t126 y131 bt139.1 bt144.1 bt154.1 bt159.1 true)) else (fastilaw03_sane.j0 k t126 y131 bt139.1 bt144.1 bt154.1 bt159.1 true)) else (fastilaw03_sane.j0 k t126 y131 bt139.1 bt144.1 bt154.1 bt159.1 true)))))))))) = some r := by first | (rw [hy131]; with_reducible exact H) | (have H2_ := (Option.bind_some _ _).symm.trans H; rw [hy131]; with_reducible exact H2_) | (have H2_ := (Option.bind_some _ _).symm.trans H; with_reducible exact H2_) | with_reducible exact H | (rw [hy131]; exact H) | exact H
  have Ny131 := Aside0.mk hy131
  clear hy131
  replace H := Option.bind_eq_some_iff.mp H
  obtain ⟨⟨t134, t135, t136⟩, A20, H⟩ := H
  replace H : ((lex_Lex.f (⟨#[49, 48, 57, 57, 53, 49, 49, 54, 50, 55, 55, 55, 54]⟩ : ByteArray)).bind fun bt139 => ((lex_Lex.f (⟨#[97, 32, 47, 47, 32, 98]⟩ : ByteArray)).bind fun bt144 => ((lex_Lex.f (⟨#[97, 32, 36]⟩ : ByteArray)).bind fun bt149 => ((lex_Lex.f (⟨#[97, 61, 49]⟩ : ByteArray)).bind fun bt154 => ((lex_Text.f k bt154.1).bind fun bt159 => ((lex_Lex.f (⟨#[]⟩ : ByteArray)).bind fun bt161 => ((lex_Text.f k (([(⟨0, (⟨#[]⟩ : ByteArray), 0, 0⟩ : S35)] : List (S35)))).bind fun bt169 => (if t127 = 0 then (if t128 = 0 then (if t136 = 30 then (if t135 = 0 then (if bt139.2.2 = 0 then (if bt144.2.2 = 0 then (if bt149.2.2 = 30 then (if bt149.2.1 = 2 then (if bt154.2.2 = 0 then (if bt159.2 = 0 then (if bt161.2.2 = 0 then (if bt169.2 = 30 then (fastilaw03_sane.j0 k t126 y131 bt139.1 bt144.1 bt154.1 bt159.1 ((bt161.1.length : Int) != 0)) else (fastilaw03_sane.j0 k t126 y131 bt139.1 bt144.1 bt154.1 bt159.1 true)) else (fastilaw03_sane.j0 k t126 y131 bt139.1 bt144.1 bt154.1 bt159.1 true)) else (fastilaw03_sane.j0 k t126 y131 bt139.1 bt144.1 bt154.1 bt159.1 true)) else (fastilaw03_sane.j0 k t126 y131 bt139.1 bt144.1 bt154.1 bt159.1 true)) else (fastilaw03_sane.j0 k t126 y131 bt139.1 bt144.1 bt154.1 bt159.1 true)) else (fastilaw03_sane.j0 k t126 y131 bt139.1 bt144.1 bt154.1 bt159.1 true)) else (fastilaw03_sane.j0 k t126 y131 bt139.1 bt144.1 bt154.1 bt159.1 true)) else (fastilaw03_sane.j0 k t126 y131 bt139.1 bt144.1 bt154.1 bt159.1 true)) else (fastilaw03_sane.j0 k t126 y131 bt139.1 bt144.1 bt154.1 bt159.1 true)) else (fastilaw03_sane.j0 k t126 y131 bt139.1 bt144.1 bt154.1 bt159.1 true)) else (fastilaw03_sane.j0 k t126 y131 bt139.1 bt144.1 bt154.1 bt159.1 true)) else (fastilaw03_sane.j0 k t126 y131 bt139.1 bt144.1 bt154.1 bt159.1 true))))))))) = some r := H
  have A2 := Aside0.mk A20
  clear A20
  replace H := Option.bind_eq_some_iff.mp H
  obtain ⟨⟨t139, t140, t141⟩, A30, H⟩ := H
  replace H : ((lex_Lex.f (⟨#[97, 32, 47, 47, 32, 98]⟩ : ByteArray)).bind fun bt144 => ((lex_Lex.f (⟨#[97, 32, 36]⟩ : ByteArray)).bind fun bt149 => ((lex_Lex.f (⟨#[97, 61, 49]⟩ : ByteArray)).bind fun bt154 => ((lex_Text.f k bt154.1).bind fun bt159 => ((lex_Lex.f (⟨#[]⟩ : ByteArray)).bind fun bt161 => ((lex_Text.f k (([(⟨0, (⟨#[]⟩ : ByteArray), 0, 0⟩ : S35)] : List (S35)))).bind fun bt169 => (if t127 = 0 then (if t128 = 0 then (if t136 = 30 then (if t135 = 0 then (if t141 = 0 then (if bt144.2.2 = 0 then (if bt149.2.2 = 30 then (if bt149.2.1 = 2 then (if bt154.2.2 = 0 then (if bt159.2 = 0 then (if bt161.2.2 = 0 then (if bt169.2 = 30 then (fastilaw03_sane.j0 k t126 y131 t139 bt144.1 bt154.1 bt159.1 ((bt161.1.length : Int) != 0)) else (fastilaw03_sane.j0 k t126 y131 t139 bt144.1 bt154.1 bt159.1 true)) else (fastilaw03_sane.j0 k t126 y131 t139 bt144.1 bt154.1 bt159.1 true)) else (fastilaw03_sane.j0 k t126 y131 t139 bt144.1 bt154.1 bt159.1 true)) else (fastilaw03_sane.j0 k t126 y131 t139 bt144.1 bt154.1 bt159.1 true)) else (fastilaw03_sane.j0 k t126 y131 t139 bt144.1 bt154.1 bt159.1 true)) else (fastilaw03_sane.j0 k t126 y131 t139 bt144.1 bt154.1 bt159.1 true)) else (fastilaw03_sane.j0 k t126 y131 t139 bt144.1 bt154.1 bt159.1 true)) else (fastilaw03_sane.j0 k t126 y131 t139 bt144.1 bt154.1 bt159.1 true)) else (fastilaw03_sane.j0 k t126 y131 t139 bt144.1 bt154.1 bt159.1 true)) else (fastilaw03_sane.j0 k t126 y131 t139 bt144.1 bt154.1 bt159.1 true)) else (fastilaw03_sane.j0 k t126 y131 t139 bt144.1 bt154.1 bt159.1 true)) else (fastilaw03_sane.j0 k t126 y131 t139 bt144.1 bt154.1 bt159.1 true)))))))) = some r := H
  have A3 := Aside0.mk A30
  clear A30
  replace H := Option.bind_eq_some_iff.mp H
  obtain ⟨⟨t144, t145, t146⟩, A40, H⟩ := H
  replace H : ((lex_Lex.f (⟨#[97, 32, 36]⟩ : ByteArray)).bind fun bt149 => ((lex_Lex.f (⟨#[97, 61, 49]⟩ : ByteArray)).bind fun bt154 => ((lex_Text.f k bt154.1).bind fun bt159 => ((lex_Lex.f (⟨#[]⟩ : ByteArray)).bind fun bt161 => ((lex_Text.f k (([(⟨0, (⟨#[]⟩ : ByteArray), 0, 0⟩ : S35)] : List (S35)))).bind fun bt169 => (if t127 = 0 then (if t128 = 0 then (if t136 = 30 then (if t135 = 0 then (if t141 = 0 then (if t146 = 0 then (if bt149.2.2 = 30 then (if bt149.2.1 = 2 then (if bt154.2.2 = 0 then (if bt159.2 = 0 then (if bt161.2.2 = 0 then (if bt169.2 = 30 then (fastilaw03_sane.j0 k t126 y131 t139 t144 bt154.1 bt159.1 ((bt161.1.length : Int) != 0)) else (fastilaw03_sane.j0 k t126 y131 t139 t144 bt154.1 bt159.1 true)) else (fastilaw03_sane.j0 k t126 y131 t139 t144 bt154.1 bt159.1 true)) else (fastilaw03_sane.j0 k t126 y131 t139 t144 bt154.1 bt159.1 true)) else (fastilaw03_sane.j0 k t126 y131 t139 t144 bt154.1 bt159.1 true)) else (fastilaw03_sane.j0 k t126 y131 t139 t144 bt154.1 bt159.1 true)) else (fastilaw03_sane.j0 k t126 y131 t139 t144 bt154.1 bt159.1 true)) else (fastilaw03_sane.j0 k t126 y131 t139 t144 bt154.1 bt159.1 true)) else (fastilaw03_sane.j0 k t126 y131 t139 t144 bt154.1 bt159.1 true)) else (fastilaw03_sane.j0 k t126 y131 t139 t144 bt154.1 bt159.1 true)) else (fastilaw03_sane.j0 k t126 y131 t139 t144 bt154.1 bt159.1 true)) else (fastilaw03_sane.j0 k t126 y131 t139 t144 bt154.1 bt159.1 true)) else (fastilaw03_sane.j0 k t126 y131 t139 t144 bt154.1 bt159.1 true))))))) = some r := H
  have A4 := Aside0.mk A40
  clear A40
  replace H := Option.bind_eq_some_iff.mp H
  obtain ⟨⟨t149, t150, t151⟩, A50, H⟩ := H
  replace H : ((lex_Lex.f (⟨#[97, 61, 49]⟩ : ByteArray)).bind fun bt154 => ((lex_Text.f k bt154.1).bind fun bt159 => ((lex_Lex.f (⟨#[]⟩ : ByteArray)).bind fun bt161 => ((lex_Text.f k (([(⟨0, (⟨#[]⟩ : ByteArray), 0, 0⟩ : S35)] : List (S35)))).bind fun bt169 => (if t127 = 0 then (if t128 = 0 then (if t136 = 30 then (if t135 = 0 then (if t141 = 0 then (if t146 = 0 then (if t151 = 30 then (if t150 = 2 then (if bt154.2.2 = 0 then (if bt159.2 = 0 then (if bt161.2.2 = 0 then (if bt169.2 = 30 then (fastilaw03_sane.j0 k t126 y131 t139 t144 bt154.1 bt159.1 ((bt161.1.length : Int) != 0)) else (fastilaw03_sane.j0 k t126 y131 t139 t144 bt154.1 bt159.1 true)) else (fastilaw03_sane.j0 k t126 y131 t139 t144 bt154.1 bt159.1 true)) else (fastilaw03_sane.j0 k t126 y131 t139 t144 bt154.1 bt159.1 true)) else (fastilaw03_sane.j0 k t126 y131 t139 t144 bt154.1 bt159.1 true)) else (fastilaw03_sane.j0 k t126 y131 t139 t144 bt154.1 bt159.1 true)) else (fastilaw03_sane.j0 k t126 y131 t139 t144 bt154.1 bt159.1 true)) else (fastilaw03_sane.j0 k t126 y131 t139 t144 bt154.1 bt159.1 true)) else (fastilaw03_sane.j0 k t126 y131 t139 t144 bt154.1 bt159.1 true)) else (fastilaw03_sane.j0 k t126 y131 t139 t144 bt154.1 bt159.1 true)) else (fastilaw03_sane.j0 k t126 y131 t139 t144 bt154.1 bt159.1 true)) else (fastilaw03_sane.j0 k t126 y131 t139 t144 bt154.1 bt159.1 true)) else (fastilaw03_sane.j0 k t126 y131 t139 t144 bt154.1 bt159.1 true)))))) = some r := H
  have A5 := Aside0.mk A50
  clear A50
  replace H := Option.bind_eq_some_iff.mp H
  obtain ⟨⟨t154, t155, t156⟩, A60, H⟩ := H
  replace H : ((lex_Text.f k t154).bind fun bt159 => ((lex_Lex.f (⟨#[]⟩ : ByteArray)).bind fun bt161 => ((lex_Text.f k (([(⟨0, (⟨#[]⟩ : ByteArray), 0, 0⟩ : S35)] : List (S35)))).bind fun bt169 => (if t127 = 0 then (if t128 = 0 then (if t136 = 30 then (if t135 = 0 then (if t141 = 0 then (if t146 = 0 then (if t151 = 30 then (if t150 = 2 then (if t156 = 0 then (if bt159.2 = 0 then (if bt161.2.2 = 0 then (if bt169.2 = 30 then (fastilaw03_sane.j0 k t126 y131 t139 t144 t154 bt159.1 ((bt161.1.length : Int) != 0)) else (fastilaw03_sane.j0 k t126 y131 t139 t144 t154 bt159.1 true)) else (fastilaw03_sane.j0 k t126 y131 t139 t144 t154 bt159.1 true)) else (fastilaw03_sane.j0 k t126 y131 t139 t144 t154 bt159.1 true)) else (fastilaw03_sane.j0 k t126 y131 t139 t144 t154 bt159.1 true)) else (fastilaw03_sane.j0 k t126 y131 t139 t144 t154 bt159.1 true)) else (fastilaw03_sane.j0 k t126 y131 t139 t144 t154 bt159.1 true)) else (fastilaw03_sane.j0 k t126 y131 t139 t144 t154 bt159.1 true)) else (fastilaw03_sane.j0 k t126 y131 t139 t144 t154 bt159.1 true)) else (fastilaw03_sane.j0 k t126 y131 t139 t144 t154 bt159.1 true)) else (fastilaw03_sane.j0 k t126 y131 t139 t144 t154 bt159.1 true)) else (fastilaw03_sane.j0 k t126 y131 t139 t144 t154 bt159.1 true)) else (fastilaw03_sane.j0 k t126 y131 t139 t144 t154 bt159.1 true))))) = some r := H
  have A6 := Aside0.mk A60
  clear A60
  replace H := Option.bind_eq_some_iff.mp H
  obtain ⟨⟨t159, t160⟩, A70, H⟩ := H
  replace H : ((lex_Lex.f (⟨#[]⟩ : ByteArray)).bind fun bt161 => ((lex_Text.f k (([(⟨0, (⟨#[]⟩ : ByteArray), 0, 0⟩ : S35)] : List (S35)))).bind fun bt169 => (if t127 = 0 then (if t128 = 0 then (if t136 = 30 then (if t135 = 0 then (if t141 = 0 then (if t146 = 0 then (if t151 = 30 then (if t150 = 2 then (if t156 = 0 then (if t160 = 0 then (if bt161.2.2 = 0 then (if bt169.2 = 30 then (fastilaw03_sane.j0 k t126 y131 t139 t144 t154 t159 ((bt161.1.length : Int) != 0)) else (fastilaw03_sane.j0 k t126 y131 t139 t144 t154 t159 true)) else (fastilaw03_sane.j0 k t126 y131 t139 t144 t154 t159 true)) else (fastilaw03_sane.j0 k t126 y131 t139 t144 t154 t159 true)) else (fastilaw03_sane.j0 k t126 y131 t139 t144 t154 t159 true)) else (fastilaw03_sane.j0 k t126 y131 t139 t144 t154 t159 true)) else (fastilaw03_sane.j0 k t126 y131 t139 t144 t154 t159 true)) else (fastilaw03_sane.j0 k t126 y131 t139 t144 t154 t159 true)) else (fastilaw03_sane.j0 k t126 y131 t139 t144 t154 t159 true)) else (fastilaw03_sane.j0 k t126 y131 t139 t144 t154 t159 true)) else (fastilaw03_sane.j0 k t126 y131 t139 t144 t154 t159 true)) else (fastilaw03_sane.j0 k t126 y131 t139 t144 t154 t159 true)) else (fastilaw03_sane.j0 k t126 y131 t139 t144 t154 t159 true)))) = some r := H
  have A7 := Aside0.mk A70
  clear A70
  replace H := Option.bind_eq_some_iff.mp H
  obtain ⟨⟨t161, t162, t163⟩, A80, H⟩ := H
  replace H : ((lex_Text.f k (([(⟨0, (⟨#[]⟩ : ByteArray), 0, 0⟩ : S35)] : List (S35)))).bind fun bt169 => (if t127 = 0 then (if t128 = 0 then (if t136 = 30 then (if t135 = 0 then (if t141 = 0 then (if t146 = 0 then (if t151 = 30 then (if t150 = 2 then (if t156 = 0 then (if t160 = 0 then (if t163 = 0 then (if bt169.2 = 30 then (fastilaw03_sane.j0 k t126 y131 t139 t144 t154 t159 ((t161.length : Int) != 0)) else (fastilaw03_sane.j0 k t126 y131 t139 t144 t154 t159 true)) else (fastilaw03_sane.j0 k t126 y131 t139 t144 t154 t159 true)) else (fastilaw03_sane.j0 k t126 y131 t139 t144 t154 t159 true)) else (fastilaw03_sane.j0 k t126 y131 t139 t144 t154 t159 true)) else (fastilaw03_sane.j0 k t126 y131 t139 t144 t154 t159 true)) else (fastilaw03_sane.j0 k t126 y131 t139 t144 t154 t159 true)) else (fastilaw03_sane.j0 k t126 y131 t139 t144 t154 t159 true)) else (fastilaw03_sane.j0 k t126 y131 t139 t144 t154 t159 true)) else (fastilaw03_sane.j0 k t126 y131 t139 t144 t154 t159 true)) else (fastilaw03_sane.j0 k t126 y131 t139 t144 t154 t159 true)) else (fastilaw03_sane.j0 k t126 y131 t139 t144 t154 t159 true)) else (fastilaw03_sane.j0 k t126 y131 t139 t144 t154 t159 true))) = some r := H
  have A8 := Aside0.mk A80
  clear A80
  obtain ⟨y166, hy166⟩ : ∃ y_ : List (S35), y_ = (([(⟨0, (⟨#[]⟩ : ByteArray), 0, 0⟩ : S35)] : List (S35))) := ⟨_, rfl⟩
  replace H : ((lex_Text.f k y166).bind fun bt169 => (if t127 = 0 then (if t128 = 0 then (if t136 = 30 then (if t135 = 0 then (if t141 = 0 then (if t146 = 0 then (if t151 = 30 then (if t150 = 2 then (if t156 = 0 then (if t160 = 0 then (if t163 = 0 then (if bt169.2 = 30 then (fastilaw03_sane.j0 k t126 y131 t139 t144 t154 t159 ((t161.length : Int) != 0)) else (fastilaw03_sane.j0 k t126 y131 t139 t144 t154 t159 true)) else (fastilaw03_sane.j0 k t126 y131 t139 t144 t154 t159 true)) else (fastilaw03_sane.j0 k t126 y131 t139 t144 t154 t159 true)) else (fastilaw03_sane.j0 k t126 y131 t139 t144 t154 t159 true)) else (fastilaw03_sane.j0 k t126 y131 t139 t144 t154 t159 true)) else (fastilaw03_sane.j0 k t126 y131 t139 t144 t154 t159 true)) else (fastilaw03_sane.j0 k t126 y131 t139 t144 t154 t159 true)) else (fastilaw03_sane.j0 k t126 y131 t139 t144 t154 t159 true)) else (fastilaw03_sane.j0 k t126 y131 t139 t144 t154 t159 true)) else (fastilaw03_sane.j0 k t126 y131 t139 t144 t154 t159 true)) else (fastilaw03_sane.j0 k t126 y131 t139 t144 t154 t159 true)) else (fastilaw03_sane.j0 k t126 y131 t139 t144 t154 t159 true))) = some r := by first | (rw [hy166]; with_reducible exact H) | (have H2_ := (Option.bind_some _ _).symm.trans H; rw [hy166]; with_reducible exact H2_) | (have H2_ := (Option.bind_some _ _).symm.trans H; with_reducible exact H2_) | with_reducible exact H | (rw [hy166]; exact H) | exact H
  have Ny166 := Aside0.mk hy166
  clear hy166
  replace H := Option.bind_eq_some_iff.mp H
  obtain ⟨⟨t169, t170⟩, A90, H⟩ := H
  replace H : (if t127 = 0 then (if t128 = 0 then (if t136 = 30 then (if t135 = 0 then (if t141 = 0 then (if t146 = 0 then (if t151 = 30 then (if t150 = 2 then (if t156 = 0 then (if t160 = 0 then (if t163 = 0 then (if t170 = 30 then (fastilaw03_sane.j0 k t126 y131 t139 t144 t154 t159 ((t161.length : Int) != 0)) else (fastilaw03_sane.j0 k t126 y131 t139 t144 t154 t159 true)) else (fastilaw03_sane.j0 k t126 y131 t139 t144 t154 t159 true)) else (fastilaw03_sane.j0 k t126 y131 t139 t144 t154 t159 true)) else (fastilaw03_sane.j0 k t126 y131 t139 t144 t154 t159 true)) else (fastilaw03_sane.j0 k t126 y131 t139 t144 t154 t159 true)) else (fastilaw03_sane.j0 k t126 y131 t139 t144 t154 t159 true)) else (fastilaw03_sane.j0 k t126 y131 t139 t144 t154 t159 true)) else (fastilaw03_sane.j0 k t126 y131 t139 t144 t154 t159 true)) else (fastilaw03_sane.j0 k t126 y131 t139 t144 t154 t159 true)) else (fastilaw03_sane.j0 k t126 y131 t139 t144 t154 t159 true)) else (fastilaw03_sane.j0 k t126 y131 t139 t144 t154 t159 true)) else (fastilaw03_sane.j0 k t126 y131 t139 t144 t154 t159 true)) = some r := H
  have A9 := Aside0.mk A90
  clear A90
  have HC10 := Aside0.mk H
  clear H
  go_enter Tryd.func11, Tryd.ntmps11
  go_upto_region 11 with (first | ((with_reducible refine gate_callee (f := 12) rfl ?_); refine goesL_ (some 28) rfl rfl Tryd.func12 (by kernel_rfl) rfl #[.string (⟨#[115, 117, 109, 32, 51, 48, 59]⟩ : ByteArray)] rfl (by (try simp only [List.map_toArray, List.map_cons, List.map_nil]); first | done | rfl | (simp only [List.length_drop, List.length_take]; rfl)) ?_; (with_reducible refine (lex_Lex.calls (⟨#[115, 117, 109, 32, 51, 48, 59]⟩ : ByteArray) t126 t127 t128 _ (GX.gl HGL.out (by repeat (first | (with_reducible first | exact HB.out | apply below_alloc | apply pw_below_drewN | apply below_drew1) | exact HB.out))) A1.out).mono ?_); rintro e w11 ⟨v129, rfl, ho0, hb⟩; refine ⟨_, rfl, ?_⟩; have n0_ := Aside0.mk (Kd.R_lower ho0 (below_size (by repeat (first | (with_reducible first | exact HB.out | apply below_alloc | apply pw_below_drewN | apply below_drew1) | exact HB.out)))); have n1_ := Aside0.mk (below_step (by repeat (first | (with_reducible first | exact HB.out | apply below_alloc | apply pw_below_drewN | apply below_drew1) | exact HB.out)) hb); clear HB; have HO130 := n0_; have HB := n1_; clear n0_ n1_; (try clear hb); (try clear hb2); (try clear hk); (try clear hi); (try clear ho0)) | ((with_reducible refine gate_dst (N := 35) rfl ?_); (try (refine gate_guard (by rfl) ?_; dsimp only)); refine Kd.R_lit k35 _ 35 ?hg (N := 35) ?hd (xs := ([(⟨1, (⟨#[115, 117, 109]⟩ : ByteArray), 0, 0⟩ : S35), (⟨2, (⟨#[]⟩ : ByteArray), 30, 4⟩ : S35), (⟨3, (⟨#[59]⟩ : ByteArray), 0, 6⟩ : S35)] : List (S35))) (inner := [.int .i64 1, .string (⟨#[115, 117, 109]⟩ : ByteArray), .int .i64 0, .int .i64 0, .int .i64 2, .string (⟨#[]⟩ : ByteArray), .int .i64 30, .int .i64 4, .int .i64 3, .string (⟨#[59]⟩ : ByteArray), .int .i64 0, .int .i64 6]) (ok := fun _ => True) (okp := fun _ => True) ?hr ?hp (fun _ hk => hk) trivial (Below.refl _ _) (Nat.le_refl _) (by simp) ?_; (case hd => rfl); (case hg => rfl); (case hr => first | (go_simp; done) | (go_simp; rfl)); (case hp => exact (Reps.c4 (show Kd.M k35 _ _ _ (⟨1, (⟨#[115, 117, 109]⟩ : ByteArray), 0, 0⟩ : S35) [.int .i64 1, .string (⟨#[115, 117, 109]⟩ : ByteArray), .int .i64 0, .int .i64 0] from (k35_mkM _ _ _ (⟨1, (⟨#[115, 117, 109]⟩ : ByteArray), 0, 0⟩ : S35) )) (Reps.c4 (show Kd.M k35 _ _ _ (⟨2, (⟨#[]⟩ : ByteArray), 30, 4⟩ : S35) [.int .i64 2, .string (⟨#[]⟩ : ByteArray), .int .i64 30, .int .i64 4] from (k35_mkM _ _ _ (⟨2, (⟨#[]⟩ : ByteArray), 30, 4⟩ : S35) )) (Reps.c4 (show Kd.M k35 _ _ _ (⟨3, (⟨#[59]⟩ : ByteArray), 0, 6⟩ : S35) [.int .i64 3, .string (⟨#[59]⟩ : ByteArray), .int .i64 0, .int .i64 6] from (k35_mkM _ _ _ (⟨3, (⟨#[59]⟩ : ByteArray), 0, 6⟩ : S35) )) (Reps.none _ _))))); intro v132 w12 ho13 hb hg_ hnew_; clear hg_ hnew_; (first | rw [← Ny131.out] at ho13 | (simp only [Int.reduceToNat] at ho13; rw [← Ny131.out] at ho13)); have n0_ := Aside0.mk (Kd.R_elder' (by (with_reducible repeat (first | apply Kd.R_alloc | apply Kd.R_drewN | apply Kd.R_drew)); exact HO130.out) (Kd.R_base ho13) hb); have n1_ := Aside0.mk (Kd.R_lower (Kd.R_new' ho13 (Kd.R_lt (by (with_reducible repeat (first | apply Kd.R_alloc | apply Kd.R_drewN | apply Kd.R_drew)); exact HO130.out))) (below_size (by repeat (first | (with_reducible first | exact HB.out | apply below_alloc | apply pw_below_drewN | apply below_drew1) | exact HB.out)))); have n2_ := Aside0.mk (below_step (by repeat (first | (with_reducible first | exact HB.out | apply below_alloc | apply pw_below_drewN | apply below_drew1) | exact HB.out)) hb); clear HO130; clear HB; have HO130 := n0_; have HO133 := n1_; have HB := n2_; clear n0_ n1_ n2_; clear hb ho13) | ((with_reducible refine gate_callee (f := 12) rfl ?_); refine goesL_ (some 37) rfl rfl Tryd.func12 (by kernel_rfl) rfl #[.string (⟨#[48, 48, 55]⟩ : ByteArray)] rfl (by (try simp only [List.map_toArray, List.map_cons, List.map_nil]); first | done | rfl | (simp only [List.length_drop, List.length_take]; rfl)) ?_; (with_reducible refine (lex_Lex.calls (⟨#[48, 48, 55]⟩ : ByteArray) t134 t135 t136 _ (GX.gl HGL.out (by repeat (first | (with_reducible first | exact HB.out | apply below_alloc | apply pw_below_drewN | apply below_drew1) | exact HB.out))) A2.out).mono ?_); rintro e w14 ⟨v137, rfl, ho0, hb⟩; refine ⟨_, rfl, ?_⟩; have n0_ := Aside0.mk (Kd.R_elder' (by (with_reducible repeat (first | apply Kd.R_alloc | apply Kd.R_drewN | apply Kd.R_drew)); exact HO130.out) (Kd.R_base ho0) hb); have n1_ := Aside0.mk (Kd.R_elder' (by (with_reducible repeat (first | apply Kd.R_alloc | apply Kd.R_drewN | apply Kd.R_drew)); exact HO133.out) (Kd.R_base ho0) hb); have n2_ := Aside0.mk (Kd.R_lower (Kd.R_new' (Kd.R_new' ho0 (Kd.R_lt (by (with_reducible repeat (first | apply Kd.R_alloc | apply Kd.R_drewN | apply Kd.R_drew)); exact HO130.out))) (Kd.R_lt (by (with_reducible repeat (first | apply Kd.R_alloc | apply Kd.R_drewN | apply Kd.R_drew)); exact HO133.out))) (below_size (by repeat (first | (with_reducible first | exact HB.out | apply below_alloc | apply pw_below_drewN | apply below_drew1) | exact HB.out)))); have n3_ := Aside0.mk (below_step (by repeat (first | (with_reducible first | exact HB.out | apply below_alloc | apply pw_below_drewN | apply below_drew1) | exact HB.out)) hb); clear HO130; clear HO133; clear HB; have HO130 := n0_; have HO133 := n1_; have HO138 := n2_; have HB := n3_; clear n0_ n1_ n2_ n3_; (try clear hb); (try clear hb2); (try clear hk); (try clear hi); (try clear ho0)) | ((with_reducible refine gate_callee (f := 12) rfl ?_); refine goesL_ (some 42) rfl rfl Tryd.func12 (by kernel_rfl) rfl #[.string (⟨#[49, 48, 57, 57, 53, 49, 49, 54, 50, 55, 55, 55, 54]⟩ : ByteArray)] rfl (by (try simp only [List.map_toArray, List.map_cons, List.map_nil]); first | done | rfl | (simp only [List.length_drop, List.length_take]; rfl)) ?_; (with_reducible refine (lex_Lex.calls (⟨#[49, 48, 57, 57, 53, 49, 49, 54, 50, 55, 55, 55, 54]⟩ : ByteArray) t139 t140 t141 _ (GX.gl HGL.out (by repeat (first | (with_reducible first | exact HB.out | apply below_alloc | apply pw_below_drewN | apply below_drew1) | exact HB.out))) A3.out).mono ?_); rintro e w15 ⟨v142, rfl, ho0, hb⟩; refine ⟨_, rfl, ?_⟩; have n0_ := Aside0.mk (Kd.R_elder' (by (with_reducible repeat (first | apply Kd.R_alloc | apply Kd.R_drewN | apply Kd.R_drew)); exact HO130.out) (Kd.R_base ho0) hb); have n1_ := Aside0.mk (Kd.R_elder' (by (with_reducible repeat (first | apply Kd.R_alloc | apply Kd.R_drewN | apply Kd.R_drew)); exact HO133.out) (Kd.R_base ho0) hb); have n2_ := Aside0.mk (Kd.R_elder' (by (with_reducible repeat (first | apply Kd.R_alloc | apply Kd.R_drewN | apply Kd.R_drew)); exact HO138.out) (Kd.R_base ho0) hb); have n3_ := Aside0.mk (Kd.R_lower (Kd.R_new' (Kd.R_new' (Kd.R_new' ho0 (Kd.R_lt (by (with_reducible repeat (first | apply Kd.R_alloc | apply Kd.R_drewN | apply Kd.R_drew)); exact HO130.out))) (Kd.R_lt (by (with_reducible repeat (first | apply Kd.R_alloc | apply Kd.R_drewN | apply Kd.R_drew)); exact HO133.out))) (Kd.R_lt (by (with_reducible repeat (first | apply Kd.R_alloc | apply Kd.R_drewN | apply Kd.R_drew)); exact HO138.out))) (below_size (by repeat (first | (with_reducible first | exact HB.out | apply below_alloc | apply pw_below_drewN | apply below_drew1) | exact HB.out)))); have n4_ := Aside0.mk (below_step (by repeat (first | (with_reducible first | exact HB.out | apply below_alloc | apply pw_below_drewN | apply below_drew1) | exact HB.out)) hb); clear HO130; clear HO133; clear HO138; clear HB; have HO130 := n0_; have HO133 := n1_; have HO138 := n2_; have HO143 := n3_; have HB := n4_; clear n0_ n1_ n2_ n3_ n4_; (try clear hb); (try clear hb2); (try clear hk); (try clear hi); (try clear ho0)) | ((with_reducible refine gate_callee (f := 12) rfl ?_); refine goesL_ (some 47) rfl rfl Tryd.func12 (by kernel_rfl) rfl #[.string (⟨#[97, 32, 47, 47, 32, 98]⟩ : ByteArray)] rfl (by (try simp only [List.map_toArray, List.map_cons, List.map_nil]); first | done | rfl | (simp only [List.length_drop, List.length_take]; rfl)) ?_; (with_reducible refine (lex_Lex.calls (⟨#[97, 32, 47, 47, 32, 98]⟩ : ByteArray) t144 t145 t146 _ (GX.gl HGL.out (by repeat (first | (with_reducible first | exact HB.out | apply below_alloc | apply pw_below_drewN | apply below_drew1) | exact HB.out))) A4.out).mono ?_); rintro e w16 ⟨v147, rfl, ho0, hb⟩; refine ⟨_, rfl, ?_⟩; have n0_ := Aside0.mk (Kd.R_elder' (by (with_reducible repeat (first | apply Kd.R_alloc | apply Kd.R_drewN | apply Kd.R_drew)); exact HO130.out) (Kd.R_base ho0) hb); have n1_ := Aside0.mk (Kd.R_elder' (by (with_reducible repeat (first | apply Kd.R_alloc | apply Kd.R_drewN | apply Kd.R_drew)); exact HO133.out) (Kd.R_base ho0) hb); have n2_ := Aside0.mk (Kd.R_elder' (by (with_reducible repeat (first | apply Kd.R_alloc | apply Kd.R_drewN | apply Kd.R_drew)); exact HO138.out) (Kd.R_base ho0) hb); have n3_ := Aside0.mk (Kd.R_elder' (by (with_reducible repeat (first | apply Kd.R_alloc | apply Kd.R_drewN | apply Kd.R_drew)); exact HO143.out) (Kd.R_base ho0) hb); have n4_ := Aside0.mk (Kd.R_lower (Kd.R_new' (Kd.R_new' (Kd.R_new' (Kd.R_new' ho0 (Kd.R_lt (by (with_reducible repeat (first | apply Kd.R_alloc | apply Kd.R_drewN | apply Kd.R_drew)); exact HO130.out))) (Kd.R_lt (by (with_reducible repeat (first | apply Kd.R_alloc | apply Kd.R_drewN | apply Kd.R_drew)); exact HO133.out))) (Kd.R_lt (by (with_reducible repeat (first | apply Kd.R_alloc | apply Kd.R_drewN | apply Kd.R_drew)); exact HO138.out))) (Kd.R_lt (by (with_reducible repeat (first | apply Kd.R_alloc | apply Kd.R_drewN | apply Kd.R_drew)); exact HO143.out))) (below_size (by repeat (first | (with_reducible first | exact HB.out | apply below_alloc | apply pw_below_drewN | apply below_drew1) | exact HB.out)))); have n5_ := Aside0.mk (below_step (by repeat (first | (with_reducible first | exact HB.out | apply below_alloc | apply pw_below_drewN | apply below_drew1) | exact HB.out)) hb); clear HO130; clear HO133; clear HO138; clear HO143; clear HB; have HO130 := n0_; have HO133 := n1_; have HO138 := n2_; have HO143 := n3_; have HO148 := n4_; have HB := n5_; clear n0_ n1_ n2_ n3_ n4_ n5_; (try clear hb); (try clear hb2); (try clear hk); (try clear hi); (try clear ho0)) | ((with_reducible refine gate_callee (f := 12) rfl ?_); refine goesL_ (some 52) rfl rfl Tryd.func12 (by kernel_rfl) rfl #[.string (⟨#[97, 32, 36]⟩ : ByteArray)] rfl (by (try simp only [List.map_toArray, List.map_cons, List.map_nil]); first | done | rfl | (simp only [List.length_drop, List.length_take]; rfl)) ?_; (with_reducible refine (lex_Lex.calls (⟨#[97, 32, 36]⟩ : ByteArray) t149 t150 t151 _ (GX.gl HGL.out (by repeat (first | (with_reducible first | exact HB.out | apply below_alloc | apply pw_below_drewN | apply below_drew1) | exact HB.out))) A5.out).mono ?_); rintro e w17 ⟨v152, rfl, ho0, hb⟩; refine ⟨_, rfl, ?_⟩; have n0_ := Aside0.mk (Kd.R_elder' (by (with_reducible repeat (first | apply Kd.R_alloc | apply Kd.R_drewN | apply Kd.R_drew)); exact HO130.out) (Kd.R_base ho0) hb); have n1_ := Aside0.mk (Kd.R_elder' (by (with_reducible repeat (first | apply Kd.R_alloc | apply Kd.R_drewN | apply Kd.R_drew)); exact HO133.out) (Kd.R_base ho0) hb); have n2_ := Aside0.mk (Kd.R_elder' (by (with_reducible repeat (first | apply Kd.R_alloc | apply Kd.R_drewN | apply Kd.R_drew)); exact HO138.out) (Kd.R_base ho0) hb); have n3_ := Aside0.mk (Kd.R_elder' (by (with_reducible repeat (first | apply Kd.R_alloc | apply Kd.R_drewN | apply Kd.R_drew)); exact HO143.out) (Kd.R_base ho0) hb); have n4_ := Aside0.mk (Kd.R_elder' (by (with_reducible repeat (first | apply Kd.R_alloc | apply Kd.R_drewN | apply Kd.R_drew)); exact HO148.out) (Kd.R_base ho0) hb); have n5_ := Aside0.mk (Kd.R_lower (Kd.R_new' (Kd.R_new' (Kd.R_new' (Kd.R_new' (Kd.R_new' ho0 (Kd.R_lt (by (with_reducible repeat (first | apply Kd.R_alloc | apply Kd.R_drewN | apply Kd.R_drew)); exact HO130.out))) (Kd.R_lt (by (with_reducible repeat (first | apply Kd.R_alloc | apply Kd.R_drewN | apply Kd.R_drew)); exact HO133.out))) (Kd.R_lt (by (with_reducible repeat (first | apply Kd.R_alloc | apply Kd.R_drewN | apply Kd.R_drew)); exact HO138.out))) (Kd.R_lt (by (with_reducible repeat (first | apply Kd.R_alloc | apply Kd.R_drewN | apply Kd.R_drew)); exact HO143.out))) (Kd.R_lt (by (with_reducible repeat (first | apply Kd.R_alloc | apply Kd.R_drewN | apply Kd.R_drew)); exact HO148.out))) (below_size (by repeat (first | (with_reducible first | exact HB.out | apply below_alloc | apply pw_below_drewN | apply below_drew1) | exact HB.out)))); have n6_ := Aside0.mk (below_step (by repeat (first | (with_reducible first | exact HB.out | apply below_alloc | apply pw_below_drewN | apply below_drew1) | exact HB.out)) hb); clear HO130; clear HO133; clear HO138; clear HO143; clear HO148; clear HB; have HO130 := n0_; have HO133 := n1_; have HO138 := n2_; have HO143 := n3_; have HO148 := n4_; have HO153 := n5_; have HB := n6_; clear n0_ n1_ n2_ n3_ n4_ n5_ n6_; (try clear hb); (try clear hb2); (try clear hk); (try clear hi); (try clear ho0)) | ((with_reducible refine gate_callee (f := 12) rfl ?_); refine goesL_ (some 57) rfl rfl Tryd.func12 (by kernel_rfl) rfl #[.string (⟨#[97, 61, 49]⟩ : ByteArray)] rfl (by (try simp only [List.map_toArray, List.map_cons, List.map_nil]); first | done | rfl | (simp only [List.length_drop, List.length_take]; rfl)) ?_; (with_reducible refine (lex_Lex.calls (⟨#[97, 61, 49]⟩ : ByteArray) t154 t155 t156 _ (GX.gl HGL.out (by repeat (first | (with_reducible first | exact HB.out | apply below_alloc | apply pw_below_drewN | apply below_drew1) | exact HB.out))) A6.out).mono ?_); rintro e w18 ⟨v157, rfl, ho0, hb⟩; refine ⟨_, rfl, ?_⟩; have n0_ := Aside0.mk (Kd.R_elder' (by (with_reducible repeat (first | apply Kd.R_alloc | apply Kd.R_drewN | apply Kd.R_drew)); exact HO130.out) (Kd.R_base ho0) hb); have n1_ := Aside0.mk (Kd.R_elder' (by (with_reducible repeat (first | apply Kd.R_alloc | apply Kd.R_drewN | apply Kd.R_drew)); exact HO133.out) (Kd.R_base ho0) hb); have n2_ := Aside0.mk (Kd.R_elder' (by (with_reducible repeat (first | apply Kd.R_alloc | apply Kd.R_drewN | apply Kd.R_drew)); exact HO138.out) (Kd.R_base ho0) hb); have n3_ := Aside0.mk (Kd.R_elder' (by (with_reducible repeat (first | apply Kd.R_alloc | apply Kd.R_drewN | apply Kd.R_drew)); exact HO143.out) (Kd.R_base ho0) hb); have n4_ := Aside0.mk (Kd.R_elder' (by (with_reducible repeat (first | apply Kd.R_alloc | apply Kd.R_drewN | apply Kd.R_drew)); exact HO148.out) (Kd.R_base ho0) hb); have n5_ := Aside0.mk (Kd.R_elder' (by (with_reducible repeat (first | apply Kd.R_alloc | apply Kd.R_drewN | apply Kd.R_drew)); exact HO153.out) (Kd.R_base ho0) hb); have n6_ := Aside0.mk (Kd.R_lower (Kd.R_new' (Kd.R_new' (Kd.R_new' (Kd.R_new' (Kd.R_new' (Kd.R_new' ho0 (Kd.R_lt (by (with_reducible repeat (first | apply Kd.R_alloc | apply Kd.R_drewN | apply Kd.R_drew)); exact HO130.out))) (Kd.R_lt (by (with_reducible repeat (first | apply Kd.R_alloc | apply Kd.R_drewN | apply Kd.R_drew)); exact HO133.out))) (Kd.R_lt (by (with_reducible repeat (first | apply Kd.R_alloc | apply Kd.R_drewN | apply Kd.R_drew)); exact HO138.out))) (Kd.R_lt (by (with_reducible repeat (first | apply Kd.R_alloc | apply Kd.R_drewN | apply Kd.R_drew)); exact HO143.out))) (Kd.R_lt (by (with_reducible repeat (first | apply Kd.R_alloc | apply Kd.R_drewN | apply Kd.R_drew)); exact HO148.out))) (Kd.R_lt (by (with_reducible repeat (first | apply Kd.R_alloc | apply Kd.R_drewN | apply Kd.R_drew)); exact HO153.out))) (below_size (by repeat (first | (with_reducible first | exact HB.out | apply below_alloc | apply pw_below_drewN | apply below_drew1) | exact HB.out)))); have n7_ := Aside0.mk (below_step (by repeat (first | (with_reducible first | exact HB.out | apply below_alloc | apply pw_below_drewN | apply below_drew1) | exact HB.out)) hb); clear HO130; clear HO133; clear HO138; clear HO143; clear HO148; clear HO153; clear HB; have HO130 := n0_; have HO133 := n1_; have HO138 := n2_; have HO143 := n3_; have HO148 := n4_; have HO153 := n5_; have HO158 := n6_; have HB := n7_; clear n0_ n1_ n2_ n3_ n4_ n5_ n6_ n7_; (try clear hb); (try clear hb2); (try clear hk); (try clear hi); (try clear ho0); obtain ⟨Ao19, co19, eo19⟩ := Kd.R_slice HO158.out; subst eo19) | ((with_reducible refine gate_callee (f := 16) rfl ?_); refine goesL_ (some 63) rfl rfl Tryd.func16 (by kernel_rfl) rfl #[.slice Ao19 t154.length co19] rfl (by (try simp only [List.map_toArray, List.map_cons, List.map_nil]); first | done | rfl | (simp only [List.length_drop, List.length_take]; rfl)) ?_; (with_reducible refine (lex_Text.calls k _ _ t154 t159 t160 _ ?side1 ?side2 (GX.gl HGL.out (by repeat (first | (with_reducible first | exact HB.out | apply below_alloc | apply pw_below_drewN | apply below_drew1) | exact HB.out))) A7.out).mono ?_); (case side1 => repeat (first | exact (Kd.R_reads' HO158.out).2.2 | (with_reducible refine Kd.C_alloc ?_ _) | (with_reducible refine Kd.C_drewN ?_ _) | (with_reducible refine Kd.C_drew ?_))); (case side2 => exact (Kd.R_reads' HO158.out).2.1); rintro e w20 ⟨rfl, hb⟩; refine ⟨_, rfl, ?_⟩; have n0_ := Aside0.mk (Kd.R_below (by (with_reducible repeat (first | apply Kd.R_alloc | apply Kd.R_drewN | apply Kd.R_drew)); exact HO130.out) hb); have n1_ := Aside0.mk (Kd.R_below (by (with_reducible repeat (first | apply Kd.R_alloc | apply Kd.R_drewN | apply Kd.R_drew)); exact HO133.out) hb); have n2_ := Aside0.mk (Kd.R_below (by (with_reducible repeat (first | apply Kd.R_alloc | apply Kd.R_drewN | apply Kd.R_drew)); exact HO138.out) hb); have n3_ := Aside0.mk (Kd.R_below (by (with_reducible repeat (first | apply Kd.R_alloc | apply Kd.R_drewN | apply Kd.R_drew)); exact HO143.out) hb); have n4_ := Aside0.mk (Kd.R_below (by (with_reducible repeat (first | apply Kd.R_alloc | apply Kd.R_drewN | apply Kd.R_drew)); exact HO148.out) hb); have n5_ := Aside0.mk (Kd.R_below (by (with_reducible repeat (first | apply Kd.R_alloc | apply Kd.R_drewN | apply Kd.R_drew)); exact HO153.out) hb); have n6_ := Aside0.mk (Kd.R_below (by (with_reducible repeat (first | apply Kd.R_alloc | apply Kd.R_drewN | apply Kd.R_drew)); exact HO158.out) hb); have n7_ := Aside0.mk (below_step (by repeat (first | (with_reducible first | exact HB.out | apply below_alloc | apply pw_below_drewN | apply below_drew1) | exact HB.out)) hb); clear HO130; clear HO133; clear HO138; clear HO143; clear HO148; clear HO153; clear HO158; clear HB; have HO130 := n0_; have HO133 := n1_; have HO138 := n2_; have HO143 := n3_; have HO148 := n4_; have HO153 := n5_; have HO158 := n6_; have HB := n7_; clear n0_ n1_ n2_ n3_ n4_ n5_ n6_ n7_; (try clear hb); (try clear hb2); (try clear hk); (try clear hi)) | ((with_reducible refine gate_callee (f := 12) rfl ?_); refine goesL_ (some 67) rfl rfl Tryd.func12 (by kernel_rfl) rfl #[.string (⟨#[]⟩ : ByteArray)] rfl (by (try simp only [List.map_toArray, List.map_cons, List.map_nil]); first | done | rfl | (simp only [List.length_drop, List.length_take]; rfl)) ?_; (with_reducible refine (lex_Lex.calls (⟨#[]⟩ : ByteArray) t161 t162 t163 _ (GX.gl HGL.out (by repeat (first | (with_reducible first | exact HB.out | apply below_alloc | apply pw_below_drewN | apply below_drew1) | exact HB.out))) A8.out).mono ?_); rintro e w21 ⟨v164, rfl, ho0, hb⟩; refine ⟨_, rfl, ?_⟩; have n0_ := Aside0.mk (Kd.R_elder' (by (with_reducible repeat (first | apply Kd.R_alloc | apply Kd.R_drewN | apply Kd.R_drew)); exact HO130.out) (Kd.R_base ho0) hb); have n1_ := Aside0.mk (Kd.R_elder' (by (with_reducible repeat (first | apply Kd.R_alloc | apply Kd.R_drewN | apply Kd.R_drew)); exact HO133.out) (Kd.R_base ho0) hb); have n2_ := Aside0.mk (Kd.R_elder' (by (with_reducible repeat (first | apply Kd.R_alloc | apply Kd.R_drewN | apply Kd.R_drew)); exact HO138.out) (Kd.R_base ho0) hb); have n3_ := Aside0.mk (Kd.R_elder' (by (with_reducible repeat (first | apply Kd.R_alloc | apply Kd.R_drewN | apply Kd.R_drew)); exact HO143.out) (Kd.R_base ho0) hb); have n4_ := Aside0.mk (Kd.R_elder' (by (with_reducible repeat (first | apply Kd.R_alloc | apply Kd.R_drewN | apply Kd.R_drew)); exact HO148.out) (Kd.R_base ho0) hb); have n5_ := Aside0.mk (Kd.R_elder' (by (with_reducible repeat (first | apply Kd.R_alloc | apply Kd.R_drewN | apply Kd.R_drew)); exact HO153.out) (Kd.R_base ho0) hb); have n6_ := Aside0.mk (Kd.R_elder' (by (with_reducible repeat (first | apply Kd.R_alloc | apply Kd.R_drewN | apply Kd.R_drew)); exact HO158.out) (Kd.R_base ho0) hb); have n7_ := Aside0.mk (Kd.R_lower (Kd.R_new' (Kd.R_new' (Kd.R_new' (Kd.R_new' (Kd.R_new' (Kd.R_new' (Kd.R_new' ho0 (Kd.R_lt (by (with_reducible repeat (first | apply Kd.R_alloc | apply Kd.R_drewN | apply Kd.R_drew)); exact HO130.out))) (Kd.R_lt (by (with_reducible repeat (first | apply Kd.R_alloc | apply Kd.R_drewN | apply Kd.R_drew)); exact HO133.out))) (Kd.R_lt (by (with_reducible repeat (first | apply Kd.R_alloc | apply Kd.R_drewN | apply Kd.R_drew)); exact HO138.out))) (Kd.R_lt (by (with_reducible repeat (first | apply Kd.R_alloc | apply Kd.R_drewN | apply Kd.R_drew)); exact HO143.out))) (Kd.R_lt (by (with_reducible repeat (first | apply Kd.R_alloc | apply Kd.R_drewN | apply Kd.R_drew)); exact HO148.out))) (Kd.R_lt (by (with_reducible repeat (first | apply Kd.R_alloc | apply Kd.R_drewN | apply Kd.R_drew)); exact HO153.out))) (Kd.R_lt (by (with_reducible repeat (first | apply Kd.R_alloc | apply Kd.R_drewN | apply Kd.R_drew)); exact HO158.out))) (below_size (by repeat (first | (with_reducible first | exact HB.out | apply below_alloc | apply pw_below_drewN | apply below_drew1) | exact HB.out)))); have n8_ := Aside0.mk (below_step (by repeat (first | (with_reducible first | exact HB.out | apply below_alloc | apply pw_below_drewN | apply below_drew1) | exact HB.out)) hb); clear HO130; clear HO133; clear HO138; clear HO143; clear HO148; clear HO153; clear HO158; clear HB; have HO130 := n0_; have HO133 := n1_; have HO138 := n2_; have HO143 := n3_; have HO148 := n4_; have HO153 := n5_; have HO158 := n6_; have HO165 := n7_; have HB := n8_; clear n0_ n1_ n2_ n3_ n4_ n5_ n6_ n7_ n8_; (try clear hb); (try clear hb2); (try clear hk); (try clear hi); (try clear ho0)) | ((with_reducible refine gate_dst (N := 73) rfl ?_); (try (refine gate_guard (by rfl) ?_; dsimp only)); refine Kd.R_lit k35 _ 35 ?hg (N := 73) ?hd (xs := ([(⟨0, (⟨#[]⟩ : ByteArray), 0, 0⟩ : S35)] : List (S35))) (inner := [.int .i64 0, .string (⟨#[]⟩ : ByteArray), .int .i64 0, .int .i64 0]) (ok := fun _ => True) (okp := fun _ => True) ?hr ?hp (fun _ hk => hk) trivial (Below.refl _ _) (Nat.le_refl _) (by simp) ?_; (case hd => rfl); (case hg => rfl); (case hr => first | (go_simp; done) | (go_simp; rfl)); (case hp => exact (Reps.c4 (show Kd.M k35 _ _ _ (⟨0, (⟨#[]⟩ : ByteArray), 0, 0⟩ : S35) [.int .i64 0, .string (⟨#[]⟩ : ByteArray), .int .i64 0, .int .i64 0] from (k35_mkM _ _ _ (⟨0, (⟨#[]⟩ : ByteArray), 0, 0⟩ : S35) )) (Reps.none _ _))); intro v167 w22 ho23 hb hg_ hnew_; clear hg_ hnew_; (first | rw [← Ny166.out] at ho23 | (simp only [Int.reduceToNat] at ho23; rw [← Ny166.out] at ho23)); have n0_ := Aside0.mk (Kd.R_elder' (by (with_reducible repeat (first | apply Kd.R_alloc | apply Kd.R_drewN | apply Kd.R_drew)); exact HO130.out) (Kd.R_base ho23) hb); have n1_ := Aside0.mk (Kd.R_elder' (by (with_reducible repeat (first | apply Kd.R_alloc | apply Kd.R_drewN | apply Kd.R_drew)); exact HO133.out) (Kd.R_base ho23) hb); have n2_ := Aside0.mk (Kd.R_elder' (by (with_reducible repeat (first | apply Kd.R_alloc | apply Kd.R_drewN | apply Kd.R_drew)); exact HO138.out) (Kd.R_base ho23) hb); have n3_ := Aside0.mk (Kd.R_elder' (by (with_reducible repeat (first | apply Kd.R_alloc | apply Kd.R_drewN | apply Kd.R_drew)); exact HO143.out) (Kd.R_base ho23) hb); have n4_ := Aside0.mk (Kd.R_elder' (by (with_reducible repeat (first | apply Kd.R_alloc | apply Kd.R_drewN | apply Kd.R_drew)); exact HO148.out) (Kd.R_base ho23) hb); have n5_ := Aside0.mk (Kd.R_elder' (by (with_reducible repeat (first | apply Kd.R_alloc | apply Kd.R_drewN | apply Kd.R_drew)); exact HO153.out) (Kd.R_base ho23) hb); have n6_ := Aside0.mk (Kd.R_elder' (by (with_reducible repeat (first | apply Kd.R_alloc | apply Kd.R_drewN | apply Kd.R_drew)); exact HO158.out) (Kd.R_base ho23) hb); have n7_ := Aside0.mk (Kd.R_elder' (by (with_reducible repeat (first | apply Kd.R_alloc | apply Kd.R_drewN | apply Kd.R_drew)); exact HO165.out) (Kd.R_base ho23) hb); have n8_ := Aside0.mk (Kd.R_lower (Kd.R_new' (Kd.R_new' (Kd.R_new' (Kd.R_new' (Kd.R_new' (Kd.R_new' (Kd.R_new' (Kd.R_new' ho23 (Kd.R_lt (by (with_reducible repeat (first | apply Kd.R_alloc | apply Kd.R_drewN | apply Kd.R_drew)); exact HO130.out))) (Kd.R_lt (by (with_reducible repeat (first | apply Kd.R_alloc | apply Kd.R_drewN | apply Kd.R_drew)); exact HO133.out))) (Kd.R_lt (by (with_reducible repeat (first | apply Kd.R_alloc | apply Kd.R_drewN | apply Kd.R_drew)); exact HO138.out))) (Kd.R_lt (by (with_reducible repeat (first | apply Kd.R_alloc | apply Kd.R_drewN | apply Kd.R_drew)); exact HO143.out))) (Kd.R_lt (by (with_reducible repeat (first | apply Kd.R_alloc | apply Kd.R_drewN | apply Kd.R_drew)); exact HO148.out))) (Kd.R_lt (by (with_reducible repeat (first | apply Kd.R_alloc | apply Kd.R_drewN | apply Kd.R_drew)); exact HO153.out))) (Kd.R_lt (by (with_reducible repeat (first | apply Kd.R_alloc | apply Kd.R_drewN | apply Kd.R_drew)); exact HO158.out))) (Kd.R_lt (by (with_reducible repeat (first | apply Kd.R_alloc | apply Kd.R_drewN | apply Kd.R_drew)); exact HO165.out))) (below_size (by repeat (first | (with_reducible first | exact HB.out | apply below_alloc | apply pw_below_drewN | apply below_drew1) | exact HB.out)))); have n9_ := Aside0.mk (below_step (by repeat (first | (with_reducible first | exact HB.out | apply below_alloc | apply pw_below_drewN | apply below_drew1) | exact HB.out)) hb); clear HO130; clear HO133; clear HO138; clear HO143; clear HO148; clear HO153; clear HO158; clear HO165; clear HB; have HO130 := n0_; have HO133 := n1_; have HO138 := n2_; have HO143 := n3_; have HO148 := n4_; have HO153 := n5_; have HO158 := n6_; have HO165 := n7_; have HO168 := n8_; have HB := n9_; clear n0_ n1_ n2_ n3_ n4_ n5_ n6_ n7_ n8_ n9_; clear hb ho23; obtain ⟨Ao24, co24, eo24⟩ := Kd.R_slice HO168.out; subst eo24) | ((with_reducible refine gate_callee (f := 16) rfl ?_); refine goesL_ (some 74) rfl rfl Tryd.func16 (by kernel_rfl) rfl #[.slice Ao24 y166.length co24] rfl (by (try simp only [List.map_toArray, List.map_cons, List.map_nil]); first | done | rfl | (simp only [List.length_drop, List.length_take]; rfl)) ?_; (with_reducible refine (lex_Text.calls k _ _ y166 t169 t170 _ ?side1 ?side2 (GX.gl HGL.out (by repeat (first | (with_reducible first | exact HB.out | apply below_alloc | apply pw_below_drewN | apply below_drew1) | exact HB.out))) A9.out).mono ?_); (case side1 => repeat (first | exact (Kd.R_reads' HO168.out).2.2 | (with_reducible refine Kd.C_alloc ?_ _) | (with_reducible refine Kd.C_drewN ?_ _) | (with_reducible refine Kd.C_drew ?_))); (case side2 => exact (Kd.R_reads' HO168.out).2.1); rintro e w25 ⟨rfl, hb⟩; refine ⟨_, rfl, ?_⟩; have n0_ := Aside0.mk (Kd.R_below (by (with_reducible repeat (first | apply Kd.R_alloc | apply Kd.R_drewN | apply Kd.R_drew)); exact HO130.out) hb); have n1_ := Aside0.mk (Kd.R_below (by (with_reducible repeat (first | apply Kd.R_alloc | apply Kd.R_drewN | apply Kd.R_drew)); exact HO133.out) hb); have n2_ := Aside0.mk (Kd.R_below (by (with_reducible repeat (first | apply Kd.R_alloc | apply Kd.R_drewN | apply Kd.R_drew)); exact HO138.out) hb); have n3_ := Aside0.mk (Kd.R_below (by (with_reducible repeat (first | apply Kd.R_alloc | apply Kd.R_drewN | apply Kd.R_drew)); exact HO143.out) hb); have n4_ := Aside0.mk (Kd.R_below (by (with_reducible repeat (first | apply Kd.R_alloc | apply Kd.R_drewN | apply Kd.R_drew)); exact HO148.out) hb); have n5_ := Aside0.mk (Kd.R_below (by (with_reducible repeat (first | apply Kd.R_alloc | apply Kd.R_drewN | apply Kd.R_drew)); exact HO153.out) hb); have n6_ := Aside0.mk (Kd.R_below (by (with_reducible repeat (first | apply Kd.R_alloc | apply Kd.R_drewN | apply Kd.R_drew)); exact HO158.out) hb); have n7_ := Aside0.mk (Kd.R_below (by (with_reducible repeat (first | apply Kd.R_alloc | apply Kd.R_drewN | apply Kd.R_drew)); exact HO165.out) hb); have n8_ := Aside0.mk (Kd.R_below (by (with_reducible repeat (first | apply Kd.R_alloc | apply Kd.R_drewN | apply Kd.R_drew)); exact HO168.out) hb); have n9_ := Aside0.mk (below_step (by repeat (first | (with_reducible first | exact HB.out | apply below_alloc | apply pw_below_drewN | apply below_drew1) | exact HB.out)) hb); clear HO130; clear HO133; clear HO138; clear HO143; clear HO148; clear HO153; clear HO158; clear HO165; clear HO168; clear HB; have HO130 := n0_; have HO133 := n1_; have HO138 := n2_; have HO143 := n3_; have HO148 := n4_; have HO153 := n5_; have HO158 := n6_; have HO165 := n7_; have HO168 := n8_; have HB := n9_; clear n0_ n1_ n2_ n3_ n4_ n5_ n6_ n7_ n8_ n9_; (try clear hb); (try clear hb2); (try clear hk); (try clear hi)))
  (try simp only [Act.put, List.setIfInBounds_toArray, List.set_cons_zero, List.set_cons_succ])
  go_cut [127] (fun v127 wc => ∃ (kq : Nat) (x127_9 : Bool), v127 = .bool x127_9 ∧ Aside0 (fastilaw03_sane.j0 kq t126 y131 t139 t144 t154 t159 x127_9 = some r) ∧ Aside0 (kq ≤ k) ∧ Aside0 (Kd.R k35 35 wc w.heap.size (fun k_ => some k_ ≠ (v132 : Value).ownBlock ∧ some k_ ≠ (v142 : Value).ownBlock ∧ some k_ ≠ (v147 : Value).ownBlock ∧ some k_ ≠ ((.slice Ao19 t154.length co19) : Value).ownBlock) v129 t126) ∧ Aside0 (Kd.R k35 35 wc w.heap.size (fun k_ => some k_ ≠ (v129 : Value).ownBlock ∧ some k_ ≠ (v142 : Value).ownBlock ∧ some k_ ≠ (v147 : Value).ownBlock ∧ some k_ ≠ ((.slice Ao19 t154.length co19) : Value).ownBlock) v132 y131) ∧ Aside0 (Kd.R k35 35 wc w.heap.size (fun k_ => some k_ ≠ (v129 : Value).ownBlock ∧ some k_ ≠ (v132 : Value).ownBlock ∧ some k_ ≠ (v147 : Value).ownBlock ∧ some k_ ≠ ((.slice Ao19 t154.length co19) : Value).ownBlock) v142 t139) ∧ Aside0 (Kd.R k35 35 wc w.heap.size (fun k_ => some k_ ≠ (v129 : Value).ownBlock ∧ some k_ ≠ (v132 : Value).ownBlock ∧ some k_ ≠ (v142 : Value).ownBlock ∧ some k_ ≠ ((.slice Ao19 t154.length co19) : Value).ownBlock) v147 t144) ∧ Aside0 (Kd.R k35 35 wc w.heap.size (fun k_ => some k_ ≠ (v129 : Value).ownBlock ∧ some k_ ≠ (v132 : Value).ownBlock ∧ some k_ ≠ (v142 : Value).ownBlock ∧ some k_ ≠ (v147 : Value).ownBlock) (.slice Ao19 t154.length co19) t154) ∧ Aside0 (Below w.heap.size w wc))
  case first =>
    have H := HC10.out
    clear HC10
    by_cases c26 : t127 = 0
    · rw [if_pos c26] at H
      have c26b0 : (t127 == 0) = true := beq_iff_eq.mpr c26
      have c26b1 : (t127 != 0) = false := bne_eq_false_iff_eq.mpr c26
      clear c26
      (first | rw [c26b0] | (simp only [i64_w, i32_w]; rw [c26b0]) | skip)
      by_cases c27 : t128 = 0
      · rw [if_pos c27] at H
        have c27b0 : (t128 == 0) = true := beq_iff_eq.mpr c27
        have c27b1 : (t128 != 0) = false := bne_eq_false_iff_eq.mpr c27
        clear c27
        by_cases c28 : t136 = 30
        · rw [if_pos c28] at H
          have c28b0 : (t136 == 30) = true := beq_iff_eq.mpr c28
          have c28b1 : (t136 != 30) = false := bne_eq_false_iff_eq.mpr c28
          clear c28
          by_cases c29 : t135 = 0
          · rw [if_pos c29] at H
            have c29b0 : (t135 == 0) = true := beq_iff_eq.mpr c29
            have c29b1 : (t135 != 0) = false := bne_eq_false_iff_eq.mpr c29
            clear c29
            by_cases c30 : t141 = 0
            · rw [if_pos c30] at H
              have c30b0 : (t141 == 0) = true := beq_iff_eq.mpr c30
              have c30b1 : (t141 != 0) = false := bne_eq_false_iff_eq.mpr c30
              clear c30
              by_cases c31 : t146 = 0
              · rw [if_pos c31] at H
                have c31b0 : (t146 == 0) = true := beq_iff_eq.mpr c31
                have c31b1 : (t146 != 0) = false := bne_eq_false_iff_eq.mpr c31
                clear c31
                by_cases c32 : t151 = 30
                · rw [if_pos c32] at H
                  have c32b0 : (t151 == 30) = true := beq_iff_eq.mpr c32
                  have c32b1 : (t151 != 30) = false := bne_eq_false_iff_eq.mpr c32
                  clear c32
                  by_cases c33 : t150 = 2
                  · rw [if_pos c33] at H
                    have c33b0 : (t150 == 2) = true := beq_iff_eq.mpr c33
                    have c33b1 : (t150 != 2) = false := bne_eq_false_iff_eq.mpr c33
                    clear c33
                    by_cases c34 : t156 = 0
                    · rw [if_pos c34] at H
                      have c34b0 : (t156 == 0) = true := beq_iff_eq.mpr c34
                      have c34b1 : (t156 != 0) = false := bne_eq_false_iff_eq.mpr c34
                      clear c34
                      by_cases c35 : t160 = 0
                      · rw [if_pos c35] at H
                        have c35b0 : (t160 == 0) = true := beq_iff_eq.mpr c35
                        have c35b1 : (t160 != 0) = false := bne_eq_false_iff_eq.mpr c35
                        clear c35
                        by_cases c36 : t163 = 0
                        · rw [if_pos c36] at H
                          have c36b0 : (t163 == 0) = true := beq_iff_eq.mpr c36
                          have c36b1 : (t163 != 0) = false := bne_eq_false_iff_eq.mpr c36
                          clear c36
                          by_cases c37 : t170 = 30
                          · rw [if_pos c37] at H
                            have c37b0 : (t170 == 30) = true := beq_iff_eq.mpr c37
                            have c37b1 : (t170 != 30) = false := bne_eq_false_iff_eq.mpr c37
                            clear c37
                            have H' := Aside0.mk H
                            clear H
                            obtain ⟨Ao38, co38, eo38⟩ := Kd.R_slice HO165.out
                            subst eo38
                            go_wp2
                            go_meet
                            case rel => exact ⟨_, (((t161.length : Int) != 0)), (by first | rfl | (simp; done) | (simp [*]; done)), H', ⟨by first | omega | exact Nat.le_refl _⟩, ⟨by (with_reducible repeat (first | apply Kd.R_alloc | apply Kd.R_drewN | apply Kd.R_drew)); exact Kd.R_mono HO130.out (fun _ hk => ⟨hk.1.1.1.1.1.1.1.2, ⟨hk.1.1.1.1.1.2, ⟨hk.1.1.1.1.2, hk.1.1.2⟩⟩⟩)⟩, ⟨by (with_reducible repeat (first | apply Kd.R_alloc | apply Kd.R_drewN | apply Kd.R_drew)); exact Kd.R_mono HO133.out (fun _ hk => ⟨hk.1.1.1.1.1.1.1.2, ⟨hk.1.1.1.1.1.2, ⟨hk.1.1.1.1.2, hk.1.1.2⟩⟩⟩)⟩, ⟨by (with_reducible repeat (first | apply Kd.R_alloc | apply Kd.R_drewN | apply Kd.R_drew)); exact Kd.R_mono HO143.out (fun _ hk => ⟨hk.1.1.1.1.1.1.1.2, ⟨hk.1.1.1.1.1.1.2, ⟨hk.1.1.1.1.2, hk.1.1.2⟩⟩⟩)⟩, ⟨by (with_reducible repeat (first | apply Kd.R_alloc | apply Kd.R_drewN | apply Kd.R_drew)); exact Kd.R_mono HO148.out (fun _ hk => ⟨hk.1.1.1.1.1.1.1.2, ⟨hk.1.1.1.1.1.1.2, ⟨hk.1.1.1.1.2, hk.1.1.2⟩⟩⟩)⟩, ⟨by (with_reducible repeat (first | apply Kd.R_alloc | apply Kd.R_drewN | apply Kd.R_drew)); exact Kd.R_mono HO158.out (fun _ hk => ⟨hk.1.1.1.1.1.1.1.2, ⟨hk.1.1.1.1.1.1.2, ⟨hk.1.1.1.1.2, hk.1.1.1.2⟩⟩⟩)⟩, ⟨by repeat (first | (with_reducible first | exact HB.out | apply below_alloc | apply pw_below_drewN | apply below_drew1) | exact HB.out)⟩⟩
                          · rw [if_neg c37] at H
                            have c37b0 : (t170 == 30) = false := beq_eq_false_iff_ne.mpr c37
                            have c37b1 : (t170 != 30) = true := bne_iff_ne.mpr c37
                            have H' := Aside0.mk H
                            clear H
                            go_wp2
                            go_meet
                            case rel => exact ⟨_, (true), (by first | rfl | (simp; done) | (simp [*]; done)), H', ⟨by first | omega | exact Nat.le_refl _⟩, ⟨by (with_reducible repeat (first | apply Kd.R_alloc | apply Kd.R_drewN | apply Kd.R_drew)); exact Kd.R_mono HO130.out (fun _ hk => ⟨hk.1.1.1.1.1.1.1.2, ⟨hk.1.1.1.1.1.2, ⟨hk.1.1.1.1.2, hk.1.1.2⟩⟩⟩)⟩, ⟨by (with_reducible repeat (first | apply Kd.R_alloc | apply Kd.R_drewN | apply Kd.R_drew)); exact Kd.R_mono HO133.out (fun _ hk => ⟨hk.1.1.1.1.1.1.1.2, ⟨hk.1.1.1.1.1.2, ⟨hk.1.1.1.1.2, hk.1.1.2⟩⟩⟩)⟩, ⟨by (with_reducible repeat (first | apply Kd.R_alloc | apply Kd.R_drewN | apply Kd.R_drew)); exact Kd.R_mono HO143.out (fun _ hk => ⟨hk.1.1.1.1.1.1.1.2, ⟨hk.1.1.1.1.1.1.2, ⟨hk.1.1.1.1.2, hk.1.1.2⟩⟩⟩)⟩, ⟨by (with_reducible repeat (first | apply Kd.R_alloc | apply Kd.R_drewN | apply Kd.R_drew)); exact Kd.R_mono HO148.out (fun _ hk => ⟨hk.1.1.1.1.1.1.1.2, ⟨hk.1.1.1.1.1.1.2, ⟨hk.1.1.1.1.2, hk.1.1.2⟩⟩⟩)⟩, ⟨by (with_reducible repeat (first | apply Kd.R_alloc | apply Kd.R_drewN | apply Kd.R_drew)); exact Kd.R_mono HO158.out (fun _ hk => ⟨hk.1.1.1.1.1.1.1.2, ⟨hk.1.1.1.1.1.1.2, ⟨hk.1.1.1.1.2, hk.1.1.1.2⟩⟩⟩)⟩, ⟨by repeat (first | (with_reducible first | exact HB.out | apply below_alloc | apply pw_below_drewN | apply below_drew1) | exact HB.out)⟩⟩
                        · rw [if_neg c36] at H
                          have c36b0 : (t163 == 0) = false := beq_eq_false_iff_ne.mpr c36
                          have c36b1 : (t163 != 0) = true := bne_iff_ne.mpr c36
                          have H' := Aside0.mk H
                          clear H
                          go_wp2
                          go_meet
                          case rel => exact ⟨_, (true), (by first | rfl | (simp; done) | (simp [*]; done)), H', ⟨by first | omega | exact Nat.le_refl _⟩, ⟨by (with_reducible repeat (first | apply Kd.R_alloc | apply Kd.R_drewN | apply Kd.R_drew)); exact Kd.R_mono HO130.out (fun _ hk => ⟨hk.1.1.1.1.1.1.1.2, ⟨hk.1.1.1.1.1.2, ⟨hk.1.1.1.1.2, hk.1.1.2⟩⟩⟩)⟩, ⟨by (with_reducible repeat (first | apply Kd.R_alloc | apply Kd.R_drewN | apply Kd.R_drew)); exact Kd.R_mono HO133.out (fun _ hk => ⟨hk.1.1.1.1.1.1.1.2, ⟨hk.1.1.1.1.1.2, ⟨hk.1.1.1.1.2, hk.1.1.2⟩⟩⟩)⟩, ⟨by (with_reducible repeat (first | apply Kd.R_alloc | apply Kd.R_drewN | apply Kd.R_drew)); exact Kd.R_mono HO143.out (fun _ hk => ⟨hk.1.1.1.1.1.1.1.2, ⟨hk.1.1.1.1.1.1.2, ⟨hk.1.1.1.1.2, hk.1.1.2⟩⟩⟩)⟩, ⟨by (with_reducible repeat (first | apply Kd.R_alloc | apply Kd.R_drewN | apply Kd.R_drew)); exact Kd.R_mono HO148.out (fun _ hk => ⟨hk.1.1.1.1.1.1.1.2, ⟨hk.1.1.1.1.1.1.2, ⟨hk.1.1.1.1.2, hk.1.1.2⟩⟩⟩)⟩, ⟨by (with_reducible repeat (first | apply Kd.R_alloc | apply Kd.R_drewN | apply Kd.R_drew)); exact Kd.R_mono HO158.out (fun _ hk => ⟨hk.1.1.1.1.1.1.1.2, ⟨hk.1.1.1.1.1.1.2, ⟨hk.1.1.1.1.2, hk.1.1.1.2⟩⟩⟩)⟩, ⟨by repeat (first | (with_reducible first | exact HB.out | apply below_alloc | apply pw_below_drewN | apply below_drew1) | exact HB.out)⟩⟩
                      · rw [if_neg c35] at H
                        have c35b0 : (t160 == 0) = false := beq_eq_false_iff_ne.mpr c35
                        have c35b1 : (t160 != 0) = true := bne_iff_ne.mpr c35
                        have H' := Aside0.mk H
                        clear H
                        go_wp2
                        go_meet
                        case rel => exact ⟨_, (true), (by first | rfl | (simp; done) | (simp [*]; done)), H', ⟨by first | omega | exact Nat.le_refl _⟩, ⟨by (with_reducible repeat (first | apply Kd.R_alloc | apply Kd.R_drewN | apply Kd.R_drew)); exact Kd.R_mono HO130.out (fun _ hk => ⟨hk.1.1.1.1.1.1.1.2, ⟨hk.1.1.1.1.1.2, ⟨hk.1.1.1.1.2, hk.1.1.2⟩⟩⟩)⟩, ⟨by (with_reducible repeat (first | apply Kd.R_alloc | apply Kd.R_drewN | apply Kd.R_drew)); exact Kd.R_mono HO133.out (fun _ hk => ⟨hk.1.1.1.1.1.1.1.2, ⟨hk.1.1.1.1.1.2, ⟨hk.1.1.1.1.2, hk.1.1.2⟩⟩⟩)⟩, ⟨by (with_reducible repeat (first | apply Kd.R_alloc | apply Kd.R_drewN | apply Kd.R_drew)); exact Kd.R_mono HO143.out (fun _ hk => ⟨hk.1.1.1.1.1.1.1.2, ⟨hk.1.1.1.1.1.1.2, ⟨hk.1.1.1.1.2, hk.1.1.2⟩⟩⟩)⟩, ⟨by (with_reducible repeat (first | apply Kd.R_alloc | apply Kd.R_drewN | apply Kd.R_drew)); exact Kd.R_mono HO148.out (fun _ hk => ⟨hk.1.1.1.1.1.1.1.2, ⟨hk.1.1.1.1.1.1.2, ⟨hk.1.1.1.1.2, hk.1.1.2⟩⟩⟩)⟩, ⟨by (with_reducible repeat (first | apply Kd.R_alloc | apply Kd.R_drewN | apply Kd.R_drew)); exact Kd.R_mono HO158.out (fun _ hk => ⟨hk.1.1.1.1.1.1.1.2, ⟨hk.1.1.1.1.1.1.2, ⟨hk.1.1.1.1.2, hk.1.1.1.2⟩⟩⟩)⟩, ⟨by repeat (first | (with_reducible first | exact HB.out | apply below_alloc | apply pw_below_drewN | apply below_drew1) | exact HB.out)⟩⟩
                    · rw [if_neg c34] at H
                      have c34b0 : (t156 == 0) = false := beq_eq_false_iff_ne.mpr c34
                      have c34b1 : (t156 != 0) = true := bne_iff_ne.mpr c34
                      have H' := Aside0.mk H
                      clear H
                      go_wp2
                      go_meet
                      case rel => exact ⟨_, (true), (by first | rfl | (simp; done) | (simp [*]; done)), H', ⟨by first | omega | exact Nat.le_refl _⟩, ⟨by (with_reducible repeat (first | apply Kd.R_alloc | apply Kd.R_drewN | apply Kd.R_drew)); exact Kd.R_mono HO130.out (fun _ hk => ⟨hk.1.1.1.1.1.1.1.2, ⟨hk.1.1.1.1.1.2, ⟨hk.1.1.1.1.2, hk.1.1.2⟩⟩⟩)⟩, ⟨by (with_reducible repeat (first | apply Kd.R_alloc | apply Kd.R_drewN | apply Kd.R_drew)); exact Kd.R_mono HO133.out (fun _ hk => ⟨hk.1.1.1.1.1.1.1.2, ⟨hk.1.1.1.1.1.2, ⟨hk.1.1.1.1.2, hk.1.1.2⟩⟩⟩)⟩, ⟨by (with_reducible repeat (first | apply Kd.R_alloc | apply Kd.R_drewN | apply Kd.R_drew)); exact Kd.R_mono HO143.out (fun _ hk => ⟨hk.1.1.1.1.1.1.1.2, ⟨hk.1.1.1.1.1.1.2, ⟨hk.1.1.1.1.2, hk.1.1.2⟩⟩⟩)⟩, ⟨by (with_reducible repeat (first | apply Kd.R_alloc | apply Kd.R_drewN | apply Kd.R_drew)); exact Kd.R_mono HO148.out (fun _ hk => ⟨hk.1.1.1.1.1.1.1.2, ⟨hk.1.1.1.1.1.1.2, ⟨hk.1.1.1.1.2, hk.1.1.2⟩⟩⟩)⟩, ⟨by (with_reducible repeat (first | apply Kd.R_alloc | apply Kd.R_drewN | apply Kd.R_drew)); exact Kd.R_mono HO158.out (fun _ hk => ⟨hk.1.1.1.1.1.1.1.2, ⟨hk.1.1.1.1.1.1.2, ⟨hk.1.1.1.1.2, hk.1.1.1.2⟩⟩⟩)⟩, ⟨by repeat (first | (with_reducible first | exact HB.out | apply below_alloc | apply pw_below_drewN | apply below_drew1) | exact HB.out)⟩⟩
                  · rw [if_neg c33] at H
                    have c33b0 : (t150 == 2) = false := beq_eq_false_iff_ne.mpr c33
                    have c33b1 : (t150 != 2) = true := bne_iff_ne.mpr c33
                    have H' := Aside0.mk H
                    clear H
                    go_wp2
                    go_meet
                    case rel => exact ⟨_, (true), (by first | rfl | (simp; done) | (simp [*]; done)), H', ⟨by first | omega | exact Nat.le_refl _⟩, ⟨by (with_reducible repeat (first | apply Kd.R_alloc | apply Kd.R_drewN | apply Kd.R_drew)); exact Kd.R_mono HO130.out (fun _ hk => ⟨hk.1.1.1.1.1.1.1.2, ⟨hk.1.1.1.1.1.2, ⟨hk.1.1.1.1.2, hk.1.1.2⟩⟩⟩)⟩, ⟨by (with_reducible repeat (first | apply Kd.R_alloc | apply Kd.R_drewN | apply Kd.R_drew)); exact Kd.R_mono HO133.out (fun _ hk => ⟨hk.1.1.1.1.1.1.1.2, ⟨hk.1.1.1.1.1.2, ⟨hk.1.1.1.1.2, hk.1.1.2⟩⟩⟩)⟩, ⟨by (with_reducible repeat (first | apply Kd.R_alloc | apply Kd.R_drewN | apply Kd.R_drew)); exact Kd.R_mono HO143.out (fun _ hk => ⟨hk.1.1.1.1.1.1.1.2, ⟨hk.1.1.1.1.1.1.2, ⟨hk.1.1.1.1.2, hk.1.1.2⟩⟩⟩)⟩, ⟨by (with_reducible repeat (first | apply Kd.R_alloc | apply Kd.R_drewN | apply Kd.R_drew)); exact Kd.R_mono HO148.out (fun _ hk => ⟨hk.1.1.1.1.1.1.1.2, ⟨hk.1.1.1.1.1.1.2, ⟨hk.1.1.1.1.2, hk.1.1.2⟩⟩⟩)⟩, ⟨by (with_reducible repeat (first | apply Kd.R_alloc | apply Kd.R_drewN | apply Kd.R_drew)); exact Kd.R_mono HO158.out (fun _ hk => ⟨hk.1.1.1.1.1.1.1.2, ⟨hk.1.1.1.1.1.1.2, ⟨hk.1.1.1.1.2, hk.1.1.1.2⟩⟩⟩)⟩, ⟨by repeat (first | (with_reducible first | exact HB.out | apply below_alloc | apply pw_below_drewN | apply below_drew1) | exact HB.out)⟩⟩
                · rw [if_neg c32] at H
                  have c32b0 : (t151 == 30) = false := beq_eq_false_iff_ne.mpr c32
                  have c32b1 : (t151 != 30) = true := bne_iff_ne.mpr c32
                  have H' := Aside0.mk H
                  clear H
                  go_wp2
                  go_meet
                  case rel => exact ⟨_, (true), (by first | rfl | (simp; done) | (simp [*]; done)), H', ⟨by first | omega | exact Nat.le_refl _⟩, ⟨by (with_reducible repeat (first | apply Kd.R_alloc | apply Kd.R_drewN | apply Kd.R_drew)); exact Kd.R_mono HO130.out (fun _ hk => ⟨hk.1.1.1.1.1.1.1.2, ⟨hk.1.1.1.1.1.2, ⟨hk.1.1.1.1.2, hk.1.1.2⟩⟩⟩)⟩, ⟨by (with_reducible repeat (first | apply Kd.R_alloc | apply Kd.R_drewN | apply Kd.R_drew)); exact Kd.R_mono HO133.out (fun _ hk => ⟨hk.1.1.1.1.1.1.1.2, ⟨hk.1.1.1.1.1.2, ⟨hk.1.1.1.1.2, hk.1.1.2⟩⟩⟩)⟩, ⟨by (with_reducible repeat (first | apply Kd.R_alloc | apply Kd.R_drewN | apply Kd.R_drew)); exact Kd.R_mono HO143.out (fun _ hk => ⟨hk.1.1.1.1.1.1.1.2, ⟨hk.1.1.1.1.1.1.2, ⟨hk.1.1.1.1.2, hk.1.1.2⟩⟩⟩)⟩, ⟨by (with_reducible repeat (first | apply Kd.R_alloc | apply Kd.R_drewN | apply Kd.R_drew)); exact Kd.R_mono HO148.out (fun _ hk => ⟨hk.1.1.1.1.1.1.1.2, ⟨hk.1.1.1.1.1.1.2, ⟨hk.1.1.1.1.2, hk.1.1.2⟩⟩⟩)⟩, ⟨by (with_reducible repeat (first | apply Kd.R_alloc | apply Kd.R_drewN | apply Kd.R_drew)); exact Kd.R_mono HO158.out (fun _ hk => ⟨hk.1.1.1.1.1.1.1.2, ⟨hk.1.1.1.1.1.1.2, ⟨hk.1.1.1.1.2, hk.1.1.1.2⟩⟩⟩)⟩, ⟨by repeat (first | (with_reducible first | exact HB.out | apply below_alloc | apply pw_below_drewN | apply below_drew1) | exact HB.out)⟩⟩
              · rw [if_neg c31] at H
                have c31b0 : (t146 == 0) = false := beq_eq_false_iff_ne.mpr c31
                have c31b1 : (t146 != 0) = true := bne_iff_ne.mpr c31
                have H' := Aside0.mk H
                clear H
                go_wp2
                go_meet
                case rel => exact ⟨_, (true), (by first | rfl | (simp; done) | (simp [*]; done)), H', ⟨by first | omega | exact Nat.le_refl _⟩, ⟨by (with_reducible repeat (first | apply Kd.R_alloc | apply Kd.R_drewN | apply Kd.R_drew)); exact Kd.R_mono HO130.out (fun _ hk => ⟨hk.1.1.1.1.1.1.1.2, ⟨hk.1.1.1.1.1.2, ⟨hk.1.1.1.1.2, hk.1.1.2⟩⟩⟩)⟩, ⟨by (with_reducible repeat (first | apply Kd.R_alloc | apply Kd.R_drewN | apply Kd.R_drew)); exact Kd.R_mono HO133.out (fun _ hk => ⟨hk.1.1.1.1.1.1.1.2, ⟨hk.1.1.1.1.1.2, ⟨hk.1.1.1.1.2, hk.1.1.2⟩⟩⟩)⟩, ⟨by (with_reducible repeat (first | apply Kd.R_alloc | apply Kd.R_drewN | apply Kd.R_drew)); exact Kd.R_mono HO143.out (fun _ hk => ⟨hk.1.1.1.1.1.1.1.2, ⟨hk.1.1.1.1.1.1.2, ⟨hk.1.1.1.1.2, hk.1.1.2⟩⟩⟩)⟩, ⟨by (with_reducible repeat (first | apply Kd.R_alloc | apply Kd.R_drewN | apply Kd.R_drew)); exact Kd.R_mono HO148.out (fun _ hk => ⟨hk.1.1.1.1.1.1.1.2, ⟨hk.1.1.1.1.1.1.2, ⟨hk.1.1.1.1.2, hk.1.1.2⟩⟩⟩)⟩, ⟨by (with_reducible repeat (first | apply Kd.R_alloc | apply Kd.R_drewN | apply Kd.R_drew)); exact Kd.R_mono HO158.out (fun _ hk => ⟨hk.1.1.1.1.1.1.1.2, ⟨hk.1.1.1.1.1.1.2, ⟨hk.1.1.1.1.2, hk.1.1.1.2⟩⟩⟩)⟩, ⟨by repeat (first | (with_reducible first | exact HB.out | apply below_alloc | apply pw_below_drewN | apply below_drew1) | exact HB.out)⟩⟩
            · rw [if_neg c30] at H
              have c30b0 : (t141 == 0) = false := beq_eq_false_iff_ne.mpr c30
              have c30b1 : (t141 != 0) = true := bne_iff_ne.mpr c30
              have H' := Aside0.mk H
              clear H
              go_wp2
              go_meet
              case rel => exact ⟨_, (true), (by first | rfl | (simp; done) | (simp [*]; done)), H', ⟨by first | omega | exact Nat.le_refl _⟩, ⟨by (with_reducible repeat (first | apply Kd.R_alloc | apply Kd.R_drewN | apply Kd.R_drew)); exact Kd.R_mono HO130.out (fun _ hk => ⟨hk.1.1.1.1.1.1.1.2, ⟨hk.1.1.1.1.1.2, ⟨hk.1.1.1.1.2, hk.1.1.2⟩⟩⟩)⟩, ⟨by (with_reducible repeat (first | apply Kd.R_alloc | apply Kd.R_drewN | apply Kd.R_drew)); exact Kd.R_mono HO133.out (fun _ hk => ⟨hk.1.1.1.1.1.1.1.2, ⟨hk.1.1.1.1.1.2, ⟨hk.1.1.1.1.2, hk.1.1.2⟩⟩⟩)⟩, ⟨by (with_reducible repeat (first | apply Kd.R_alloc | apply Kd.R_drewN | apply Kd.R_drew)); exact Kd.R_mono HO143.out (fun _ hk => ⟨hk.1.1.1.1.1.1.1.2, ⟨hk.1.1.1.1.1.1.2, ⟨hk.1.1.1.1.2, hk.1.1.2⟩⟩⟩)⟩, ⟨by (with_reducible repeat (first | apply Kd.R_alloc | apply Kd.R_drewN | apply Kd.R_drew)); exact Kd.R_mono HO148.out (fun _ hk => ⟨hk.1.1.1.1.1.1.1.2, ⟨hk.1.1.1.1.1.1.2, ⟨hk.1.1.1.1.2, hk.1.1.2⟩⟩⟩)⟩, ⟨by (with_reducible repeat (first | apply Kd.R_alloc | apply Kd.R_drewN | apply Kd.R_drew)); exact Kd.R_mono HO158.out (fun _ hk => ⟨hk.1.1.1.1.1.1.1.2, ⟨hk.1.1.1.1.1.1.2, ⟨hk.1.1.1.1.2, hk.1.1.1.2⟩⟩⟩)⟩, ⟨by repeat (first | (with_reducible first | exact HB.out | apply below_alloc | apply pw_below_drewN | apply below_drew1) | exact HB.out)⟩⟩
          · rw [if_neg c29] at H
            have c29b0 : (t135 == 0) = false := beq_eq_false_iff_ne.mpr c29
            have c29b1 : (t135 != 0) = true := bne_iff_ne.mpr c29
            have H' := Aside0.mk H
            clear H
            go_wp2
            go_meet
            case rel => exact ⟨_, (true), (by first | rfl | (simp; done) | (simp [*]; done)), H', ⟨by first | omega | exact Nat.le_refl _⟩, ⟨by (with_reducible repeat (first | apply Kd.R_alloc | apply Kd.R_drewN | apply Kd.R_drew)); exact Kd.R_mono HO130.out (fun _ hk => ⟨hk.1.1.1.1.1.1.1.2, ⟨hk.1.1.1.1.1.2, ⟨hk.1.1.1.1.2, hk.1.1.2⟩⟩⟩)⟩, ⟨by (with_reducible repeat (first | apply Kd.R_alloc | apply Kd.R_drewN | apply Kd.R_drew)); exact Kd.R_mono HO133.out (fun _ hk => ⟨hk.1.1.1.1.1.1.1.2, ⟨hk.1.1.1.1.1.2, ⟨hk.1.1.1.1.2, hk.1.1.2⟩⟩⟩)⟩, ⟨by (with_reducible repeat (first | apply Kd.R_alloc | apply Kd.R_drewN | apply Kd.R_drew)); exact Kd.R_mono HO143.out (fun _ hk => ⟨hk.1.1.1.1.1.1.1.2, ⟨hk.1.1.1.1.1.1.2, ⟨hk.1.1.1.1.2, hk.1.1.2⟩⟩⟩)⟩, ⟨by (with_reducible repeat (first | apply Kd.R_alloc | apply Kd.R_drewN | apply Kd.R_drew)); exact Kd.R_mono HO148.out (fun _ hk => ⟨hk.1.1.1.1.1.1.1.2, ⟨hk.1.1.1.1.1.1.2, ⟨hk.1.1.1.1.2, hk.1.1.2⟩⟩⟩)⟩, ⟨by (with_reducible repeat (first | apply Kd.R_alloc | apply Kd.R_drewN | apply Kd.R_drew)); exact Kd.R_mono HO158.out (fun _ hk => ⟨hk.1.1.1.1.1.1.1.2, ⟨hk.1.1.1.1.1.1.2, ⟨hk.1.1.1.1.2, hk.1.1.1.2⟩⟩⟩)⟩, ⟨by repeat (first | (with_reducible first | exact HB.out | apply below_alloc | apply pw_below_drewN | apply below_drew1) | exact HB.out)⟩⟩
        · rw [if_neg c28] at H
          have c28b0 : (t136 == 30) = false := beq_eq_false_iff_ne.mpr c28
          have c28b1 : (t136 != 30) = true := bne_iff_ne.mpr c28
          have H' := Aside0.mk H
          clear H
          go_wp2
          go_meet
          case rel => exact ⟨_, (true), (by first | rfl | (simp; done) | (simp [*]; done)), H', ⟨by first | omega | exact Nat.le_refl _⟩, ⟨by (with_reducible repeat (first | apply Kd.R_alloc | apply Kd.R_drewN | apply Kd.R_drew)); exact Kd.R_mono HO130.out (fun _ hk => ⟨hk.1.1.1.1.1.1.1.2, ⟨hk.1.1.1.1.1.2, ⟨hk.1.1.1.1.2, hk.1.1.2⟩⟩⟩)⟩, ⟨by (with_reducible repeat (first | apply Kd.R_alloc | apply Kd.R_drewN | apply Kd.R_drew)); exact Kd.R_mono HO133.out (fun _ hk => ⟨hk.1.1.1.1.1.1.1.2, ⟨hk.1.1.1.1.1.2, ⟨hk.1.1.1.1.2, hk.1.1.2⟩⟩⟩)⟩, ⟨by (with_reducible repeat (first | apply Kd.R_alloc | apply Kd.R_drewN | apply Kd.R_drew)); exact Kd.R_mono HO143.out (fun _ hk => ⟨hk.1.1.1.1.1.1.1.2, ⟨hk.1.1.1.1.1.1.2, ⟨hk.1.1.1.1.2, hk.1.1.2⟩⟩⟩)⟩, ⟨by (with_reducible repeat (first | apply Kd.R_alloc | apply Kd.R_drewN | apply Kd.R_drew)); exact Kd.R_mono HO148.out (fun _ hk => ⟨hk.1.1.1.1.1.1.1.2, ⟨hk.1.1.1.1.1.1.2, ⟨hk.1.1.1.1.2, hk.1.1.2⟩⟩⟩)⟩, ⟨by (with_reducible repeat (first | apply Kd.R_alloc | apply Kd.R_drewN | apply Kd.R_drew)); exact Kd.R_mono HO158.out (fun _ hk => ⟨hk.1.1.1.1.1.1.1.2, ⟨hk.1.1.1.1.1.1.2, ⟨hk.1.1.1.1.2, hk.1.1.1.2⟩⟩⟩)⟩, ⟨by repeat (first | (with_reducible first | exact HB.out | apply below_alloc | apply pw_below_drewN | apply below_drew1) | exact HB.out)⟩⟩
      · rw [if_neg c27] at H
        have c27b0 : (t128 == 0) = false := beq_eq_false_iff_ne.mpr c27
        have c27b1 : (t128 != 0) = true := bne_iff_ne.mpr c27
        have H' := Aside0.mk H
        clear H
        go_wp2
        go_meet
        case rel => exact ⟨_, (true), (by first | rfl | (simp; done) | (simp [*]; done)), H', ⟨by first | omega | exact Nat.le_refl _⟩, ⟨by (with_reducible repeat (first | apply Kd.R_alloc | apply Kd.R_drewN | apply Kd.R_drew)); exact Kd.R_mono HO130.out (fun _ hk => ⟨hk.1.1.1.1.1.1.1.2, ⟨hk.1.1.1.1.1.2, ⟨hk.1.1.1.1.2, hk.1.1.2⟩⟩⟩)⟩, ⟨by (with_reducible repeat (first | apply Kd.R_alloc | apply Kd.R_drewN | apply Kd.R_drew)); exact Kd.R_mono HO133.out (fun _ hk => ⟨hk.1.1.1.1.1.1.1.2, ⟨hk.1.1.1.1.1.2, ⟨hk.1.1.1.1.2, hk.1.1.2⟩⟩⟩)⟩, ⟨by (with_reducible repeat (first | apply Kd.R_alloc | apply Kd.R_drewN | apply Kd.R_drew)); exact Kd.R_mono HO143.out (fun _ hk => ⟨hk.1.1.1.1.1.1.1.2, ⟨hk.1.1.1.1.1.1.2, ⟨hk.1.1.1.1.2, hk.1.1.2⟩⟩⟩)⟩, ⟨by (with_reducible repeat (first | apply Kd.R_alloc | apply Kd.R_drewN | apply Kd.R_drew)); exact Kd.R_mono HO148.out (fun _ hk => ⟨hk.1.1.1.1.1.1.1.2, ⟨hk.1.1.1.1.1.1.2, ⟨hk.1.1.1.1.2, hk.1.1.2⟩⟩⟩)⟩, ⟨by (with_reducible repeat (first | apply Kd.R_alloc | apply Kd.R_drewN | apply Kd.R_drew)); exact Kd.R_mono HO158.out (fun _ hk => ⟨hk.1.1.1.1.1.1.1.2, ⟨hk.1.1.1.1.1.1.2, ⟨hk.1.1.1.1.2, hk.1.1.1.2⟩⟩⟩)⟩, ⟨by repeat (first | (with_reducible first | exact HB.out | apply below_alloc | apply pw_below_drewN | apply below_drew1) | exact HB.out)⟩⟩
    · rw [if_neg c26] at H
      have c26b0 : (t127 == 0) = false := beq_eq_false_iff_ne.mpr c26
      have c26b1 : (t127 != 0) = true := bne_iff_ne.mpr c26
      (first | rw [c26b0] | (simp only [i64_w, i32_w]; rw [c26b0]) | skip)
      have H' := Aside0.mk H
      clear H
      go_wp2
      go_meet
      case rel => exact ⟨_, (true), (by first | rfl | (simp; done) | (simp [*]; done)), H', ⟨by first | omega | exact Nat.le_refl _⟩, ⟨by (with_reducible repeat (first | apply Kd.R_alloc | apply Kd.R_drewN | apply Kd.R_drew)); exact Kd.R_mono HO130.out (fun _ hk => ⟨hk.1.1.1.1.1.1.1.2, ⟨hk.1.1.1.1.1.2, ⟨hk.1.1.1.1.2, hk.1.1.2⟩⟩⟩)⟩, ⟨by (with_reducible repeat (first | apply Kd.R_alloc | apply Kd.R_drewN | apply Kd.R_drew)); exact Kd.R_mono HO133.out (fun _ hk => ⟨hk.1.1.1.1.1.1.1.2, ⟨hk.1.1.1.1.1.2, ⟨hk.1.1.1.1.2, hk.1.1.2⟩⟩⟩)⟩, ⟨by (with_reducible repeat (first | apply Kd.R_alloc | apply Kd.R_drewN | apply Kd.R_drew)); exact Kd.R_mono HO143.out (fun _ hk => ⟨hk.1.1.1.1.1.1.1.2, ⟨hk.1.1.1.1.1.1.2, ⟨hk.1.1.1.1.2, hk.1.1.2⟩⟩⟩)⟩, ⟨by (with_reducible repeat (first | apply Kd.R_alloc | apply Kd.R_drewN | apply Kd.R_drew)); exact Kd.R_mono HO148.out (fun _ hk => ⟨hk.1.1.1.1.1.1.1.2, ⟨hk.1.1.1.1.1.1.2, ⟨hk.1.1.1.1.2, hk.1.1.2⟩⟩⟩)⟩, ⟨by (with_reducible repeat (first | apply Kd.R_alloc | apply Kd.R_drewN | apply Kd.R_drew)); exact Kd.R_mono HO158.out (fun _ hk => ⟨hk.1.1.1.1.1.1.1.2, ⟨hk.1.1.1.1.1.1.2, ⟨hk.1.1.1.1.2, hk.1.1.1.2⟩⟩⟩)⟩, ⟨by repeat (first | (with_reducible first | exact HB.out | apply below_alloc | apply pw_below_drewN | apply below_drew1) | exact HB.out)⟩⟩
  case rest =>
    clear HC10
    try clear c1
    try clear c2
    try clear p2
    try clear c3
    try clear c4
    try clear c11
    try clear c12
    try clear c16
    try clear c26
    try clear c26b0
    try clear c26b1
    try clear c27
    try clear c27b0
    try clear c27b1
    try clear c28
    try clear c28b0
    try clear c28b1
    try clear c29
    try clear c29b0
    try clear c29b1
    try clear c30
    try clear c30b0
    try clear c30b1
    try clear c31
    try clear c31b0
    try clear c31b1
    try clear c32
    try clear c32b0
    try clear c32b1
    try clear c33
    try clear c33b0
    try clear c33b1
    try clear c34
    try clear c34b0
    try clear c34b1
    try clear c35
    try clear c35b0
    try clear c35b1
    try clear c36
    try clear c36b0
    try clear c36b1
    try clear c37
    try clear c37b0
    try clear c37b1
    obtain ⟨kq, x127_9, rfl, HA, HJ9, HO_1, HO_4, HO_8, HO_11, HO_17, HB⟩ := hcut
    cases kq with
    | zero => exact absurd HA.out (by simp [fastilaw03_sane.j0])
    | succ kj9 =>
      have H := HA.out
      clear HA
      simp only [fastilaw03_sane.j0] at H
      by_cases c39 : x127_9 = true
      · subst c39
        have H1 : (some false) = some r := by rw [if_pos rfl] at H; exact H
        clear H
        have H := H1
        clear H1
        obtain rfl := Option.some.inj H
        go_wp2
        go_ret
        exact ⟨by first | rfl | (simp [errW_none, errW_some] <;> rfl) | (simp [*, errW_none, errW_some] <;> rfl), by repeat (first | (with_reducible first | exact HB.out | apply below_alloc | apply pw_below_drewN | apply below_drew1) | exact HB.out)⟩
      · replace c39 := Bool.eq_false_iff.mpr c39
        subst c39
        have H1 : ((fastiref03_Equal.f kj9 t126 y131).bind fun t171 => (if t171 = true then (if (t139.length : Int) = 1 then (if 0 < (t139.length : Int) then (if ((rd_T35 t139 0).f2) = 1099511627776 then (if (t144.length : Int) = 1 then (if 0 < (t144.length : Int) then (if ((rd_T35 t144 0).f1).toList = ([97] : List UInt8) then (if t159.toList = ([97, 32, 61, 32, 49] : List UInt8) then ((lex_Name.f kj9 (⟨#[66, 95, 49, 50]⟩ : ByteArray)).bind fun t174 => (if t174 = true then ((lex_Name.f kj9 (⟨#[95, 49, 50]⟩ : ByteArray)).bind fun t175 => (if t175 = true then (some false) else ((lex_Same.f t144 t154).bind fun t176 => (if t176 = true then (some false) else ((lex_Same.f t144 (([(⟨1, (⟨#[97]⟩ : ByteArray), 0, 9⟩ : S35)] : List (S35)))).bind fun t180 => (some t180)))))) else (some false))) else (some false)) else (some false)) else (none)) else (some false)) else (some false)) else (none)) else (some false)) else (some false))) = some r := by rw [if_neg (show ¬ (false = true) by decide)] at H; exact H
        clear H
        have H := H1
        clear H1
        replace H := Option.bind_eq_some_iff.mp H
        obtain ⟨t171, A400, H⟩ := H
        replace H : (if t171 = true then (if (t139.length : Int) = 1 then (if 0 < (t139.length : Int) then (if ((rd_T35 t139 0).f2) = 1099511627776 then (if (t144.length : Int) = 1 then (if 0 < (t144.length : Int) then (if ((rd_T35 t144 0).f1).toList = ([97] : List UInt8) then (if t159.toList = ([97, 32, 61, 32, 49] : List UInt8) then ((lex_Name.f kj9 (⟨#[66, 95, 49, 50]⟩ : ByteArray)).bind fun t174 => (if t174 = true then ((lex_Name.f kj9 (⟨#[95, 49, 50]⟩ : ByteArray)).bind fun t175 => (if t175 = true then (some false) else ((lex_Same.f t144 t154).bind fun t176 => (if t176 = true then (some false) else ((lex_Same.f t144 (([(⟨1, (⟨#[97]⟩ : ByteArray), 0, 9⟩ : S35)] : List (S35)))).bind fun t180 => (some t180)))))) else (some false))) else (some false)) else (some false)) else (none)) else (some false)) else (some false)) else (none)) else (some false)) else (some false)) = some r := H
        have A40 := Aside0.mk A400
        clear A400
        by_cases c41 : t171 = true
        · subst c41
          have H1 : (if (t139.length : Int) = 1 then (if 0 < (t139.length : Int) then (if ((rd_T35 t139 0).f2) = 1099511627776 then (if (t144.length : Int) = 1 then (if 0 < (t144.length : Int) then (if ((rd_T35 t144 0).f1).toList = ([97] : List UInt8) then (if t159.toList = ([97, 32, 61, 32, 49] : List UInt8) then ((lex_Name.f kj9 (⟨#[66, 95, 49, 50]⟩ : ByteArray)).bind fun t174 => (if t174 = true then ((lex_Name.f kj9 (⟨#[95, 49, 50]⟩ : ByteArray)).bind fun t175 => (if t175 = true then (some false) else ((lex_Same.f t144 t154).bind fun t176 => (if t176 = true then (some false) else ((lex_Same.f t144 (([(⟨1, (⟨#[97]⟩ : ByteArray), 0, 9⟩ : S35)] : List (S35)))).bind fun t180 => (some t180)))))) else (some false))) else (some false)) else (some false)) else (none)) else (some false)) else (some false)) else (none)) else (some false)) = some r := by rw [if_pos rfl] at H; exact H
          clear H
          have H := H1
          clear H1
          by_cases c42 : (t139.length : Int) = 1
          · rw [if_pos c42] at H
            have c42b0 : ((t139.length : Int) == 1) = true := beq_iff_eq.mpr c42
            have c42b1 : ((t139.length : Int) != 1) = false := bne_eq_false_iff_eq.mpr c42
            clear c42
            by_cases c43 : 0 < (t139.length : Int)
            · rw [if_pos c43] at H
              have c43b0 : decide (0 < (t139.length : Int)) = true := decide_eq_true c43
              have c43b1 : decide (0 < t139.length) = true := decide_eq_true (by omega)
              clear c43
              by_cases c44 : ((rd_T35 t139 0).f2) = 1099511627776
              · rw [if_pos c44] at H
                have c44b0 : (((rd_T35 t139 0).f2) == 1099511627776) = true := beq_iff_eq.mpr c44
                have c44b1 : (((rd_T35 t139 0).f2) != 1099511627776) = false := bne_eq_false_iff_eq.mpr c44
                clear c44
                by_cases c45 : (t144.length : Int) = 1
                · rw [if_pos c45] at H
                  have c45b0 : ((t144.length : Int) == 1) = true := beq_iff_eq.mpr c45
                  have c45b1 : ((t144.length : Int) != 1) = false := bne_eq_false_iff_eq.mpr c45
                  clear c45
                  by_cases c46 : 0 < (t144.length : Int)
                  · rw [if_pos c46] at H
                    have c46b0 : decide (0 < (t144.length : Int)) = true := decide_eq_true c46
                    have c46b1 : decide (0 < t144.length) = true := decide_eq_true (by omega)
                    clear c46
                    by_cases c47 : ((rd_T35 t144 0).f1).toList = ([97] : List UInt8)
                    · rw [if_pos c47] at H
                      have c47b0 : (((rd_T35 t144 0).f1).toList == ([97] : List UInt8)) = true := beq_iff_eq.mpr c47
                      have c47b1 : (((rd_T35 t144 0).f1).toList != ([97] : List UInt8)) = false := bne_eq_false_iff_eq.mpr c47
                      clear c47
                      by_cases c48 : t159.toList = ([97, 32, 61, 32, 49] : List UInt8)
                      · rw [if_pos c48] at H
                        have c48b0 : (t159.toList == ([97, 32, 61, 32, 49] : List UInt8)) = true := beq_iff_eq.mpr c48
                        have c48b1 : (t159.toList != ([97, 32, 61, 32, 49] : List UInt8)) = false := bne_eq_false_iff_eq.mpr c48
                        clear c48
                        replace H := Option.bind_eq_some_iff.mp H
                        obtain ⟨t174, A490, H⟩ := H
                        replace H : (if t174 = true then ((lex_Name.f kj9 (⟨#[95, 49, 50]⟩ : ByteArray)).bind fun t175 => (if t175 = true then (some false) else ((lex_Same.f t144 t154).bind fun t176 => (if t176 = true then (some false) else ((lex_Same.f t144 (([(⟨1, (⟨#[97]⟩ : ByteArray), 0, 9⟩ : S35)] : List (S35)))).bind fun t180 => (some t180)))))) else (some false)) = some r := H
                        have A49 := Aside0.mk A490
                        clear A490
                        by_cases c50 : t174 = true
                        · subst c50
                          have H1 : ((lex_Name.f kj9 (⟨#[95, 49, 50]⟩ : ByteArray)).bind fun t175 => (if t175 = true then (some false) else ((lex_Same.f t144 t154).bind fun t176 => (if t176 = true then (some false) else ((lex_Same.f t144 (([(⟨1, (⟨#[97]⟩ : ByteArray), 0, 9⟩ : S35)] : List (S35)))).bind fun t180 => (some t180)))))) = some r := by rw [if_pos rfl] at H; exact H
                          clear H
                          have H := H1
                          clear H1
                          replace H := Option.bind_eq_some_iff.mp H
                          obtain ⟨t175, A510, H⟩ := H
                          replace H : (if t175 = true then (some false) else ((lex_Same.f t144 t154).bind fun t176 => (if t176 = true then (some false) else ((lex_Same.f t144 (([(⟨1, (⟨#[97]⟩ : ByteArray), 0, 9⟩ : S35)] : List (S35)))).bind fun t180 => (some t180))))) = some r := H
                          have A51 := Aside0.mk A510
                          clear A510
                          by_cases c52 : t175 = true
                          · subst c52
                            have H1 : (some false) = some r := by rw [if_pos rfl] at H; exact H
                            clear H
                            have H := H1
                            clear H1
                            obtain rfl := Option.some.inj H
                            obtain ⟨Ao53, co53, eo53⟩ := Kd.R_slice HO_1.out
                            subst eo53
                            obtain ⟨Ao54, co54, eo54⟩ := Kd.R_slice HO_4.out
                            subst eo54
                            go_wp2_with (first | ((with_reducible refine gate_callee (f := 14) rfl ?_); refine goesL_ (some 130) rfl rfl Tryd.func14 (by kernel_rfl) rfl #[.slice Ao53 t126.length co53, .slice Ao54 y131.length co54] rfl (by (try simp only [List.map_toArray, List.map_cons, List.map_nil]); first | done | rfl | (simp only [List.length_drop, List.length_take]; rfl)) ?_; (with_reducible refine (fastiref03_Equal.calls kj9 _ _ t126 _ _ y131 true _ ?side1 ?side2 ?side3 ?side4 A40.out).mono ?_); (case side1 => repeat (first | exact (Kd.R_reads' HO_1.out).2.2 | (with_reducible refine Kd.C_alloc ?_ _) | (with_reducible refine Kd.C_drewN ?_ _) | (with_reducible refine Kd.C_drew ?_))); (case side2 => exact (Kd.R_reads' HO_1.out).2.1); (case side3 => repeat (first | exact (Kd.R_reads' HO_4.out).2.2 | (with_reducible refine Kd.C_alloc ?_ _) | (with_reducible refine Kd.C_drewN ?_ _) | (with_reducible refine Kd.C_drew ?_))); (case side4 => exact (Kd.R_reads' HO_4.out).2.1); rintro e w' ⟨rfl, ⟨nd, rfl⟩⟩; refine ⟨_, rfl, ?_⟩; obtain ⟨Ao55, co55, eo55⟩ := Kd.R_slice HO_8.out; subst eo55; have p172 : 0 ≤ (0 : Int) := (by omega); have q172 : 0 < (t139.length : Int) := of_decide_eq_true (by first | (with_reducible assumption) | assumption); obtain ⟨ad172, e172, hx172_0, hx172_1, hx172_2, hx172_3⟩ := at_T35 (Kd.R_reads' HO_8.out).2.2 0 p172 q172; cases e172; have qi172 : (0 < t139.length) = True := eq_true (by omega); (try rw [show ((0 : Int)).toNat = 0 from rfl] at hx172_0); (try rw [show 0 * 4 = 0 from rfl] at hx172_0); (try rw [Addr.add_zero'] at hx172_0); (try rw [show ((0 : Int)).toNat = 0 from rfl] at hx172_1); (try rw [show 0 * 4 = 0 from rfl] at hx172_1); (try rw [Addr.add_zero'] at hx172_1); (try rw [show ((0 : Int)).toNat = 0 from rfl] at hx172_2); (try rw [show 0 * 4 = 0 from rfl] at hx172_2); (try rw [Addr.add_zero'] at hx172_2); (try rw [show ((0 : Int)).toNat = 0 from rfl] at hx172_3); (try rw [show 0 * 4 = 0 from rfl] at hx172_3); (try rw [Addr.add_zero'] at hx172_3); replace p172 := eq_true p172; replace q172 := eq_true q172; obtain ⟨Ao56, co56, eo56⟩ := Kd.R_slice HO_11.out; subst eo56; have p173 : 0 ≤ (0 : Int) := (by omega); have q173 : 0 < (t144.length : Int) := of_decide_eq_true (by first | (with_reducible assumption) | assumption); obtain ⟨ad173, e173, hx173_0, hx173_1, hx173_2, hx173_3⟩ := at_T35 (Kd.R_reads' HO_11.out).2.2 0 p173 q173; cases e173; have qi173 : (0 < t144.length) = True := eq_true (by omega); (try rw [show ((0 : Int)).toNat = 0 from rfl] at hx173_0); (try rw [show 0 * 4 = 0 from rfl] at hx173_0); (try rw [Addr.add_zero'] at hx173_0); (try rw [show ((0 : Int)).toNat = 0 from rfl] at hx173_1); (try rw [show 0 * 4 = 0 from rfl] at hx173_1); (try rw [Addr.add_zero'] at hx173_1); (try rw [show ((0 : Int)).toNat = 0 from rfl] at hx173_2); (try rw [show 0 * 4 = 0 from rfl] at hx173_2); (try rw [Addr.add_zero'] at hx173_2); (try rw [show ((0 : Int)).toNat = 0 from rfl] at hx173_3); (try rw [show 0 * 4 = 0 from rfl] at hx173_3); (try rw [Addr.add_zero'] at hx173_3); replace p173 := eq_true p173; replace q173 := eq_true q173) | (go_at_call 20; (with_reducible refine (lex_Name.calls kj9 (⟨#[66, 95, 49, 50]⟩ : ByteArray) true _ A49.out).mono ?_); rintro e w57 ⟨rfl, hb⟩; have n0_ := Aside0.mk (Kd.R_below (by (with_reducible repeat (first | apply Kd.R_alloc | apply Kd.R_drewN | apply Kd.R_drew)); exact HO_1.out) hb); have n1_ := Aside0.mk (Kd.R_below (by (with_reducible repeat (first | apply Kd.R_alloc | apply Kd.R_drewN | apply Kd.R_drew)); exact HO_4.out) hb); have n2_ := Aside0.mk (Kd.R_below (by (with_reducible repeat (first | apply Kd.R_alloc | apply Kd.R_drewN | apply Kd.R_drew)); exact HO_8.out) hb); have n3_ := Aside0.mk (Kd.R_below (by (with_reducible repeat (first | apply Kd.R_alloc | apply Kd.R_drewN | apply Kd.R_drew)); exact HO_11.out) hb); have n4_ := Aside0.mk (Kd.R_below (by (with_reducible repeat (first | apply Kd.R_alloc | apply Kd.R_drewN | apply Kd.R_drew)); exact HO_17.out) hb); have n5_ := Aside0.mk (below_step (by repeat (first | (with_reducible first | exact HB.out | apply below_alloc | apply pw_below_drewN | apply below_drew1) | exact HB.out)) hb); clear HO_1; clear HO_4; clear HO_8; clear HO_11; clear HO_17; clear HB; have HO_1 := n0_; have HO_4 := n1_; have HO_8 := n2_; have HO_11 := n3_; have HO_17 := n4_; have HB := n5_; clear n0_ n1_ n2_ n3_ n4_ n5_; (try clear hb); (try clear hb2); (try clear hk); (try clear hi)) | (go_at_call 20; (with_reducible refine (lex_Name.calls kj9 (⟨#[95, 49, 50]⟩ : ByteArray) true _ A51.out).mono ?_); rintro e w58 ⟨rfl, hb⟩; have n0_ := Aside0.mk (Kd.R_below (by (with_reducible repeat (first | apply Kd.R_alloc | apply Kd.R_drewN | apply Kd.R_drew)); exact HO_1.out) hb); have n1_ := Aside0.mk (Kd.R_below (by (with_reducible repeat (first | apply Kd.R_alloc | apply Kd.R_drewN | apply Kd.R_drew)); exact HO_4.out) hb); have n2_ := Aside0.mk (Kd.R_below (by (with_reducible repeat (first | apply Kd.R_alloc | apply Kd.R_drewN | apply Kd.R_drew)); exact HO_8.out) hb); have n3_ := Aside0.mk (Kd.R_below (by (with_reducible repeat (first | apply Kd.R_alloc | apply Kd.R_drewN | apply Kd.R_drew)); exact HO_11.out) hb); have n4_ := Aside0.mk (Kd.R_below (by (with_reducible repeat (first | apply Kd.R_alloc | apply Kd.R_drewN | apply Kd.R_drew)); exact HO_17.out) hb); have n5_ := Aside0.mk (below_step (by repeat (first | (with_reducible first | exact HB.out | apply below_alloc | apply pw_below_drewN | apply below_drew1) | exact HB.out)) hb); clear HO_1; clear HO_4; clear HO_8; clear HO_11; clear HO_17; clear HB; have HO_1 := n0_; have HO_4 := n1_; have HO_8 := n2_; have HO_11 := n3_; have HO_17 := n4_; have HB := n5_; clear n0_ n1_ n2_ n3_ n4_ n5_; (try clear hb); (try clear hb2); (try clear hk); (try clear hi)))
                            go_ret
                            exact ⟨by first | rfl | (simp [errW_none, errW_some] <;> rfl) | (simp [*, errW_none, errW_some] <;> rfl), by repeat (first | (with_reducible first | exact HB.out | apply below_alloc | apply pw_below_drewN | apply below_drew1) | exact HB.out)⟩
                          · replace c52 := Bool.eq_false_iff.mpr c52
                            subst c52
                            have H1 : ((lex_Same.f t144 t154).bind fun t176 => (if t176 = true then (some false) else ((lex_Same.f t144 (([(⟨1, (⟨#[97]⟩ : ByteArray), 0, 9⟩ : S35)] : List (S35)))).bind fun t180 => (some t180)))) = some r := by rw [if_neg (show ¬ (false = true) by decide)] at H; exact H
                            clear H
                            have H := H1
                            clear H1
                            replace H := Option.bind_eq_some_iff.mp H
                            obtain ⟨t176, A590, H⟩ := H
                            replace H : (if t176 = true then (some false) else ((lex_Same.f t144 (([(⟨1, (⟨#[97]⟩ : ByteArray), 0, 9⟩ : S35)] : List (S35)))).bind fun t180 => (some t180))) = some r := H
                            have A59 := Aside0.mk A590
                            clear A590
                            by_cases c60 : t176 = true
                            · subst c60
                              have H1 : (some false) = some r := by rw [if_pos rfl] at H; exact H
                              clear H
                              have H := H1
                              clear H1
                              obtain rfl := Option.some.inj H
                              obtain ⟨Ao61, co61, eo61⟩ := Kd.R_slice HO_1.out
                              subst eo61
                              obtain ⟨Ao62, co62, eo62⟩ := Kd.R_slice HO_4.out
                              subst eo62
                              go_wp2_with (first | ((with_reducible refine gate_callee (f := 14) rfl ?_); refine goesL_ (some 130) rfl rfl Tryd.func14 (by kernel_rfl) rfl #[.slice Ao61 t126.length co61, .slice Ao62 y131.length co62] rfl (by (try simp only [List.map_toArray, List.map_cons, List.map_nil]); first | done | rfl | (simp only [List.length_drop, List.length_take]; rfl)) ?_; (with_reducible refine (fastiref03_Equal.calls kj9 _ _ t126 _ _ y131 true _ ?side1 ?side2 ?side3 ?side4 A40.out).mono ?_); (case side1 => repeat (first | exact (Kd.R_reads' HO_1.out).2.2 | (with_reducible refine Kd.C_alloc ?_ _) | (with_reducible refine Kd.C_drewN ?_ _) | (with_reducible refine Kd.C_drew ?_))); (case side2 => exact (Kd.R_reads' HO_1.out).2.1); (case side3 => repeat (first | exact (Kd.R_reads' HO_4.out).2.2 | (with_reducible refine Kd.C_alloc ?_ _) | (with_reducible refine Kd.C_drewN ?_ _) | (with_reducible refine Kd.C_drew ?_))); (case side4 => exact (Kd.R_reads' HO_4.out).2.1); rintro e w' ⟨rfl, ⟨nd, rfl⟩⟩; refine ⟨_, rfl, ?_⟩; obtain ⟨Ao63, co63, eo63⟩ := Kd.R_slice HO_8.out; subst eo63; have p172 : 0 ≤ (0 : Int) := (by omega); have q172 : 0 < (t139.length : Int) := of_decide_eq_true (by first | (with_reducible assumption) | assumption); obtain ⟨ad172, e172, hx172_0, hx172_1, hx172_2, hx172_3⟩ := at_T35 (Kd.R_reads' HO_8.out).2.2 0 p172 q172; cases e172; have qi172 : (0 < t139.length) = True := eq_true (by omega); (try rw [show ((0 : Int)).toNat = 0 from rfl] at hx172_0); (try rw [show 0 * 4 = 0 from rfl] at hx172_0); (try rw [Addr.add_zero'] at hx172_0); (try rw [show ((0 : Int)).toNat = 0 from rfl] at hx172_1); (try rw [show 0 * 4 = 0 from rfl] at hx172_1); (try rw [Addr.add_zero'] at hx172_1); (try rw [show ((0 : Int)).toNat = 0 from rfl] at hx172_2); (try rw [show 0 * 4 = 0 from rfl] at hx172_2); (try rw [Addr.add_zero'] at hx172_2); (try rw [show ((0 : Int)).toNat = 0 from rfl] at hx172_3); (try rw [show 0 * 4 = 0 from rfl] at hx172_3); (try rw [Addr.add_zero'] at hx172_3); replace p172 := eq_true p172; replace q172 := eq_true q172; obtain ⟨Ao64, co64, eo64⟩ := Kd.R_slice HO_11.out; subst eo64; have p173 : 0 ≤ (0 : Int) := (by omega); have q173 : 0 < (t144.length : Int) := of_decide_eq_true (by first | (with_reducible assumption) | assumption); obtain ⟨ad173, e173, hx173_0, hx173_1, hx173_2, hx173_3⟩ := at_T35 (Kd.R_reads' HO_11.out).2.2 0 p173 q173; cases e173; have qi173 : (0 < t144.length) = True := eq_true (by omega); (try rw [show ((0 : Int)).toNat = 0 from rfl] at hx173_0); (try rw [show 0 * 4 = 0 from rfl] at hx173_0); (try rw [Addr.add_zero'] at hx173_0); (try rw [show ((0 : Int)).toNat = 0 from rfl] at hx173_1); (try rw [show 0 * 4 = 0 from rfl] at hx173_1); (try rw [Addr.add_zero'] at hx173_1); (try rw [show ((0 : Int)).toNat = 0 from rfl] at hx173_2); (try rw [show 0 * 4 = 0 from rfl] at hx173_2); (try rw [Addr.add_zero'] at hx173_2); (try rw [show ((0 : Int)).toNat = 0 from rfl] at hx173_3); (try rw [show 0 * 4 = 0 from rfl] at hx173_3); (try rw [Addr.add_zero'] at hx173_3); replace p173 := eq_true p173; replace q173 := eq_true q173) | (go_at_call 20; (with_reducible refine (lex_Name.calls kj9 (⟨#[66, 95, 49, 50]⟩ : ByteArray) true _ A49.out).mono ?_); rintro e w65 ⟨rfl, hb⟩; have n0_ := Aside0.mk (Kd.R_below (by (with_reducible repeat (first | apply Kd.R_alloc | apply Kd.R_drewN | apply Kd.R_drew)); exact HO_1.out) hb); have n1_ := Aside0.mk (Kd.R_below (by (with_reducible repeat (first | apply Kd.R_alloc | apply Kd.R_drewN | apply Kd.R_drew)); exact HO_4.out) hb); have n2_ := Aside0.mk (Kd.R_below (by (with_reducible repeat (first | apply Kd.R_alloc | apply Kd.R_drewN | apply Kd.R_drew)); exact HO_8.out) hb); have n3_ := Aside0.mk (Kd.R_below (by (with_reducible repeat (first | apply Kd.R_alloc | apply Kd.R_drewN | apply Kd.R_drew)); exact HO_11.out) hb); have n4_ := Aside0.mk (Kd.R_below (by (with_reducible repeat (first | apply Kd.R_alloc | apply Kd.R_drewN | apply Kd.R_drew)); exact HO_17.out) hb); have n5_ := Aside0.mk (below_step (by repeat (first | (with_reducible first | exact HB.out | apply below_alloc | apply pw_below_drewN | apply below_drew1) | exact HB.out)) hb); clear HO_1; clear HO_4; clear HO_8; clear HO_11; clear HO_17; clear HB; have HO_1 := n0_; have HO_4 := n1_; have HO_8 := n2_; have HO_11 := n3_; have HO_17 := n4_; have HB := n5_; clear n0_ n1_ n2_ n3_ n4_ n5_; (try clear hb); (try clear hb2); (try clear hk); (try clear hi)) | (go_at_call 20; (with_reducible refine (lex_Name.calls kj9 (⟨#[95, 49, 50]⟩ : ByteArray) false _ A51.out).mono ?_); rintro e w66 ⟨rfl, hb⟩; have n0_ := Aside0.mk (Kd.R_below (by (with_reducible repeat (first | apply Kd.R_alloc | apply Kd.R_drewN | apply Kd.R_drew)); exact HO_1.out) hb); have n1_ := Aside0.mk (Kd.R_below (by (with_reducible repeat (first | apply Kd.R_alloc | apply Kd.R_drewN | apply Kd.R_drew)); exact HO_4.out) hb); have n2_ := Aside0.mk (Kd.R_below (by (with_reducible repeat (first | apply Kd.R_alloc | apply Kd.R_drewN | apply Kd.R_drew)); exact HO_8.out) hb); have n3_ := Aside0.mk (Kd.R_below (by (with_reducible repeat (first | apply Kd.R_alloc | apply Kd.R_drewN | apply Kd.R_drew)); exact HO_11.out) hb); have n4_ := Aside0.mk (Kd.R_below (by (with_reducible repeat (first | apply Kd.R_alloc | apply Kd.R_drewN | apply Kd.R_drew)); exact HO_17.out) hb); have n5_ := Aside0.mk (below_step (by repeat (first | (with_reducible first | exact HB.out | apply below_alloc | apply pw_below_drewN | apply below_drew1) | exact HB.out)) hb); clear HO_1; clear HO_4; clear HO_8; clear HO_11; clear HO_17; clear HB; have HO_1 := n0_; have HO_4 := n1_; have HO_8 := n2_; have HO_11 := n3_; have HO_17 := n4_; have HB := n5_; clear n0_ n1_ n2_ n3_ n4_ n5_; (try clear hb); (try clear hb2); (try clear hk); (try clear hi)) | (go_at_call 18; (with_reducible refine (lex_Same.calls _ _ t144 _ _ t154 true _ ?side1 ?side2 ?side3 ?side4 A59.out).mono ?_); (case side1 => repeat (first | exact (Kd.R_reads' HO_11.out).2.2 | (with_reducible refine Kd.C_alloc ?_ _) | (with_reducible refine Kd.C_drewN ?_ _) | (with_reducible refine Kd.C_drew ?_))); (case side2 => exact (Kd.R_reads' HO_11.out).2.1); (case side3 => repeat (first | exact (Kd.R_reads' HO_17.out).2.2 | (with_reducible refine Kd.C_alloc ?_ _) | (with_reducible refine Kd.C_drewN ?_ _) | (with_reducible refine Kd.C_drew ?_))); (case side4 => exact (Kd.R_reads' HO_17.out).2.1); rintro e w67 ⟨rfl, hb⟩; have n0_ := Aside0.mk (Kd.R_below (by (with_reducible repeat (first | apply Kd.R_alloc | apply Kd.R_drewN | apply Kd.R_drew)); exact HO_1.out) hb); have n1_ := Aside0.mk (Kd.R_below (by (with_reducible repeat (first | apply Kd.R_alloc | apply Kd.R_drewN | apply Kd.R_drew)); exact HO_4.out) hb); have n2_ := Aside0.mk (Kd.R_below (by (with_reducible repeat (first | apply Kd.R_alloc | apply Kd.R_drewN | apply Kd.R_drew)); exact HO_8.out) hb); have n3_ := Aside0.mk (Kd.R_below (by (with_reducible repeat (first | apply Kd.R_alloc | apply Kd.R_drewN | apply Kd.R_drew)); exact HO_11.out) hb); have n4_ := Aside0.mk (Kd.R_below (by (with_reducible repeat (first | apply Kd.R_alloc | apply Kd.R_drewN | apply Kd.R_drew)); exact HO_17.out) hb); have n5_ := Aside0.mk (below_step (by repeat (first | (with_reducible first | exact HB.out | apply below_alloc | apply pw_below_drewN | apply below_drew1) | exact HB.out)) hb); clear HO_1; clear HO_4; clear HO_8; clear HO_11; clear HO_17; clear HB; have HO_1 := n0_; have HO_4 := n1_; have HO_8 := n2_; have HO_11 := n3_; have HO_17 := n4_; have HB := n5_; clear n0_ n1_ n2_ n3_ n4_ n5_; (try clear hb); (try clear hb2); (try clear hk); (try clear hi)))
                              go_ret
                              exact ⟨by first | rfl | (simp [errW_none, errW_some] <;> rfl) | (simp [*, errW_none, errW_some] <;> rfl), by repeat (first | (with_reducible first | exact HB.out | apply below_alloc | apply pw_below_drewN | apply below_drew1) | exact HB.out)⟩
                            · replace c60 := Bool.eq_false_iff.mpr c60
                              subst c60
                              have H1 : ((lex_Same.f t144 (([(⟨1, (⟨#[97]⟩ : ByteArray), 0, 9⟩ : S35)] : List (S35)))).bind fun t180 => (some t180)) = some r := by rw [if_neg (show ¬ (false = true) by decide)] at H; exact H
                              clear H
                              have H := H1
                              clear H1
                              obtain ⟨y177, hy177⟩ : ∃ y_ : List (S35), y_ = (([(⟨1, (⟨#[97]⟩ : ByteArray), 0, 9⟩ : S35)] : List (S35))) := ⟨_, rfl⟩
                              replace H : ((lex_Same.f t144 y177).bind fun t180 => (some t180)) = some r := by first | (rw [hy177]; with_reducible exact H) | (have H2_ := (Option.bind_some _ _).symm.trans H; rw [hy177]; with_reducible exact H2_) | (have H2_ := (Option.bind_some _ _).symm.trans H; with_reducible exact H2_) | with_reducible exact H | (rw [hy177]; exact H) | exact H
                              have Ny177 := Aside0.mk hy177
                              clear hy177
                              replace H := Option.bind_eq_some_iff.mp H
                              obtain ⟨t180, A680, H⟩ := H
                              replace H : (some t180) = some r := H
                              have A68 := Aside0.mk A680
                              clear A680
                              obtain rfl := Option.some.inj H
                              obtain ⟨Ao69, co69, eo69⟩ := Kd.R_slice HO_1.out
                              subst eo69
                              obtain ⟨Ao70, co70, eo70⟩ := Kd.R_slice HO_4.out
                              subst eo70
                              go_wp2_with (first | ((with_reducible refine gate_callee (f := 14) rfl ?_); refine goesL_ (some 130) rfl rfl Tryd.func14 (by kernel_rfl) rfl #[.slice Ao69 t126.length co69, .slice Ao70 y131.length co70] rfl (by (try simp only [List.map_toArray, List.map_cons, List.map_nil]); first | done | rfl | (simp only [List.length_drop, List.length_take]; rfl)) ?_; (with_reducible refine (fastiref03_Equal.calls kj9 _ _ t126 _ _ y131 true _ ?side1 ?side2 ?side3 ?side4 A40.out).mono ?_); (case side1 => repeat (first | exact (Kd.R_reads' HO_1.out).2.2 | (with_reducible refine Kd.C_alloc ?_ _) | (with_reducible refine Kd.C_drewN ?_ _) | (with_reducible refine Kd.C_drew ?_))); (case side2 => exact (Kd.R_reads' HO_1.out).2.1); (case side3 => repeat (first | exact (Kd.R_reads' HO_4.out).2.2 | (with_reducible refine Kd.C_alloc ?_ _) | (with_reducible refine Kd.C_drewN ?_ _) | (with_reducible refine Kd.C_drew ?_))); (case side4 => exact (Kd.R_reads' HO_4.out).2.1); rintro e w' ⟨rfl, ⟨nd, rfl⟩⟩; refine ⟨_, rfl, ?_⟩; obtain ⟨Ao71, co71, eo71⟩ := Kd.R_slice HO_8.out; subst eo71; have p172 : 0 ≤ (0 : Int) := (by omega); have q172 : 0 < (t139.length : Int) := of_decide_eq_true (by first | (with_reducible assumption) | assumption); obtain ⟨ad172, e172, hx172_0, hx172_1, hx172_2, hx172_3⟩ := at_T35 (Kd.R_reads' HO_8.out).2.2 0 p172 q172; cases e172; have qi172 : (0 < t139.length) = True := eq_true (by omega); (try rw [show ((0 : Int)).toNat = 0 from rfl] at hx172_0); (try rw [show 0 * 4 = 0 from rfl] at hx172_0); (try rw [Addr.add_zero'] at hx172_0); (try rw [show ((0 : Int)).toNat = 0 from rfl] at hx172_1); (try rw [show 0 * 4 = 0 from rfl] at hx172_1); (try rw [Addr.add_zero'] at hx172_1); (try rw [show ((0 : Int)).toNat = 0 from rfl] at hx172_2); (try rw [show 0 * 4 = 0 from rfl] at hx172_2); (try rw [Addr.add_zero'] at hx172_2); (try rw [show ((0 : Int)).toNat = 0 from rfl] at hx172_3); (try rw [show 0 * 4 = 0 from rfl] at hx172_3); (try rw [Addr.add_zero'] at hx172_3); replace p172 := eq_true p172; replace q172 := eq_true q172; obtain ⟨Ao72, co72, eo72⟩ := Kd.R_slice HO_11.out; subst eo72; have p173 : 0 ≤ (0 : Int) := (by omega); have q173 : 0 < (t144.length : Int) := of_decide_eq_true (by first | (with_reducible assumption) | assumption); obtain ⟨ad173, e173, hx173_0, hx173_1, hx173_2, hx173_3⟩ := at_T35 (Kd.R_reads' HO_11.out).2.2 0 p173 q173; cases e173; have qi173 : (0 < t144.length) = True := eq_true (by omega); (try rw [show ((0 : Int)).toNat = 0 from rfl] at hx173_0); (try rw [show 0 * 4 = 0 from rfl] at hx173_0); (try rw [Addr.add_zero'] at hx173_0); (try rw [show ((0 : Int)).toNat = 0 from rfl] at hx173_1); (try rw [show 0 * 4 = 0 from rfl] at hx173_1); (try rw [Addr.add_zero'] at hx173_1); (try rw [show ((0 : Int)).toNat = 0 from rfl] at hx173_2); (try rw [show 0 * 4 = 0 from rfl] at hx173_2); (try rw [Addr.add_zero'] at hx173_2); (try rw [show ((0 : Int)).toNat = 0 from rfl] at hx173_3); (try rw [show 0 * 4 = 0 from rfl] at hx173_3); (try rw [Addr.add_zero'] at hx173_3); replace p173 := eq_true p173; replace q173 := eq_true q173) | (go_at_call 20; (with_reducible refine (lex_Name.calls kj9 (⟨#[66, 95, 49, 50]⟩ : ByteArray) true _ A49.out).mono ?_); rintro e w73 ⟨rfl, hb⟩; have n0_ := Aside0.mk (Kd.R_below (by (with_reducible repeat (first | apply Kd.R_alloc | apply Kd.R_drewN | apply Kd.R_drew)); exact HO_1.out) hb); have n1_ := Aside0.mk (Kd.R_below (by (with_reducible repeat (first | apply Kd.R_alloc | apply Kd.R_drewN | apply Kd.R_drew)); exact HO_4.out) hb); have n2_ := Aside0.mk (Kd.R_below (by (with_reducible repeat (first | apply Kd.R_alloc | apply Kd.R_drewN | apply Kd.R_drew)); exact HO_8.out) hb); have n3_ := Aside0.mk (Kd.R_below (by (with_reducible repeat (first | apply Kd.R_alloc | apply Kd.R_drewN | apply Kd.R_drew)); exact HO_11.out) hb); have n4_ := Aside0.mk (Kd.R_below (by (with_reducible repeat (first | apply Kd.R_alloc | apply Kd.R_drewN | apply Kd.R_drew)); exact HO_17.out) hb); have n5_ := Aside0.mk (below_step (by repeat (first | (with_reducible first | exact HB.out | apply below_alloc | apply pw_below_drewN | apply below_drew1) | exact HB.out)) hb); clear HO_1; clear HO_4; clear HO_8; clear HO_11; clear HO_17; clear HB; have HO_1 := n0_; have HO_4 := n1_; have HO_8 := n2_; have HO_11 := n3_; have HO_17 := n4_; have HB := n5_; clear n0_ n1_ n2_ n3_ n4_ n5_; (try clear hb); (try clear hb2); (try clear hk); (try clear hi)) | (go_at_call 20; (with_reducible refine (lex_Name.calls kj9 (⟨#[95, 49, 50]⟩ : ByteArray) false _ A51.out).mono ?_); rintro e w74 ⟨rfl, hb⟩; have n0_ := Aside0.mk (Kd.R_below (by (with_reducible repeat (first | apply Kd.R_alloc | apply Kd.R_drewN | apply Kd.R_drew)); exact HO_1.out) hb); have n1_ := Aside0.mk (Kd.R_below (by (with_reducible repeat (first | apply Kd.R_alloc | apply Kd.R_drewN | apply Kd.R_drew)); exact HO_4.out) hb); have n2_ := Aside0.mk (Kd.R_below (by (with_reducible repeat (first | apply Kd.R_alloc | apply Kd.R_drewN | apply Kd.R_drew)); exact HO_8.out) hb); have n3_ := Aside0.mk (Kd.R_below (by (with_reducible repeat (first | apply Kd.R_alloc | apply Kd.R_drewN | apply Kd.R_drew)); exact HO_11.out) hb); have n4_ := Aside0.mk (Kd.R_below (by (with_reducible repeat (first | apply Kd.R_alloc | apply Kd.R_drewN | apply Kd.R_drew)); exact HO_17.out) hb); have n5_ := Aside0.mk (below_step (by repeat (first | (with_reducible first | exact HB.out | apply below_alloc | apply pw_below_drewN | apply below_drew1) | exact HB.out)) hb); clear HO_1; clear HO_4; clear HO_8; clear HO_11; clear HO_17; clear HB; have HO_1 := n0_; have HO_4 := n1_; have HO_8 := n2_; have HO_11 := n3_; have HO_17 := n4_; have HB := n5_; clear n0_ n1_ n2_ n3_ n4_ n5_; (try clear hb); (try clear hb2); (try clear hk); (try clear hi)) | (go_at_call 18; (with_reducible refine (lex_Same.calls _ _ t144 _ _ t154 false _ ?side1 ?side2 ?side3 ?side4 A59.out).mono ?_); (case side1 => repeat (first | exact (Kd.R_reads' HO_11.out).2.2 | (with_reducible refine Kd.C_alloc ?_ _) | (with_reducible refine Kd.C_drewN ?_ _) | (with_reducible refine Kd.C_drew ?_))); (case side2 => exact (Kd.R_reads' HO_11.out).2.1); (case side3 => repeat (first | exact (Kd.R_reads' HO_17.out).2.2 | (with_reducible refine Kd.C_alloc ?_ _) | (with_reducible refine Kd.C_drewN ?_ _) | (with_reducible refine Kd.C_drew ?_))); (case side4 => exact (Kd.R_reads' HO_17.out).2.1); rintro e w75 ⟨rfl, hb⟩; have n0_ := Aside0.mk (Kd.R_below (by (with_reducible repeat (first | apply Kd.R_alloc | apply Kd.R_drewN | apply Kd.R_drew)); exact HO_1.out) hb); have n1_ := Aside0.mk (Kd.R_below (by (with_reducible repeat (first | apply Kd.R_alloc | apply Kd.R_drewN | apply Kd.R_drew)); exact HO_4.out) hb); have n2_ := Aside0.mk (Kd.R_below (by (with_reducible repeat (first | apply Kd.R_alloc | apply Kd.R_drewN | apply Kd.R_drew)); exact HO_8.out) hb); have n3_ := Aside0.mk (Kd.R_below (by (with_reducible repeat (first | apply Kd.R_alloc | apply Kd.R_drewN | apply Kd.R_drew)); exact HO_11.out) hb); have n4_ := Aside0.mk (Kd.R_below (by (with_reducible repeat (first | apply Kd.R_alloc | apply Kd.R_drewN | apply Kd.R_drew)); exact HO_17.out) hb); have n5_ := Aside0.mk (below_step (by repeat (first | (with_reducible first | exact HB.out | apply below_alloc | apply pw_below_drewN | apply below_drew1) | exact HB.out)) hb); clear HO_1; clear HO_4; clear HO_8; clear HO_11; clear HO_17; clear HB; have HO_1 := n0_; have HO_4 := n1_; have HO_8 := n2_; have HO_11 := n3_; have HO_17 := n4_; have HB := n5_; clear n0_ n1_ n2_ n3_ n4_ n5_; (try clear hb); (try clear hb2); (try clear hk); (try clear hi)) | ((with_reducible refine gate_dst (N := 175) rfl ?_); (try (refine gate_guard (by rfl) ?_; dsimp only)); refine Kd.R_lit k35 _ 35 ?hg (N := 175) ?hd (xs := ([(⟨1, (⟨#[97]⟩ : ByteArray), 0, 9⟩ : S35)] : List (S35))) (inner := [.int .i64 1, .string (⟨#[97]⟩ : ByteArray), .int .i64 0, .int .i64 9]) (ok := fun _ => True) (okp := fun _ => True) ?hr ?hp (fun _ hk => hk) trivial (Below.refl _ _) (Nat.le_refl _) (by simp) ?_; (case hd => rfl); (case hg => rfl); (case hr => first | (go_simp; done) | (go_simp; rfl)); (case hp => exact (Reps.c4 (show Kd.M k35 _ _ _ (⟨1, (⟨#[97]⟩ : ByteArray), 0, 9⟩ : S35) [.int .i64 1, .string (⟨#[97]⟩ : ByteArray), .int .i64 0, .int .i64 9] from (k35_mkM _ _ _ (⟨1, (⟨#[97]⟩ : ByteArray), 0, 9⟩ : S35) )) (Reps.none _ _))); intro v178 w76 ho77 hb hg_ hnew_; clear hg_ hnew_; (first | rw [← Ny177.out] at ho77 | (simp only [Int.reduceToNat] at ho77; rw [← Ny177.out] at ho77)); have n0_ := Aside0.mk (Kd.R_elder' (by (with_reducible repeat (first | apply Kd.R_alloc | apply Kd.R_drewN | apply Kd.R_drew)); exact HO_1.out) (Kd.R_base ho77) hb); have n1_ := Aside0.mk (Kd.R_elder' (by (with_reducible repeat (first | apply Kd.R_alloc | apply Kd.R_drewN | apply Kd.R_drew)); exact HO_4.out) (Kd.R_base ho77) hb); have n2_ := Aside0.mk (Kd.R_elder' (by (with_reducible repeat (first | apply Kd.R_alloc | apply Kd.R_drewN | apply Kd.R_drew)); exact HO_8.out) (Kd.R_base ho77) hb); have n3_ := Aside0.mk (Kd.R_elder' (by (with_reducible repeat (first | apply Kd.R_alloc | apply Kd.R_drewN | apply Kd.R_drew)); exact HO_11.out) (Kd.R_base ho77) hb); have n4_ := Aside0.mk (Kd.R_elder' (by (with_reducible repeat (first | apply Kd.R_alloc | apply Kd.R_drewN | apply Kd.R_drew)); exact HO_17.out) (Kd.R_base ho77) hb); have n5_ := Aside0.mk (Kd.R_lower (Kd.R_new' (Kd.R_new' (Kd.R_new' (Kd.R_new' (Kd.R_new' ho77 (Kd.R_lt (by (with_reducible repeat (first | apply Kd.R_alloc | apply Kd.R_drewN | apply Kd.R_drew)); exact HO_1.out))) (Kd.R_lt (by (with_reducible repeat (first | apply Kd.R_alloc | apply Kd.R_drewN | apply Kd.R_drew)); exact HO_4.out))) (Kd.R_lt (by (with_reducible repeat (first | apply Kd.R_alloc | apply Kd.R_drewN | apply Kd.R_drew)); exact HO_8.out))) (Kd.R_lt (by (with_reducible repeat (first | apply Kd.R_alloc | apply Kd.R_drewN | apply Kd.R_drew)); exact HO_11.out))) (Kd.R_lt (by (with_reducible repeat (first | apply Kd.R_alloc | apply Kd.R_drewN | apply Kd.R_drew)); exact HO_17.out))) (below_size (by repeat (first | (with_reducible first | exact HB.out | apply below_alloc | apply pw_below_drewN | apply below_drew1) | exact HB.out)))); have n6_ := Aside0.mk (below_step (by repeat (first | (with_reducible first | exact HB.out | apply below_alloc | apply pw_below_drewN | apply below_drew1) | exact HB.out)) hb); clear HO_1; clear HO_4; clear HO_8; clear HO_11; clear HO_17; clear HB; have HO_1 := n0_; have HO_4 := n1_; have HO_8 := n2_; have HO_11 := n3_; have HO_17 := n4_; have HO179 := n5_; have HB := n6_; clear n0_ n1_ n2_ n3_ n4_ n5_ n6_; clear hb ho77; obtain ⟨Ao78, co78, eo78⟩ := Kd.R_slice HO179.out; subst eo78) | (go_at_call 18; (with_reducible refine (lex_Same.calls _ _ t144 _ _ y177 t180 _ ?side1 ?side2 ?side3 ?side4 A68.out).mono ?_); (case side1 => repeat (first | exact (Kd.R_reads' HO_11.out).2.2 | (with_reducible refine Kd.C_alloc ?_ _) | (with_reducible refine Kd.C_drewN ?_ _) | (with_reducible refine Kd.C_drew ?_))); (case side2 => exact (Kd.R_reads' HO_11.out).2.1); (case side3 => repeat (first | exact (Kd.R_reads' HO179.out).2.2 | (with_reducible refine Kd.C_alloc ?_ _) | (with_reducible refine Kd.C_drewN ?_ _) | (with_reducible refine Kd.C_drew ?_))); (case side4 => exact (Kd.R_reads' HO179.out).2.1); rintro e w79 ⟨rfl, hb⟩; have n0_ := Aside0.mk (Kd.R_below (by (with_reducible repeat (first | apply Kd.R_alloc | apply Kd.R_drewN | apply Kd.R_drew)); exact HO_1.out) hb); have n1_ := Aside0.mk (Kd.R_below (by (with_reducible repeat (first | apply Kd.R_alloc | apply Kd.R_drewN | apply Kd.R_drew)); exact HO_4.out) hb); have n2_ := Aside0.mk (Kd.R_below (by (with_reducible repeat (first | apply Kd.R_alloc | apply Kd.R_drewN | apply Kd.R_drew)); exact HO_8.out) hb); have n3_ := Aside0.mk (Kd.R_below (by (with_reducible repeat (first | apply Kd.R_alloc | apply Kd.R_drewN | apply Kd.R_drew)); exact HO_11.out) hb); have n4_ := Aside0.mk (Kd.R_below (by (with_reducible repeat (first | apply Kd.R_alloc | apply Kd.R_drewN | apply Kd.R_drew)); exact HO_17.out) hb); have n5_ := Aside0.mk (Kd.R_below (by (with_reducible repeat (first | apply Kd.R_alloc | apply Kd.R_drewN | apply Kd.R_drew)); exact HO179.out) hb); have n6_ := Aside0.mk (below_step (by repeat (first | (with_reducible first | exact HB.out | apply below_alloc | apply pw_below_drewN | apply below_drew1) | exact HB.out)) hb); clear HO_1; clear HO_4; clear HO_8; clear HO_11; clear HO_17; clear HO179; clear HB; have HO_1 := n0_; have HO_4 := n1_; have HO_8 := n2_; have HO_11 := n3_; have HO_17 := n4_; have HO179 := n5_; have HB := n6_; clear n0_ n1_ n2_ n3_ n4_ n5_ n6_; (try clear hb); (try clear hb2); (try clear hk); (try clear hi)))
                              go_ret
                              exact ⟨by first | rfl | (simp [errW_none, errW_some] <;> rfl) | (simp [*, errW_none, errW_some] <;> rfl), by repeat (first | (with_reducible first | exact HB.out | apply below_alloc | apply pw_below_drewN | apply below_drew1) | exact HB.out)⟩
                        · replace c50 := Bool.eq_false_iff.mpr c50
                          subst c50
                          have H1 : (some false) = some r := by rw [if_neg (show ¬ (false = true) by decide)] at H; exact H
                          clear H
                          have H := H1
                          clear H1
                          obtain rfl := Option.some.inj H
                          obtain ⟨Ao80, co80, eo80⟩ := Kd.R_slice HO_1.out
                          subst eo80
                          obtain ⟨Ao81, co81, eo81⟩ := Kd.R_slice HO_4.out
                          subst eo81
                          go_wp2_with (first | ((with_reducible refine gate_callee (f := 14) rfl ?_); refine goesL_ (some 130) rfl rfl Tryd.func14 (by kernel_rfl) rfl #[.slice Ao80 t126.length co80, .slice Ao81 y131.length co81] rfl (by (try simp only [List.map_toArray, List.map_cons, List.map_nil]); first | done | rfl | (simp only [List.length_drop, List.length_take]; rfl)) ?_; (with_reducible refine (fastiref03_Equal.calls kj9 _ _ t126 _ _ y131 true _ ?side1 ?side2 ?side3 ?side4 A40.out).mono ?_); (case side1 => repeat (first | exact (Kd.R_reads' HO_1.out).2.2 | (with_reducible refine Kd.C_alloc ?_ _) | (with_reducible refine Kd.C_drewN ?_ _) | (with_reducible refine Kd.C_drew ?_))); (case side2 => exact (Kd.R_reads' HO_1.out).2.1); (case side3 => repeat (first | exact (Kd.R_reads' HO_4.out).2.2 | (with_reducible refine Kd.C_alloc ?_ _) | (with_reducible refine Kd.C_drewN ?_ _) | (with_reducible refine Kd.C_drew ?_))); (case side4 => exact (Kd.R_reads' HO_4.out).2.1); rintro e w' ⟨rfl, ⟨nd, rfl⟩⟩; refine ⟨_, rfl, ?_⟩; obtain ⟨Ao82, co82, eo82⟩ := Kd.R_slice HO_8.out; subst eo82; have p172 : 0 ≤ (0 : Int) := (by omega); have q172 : 0 < (t139.length : Int) := of_decide_eq_true (by first | (with_reducible assumption) | assumption); obtain ⟨ad172, e172, hx172_0, hx172_1, hx172_2, hx172_3⟩ := at_T35 (Kd.R_reads' HO_8.out).2.2 0 p172 q172; cases e172; have qi172 : (0 < t139.length) = True := eq_true (by omega); (try rw [show ((0 : Int)).toNat = 0 from rfl] at hx172_0); (try rw [show 0 * 4 = 0 from rfl] at hx172_0); (try rw [Addr.add_zero'] at hx172_0); (try rw [show ((0 : Int)).toNat = 0 from rfl] at hx172_1); (try rw [show 0 * 4 = 0 from rfl] at hx172_1); (try rw [Addr.add_zero'] at hx172_1); (try rw [show ((0 : Int)).toNat = 0 from rfl] at hx172_2); (try rw [show 0 * 4 = 0 from rfl] at hx172_2); (try rw [Addr.add_zero'] at hx172_2); (try rw [show ((0 : Int)).toNat = 0 from rfl] at hx172_3); (try rw [show 0 * 4 = 0 from rfl] at hx172_3); (try rw [Addr.add_zero'] at hx172_3); replace p172 := eq_true p172; replace q172 := eq_true q172; obtain ⟨Ao83, co83, eo83⟩ := Kd.R_slice HO_11.out; subst eo83; have p173 : 0 ≤ (0 : Int) := (by omega); have q173 : 0 < (t144.length : Int) := of_decide_eq_true (by first | (with_reducible assumption) | assumption); obtain ⟨ad173, e173, hx173_0, hx173_1, hx173_2, hx173_3⟩ := at_T35 (Kd.R_reads' HO_11.out).2.2 0 p173 q173; cases e173; have qi173 : (0 < t144.length) = True := eq_true (by omega); (try rw [show ((0 : Int)).toNat = 0 from rfl] at hx173_0); (try rw [show 0 * 4 = 0 from rfl] at hx173_0); (try rw [Addr.add_zero'] at hx173_0); (try rw [show ((0 : Int)).toNat = 0 from rfl] at hx173_1); (try rw [show 0 * 4 = 0 from rfl] at hx173_1); (try rw [Addr.add_zero'] at hx173_1); (try rw [show ((0 : Int)).toNat = 0 from rfl] at hx173_2); (try rw [show 0 * 4 = 0 from rfl] at hx173_2); (try rw [Addr.add_zero'] at hx173_2); (try rw [show ((0 : Int)).toNat = 0 from rfl] at hx173_3); (try rw [show 0 * 4 = 0 from rfl] at hx173_3); (try rw [Addr.add_zero'] at hx173_3); replace p173 := eq_true p173; replace q173 := eq_true q173) | (go_at_call 20; (with_reducible refine (lex_Name.calls kj9 (⟨#[66, 95, 49, 50]⟩ : ByteArray) false _ A49.out).mono ?_); rintro e w84 ⟨rfl, hb⟩; have n0_ := Aside0.mk (Kd.R_below (by (with_reducible repeat (first | apply Kd.R_alloc | apply Kd.R_drewN | apply Kd.R_drew)); exact HO_1.out) hb); have n1_ := Aside0.mk (Kd.R_below (by (with_reducible repeat (first | apply Kd.R_alloc | apply Kd.R_drewN | apply Kd.R_drew)); exact HO_4.out) hb); have n2_ := Aside0.mk (Kd.R_below (by (with_reducible repeat (first | apply Kd.R_alloc | apply Kd.R_drewN | apply Kd.R_drew)); exact HO_8.out) hb); have n3_ := Aside0.mk (Kd.R_below (by (with_reducible repeat (first | apply Kd.R_alloc | apply Kd.R_drewN | apply Kd.R_drew)); exact HO_11.out) hb); have n4_ := Aside0.mk (Kd.R_below (by (with_reducible repeat (first | apply Kd.R_alloc | apply Kd.R_drewN | apply Kd.R_drew)); exact HO_17.out) hb); have n5_ := Aside0.mk (below_step (by repeat (first | (with_reducible first | exact HB.out | apply below_alloc | apply pw_below_drewN | apply below_drew1) | exact HB.out)) hb); clear HO_1; clear HO_4; clear HO_8; clear HO_11; clear HO_17; clear HB; have HO_1 := n0_; have HO_4 := n1_; have HO_8 := n2_; have HO_11 := n3_; have HO_17 := n4_; have HB := n5_; clear n0_ n1_ n2_ n3_ n4_ n5_; (try clear hb); (try clear hb2); (try clear hk); (try clear hi)))
                          go_ret
                          exact ⟨by first | rfl | (simp [errW_none, errW_some] <;> rfl) | (simp [*, errW_none, errW_some] <;> rfl), by repeat (first | (with_reducible first | exact HB.out | apply below_alloc | apply pw_below_drewN | apply below_drew1) | exact HB.out)⟩
                      · rw [if_neg c48] at H
                        have c48b0 : (t159.toList == ([97, 32, 61, 32, 49] : List UInt8)) = false := beq_eq_false_iff_ne.mpr c48
                        have c48b1 : (t159.toList != ([97, 32, 61, 32, 49] : List UInt8)) = true := bne_iff_ne.mpr c48
                        obtain rfl := Option.some.inj H
                        obtain ⟨Ao85, co85, eo85⟩ := Kd.R_slice HO_1.out
                        subst eo85
                        obtain ⟨Ao86, co86, eo86⟩ := Kd.R_slice HO_4.out
                        subst eo86
                        go_wp2_with (first | ((with_reducible refine gate_callee (f := 14) rfl ?_); refine goesL_ (some 130) rfl rfl Tryd.func14 (by kernel_rfl) rfl #[.slice Ao85 t126.length co85, .slice Ao86 y131.length co86] rfl (by (try simp only [List.map_toArray, List.map_cons, List.map_nil]); first | done | rfl | (simp only [List.length_drop, List.length_take]; rfl)) ?_; (with_reducible refine (fastiref03_Equal.calls kj9 _ _ t126 _ _ y131 true _ ?side1 ?side2 ?side3 ?side4 A40.out).mono ?_); (case side1 => repeat (first | exact (Kd.R_reads' HO_1.out).2.2 | (with_reducible refine Kd.C_alloc ?_ _) | (with_reducible refine Kd.C_drewN ?_ _) | (with_reducible refine Kd.C_drew ?_))); (case side2 => exact (Kd.R_reads' HO_1.out).2.1); (case side3 => repeat (first | exact (Kd.R_reads' HO_4.out).2.2 | (with_reducible refine Kd.C_alloc ?_ _) | (with_reducible refine Kd.C_drewN ?_ _) | (with_reducible refine Kd.C_drew ?_))); (case side4 => exact (Kd.R_reads' HO_4.out).2.1); rintro e w' ⟨rfl, ⟨nd, rfl⟩⟩; refine ⟨_, rfl, ?_⟩; obtain ⟨Ao87, co87, eo87⟩ := Kd.R_slice HO_8.out; subst eo87; have p172 : 0 ≤ (0 : Int) := (by omega); have q172 : 0 < (t139.length : Int) := of_decide_eq_true (by first | (with_reducible assumption) | assumption); obtain ⟨ad172, e172, hx172_0, hx172_1, hx172_2, hx172_3⟩ := at_T35 (Kd.R_reads' HO_8.out).2.2 0 p172 q172; cases e172; have qi172 : (0 < t139.length) = True := eq_true (by omega); (try rw [show ((0 : Int)).toNat = 0 from rfl] at hx172_0); (try rw [show 0 * 4 = 0 from rfl] at hx172_0); (try rw [Addr.add_zero'] at hx172_0); (try rw [show ((0 : Int)).toNat = 0 from rfl] at hx172_1); (try rw [show 0 * 4 = 0 from rfl] at hx172_1); (try rw [Addr.add_zero'] at hx172_1); (try rw [show ((0 : Int)).toNat = 0 from rfl] at hx172_2); (try rw [show 0 * 4 = 0 from rfl] at hx172_2); (try rw [Addr.add_zero'] at hx172_2); (try rw [show ((0 : Int)).toNat = 0 from rfl] at hx172_3); (try rw [show 0 * 4 = 0 from rfl] at hx172_3); (try rw [Addr.add_zero'] at hx172_3); replace p172 := eq_true p172; replace q172 := eq_true q172; obtain ⟨Ao88, co88, eo88⟩ := Kd.R_slice HO_11.out; subst eo88; have p173 : 0 ≤ (0 : Int) := (by omega); have q173 : 0 < (t144.length : Int) := of_decide_eq_true (by first | (with_reducible assumption) | assumption); obtain ⟨ad173, e173, hx173_0, hx173_1, hx173_2, hx173_3⟩ := at_T35 (Kd.R_reads' HO_11.out).2.2 0 p173 q173; cases e173; have qi173 : (0 < t144.length) = True := eq_true (by omega); (try rw [show ((0 : Int)).toNat = 0 from rfl] at hx173_0); (try rw [show 0 * 4 = 0 from rfl] at hx173_0); (try rw [Addr.add_zero'] at hx173_0); (try rw [show ((0 : Int)).toNat = 0 from rfl] at hx173_1); (try rw [show 0 * 4 = 0 from rfl] at hx173_1); (try rw [Addr.add_zero'] at hx173_1); (try rw [show ((0 : Int)).toNat = 0 from rfl] at hx173_2); (try rw [show 0 * 4 = 0 from rfl] at hx173_2); (try rw [Addr.add_zero'] at hx173_2); (try rw [show ((0 : Int)).toNat = 0 from rfl] at hx173_3); (try rw [show 0 * 4 = 0 from rfl] at hx173_3); (try rw [Addr.add_zero'] at hx173_3); replace p173 := eq_true p173; replace q173 := eq_true q173))
                        go_ret
                        exact ⟨by first | rfl | (simp [errW_none, errW_some] <;> rfl) | (simp [*, errW_none, errW_some] <;> rfl), by repeat (first | (with_reducible first | exact HB.out | apply below_alloc | apply pw_below_drewN | apply below_drew1) | exact HB.out)⟩
                    · rw [if_neg c47] at H
                      have c47b0 : (((rd_T35 t144 0).f1).toList == ([97] : List UInt8)) = false := beq_eq_false_iff_ne.mpr c47
                      have c47b1 : (((rd_T35 t144 0).f1).toList != ([97] : List UInt8)) = true := bne_iff_ne.mpr c47
                      obtain rfl := Option.some.inj H
                      obtain ⟨Ao89, co89, eo89⟩ := Kd.R_slice HO_1.out
                      subst eo89
                      obtain ⟨Ao90, co90, eo90⟩ := Kd.R_slice HO_4.out
                      subst eo90
                      go_wp2_with (first | ((with_reducible refine gate_callee (f := 14) rfl ?_); refine goesL_ (some 130) rfl rfl Tryd.func14 (by kernel_rfl) rfl #[.slice Ao89 t126.length co89, .slice Ao90 y131.length co90] rfl (by (try simp only [List.map_toArray, List.map_cons, List.map_nil]); first | done | rfl | (simp only [List.length_drop, List.length_take]; rfl)) ?_; (with_reducible refine (fastiref03_Equal.calls kj9 _ _ t126 _ _ y131 true _ ?side1 ?side2 ?side3 ?side4 A40.out).mono ?_); (case side1 => repeat (first | exact (Kd.R_reads' HO_1.out).2.2 | (with_reducible refine Kd.C_alloc ?_ _) | (with_reducible refine Kd.C_drewN ?_ _) | (with_reducible refine Kd.C_drew ?_))); (case side2 => exact (Kd.R_reads' HO_1.out).2.1); (case side3 => repeat (first | exact (Kd.R_reads' HO_4.out).2.2 | (with_reducible refine Kd.C_alloc ?_ _) | (with_reducible refine Kd.C_drewN ?_ _) | (with_reducible refine Kd.C_drew ?_))); (case side4 => exact (Kd.R_reads' HO_4.out).2.1); rintro e w' ⟨rfl, ⟨nd, rfl⟩⟩; refine ⟨_, rfl, ?_⟩; obtain ⟨Ao91, co91, eo91⟩ := Kd.R_slice HO_8.out; subst eo91; have p172 : 0 ≤ (0 : Int) := (by omega); have q172 : 0 < (t139.length : Int) := of_decide_eq_true (by first | (with_reducible assumption) | assumption); obtain ⟨ad172, e172, hx172_0, hx172_1, hx172_2, hx172_3⟩ := at_T35 (Kd.R_reads' HO_8.out).2.2 0 p172 q172; cases e172; have qi172 : (0 < t139.length) = True := eq_true (by omega); (try rw [show ((0 : Int)).toNat = 0 from rfl] at hx172_0); (try rw [show 0 * 4 = 0 from rfl] at hx172_0); (try rw [Addr.add_zero'] at hx172_0); (try rw [show ((0 : Int)).toNat = 0 from rfl] at hx172_1); (try rw [show 0 * 4 = 0 from rfl] at hx172_1); (try rw [Addr.add_zero'] at hx172_1); (try rw [show ((0 : Int)).toNat = 0 from rfl] at hx172_2); (try rw [show 0 * 4 = 0 from rfl] at hx172_2); (try rw [Addr.add_zero'] at hx172_2); (try rw [show ((0 : Int)).toNat = 0 from rfl] at hx172_3); (try rw [show 0 * 4 = 0 from rfl] at hx172_3); (try rw [Addr.add_zero'] at hx172_3); replace p172 := eq_true p172; replace q172 := eq_true q172; obtain ⟨Ao92, co92, eo92⟩ := Kd.R_slice HO_11.out; subst eo92; have p173 : 0 ≤ (0 : Int) := (by omega); have q173 : 0 < (t144.length : Int) := of_decide_eq_true (by first | (with_reducible assumption) | assumption); obtain ⟨ad173, e173, hx173_0, hx173_1, hx173_2, hx173_3⟩ := at_T35 (Kd.R_reads' HO_11.out).2.2 0 p173 q173; cases e173; have qi173 : (0 < t144.length) = True := eq_true (by omega); (try rw [show ((0 : Int)).toNat = 0 from rfl] at hx173_0); (try rw [show 0 * 4 = 0 from rfl] at hx173_0); (try rw [Addr.add_zero'] at hx173_0); (try rw [show ((0 : Int)).toNat = 0 from rfl] at hx173_1); (try rw [show 0 * 4 = 0 from rfl] at hx173_1); (try rw [Addr.add_zero'] at hx173_1); (try rw [show ((0 : Int)).toNat = 0 from rfl] at hx173_2); (try rw [show 0 * 4 = 0 from rfl] at hx173_2); (try rw [Addr.add_zero'] at hx173_2); (try rw [show ((0 : Int)).toNat = 0 from rfl] at hx173_3); (try rw [show 0 * 4 = 0 from rfl] at hx173_3); (try rw [Addr.add_zero'] at hx173_3); replace p173 := eq_true p173; replace q173 := eq_true q173))
                      go_ret
                      exact ⟨by first | rfl | (simp [errW_none, errW_some] <;> rfl) | (simp [*, errW_none, errW_some] <;> rfl), by repeat (first | (with_reducible first | exact HB.out | apply below_alloc | apply pw_below_drewN | apply below_drew1) | exact HB.out)⟩
                  · rw [if_neg c46] at H
                    exact absurd H (by simp)
                · rw [if_neg c45] at H
                  have c45b0 : ((t144.length : Int) == 1) = false := beq_eq_false_iff_ne.mpr c45
                  have c45b1 : ((t144.length : Int) != 1) = true := bne_iff_ne.mpr c45
                  obtain rfl := Option.some.inj H
                  obtain ⟨Ao93, co93, eo93⟩ := Kd.R_slice HO_1.out
                  subst eo93
                  obtain ⟨Ao94, co94, eo94⟩ := Kd.R_slice HO_4.out
                  subst eo94
                  go_wp2_with (first | ((with_reducible refine gate_callee (f := 14) rfl ?_); refine goesL_ (some 130) rfl rfl Tryd.func14 (by kernel_rfl) rfl #[.slice Ao93 t126.length co93, .slice Ao94 y131.length co94] rfl (by (try simp only [List.map_toArray, List.map_cons, List.map_nil]); first | done | rfl | (simp only [List.length_drop, List.length_take]; rfl)) ?_; (with_reducible refine (fastiref03_Equal.calls kj9 _ _ t126 _ _ y131 true _ ?side1 ?side2 ?side3 ?side4 A40.out).mono ?_); (case side1 => repeat (first | exact (Kd.R_reads' HO_1.out).2.2 | (with_reducible refine Kd.C_alloc ?_ _) | (with_reducible refine Kd.C_drewN ?_ _) | (with_reducible refine Kd.C_drew ?_))); (case side2 => exact (Kd.R_reads' HO_1.out).2.1); (case side3 => repeat (first | exact (Kd.R_reads' HO_4.out).2.2 | (with_reducible refine Kd.C_alloc ?_ _) | (with_reducible refine Kd.C_drewN ?_ _) | (with_reducible refine Kd.C_drew ?_))); (case side4 => exact (Kd.R_reads' HO_4.out).2.1); rintro e w' ⟨rfl, ⟨nd, rfl⟩⟩; refine ⟨_, rfl, ?_⟩; obtain ⟨Ao95, co95, eo95⟩ := Kd.R_slice HO_8.out; subst eo95; have p172 : 0 ≤ (0 : Int) := (by omega); have q172 : 0 < (t139.length : Int) := of_decide_eq_true (by first | (with_reducible assumption) | assumption); obtain ⟨ad172, e172, hx172_0, hx172_1, hx172_2, hx172_3⟩ := at_T35 (Kd.R_reads' HO_8.out).2.2 0 p172 q172; cases e172; have qi172 : (0 < t139.length) = True := eq_true (by omega); (try rw [show ((0 : Int)).toNat = 0 from rfl] at hx172_0); (try rw [show 0 * 4 = 0 from rfl] at hx172_0); (try rw [Addr.add_zero'] at hx172_0); (try rw [show ((0 : Int)).toNat = 0 from rfl] at hx172_1); (try rw [show 0 * 4 = 0 from rfl] at hx172_1); (try rw [Addr.add_zero'] at hx172_1); (try rw [show ((0 : Int)).toNat = 0 from rfl] at hx172_2); (try rw [show 0 * 4 = 0 from rfl] at hx172_2); (try rw [Addr.add_zero'] at hx172_2); (try rw [show ((0 : Int)).toNat = 0 from rfl] at hx172_3); (try rw [show 0 * 4 = 0 from rfl] at hx172_3); (try rw [Addr.add_zero'] at hx172_3); replace p172 := eq_true p172; replace q172 := eq_true q172; obtain ⟨Ao96, co96, eo96⟩ := Kd.R_slice HO_11.out; subst eo96))
                  go_ret
                  exact ⟨by first | rfl | (simp [errW_none, errW_some] <;> rfl) | (simp [*, errW_none, errW_some] <;> rfl), by repeat (first | (with_reducible first | exact HB.out | apply below_alloc | apply pw_below_drewN | apply below_drew1) | exact HB.out)⟩
              · rw [if_neg c44] at H
                have c44b0 : (((rd_T35 t139 0).f2) == 1099511627776) = false := beq_eq_false_iff_ne.mpr c44
                have c44b1 : (((rd_T35 t139 0).f2) != 1099511627776) = true := bne_iff_ne.mpr c44
                obtain rfl := Option.some.inj H
                obtain ⟨Ao97, co97, eo97⟩ := Kd.R_slice HO_1.out
                subst eo97
                obtain ⟨Ao98, co98, eo98⟩ := Kd.R_slice HO_4.out
                subst eo98
                go_wp2_with (first | ((with_reducible refine gate_callee (f := 14) rfl ?_); refine goesL_ (some 130) rfl rfl Tryd.func14 (by kernel_rfl) rfl #[.slice Ao97 t126.length co97, .slice Ao98 y131.length co98] rfl (by (try simp only [List.map_toArray, List.map_cons, List.map_nil]); first | done | rfl | (simp only [List.length_drop, List.length_take]; rfl)) ?_; (with_reducible refine (fastiref03_Equal.calls kj9 _ _ t126 _ _ y131 true _ ?side1 ?side2 ?side3 ?side4 A40.out).mono ?_); (case side1 => repeat (first | exact (Kd.R_reads' HO_1.out).2.2 | (with_reducible refine Kd.C_alloc ?_ _) | (with_reducible refine Kd.C_drewN ?_ _) | (with_reducible refine Kd.C_drew ?_))); (case side2 => exact (Kd.R_reads' HO_1.out).2.1); (case side3 => repeat (first | exact (Kd.R_reads' HO_4.out).2.2 | (with_reducible refine Kd.C_alloc ?_ _) | (with_reducible refine Kd.C_drewN ?_ _) | (with_reducible refine Kd.C_drew ?_))); (case side4 => exact (Kd.R_reads' HO_4.out).2.1); rintro e w' ⟨rfl, ⟨nd, rfl⟩⟩; refine ⟨_, rfl, ?_⟩; obtain ⟨Ao99, co99, eo99⟩ := Kd.R_slice HO_8.out; subst eo99; have p172 : 0 ≤ (0 : Int) := (by omega); have q172 : 0 < (t139.length : Int) := of_decide_eq_true (by first | (with_reducible assumption) | assumption); obtain ⟨ad172, e172, hx172_0, hx172_1, hx172_2, hx172_3⟩ := at_T35 (Kd.R_reads' HO_8.out).2.2 0 p172 q172; cases e172; have qi172 : (0 < t139.length) = True := eq_true (by omega); (try rw [show ((0 : Int)).toNat = 0 from rfl] at hx172_0); (try rw [show 0 * 4 = 0 from rfl] at hx172_0); (try rw [Addr.add_zero'] at hx172_0); (try rw [show ((0 : Int)).toNat = 0 from rfl] at hx172_1); (try rw [show 0 * 4 = 0 from rfl] at hx172_1); (try rw [Addr.add_zero'] at hx172_1); (try rw [show ((0 : Int)).toNat = 0 from rfl] at hx172_2); (try rw [show 0 * 4 = 0 from rfl] at hx172_2); (try rw [Addr.add_zero'] at hx172_2); (try rw [show ((0 : Int)).toNat = 0 from rfl] at hx172_3); (try rw [show 0 * 4 = 0 from rfl] at hx172_3); (try rw [Addr.add_zero'] at hx172_3); replace p172 := eq_true p172; replace q172 := eq_true q172))
                go_ret
                exact ⟨by first | rfl | (simp [errW_none, errW_some] <;> rfl) | (simp [*, errW_none, errW_some] <;> rfl), by repeat (first | (with_reducible first | exact HB.out | apply below_alloc | apply pw_below_drewN | apply below_drew1) | exact HB.out)⟩
            · rw [if_neg c43] at H
              exact absurd H (by simp)
          · rw [if_neg c42] at H
            have c42b0 : ((t139.length : Int) == 1) = false := beq_eq_false_iff_ne.mpr c42
            have c42b1 : ((t139.length : Int) != 1) = true := bne_iff_ne.mpr c42
            obtain rfl := Option.some.inj H
            obtain ⟨Ao100, co100, eo100⟩ := Kd.R_slice HO_1.out
            subst eo100
            obtain ⟨Ao101, co101, eo101⟩ := Kd.R_slice HO_4.out
            subst eo101
            go_wp2_with (first | ((with_reducible refine gate_callee (f := 14) rfl ?_); refine goesL_ (some 130) rfl rfl Tryd.func14 (by kernel_rfl) rfl #[.slice Ao100 t126.length co100, .slice Ao101 y131.length co101] rfl (by (try simp only [List.map_toArray, List.map_cons, List.map_nil]); first | done | rfl | (simp only [List.length_drop, List.length_take]; rfl)) ?_; (with_reducible refine (fastiref03_Equal.calls kj9 _ _ t126 _ _ y131 true _ ?side1 ?side2 ?side3 ?side4 A40.out).mono ?_); (case side1 => repeat (first | exact (Kd.R_reads' HO_1.out).2.2 | (with_reducible refine Kd.C_alloc ?_ _) | (with_reducible refine Kd.C_drewN ?_ _) | (with_reducible refine Kd.C_drew ?_))); (case side2 => exact (Kd.R_reads' HO_1.out).2.1); (case side3 => repeat (first | exact (Kd.R_reads' HO_4.out).2.2 | (with_reducible refine Kd.C_alloc ?_ _) | (with_reducible refine Kd.C_drewN ?_ _) | (with_reducible refine Kd.C_drew ?_))); (case side4 => exact (Kd.R_reads' HO_4.out).2.1); rintro e w' ⟨rfl, ⟨nd, rfl⟩⟩; refine ⟨_, rfl, ?_⟩; obtain ⟨Ao102, co102, eo102⟩ := Kd.R_slice HO_8.out; subst eo102))
            go_ret
            exact ⟨by first | rfl | (simp [errW_none, errW_some] <;> rfl) | (simp [*, errW_none, errW_some] <;> rfl), by repeat (first | (with_reducible first | exact HB.out | apply below_alloc | apply pw_below_drewN | apply below_drew1) | exact HB.out)⟩
        · replace c41 := Bool.eq_false_iff.mpr c41
          subst c41
          have H1 : (some false) = some r := by rw [if_neg (show ¬ (false = true) by decide)] at H; exact H
          clear H
          have H := H1
          clear H1
          obtain rfl := Option.some.inj H
          obtain ⟨Ao103, co103, eo103⟩ := Kd.R_slice HO_1.out
          subst eo103
          obtain ⟨Ao104, co104, eo104⟩ := Kd.R_slice HO_4.out
          subst eo104
          go_wp2_with (first | ((with_reducible refine gate_callee (f := 14) rfl ?_); refine goesL_ (some 130) rfl rfl Tryd.func14 (by kernel_rfl) rfl #[.slice Ao103 t126.length co103, .slice Ao104 y131.length co104] rfl (by (try simp only [List.map_toArray, List.map_cons, List.map_nil]); first | done | rfl | (simp only [List.length_drop, List.length_take]; rfl)) ?_; (with_reducible refine (fastiref03_Equal.calls kj9 _ _ t126 _ _ y131 false _ ?side1 ?side2 ?side3 ?side4 A40.out).mono ?_); (case side1 => repeat (first | exact (Kd.R_reads' HO_1.out).2.2 | (with_reducible refine Kd.C_alloc ?_ _) | (with_reducible refine Kd.C_drewN ?_ _) | (with_reducible refine Kd.C_drew ?_))); (case side2 => exact (Kd.R_reads' HO_1.out).2.1); (case side3 => repeat (first | exact (Kd.R_reads' HO_4.out).2.2 | (with_reducible refine Kd.C_alloc ?_ _) | (with_reducible refine Kd.C_drewN ?_ _) | (with_reducible refine Kd.C_drew ?_))); (case side4 => exact (Kd.R_reads' HO_4.out).2.1); rintro e w' ⟨rfl, ⟨nd, rfl⟩⟩; refine ⟨_, rfl, ?_⟩))
          go_ret
          exact ⟨by first | rfl | (simp [errW_none, errW_some] <;> rfl) | (simp [*, errW_none, errW_some] <;> rfl), by repeat (first | (with_reducible first | exact HB.out | apply below_alloc | apply pw_below_drewN | apply below_drew1) | exact HB.out)⟩

/-! ### fastiref03_Few: function 15 -/
def fastiref03_Few.l0 : Nat → List (S35) → Int → Int → Option (Bool)
  | 0, _, _, _ => none
  | k + 1, x0, x3, x4 => if x4 < (x0.length : Int) then (if 0 ≤ x4 then (fastiref03_Few.l0 k x0 (wrap64 (x3 + (((rd_T35 x0 x4).f1).size : Int))) (wrap64 (x4 + 1))) else (none)) else (if (x0.length : Int) ≤ 200 then (some (decide (x3 ≤ 2000))) else (some false))
def fastiref03_Few.f (k : Nat) (l0 : List (S35)) : Option (Bool) := fastiref03_Few.l0 k l0 0 0
theorem fastiref03_Few.mono_l : ∀ k, (∀ y0 y1 y2, LeO (fastiref03_Few.l0 k y0 y1 y2) (fastiref03_Few.l0 (k + 1) y0 y1 y2))
  | 0 => fun _ _ _ r h => by simp [fastiref03_Few.l0] at h
  | k + 1 => by
    have ih0 := fastiref03_Few.mono_l k
    · intro y0 y1 y2
      unfold fastiref03_Few.l0
      repeat' first
      | (with_reducible exact ih0 _ _ _)
      | (with_reducible exact LeO.refl _)
      | (with_reducible exact LeO.none _)
      | (with_reducible refine LeO.ite ?_ ?_)
      | (with_reducible refine LeO.bind ?_ (fun _ => ?_))
      | exact ih0 _ _ _
      | exact LeO.none _
      | refine LeO.ite ?_ ?_
      | refine LeO.bind ?_ (fun _ => ?_)
theorem fastiref03_Few.mono : ∀ a0 k, LeO (fastiref03_Few.f k a0) (fastiref03_Few.f (k + 1) a0) := by
  intro a0 k
  have ih0 := fastiref03_Few.mono_l k
  unfold fastiref03_Few.f
  repeat' first
      | (with_reducible exact ih0 _ _ _)
      | (with_reducible exact LeO.refl _)
      | (with_reducible exact LeO.none _)
      | (with_reducible refine LeO.ite ?_ ?_)
      | (with_reducible refine LeO.bind ?_ (fun _ => ?_))
      | exact ih0 _ _ _
      | exact LeO.none _
      | refine LeO.ite ?_ ?_
      | refine LeO.bind ?_ (fun _ => ?_)
set_option maxHeartbeats 8000000 in
set_option maxRecDepth 100000 in
theorem fastiref03_Few.calls (k : Nat) (A0 : Option Addr) (c0 : Nat) (l0 : List (S35)) (r : Bool) (w : World) (hr0 : Kd.C k35 w A0 l0.length l0) (hc0 : l0.length ≤ c0) (h : fastiref03_Few.f k l0 = some r) :
    Calls Tryd.prog 15 #[.slice A0 l0.length c0] w fun e w' => e = .returned (.bool r) ∧ Drawn0 w w' := by
  have HR0 := Aside0.mk hr0
  have HC0 := Aside0.mk hc0
  clear hr0 hc0
  have H : (fastiref03_Few.l0 k l0 0 0) = some r := h
  clear h
  have H' := Aside0.mk H
  clear H
  go_enter Tryd.func15, Tryd.ntmps15
  go_wp2
  go_loopg [3, 4] k (fun kq v3 v4 w' => ∃ (x3_1 : Int) (x4_1 : Int), v3 = .int .i64 x3_1 ∧ v4 = .int .i64 x4_1 ∧ Aside0 (fastiref03_Few.l0 kq l0 x3_1 x4_1 = some r) ∧ Aside0 (kq ≤ k) ∧ Drawn0 w w')
  case atStart => exact ⟨(0), (0), (by first | rfl | (simp; done) | (simp [*]; done)), (by first | rfl | (simp; done) | (simp [*]; done)), H', ⟨Nat.le_refl _⟩, by repeat (first | exact Drawn0.refl _ | apply Drawn0.step)⟩
  case round =>
    clear H'
    try clear c1
    obtain ⟨x3_1, x4_1, rfl, rfl, HA, HK1, ⟨m1, rfl⟩⟩ := hrel
    cases gk with
    | zero => exact absurd HA.out (by simp [fastiref03_Few.l0])
    | succ k1 =>
      have H := HA.out
      clear HA
      simp only [fastiref03_Few.l0] at H
      by_cases c2 : x4_1 < (l0.length : Int)
      · rw [if_pos c2] at H
        have c2b0 : decide (x4_1 < (l0.length : Int)) = true := decide_eq_true c2
        clear c2
        by_cases c3 : 0 ≤ x4_1
        · rw [if_pos c3] at H
          have c3b0 : decide (0 ≤ x4_1) = true := decide_eq_true c3
          clear c3
          have H' := Aside0.mk H
          clear H
          have p181 : 0 ≤ (x4_1 : Int) := of_decide_eq_true (by first | (with_reducible assumption) | assumption)
          have q181 : x4_1 < (l0.length : Int) := of_decide_eq_true (by first | (with_reducible assumption) | assumption)
          obtain ⟨ad181, e181, hx181_0, hx181_1, hx181_2, hx181_3⟩ := at_T35 HR0.out x4_1 p181 q181
          cases e181
          replace p181 := eq_true p181
          replace q181 := eq_true q181
          go_wp2
          go_roundg k1
          case measure => have := HK1.out; omega
          case rel => exact ⟨(wrap64 (x3_1 + (((rd_T35 l0 x4_1).f1).size : Int))), (wrap64 (x4_1 + 1)), (by first | rfl | (simp; done) | (simp [*]; done)), (by first | rfl | (simp; done) | (simp [*]; done)), H', ⟨by have := HK1.out; omega⟩, by repeat (first | exact Drawn0.refl _ | apply Drawn0.step)⟩
        · rw [if_neg c3] at H
          exact absurd H (by simp)
      · rw [if_neg c2] at H
        have c2b0 : decide (x4_1 < (l0.length : Int)) = false := decide_eq_false c2
        clear c2
        by_cases c4 : (l0.length : Int) ≤ 200
        · rw [if_pos c4] at H
          have c4b0 : decide ((l0.length : Int) ≤ 200) = true := decide_eq_true c4
          have c4b1 : decide (l0.length ≤ 200) = true := decide_eq_true (by omega)
          clear c4
          obtain rfl := Option.some.inj H
          go_wp2
          go_ret
          exact ⟨by first | rfl | (simp; done) | (simp [*]; done), by repeat (first | exact Drawn0.refl _ | apply Drawn0.step)⟩
        · rw [if_neg c4] at H
          have c4b0 : decide ((l0.length : Int) ≤ 200) = false := decide_eq_false c4
          have c4b1 : decide (l0.length ≤ 200) = false := decide_eq_false (by omega)
          clear c4
          obtain rfl := Option.some.inj H
          go_wp2
          go_ret
          exact ⟨by first | rfl | (simp; done) | (simp [*]; done), by repeat (first | exact Drawn0.refl _ | apply Drawn0.step)⟩

/-! ### fastiref03_Letter: function 31 -/
def fastiref03_Letter.f (a0 : Int) : Option (Bool) := if a0 ≥ 97 then (if a0 ≤ 122 then (some true) else (if a0 ≥ 65 then (some (decide (a0 ≤ 90))) else (some false))) else (if a0 ≥ 65 then (some (decide (a0 ≤ 90))) else (some false))
set_option maxHeartbeats 8000000 in
set_option maxRecDepth 100000 in
theorem fastiref03_Letter.calls (a0 : Int) (r : Bool) (w : World) (h : fastiref03_Letter.f a0 = some r) :
    Calls Tryd.prog 31 #[.int .u8 a0] w fun e w' => e = .returned (.bool r) ∧ Drawn0 w w' := by
  have H : (if a0 ≥ 97 then (if a0 ≤ 122 then (some true) else (if a0 ≥ 65 then (some (decide (a0 ≤ 90))) else (some false))) else (if a0 ≥ 65 then (some (decide (a0 ≤ 90))) else (some false))) = some r := h
  clear h
  by_cases c2 : a0 ≥ 97
  · rw [if_pos c2] at H
    have c2b0 : decide (97 ≤ a0) = true := decide_eq_true c2
    clear c2
    by_cases c3 : a0 ≤ 122
    · rw [if_pos c3] at H
      have c3b0 : decide (a0 ≤ 122) = true := decide_eq_true c3
      clear c3
      obtain rfl := Option.some.inj H
      go_enter Tryd.func31, Tryd.ntmps31
      go_wp2
      go_ret
      exact ⟨by first | rfl | (simp; done) | (simp [*]; done), by repeat (first | exact Drawn0.refl _ | apply Drawn0.step)⟩
    · rw [if_neg c3] at H
      have c3b0 : decide (a0 ≤ 122) = false := decide_eq_false c3
      clear c3
      by_cases c4 : a0 ≥ 65
      · rw [if_pos c4] at H
        have c4b0 : decide (65 ≤ a0) = true := decide_eq_true c4
        clear c4
        obtain rfl := Option.some.inj H
        go_enter Tryd.func31, Tryd.ntmps31
        go_wp2
        go_ret
        exact ⟨by first | rfl | (simp; done) | (simp [*]; done), by repeat (first | exact Drawn0.refl _ | apply Drawn0.step)⟩
      · rw [if_neg c4] at H
        have c4b0 : decide (65 ≤ a0) = false := decide_eq_false c4
        clear c4
        obtain rfl := Option.some.inj H
        go_enter Tryd.func31, Tryd.ntmps31
        go_wp2
        go_ret
        exact ⟨by first | rfl | (simp; done) | (simp [*]; done), by repeat (first | exact Drawn0.refl _ | apply Drawn0.step)⟩
  · rw [if_neg c2] at H
    have c2b0 : decide (97 ≤ a0) = false := decide_eq_false c2
    clear c2
    by_cases c5 : a0 ≥ 65
    · rw [if_pos c5] at H
      have c5b0 : decide (65 ≤ a0) = true := decide_eq_true c5
      clear c5
      obtain rfl := Option.some.inj H
      go_enter Tryd.func31, Tryd.ntmps31
      go_wp2
      go_ret
      exact ⟨by first | rfl | (simp; done) | (simp [*]; done), by repeat (first | exact Drawn0.refl _ | apply Drawn0.step)⟩
    · rw [if_neg c5] at H
      have c5b0 : decide (65 ≤ a0) = false := decide_eq_false c5
      clear c5
      obtain rfl := Option.some.inj H
      go_enter Tryd.func31, Tryd.ntmps31
      go_wp2
      go_ret
      exact ⟨by first | rfl | (simp; done) | (simp [*]; done), by repeat (first | exact Drawn0.refl _ | apply Drawn0.step)⟩

/-! ### fastiref03_Figure: function 33 -/
def fastiref03_Figure.f (a0 : Int) : Option (Bool) := if a0 ≥ 48 then (some (decide (a0 ≤ 57))) else (some false)
set_option maxHeartbeats 8000000 in
set_option maxRecDepth 100000 in
theorem fastiref03_Figure.calls (a0 : Int) (r : Bool) (w : World) (h : fastiref03_Figure.f a0 = some r) :
    Calls Tryd.prog 33 #[.int .u8 a0] w fun e w' => e = .returned (.bool r) ∧ Drawn0 w w' := by
  have H : (if a0 ≥ 48 then (some (decide (a0 ≤ 57))) else (some false)) = some r := h
  clear h
  by_cases c2 : a0 ≥ 48
  · rw [if_pos c2] at H
    have c2b0 : decide (48 ≤ a0) = true := decide_eq_true c2
    clear c2
    obtain rfl := Option.some.inj H
    go_enter Tryd.func33, Tryd.ntmps33
    go_wp2
    go_ret
    exact ⟨by first | rfl | (simp; done) | (simp [*]; done), by repeat (first | exact Drawn0.refl _ | apply Drawn0.step)⟩
  · rw [if_neg c2] at H
    have c2b0 : decide (48 ≤ a0) = false := decide_eq_false c2
    clear c2
    obtain rfl := Option.some.inj H
    go_enter Tryd.func33, Tryd.ntmps33
    go_wp2
    go_ret
    exact ⟨by first | rfl | (simp; done) | (simp [*]; done), by repeat (first | exact Drawn0.refl _ | apply Drawn0.step)⟩

/-! ### fastiref03_part: function 32 -/
def fastiref03_part.f (a0 : Int) : Option (Bool) := (fastiref03_Letter.f a0).bind fun t182 => (if t182 = true then (some true) else ((fastiref03_Figure.f a0).bind fun t183 => (if t183 = true then (some true) else (some (a0 == 95)))))
set_option maxHeartbeats 8000000 in
set_option maxRecDepth 100000 in
theorem fastiref03_part.calls (a0 : Int) (r : Bool) (w : World) (h : fastiref03_part.f a0 = some r) :
    Calls Tryd.prog 32 #[.int .u8 a0] w fun e w' => e = .returned (.bool r) ∧ Drawn0 w w' := by
  have H : ((fastiref03_Letter.f a0).bind fun t182 => (if t182 = true then (some true) else ((fastiref03_Figure.f a0).bind fun t183 => (if t183 = true then (some true) else (some (a0 == 95)))))) = some r := h
  clear h
  replace H := Option.bind_eq_some_iff.mp H
  obtain ⟨t182, A20, H⟩ := H
  replace H : (if t182 = true then (some true) else ((fastiref03_Figure.f a0).bind fun t183 => (if t183 = true then (some true) else (some (a0 == 95))))) = some r := H
  have A2 := Aside0.mk A20
  clear A20
  by_cases c3 : t182 = true
  · subst c3
    have H1 : (some true) = some r := by rw [if_pos rfl] at H; exact H
    clear H
    have H := H1
    clear H1
    obtain rfl := Option.some.inj H
    go_enter Tryd.func32, Tryd.ntmps32
    go_wp2_with (first | ((with_reducible refine gate_callee (f := 31) rfl ?_); refine goesL_ (some 4) rfl rfl Tryd.func31 (by kernel_rfl) rfl #[.int .u8 a0] rfl (by (try simp only [List.map_toArray, List.map_cons, List.map_nil]); first | done | rfl | (simp only [List.length_drop, List.length_take]; rfl)) ?_; (with_reducible refine (fastiref03_Letter.calls a0 true _ A2.out).mono ?_); rintro e w' ⟨rfl, ⟨nd, rfl⟩⟩; refine ⟨_, rfl, ?_⟩))
    go_ret
    exact ⟨by first | rfl | (simp; done) | (simp [*]; done), by repeat (first | exact Drawn0.refl _ | apply Drawn0.step)⟩
  · replace c3 := Bool.eq_false_iff.mpr c3
    subst c3
    have H1 : ((fastiref03_Figure.f a0).bind fun t183 => (if t183 = true then (some true) else (some (a0 == 95)))) = some r := by rw [if_neg (show ¬ (false = true) by decide)] at H; exact H
    clear H
    have H := H1
    clear H1
    replace H := Option.bind_eq_some_iff.mp H
    obtain ⟨t183, A40, H⟩ := H
    replace H : (if t183 = true then (some true) else (some (a0 == 95))) = some r := H
    have A4 := Aside0.mk A40
    clear A40
    by_cases c5 : t183 = true
    · subst c5
      have H1 : (some true) = some r := by rw [if_pos rfl] at H; exact H
      clear H
      have H := H1
      clear H1
      obtain rfl := Option.some.inj H
      go_enter Tryd.func32, Tryd.ntmps32
      go_wp2_with (first | ((with_reducible refine gate_callee (f := 31) rfl ?_); refine goesL_ (some 4) rfl rfl Tryd.func31 (by kernel_rfl) rfl #[.int .u8 a0] rfl (by (try simp only [List.map_toArray, List.map_cons, List.map_nil]); first | done | rfl | (simp only [List.length_drop, List.length_take]; rfl)) ?_; (with_reducible refine (fastiref03_Letter.calls a0 false _ A2.out).mono ?_); rintro e w' ⟨rfl, ⟨nd, rfl⟩⟩; refine ⟨_, rfl, ?_⟩) | (go_at_call 33; (with_reducible refine (fastiref03_Figure.calls a0 true _ A4.out).mono ?_); rintro e w' ⟨rfl, ⟨nd, rfl⟩⟩))
      go_ret
      exact ⟨by first | rfl | (simp; done) | (simp [*]; done), by repeat (first | exact Drawn0.refl _ | apply Drawn0.step)⟩
    · replace c5 := Bool.eq_false_iff.mpr c5
      subst c5
      have H1 : (some (a0 == 95)) = some r := by rw [if_neg (show ¬ (false = true) by decide)] at H; exact H
      clear H
      have H := H1
      clear H1
      obtain rfl := Option.some.inj H
      go_enter Tryd.func32, Tryd.ntmps32
      go_wp2_with (first | ((with_reducible refine gate_callee (f := 31) rfl ?_); refine goesL_ (some 4) rfl rfl Tryd.func31 (by kernel_rfl) rfl #[.int .u8 a0] rfl (by (try simp only [List.map_toArray, List.map_cons, List.map_nil]); first | done | rfl | (simp only [List.length_drop, List.length_take]; rfl)) ?_; (with_reducible refine (fastiref03_Letter.calls a0 false _ A2.out).mono ?_); rintro e w' ⟨rfl, ⟨nd, rfl⟩⟩; refine ⟨_, rfl, ?_⟩) | (go_at_call 33; (with_reducible refine (fastiref03_Figure.calls a0 false _ A4.out).mono ?_); rintro e w' ⟨rfl, ⟨nd, rfl⟩⟩))
      go_ret
      exact ⟨by first | rfl | (simp; done) | (simp [*]; done), by repeat (first | exact Drawn0.refl _ | apply Drawn0.step)⟩

end Go.Proofs.YtcckpmijdckocaaDoor.X
