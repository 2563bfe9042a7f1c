/- Proved here: what the recovering function of lex.Lex does (LS.rec_idle, LS.rec_panicking) -/
import Derived.Test.YtcckpmijdckocaaDoorX0
import Derived.Test.YtcckpmijdckocaaDoorXLx
import Derived.Test.YtcckpmijdckocaaDoorXRun
import Derived.Test.YtcckpmijdckocaaDoorXAdd
import Derived.Test.YtcckpmijdckocaaDoorXLx
import Derived.Test.YtcckpmijdckocaaDoorXRun
import Derived.Test.YtcckpmijdckocaaDoorXAdd
import Derived.BigQuiet
import Derived.Defers
import Derived.Recover
import Derived.WalkSmall
import Derived.RegionTactic
import Derived.ChangeAlike
namespace Go.Proofs.YtcckpmijdckocaaDoor.X
open Go.RowKit Go.Proofs.YtcckpmijdckocaaDoorW.PrintWords Go.Proofs.YtcckpmijdckocaaDoorW.PrintLast Go.Proofs.YtcckpmijdckocaaDoorW.PrintMore
attribute [local go_sem] max2_int min2_int max_two min_two max_three min_three max_four min_four
set_option linter.unusedVariables false
set_option linter.unusedSimpArgs false
namespace LS
open Go.Proofs.YtcckpmijdckocaaDoor.K LX
attribute [local go_sem] Oper.semAt_some
set_option maxHeartbeats 16000000
set_option maxRecDepth 100000
theorem rec_idle (p0 p1 p2 : Addr) (w : World) :
    CallsD Tryd.prog 24 #[.pointer (some p0), .pointer (some p1), .pointer (some p2)] .returning w fun e u' w' => e = .returned (.tuple #[]) ∧ u' = .returning ∧ w' = w := by
  refine callsD_of_wpS Tryd.func24 rfl fun c₀ cs hu => ?_
  apply wpS_seq
  apply wpS_region
  simp [wpOpsS, go_sem, recoverD, hu, Tryd.ntmps24, Exit.thenS]
  refine wpS_of_wp ?_
  cases c₀
  simp only [Array.replicate_succ, Array.replicate_zero, List.push_toArray, List.append_toArray, List.nil_append, List.cons_append, List.setIfInBounds_toArray, List.set_cons_zero, List.set_cons_succ]
  go_wp2_with fail
  simp_all [bodyPostS, results, Tryd.results24]
theorem rec_panicking (b : Nat) (p : Nat) (x y z : Value) (w : World) (h0 : w.cell? ⟨b, 0, none⟩ = some x) (z0 : w.frozen? ⟨b, 0, none⟩ = false) (h1 : w.cell? ⟨b + 1, 0, none⟩ = some y) (z1 : w.frozen? ⟨b + 1, 0, none⟩ = false)
    (h2 : w.cell? ⟨b + 1 + 1, 0, none⟩ = some z) (z2 : w.frozen? ⟨b + 1 + 1, 0, none⟩ = false) :
    CallsD Tryd.prog 24 #[.pointer (some ⟨b, 0, none⟩), .pointer (some ⟨b + 1, 0, none⟩), .pointer (some ⟨b + 1 + 1, 0, none⟩)] (.panicking (thrown p)) w fun e u' w' =>
      e = .returned (.tuple #[]) ∧ u' = .panicking [{ v := .iface 42 (.int .i64 (p : Int)), recovered := true }] ∧ w' = (((w.setCell ⟨b, 0, none⟩ (.slice none 0 0)).setCell ⟨b + 1, 0, none⟩ (.int .i64 (p : Int))).setCell ⟨b + 1 + 1, 0, none⟩ (.int .i64 30)).drew := by
  have hta : ∀ w : World, (Instr.typeAssert (.iface 42 (.int .i64 (p : Int))) 20 42 false).run Tryd.prog w = .ok (.int .i64 (p : Int)) w := fun w => by kernel_rfl
  refine callsD_of_wpS Tryd.func24 rfl fun c₀ cs hu => ?_
  apply wpS_seq
  apply wpS_region
  simp [wpOpsS, go_sem, recoverD, hu, Tryd.ntmps24, Exit.thenS]
  refine wpS_of_wp ?_
  cases c₀
  simp only [Array.replicate_succ, Array.replicate_zero, List.push_toArray, List.append_toArray, List.nil_append, List.cons_append, List.setIfInBounds_toArray, List.set_cons_zero, List.set_cons_succ]
  go_wp2_with fail
  go_region
  clear hta h0 h1 h2 z0 z1 z2
  go_wp2_with fail
  simp_all [bodyPostS, results, Tryd.results24]
end LS
end Go.Proofs.YtcckpmijdckocaaDoor.X
