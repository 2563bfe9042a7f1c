/- Proved here: what play's deferred function does (CD) -/
import Derived.Test.YtaadhandkljcdaaX0
import Derived.Test.YtaadhandkljcdaaK
import Derived.BigQuiet
import Derived.Defers
import Derived.Recover
import Derived.WalkSmall
namespace Go.Proofs.Ytaadhandkljcdaa.X
open Go.RowKit Go.Proofs.YtaadhandkljcdaaW.PrintWords Go.Proofs.YtaadhandkljcdaaW.PrintLast Go.Proofs.YtaadhandkljcdaaW.PrintMore
attribute [local go_sem] max2_int min2_int max_two min_two max_three min_three max_four min_four
set_option linter.unusedVariables false
set_option linter.unusedSimpArgs false
namespace CD
open Go.Proofs.Ytaadhandkljcdaa.K
attribute [local go_sem] Oper.semAt_some
abbrev errCup : Value := .iface 23 (.int .i64 230)
set_option maxRecDepth 100000 in
set_option maxHeartbeats 16000000 in
theorem catch_idle (pc pe : Addr) (w : World) : CallsD Try.prog 35 #[.pointer (some pc), .pointer (some pe)] .returning w fun e u' w' => e = .returned (.tuple #[]) ∧ u' = .returning ∧ w' = w := by
  refine callsD_of_wpS Try.func35 rfl fun c₀ cs hu => ?_
  apply wpS_seq
  apply wpS_region
  simp [wpOpsS, go_sem, recoverD, hu, Try.ntmps35, Exit.thenS]
  refine wpS_of_wp ?_
  cases c₀
  simp only [Array.replicate_succ, Array.replicate_zero, List.push_toArray, List.append_toArray, List.nil_append, List.cons_append, List.setIfInBounds_toArray, List.set_cons_zero, List.set_cons_succ]
  go_wp2_with fail
  simp_all [bodyPostS, results, Try.results35]
set_option maxRecDepth 100000 in
set_option maxHeartbeats 16000000 in
theorem catch_panicking (pc pe : Addr) (x y : Value) (older : List PanicEntry) (w : World) (hc : w.cell? pc = some x) (hz : w.frozen? pc = false) (hc2 : w.cell? pe = some y) (hz2 : w.frozen? pe = false) (hne : pc ≠ pe) (hc3 : (w.setCell pc (.pointer none)).cell? pe = some y) :
    CallsD Try.prog 35 #[.pointer (some pc), .pointer (some pe)] (.panicking ({ v := errCup, recovered := false } :: older)) w fun e u' w' =>
      e = .returned (.tuple #[]) ∧ u' = .panicking ({ v := errCup, recovered := true } :: older) ∧ w' = (w.setCell pc (.pointer none)).setCell pe (.int .i64 230) := by
  have hta : ∀ w : World, (Instr.typeAssert errCup 20 23 true).run Try.prog w = .ok (.tuple #[.int .i64 230, .bool true]) w := fun w => by kernel_rfl
  refine callsD_of_wpS Try.func35 rfl fun c₀ cs hu => ?_
  apply wpS_seq
  apply wpS_region
  simp [wpOpsS, go_sem, recoverD, hu, Try.ntmps35, Exit.thenS]
  refine wpS_of_wp ?_
  cases c₀
  simp only [Array.replicate_succ, Array.replicate_zero, List.push_toArray, List.append_toArray, List.nil_append, List.cons_append, List.setIfInBounds_toArray, List.set_cons_zero, List.set_cons_succ]
  go_wp2_with fail
  simp_all [bodyPostS, results, Try.results35]
end CD
end Go.Proofs.Ytaadhandkljcdaa.X
