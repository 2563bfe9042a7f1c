/- Proved here: parts of the walk and of the plain law of SearchKinds, put into one text (names and lines made short by a program). -/
import Derived.Test.YtcbpkdemcdikaaaSearchKindsD
import Derived.Test.YtcbpkdemcdikaaaSearchKindsG
import Derived.ProofKit
namespace Go.Proofs.Ytcbpkdemcdikaaa.X
open Go.RowKit Go.Proofs.YtcbpkdemcdikaaaW.PrintWords Go.Proofs.YtcbpkdemcdikaaaW.PrintLast Go.Proofs.YtcbpkdemcdikaaaW.PrintMore
attribute [local go_sem] ay az aN aM ao ap aw ax
set_option linter.unusedVariables false
set_option linter.unusedSimpArgs false
namespace OP
open Go.Proofs.Ytcbpkdemcdikaaa.O Go.WideShapes Go.ChangeShapes
instance : Inhabited S49 := ⟨z49⟩
instance : Inhabited S39 := ⟨z39⟩
theorem c3 : Try.prog.cellsOf 3 = 1 := by kernel_rfl
theorem c26 : Try.prog.cellsOf 26 = 1 := by kernel_rfl
theorem c22 : Try.prog.cellsOf 22 = 1 := by kernel_rfl
theorem c23 : Try.prog.cellsOf 23 = 1 := by kernel_rfl
theorem c37 : Try.prog.cellsOf 37 = 1 := by kernel_rfl
theorem c49 : Try.prog.cellsOf 49 = 4 := by kernel_rfl
theorem c39 : Try.prog.cellsOf 39 = 2 := by kernel_rfl
theorem c25 : Try.prog.cellsOf 25 = 2 := by kernel_rfl
theorem o3 (N : Nat) : Opn N Try.prog (Kd.int .i64) 3 (fun _ => True) := dR (opn_int Try.underlying3 c3 N) rfl (fun _ _ _ h => h) (fun _ _ => trivial)
theorem o26 (N : Nat) : Opn N Try.prog (Kd.slice 3 (Kd.int .i64)) 26 (fun _ => True) :=
  opn_le (dR (fT Try.underlying26 c26 rfl (o3 N)) rfl (fun _ _ _ h => h) (fun _ _ => trivial)) (Nat.le_succ N)
theorem o22 (N : Nat) : Opn N Try.prog (Kd.slice 26 (Kd.slice 3 (Kd.int .i64))) 22 (fun _ => True) :=
  opn_le (dR (fT Try.underlying22 c22 rfl (o26 N)) rfl (fun _ _ _ h => h) (fun _ _ => trivial)) (Nat.le_succ N)
theorem o49 (N : Nat) : Opn N Try.prog k49 49 (fun _ => True) :=
  opn_le (dR (opn_struct (fun x : S49 => (x.f0, x.f1, x.f2, x.f3)) (fun a => ⟨⟨a.1, a.2.1, a.2.2.1, a.2.2.2⟩, rfl⟩) Try.underlying49 c49
    (eF (o3 N) rfl (eF (o3 N) rfl (eF (o26 N) rfl (opnF_one (o22 N) rfl))))) rfl (fun _ _ _ h => h) (fun _ _ => trivial)) (Nat.le_succ N)
theorem o23 (N : Nat) : Opn N Try.prog (Kd.slice 49 k49) 23 (fun _ => True) :=
  opn_le (dR (fT Try.underlying23 c23 rfl (o49 N)) rfl (fun _ _ _ h => h) (fun _ _ => trivial)) (Nat.le_succ N)
def k25 : Kd (List (List Int) × List S49) := Kd.pair (Kd.slice 26 (Kd.slice 3 (Kd.int .i64))) (Kd.slice 49 k49)
theorem o25 (N : Nat) : Opn N Try.prog (Kd.iso k25 id) 25 (fun _ => True) :=
  opn_le (dR (opn_struct (β := List (List Int) × List S49) id (fun a => ⟨a, rfl⟩) Try.underlying25 c25 (eF (o22 N) rfl (opnF_one (o23 N) rfl))) rfl (fun _ _ _ h => h) (fun _ _ => trivial)) (Nat.le_succ N)
theorem open25 {H : Type} {enc : TypeId × Value → H} {W : World} {b0 : Nat} {r : Reach} {v : Value} {d : DataW H} {ps : List MemPlace} (hval : Value.okWide Try.prog W r b0 25 v)
    (h : DataW.Trod enc Try.prog W 0 (fun _ => true) true 25 v d ps) (hz : ∀ n ∈ d.weights Try.prog 25, n ≤ 140737488351232) :
    ∃ (A0 : Option Addr) (c0 : Nat) (l0 : List (List Int)) (A1 : Option Addr) (c1 : Nat) (l1 : List S49), v = .agg #[.slice A0 l0.length c0, .slice A1 l1.length c1] ∧ Kd.C (Kd.slice 3 (Kd.int .i64)) W A0 l0.length l0 ∧ l0.length ≤ c0 ∧ Kd.C k49 W A1 l1.length l1 ∧ l1.length ≤ c1 := by
  obtain ⟨⟨cs⟩, rfl, _⟩ := okWide_struct Try.underlying25 hval
  obtain ⟨fuel, hf⟩ := h
  obtain ⟨a, hK, _⟩ := (o25 fuel).2 enc W 0 true fuel _ _ (Nat.le_refl _) hf hz
  obtain ⟨_, _, e, ⟨A0, c0, rfl, h1, h2⟩, ⟨A1, c1, rfl, h3, h4⟩⟩ := hK
  have e' : cs = [.slice A0 a.1.length c0, .slice A1 a.2.length c1] := e
  exact ⟨A0, c0, a.1, A1, c1, a.2, by rw [e'], h2, h1, h4, h3⟩
end OP
end Go.Proofs.Ytcbpkdemcdikaaa.X
