/-
  NARROWER THAN 'FOR EVERY INPUT', by the rows' own cells (each row's printed sentence says how): SearchProofSpec: loops · SearchEither: loops.
  DERIVED. THE GIVEN ROWS OF THIS SEAT. 8 by the template 'for every input the law returns true; each argument reads behind the call as it read before'; 0 by the template 'total and deterministic' (their statements: YtcbpkdemcdikaaaTotals.lean).
  GIVEN WITH THE SEED: the statements are not yours to turn. If you find one false, say at which input.
  Laid BY PROGRAM, IN A SANDBOX (cutbox-rows.mjs): the forced cells as the released guide's own fill.sh prints them over the translation a98c913edb04a569… (all of the seat's roots in one cut). By AI agents, Wed Nov 11 2026. No macro, syntax, notation, axiom, sorry.
-/
import Derived.Test.YtcbpkdemcdikaaaChecked
import GoSem.Claim
import GoSem.ClaimJoined
import GoSem.ClaimMapViews
import Derived.JoinedTies
import Derived.KernelRfl
namespace Go.Proofs.Ytcbpkdemcdikaaa
/- THE CELL 'sum', in the pinned program and in every row, IS THE sha256 OF THE DUMP (.gsa) THAT YtcbpkdemcdikaaaProg.lean LOADS. Nothing in Lean hashes anything: it is a label: what it is worth is what the hold of that sum in a sandbox is worth. -/
noncomputable def Try.pinned : Pinned := { name := "ytcbpkdemcdikaaa", sum := "a98c913edb04a569d374854b429de90c6f77c74f618de8b048b0a26cec0aada3", checked := Try.checked }
namespace Rows
def none {H : Type} : Left H := { results := [], args := [] }

/-- 'fastilaw15.SearchSpec': WHATEVER THE INPUT: true; the input reads as it did. -/
def searchSpecSpec : ChangeSpec := { name := "searchSpec", fn := fun _ => fun
  | [d1, d2] => { results := [.lit (.bool true)], args := [d1, d2] }
  | _ => none }
def searchSpecRow : OpenClaim := { program := "ytcbpkdemcdikaaa", sum := "a98c913edb04a569d374854b429de90c6f77c74f618de8b048b0a26cec0aada3", func := "fasti/fastilaw15.SearchSpec", spec := "searchSpec", unfollowed := true, recurses := true, apart := false }
def SearchSpecSaid : Prop := searchSpecRow.holds Try.pinned (OpenSpec.ofChange searchSpecSpec)

/-- ITS FALSE NEIGHBOUR: 'it returns false'. Refute it at one input. -/
def searchSpecWrong : ChangeSpec := { name := "searchSpec", fn := fun _ => fun
  | [d1, d2] => { results := [.lit (.bool false)], args := [d1, d2] }
  | _ => none }
def SearchSpecWrongFalsely : Prop := searchSpecRow.holds Try.pinned (OpenSpec.ofChange searchSpecWrong)

/-- 'fastilaw15.SearchProofSpec': WHATEVER THE INPUT: true; the input reads as it did. -/
def searchProofSpecSpec : ChangeSpec := { name := "searchProofSpec", fn := fun _ => fun
  | [d1, d2] => { results := [.lit (.bool true)], args := [d1, d2] }
  | _ => none }
def searchProofSpecRow : OpenClaim := { program := "ytcbpkdemcdikaaa", sum := "a98c913edb04a569d374854b429de90c6f77c74f618de8b048b0a26cec0aada3", func := "fasti/fastilaw15.SearchProofSpec", spec := "searchProofSpec", unfollowed := true, recurses := true, loops := true, apart := false }
def SearchProofSpecSaid : Prop := searchProofSpecRow.holds Try.pinned (OpenSpec.ofChange searchProofSpecSpec)

/-- ITS FALSE NEIGHBOUR: 'it returns false'. Refute it at one input. -/
def searchProofSpecWrong : ChangeSpec := { name := "searchProofSpec", fn := fun _ => fun
  | [d1, d2] => { results := [.lit (.bool false)], args := [d1, d2] }
  | _ => none }
def SearchProofSpecWrongFalsely : Prop := searchProofSpecRow.holds Try.pinned (OpenSpec.ofChange searchProofSpecWrong)

/-- 'fastilaw15.SearchCoreSpec': WHATEVER THE INPUT: true; the input reads as it did. -/
def searchCoreSpecSpec : ChangeSpec := { name := "searchCoreSpec", fn := fun _ => fun
  | [d] => { results := [.lit (.bool true)], args := [d] }
  | _ => none }
def searchCoreSpecRow : OpenClaim := { program := "ytcbpkdemcdikaaa", sum := "a98c913edb04a569d374854b429de90c6f77c74f618de8b048b0a26cec0aada3", func := "fasti/fastilaw15.SearchCoreSpec", spec := "searchCoreSpec", unfollowed := true, recurses := true, apart := false }
def SearchCoreSpecSaid : Prop := searchCoreSpecRow.holds Try.pinned (OpenSpec.ofChange searchCoreSpecSpec)

/-- ITS FALSE NEIGHBOUR: 'it returns false'. Refute it at one input. -/
def searchCoreSpecWrong : ChangeSpec := { name := "searchCoreSpec", fn := fun _ => fun
  | [d] => { results := [.lit (.bool false)], args := [d] }
  | _ => none }
def SearchCoreSpecWrongFalsely : Prop := searchCoreSpecRow.holds Try.pinned (OpenSpec.ofChange searchCoreSpecWrong)

/-- 'fastilaw15.SearchEither': WHATEVER THE INPUT: true; the input reads as it did. -/
def searchEitherSpec : ChangeSpec := { name := "searchEither", fn := fun _ => fun
  | [d1, d2] => { results := [.lit (.bool true)], args := [d1, d2] }
  | _ => none }
def searchEitherRow : OpenClaim := { program := "ytcbpkdemcdikaaa", sum := "a98c913edb04a569d374854b429de90c6f77c74f618de8b048b0a26cec0aada3", func := "fasti/fastilaw15.SearchEither", spec := "searchEither", unfollowed := true, recurses := true, loops := true, apart := false }
def SearchEitherSaid : Prop := searchEitherRow.holds Try.pinned (OpenSpec.ofChange searchEitherSpec)

/-- ITS FALSE NEIGHBOUR: 'it returns false'. Refute it at one input. -/
def searchEitherWrong : ChangeSpec := { name := "searchEither", fn := fun _ => fun
  | [d1, d2] => { results := [.lit (.bool false)], args := [d1, d2] }
  | _ => none }
def SearchEitherWrongFalsely : Prop := searchEitherRow.holds Try.pinned (OpenSpec.ofChange searchEitherWrong)

/-- 'fastilaw15.SearchLeast': WHATEVER THE INPUT: true; the input reads as it did. -/
def searchLeastSpec : ChangeSpec := { name := "searchLeast", fn := fun _ => fun
  | [d1, d2] => { results := [.lit (.bool true)], args := [d1, d2] }
  | _ => none }
def searchLeastRow : OpenClaim := { program := "ytcbpkdemcdikaaa", sum := "a98c913edb04a569d374854b429de90c6f77c74f618de8b048b0a26cec0aada3", func := "fasti/fastilaw15.SearchLeast", spec := "searchLeast", unfollowed := true, recurses := true, apart := false }
def SearchLeastSaid : Prop := searchLeastRow.holds Try.pinned (OpenSpec.ofChange searchLeastSpec)

/-- ITS FALSE NEIGHBOUR: 'it returns false'. Refute it at one input. -/
def searchLeastWrong : ChangeSpec := { name := "searchLeast", fn := fun _ => fun
  | [d1, d2] => { results := [.lit (.bool false)], args := [d1, d2] }
  | _ => none }
def SearchLeastWrongFalsely : Prop := searchLeastRow.holds Try.pinned (OpenSpec.ofChange searchLeastWrong)

/-- 'fastilaw15.SearchMinimal': WHATEVER THE INPUT: true; the input reads as it did. -/
def searchMinimalSpec : ChangeSpec := { name := "searchMinimal", fn := fun _ => fun
  | [d1, d2] => { results := [.lit (.bool true)], args := [d1, d2] }
  | _ => none }
def searchMinimalRow : OpenClaim := { program := "ytcbpkdemcdikaaa", sum := "a98c913edb04a569d374854b429de90c6f77c74f618de8b048b0a26cec0aada3", func := "fasti/fastilaw15.SearchMinimal", spec := "searchMinimal", unfollowed := true, recurses := true, apart := false }
def SearchMinimalSaid : Prop := searchMinimalRow.holds Try.pinned (OpenSpec.ofChange searchMinimalSpec)

/-- ITS FALSE NEIGHBOUR: 'it returns false'. Refute it at one input. -/
def searchMinimalWrong : ChangeSpec := { name := "searchMinimal", fn := fun _ => fun
  | [d1, d2] => { results := [.lit (.bool false)], args := [d1, d2] }
  | _ => none }
def SearchMinimalWrongFalsely : Prop := searchMinimalRow.holds Try.pinned (OpenSpec.ofChange searchMinimalWrong)

/-- 'fastilaw15.SearchFewer': WHATEVER THE INPUT: true; the input reads as it did. -/
def searchFewerSpec : ChangeSpec := { name := "searchFewer", fn := fun _ => fun
  | [d1, d2] => { results := [.lit (.bool true)], args := [d1, d2] }
  | _ => none }
def searchFewerRow : OpenClaim := { program := "ytcbpkdemcdikaaa", sum := "a98c913edb04a569d374854b429de90c6f77c74f618de8b048b0a26cec0aada3", func := "fasti/fastilaw15.SearchFewer", spec := "searchFewer", unfollowed := true, recurses := true, apart := false }
def SearchFewerSaid : Prop := searchFewerRow.holds Try.pinned (OpenSpec.ofChange searchFewerSpec)

/-- ITS FALSE NEIGHBOUR: 'it returns false'. Refute it at one input. -/
def searchFewerWrong : ChangeSpec := { name := "searchFewer", fn := fun _ => fun
  | [d1, d2] => { results := [.lit (.bool false)], args := [d1, d2] }
  | _ => none }
def SearchFewerWrongFalsely : Prop := searchFewerRow.holds Try.pinned (OpenSpec.ofChange searchFewerWrong)

/-- 'fastilaw15.SearchKinds': WHATEVER THE INPUT: true; the input reads as it did. -/
def searchKindsSpec : ChangeSpec := { name := "searchKinds", fn := fun _ => fun
  | [d1, d2] => { results := [.lit (.bool true)], args := [d1, d2] }
  | _ => none }
def searchKindsRow : OpenClaim := { program := "ytcbpkdemcdikaaa", sum := "a98c913edb04a569d374854b429de90c6f77c74f618de8b048b0a26cec0aada3", func := "fasti/fastilaw15.SearchKinds", spec := "searchKinds", unfollowed := true, recurses := true, apart := false }
def SearchKindsSaid : Prop := searchKindsRow.holds Try.pinned (OpenSpec.ofChange searchKindsSpec)

/-- ITS FALSE NEIGHBOUR: 'it returns false'. Refute it at one input. -/
def searchKindsWrong : ChangeSpec := { name := "searchKinds", fn := fun _ => fun
  | [d1, d2] => { results := [.lit (.bool false)], args := [d1, d2] }
  | _ => none }
def SearchKindsWrongFalsely : Prop := searchKindsRow.holds Try.pinned (OpenSpec.ofChange searchKindsWrong)

/- THE SECOND FORM. 'bulk': how many values and letters a reading holds, each counted each time it is reached (what is shared counts as often as it is met; a slice's spare places count too). A statement '..UptoSaid' is the law's where the arguments, and the package variables that the reading takes, are together of bulk at most 1048576: NARROWER than '..Said'. Prove '..Said' where nothing that the law and all that it calls make is longer than what came in: it says more and counts as full. Else prove '..UptoSaid'. A law counts once. -/
mutual
def uptoBulk {H : Type} : DataW H → Nat
  | .lit (.string bytes) => bytes.length + 1
  | .lit _ => 1
  | .nil => 1
  | .ptr d => uptoBulk d + 1
  | .slice elems spare => uptoBulkAll elems + uptoBulkAll spare + 1
  | .agg parts => uptoBulkAll parts + 1
  | .iface _ d => uptoBulk d + 1
  | .map entries => uptoBulkEntries entries + 1
  | .held _ => 1
def uptoBulkAll {H : Type} : List (DataW H) → Nat
  | [] => 0
  | d :: r => uptoBulk d + uptoBulkAll r
def uptoBulkEntries {H : Type} : List (Lit × DataW H) → Nat
  | [] => 0
  | x :: r => uptoBulkEntry x + uptoBulkEntries r
def uptoBulkEntry {H : Type} : Lit × DataW H → Nat
  | (.string bytes, d) => bytes.length + uptoBulk d + 1
  | (_, d) => uptoBulk d + 1
 end
def uptoSmall : (H : Type) → List (DataW H) → Bool := fun _ ds => decide (uptoBulkAll ds ≤ 1048576)
def OpenSpec.upto (s : _root_.Go.ChangeSpec) : _root_.Go.OpenSpec := { _root_.Go.OpenSpec.ofChange s with cond := some uptoSmall }

/-- 'fastilaw15.SearchSpec', WHERE WHAT IT READS IS OF BULK AT MOST 1048576: true; the input reads as it did. -/
def searchSpecUptoRow : OpenClaim := { program := "ytcbpkdemcdikaaa", sum := "a98c913edb04a569d374854b429de90c6f77c74f618de8b048b0a26cec0aada3", func := "fasti/fastilaw15.SearchSpec", spec := "searchSpec", unfollowed := true, recurses := true, apart := false, narrowed := true }
def SearchSpecUptoSaid : Prop := searchSpecUptoRow.holds Try.pinned (OpenSpec.upto searchSpecSpec)

/-- 'fastilaw15.SearchProofSpec', WHERE WHAT IT READS IS OF BULK AT MOST 1048576: true; the input reads as it did. -/
def searchProofSpecUptoRow : OpenClaim := { program := "ytcbpkdemcdikaaa", sum := "a98c913edb04a569d374854b429de90c6f77c74f618de8b048b0a26cec0aada3", func := "fasti/fastilaw15.SearchProofSpec", spec := "searchProofSpec", unfollowed := true, recurses := true, loops := true, apart := false, narrowed := true }
def SearchProofSpecUptoSaid : Prop := searchProofSpecUptoRow.holds Try.pinned (OpenSpec.upto searchProofSpecSpec)

/-- 'fastilaw15.SearchCoreSpec', WHERE WHAT IT READS IS OF BULK AT MOST 1048576: true; the input reads as it did. -/
def searchCoreSpecUptoRow : OpenClaim := { program := "ytcbpkdemcdikaaa", sum := "a98c913edb04a569d374854b429de90c6f77c74f618de8b048b0a26cec0aada3", func := "fasti/fastilaw15.SearchCoreSpec", spec := "searchCoreSpec", unfollowed := true, recurses := true, apart := false, narrowed := true }
def SearchCoreSpecUptoSaid : Prop := searchCoreSpecUptoRow.holds Try.pinned (OpenSpec.upto searchCoreSpecSpec)

/-- 'fastilaw15.SearchEither', WHERE WHAT IT READS IS OF BULK AT MOST 1048576: true; the input reads as it did. -/
def searchEitherUptoRow : OpenClaim := { program := "ytcbpkdemcdikaaa", sum := "a98c913edb04a569d374854b429de90c6f77c74f618de8b048b0a26cec0aada3", func := "fasti/fastilaw15.SearchEither", spec := "searchEither", unfollowed := true, recurses := true, loops := true, apart := false, narrowed := true }
def SearchEitherUptoSaid : Prop := searchEitherUptoRow.holds Try.pinned (OpenSpec.upto searchEitherSpec)

/-- 'fastilaw15.SearchLeast', WHERE WHAT IT READS IS OF BULK AT MOST 1048576: true; the input reads as it did. -/
def searchLeastUptoRow : OpenClaim := { program := "ytcbpkdemcdikaaa", sum := "a98c913edb04a569d374854b429de90c6f77c74f618de8b048b0a26cec0aada3", func := "fasti/fastilaw15.SearchLeast", spec := "searchLeast", unfollowed := true, recurses := true, apart := false, narrowed := true }
def SearchLeastUptoSaid : Prop := searchLeastUptoRow.holds Try.pinned (OpenSpec.upto searchLeastSpec)

/-- 'fastilaw15.SearchMinimal', WHERE WHAT IT READS IS OF BULK AT MOST 1048576: true; the input reads as it did. -/
def searchMinimalUptoRow : OpenClaim := { program := "ytcbpkdemcdikaaa", sum := "a98c913edb04a569d374854b429de90c6f77c74f618de8b048b0a26cec0aada3", func := "fasti/fastilaw15.SearchMinimal", spec := "searchMinimal", unfollowed := true, recurses := true, apart := false, narrowed := true }
def SearchMinimalUptoSaid : Prop := searchMinimalUptoRow.holds Try.pinned (OpenSpec.upto searchMinimalSpec)

/-- 'fastilaw15.SearchFewer', WHERE WHAT IT READS IS OF BULK AT MOST 1048576: true; the input reads as it did. -/
def searchFewerUptoRow : OpenClaim := { program := "ytcbpkdemcdikaaa", sum := "a98c913edb04a569d374854b429de90c6f77c74f618de8b048b0a26cec0aada3", func := "fasti/fastilaw15.SearchFewer", spec := "searchFewer", unfollowed := true, recurses := true, apart := false, narrowed := true }
def SearchFewerUptoSaid : Prop := searchFewerUptoRow.holds Try.pinned (OpenSpec.upto searchFewerSpec)

/-- 'fastilaw15.SearchKinds', WHERE WHAT IT READS IS OF BULK AT MOST 1048576: true; the input reads as it did. -/
def searchKindsUptoRow : OpenClaim := { program := "ytcbpkdemcdikaaa", sum := "a98c913edb04a569d374854b429de90c6f77c74f618de8b048b0a26cec0aada3", func := "fasti/fastilaw15.SearchKinds", spec := "searchKinds", unfollowed := true, recurses := true, apart := false, narrowed := true }
def SearchKindsUptoSaid : Prop := searchKindsUptoRow.holds Try.pinned (OpenSpec.upto searchKindsSpec)

end Rows
end Go.Proofs.Ytcbpkdemcdikaaa
