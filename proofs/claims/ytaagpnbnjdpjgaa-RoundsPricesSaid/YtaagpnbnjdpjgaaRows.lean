/-
  No cell of these rows narrows 'for every input' (looked for: loops, veiled, ifaces, maps, wideKeys, modest, calm, conditions, laid).
  DERIVED. THE GIVEN ROWS OF THIS SEAT. 6 by the template 'for every input the law returns true; each argument reads behind the call as it read before'; 0 by the template 'total and deterministic' (their statements: YtaagpnbnjdpjgaaTotals.lean).
  GIVEN WITH THE SEED: the statements are not yours to turn. If you find one false, say at which input.
  Laid BY PROGRAM, IN A SANDBOX (cutbox-rows.mjs): the forced cells as the released guide's own fill.sh prints them over the translation 9cdffe7e7c2582ad… (all of the seat's roots in one cut). By AI agents, Wed Nov 11 2026. No macro, syntax, notation, axiom, sorry.
-/
import Derived.Test.YtaagpnbnjdpjgaaChecked
import GoSem.Claim
import GoSem.ClaimJoined
import GoSem.ClaimMapViews
import Derived.JoinedTies
import Derived.KernelRfl
namespace Go.Proofs.Ytaagpnbnjdpjgaa
/- THE CELL 'sum', in the pinned program and in every row, IS THE sha256 OF THE DUMP (.gsa) THAT YtaagpnbnjdpjgaaProg.lean LOADS. Nothing in Lean hashes anything: it is a label: what it is worth is what the hold of that sum in a sandbox is worth. -/
noncomputable def Try.pinned : Pinned := { name := "ytaagpnbnjdpjgaa", sum := "9cdffe7e7c2582ad593380170de7c276c57be703ab6e2cb17993d51567d37067", checked := Try.checked }
namespace Rows
def none {H : Type} : Left H := { results := [], args := [] }

/-- 'fastilaw32.RoundsSpec': WHATEVER THE INPUT: true; the input reads as it did. -/
def roundsSpecSpec : ChangeSpec := { name := "roundsSpec", fn := fun _ => fun
  | [d1, d2] => { results := [.lit (.bool true)], args := [d1, d2] }
  | _ => none }
def roundsSpecRow : OpenClaim := { program := "ytaagpnbnjdpjgaa", sum := "9cdffe7e7c2582ad593380170de7c276c57be703ab6e2cb17993d51567d37067", func := "fasti/fastilaw32.RoundsSpec", spec := "roundsSpec", unfollowed := true, recurses := true, apart := false }
def RoundsSpecSaid : Prop := roundsSpecRow.holds Try.pinned (OpenSpec.ofChange roundsSpecSpec)

/-- ITS FALSE NEIGHBOUR: 'it returns false'. Refute it at one input. -/
def roundsSpecWrong : ChangeSpec := { name := "roundsSpec", fn := fun _ => fun
  | [d1, d2] => { results := [.lit (.bool false)], args := [d1, d2] }
  | _ => none }
def RoundsSpecWrongFalsely : Prop := roundsSpecRow.holds Try.pinned (OpenSpec.ofChange roundsSpecWrong)

/-- 'fastilaw32.RoundsPlaceSpec': WHATEVER THE INPUT: true; the input reads as it did. -/
def roundsPlaceSpecSpec : ChangeSpec := { name := "roundsPlaceSpec", fn := fun _ => fun
  | [d1, d2, d3] => { results := [.lit (.bool true)], args := [d1, d2, d3] }
  | _ => none }
def roundsPlaceSpecRow : OpenClaim := { program := "ytaagpnbnjdpjgaa", sum := "9cdffe7e7c2582ad593380170de7c276c57be703ab6e2cb17993d51567d37067", func := "fasti/fastilaw32.RoundsPlaceSpec", spec := "roundsPlaceSpec", unfollowed := true, recurses := true, apart := false }
def RoundsPlaceSpecSaid : Prop := roundsPlaceSpecRow.holds Try.pinned (OpenSpec.ofChange roundsPlaceSpecSpec)

/-- ITS FALSE NEIGHBOUR: 'it returns false'. Refute it at one input. -/
def roundsPlaceSpecWrong : ChangeSpec := { name := "roundsPlaceSpec", fn := fun _ => fun
  | [d1, d2, d3] => { results := [.lit (.bool false)], args := [d1, d2, d3] }
  | _ => none }
def RoundsPlaceSpecWrongFalsely : Prop := roundsPlaceSpecRow.holds Try.pinned (OpenSpec.ofChange roundsPlaceSpecWrong)

/-- 'fastilaw32.RoundsBest': WHATEVER THE INPUT: true; the input reads as it did. -/
def roundsBestSpec : ChangeSpec := { name := "roundsBest", fn := fun _ => fun
  | [d1, d2, d3, d4] => { results := [.lit (.bool true)], args := [d1, d2, d3, d4] }
  | _ => none }
def roundsBestRow : OpenClaim := { program := "ytaagpnbnjdpjgaa", sum := "9cdffe7e7c2582ad593380170de7c276c57be703ab6e2cb17993d51567d37067", func := "fasti/fastilaw32.RoundsBest", spec := "roundsBest", unfollowed := true, recurses := true, apart := false }
def RoundsBestSaid : Prop := roundsBestRow.holds Try.pinned (OpenSpec.ofChange roundsBestSpec)

/-- ITS FALSE NEIGHBOUR: 'it returns false'. Refute it at one input. -/
def roundsBestWrong : ChangeSpec := { name := "roundsBest", fn := fun _ => fun
  | [d1, d2, d3, d4] => { results := [.lit (.bool false)], args := [d1, d2, d3, d4] }
  | _ => none }
def RoundsBestWrongFalsely : Prop := roundsBestRow.holds Try.pinned (OpenSpec.ofChange roundsBestWrong)

/-- 'fastilaw32.RoundsPossible': WHATEVER THE INPUT: true; the input reads as it did. -/
def roundsPossibleSpec : ChangeSpec := { name := "roundsPossible", fn := fun _ => fun
  | [d1, d2, d3, d4] => { results := [.lit (.bool true)], args := [d1, d2, d3, d4] }
  | _ => none }
def roundsPossibleRow : OpenClaim := { program := "ytaagpnbnjdpjgaa", sum := "9cdffe7e7c2582ad593380170de7c276c57be703ab6e2cb17993d51567d37067", func := "fasti/fastilaw32.RoundsPossible", spec := "roundsPossible", unfollowed := true, recurses := true, apart := false }
def RoundsPossibleSaid : Prop := roundsPossibleRow.holds Try.pinned (OpenSpec.ofChange roundsPossibleSpec)

/-- ITS FALSE NEIGHBOUR: 'it returns false'. Refute it at one input. -/
def roundsPossibleWrong : ChangeSpec := { name := "roundsPossible", fn := fun _ => fun
  | [d1, d2, d3, d4] => { results := [.lit (.bool false)], args := [d1, d2, d3, d4] }
  | _ => none }
def RoundsPossibleWrongFalsely : Prop := roundsPossibleRow.holds Try.pinned (OpenSpec.ofChange roundsPossibleWrong)

/-- 'fastilaw32.RoundsMost': WHATEVER THE INPUT: true; the input reads as it did. -/
def roundsMostSpec : ChangeSpec := { name := "roundsMost", fn := fun _ => fun
  | [d1, d2, d3] => { results := [.lit (.bool true)], args := [d1, d2, d3] }
  | _ => none }
def roundsMostRow : OpenClaim := { program := "ytaagpnbnjdpjgaa", sum := "9cdffe7e7c2582ad593380170de7c276c57be703ab6e2cb17993d51567d37067", func := "fasti/fastilaw32.RoundsMost", spec := "roundsMost", unfollowed := true, recurses := true, apart := false }
def RoundsMostSaid : Prop := roundsMostRow.holds Try.pinned (OpenSpec.ofChange roundsMostSpec)

/-- ITS FALSE NEIGHBOUR: 'it returns false'. Refute it at one input. -/
def roundsMostWrong : ChangeSpec := { name := "roundsMost", fn := fun _ => fun
  | [d1, d2, d3] => { results := [.lit (.bool false)], args := [d1, d2, d3] }
  | _ => none }
def RoundsMostWrongFalsely : Prop := roundsMostRow.holds Try.pinned (OpenSpec.ofChange roundsMostWrong)

/-- 'fastilaw32.RoundsPrices': WHATEVER THE INPUT: true; the input reads as it did. -/
def roundsPricesSpec : ChangeSpec := { name := "roundsPrices", fn := fun _ => fun
  | [d1, d2, d3, d4, d5, d6] => { results := [.lit (.bool true)], args := [d1, d2, d3, d4, d5, d6] }
  | _ => none }
def roundsPricesRow : OpenClaim := { program := "ytaagpnbnjdpjgaa", sum := "9cdffe7e7c2582ad593380170de7c276c57be703ab6e2cb17993d51567d37067", func := "fasti/fastilaw32.RoundsPrices", spec := "roundsPrices", unfollowed := true, recurses := true, apart := false }
def RoundsPricesSaid : Prop := roundsPricesRow.holds Try.pinned (OpenSpec.ofChange roundsPricesSpec)

/-- ITS FALSE NEIGHBOUR: 'it returns false'. Refute it at one input. -/
def roundsPricesWrong : ChangeSpec := { name := "roundsPrices", fn := fun _ => fun
  | [d1, d2, d3, d4, d5, d6] => { results := [.lit (.bool false)], args := [d1, d2, d3, d4, d5, d6] }
  | _ => none }
def RoundsPricesWrongFalsely : Prop := roundsPricesRow.holds Try.pinned (OpenSpec.ofChange roundsPricesWrong)

/- THE SECOND FORM. 'bulk': how many values and letters a reading holds, each counted each time it is reached (what is shared counts as often as it is met; a slice's spare places count too). A statement '..UptoSaid' is the law's where the arguments, and the package variables that the reading takes, are together of bulk at most 1048576: NARROWER than '..Said'. Prove '..Said' where nothing that the law and all that it calls make is longer than what came in: it says more and counts as full. Else prove '..UptoSaid'. A law counts once. -/
mutual
def uptoBulk {H : Type} : DataW H → Nat
  | .lit (.string bytes) => bytes.length + 1
  | .lit _ => 1
  | .nil => 1
  | .ptr d => uptoBulk d + 1
  | .slice elems spare => uptoBulkAll elems + uptoBulkAll spare + 1
  | .agg parts => uptoBulkAll parts + 1
  | .iface _ d => uptoBulk d + 1
  | .map entries => uptoBulkEntries entries + 1
  | .held _ => 1
def uptoBulkAll {H : Type} : List (DataW H) → Nat
  | [] => 0
  | d :: r => uptoBulk d + uptoBulkAll r
def uptoBulkEntries {H : Type} : List (Lit × DataW H) → Nat
  | [] => 0
  | x :: r => uptoBulkEntry x + uptoBulkEntries r
def uptoBulkEntry {H : Type} : Lit × DataW H → Nat
  | (.string bytes, d) => bytes.length + uptoBulk d + 1
  | (_, d) => uptoBulk d + 1
 end
def uptoSmall : (H : Type) → List (DataW H) → Bool := fun _ ds => decide (uptoBulkAll ds ≤ 1048576)
def OpenSpec.upto (s : _root_.Go.ChangeSpec) : _root_.Go.OpenSpec := { _root_.Go.OpenSpec.ofChange s with cond := some uptoSmall }

/-- 'fastilaw32.RoundsSpec', WHERE WHAT IT READS IS OF BULK AT MOST 1048576: true; the input reads as it did. -/
def roundsSpecUptoRow : OpenClaim := { program := "ytaagpnbnjdpjgaa", sum := "9cdffe7e7c2582ad593380170de7c276c57be703ab6e2cb17993d51567d37067", func := "fasti/fastilaw32.RoundsSpec", spec := "roundsSpec", unfollowed := true, recurses := true, apart := false, narrowed := true }
def RoundsSpecUptoSaid : Prop := roundsSpecUptoRow.holds Try.pinned (OpenSpec.upto roundsSpecSpec)

/-- 'fastilaw32.RoundsPlaceSpec', WHERE WHAT IT READS IS OF BULK AT MOST 1048576: true; the input reads as it did. -/
def roundsPlaceSpecUptoRow : OpenClaim := { program := "ytaagpnbnjdpjgaa", sum := "9cdffe7e7c2582ad593380170de7c276c57be703ab6e2cb17993d51567d37067", func := "fasti/fastilaw32.RoundsPlaceSpec", spec := "roundsPlaceSpec", unfollowed := true, recurses := true, apart := false, narrowed := true }
def RoundsPlaceSpecUptoSaid : Prop := roundsPlaceSpecUptoRow.holds Try.pinned (OpenSpec.upto roundsPlaceSpecSpec)

/-- 'fastilaw32.RoundsBest', WHERE WHAT IT READS IS OF BULK AT MOST 1048576: true; the input reads as it did. -/
def roundsBestUptoRow : OpenClaim := { program := "ytaagpnbnjdpjgaa", sum := "9cdffe7e7c2582ad593380170de7c276c57be703ab6e2cb17993d51567d37067", func := "fasti/fastilaw32.RoundsBest", spec := "roundsBest", unfollowed := true, recurses := true, apart := false, narrowed := true }
def RoundsBestUptoSaid : Prop := roundsBestUptoRow.holds Try.pinned (OpenSpec.upto roundsBestSpec)

/-- 'fastilaw32.RoundsPossible', WHERE WHAT IT READS IS OF BULK AT MOST 1048576: true; the input reads as it did. -/
def roundsPossibleUptoRow : OpenClaim := { program := "ytaagpnbnjdpjgaa", sum := "9cdffe7e7c2582ad593380170de7c276c57be703ab6e2cb17993d51567d37067", func := "fasti/fastilaw32.RoundsPossible", spec := "roundsPossible", unfollowed := true, recurses := true, apart := false, narrowed := true }
def RoundsPossibleUptoSaid : Prop := roundsPossibleUptoRow.holds Try.pinned (OpenSpec.upto roundsPossibleSpec)

/-- 'fastilaw32.RoundsMost', WHERE WHAT IT READS IS OF BULK AT MOST 1048576: true; the input reads as it did. -/
def roundsMostUptoRow : OpenClaim := { program := "ytaagpnbnjdpjgaa", sum := "9cdffe7e7c2582ad593380170de7c276c57be703ab6e2cb17993d51567d37067", func := "fasti/fastilaw32.RoundsMost", spec := "roundsMost", unfollowed := true, recurses := true, apart := false, narrowed := true }
def RoundsMostUptoSaid : Prop := roundsMostUptoRow.holds Try.pinned (OpenSpec.upto roundsMostSpec)

/-- 'fastilaw32.RoundsPrices', WHERE WHAT IT READS IS OF BULK AT MOST 1048576: true; the input reads as it did. -/
def roundsPricesUptoRow : OpenClaim := { program := "ytaagpnbnjdpjgaa", sum := "9cdffe7e7c2582ad593380170de7c276c57be703ab6e2cb17993d51567d37067", func := "fasti/fastilaw32.RoundsPrices", spec := "roundsPrices", unfollowed := true, recurses := true, apart := false, narrowed := true }
def RoundsPricesUptoSaid : Prop := roundsPricesUptoRow.holds Try.pinned (OpenSpec.upto roundsPricesSpec)

end Rows
end Go.Proofs.Ytaagpnbnjdpjgaa
