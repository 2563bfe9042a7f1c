/-
  No cell of these rows narrows 'for every input' (looked for: loops, veiled, ifaces, maps, wideKeys, modest, calm, conditions, laid).
  DERIVED. THE GIVEN ROWS OF THIS SEAT. 7 by the template 'for every input the law returns true; each argument reads behind the call as it read before'; 0 by the template 'total and deterministic' (their statements: YtaadhandkljcdaaTotals.lean).
  GIVEN WITH THE SEED: the statements are not yours to turn. If you find one false, say at which input.
  Laid BY PROGRAM, IN A SANDBOX (cutbox-rows.mjs): the forced cells as the released guide's own fill.sh prints them over the translation 15c0adc55ea11fc1… (all of the seat's roots in one cut). By AI agents, Wed Nov 11 2026. No macro, syntax, notation, axiom, sorry.
-/
import Derived.Test.YtaadhandkljcdaaChecked
import GoSem.Claim
import GoSem.ClaimJoined
import GoSem.ClaimMapViews
import Derived.JoinedTies
import Derived.KernelRfl
namespace Go.Proofs.Ytaadhandkljcdaa
/- THE CELL 'sum', in the pinned program and in every row, IS THE sha256 OF THE DUMP (.gsa) THAT YtaadhandkljcdaaProg.lean LOADS. Nothing in Lean hashes anything: it is a label: what it is worth is what the hold of that sum in a sandbox is worth. -/
noncomputable def Try.pinned : Pinned := { name := "ytaadhandkljcdaa", sum := "15c0adc55ea11fc1f22b8be46ec81829c66695623415e034c78b5170ac8e8fa7", checked := Try.checked }
namespace Rows
def none {H : Type} : Left H := { results := [], args := [] }

/-- 'fastilaw23.CupsSpec': WHATEVER THE INPUT: true; the input reads as it did. -/
def cupsSpecSpec : ChangeSpec := { name := "cupsSpec", fn := fun _ => fun
  | [d] => { results := [.lit (.bool true)], args := [d] }
  | _ => none }
def cupsSpecRow : OpenClaim := { program := "ytaadhandkljcdaa", sum := "15c0adc55ea11fc1f22b8be46ec81829c66695623415e034c78b5170ac8e8fa7", func := "fasti/fastilaw23.CupsSpec", spec := "cupsSpec", unfollowed := true, recurses := true, apart := false }
def CupsSpecSaid : Prop := cupsSpecRow.holds Try.pinned (OpenSpec.ofChange cupsSpecSpec)

/-- ITS FALSE NEIGHBOUR: 'it returns false'. Refute it at one input. -/
def cupsSpecWrong : ChangeSpec := { name := "cupsSpec", fn := fun _ => fun
  | [d] => { results := [.lit (.bool false)], args := [d] }
  | _ => none }
def CupsSpecWrongFalsely : Prop := cupsSpecRow.holds Try.pinned (OpenSpec.ofChange cupsSpecWrong)

/-- 'fastilaw23.CupsPlaySpec': WHATEVER THE INPUT: true; the input reads as it did. -/
def cupsPlaySpecSpec : ChangeSpec := { name := "cupsPlaySpec", fn := fun _ => fun
  | [d1, d2] => { results := [.lit (.bool true)], args := [d1, d2] }
  | _ => none }
def cupsPlaySpecRow : OpenClaim := { program := "ytaadhandkljcdaa", sum := "15c0adc55ea11fc1f22b8be46ec81829c66695623415e034c78b5170ac8e8fa7", func := "fasti/fastilaw23.CupsPlaySpec", spec := "cupsPlaySpec", unfollowed := true, recurses := true, apart := false }
def CupsPlaySpecSaid : Prop := cupsPlaySpecRow.holds Try.pinned (OpenSpec.ofChange cupsPlaySpecSpec)

/-- ITS FALSE NEIGHBOUR: 'it returns false'. Refute it at one input. -/
def cupsPlaySpecWrong : ChangeSpec := { name := "cupsPlaySpec", fn := fun _ => fun
  | [d1, d2] => { results := [.lit (.bool false)], args := [d1, d2] }
  | _ => none }
def CupsPlaySpecWrongFalsely : Prop := cupsPlaySpecRow.holds Try.pinned (OpenSpec.ofChange cupsPlaySpecWrong)

/-- 'fastilaw23.CupsOneWinner': WHATEVER THE INPUT: true; the input reads as it did. -/
def cupsOneWinnerSpec : ChangeSpec := { name := "cupsOneWinner", fn := fun _ => fun
  | [d1, d2] => { results := [.lit (.bool true)], args := [d1, d2] }
  | _ => none }
def cupsOneWinnerRow : OpenClaim := { program := "ytaadhandkljcdaa", sum := "15c0adc55ea11fc1f22b8be46ec81829c66695623415e034c78b5170ac8e8fa7", func := "fasti/fastilaw23.CupsOneWinner", spec := "cupsOneWinner", unfollowed := true, recurses := true, apart := false }
def CupsOneWinnerSaid : Prop := cupsOneWinnerRow.holds Try.pinned (OpenSpec.ofChange cupsOneWinnerSpec)

/-- ITS FALSE NEIGHBOUR: 'it returns false'. Refute it at one input. -/
def cupsOneWinnerWrong : ChangeSpec := { name := "cupsOneWinner", fn := fun _ => fun
  | [d1, d2] => { results := [.lit (.bool false)], args := [d1, d2] }
  | _ => none }
def CupsOneWinnerWrongFalsely : Prop := cupsOneWinnerRow.holds Try.pinned (OpenSpec.ofChange cupsOneWinnerWrong)

/-- 'fastilaw23.CupsForm': WHATEVER THE INPUT: true; the input reads as it did. -/
def cupsFormSpec : ChangeSpec := { name := "cupsForm", fn := fun _ => fun
  | [d] => { results := [.lit (.bool true)], args := [d] }
  | _ => none }
def cupsFormRow : OpenClaim := { program := "ytaadhandkljcdaa", sum := "15c0adc55ea11fc1f22b8be46ec81829c66695623415e034c78b5170ac8e8fa7", func := "fasti/fastilaw23.CupsForm", spec := "cupsForm", unfollowed := true, recurses := true, apart := false }
def CupsFormSaid : Prop := cupsFormRow.holds Try.pinned (OpenSpec.ofChange cupsFormSpec)

/-- ITS FALSE NEIGHBOUR: 'it returns false'. Refute it at one input. -/
def cupsFormWrong : ChangeSpec := { name := "cupsForm", fn := fun _ => fun
  | [d] => { results := [.lit (.bool false)], args := [d] }
  | _ => none }
def CupsFormWrongFalsely : Prop := cupsFormRow.holds Try.pinned (OpenSpec.ofChange cupsFormWrong)

/-- 'fastilaw23.CupsStrength': WHATEVER THE INPUT: true; the input reads as it did. -/
def cupsStrengthSpec : ChangeSpec := { name := "cupsStrength", fn := fun _ => fun
  | [d] => { results := [.lit (.bool true)], args := [d] }
  | _ => none }
def cupsStrengthRow : OpenClaim := { program := "ytaadhandkljcdaa", sum := "15c0adc55ea11fc1f22b8be46ec81829c66695623415e034c78b5170ac8e8fa7", func := "fasti/fastilaw23.CupsStrength", spec := "cupsStrength", unfollowed := true, recurses := true, apart := false }
def CupsStrengthSaid : Prop := cupsStrengthRow.holds Try.pinned (OpenSpec.ofChange cupsStrengthSpec)

/-- ITS FALSE NEIGHBOUR: 'it returns false'. Refute it at one input. -/
def cupsStrengthWrong : ChangeSpec := { name := "cupsStrength", fn := fun _ => fun
  | [d] => { results := [.lit (.bool false)], args := [d] }
  | _ => none }
def CupsStrengthWrongFalsely : Prop := cupsStrengthRow.holds Try.pinned (OpenSpec.ofChange cupsStrengthWrong)

/-- 'fastilaw23.CupsBegin': WHATEVER THE INPUT: true; the input reads as it did. -/
def cupsBeginSpec : ChangeSpec := { name := "cupsBegin", fn := fun _ => fun
  | [d1, d2, d3] => { results := [.lit (.bool true)], args := [d1, d2, d3] }
  | _ => none }
def cupsBeginRow : OpenClaim := { program := "ytaadhandkljcdaa", sum := "15c0adc55ea11fc1f22b8be46ec81829c66695623415e034c78b5170ac8e8fa7", func := "fasti/fastilaw23.CupsBegin", spec := "cupsBegin", unfollowed := true, recurses := true, apart := false }
def CupsBeginSaid : Prop := cupsBeginRow.holds Try.pinned (OpenSpec.ofChange cupsBeginSpec)

/-- ITS FALSE NEIGHBOUR: 'it returns false'. Refute it at one input. -/
def cupsBeginWrong : ChangeSpec := { name := "cupsBegin", fn := fun _ => fun
  | [d1, d2, d3] => { results := [.lit (.bool false)], args := [d1, d2, d3] }
  | _ => none }
def CupsBeginWrongFalsely : Prop := cupsBeginRow.holds Try.pinned (OpenSpec.ofChange cupsBeginWrong)

/-- 'fastilaw23.CupsSwapped': WHATEVER THE INPUT: true; the input reads as it did. -/
def cupsSwappedSpec : ChangeSpec := { name := "cupsSwapped", fn := fun _ => fun
  | [d1, d2, d3] => { results := [.lit (.bool true)], args := [d1, d2, d3] }
  | _ => none }
def cupsSwappedRow : OpenClaim := { program := "ytaadhandkljcdaa", sum := "15c0adc55ea11fc1f22b8be46ec81829c66695623415e034c78b5170ac8e8fa7", func := "fasti/fastilaw23.CupsSwapped", spec := "cupsSwapped", unfollowed := true, recurses := true, apart := false }
def CupsSwappedSaid : Prop := cupsSwappedRow.holds Try.pinned (OpenSpec.ofChange cupsSwappedSpec)

/-- ITS FALSE NEIGHBOUR: 'it returns false'. Refute it at one input. -/
def cupsSwappedWrong : ChangeSpec := { name := "cupsSwapped", fn := fun _ => fun
  | [d1, d2, d3] => { results := [.lit (.bool false)], args := [d1, d2, d3] }
  | _ => none }
def CupsSwappedWrongFalsely : Prop := cupsSwappedRow.holds Try.pinned (OpenSpec.ofChange cupsSwappedWrong)

/- THE SECOND FORM. 'bulk': how many values and letters a reading holds, each counted each time it is reached (what is shared counts as often as it is met; a slice's spare places count too). A statement '..UptoSaid' is the law's where the arguments, and the package variables that the reading takes, are together of bulk at most 1048576: NARROWER than '..Said'. Prove '..Said' where nothing that the law and all that it calls make is longer than what came in: it says more and counts as full. Else prove '..UptoSaid'. A law counts once. -/
mutual
def uptoBulk {H : Type} : DataW H → Nat
  | .lit (.string bytes) => bytes.length + 1
  | .lit _ => 1
  | .nil => 1
  | .ptr d => uptoBulk d + 1
  | .slice elems spare => uptoBulkAll elems + uptoBulkAll spare + 1
  | .agg parts => uptoBulkAll parts + 1
  | .iface _ d => uptoBulk d + 1
  | .map entries => uptoBulkEntries entries + 1
  | .held _ => 1
def uptoBulkAll {H : Type} : List (DataW H) → Nat
  | [] => 0
  | d :: r => uptoBulk d + uptoBulkAll r
def uptoBulkEntries {H : Type} : List (Lit × DataW H) → Nat
  | [] => 0
  | x :: r => uptoBulkEntry x + uptoBulkEntries r
def uptoBulkEntry {H : Type} : Lit × DataW H → Nat
  | (.string bytes, d) => bytes.length + uptoBulk d + 1
  | (_, d) => uptoBulk d + 1
 end
def uptoSmall : (H : Type) → List (DataW H) → Bool := fun _ ds => decide (uptoBulkAll ds ≤ 1048576)
def OpenSpec.upto (s : _root_.Go.ChangeSpec) : _root_.Go.OpenSpec := { _root_.Go.OpenSpec.ofChange s with cond := some uptoSmall }

/-- 'fastilaw23.CupsSpec', WHERE WHAT IT READS IS OF BULK AT MOST 1048576: true; the input reads as it did. -/
def cupsSpecUptoRow : OpenClaim := { program := "ytaadhandkljcdaa", sum := "15c0adc55ea11fc1f22b8be46ec81829c66695623415e034c78b5170ac8e8fa7", func := "fasti/fastilaw23.CupsSpec", spec := "cupsSpec", unfollowed := true, recurses := true, apart := false, narrowed := true }
def CupsSpecUptoSaid : Prop := cupsSpecUptoRow.holds Try.pinned (OpenSpec.upto cupsSpecSpec)

/-- 'fastilaw23.CupsPlaySpec', WHERE WHAT IT READS IS OF BULK AT MOST 1048576: true; the input reads as it did. -/
def cupsPlaySpecUptoRow : OpenClaim := { program := "ytaadhandkljcdaa", sum := "15c0adc55ea11fc1f22b8be46ec81829c66695623415e034c78b5170ac8e8fa7", func := "fasti/fastilaw23.CupsPlaySpec", spec := "cupsPlaySpec", unfollowed := true, recurses := true, apart := false, narrowed := true }
def CupsPlaySpecUptoSaid : Prop := cupsPlaySpecUptoRow.holds Try.pinned (OpenSpec.upto cupsPlaySpecSpec)

/-- 'fastilaw23.CupsOneWinner', WHERE WHAT IT READS IS OF BULK AT MOST 1048576: true; the input reads as it did. -/
def cupsOneWinnerUptoRow : OpenClaim := { program := "ytaadhandkljcdaa", sum := "15c0adc55ea11fc1f22b8be46ec81829c66695623415e034c78b5170ac8e8fa7", func := "fasti/fastilaw23.CupsOneWinner", spec := "cupsOneWinner", unfollowed := true, recurses := true, apart := false, narrowed := true }
def CupsOneWinnerUptoSaid : Prop := cupsOneWinnerUptoRow.holds Try.pinned (OpenSpec.upto cupsOneWinnerSpec)

/-- 'fastilaw23.CupsForm', WHERE WHAT IT READS IS OF BULK AT MOST 1048576: true; the input reads as it did. -/
def cupsFormUptoRow : OpenClaim := { program := "ytaadhandkljcdaa", sum := "15c0adc55ea11fc1f22b8be46ec81829c66695623415e034c78b5170ac8e8fa7", func := "fasti/fastilaw23.CupsForm", spec := "cupsForm", unfollowed := true, recurses := true, apart := false, narrowed := true }
def CupsFormUptoSaid : Prop := cupsFormUptoRow.holds Try.pinned (OpenSpec.upto cupsFormSpec)

/-- 'fastilaw23.CupsStrength', WHERE WHAT IT READS IS OF BULK AT MOST 1048576: true; the input reads as it did. -/
def cupsStrengthUptoRow : OpenClaim := { program := "ytaadhandkljcdaa", sum := "15c0adc55ea11fc1f22b8be46ec81829c66695623415e034c78b5170ac8e8fa7", func := "fasti/fastilaw23.CupsStrength", spec := "cupsStrength", unfollowed := true, recurses := true, apart := false, narrowed := true }
def CupsStrengthUptoSaid : Prop := cupsStrengthUptoRow.holds Try.pinned (OpenSpec.upto cupsStrengthSpec)

/-- 'fastilaw23.CupsBegin', WHERE WHAT IT READS IS OF BULK AT MOST 1048576: true; the input reads as it did. -/
def cupsBeginUptoRow : OpenClaim := { program := "ytaadhandkljcdaa", sum := "15c0adc55ea11fc1f22b8be46ec81829c66695623415e034c78b5170ac8e8fa7", func := "fasti/fastilaw23.CupsBegin", spec := "cupsBegin", unfollowed := true, recurses := true, apart := false, narrowed := true }
def CupsBeginUptoSaid : Prop := cupsBeginUptoRow.holds Try.pinned (OpenSpec.upto cupsBeginSpec)

/-- 'fastilaw23.CupsSwapped', WHERE WHAT IT READS IS OF BULK AT MOST 1048576: true; the input reads as it did. -/
def cupsSwappedUptoRow : OpenClaim := { program := "ytaadhandkljcdaa", sum := "15c0adc55ea11fc1f22b8be46ec81829c66695623415e034c78b5170ac8e8fa7", func := "fasti/fastilaw23.CupsSwapped", spec := "cupsSwapped", unfollowed := true, recurses := true, apart := false, narrowed := true }
def CupsSwappedUptoSaid : Prop := cupsSwappedUptoRow.holds Try.pinned (OpenSpec.upto cupsSwappedSpec)

end Rows
end Go.Proofs.Ytaadhandkljcdaa
