/- val.Parse at a text that begins with a quote, walked. Numbers and values as text and back, plain: what is shown is read as it was; what is read is shown as it was; the document's reading is the program's. -/
import Derived.Test.YtkgdfccpkiglaaaDoorSArity
import Derived.Test.YtkgdfccpkiglaaaDoorSOwn3
import Derived.Shelf.Strings.SplitShaped
import Derived.Test.YtkgdfccpkiglaaaDoorSLexLaw
import Derived.Lib.AtoiAllCases
namespace Go.Proofs.YtkgdfccpkiglaaaDoor
open Go.ChangeShapes Go.WideShapes Go.ChangeAt Go.RowKit
end Go.Proofs.YtkgdfccpkiglaaaDoor
namespace Go.Proofs.YtkgdfccpkiglaaaDoor
end Go.Proofs.YtkgdfccpkiglaaaDoor
