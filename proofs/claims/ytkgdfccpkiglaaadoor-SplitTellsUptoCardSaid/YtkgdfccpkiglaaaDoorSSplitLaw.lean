/- Of the lists of parts: their numbers, in order; together as many as there are; rows that are the same there have one part. No program in sight. -/
import Derived.Test.YtkgdfccpkiglaaaDoorSSplitParts
namespace Go.Proofs.YtkgdfccpkiglaaaDoor
open Go.ChangeShapes Go.WideShapes Go.ChangeAt Go.RowKit
end Go.Proofs.YtkgdfccpkiglaaaDoor
