/- WINDOWS, in plain Lean: the j-th begins at j * slide; those between two times. No program. THE PACKAGE window, walked: Check, Time, from, Starts, Done. -/
import Derived.Test.YtkgdfccpkiglaaaDoorRows
import Derived.Test.YtkgdfccpkiglaaaDoorSWords
namespace Go.Proofs.YtkgdfccpkiglaaaDoor
namespace Win
end Win
end Go.Proofs.YtkgdfccpkiglaaaDoor
namespace Go.Proofs.YtkgdfccpkiglaaaDoor
open Go.ChangeShapes Go.WideShapes Go.ChangeAt Go.RowKit
open Win
def ints (l : List Int) : List Value := l.map (Value.int .i64)
theorem intSlice : SliceTy Tryd.prog 23 3 (.int .i64 0) 1 8 := SliceTy.of Tryd.underlying23 (by kernel_rfl) rfl (by decide) (by decide)
end Go.Proofs.YtkgdfccpkiglaaaDoor
