/- sluiceref1.Digits, walked: a number's digits. A value as text: plain, and sluiceref1.Show, walked. -/
import Derived.Test.YtpbbkpfaphjdoaaGreatDoorFVals
import Derived.Lib.ItoaMem
import Derived.Lib.Replace
namespace Go.Proofs.YtpbbkpfaphjdoaaGreatDoor
open Go.ChangeShapes Go.WideShapes Go.ChangeAt Go.RowKit
end Go.Proofs.YtpbbkpfaphjdoaaGreatDoor
namespace Go.Proofs.YtpbbkpfaphjdoaaGreatDoor
open Go.ChangeShapes Go.WideShapes Go.ChangeAt Go.RowKit
theorem belowNew' (w : World) (o : Obj) : Below w.heap.size w (w.alloc o) := (Below.refl _ _).alloc (Nat.le_refl _) _
end Go.Proofs.YtpbbkpfaphjdoaaGreatDoor
