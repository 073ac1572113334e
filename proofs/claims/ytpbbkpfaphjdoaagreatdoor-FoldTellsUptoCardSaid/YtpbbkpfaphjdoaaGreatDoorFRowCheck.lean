/- row.Check, walked: what is wrong with a row. -/
import Derived.Test.YtpbbkpfaphjdoaaGreatDoorFSchema
import Derived.Test.YtpbbkpfaphjdoaaGreatDoorFVals
namespace Go.Proofs.YtpbbkpfaphjdoaaGreatDoor
open Go.ChangeShapes Go.WideShapes Go.ChangeAt Go.RowKit
end Go.Proofs.YtpbbkpfaphjdoaaGreatDoor
