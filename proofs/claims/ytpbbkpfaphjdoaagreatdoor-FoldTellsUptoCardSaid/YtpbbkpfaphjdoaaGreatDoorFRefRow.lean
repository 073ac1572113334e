/- sluiceref1.Row, walked: what is wrong with a row, by the document's way. -/
import Derived.Test.YtpbbkpfaphjdoaaGreatDoorFRowCheck
import Derived.Test.YtpbbkpfaphjdoaaGreatDoorFRefVal
import Derived.Test.YtpbbkpfaphjdoaaGreatDoorFRefBase
import Derived.Test.YtpbbkpfaphjdoaaGreatDoorFAnyInt
import Derived.Deep.QuietTactic
import Derived.BigQuiet
namespace Go.Proofs.YtpbbkpfaphjdoaaGreatDoor
open Go.ChangeShapes Go.WideShapes Go.ChangeAt Go.RowKit
end Go.Proofs.YtpbbkpfaphjdoaaGreatDoor
