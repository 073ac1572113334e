/- sluiceref1.Row, walked: what is wrong with a row, by the document's way. -/
import Derived.Test.YtlkgeflcnbgndaaGreatDoorRowCheck
import Derived.Test.YtlkgeflcnbgndaaGreatDoorRefVal
import Derived.Test.YtlkgeflcnbgndaaGreatDoorRefBase
import Derived.Test.YtlkgeflcnbgndaaGreatDoorAnyInt
import Derived.Deep.QuietTactic
import Derived.BigQuiet
namespace Go.Proofs.YtlkgeflcnbgndaaGreatDoor
open Go.ChangeShapes Go.WideShapes Go.ChangeAt Go.RowKit

end Go.Proofs.YtlkgeflcnbgndaaGreatDoor
