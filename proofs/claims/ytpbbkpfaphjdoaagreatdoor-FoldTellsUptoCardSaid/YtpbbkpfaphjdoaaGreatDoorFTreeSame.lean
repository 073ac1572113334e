/- tree.Same, walked, over two expressions that are the same but for where they lie. -/
import Derived.Test.YtpbbkpfaphjdoaaGreatDoorFSameEx
namespace Go.Proofs.YtpbbkpfaphjdoaaGreatDoor
open Go.ChangeShapes Go.WideShapes Go.ChangeAt Go.RowKit
end Go.Proofs.YtpbbkpfaphjdoaaGreatDoor
