/- The closed facts of QueryBack's row, by the kernel, in a text of their own: behind the walk the kernel's memory does not bear them. -/
import Derived.Test.YtpbbkpfaphjdoaaGreatDoorCards
import Derived.Test.YtpbbkpfaphjdoaaGreatDoorTie
import Derived.Stop.Joined
import Derived.SevenTiedAt
namespace Go.Proofs.YtpbbkpfaphjdoaaGreatDoor.queryBack
open Go Go.Proofs.YtpbbkpfaphjdoaaGreatDoor
set_option maxRecDepth 100000 in
theorem closedF : joinedFacts Tryz.pinned.checked.prog 3 Tryz.f3 (Rows.OpenSpec.upto Rows.queryBackSpec).bare Rows.queryBackUptoRow = true := by kernel_rfl
end Go.Proofs.YtpbbkpfaphjdoaaGreatDoor.queryBack
