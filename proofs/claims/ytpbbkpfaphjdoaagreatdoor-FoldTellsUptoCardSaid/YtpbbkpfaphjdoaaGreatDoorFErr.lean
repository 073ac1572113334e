/- An error of the program: nil, or an Errno. -/
import Derived.Test.YtpbbkpfaphjdoaaGreatDoorFKit
namespace Go.Proofs.YtpbbkpfaphjdoaaGreatDoor
open Go.RowKit
def errV (k : Int) : Value := if k = 0 then .nilIface else .iface 32 (.int .i64 k)
theorem errV_ne {k : Int} (h : k ≠ 0) : errV k = .iface 32 (.int .i64 k) := by unfold errV; rw [if_neg h]
theorem errV_zero : errV 0 = .nilIface := rfl
end Go.Proofs.YtpbbkpfaphjdoaaGreatDoor
