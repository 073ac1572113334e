/- An error of the program: nil, or an Errno. -/
import Derived.Test.YtlkgeflcnbgndaaGreatDoorKit
namespace Go.Proofs.YtlkgeflcnbgndaaGreatDoor
open Go.RowKit

def errV (k : Int) : Value := if k = 0 then .nilIface else .iface 47 (.int .i64 k)
theorem errV_ne {k : Int} (h : k ≠ 0) : errV k = .iface 47 (.int .i64 k) := by unfold errV; rw [if_neg h]
theorem errV_zero : errV 0 = .nilIface := rfl
end Go.Proofs.YtlkgeflcnbgndaaGreatDoor
