/- Errors compared with errors, as a walk meets it. -/
import Derived.Test.YtpbbkpfaphjdoaaGreatDoorErr
import Derived.LaidEql
import Derived.Lib.IfaceEq
namespace Go.Proofs.YtpbbkpfaphjdoaaGreatDoor
open Go.ChangeShapes Go.WideShapes Go.ChangeAt Go.RowKit
theorem errEq (a b : Int) (w : World) : (binOp .eql 38 (.iface 32 (.int .i64 a)) (.iface 32 (.int .i64 b))).run Tryz.prog w = .ok (.bool (a == b)) w :=
  Lib.run_eql_iface_int w a b Tryz.underlying38 (by kernel_rfl) Tryz.underlying32
theorem nilEq (b : Int) (w : World) : (binOp .eql 38 .nilIface (.iface 32 (.int .i64 b))).run Tryz.prog w = .ok (.bool false) w :=
  run_eql_iface_nil_left w _ _ Tryz.underlying38
theorem errVNil (k : Int) (w : World) : (binOp .eql 38 (errV k) .nilIface).run Tryz.prog w = .ok (.bool (k == 0)) w := by
  by_cases h : k = 0
  · subst h; kernel_rfl
  · rw [errV_ne h, run_eql_held_nil w _ _ _ (by kernel_rfl), show (k == 0) = false from beq_eq_false_iff_ne.2 h]
theorem errVEq (a b : Int) (hb : b ≠ 0) (w : World) : (binOp .eql 38 (errV a) (.iface 32 (.int .i64 b))).run Tryz.prog w = .ok (.bool (a == b)) w := by
  by_cases h : a = 0
  · subst h
    rw [errV_zero, nilEq, show ((0 : Int) == b) = false from beq_eq_false_iff_ne.2 (fun e => hb e.symm)]
  · rw [errV_ne h, errEq]
theorem errVGuard (n : Nat) (k : Int) (w : World) : (eqGuard .eql 38 (.tmp n) (.const .nilIface) (errV k) .nilIface).run Tryz.prog w = .ok () w := by
  by_cases h : k = 0
  · subst h; kernel_rfl
  · rw [errV_ne h]; kernel_rfl
end Go.Proofs.YtpbbkpfaphjdoaaGreatDoor
