/- Errors compared with errors, as a walk meets it. -/
import Derived.Test.YtpbbkpfaphjdoaaDoorErr
import Derived.LaidEql
import Derived.Lib.IfaceEq
namespace Go.Proofs.YtpbbkpfaphjdoaaDoor
open Go.ChangeShapes Go.WideShapes Go.ChangeAt Go.RowKit
theorem errEq (a b : Int) (w : World) : (binOp .eql 30 (.iface 45 (.int .i64 a)) (.iface 45 (.int .i64 b))).run Tryd.prog w = .ok (.bool (a == b)) w :=
  Lib.run_eql_iface_int w a b Tryd.underlying30 (by kernel_rfl) Tryd.underlying45
theorem nilEq (b : Int) (w : World) : (binOp .eql 30 .nilIface (.iface 45 (.int .i64 b))).run Tryd.prog w = .ok (.bool false) w :=
  run_eql_iface_nil_left w _ _ Tryd.underlying30
theorem errVNil (k : Int) (w : World) : (binOp .eql 30 (errV k) .nilIface).run Tryd.prog w = .ok (.bool (k == 0)) w := by
  by_cases h : k = 0
  · subst h; kernel_rfl
  · rw [errV_ne h, run_eql_held_nil w _ _ _ (by kernel_rfl), show (k == 0) = false from beq_eq_false_iff_ne.2 h]
theorem errVEq (a b : Int) (hb : b ≠ 0) (w : World) : (binOp .eql 30 (errV a) (.iface 45 (.int .i64 b))).run Tryd.prog w = .ok (.bool (a == b)) w := by
  by_cases h : a = 0
  · subst h
    rw [errV_zero, nilEq, show ((0 : Int) == b) = false from beq_eq_false_iff_ne.2 (fun e => hb e.symm)]
  · rw [errV_ne h, errEq]
theorem errVGuard (n : Nat) (k : Int) (w : World) : (eqGuard .eql 30 (.tmp n) (.const .nilIface) (errV k) .nilIface).run Tryd.prog w = .ok () w := by
  by_cases h : k = 0
  · subst h; kernel_rfl
  · rw [errV_ne h]; kernel_rfl
end Go.Proofs.YtpbbkpfaphjdoaaDoor
