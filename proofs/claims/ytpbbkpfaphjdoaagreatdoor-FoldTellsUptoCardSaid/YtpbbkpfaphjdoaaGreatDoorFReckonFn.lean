/- What numbers come to, in plain Lean: chapter 1's Reckon. No program. -/
import Derived.Test.YtpbbkpfaphjdoaaGreatDoorFKit
import Derived.IntWalk
namespace Go.Proofs.YtpbbkpfaphjdoaaGreatDoor
open Go.RowKit
def lo63 : Int := -9223372036854775808
def hi63 : Int := 9223372036854775807
def fits (n : Int) : Prop := lo63 ≤ n ∧ n ≤ hi63
instance (n : Int) : Decidable (fits n) := by unfold fits; infer_instance
theorem fits_of {n : Int} (h : (Lit.int .i64 n).wf = true) : fits n := by
 have : -9223372036854775808 ≤ n ∧ n ≤ 9223372036854775807 := by simpa [Lit.wf, IntKind.min, IntKind.max, IntKind.signed, IntKind.bits] using h
 exact this
def exact_ (op : List UInt8) (a b : Int) : Option Int :=
 if op = [43] then some (a + b) else if op = [45] then some (a - b) else if op = [42] then some (a * b)
 else if op = [47] then (if b = 0 then none else some (a.tdiv b)) else if op = [37] then (if b = 0 then none else some (a.tmod b)) else none
def isOp (op : List UInt8) : Bool := op = [43] || op = [45] || op = [42] || op = [47] || op = [37]
def reckonErr (op : List UInt8) (a b : Int) : Int :=
 if isOp op then (match exact_ op a b with | none => 9 | some n => if fits n then 0 else 9) else 1
def reckonVal (op : List UInt8) (a b : Int) : Int :=
 match exact_ op a b with | none => 0 | some n => if fits n then n else 0
theorem wrap_over {n : Int} (h1 : hi63 < n) (h2 : n ≤ hi63 + hi63 + 1) : wrap64 n = n - 18446744073709551616 := by
 unfold hi63 at h1 h2; unfold wrap64; omega
theorem wrap_under {n : Int} (h1 : n < lo63) (h2 : lo63 + lo63 ≤ n) : wrap64 n = n + 18446744073709551616 := by
 unfold lo63 at h1 h2; unfold wrap64; omega
theorem add_test_over {a b : Int} (ha : fits a) (hb : fits b) (h : ¬ fits (a + b)) : (decide (a < wrap64 (a + b)) == decide (0 < b)) = false := by
 unfold fits lo63 hi63 at *
 by_cases hp : 0 < b
 ·have := wrap_over (n := a + b) (by unfold hi63; omega) (by unfold hi63; omega)
  rw [this]
  simp [hp]; omega
 ·have := wrap_under (n := a + b) (by unfold lo63; omega) (by unfold lo63; omega)
  rw [this]
  simp [hp]; omega
theorem add_test_ok {a b : Int} : (decide (a < a + b) == decide (0 < b)) = true := by
 by_cases hp : 0 < b
 ·simp [hp]; omega
 ·simp [hp]; omega
theorem sub_test_over {a b : Int} (ha : fits a) (hb : fits b) (h : ¬ fits (a - b)) : (decide (wrap64 (a - b) < a) == decide (0 < b)) = false := by
 unfold fits lo63 hi63 at *
 by_cases hp : 0 < b
 ·have := wrap_under (n := a - b) (by unfold lo63; omega) (by unfold lo63; omega)
  rw [this]
  simp [hp]; omega
 ·have := wrap_over (n := a - b) (by unfold hi63; omega) (by unfold hi63; omega)
  rw [this]
  simp [hp]; omega
theorem sub_test_ok {a b : Int} : (decide (a - b < a) == decide (0 < b)) = true := by
 by_cases hp : 0 < b
 ·simp [hp]; omega
 ·simp [hp]; omega
end Go.Proofs.YtpbbkpfaphjdoaaGreatDoor
