/- What numbers come to, in plain Lean: chapter 1's Reckon. No program. -/
import Derived.Test.YtkgdfccpkiglaaaDoorSKit
import Derived.IntWalk
namespace Go.Proofs.YtkgdfccpkiglaaaDoor
open Go.RowKit
def lo63 : Int := -9223372036854775808
def hi63 : Int := 9223372036854775807
def fits (n : Int) : Prop := lo63 ≤ n ∧ n ≤ hi63
instance (n : Int) : Decidable (fits n) := by unfold fits; infer_instance
theorem fits_of {n : Int} (h : (Lit.int .i64 n).wf = true) : fits n := by
 have : -9223372036854775808 ≤ n ∧ n ≤ 9223372036854775807 := by simpa [Lit.wf, IntKind.min, IntKind.max, IntKind.signed, IntKind.bits] using h
 exact this
end Go.Proofs.YtkgdfccpkiglaaaDoor
