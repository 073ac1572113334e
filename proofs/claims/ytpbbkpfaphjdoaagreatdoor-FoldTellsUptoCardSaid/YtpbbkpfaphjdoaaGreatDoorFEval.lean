/- eval.Of and eval.Eval, walked: what an expression comes to, of a row. -/
import Derived.Test.YtpbbkpfaphjdoaaGreatDoorFEvFn
import Derived.Test.YtpbbkpfaphjdoaaGreatDoorFRowCheck
import Derived.RegionTactic
import Derived.BigRegion
namespace Go.Proofs.YtpbbkpfaphjdoaaGreatDoor
open Go.ChangeShapes Go.WideShapes Go.ChangeAt Go.RowKit
theorem valSlice : SliceTy Tryz.prog 124 23 (.agg #[.int .i64 0, .int .i64 0, .string ⟨#[]⟩]) 3 32 := SliceTy.of Tryz.underlying124 (by kernel_rfl) rfl (by decide) (by decide)
theorem typeOf_ok {cols : List Col} {e : Ex} (h : (typeOf cols e).h = 0) : nodesErr e = 0 ∧ (ofE cols e).h = 0 ∧ checkErr e = 0 ∧ schemaErr cols = 0 ∧ typeOf cols e = ofE cols e := by
 unfold typeOf at h ⊢
 by_cases h1 : checkErr e = 0
 ·rw [if_neg (by simp [h1])] at h ⊢
  by_cases h2 : schemaErr cols = 0
  ·rw [if_neg (by simp [h2])] at h ⊢
   exact ⟨checkErr_nodes h1, h, h1, h2, rfl⟩
  ·rw [if_pos h2] at h; exact absurd h h2
 ·rw [if_pos h1] at h; exact absurd h h1
end Go.Proofs.YtpbbkpfaphjdoaaGreatDoor
