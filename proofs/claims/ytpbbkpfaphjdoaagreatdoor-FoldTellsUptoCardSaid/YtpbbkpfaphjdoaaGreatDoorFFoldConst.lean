/- fold.Const, walked: whether an expression is a value. -/
import Derived.Test.YtpbbkpfaphjdoaaGreatDoorFExOwn
import Derived.Test.YtpbbkpfaphjdoaaGreatDoorFFoldLaw
import Derived.Test.YtpbbkpfaphjdoaaGreatDoorFShow
namespace Go.Proofs.YtpbbkpfaphjdoaaGreatDoor
open Go.ChangeShapes Go.WideShapes Go.ChangeAt Go.RowKit
def ConstSays (e : Ex) (w : World) (r : Ending) (w' : World) : Prop := r = .returned (.tuple #[valV (if isVal e.op then e.val else noVal), .bool (decide (isVal e.op))]) ∧ Below w.heap.size w w'
set_option maxHeartbeats 1000000 in
set_option maxRecDepth 100000 in
theorem const_any (e : Ex) (w : World) : Calls Tryz.prog 26 #[exV e] w (ConstSays e w) := by
 unfold ConstSays
 obtain ⟨w0, hw0, ho, hb, hsz⟩ := box_ex w e
 have HW0 := Lib.hid hw0
 have HB := Lib.hid hb
 obtain ⟨c0, c1, c2, c3, c4, c5, c6⟩ := ho.cells
 have hlt := ho.lt
 clear hw0 ho hb
 by_cases hv : isVal e.op
 ·have e1 := str_is (show e.op.data.toList = [118, 97, 108] from hv)
  rw [if_pos hv, decide_eq_true hv]
  clear hv
  unfold exV
  go_enter Tryz.func26, Tryz.ntmps26
  go_wp2_with (first | rw [HW0.out])
  obtain ⟨o0, o1, o2, -, -, -, -⟩ := (own3_new w0 e.val).cells
  have HB4 := Lib.hid (below_step HB.out (belowNew' w0 (.cells #[.int .i64 e.val.type, .int .i64 e.val.n, .string e.val.s] 23)))
  generalize w0.alloc (.cells #[.int .i64 e.val.type, .int .i64 e.val.n, .string e.val.s] 23) = w4 at o0 o1 o2 HB4 ⊢
  rw [hsz] at o0 o1 o2
  exact bodyPost_ret (v := .tuple #[valV e.val, .bool true]) (by simp [results, Tryz.results26, go_sem, o0, o1, o2, valV]) rfl ⟨rfl, HB4.out⟩
 ·have e1 := str_ne (show e.op.data.toList ≠ [118, 97, 108] from hv)
  rw [if_neg hv, decide_eq_false hv]
  clear hv
  unfold exV
  go_enter Tryz.func26, Tryz.ntmps26
  go_wp2_with (first | rw [HW0.out])
  obtain ⟨o0, o1, o2, -, -, -, -⟩ := (own3_new w0 noVal).cells
  have HB4 := Lib.hid (below_step HB.out (belowNew' w0 (.cells #[.int .i64 0, .int .i64 0, .string ⟨#[]⟩] 23)))
  rw [show w0.alloc (.cells #[.int .i64 noVal.type, .int .i64 noVal.n, .string noVal.s] 23) = w0.alloc (.cells #[.int .i64 0, .int .i64 0, .string ⟨#[]⟩] 23) from rfl] at o0 o1 o2
  generalize w0.alloc (.cells #[.int .i64 0, .int .i64 0, .string ⟨#[]⟩] 23) = w4 at o0 o1 o2 HB4 ⊢
  rw [hsz] at o0 o1 o2
  exact bodyPost_ret (v := .tuple #[valV noVal, .bool false]) (by simp [results, Tryz.results26, go_sem, o0, o1, o2, valV]) rfl ⟨rfl, HB4.out⟩
end Go.Proofs.YtpbbkpfaphjdoaaGreatDoor
