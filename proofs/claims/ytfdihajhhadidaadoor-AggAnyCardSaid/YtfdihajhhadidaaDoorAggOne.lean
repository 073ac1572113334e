/- agg.One: how one aggregate lies; (One).sort, (*Acc).Count's kind of cell: walked. -/
import Derived.Test.YtfdihajhhadidaaDoorAggTotal
import Derived.Test.YtfdihajhhadidaaDoorVals
namespace Go.Proofs.YtfdihajhhadidaaDoor
open Go.ChangeShapes Go.WideShapes Go.ChangeAt Go.RowKit

structure One where
  what : ByteArray
  type : Int
  sum : Int
  edge : Val
def oneCells (o : One) : List Value := [.string o.what, .int .i64 o.type, .int .i64 (hiOf o.sum), .int .u64 (loOf o.sum), .int .i64 o.edge.type, .int .i64 o.edge.n, .string o.edge.s]
def isCount (s : ByteArray) : Prop := s.data.toList = [99, 111, 117, 110, 116]
instance (s : ByteArray) : Decidable (isCount s) := inferInstanceAs (Decidable (_ = _))
/-- What one is of. -/
def sortOf (o : One) : One := ⟨o.what, if isCount o.what then 0 else o.type, 0, noVal⟩
set_option maxHeartbeats 1000000 in
theorem sort_any (o : One) (w : World) :
    Calls Tryd.prog 45 #[.agg #[.string o.what, .int .i64 o.type, .int .i64 (hiOf o.sum), .int .u64 (loOf o.sum), .int .i64 o.edge.type, .int .i64 o.edge.n, .string o.edge.s]] w
      fun e w' => e = .returned (.agg #[.string o.what, .int .i64 (sortOf o).type, .int .i64 0, .int .u64 0, .int .i64 0, .int .i64 0, .string ⟨#[]⟩]) ∧ Below w.heap.size w w' := by
  obtain ⟨wh, ty, sm, ed⟩ := o
  show Calls Tryd.prog 45 #[.agg #[.string wh, .int .i64 ty, .int .i64 (hiOf sm), .int .u64 (loOf sm), .int .i64 ed.type, .int .i64 ed.n, .string ed.s]] w _
  by_cases h : isCount wh
  · have E := Lib.hid (show (sortOf ⟨wh, ty, sm, ed⟩).type = 0 by unfold sortOf; exact if_pos h)
    have e1 : (wh.toList == [99, 111, 117, 110, 116]) = true := by rw [Lib.toList_data, show wh.data.toList = _ from h]; simp
    clear h
    go_enter Tryd.func45, Tryd.ntmps45
    go_wp2_with fail
    refine bodyPost_ret (v := .agg #[.string wh, .int .i64 0, .int .i64 0, .int .u64 0, .int .i64 0, .int .i64 0, .string ⟨#[]⟩]) (by simp [results, Tryd.results45, go_sem]) rfl ⟨by rw [E.out], ?_⟩
    exact ((Below.refl _ _).alloc (Nat.le_refl _) _).alloc (by simp) _
  · have E := Lib.hid (show (sortOf ⟨wh, ty, sm, ed⟩).type = ty by unfold sortOf; exact if_neg h)
    have e1 : (wh.toList == [99, 111, 117, 110, 116]) = false := by rw [Lib.toList_data]; exact beq_eq_false_iff_ne.2 h
    clear h
    go_enter Tryd.func45, Tryd.ntmps45
    go_wp2_with fail
    refine bodyPost_ret (v := .agg #[.string wh, .int .i64 ty, .int .i64 0, .int .u64 0, .int .i64 0, .int .i64 0, .string ⟨#[]⟩]) (by simp [results, Tryd.results45, go_sem]) rfl ⟨by rw [E.out], ?_⟩
    exact ((Below.refl _ _).alloc (Nat.le_refl _) _).alloc (by simp) _
end Go.Proofs.YtfdihajhhadidaaDoor
