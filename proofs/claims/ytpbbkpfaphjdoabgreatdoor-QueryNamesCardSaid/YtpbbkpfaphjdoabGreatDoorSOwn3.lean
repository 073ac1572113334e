/- A block of the call's own that holds a value: its cells, a store into it, a result in it. -/
import Derived.Test.YtpbbkpfaphjdoabGreatDoorSVals
namespace Go.Proofs.YtpbbkpfaphjdoabGreatDoor
open Go.ChangeShapes Go.WideShapes Go.ChangeAt Go.RowKit
def Own3 (w : World) (b : Nat) (v : Val) : Prop := w.heap[b]? = some (.cells #[.int .i64 v.type, .int .i64 v.n, .string v.s] 52 (0, 0))
theorem Own3.keep {w w' : World} {b : Nat} {v : Val} (h : Own3 w b v) (hb : Below w.heap.size w w') : Own3 w' b v :=
 (hb.block b (Array.getElem?_eq_some_iff.1 h).1).trans h
theorem Own3.drew {w : World} {b : Nat} {v : Val} (h : Own3 w b v) : Own3 w.drew b v := h
theorem Own3.cells {w : World} {b : Nat} {v : Val} (h : Own3 w b v) :
  w.cell? ⟨b, 0, none⟩ = some (.int .i64 v.type) ∧ w.cell? ⟨b, 1, none⟩ = some (.int .i64 v.n) ∧ w.cell? ⟨b, 2, none⟩ = some (.string v.s) ∧
  w.frozen? ⟨b, 0, none⟩ = false ∧ w.frozen? ⟨b, 1, none⟩ = false ∧ w.frozen? ⟨b, 2, none⟩ = false ∧ b < w.heap.size := by
 refine ⟨?_, ?_, ?_, ?_, ?_, ?_, (Array.getElem?_eq_some_iff.1 h).1⟩
 ·rw [cell_of_row _ _ _ _ _ _ h]; rfl
 ·rw [cell_of_row _ _ _ _ _ _ h]; rfl
 ·rw [cell_of_row _ _ _ _ _ _ h]; rfl
 all_goals (unfold World.frozen?; rw [show w.heap[b]? = _ from h]; simp)
theorem own3_new (w : World) (v : Val) : Own3 (w.alloc (.cells #[.int .i64 v.type, .int .i64 v.n, .string v.s] 52)) w.heap.size v := heap_alloc_new w _
theorem own3_set {w : World} {b : Nat} {v0 : Val} (h : Own3 w b v0) (t n : Int) (s : ByteArray) :
  Own3 (((w.setCell ⟨b, 0, none⟩ (.int .i64 t)).setCell ⟨b, 1, none⟩ (.int .i64 n)).setCell ⟨b, 2, none⟩ (.string s)) b ⟨t, n, s⟩ :=
 heap_setCell_same _ _ _ _ _ _ (heap_setCell_same _ _ _ _ _ _ (heap_setCell_same _ _ _ _ _ _ h))
theorem below_set3 {B : Nat} {w0 w : World} {b : Nat} (h : Below B w0 w) (hb : B ≤ b) (t n : Int) (s : ByteArray) :
  Below B w0 (((w.setCell ⟨b, 0, none⟩ (.int .i64 t)).setCell ⟨b, 1, none⟩ (.int .i64 n)).setCell ⟨b, 2, none⟩ (.string s)) :=
 ((h.setCell (p := ⟨b, 0, none⟩) hb _).setCell (p := ⟨b, 1, none⟩) hb _).setCell (p := ⟨b, 2, none⟩) hb _
end Go.Proofs.YtpbbkpfaphjdoabGreatDoor
