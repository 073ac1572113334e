/- A block of the call's own that holds a value: its cells, a store into it, a result in it. -/
import Derived.Test.YtkgdfccpkiglaaaDoorSVals
namespace Go.Proofs.YtkgdfccpkiglaaaDoor
open Go.ChangeShapes Go.WideShapes Go.ChangeAt Go.RowKit
def Own3 (w : World) (b : Nat) (v : Val) : Prop := w.heap[b]? = some (.cells #[.int .i64 v.type, .int .i64 v.n, .string v.s] 46 (0, 0))
theorem Own3.keep {w w' : World} {b : Nat} {v : Val} (h : Own3 w b v) (hb : Below w.heap.size w w') : Own3 w' b v :=
 (hb.block b (Array.getElem?_eq_some_iff.1 h).1).trans h
theorem Own3.drew {w : World} {b : Nat} {v : Val} (h : Own3 w b v) : Own3 w.drew b v := h
theorem Own3.cells {w : World} {b : Nat} {v : Val} (h : Own3 w b v) :
  w.cell? ⟨b, 0, none⟩ = some (.int .i64 v.type) ∧ w.cell? ⟨b, 1, none⟩ = some (.int .i64 v.n) ∧ w.cell? ⟨b, 2, none⟩ = some (.string v.s) ∧
  w.frozen? ⟨b, 0, none⟩ = false ∧ w.frozen? ⟨b, 1, none⟩ = false ∧ w.frozen? ⟨b, 2, none⟩ = false ∧ b < w.heap.size := by
 refine ⟨?_, ?_, ?_, ?_, ?_, ?_, (Array.getElem?_eq_some_iff.1 h).1⟩
 ·rw [cell_of_row _ _ _ _ _ _ h]; rfl
 ·rw [cell_of_row _ _ _ _ _ _ h]; rfl
 ·rw [cell_of_row _ _ _ _ _ _ h]; rfl
 all_goals (unfold World.frozen?; rw [show w.heap[b]? = _ from h]; simp)
theorem own3_new (w : World) (v : Val) : Own3 (w.alloc (.cells #[.int .i64 v.type, .int .i64 v.n, .string v.s] 46)) w.heap.size v := heap_alloc_new w _
end Go.Proofs.YtkgdfccpkiglaaaDoor
