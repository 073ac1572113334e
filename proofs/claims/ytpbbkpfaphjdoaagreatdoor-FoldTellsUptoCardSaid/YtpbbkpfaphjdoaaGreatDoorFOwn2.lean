/- A block of the call's own that holds a fault. -/
import Derived.Test.YtpbbkpfaphjdoaaGreatDoorFWords
namespace Go.Proofs.YtpbbkpfaphjdoaaGreatDoor
open Go.ChangeShapes Go.WideShapes Go.ChangeAt Go.RowKit
def Own2 (w : World) (b : Nat) (h p : Int) : Prop := w.heap[b]? = some (.cells #[.int .i64 h, .int .i64 p] 34 (0, 0))
theorem Own2.keep {w w' : World} {b : Nat} {h p : Int} (ho : Own2 w b h p) (hb : Below w.heap.size w w') : Own2 w' b h p := (hb.block b (Array.getElem?_eq_some_iff.1 ho).1).trans ho
theorem Own2.cells {w : World} {b : Nat} {h p : Int} (ho : Own2 w b h p) :
  w.cell? ⟨b, 0, none⟩ = some (.int .i64 h) ∧ w.cell? ⟨b, 1, none⟩ = some (.int .i64 p) ∧ w.frozen? ⟨b, 0, none⟩ = false ∧ w.frozen? ⟨b, 1, none⟩ = false ∧ b < w.heap.size := by
 refine ⟨?_, ?_, ?_, ?_, (Array.getElem?_eq_some_iff.1 ho).1⟩
 ·rw [cell_of_row _ _ _ _ _ _ ho]; rfl
 ·rw [cell_of_row _ _ _ _ _ _ ho]; rfl
 all_goals (unfold World.frozen?; rw [show w.heap[b]? = _ from ho]; simp)
theorem own2_new (w : World) (h p : Int) : Own2 (w.alloc (.cells #[.int .i64 h, .int .i64 p] 34)) w.heap.size h p := heap_alloc_new w _
theorem own2_set {w : World} {b : Nat} {h0 p0 : Int} (ho : Own2 w b h0 p0) (h p : Int) :
  Own2 ((w.setCell ⟨b, 0, none⟩ (.int .i64 h)).setCell ⟨b, 1, none⟩ (.int .i64 p)) b h p :=
 heap_setCell_same _ _ _ _ _ _ (heap_setCell_same _ _ _ _ _ _ ho)
theorem below_set2 {B : Nat} {w0 w : World} {b : Nat} (h : Below B w0 w) (hb : B ≤ b) (x y : Value) :
  Below B w0 ((w.setCell ⟨b, 0, none⟩ x).setCell ⟨b, 1, none⟩ y) := (h.setCell (p := ⟨b, 0, none⟩) hb _).setCell (p := ⟨b, 1, none⟩) hb _
end Go.Proofs.YtpbbkpfaphjdoaaGreatDoor
