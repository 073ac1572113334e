/- A block of the call's own that holds a value: its cells, a store into it, a result in it. -/
import Derived.Test.YtpbbkpfaphjdoaaGreatDoorFVals
namespace Go.Proofs.YtpbbkpfaphjdoaaGreatDoor
open Go.ChangeShapes Go.WideShapes Go.ChangeAt Go.RowKit
def Own3 (w : World) (b : Nat) (v : Val) : Prop := w.heap[b]? = some (.cells #[.int .i64 v.type, .int .i64 v.n, .string v.s] 23 (0, 0))
theorem Own3.keep {w w' : World} {b : Nat} {v : Val} (h : Own3 w b v) (hb : Below w.heap.size w w') : Own3 w' b v :=
 (hb.block b (Array.getElem?_eq_some_iff.1 h).1).trans h
theorem Own3.drew {w : World} {b : Nat} {v : Val} (h : Own3 w b v) : Own3 w.drew b v := h
theorem Own3.cells {w : World} {b : Nat} {v : Val} (h : Own3 w b v) :
  w.cell? ⟨b, 0, none⟩ = some (.int .i64 v.type) ∧ w.cell? ⟨b, 1, none⟩ = some (.int .i64 v.n) ∧ w.cell? ⟨b, 2, none⟩ = some (.string v.s) ∧
  w.frozen? ⟨b, 0, none⟩ = false ∧ w.frozen? ⟨b, 1, none⟩ = false ∧ w.frozen? ⟨b, 2, none⟩ = false ∧ b < w.heap.size := by
 refine ⟨?_, ?_, ?_, ?_, ?_, ?_, (Array.getElem?_eq_some_iff.1 h).1⟩
 ·rw [cell_of_row _ _ _ _ _ _ h]; rfl
 ·rw [cell_of_row _ _ _ _ _ _ h]; rfl
 ·rw [cell_of_row _ _ _ _ _ _ h]; rfl
 all_goals (unfold World.frozen?; rw [show w.heap[b]? = _ from h]; simp)
theorem own3_new (w : World) (v : Val) : Own3 (w.alloc (.cells #[.int .i64 v.type, .int .i64 v.n, .string v.s] 23)) w.heap.size v := heap_alloc_new w _
theorem own3_set {w : World} {b : Nat} {v0 : Val} (h : Own3 w b v0) (t n : Int) (s : ByteArray) :
  Own3 (((w.setCell ⟨b, 0, none⟩ (.int .i64 t)).setCell ⟨b, 1, none⟩ (.int .i64 n)).setCell ⟨b, 2, none⟩ (.string s)) b ⟨t, n, s⟩ :=
 heap_setCell_same _ _ _ _ _ _ (heap_setCell_same _ _ _ _ _ _ (heap_setCell_same _ _ _ _ _ _ h))
theorem below_set3 {B : Nat} {w0 w : World} {b : Nat} (h : Below B w0 w) (hb : B ≤ b) (t n : Int) (s : ByteArray) :
  Below B w0 (((w.setCell ⟨b, 0, none⟩ (.int .i64 t)).setCell ⟨b, 1, none⟩ (.int .i64 n)).setCell ⟨b, 2, none⟩ (.string s)) :=
 ((h.setCell (p := ⟨b, 0, none⟩) hb _).setCell (p := ⟨b, 1, none⟩) hb _).setCell (p := ⟨b, 2, none⟩) hb _
theorem cell_set3 {w : World} {g b : Nat} (h : g ≠ b) (x y z : Value) (o : Nat) :
  (((w.setCell ⟨b, 0, none⟩ x).setCell ⟨b, 1, none⟩ y).setCell ⟨b, 2, none⟩ z).cell? ⟨g, o, none⟩ = w.cell? ⟨g, o, none⟩ := by
 have e : (((w.setCell ⟨b, 0, none⟩ x).setCell ⟨b, 1, none⟩ y).setCell ⟨b, 2, none⟩ z).heap[g]? = w.heap[g]? := by
  rw [heap_setCell_other _ _ _ _ h, heap_setCell_other _ _ _ _ h, heap_setCell_other _ _ _ _ h]
 unfold World.cell?
 rw [show (((w.setCell ⟨b, 0, none⟩ x).setCell ⟨b, 1, none⟩ y).setCell ⟨b, 2, none⟩ z).heap[(⟨g, o, none⟩ : Addr).block]? = w.heap[(⟨g, o, none⟩ : Addr).block]? from e]
theorem cell_drew (w : World) (a : Addr) : w.drew.cell? a = w.cell? a := rfl
theorem own3_other {w : World} {b q : Nat} {v : Val} (h : Own3 w b v) (hne : b ≠ q) (x y z : Value) : Own3 (((w.setCell ⟨q, 0, none⟩ x).setCell ⟨q, 1, none⟩ y).setCell ⟨q, 2, none⟩ z) b v := by
 unfold Own3
 rw [heap_setCell_other _ _ _ _ hne, heap_setCell_other _ _ _ _ hne, heap_setCell_other _ _ _ _ hne]
 exact h
theorem two_new {w w0 : World} {b : Nat} {v0 : Val} (v1 v2 : Val) (ho : Own3 w0 b v0) (hb : Below w.heap.size w w0) :
  Own3 ((w0.alloc (.cells #[.int .i64 v1.type, .int .i64 v1.n, .string v1.s] 23)).alloc (.cells #[.int .i64 v2.type, .int .i64 v2.n, .string v2.s] 23)).drew w0.heap.size v1 ∧
  Own3 ((w0.alloc (.cells #[.int .i64 v1.type, .int .i64 v1.n, .string v1.s] 23)).alloc (.cells #[.int .i64 v2.type, .int .i64 v2.n, .string v2.s] 23)).drew (w0.heap.size + 1) v2 ∧
  Own3 ((w0.alloc (.cells #[.int .i64 v1.type, .int .i64 v1.n, .string v1.s] 23)).alloc (.cells #[.int .i64 v2.type, .int .i64 v2.n, .string v2.s] 23)).drew b v0 ∧
  Below w0.heap.size w0 ((w0.alloc (.cells #[.int .i64 v1.type, .int .i64 v1.n, .string v1.s] 23)).alloc (.cells #[.int .i64 v2.type, .int .i64 v2.n, .string v2.s] 23)).drew ∧
  Below w.heap.size w ((w0.alloc (.cells #[.int .i64 v1.type, .int .i64 v1.n, .string v1.s] 23)).alloc (.cells #[.int .i64 v2.type, .int .i64 v2.n, .string v2.s] 23)).drew := by
 have h1 : Below w0.heap.size w0 (w0.alloc (.cells #[.int .i64 v1.type, .int .i64 v1.n, .string v1.s] 23)) := (Below.refl _ _).alloc (Nat.le_refl _) _
 have h2 : ∀ W : World, Below W.heap.size W (W.alloc (.cells #[.int .i64 v2.type, .int .i64 v2.n, .string v2.s] 23)).drew := fun W => ((Below.refl _ _).alloc (Nat.le_refl _) _).drew
 have h3 := below_step h1 (h2 _)
 refine ⟨(own3_new w0 v1).keep (h2 _), ?_, ho.keep h3, h3, below_step hb h3⟩
 have := own3_new (w0.alloc (.cells #[.int .i64 v1.type, .int .i64 v1.n, .string v1.s] 23)) v2
 rw [show (w0.alloc (.cells #[.int .i64 v1.type, .int .i64 v1.n, .string v1.s] 23)).heap.size = w0.heap.size + 1 by simp] at this
 exact this
end Go.Proofs.YtpbbkpfaphjdoaaGreatDoor
