/- What Join asks: slices.EqualFunc over aggregates of the same kinds; slices.Clone of aggregates: walked. -/
import Derived.Test.YtjnlonemnjljiaaDoorAggCheck
namespace Go.Proofs.YtjnlonemnjljiaaDoor
open Go.ChangeShapes Go.WideShapes Go.ChangeAt Go.RowKit

def oneV (o : One) : Value := .agg #[.string o.what, .int .i64 o.type, .int .i64 (hiOf o.sum), .int .u64 (loOf o.sum), .int .i64 o.edge.type, .int .i64 o.edge.n, .string o.edge.s]
theorem box7 {w : World} {b : Nat} {o : One} {T : TypeId} (h : w.heap[b]? = some (.cells #[.string o.what, .int .i64 o.type, .int .i64 (hiOf o.sum), .int .u64 (loOf o.sum), .int .i64 o.edge.type, .int .i64 o.edge.n, .string o.edge.s] T (0, 0))) :
    w.cell? ⟨b, 0, none⟩ = some (.string o.what) ∧ w.cell? ⟨b, 1, none⟩ = some (.int .i64 o.type) ∧ w.cell? ⟨b, 2, none⟩ = some (.int .i64 (hiOf o.sum)) ∧ w.cell? ⟨b, 3, none⟩ = some (.int .u64 (loOf o.sum)) ∧
    w.cell? ⟨b, 4, none⟩ = some (.int .i64 o.edge.type) ∧ w.cell? ⟨b, 5, none⟩ = some (.int .i64 o.edge.n) ∧ w.cell? ⟨b, 6, none⟩ = some (.string o.edge.s) := by
  refine ⟨?_, ?_, ?_, ?_, ?_, ?_, ?_⟩ <;> (rw [cell_of_row _ _ _ _ _ _ h]; rfl)
theorem seven_keep {W w' : World} {b : Nat} {v0 v1 v2 v3 v4 v5 v6 : Value} (hb : Below W.heap.size W w') (hlt : b < W.heap.size)
    (h : W.cell? ⟨b, 0, none⟩ = some v0 ∧ W.cell? ⟨b, 1, none⟩ = some v1 ∧ W.cell? ⟨b, 2, none⟩ = some v2 ∧ W.cell? ⟨b, 3, none⟩ = some v3 ∧ W.cell? ⟨b, 4, none⟩ = some v4 ∧ W.cell? ⟨b, 5, none⟩ = some v5 ∧ W.cell? ⟨b, 6, none⟩ = some v6) :
    w'.cell? ⟨b, 0, none⟩ = some v0 ∧ w'.cell? ⟨b, 1, none⟩ = some v1 ∧ w'.cell? ⟨b, 2, none⟩ = some v2 ∧ w'.cell? ⟨b, 3, none⟩ = some v3 ∧ w'.cell? ⟨b, 4, none⟩ = some v4 ∧ w'.cell? ⟨b, 5, none⟩ = some v5 ∧ w'.cell? ⟨b, 6, none⟩ = some v6 := by
  refine ⟨?_, ?_, ?_, ?_, ?_, ?_, ?_⟩ <;> rw [hb.cell hlt]
  · exact h.1
  · exact h.2.1
  · exact h.2.2.1
  · exact h.2.2.2.1
  · exact h.2.2.2.2.1
  · exact h.2.2.2.2.2.1
  · exact h.2.2.2.2.2.2
theorem box7_keep {w w' : World} {b : Nat} {o : One} {T : TypeId} (h : w.heap[b]? = some (.cells #[.string o.what, .int .i64 o.type, .int .i64 (hiOf o.sum), .int .u64 (loOf o.sum), .int .i64 o.edge.type, .int .i64 o.edge.n, .string o.edge.s] T (0, 0))) (hb : Below w.heap.size w w') :
    w'.heap[b]? = some (.cells #[.string o.what, .int .i64 o.type, .int .i64 (hiOf o.sum), .int .u64 (loOf o.sum), .int .i64 o.edge.type, .int .i64 o.edge.n, .string o.edge.s] T (0, 0)) := (hb.block b (Array.getElem?_eq_some_iff.1 h).1).trans h


theorem ones_at {w : World} {A : Option Addr} {n c k : Nat} {l : List One} {o : One} (h : Sees w A n c 7 (onesCells l)) (hk : l[k]? = some o) :
    ∃ g f, A = some ⟨g, f, none⟩ ∧ g < w.heap.size ∧ w.cell? ⟨g, f + k * 7, none⟩ = some (.string o.what) ∧ w.cell? ⟨g, f + k * 7 + 1, none⟩ = some (.int .i64 o.type) ∧ w.cell? ⟨g, f + k * 7 + 2, none⟩ = some (.int .i64 (hiOf o.sum)) ∧ w.cell? ⟨g, f + k * 7 + 3, none⟩ = some (.int .u64 (loOf o.sum)) ∧
      w.cell? ⟨g, f + k * 7 + 4, none⟩ = some (.int .i64 o.edge.type) ∧ w.cell? ⟨g, f + k * 7 + 5, none⟩ = some (.int .i64 o.edge.n) ∧ w.cell? ⟨g, f + k * 7 + 6, none⟩ = some (.string o.edge.s) := by
  have hlt : k < l.length := (List.getElem?_eq_some_iff.1 hk).1
  have hl := h.1
  rw [onesCells_length] at hl
  obtain ⟨g, f, e, hg, hc⟩ := h.2.2.2.2 (by omega)
  obtain ⟨a0, a1, a2, a3, a4, a5, a6⟩ := onesCells_at hk
  exact ⟨g, f, e, hg, hc _ _ a0, hc _ _ a1, hc _ _ a2, hc _ _ a3, hc _ _ a4, hc _ _ a5, hc _ _ a6⟩
theorem ones_len {w : World} {A : Option Addr} {n c : Nat} {l : List One} (h : Sees w A n c 7 (onesCells l)) : l.length = n := by
  have hl := h.1
  rw [onesCells_length] at hl
  omega
theorem oneSlice : SliceTy Tryd.prog 79 87 (.agg #[.string ⟨#[]⟩, .int .i64 0, .int .i64 0, .int .u64 0, .int .i64 0, .int .i64 0, .string ⟨#[]⟩]) 7 72 := SliceTy.of Tryd.underlying79 (by kernel_rfl) rfl (by decide) (by decide)
theorem ones_cell' : ∀ (l : List One), ∀ u ∈ onesCells l, u.oneCell' = true
  | [], u, h => by cases h
  | x :: l, u, h => by
    have e : onesCells (x :: l) = oneCells x ++ onesCells l := rfl
    rw [e] at h
    rcases List.mem_append.1 h with h | h
    · unfold oneCells at h
      simp only [List.mem_cons, List.not_mem_nil, or_false] at h
      rcases h with rfl | rfl | rfl | rfl | rfl | rfl | rfl <;> rfl
    · exact ones_cell' l u h
def CloneSays (n : Nat) (l : List One) (w : World) (e : Ending) (w' : World) : Prop := (∃ A' c', e = .returned (.slice A' n c') ∧ Sees w' A' n c' 7 (onesCells l) ∧ ∀ ad, A' = some ad → w.heap.size ≤ ad.block) ∧ Below w.heap.size w w'
end Go.Proofs.YtjnlonemnjljiaaDoor
