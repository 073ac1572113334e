/- Memory of an accumulator: what only some blocks may change; the row of its aggregates; sums and edges stored in it. -/
import Derived.Test.YtjnlonemnjljiaaDoorAggOne
import Derived.Test.YtjnlonemnjljiaaDoorOnly
namespace Go.Proofs.YtjnlonemnjljiaaDoor
open Go.ChangeShapes Go.WideShapes Go.ChangeAt Go.RowKit

/-- The aggregates, one behind the other. -/
def onesCells (l : List One) : List Value := l.flatMap oneCells
theorem onesCells_length (l : List One) : (onesCells l).length = l.length * 7 := by
  induction l with
  | nil => rfl
  | cons c l ih => simp only [onesCells, List.flatMap_cons, List.length_append, List.length_cons] at *; simp [oneCells, ih]; omega
theorem onesCells_at : ∀ {l : List One} {k : Nat} {o : One}, l[k]? = some o → (onesCells l)[k * 7]? = some (.string o.what) ∧ (onesCells l)[k * 7 + 1]? = some (.int .i64 o.type) ∧ (onesCells l)[k * 7 + 2]? = some (.int .i64 (hiOf o.sum)) ∧
    (onesCells l)[k * 7 + 3]? = some (.int .u64 (loOf o.sum)) ∧ (onesCells l)[k * 7 + 4]? = some (.int .i64 o.edge.type) ∧ (onesCells l)[k * 7 + 5]? = some (.int .i64 o.edge.n) ∧ (onesCells l)[k * 7 + 6]? = some (.string o.edge.s)
  | x :: l, 0, c, h => by simp at h; subst h; exact ⟨rfl, rfl, rfl, rfl, rfl, rfl, rfl⟩
  | x :: l, k + 1, c, h => by
    have ih := onesCells_at (l := l) (k := k) (by simpa using h)
    have e : onesCells (x :: l) = .string x.what :: .int .i64 x.type :: .int .i64 (hiOf x.sum) :: .int .u64 (loOf x.sum) :: .int .i64 x.edge.type :: .int .i64 x.edge.n :: .string x.edge.s :: onesCells l := rfl
    rw [e, show (k + 1) * 7 = k * 7 + 1 + 1 + 1 + 1 + 1 + 1 + 1 by omega]
    simpa using ih
  | [], k, c, h => by simp at h
theorem set_far {a b : List Value} (h : a.length = 7) (j : Nat) (u : Value) : (a ++ b).set (j + 7) u = a ++ b.set j u := by
  rw [List.set_append, if_neg (by omega), h, Nat.add_sub_cancel]
theorem onesCells_sum : ∀ {l : List One} {k : Nat} {o : One} (s : Int), l[k]? = some o → ((onesCells l).set (k * 7 + 2) (.int .i64 (hiOf s))).set (k * 7 + 3) (.int .u64 (loOf s)) = onesCells (l.set k ⟨o.what, o.type, s, o.edge⟩)
  | x :: l, 0, o, s, h => by simp at h; subst h; rfl
  | x :: l, k + 1, o, s, h => by
    have ih := onesCells_sum (l := l) (k := k) s (by simpa using h)
    have e : ∀ y l, onesCells (y :: l) = oneCells y ++ onesCells l := fun _ _ => rfl
    rw [List.set_cons_succ, e, e, show (k + 1) * 7 + 2 = (k * 7 + 2) + 7 by omega, show (k + 1) * 7 + 3 = (k * 7 + 3) + 7 by omega, set_far rfl, set_far rfl, ih]
  | [], k, o, s, h => by simp at h
theorem onesCells_edge : ∀ {l : List One} {k : Nat} {o : One} (v : Val), l[k]? = some o → (((onesCells l).set (k * 7 + 4) (.int .i64 v.type)).set (k * 7 + 5) (.int .i64 v.n)).set (k * 7 + 6) (.string v.s) = onesCells (l.set k ⟨o.what, o.type, o.sum, v⟩)
  | x :: l, 0, o, v, h => by simp at h; subst h; rfl
  | x :: l, k + 1, o, v, h => by
    have ih := onesCells_edge (l := l) (k := k) v (by simpa using h)
    have e : ∀ y l, onesCells (y :: l) = oneCells y ++ onesCells l := fun _ _ => rfl
    rw [List.set_cons_succ, e, e, show (k + 1) * 7 + 4 = (k * 7 + 4) + 7 by omega, show (k + 1) * 7 + 5 = (k * 7 + 5) + 7 by omega, show (k + 1) * 7 + 6 = (k * 7 + 6) + 7 by omega, set_far rfl, set_far rfl, set_far rfl, ih]
  | [], k, o, v, h => by simp at h

/-- The aggregates lie in a row of the call's own, block g. -/
def OnesAt (w : World) (B g cap : Nat) (l : List One) : Prop := w.ownsRow B 87 7 (.slice (some ⟨g, 0, none⟩) l.length cap) l.length (onesCells l)
section
variable {w : World} {B g cap k : Nat} {l : List One} {o : One}
theorem OnesAt.facts (h : OnesAt w B g cap l) (hk : l[k]? = some o) :
    (w.cell? ⟨g, k * 7, none⟩ = some (.string o.what) ∧ w.cell? ⟨g, k * 7 + 1, none⟩ = some (.int .i64 o.type) ∧ w.cell? ⟨g, k * 7 + 2, none⟩ = some (.int .i64 (hiOf o.sum)) ∧
    w.cell? ⟨g, k * 7 + 3, none⟩ = some (.int .u64 (loOf o.sum)) ∧ w.cell? ⟨g, k * 7 + 4, none⟩ = some (.int .i64 o.edge.type) ∧ w.cell? ⟨g, k * 7 + 5, none⟩ = some (.int .i64 o.edge.n) ∧ w.cell? ⟨g, k * 7 + 6, none⟩ = some (.string o.edge.s)) ∧
    w.frozen? ⟨g, k * 7 + 2, none⟩ = false ∧ w.frozen? ⟨g, k * 7 + 3, none⟩ = false ∧ w.frozen? ⟨g, k * 7 + 4, none⟩ = false ∧ w.frozen? ⟨g, k * 7 + 5, none⟩ = false ∧ w.frozen? ⟨g, k * 7 + 6, none⟩ = false := by
  have hlt : k < l.length := (List.getElem?_eq_some_iff.1 hk).1
  obtain ⟨a0, a1, a2, a3, a4, a5, a6⟩ := onesCells_at hk
  refine ⟨⟨?_, ?_, ?_, ?_, ?_, ?_, ?_⟩, World.ownsRow.frozenAt h _, World.ownsRow.frozenAt h _, World.ownsRow.frozenAt h _, World.ownsRow.frozenAt h _, World.ownsRow.frozenAt h _⟩
  · rw [World.ownsRow.cellAt h _ (by omega), a0]
  · rw [World.ownsRow.cellAt h _ (by omega), a1]
  · rw [World.ownsRow.cellAt h _ (by omega), a2]
  · rw [World.ownsRow.cellAt h _ (by omega), a3]
  · rw [World.ownsRow.cellAt h _ (by omega), a4]
  · rw [World.ownsRow.cellAt h _ (by omega), a5]
  · rw [World.ownsRow.cellAt h _ (by omega), a6]
theorem OnesAt.setSum (h : OnesAt w B g cap l) (hk : l[k]? = some o) (s : Int) :
    OnesAt ((w.setCell ⟨g, k * 7 + 2, none⟩ (.int .i64 (hiOf s))).setCell ⟨g, k * 7 + 3, none⟩ (.int .u64 (loOf s))) B g cap (l.set k ⟨o.what, o.type, s, o.edge⟩) := by
  have := (World.ownsRow.stored (World.ownsRow.stored h (k * 7 + 2) (.int .i64 (hiOf s))).1 (k * 7 + 3) (.int .u64 (loOf s))).1
  rw [onesCells_sum s hk] at this
  unfold OnesAt
  rwa [List.length_set]
theorem OnesAt.setEdge (h : OnesAt w B g cap l) (hk : l[k]? = some o) (v : Val) :
    OnesAt (((w.setCell ⟨g, k * 7 + 4, none⟩ (.int .i64 v.type)).setCell ⟨g, k * 7 + 5, none⟩ (.int .i64 v.n)).setCell ⟨g, k * 7 + 6, none⟩ (.string v.s)) B g cap (l.set k ⟨o.what, o.type, o.sum, v⟩) := by
  have := (World.ownsRow.stored (World.ownsRow.stored (World.ownsRow.stored h (k * 7 + 4) (.int .i64 v.type)).1 (k * 7 + 5) (.int .i64 v.n)).1 (k * 7 + 6) (.string v.s)).1
  rw [onesCells_edge v hk] at this
  unfold OnesAt
  rwa [List.length_set]
end

def isLeast (s : ByteArray) : Bool := s.data.toList == [108, 101, 97, 115, 116]
def isMost (s : ByteArray) : Bool := s.data.toList == [109, 111, 115, 116]
theorem least_not_most {s : ByteArray} (h : isLeast s = true) : isMost s = false := by
  unfold isLeast at h; unfold isMost; rw [eq_of_beq h]; rfl
def takes (wh : ByteArray) (c : Int) (first : Bool) : Bool := first || (isLeast wh && decide (c < 0)) || (isMost wh && decide (0 < c))
/-- What one is with a total and a value added. -/
def addOne (o : One) (t : Int) (ed : Val) (first : Bool) : One := ⟨o.what, o.type, o.sum + t, if takes o.what (vorder ed o.edge) first then ed else o.edge⟩
end Go.Proofs.YtjnlonemnjljiaaDoor
