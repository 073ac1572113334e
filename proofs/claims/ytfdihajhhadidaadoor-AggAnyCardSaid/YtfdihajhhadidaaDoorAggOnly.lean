/- Memory of an accumulator: what only some blocks may change; the row of its aggregates; sums and edges stored in it. -/
import Derived.Test.YtfdihajhhadidaaDoorAggOne
import Derived.Test.YtfdihajhhadidaaDoorAnyInt
import Derived.Maps.AppendAt
namespace Go.Proofs.YtfdihajhhadidaaDoor
open Go.ChangeShapes Go.WideShapes Go.ChangeAt Go.RowKit

/-- Of the blocks that were there, at most those of S have turned. -/
structure Only (S : Nat → Prop) (w w' : World) : Prop where
  os : w'.os = w.os
  tape : w'.tape = w.tape
  output : w'.output = w.output
  size : w.heap.size ≤ w'.heap.size
  block : ∀ k, k < w.heap.size → ¬ S k → w'.heap[k]? = w.heap[k]?
theorem Only.refl (S : Nat → Prop) (w : World) : Only S w w := ⟨rfl, rfl, rfl, Nat.le_refl _, fun _ _ _ => rfl⟩
theorem Only.trans {S : Nat → Prop} {a b c : World} (h : Only S a b) (k : Only S b c) : Only S a c :=
  ⟨k.os.trans h.os, k.tape.trans h.tape, k.output.trans h.output, Nat.le_trans h.size k.size, fun i hi hs => (k.block i (Nat.lt_of_lt_of_le hi h.size) hs).trans (h.block i hi hs)⟩
theorem Only.mono {S T : Nat → Prop} {a b : World} (h : Only S a b) (hT : ∀ k, S k → T k) : Only T a b := ⟨h.os, h.tape, h.output, h.size, fun k hk hs => h.block k hk (fun e => hs (hT k e))⟩
theorem Only.drew {S : Nat → Prop} {a b : World} (h : Only S a b) : Only S a b.drew := ⟨h.os, h.tape, h.output, h.size, h.block⟩
theorem Only.of_below {S : Nat → Prop} {a b : World} (h : Below a.heap.size a b) : Only S a b := ⟨h.os, h.tape, h.output, h.size, fun k hk _ => h.block k hk⟩
theorem Only.of_grown {S : Nat → Prop} {a b : World} {r : Option Nat} (h : a.grownBy b r) (hr : ∀ k, some k = r → S k) : Only S a b := ⟨h.os, h.tape, h.output, h.size, fun k hk hs => h.block k hk (fun e => hs (hr k e))⟩
theorem Only.setCell {S : Nat → Prop} {a b : World} (h : Only S a b) {p : Addr} (hp : S p.block) (u : Value) : Only S a (b.setCell p u) :=
  h.trans ⟨rfl, rfl, rfl, by simp [World.setCell], fun k _ hs => Below.heap_setCell _ _ _ _ (fun e => hs (e ▸ hp))⟩
theorem Only.alloc {S : Nat → Prop} {a b : World} (h : Only S a b) (o : Obj) : Only S a (b.alloc o) := h.trans (.of_below ((Below.refl _ _).alloc (Nat.le_refl _) o))
theorem Only.below {S : Nat → Prop} {a b : World} {B : Nat} (h : Only S a b) (hB : B ≤ a.heap.size) (hS : ∀ k, S k → B ≤ k) : Below B a b := ⟨h.os, h.tape, h.output, h.size, fun k hk => h.block k (by omega) (fun e => by have := hS k e; omega)⟩
theorem Only.cell {S : Nat → Prop} {a b : World} (h : Only S a b) {p : Addr} (hp : p.block < a.heap.size) (hs : ¬ S p.block) : b.cell? p = a.cell? p := World.cell?_of_block (w := a) (h.block p.block hp hs)
theorem Only.own {S : Nat → Prop} {a b : World} (h : Only S a b) {B e size : Nat} {v : Value} {n : Nat} {xs : List Value} (ho : a.ownsRow B e size v n xs) (hs : ∀ k, v.ownBlock = some k → ¬ S k) : b.ownsRow B e size v n xs := by
  refine ⟨ho.1, ?_⟩
  have hlt := ho.lt
  rcases ho.2 with hn | ⟨g, cap, cur, rfl, hb, hg, rest⟩
  · exact .inl hn
  · exact .inr ⟨g, cap, cur, rfl, hb, (h.block g (hlt g rfl).2 (hs g rfl)).trans hg, rest⟩
theorem Only.sees {S : Nat → Prop} {a b : World} (h : Only S a b) {A : Option Addr} {n c size : Nat} {xs : List Value} (hs : Sees a A n c size xs) (hA : ∀ ad, A = some ad → ¬ S ad.block) : Sees b A n c size xs :=
  ⟨hs.1, hs.2.1, hs.2.2.1, hs.2.2.2.1, fun hn => by
    obtain ⟨g, o, e, hg, hc⟩ := hs.2.2.2.2 hn
    exact ⟨g, o, e, Nat.lt_of_lt_of_le hg h.size, fun k u hu => (h.cell (p := ⟨g, o + k, none⟩) hg (hA ⟨g, o, none⟩ e)).trans (hc k u hu)⟩⟩

theorem own_other {w : World} {B e size g i : Nat} {u v : Value} {n : Nat} {xs : List Value} (h : w.ownsRow B e size v n xs) (hne : v.ownBlock ≠ some g) : (w.setCell ⟨g, i, none⟩ u).ownsRow B e size v n xs := by
  refine ⟨h.1, ?_⟩
  rcases h.2 with ⟨rfl, rfl⟩ | ⟨q, cap, cur, rfl, h1, h2, h3⟩
  · exact Or.inl ⟨rfl, rfl⟩
  · have : q ≠ g := fun e => hne (by simp [Value.ownBlock, e])
    exact Or.inr ⟨q, cap, cur, rfl, h1, (heap_setCell_other _ _ _ _ this).trans h2, h3⟩
theorem Only.sees_far {S : Nat → Prop} {a b : World} (h : Only S a b) {A : Option Addr} {n c size : Nat} {xs : List Value} (hs : Sees a A n c size xs) (hA : 0 < n → ∀ ad, A = some ad → ¬ S ad.block) : Sees b A n c size xs :=
  ⟨hs.1, hs.2.1, hs.2.2.1, hs.2.2.2.1, fun hn => by
    obtain ⟨g, o, e, hg, hc⟩ := hs.2.2.2.2 hn
    exact ⟨g, o, e, Nat.lt_of_lt_of_le hg h.size, fun k u hu => (h.cell (p := ⟨g, o + k, none⟩) hg (hA hn ⟨g, o, none⟩ e)).trans (hc k u hu)⟩⟩
theorem Only.vals_far {S : Nat → Prop} {a b : World} (h : Only S a b) {A : Option Addr} {n c : Nat} {l : List Val} (hs : SeesVals a A n c l) (hA : 0 < n → ∀ ad, A = some ad → ¬ S ad.block) : SeesVals b A n c l := ⟨hs.1, h.sees_far hs.2 hA⟩
theorem Only.drewN {S : Nat → Prop} {a b : World} (h : Only S a b) (q : Nat) : Only S a (b.drewN q) := ⟨h.os, h.tape, h.output, h.size, h.block⟩

/-- The aggregates, one behind the other. -/
def onesCells (l : List One) : List Value := l.flatMap oneCells
theorem onesCells_length (l : List One) : (onesCells l).length = l.length * 7 := by
  induction l with
  | nil => rfl
  | cons c l ih => simp only [onesCells, List.flatMap_cons, List.length_append, List.length_cons] at *; simp [oneCells, ih]; omega
theorem onesCells_at : ∀ {l : List One} {k : Nat} {o : One}, l[k]? = some o → (onesCells l)[k * 7]? = some (.string o.what) ∧ (onesCells l)[k * 7 + 1]? = some (.int .i64 o.type) ∧ (onesCells l)[k * 7 + 2]? = some (.int .i64 (hiOf o.sum)) ∧
    (onesCells l)[k * 7 + 3]? = some (.int .u64 (loOf o.sum)) ∧ (onesCells l)[k * 7 + 4]? = some (.int .i64 o.edge.type) ∧ (onesCells l)[k * 7 + 5]? = some (.int .i64 o.edge.n) ∧ (onesCells l)[k * 7 + 6]? = some (.string o.edge.s)
  | x :: l, 0, c, h => by simp at h; subst h; exact ⟨rfl, rfl, rfl, rfl, rfl, rfl, rfl⟩
  | x :: l, k + 1, c, h => by
    have ih := onesCells_at (l := l) (k := k) (by simpa using h)
    have e : onesCells (x :: l) = .string x.what :: .int .i64 x.type :: .int .i64 (hiOf x.sum) :: .int .u64 (loOf x.sum) :: .int .i64 x.edge.type :: .int .i64 x.edge.n :: .string x.edge.s :: onesCells l := rfl
    rw [e, show (k + 1) * 7 = k * 7 + 1 + 1 + 1 + 1 + 1 + 1 + 1 by omega]
    simpa using ih
  | [], k, c, h => by simp at h
theorem set_far {a b : List Value} (h : a.length = 7) (j : Nat) (u : Value) : (a ++ b).set (j + 7) u = a ++ b.set j u := by
  rw [List.set_append, if_neg (by omega), h, Nat.add_sub_cancel]
theorem onesCells_sum : ∀ {l : List One} {k : Nat} {o : One} (s : Int), l[k]? = some o → ((onesCells l).set (k * 7 + 2) (.int .i64 (hiOf s))).set (k * 7 + 3) (.int .u64 (loOf s)) = onesCells (l.set k ⟨o.what, o.type, s, o.edge⟩)
  | x :: l, 0, o, s, h => by simp at h; subst h; rfl
  | x :: l, k + 1, o, s, h => by
    have ih := onesCells_sum (l := l) (k := k) s (by simpa using h)
    have e : ∀ y l, onesCells (y :: l) = oneCells y ++ onesCells l := fun _ _ => rfl
    rw [List.set_cons_succ, e, e, show (k + 1) * 7 + 2 = (k * 7 + 2) + 7 by omega, show (k + 1) * 7 + 3 = (k * 7 + 3) + 7 by omega, set_far rfl, set_far rfl, ih]
  | [], k, o, s, h => by simp at h
theorem onesCells_edge : ∀ {l : List One} {k : Nat} {o : One} (v : Val), l[k]? = some o → (((onesCells l).set (k * 7 + 4) (.int .i64 v.type)).set (k * 7 + 5) (.int .i64 v.n)).set (k * 7 + 6) (.string v.s) = onesCells (l.set k ⟨o.what, o.type, o.sum, v⟩)
  | x :: l, 0, o, v, h => by simp at h; subst h; rfl
  | x :: l, k + 1, o, v, h => by
    have ih := onesCells_edge (l := l) (k := k) v (by simpa using h)
    have e : ∀ y l, onesCells (y :: l) = oneCells y ++ onesCells l := fun _ _ => rfl
    rw [List.set_cons_succ, e, e, show (k + 1) * 7 + 4 = (k * 7 + 4) + 7 by omega, show (k + 1) * 7 + 5 = (k * 7 + 5) + 7 by omega, show (k + 1) * 7 + 6 = (k * 7 + 6) + 7 by omega, set_far rfl, set_far rfl, set_far rfl, ih]
  | [], k, o, v, h => by simp at h

/-- The aggregates lie in a row of the call's own, block g. -/
def OnesAt (w : World) (B g cap : Nat) (l : List One) : Prop := w.ownsRow B 94 7 (.slice (some ⟨g, 0, none⟩) l.length cap) l.length (onesCells l)
section
variable {w : World} {B g cap k : Nat} {l : List One} {o : One}
theorem OnesAt.facts (h : OnesAt w B g cap l) (hk : l[k]? = some o) :
    (w.cell? ⟨g, k * 7, none⟩ = some (.string o.what) ∧ w.cell? ⟨g, k * 7 + 1, none⟩ = some (.int .i64 o.type) ∧ w.cell? ⟨g, k * 7 + 2, none⟩ = some (.int .i64 (hiOf o.sum)) ∧
    w.cell? ⟨g, k * 7 + 3, none⟩ = some (.int .u64 (loOf o.sum)) ∧ w.cell? ⟨g, k * 7 + 4, none⟩ = some (.int .i64 o.edge.type) ∧ w.cell? ⟨g, k * 7 + 5, none⟩ = some (.int .i64 o.edge.n) ∧ w.cell? ⟨g, k * 7 + 6, none⟩ = some (.string o.edge.s)) ∧
    w.frozen? ⟨g, k * 7 + 2, none⟩ = false ∧ w.frozen? ⟨g, k * 7 + 3, none⟩ = false ∧ w.frozen? ⟨g, k * 7 + 4, none⟩ = false ∧ w.frozen? ⟨g, k * 7 + 5, none⟩ = false ∧ w.frozen? ⟨g, k * 7 + 6, none⟩ = false := by
  have hlt : k < l.length := (List.getElem?_eq_some_iff.1 hk).1
  obtain ⟨a0, a1, a2, a3, a4, a5, a6⟩ := onesCells_at hk
  refine ⟨⟨?_, ?_, ?_, ?_, ?_, ?_, ?_⟩, World.ownsRow.frozenAt h _, World.ownsRow.frozenAt h _, World.ownsRow.frozenAt h _, World.ownsRow.frozenAt h _, World.ownsRow.frozenAt h _⟩
  · rw [World.ownsRow.cellAt h _ (by omega), a0]
  · rw [World.ownsRow.cellAt h _ (by omega), a1]
  · rw [World.ownsRow.cellAt h _ (by omega), a2]
  · rw [World.ownsRow.cellAt h _ (by omega), a3]
  · rw [World.ownsRow.cellAt h _ (by omega), a4]
  · rw [World.ownsRow.cellAt h _ (by omega), a5]
  · rw [World.ownsRow.cellAt h _ (by omega), a6]
theorem OnesAt.setSum (h : OnesAt w B g cap l) (hk : l[k]? = some o) (s : Int) :
    OnesAt ((w.setCell ⟨g, k * 7 + 2, none⟩ (.int .i64 (hiOf s))).setCell ⟨g, k * 7 + 3, none⟩ (.int .u64 (loOf s))) B g cap (l.set k ⟨o.what, o.type, s, o.edge⟩) := by
  have := (World.ownsRow.stored (World.ownsRow.stored h (k * 7 + 2) (.int .i64 (hiOf s))).1 (k * 7 + 3) (.int .u64 (loOf s))).1
  rw [onesCells_sum s hk] at this
  unfold OnesAt
  rwa [List.length_set]
theorem OnesAt.setEdge (h : OnesAt w B g cap l) (hk : l[k]? = some o) (v : Val) :
    OnesAt (((w.setCell ⟨g, k * 7 + 4, none⟩ (.int .i64 v.type)).setCell ⟨g, k * 7 + 5, none⟩ (.int .i64 v.n)).setCell ⟨g, k * 7 + 6, none⟩ (.string v.s)) B g cap (l.set k ⟨o.what, o.type, o.sum, v⟩) := by
  have := (World.ownsRow.stored (World.ownsRow.stored (World.ownsRow.stored h (k * 7 + 4) (.int .i64 v.type)).1 (k * 7 + 5) (.int .i64 v.n)).1 (k * 7 + 6) (.string v.s)).1
  rw [onesCells_edge v hk] at this
  unfold OnesAt
  rwa [List.length_set]
end

def isLeast (s : ByteArray) : Bool := s.data.toList == [108, 101, 97, 115, 116]
def isMost (s : ByteArray) : Bool := s.data.toList == [109, 111, 115, 116]
theorem least_not_most {s : ByteArray} (h : isLeast s = true) : isMost s = false := by
  unfold isLeast at h; unfold isMost; rw [eq_of_beq h]; rfl
def takes (wh : ByteArray) (c : Int) (first : Bool) : Bool := first || (isLeast wh && decide (c < 0)) || (isMost wh && decide (0 < c))
/-- What one is with a total and a value added. -/
def addOne (o : One) (t : Int) (ed : Val) (first : Bool) : One := ⟨o.what, o.type, o.sum + t, if takes o.what (vorder ed o.edge) first then ed else o.edge⟩
theorem box2 {w : World} {b : Nat} {x y : Value} {T : TypeId} (h : w.heap[b]? = some (.cells #[x, y] T (0, 0))) : w.cell? ⟨b, 0, none⟩ = some x ∧ w.cell? ⟨b, 1, none⟩ = some y := by
  refine ⟨?_, ?_⟩ <;> (rw [cell_of_row _ _ _ _ _ _ h]; rfl)
theorem box3 {w : World} {b : Nat} {x y z : Value} {T : TypeId} (h : w.heap[b]? = some (.cells #[x, y, z] T (0, 0))) : w.cell? ⟨b, 0, none⟩ = some x ∧ w.cell? ⟨b, 1, none⟩ = some y ∧ w.cell? ⟨b, 2, none⟩ = some z := by
  refine ⟨?_, ?_, ?_⟩ <;> (rw [cell_of_row _ _ _ _ _ _ h]; rfl)
end Go.Proofs.YtfdihajhhadidaaDoor
