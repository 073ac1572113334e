/- Expressions: how they lie. An expression of this text bears where its arguments lie, beside what it is. -/
import Derived.Test.YtkgdfccpkiglaaaDoorSVals
import Derived.Test.YtkgdfccpkiglaaaDoorSAnyInt
namespace Go.Proofs.YtkgdfccpkiglaaaDoor
open Go.ChangeShapes Go.WideShapes Go.ChangeAt Go.RowKit
inductive Ex where
 | mk (op name : ByteArray) (val : Val) (A : Option Addr) (c : Nat) (args : List Ex) (pos : Int) : Ex
namespace Ex
def op : Ex → ByteArray | .mk o _ _ _ _ _ _ => o
def name : Ex → ByteArray | .mk _ n _ _ _ _ _ => n
def val : Ex → Val | .mk _ _ v _ _ _ _ => v
def A : Ex → Option Addr | .mk _ _ _ a _ _ _ => a
def c : Ex → Nat | .mk _ _ _ _ c _ _ => c
def args : Ex → List Ex | .mk _ _ _ _ _ l _ => l
def pos : Ex → Int | .mk _ _ _ _ _ _ p => p
end Ex
def exCells (e : Ex) : List Value := [.string e.op, .string e.name, .int .i64 e.val.type, .int .i64 e.val.n, .string e.val.s, .slice e.A e.args.length e.c, .int .i64 e.pos]
def exsCells (l : List Ex) : List Value := l.flatMap exCells
theorem exsCells_at : ∀ {l : List Ex} {k : Nat} {e : Ex}, l[k]? = some e → ∀ j u, (exCells e)[j]? = some u → (exsCells l)[k * 7 + j]? = some u
 | x :: l, 0, c, h, j, u, hu => by
  simp at h; subst h
  have hj : j < 7 := (List.getElem?_eq_some_iff.1 hu).1
  rw [Nat.zero_mul, Nat.zero_add]
  show (exCells x ++ exsCells l)[j]? = some u
  rw [List.getElem?_append_left (by exact hj)]; exact hu
 | x :: l, k + 1, c, h, j, u, hu => by
  have ih := exsCells_at (l := l) (k := k) (by simpa using h) j u hu
  show (exCells x ++ exsCells l)[(k + 1) * 7 + j]? = some u
  rw [List.getElem?_append_right (by show 7 ≤ _; omega), show (k + 1) * 7 + j - (exCells x).length = k * 7 + j by show (k + 1) * 7 + j - 7 = _; omega]
  exact ih
 | [], k, c, h, _, _, _ => by simp at h
inductive SeesEx (w : World) : Ex → Prop
 | mk {e : Ex} (hs : Sees w e.A e.args.length e.c 7 (exsCells e.args)) (ho : e.op.size ≤ maxLen) (hn : e.name.size ≤ maxLen) (hv : e.val.wf) (hp : fits e.pos) (ha : ∀ a ∈ e.args, SeesEx w a) : SeesEx w e
theorem SeesEx.keep {w w' : World} {e : Ex} (h : SeesEx w e) (hb : Below w.heap.size w w') : SeesEx w' e := by
 induction h with
 | mk hs ho hn hv hp _ ih => exact .mk (hs.keep hb) ho hn hv hp ih
theorem SeesEx.parts {w : World} {e : Ex} (h : SeesEx w e) : Sees w e.A e.args.length e.c 7 (exsCells e.args) ∧ e.op.size ≤ maxLen ∧ e.name.size ≤ maxLen ∧ e.val.wf ∧ fits e.pos ∧ ∀ a ∈ e.args, SeesEx w a := by
 cases h with
 | mk hs ho hn hv hp ha => exact ⟨hs, ho, hn, hv, hp, ha⟩
theorem SeesEx.at_ {w : World} {e : Ex} (h : SeesEx w e) {k : Nat} (hk : k < e.args.length) :
  ∃ g o x, e.A = some ⟨g, o, none⟩ ∧ g < w.heap.size ∧ e.args[k]? = some x ∧ SeesEx w x ∧
   w.cell? ⟨g, o + k * 7, none⟩ = some (.string x.op) ∧ w.cell? ⟨g, o + k * 7 + 1, none⟩ = some (.string x.name) ∧
   w.cell? ⟨g, o + k * 7 + 2, none⟩ = some (.int .i64 x.val.type) ∧ w.cell? ⟨g, o + k * 7 + 3, none⟩ = some (.int .i64 x.val.n) ∧ w.cell? ⟨g, o + k * 7 + 4, none⟩ = some (.string x.val.s) ∧
   w.cell? ⟨g, o + k * 7 + 5, none⟩ = some (.slice x.A x.args.length x.c) ∧ w.cell? ⟨g, o + k * 7 + 6, none⟩ = some (.int .i64 x.pos) := by
 obtain ⟨hs, _, _, _, _, ha⟩ := h.parts
 obtain ⟨g, o, e1, hg, hc⟩ := hs.2.2.2.2 (by omega)
 have hl : e.args[k]? = some e.args[k] := List.getElem?_eq_getElem hk
 have key := fun j u hu => hc (k * 7 + j) u (exsCells_at hl j u hu)
 refine ⟨g, o, _, e1, hg, hl, ha _ (List.getElem_mem hk), key 0 _ rfl, ?_, ?_, ?_, ?_, ?_, ?_⟩
 ·exact key 1 _ rfl
 ·exact key 2 _ rfl
 ·exact key 3 _ rfl
 ·exact key 4 _ rfl
 ·exact key 5 _ rfl
 ·exact key 6 _ rfl
end Go.Proofs.YtkgdfccpkiglaaaDoor
