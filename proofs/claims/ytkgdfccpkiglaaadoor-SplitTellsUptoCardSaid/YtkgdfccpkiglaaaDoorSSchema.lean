/- row.find, row.Find, row.Schema and val.Type, walked; the plain words of schemas. row.Schema, walked. -/
import Derived.Test.YtkgdfccpkiglaaaDoorSRowName
import Derived.Test.YtkgdfccpkiglaaaDoorSShelf
import Derived.StillTailTactics
import Derived.Deep.QuietTactic
import Derived.BigQuiet
namespace Go.Proofs.YtkgdfccpkiglaaaDoor
open Go.ChangeShapes Go.WideShapes Go.ChangeAt Go.RowKit
structure Col where
 name : ByteArray
 type : Int
def colCells (c : Col) : List Value := [.string c.name, .int .i64 c.type]
def colsCells (l : List Col) : List Value := l.flatMap colCells
theorem colsCells_at : ∀ {l : List Col} {k : Nat} {c : Col}, l[k]? = some c → (colsCells l)[k * 2]? = some (.string c.name) ∧ (colsCells l)[k * 2 + 1]? = some (.int .i64 c.type)
 | x :: l, 0, c, h => by simp at h; subst h; exact ⟨rfl, rfl⟩
 | x :: l, k + 1, c, h => by
  have ih := colsCells_at (l := l) (k := k) (by simpa using h)
  have e : colsCells (x :: l) = .string x.name :: .int .i64 x.type :: colsCells l := rfl
  rw [e, show (k + 1) * 2 = k * 2 + 1 + 1 by omega]
  simpa using ih
 | [], k, c, h => by simp at h
def SeesCols (w : World) (A : Option Addr) (n c : Nat) (l : List Col) : Prop := l.length = n ∧ Sees w A n c 2 (colsCells l)
theorem SeesCols.keep {w w' : World} {A : Option Addr} {n c : Nat} {l : List Col} (h : SeesCols w A n c l) (hb : Below w.heap.size w w') : SeesCols w' A n c l := ⟨h.1, h.2.keep hb⟩
theorem SeesCols.at_ {w : World} {A : Option Addr} {n c : Nat} {l : List Col} (h : SeesCols w A n c l) {k : Nat} (hk : k < n) :
  ∃ g o x, A = some ⟨g, o, none⟩ ∧ g < w.heap.size ∧ l[k]? = some x ∧ w.cell? ⟨g, o + k * 2, none⟩ = some (.string x.name) ∧ w.cell? ⟨g, o + k * 2 + 1, none⟩ = some (.int .i64 x.type) := by
 obtain ⟨g, o, e, hg, hc⟩ := h.2.2.2.2.2 (by omega)
 have hl : l[k]? = some (l[k]'(by have := h.1; omega)) := List.getElem?_eq_getElem _
 obtain ⟨h1, h2⟩ := colsCells_at hl
 exact ⟨g, o, _, e, hg, hl, hc _ _ h1, hc _ _ h2⟩
end Go.Proofs.YtkgdfccpkiglaaaDoor
namespace Go.Proofs.YtkgdfccpkiglaaaDoor
open Go.ChangeShapes Go.WideShapes Go.ChangeAt Go.RowKit
theorem colsCells_take (l : List Col) (k : Nat) : colsCells (l.take k) = (colsCells l).take (k * 2) := by
 induction l generalizing k with
 | nil => simp [colsCells]
 | cons c l ih =>
  cases k with
  | zero => simp [colsCells]
  | succ k =>
   have e : colsCells (c :: l) = .string c.name :: .int .i64 c.type :: colsCells l := rfl
   have e2 : colsCells ((c :: l).take (k + 1)) = .string c.name :: .int .i64 c.type :: colsCells (l.take k) := rfl
   rw [e, e2, ih, show (k + 1) * 2 = k * 2 + 1 + 1 by omega]
   rfl
theorem SeesCols.take {w : World} {A : Option Addr} {n c k : Nat} {l : List Col} (h : SeesCols w A n c l) (hk : k ≤ n) : SeesCols w A k c (l.take k) := by
 obtain ⟨h0, h1, h2, h3, h4, h5⟩ := h
 refine ⟨by rw [List.length_take]; omega, by rw [colsCells_take, List.length_take]; omega, by omega, h3, fun e => ?_, fun hp => ?_⟩
 ·have := h4 e; omega
 ·obtain ⟨g, o, e, hg, hc⟩ := h5 (by omega)
  refine ⟨g, o, e, hg, fun j u hu => hc j u ?_⟩
  rw [colsCells_take, List.getElem?_take] at hu
  split at hu
  ·exact hu
  ·cases hu
end Go.Proofs.YtkgdfccpkiglaaaDoor
