/- row.find, row.Find, row.Schema and val.Type, walked; the plain words of schemas. row.Schema, walked. -/
import Derived.Test.YtecdgdgdlmancaaGreatDoorRowName
import Derived.Test.YtecdgdgdlmancaaGreatDoorErr
import Derived.StillTailTactics
import Derived.Deep.QuietTactic
import Derived.BigQuiet
namespace Go.Proofs.YtecdgdgdlmancaaGreatDoor
open Go.ChangeShapes Go.WideShapes Go.ChangeAt Go.RowKit

structure Col where
  name : ByteArray
  type : Int
def colCells (c : Col) : List Value := [.string c.name, .int .i64 c.type]
def colsCells (l : List Col) : List Value := l.flatMap colCells
theorem colsCells_length (l : List Col) : (colsCells l).length = l.length * 2 := by
  induction l with
  | nil => rfl
  | cons c l ih => simp only [colsCells, List.flatMap_cons, List.length_append, List.length_cons] at *; simp [colCells, ih]; omega
theorem colsCells_at : ∀ {l : List Col} {k : Nat} {c : Col}, l[k]? = some c → (colsCells l)[k * 2]? = some (.string c.name) ∧ (colsCells l)[k * 2 + 1]? = some (.int .i64 c.type)
  | x :: l, 0, c, h => by simp at h; subst h; exact ⟨rfl, rfl⟩
  | x :: l, k + 1, c, h => by
    have ih := colsCells_at (l := l) (k := k) (by simpa using h)
    have e : colsCells (x :: l) = .string x.name :: .int .i64 x.type :: colsCells l := rfl
    rw [e, show (k + 1) * 2 = k * 2 + 1 + 1 by omega]
    simpa using ih
  | [], k, c, h => by simp at h

/-- A slice of columns, seen. -/
def SeesCols (w : World) (A : Option Addr) (n c : Nat) (l : List Col) : Prop := l.length = n ∧ Sees w A n c 2 (colsCells l)
theorem SeesCols.keep {w w' : World} {A : Option Addr} {n c : Nat} {l : List Col} (h : SeesCols w A n c l) (hb : Below w.heap.size w w') : SeesCols w' A n c l := ⟨h.1, h.2.keep hb⟩
theorem SeesCols.at_ {w : World} {A : Option Addr} {n c : Nat} {l : List Col} (h : SeesCols w A n c l) {k : Nat} (hk : k < n) :
    ∃ g o x, A = some ⟨g, o, none⟩ ∧ g < w.heap.size ∧ l[k]? = some x ∧ w.cell? ⟨g, o + k * 2, none⟩ = some (.string x.name) ∧ w.cell? ⟨g, o + k * 2 + 1, none⟩ = some (.int .i64 x.type) := by
  obtain ⟨g, o, e, hg, hc⟩ := h.2.2.2.2.2 (by omega)
  have hl : l[k]? = some (l[k]'(by have := h.1; omega)) := List.getElem?_eq_getElem _
  obtain ⟨h1, h2⟩ := colsCells_at hl
  exact ⟨g, o, _, e, hg, hl, hc _ _ h1, hc _ _ h2⟩

/-- The place of a column of a name; -1: there is none. -/
def isName (s : ByteArray) (c : Col) : Bool := decide (c.name = s)
def findCol (l : List Col) (s : ByteArray) : Int := match l.findIdx? (isName s) with | some i => i | none => -1
theorem findCol_none {l : List Col} {s : ByteArray} (h : ∀ c ∈ l, isName s c = false) : findCol l s = -1 := by
  unfold findCol; rw [List.findIdx?_eq_none_iff.2 h]
theorem findCol_some {l : List Col} {s : ByteArray} {k : Nat} {c : Col} (h : ∀ x ∈ l.take k, isName s x = false) (hk : l[k]? = some c) (hc : isName s c = true) : findCol l s = k := by
  have : l.findIdx? (isName s) = some k := by
    obtain ⟨hlt, rfl⟩ := List.getElem?_eq_some_iff.1 hk
    rw [List.findIdx?_eq_some_iff_getElem]
    refine ⟨hlt, hc, fun j hj => ?_⟩
    have := h l[j] (List.mem_take_iff_getElem.2 ⟨j, by omega, rfl⟩)
    simp [this]
  unfold findCol; rw [this]
theorem str_beq (a b : ByteArray) : (a.toList == b.toList) = decide (a = b) := by
  rw [Lib.toList_data, Lib.toList_data]
  by_cases h : a = b
  · simp [h]
  · have : ¬ a.data.toList = b.data.toList := fun e => h (Go.WideShapes.bytes_inj e)
    rw [beq_eq_false_iff_ne.2 this, decide_eq_false h]

theorem vtype_any (t : Int) (w : World) :
    Calls Tryz.prog 96 #[.int .i64 t] w fun e w' => e = .returned (.bool (decide (1 ≤ t ∧ t ≤ 3))) ∧ w = w' := by
  by_cases h0 : 1 ≤ t
  · by_cases h1 : t ≤ 3
    · go_enter Tryz.func96, Tryz.ntmps96
      go_wp2
      go_ret
      exact ⟨by simp [h0, h1], rfl⟩
    · go_enter Tryz.func96, Tryz.ntmps96
      go_wp2
      go_ret
      exact ⟨by simp; omega, rfl⟩
  · go_enter Tryz.func96, Tryz.ntmps96
    go_wp2
    go_ret
    exact ⟨by simp; omega, rfl⟩




end Go.Proofs.YtecdgdgdlmancaaGreatDoor
namespace Go.Proofs.YtecdgdgdlmancaaGreatDoor
open Go.ChangeShapes Go.WideShapes Go.ChangeAt Go.RowKit

/-- The first that is not 0 of so many, from the left. -/
def firstErr (f : Nat → Int) : Nat → Int
  | 0 => 0
  | n + 1 => if firstErr f n = 0 then f n else firstErr f n
theorem firstErr_hit {f : Nat → Int} {k : Nat} (h : firstErr f k = 0) (hk : f k ≠ 0) : ∀ m, k < m → firstErr f m = f k
  | 0, h' => by omega
  | m + 1, h' => by
    by_cases e : k = m
    · subst e; simp [firstErr, h]
    · have ih := firstErr_hit h hk m (by omega)
      unfold firstErr; rw [ih, if_neg hk]
theorem firstErr_next {f : Nat → Int} {k : Nat} (h : firstErr f k = 0) (hk : f k = 0) : firstErr f (k + 1) = 0 := by simp [firstErr, h, hk]

def schemaAt (l : List Col) (k : Nat) : Int := match l[k]? with
  | none => 0
  | some c => if nameOk c.name.data.toList = false then 2 else if ¬ (1 ≤ c.type ∧ c.type ≤ 3) then 1 else if 0 ≤ findCol (l.take k) c.name then 7 else 0
def schemaErr (l : List Col) : Int := if l.length = 0 then 5 else if 6 < l.length then 4 else firstErr (schemaAt l) l.length

theorem colsCells_take (l : List Col) (k : Nat) : colsCells (l.take k) = (colsCells l).take (k * 2) := by
  induction l generalizing k with
  | nil => simp [colsCells]
  | cons c l ih =>
    cases k with
    | zero => simp [colsCells]
    | succ k =>
      have e : colsCells (c :: l) = .string c.name :: .int .i64 c.type :: colsCells l := rfl
      have e2 : colsCells ((c :: l).take (k + 1)) = .string c.name :: .int .i64 c.type :: colsCells (l.take k) := rfl
      rw [e, e2, ih, show (k + 1) * 2 = k * 2 + 1 + 1 by omega]
      rfl
theorem SeesCols.take {w : World} {A : Option Addr} {n c k : Nat} {l : List Col} (h : SeesCols w A n c l) (hk : k ≤ n) : SeesCols w A k c (l.take k) := by
  obtain ⟨h0, h1, h2, h3, h4, h5⟩ := h
  refine ⟨by rw [List.length_take]; omega, by rw [colsCells_take, List.length_take]; omega, by omega, h3, fun e => ?_, fun hp => ?_⟩
  · have := h4 e; omega
  · obtain ⟨g, o, e, hg, hc⟩ := h5 (by omega)
    refine ⟨g, o, e, hg, fun j u hu => hc j u ?_⟩
    rw [colsCells_take, List.getElem?_take] at hu
    split at hu
    · exact hu
    · cases hu


end Go.Proofs.YtecdgdgdlmancaaGreatDoor
