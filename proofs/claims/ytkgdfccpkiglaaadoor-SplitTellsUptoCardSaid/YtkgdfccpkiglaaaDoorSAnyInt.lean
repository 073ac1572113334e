/- Lists of numbers; slices.ContainsFunc over them with the closures of package kind; kind.all. -/
import Derived.Test.YtkgdfccpkiglaaaDoorSWords
import Derived.Test.YtkgdfccpkiglaaaDoorSVals
namespace Go.Proofs.YtkgdfccpkiglaaaDoor
open Go.ChangeShapes Go.WideShapes Go.ChangeAt Go.RowKit
def intCells (xs : List Int) : List Value := xs.map (.int .i64)
theorem intCells_at {xs : List Int} {k : Nat} {u : Value} (h : (intCells xs)[k]? = some u) : ∃ x, xs[k]? = some x ∧ u = .int .i64 x := by
 unfold intCells at h
 rw [List.getElem?_map] at h
 cases hx : xs[k]? with
 | none => rw [hx] at h; cases h
 | some x => rw [hx] at h; exact ⟨x, rfl, by simpa using h.symm⟩
theorem intCells_len {w : World} {A : Option Addr} {n c : Nat} {xs : List Int} (h : Sees w A n c 1 (intCells xs)) : xs.length = n := by have := h.1; simpa [intCells] using this
theorem ints_at {w : World} {A : Option Addr} {n c : Nat} {xs : List Int} (h : Sees w A n c 1 (intCells xs)) {k : Nat} (hk : k < n) :
  ∃ g o x, A = some ⟨g, o, none⟩ ∧ xs[k]? = some x ∧ w.cell? ⟨g, o + k, none⟩ = some (.int .i64 x) := by
 obtain ⟨g, o, u, e, hu, hc⟩ := h.at_ hk
 obtain ⟨x, hx, rfl⟩ := intCells_at hu
 exact ⟨g, o, x, e, hx, hc⟩
theorem intSlice : SliceTy Tryd.prog 23 3 (.int .i64 0) 1 8 := SliceTy.of Tryd.underlying23 (by kernel_rfl) rfl (by decide) (by decide)
theorem own_keep {w w' : World} {B e size : Nat} {v : Value} {n : Nat} {xs : List Value} (h : w.ownsRow B e size v n xs) (hb : Below w.heap.size w w') : w'.ownsRow B e size v n xs := by
 refine ⟨h.1, ?_⟩
 rcases h.2 with ⟨rfl, rfl⟩ | ⟨g, cap, cur, rfl, h1, h2, h3⟩
 ·exact Or.inl ⟨rfl, rfl⟩
 ·exact Or.inr ⟨g, cap, cur, rfl, h1, (hb.block g (Array.getElem?_eq_some_iff.1 h2).1).trans h2, h3⟩
def findB {α : Type} (p : α → Bool) (l : List α) : Int := match l.findIdx? p with | some i => i | none => -1
theorem findB_none {α : Type} {p : α → Bool} {l : List α} (h : ∀ c ∈ l, p c = false) : findB p l = -1 := by
 unfold findB; rw [List.findIdx?_eq_none_iff.2 h]
theorem findB_some {α : Type} {p : α → Bool} {l : List α} {k : Nat} {c : α} (h : ∀ x ∈ l.take k, p x = false) (hk : l[k]? = some c) (hc : p c = true) : findB p l = k := by
 have : l.findIdx? p = some k := by
  obtain ⟨hlt, rfl⟩ := List.getElem?_eq_some_iff.1 hk
  rw [List.findIdx?_eq_some_iff_getElem]
  refine ⟨hlt, hc, fun j hj => ?_⟩
  have := h l[j] (List.mem_take_iff_getElem.2 ⟨j, by omega, rfl⟩)
  simp [this]
 unfold findB; rw [this]
theorem findB_any {α : Type} (p : α → Bool) (l : List α) : decide (0 ≤ findB p l) = l.any p := by
 unfold findB
 cases h : l.findIdx? p with
 | none =>
  have := List.findIdx?_eq_none_iff.1 h
  simp only [show ¬ (0 : Int) ≤ -1 by omega, decide_false]
  exact (List.any_eq_false.2 fun x hx => by simp [this x hx]).symm
 | some i =>
  obtain ⟨hi, h1, _⟩ := List.findIdx?_eq_some_iff_getElem.1 h
  simp only [show (0 : Int) ≤ (i : Int) by omega, decide_true]
  exact (List.any_eq_true.2 ⟨_, List.getElem_mem hi, h1⟩).symm
theorem take_next {α : Type} {p : α → Bool} {l : List α} {k : Nat} {c : α} (h : ∀ x ∈ l.take k, p x = false) (hk : l[k]? = some c) (hc : p c = false) : ∀ x ∈ l.take (k + 1), p x = false := by
 intro y hy
 rw [List.take_add_one, hk] at hy
 rcases List.mem_append.1 hy with hy | hy
 ·exact h y hy
 ·simp at hy; subst hy; exact hc
end Go.Proofs.YtkgdfccpkiglaaaDoor
