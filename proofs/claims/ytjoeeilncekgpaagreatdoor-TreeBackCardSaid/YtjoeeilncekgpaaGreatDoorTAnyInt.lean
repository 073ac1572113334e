import Derived.Test.YtjoeeilncekgpaaGreatDoorTWords
import Derived.Test.YtjoeeilncekgpaaGreatDoorTVals
namespace Go.Proofs.YtjoeeilncekgpaaGreatDoor
open Go.ChangeShapes Go.WideShapes Go.ChangeAt Go.RowKit
theorem own_keep {w w' : World} {B e size : Nat} {v : Value} {n : Nat} {xs : List Value} (h : w.ownsRow B e size v n xs) (hb : Below w.heap.size w w') : w'.ownsRow B e size v n xs := by
 refine ⟨h.1, ?_⟩
 rcases h.2 with ⟨rfl, rfl⟩ | ⟨g, cap, cur, rfl, h1, h2, h3⟩
 ·exact Or.inl ⟨rfl, rfl⟩
 ·exact Or.inr ⟨g, cap, cur, rfl, h1, (hb.block g (Array.getElem?_eq_some_iff.1 h2).1).trans h2, h3⟩
def findB {α : Type} (p : α → Bool) (l : List α) : Int := match l.findIdx? p with | some i => i | none => -1
theorem findB_none {α : Type} {p : α → Bool} {l : List α} (h : ∀ c ∈ l, p c = false) : findB p l = -1 := by
 unfold findB; rw [List.findIdx?_eq_none_iff.2 h]
theorem findB_some {α : Type} {p : α → Bool} {l : List α} {k : Nat} {c : α} (h : ∀ x ∈ l.take k, p x = false) (hk : l[k]? = some c) (hc : p c = true) : findB p l = k := by
 have : l.findIdx? p = some k := by
  obtain ⟨hlt, rfl⟩ := List.getElem?_eq_some_iff.1 hk
  rw [List.findIdx?_eq_some_iff_getElem]
  refine ⟨hlt, hc, fun j hj => ?_⟩
  have := h l[j] (List.mem_take_iff_getElem.2 ⟨j, by omega, rfl⟩)
  simp [this]
 unfold findB; rw [this]
theorem findB_any {α : Type} (p : α → Bool) (l : List α) : decide (0 ≤ findB p l) = l.any p := by
 unfold findB
 cases h : l.findIdx? p with
 | none =>
  have := List.findIdx?_eq_none_iff.1 h
  simp only [show ¬ (0 : Int) ≤ -1 by omega, decide_false]
  exact (List.any_eq_false.2 fun x hx => by simp [this x hx]).symm
 | some i =>
  obtain ⟨hi, h1, _⟩ := List.findIdx?_eq_some_iff_getElem.1 h
  simp only [show (0 : Int) ≤ (i : Int) by omega, decide_true]
  exact (List.any_eq_true.2 ⟨_, List.getElem_mem hi, h1⟩).symm
theorem take_next {α : Type} {p : α → Bool} {l : List α} {k : Nat} {c : α} (h : ∀ x ∈ l.take k, p x = false) (hk : l[k]? = some c) (hc : p c = false) : ∀ x ∈ l.take (k + 1), p x = false := by
 intro y hy
 rw [List.take_add_one, hk] at hy
 rcases List.mem_append.1 hy with hy | hy
 ·exact h y hy
 ·simp at hy; subst hy; exact hc
end Go.Proofs.YtjoeeilncekgpaaGreatDoor
