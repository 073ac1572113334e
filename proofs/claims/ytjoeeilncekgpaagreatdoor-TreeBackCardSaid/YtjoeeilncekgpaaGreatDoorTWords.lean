import Derived.Test.YtjoeeilncekgpaaGreatDoorTKit
import Derived.Below
import Derived.Laws.OwnMore
import Derived.Laws.AppendOwnNone
import Derived.Deep.Draws
import Derived.Laws.Rows
import Derived.OwnWalk
namespace Go.Proofs.YtjoeeilncekgpaaGreatDoor
open Go.RowKit
def Sees (w : World) (A : Option Addr) (n c size : Nat) (xs : List Value) : Prop :=
 xs.length = n * size ∧ n ≤ c ∧ c ≤ maxLen ∧ (A = none → n = 0 ∧ c = 0) ∧
  (0 < n → ∃ g o, A = some ⟨g, o, none⟩ ∧ g < w.heap.size ∧ ∀ j u, xs[j]? = some u → w.cell? ⟨g, o + j, none⟩ = some u)
theorem addr_addN (b o j : Nat) : (⟨b, o, none⟩ : Addr).add j = ⟨b, o + j, none⟩ := by unfold Addr.add; split <;> simp_all
section
variable {w w' : World} {A : Option Addr} {n c size : Nat} {xs : List Value}
theorem Sees.nil (w : World) (size : Nat) : Sees w none 0 0 size [] := ⟨by simp, Nat.le_refl _, Nat.zero_le _, fun _ => ⟨rfl, rfl⟩, fun h => absurd h (by omega)⟩
theorem Sees.keep (h : Sees w A n c size xs) (hb : Below w.heap.size w w') : Sees w' A n c size xs :=
 ⟨h.1, h.2.1, h.2.2.1, h.2.2.2.1, fun hn => by
  obtain ⟨g, o, e, hg, hc⟩ := h.2.2.2.2 hn
  exact ⟨g, o, e, Nat.lt_of_lt_of_le hg hb.size, fun k u hu => (hb.cell (p := ⟨g, o + k, none⟩) hg).trans (hc k u hu)⟩⟩
theorem Sees.drewN (h : Sees w A n c size xs) (q : Nat) : Sees (w.drewN q) A n c size xs := h
theorem Sees.of_own {B e : Nat} {v : Value} (h : w.ownsRow B e size v n xs) : ∃ A c, v = .slice A n c ∧ Sees w A n c size xs := by
 have hl := h.1
 rcases h.2 with ⟨rfl, rfl⟩ | ⟨g, cap, cur, rfl, hb, hh, hnc, hcm, _⟩
 ·exact ⟨none, 0, rfl, hl, Nat.le_refl _, Nat.zero_le _, fun _ => ⟨rfl, rfl⟩, fun h => absurd h (by omega)⟩
 ·refine ⟨_, _, rfl, hl, hnc, hcm, (fun h => by cases h), fun _ => ⟨g, 0, rfl, (Array.getElem?_eq_some_iff.1 hh).1, fun k u hu => ?_⟩⟩
  have := h.cells (g := g) rfl k u hu
  rwa [addr_addN] at this
theorem Sees.at_ (h : Sees w A n c 1 xs) {k : Nat} (hk : k < n) : ∃ g o u, A = some ⟨g, o, none⟩ ∧ xs[k]? = some u ∧ w.cell? ⟨g, o + k, none⟩ = some u := by
 obtain ⟨g, o, e, _, hc⟩ := h.2.2.2.2 (by omega)
 have hl : k < xs.length := by have := h.1; omega
 exact ⟨g, o, _, e, List.getElem?_eq_getElem hl, hc k _ (List.getElem?_eq_getElem hl)⟩
end
theorem below_drewN {B : Nat} {a w : World} (h : Below B a w) (n : Nat) : Below B a (w.drewN n) := ⟨h.os, h.tape, h.output, h.size, h.block⟩
theorem below_step {w a b : World} (h : Below w.heap.size w a) (hb : Below a.heap.size a b) : Below w.heap.size w b := h.trans (hb.mono h.size)
end Go.Proofs.YtjoeeilncekgpaaGreatDoor
