/- Words for memory: 'Sees w A n c size xs': the slice value '.slice A n c' shows the cells xs (size cells an element), nil and empty let in; append of such a slice onto a row of the call's own. No program in sight. -/
import Derived.Test.YtkgdfccpkiglaaaDoorSKit
import Derived.Below
import Derived.Laws.OwnMore
import Derived.Laws.AppendOwnNone
import Derived.Deep.Draws
import Derived.Laws.Rows
import Derived.OwnWalk
namespace Go.Proofs.YtkgdfccpkiglaaaDoor
open Go.RowKit
def Sees (w : World) (A : Option Addr) (n c size : Nat) (xs : List Value) : Prop :=
 xs.length = n * size ∧ n ≤ c ∧ c ≤ maxLen ∧ (A = none → n = 0 ∧ c = 0) ∧
  (0 < n → ∃ g o, A = some ⟨g, o, none⟩ ∧ g < w.heap.size ∧ ∀ j u, xs[j]? = some u → w.cell? ⟨g, o + j, none⟩ = some u)
theorem addr_addN (b o j : Nat) : (⟨b, o, none⟩ : Addr).add j = ⟨b, o + j, none⟩ := by unfold Addr.add; split <;> simp_all
section
variable {w w' : World} {A : Option Addr} {n c size : Nat} {xs : List Value}
theorem Sees.nil (w : World) (size : Nat) : Sees w none 0 0 size [] := ⟨by simp, Nat.le_refl _, Nat.zero_le _, fun _ => ⟨rfl, rfl⟩, fun h => absurd h (by omega)⟩
theorem Sees.keep (h : Sees w A n c size xs) (hb : Below w.heap.size w w') : Sees w' A n c size xs :=
 ⟨h.1, h.2.1, h.2.2.1, h.2.2.2.1, fun hn => by
  obtain ⟨g, o, e, hg, hc⟩ := h.2.2.2.2 hn
  exact ⟨g, o, e, Nat.lt_of_lt_of_le hg hb.size, fun k u hu => (hb.cell (p := ⟨g, o + k, none⟩) hg).trans (hc k u hu)⟩⟩
theorem Sees.drewN (h : Sees w A n c size xs) (q : Nat) : Sees (w.drewN q) A n c size xs := h
theorem Sees.of_own {B e : Nat} {v : Value} (h : w.ownsRow B e size v n xs) : ∃ A c, v = .slice A n c ∧ Sees w A n c size xs := by
 have hl := h.1
 rcases h.2 with ⟨rfl, rfl⟩ | ⟨g, cap, cur, rfl, hb, hh, hnc, hcm, _⟩
 ·exact ⟨none, 0, rfl, hl, Nat.le_refl _, Nat.zero_le _, fun _ => ⟨rfl, rfl⟩, fun h => absurd h (by omega)⟩
 ·refine ⟨_, _, rfl, hl, hnc, hcm, (fun h => by cases h), fun _ => ⟨g, 0, rfl, (Array.getElem?_eq_some_iff.1 hh).1, fun k u hu => ?_⟩⟩
  have := h.cells (g := g) rfl k u hu
  rwa [addr_addN] at this
theorem Sees.at_ (h : Sees w A n c 1 xs) {k : Nat} (hk : k < n) : ∃ g o u, A = some ⟨g, o, none⟩ ∧ xs[k]? = some u ∧ w.cell? ⟨g, o + k, none⟩ = some u := by
 obtain ⟨g, o, e, _, hc⟩ := h.2.2.2.2 (by omega)
 have hl : k < xs.length := by have := h.1; omega
 exact ⟨g, o, _, e, List.getElem?_eq_getElem hl, hc k _ (List.getElem?_eq_getElem hl)⟩
end
theorem below_drewN {B : Nat} {a w : World} (h : Below B a w) (n : Nat) : Below B a (w.drewN n) := ⟨h.os, h.tape, h.output, h.size, h.block⟩
theorem wpList_append_src {P : Program} {t e : TypeId} {z : Value} {size bytes : Nat} (hS : SliceTy P t e z size bytes)
  {ops : Array Oper} {rest : List Oper} {o : Oper} {a : Act} {Q : Exit → Act → World → Prop} (hgd : o.guard = none) (s x : Operand)
  (ho : o.op = .call { callee := .builtin .append, args := #[s, x], argTypes := #[t, t] })
  {B : Nat} {w0 wr : World} {v : Value} {n m : Nat} {xs ys : List Value} {A : Option Addr} {c : Nat}
  (hs : a.eval s = v) (hx : a.eval x = .slice A m c)
  (hown : wr.ownsRow B e size v n xs) (hsee : Sees wr A m c size ys) (hb : Below B w0 wr) (hB : B ≤ w0.heap.size) (h1 : ∀ u ∈ ys, u.oneCell' = true)
  (hn : (n + m) * bytes ≤ 140737488355328)
  (h : ∀ v' w1, w1.ownsRow B e size v' (n + m) (xs ++ ys) → Below B w0 w1 → wr.grownBy w1 v.ownBlock → wpList P ops Q rest (a.put o.dst v') w1) :
  wpList P ops Q (o :: rest) a wr := by
 obtain ⟨ht, h2, h3, hzs, i, hi, hz, hsz, hby⟩ := hS
 have hB' := hb.size
 have hm : n + m ≤ (n + m) * bytes := Nat.le_mul_of_pos_right _ h3
 obtain ⟨k1, k2, k3, k4, k5⟩ := hsee
 have hrow : ∀ k, v.ownBlock = some k → B ≤ k := fun k hk => (hown.lt k hk).1
 rcases A with _ | ad
 ·obtain ⟨rfl, rfl⟩ := k4 rfl
  have hy : ys = [] := List.eq_nil_of_length_eq_zero (by simpa using k1)
  subst hy
  refine wpList_append_own_none hgd s x t ho B e i size ht hi v n xs hs hown hx ?_
  exact h v wr (by simpa using hown) hb (World.grownBy.refl wr _)
 ·have hcells : ∀ j u, ys[j]? = some u → wr.cell? (ad.add j) = some u := by
   intro j u hu
   rcases Nat.eq_zero_or_pos m with rfl | hp
   ·have hy : ys = [] := List.eq_nil_of_length_eq_zero (by simpa using k1)
    subst hy
    simp at hu
   ·obtain ⟨g, o', e1, _, hc⟩ := k5 hp
    injection e1 with e1
    subst e1
    rw [addr_addN]
    exact hc j u hu
  refine wpList_append_own _ hgd s x t ho B e i z size bytes ht hi hz hsz hby hzs h2 v n xs hs hown ad m c ys hx k1 hcells h1 (by unfold maxLen; omega) hn (by omega) ?_
  intro v' w1 hown' hg hv
  exact h v' w1 hown' (hb.grown hg (by omega) hrow) hg
theorem below_step {w a b : World} (h : Below w.heap.size w a) (hb : Below a.heap.size a b) : Below w.heap.size w b := h.trans (hb.mono h.size)
end Go.Proofs.YtkgdfccpkiglaaaDoor
