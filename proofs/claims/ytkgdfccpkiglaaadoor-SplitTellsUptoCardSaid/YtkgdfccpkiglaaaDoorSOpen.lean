/- From the reading of an argument to what a walk sees: slices of whatever elements. No program in sight. -/
import Derived.Test.YtkgdfccpkiglaaaDoorSWords
import Derived.Deep.Slices
import Derived.ChangeArms
import Derived.DataReads
namespace Go.Proofs.YtkgdfccpkiglaaaDoor
open Go.ChangeShapes Go.WideShapes Go.ChangeAt Go.RowKit
theorem flatten_length {α : Type} {size : Nat} : ∀ {css : List (List α)}, (∀ u ∈ css, u.length = size) → css.flatten.length = css.length * size
 | [], _ => by simp
 | c :: css, h => by
  have ih := flatten_length (css := css) fun u hu => h u (List.mem_cons_of_mem _ hu)
  rw [List.flatten_cons, List.length_append, ih, h c List.mem_cons_self, List.length_cons, Nat.add_mul]; omega
theorem flatten_get {α : Type} {size : Nat} : ∀ {css : List (List α)} {j : Nat} {u : α}, (∀ c ∈ css, c.length = size) → css.flatten[j]? = some u → ∃ k i c, j = k * size + i ∧ i < size ∧ css[k]? = some c ∧ c[i]? = some u
 | [], j, u, _, h => by simp at h
 | c :: css, j, u, hl, h => by
  have h0 := hl c List.mem_cons_self
  rw [List.flatten_cons] at h
  by_cases hj : j < c.length
  ·rw [List.getElem?_append_left hj] at h
   exact ⟨0, j, c, by omega, by omega, rfl, h⟩
  ·rw [List.getElem?_append_right (by omega)] at h
   obtain ⟨k, i, c', e, hi, hc, hu⟩ := flatten_get (fun x hx => hl x (List.mem_cons_of_mem _ hx)) h
   exact ⟨k + 1, i, c', by rw [Nat.add_mul]; omega, hi, by simpa using hc, hu⟩
section
variable {H : Type} {enc : TypeId × Value → H} {P : Program} {w : World}
theorem open_sees {t e : TypeId} {size fuel : Nat} {cs : List Value} {x : DataW H × List MemPlace} (ht : P.underlying t = some (.slice e)) (hC : P.cellsOf e = size) (hpos : 0 < size)
  (h : DataW.trod enc P w 0 (fun _ => true) true fuel t cs = some x) (R : List Value → DataW H → Prop)
  (hR : ∀ m cs' y, fuel = m + 1 → DataW.trod enc P w 0 (fun _ => true) true m e cs' = some y → R cs' y.1) :
  ∃ (A : Option Addr) (n c : Nat) (css : List (List Value)) (ds : List (DataW H)), cs = [.slice A n c] ∧ css.length = n ∧ ds.length = n ∧ Sees w A n c size css.flatten ∧
   (∀ u ∈ css, u.length = size) ∧ (∀ (k : Nat) (u : List Value), css[k]? = some u → ∃ d : DataW H, ds[k]? = some d ∧ R u d) ∧ ((x.1 = .nil ∧ n = 0 ∧ c = 0) ∨ ∃ sp, x.1 = .slice ds sp ∧ ds.length + sp.length = c) := by
 rcases DataW.trod_slice ht h with ⟨rfl, rfl⟩ | ⟨a, len, cap, elems, rest, m, hf, rfl, rfl, _, hl, hm, hlen, hel, hsp, _⟩
 ·exact ⟨none, 0, 0, [], [], rfl, rfl, rfl, Sees.nil _ _, by simp, by simp, Or.inl ⟨rfl, rfl, rfl⟩⟩
 ·have key : ∀ i, i < len → ∃ cs', w.cells? 0 (a.add (i * size)) size = some cs' ∧ ∃ y, elems[i]? = some y ∧ DataW.trod enc P w 0 (fun _ => true) true m e cs' = some y := by
   intro i hi
   have h1 := hel i hi
   rw [List.getElem?_eq_getElem (by omega), hC] at h1
   obtain ⟨cs', h2, h3⟩ := Option.bind_eq_some_iff.1 h1
   exact ⟨cs', h2, _, List.getElem?_eq_getElem (by omega), h3⟩
  obtain ⟨f, hf'⟩ := Go.Deep.choose_lt (α := List Value) (p := fun i cs' => w.cells? 0 (a.add (i * size)) size = some cs' ∧ ∃ y, elems[i]? = some y ∧ DataW.trod enc P w 0 (fun _ => true) true m e cs' = some y) key
  have hcss : ∀ k u, ((List.range len).map f)[k]? = some u → k < len ∧ u = f k := by
   intro k u hu
   rw [List.getElem?_map] at hu
   by_cases hk : k < len
   ·rw [List.getElem?_range hk] at hu; exact ⟨hk, by simpa using hu.symm⟩
   ·rw [List.getElem?_eq_none (by simpa using Nat.le_of_not_lt hk)] at hu; cases hu
  have hsz : ∀ u ∈ (List.range len).map f, u.length = size := by
   intro u hu
   obtain ⟨k, hk⟩ := List.mem_iff_getElem?.1 hu
   obtain ⟨hk1, rfl⟩ := hcss k u hk
   exact (World.cells?_some (hf' k hk1).1).2.1
  refine ⟨some a, len, cap, (List.range len).map f, elems.map (·.1), rfl, by simp, by simpa using hlen, ⟨?_, hl, hm, (fun e => by cases e), fun hp => ?_⟩, hsz, ?_, Or.inr ⟨rest.map (·.1), rfl, ?_⟩⟩
  ·rw [flatten_length hsz]; simp
  ·obtain ⟨g, o, sp⟩ := a
   have h0 := (World.cells?_some (hf' 0 hp).1).2.2 0 (by omega)
   have hlen0 := (World.cells?_some (hf' 0 hp).1).2.1
   rw [List.getElem?_eq_getElem (by omega)] at h0
   simp only [Nat.zero_mul] at h0
   have hspot : sp = none := by simpa [Addr.add] using World.cell?_spot h0
   subst hspot
   refine ⟨g, o, rfl, ?_, fun j u hu => ?_⟩
   ·have := World.block_lt_of_cell? w _ h0
    simpa [Addr.add] using this
   ·obtain ⟨k, i, c', rfl, hi, hc', hu'⟩ := flatten_get hsz hu
    obtain ⟨hk, rfl⟩ := hcss k c' hc'
    have := (World.cells?_some (hf' k hk).1).2.2 i hi
    rw [addr_addN, addr_addN] at this
    rw [show o + (k * size + i) = o + k * size + i by omega, this]
    exact hu'
  ·intro k u hu
   obtain ⟨hk, rfl⟩ := hcss k u hu
   obtain ⟨y, hy, ht'⟩ := (hf' k hk).2
   exact ⟨y.1, by rw [List.getElem?_map, hy]; rfl, hR m _ y hf ht'⟩
  ·have := (hsp rfl).1
   simp only [List.length_map]; omega
end
end Go.Proofs.YtkgdfccpkiglaaaDoor
