/- Of the lists of parts: their numbers, in order; together as many as there are; rows that are the same there have one part. No program in sight. -/
import Derived.Test.YtapbmknimejldaaDoorSplitParts
namespace Go.Proofs.YtapbmknimejldaaDoor
open Go.ChangeShapes Go.WideShapes Go.ChangeAt Go.RowKit

theorem part_get {pf : Nat → Int} {m j k : Nat} {x : Int} (h : (partList pf m j)[k]? = some x) : ∃ i : Nat, x = i ∧ i < m ∧ pf i = j := by
  have hm := List.mem_of_getElem? h
  unfold partList at hm
  obtain ⟨i, hi, rfl⟩ := List.mem_map.1 hm
  obtain ⟨h1, h2⟩ := List.mem_filter.1 hi
  exact ⟨i, rfl, List.mem_range.1 h1, by simpa using h2⟩
theorem part_sorted (pf : Nat → Int) (m j : Nat) : (partList pf m j).Pairwise (· < ·) := by
  unfold partList
  refine List.Pairwise.map _ (R := fun a b : Nat => a < b) (fun a b h => by omega) ?_
  exact List.Pairwise.filter _ List.pairwise_lt_range
theorem part_before {pf : Nat → Int} {m j k : Nat} {x y : Int} (h1 : (partList pf m j)[k]? = some x) (h2 : (partList pf m j)[k + 1]? = some y) : x < y := by
  obtain ⟨a, rfl⟩ := List.getElem?_eq_some_iff.1 h1
  obtain ⟨b, rfl⟩ := List.getElem?_eq_some_iff.1 h2
  exact List.pairwise_iff_getElem.1 (part_sorted pf m j) k (k + 1) a b (by omega)
theorem part_mem {pf : Nat → Int} {m j i : Nat} (hi : i < m) (hp : pf i = j) : (i : Int) ∈ partList pf m j := by
  unfold partList
  exact List.mem_map.2 ⟨i, List.mem_filter.2 ⟨List.mem_range.2 hi, by simp [hp]⟩, rfl⟩
def sumLen (pf : Nat → Int) (m : Nat) : Nat → Nat
  | 0 => 0
  | i + 1 => sumLen pf m i + (partList pf m i).length
theorem sumLen_next {pf : Nat → Int} {k p : Nat} (h : pf k = p) : ∀ i, sumLen pf (k + 1) i = sumLen pf k i + if p < i then 1 else 0
  | 0 => by simp [sumLen]
  | i + 1 => by
    rw [sumLen, sumLen, sumLen_next h i, partList_next h]
    by_cases e : i = p
    · subst e; rw [upd_same]; simp; omega
    · rw [upd_other e]
      by_cases h1 : p < i
      · rw [if_pos h1, if_pos (by omega)]; omega
      · rw [if_neg h1, if_neg (by omega)]; omega
theorem sumLen_zero (pf : Nat → Int) : ∀ i, sumLen pf 0 i = 0
  | 0 => rfl
  | i + 1 => by rw [sumLen, sumLen_zero pf i]; rfl
theorem sumLen_all {pf : Nat → Int} {N : Nat} : ∀ m : Nat, (∀ i, i < m → 0 ≤ pf i ∧ pf i < N) → sumLen pf m N = m
  | 0, _ => sumLen_zero pf N
  | m + 1, h => by
    have hm := h m (by omega)
    rw [sumLen_next (p := (pf m).toNat) (by omega) N, sumLen_all m (fun i hi => h i (by omega)), if_pos (by omega)]
theorem sumLen_le (pf : Nat → Int) (m : Nat) : ∀ i, sumLen pf m i ≤ i * m
  | 0 => by simp [sumLen]
  | i + 1 => by
    rw [sumLen, Nat.add_mul, Nat.one_mul]
    have := sumLen_le pf m i
    have := partList_le pf m i
    omega
theorem pf_bound {hs : List RowH} {cols : List Int} {N m : Nat} (hN : 1 ≤ N) (hl : hs.length = m) : ∀ i, i < m → 0 ≤ pfOf hs cols N i ∧ pfOf hs cols N i < N := by
  intro i hi
  unfold pfOf
  rw [List.getElem?_eq_getElem (by omega)]
  exact partOf_bound _ _ (by omega)
theorem partSum_same {r q : List Val} : ∀ (l : List Int) (k : Int), (∀ c ∈ l, r.getD c.toNat noVal = q.getD c.toNat noVal) → partSum r k l = partSum q k l
  | [], k, _ => by rw [partSum, partSum]
  | c :: l, k, h => by
    rw [partSum, partSum, h c List.mem_cons_self]
    exact partSum_same l _ fun x hx => h x (List.mem_cons_of_mem _ hx)
/-- Two values that are not the same differ somewhere. -/
theorem val_diff {a b : Val} (h : a ≠ b) : (a.type == b.type) = false ∨ (a.type = b.type ∧ (a.n == b.n) = false) ∨ (a.type = b.type ∧ a.n = b.n ∧ (a.s.toList == b.s.toList) = false) := by
  by_cases h1 : a.type = b.type
  · by_cases h2 : a.n = b.n
    · refine Or.inr (Or.inr ⟨h1, h2, ?_⟩)
      rw [Lib.toList_data, Lib.toList_data]
      refine beq_eq_false_iff_ne.2 fun e => h ?_
      obtain ⟨t, n, s⟩ := a
      obtain ⟨t2, n2, s2⟩ := b
      simp only at h1 h2 e
      subst h1 h2
      have : s = s2 := by
        cases s; cases s2
        congr 1
        exact Array.toList_inj.1 e
      rw [this]
    · exact Or.inr (Or.inl ⟨h1, by simpa using h2⟩)
  · exact Or.inl (by simpa using h1)
end Go.Proofs.YtapbmknimejldaaDoor
