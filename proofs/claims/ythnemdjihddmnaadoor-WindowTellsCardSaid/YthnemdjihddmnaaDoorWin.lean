/- WINDOWS, in plain Lean: the j-th begins at j * slide; those between two times. No program. -/
import Derived.Test.YthnemdjihddmnaaDoorRows
namespace Go.Proofs.YthnemdjihddmnaaDoor
namespace Win
/-- The j-th window's beginning. -/
def win (slide j : Int) : Int := j * slide
theorem win_succ (slide j : Int) : win slide (j + 1) = win slide j + slide := by unfold win; rw [Int.add_mul]; omega
theorem win_mono {slide i j : Int} (hs : 0 ≤ slide) (h : i ≤ j) : win slide i ≤ win slide j := Int.mul_le_mul_of_nonneg_right h hs
theorem win_nonneg {slide j : Int} (hs : 0 ≤ slide) (h : 0 ≤ j) : 0 ≤ win slide j := Int.mul_nonneg h hs
theorem win_zero (slide : Int) : win slide 0 = 0 := by simp [win]
/-- How many windows end at b or below. -/
def idx (size slide b : Int) : Int := (b - size) / slide + 1
/-- .. the first that ends above a. -/
def fst (size slide a : Int) : Int := if a < size then 0 else idx size slide a
theorem win_le_iff {size slide b j : Int} (hs : 1 ≤ slide) : win slide j + size ≤ b ↔ j < idx size slide b := by
  unfold win idx
  have := Int.le_ediv_iff_mul_le (a := j) (b := b - size) (c := slide) (by omega)
  omega
theorem fst_nonneg {size slide a : Int} (hs : 1 ≤ slide) : 0 ≤ fst size slide a := by
  unfold fst idx
  split
  · omega
  · have := Int.ediv_nonneg (a := a - size) (b := slide) (by omega) (by omega); omega
theorem idx_le_fst {size slide a : Int} (hs : 1 ≤ slide) : idx size slide a ≤ fst size slide a := by
  unfold fst
  split
  · unfold idx
    have := Int.ediv_neg_of_neg_of_pos (a := a - size) (b := slide) (by omega) (by omega); omega
  · omega
theorem fst_eq {size slide a : Int} (hs : 1 ≤ slide) : fst size slide a = max 0 (idx size slide a) := by
  unfold fst
  split
  · have := Int.ediv_neg_of_neg_of_pos (a := a - size) (b := slide) (by omega) (by omega)
    unfold idx; omega
  · have := Int.ediv_nonneg (a := a - size) (b := slide) (by omega) (by omega)
    unfold idx; omega
theorem idx_mono {size slide a b : Int} (hs : 1 ≤ slide) (h : a ≤ b) : idx size slide a ≤ idx size slide b := by
  unfold idx
  have := Int.ediv_le_ediv (a := a - size) (b := b - size) (c := slide) (by omega) (by omega); omega
/-- The windows from i on, below j. -/
def wins (slide i j : Int) : List Int := (List.range (j - i).toNat).map fun (k : Nat) => win slide (i + k)
theorem wins_length (slide i j : Int) : (wins slide i j).length = (j - i).toNat := by simp [wins]
theorem wins_snoc {slide i : Int} (k : Nat) : wins slide i (i + k + 1) = wins slide i (i + k) ++ [win slide (i + k)] := by
  unfold wins
  rw [show (i + k + 1 - i).toNat = k + 1 from by omega, show (i + k - i).toNat = k from by omega, List.range_succ, List.map_append]
  rfl
theorem wins_self (slide i : Int) : wins slide i i = [] := by simp [wins]
theorem wins_get {slide i j : Int} {k : Nat} (h : (k : Int) < j - i) : (wins slide i j)[k]? = some (win slide (i + k)) := by
  unfold wins
  rw [List.getElem?_map, List.getElem?_range (by omega)]; rfl
theorem wins_append {slide i j l : Int} (h1 : i ≤ j) (h2 : j ≤ l) : wins slide i j ++ wins slide j l = wins slide i l := by
  unfold wins
  rw [show (l - i).toNat = (j - i).toNat + (l - j).toNat from by omega, List.range_add, List.map_append, List.map_map]
  congr 1
  apply List.map_congr_left
  intro k _
  simp only [Function.comp]
  congr 1
  have : (((j - i).toNat + k : Nat) : Int) = j - i + k := by omega
  omega
theorem wins_empty {slide i j : Int} (h : j ≤ i) : wins slide i j = [] := by
  unfold wins; rw [show (j - i).toNat = 0 from by omega]; rfl
end Win
end Go.Proofs.YthnemdjihddmnaaDoor
