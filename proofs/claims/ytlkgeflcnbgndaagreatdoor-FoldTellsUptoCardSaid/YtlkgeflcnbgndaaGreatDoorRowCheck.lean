/- row.Check, walked: what is wrong with a row. -/
import Derived.Test.YtlkgeflcnbgndaaGreatDoorSchema
import Derived.Test.YtlkgeflcnbgndaaGreatDoorVals
namespace Go.Proofs.YtlkgeflcnbgndaaGreatDoor
open Go.ChangeShapes Go.WideShapes Go.ChangeAt Go.RowKit

def rowAt (cols : List Col) (r : List Val) (k : Nat) : Int := match r[k]?, cols[k]? with
  | some v, some c => if vcheck v ≠ 0 then vcheck v else if v.type ≠ c.type then 8 else 0
  | _, _ => 0
/-- What is wrong with a row; 0: nothing. -/
def rowErr (cols : List Col) (r : List Val) : Int := if schemaErr cols ≠ 0 then schemaErr cols else if r.length ≠ cols.length then 3 else firstErr (rowAt cols r) r.length
theorem rowAt_get {cols : List Col} {r : List Val} {k : Nat} {v : Val} {c : Col} (h1 : r[k]? = some v) (h2 : cols[k]? = some c) : rowAt cols r k = if vcheck v ≠ 0 then vcheck v else if v.type ≠ c.type then 8 else 0 := by
  unfold rowAt; rw [h1, h2]
theorem firstErr_all {f : Nat → Int} : ∀ {n : Nat}, firstErr f n = 0 → ∀ k, k < n → f k = 0
  | 0, _, k, h => by omega
  | n + 1, h, k, hk => by
    by_cases h0 : firstErr f n = 0
    · by_cases hn : f n = 0
      · by_cases e : k = n
        · rw [e]; exact hn
        · exact firstErr_all h0 k (by omega)
      · exact absurd ((firstErr_hit h0 hn (n + 1) (by omega)).symm.trans h) hn
    · have : ∀ m, firstErr f (m + 1) = if firstErr f m = 0 then f m else firstErr f m := fun m => by rw [firstErr]
      rw [this, if_neg h0] at h; exact absurd h h0

end Go.Proofs.YtlkgeflcnbgndaaGreatDoor
