/- eval.Of and eval.Eval, walked: what an expression comes to, of a row. -/
import Derived.Test.YtlkgeflcnbgndaaGreatDoorEvFn
import Derived.Test.YtlkgeflcnbgndaaGreatDoorRowCheck
import Derived.RegionTactic
import Derived.BigRegion
namespace Go.Proofs.YtlkgeflcnbgndaaGreatDoor
open Go.ChangeShapes Go.WideShapes Go.ChangeAt Go.RowKit

theorem valSlice : SliceTy Tryz.prog 63 23 (.agg #[.int .i64 0, .int .i64 0, .string ⟨#[]⟩]) 3 32 := SliceTy.of Tryz.underlying63 (by kernel_rfl) rfl (by decide) (by decide)
theorem valsCells_snoc (l : List Val) (v : Val) : valsCells (l ++ [v]) = valsCells l ++ (#[Value.int .i64 v.type, .int .i64 v.n, .string v.s] : Array Value).toList := by simp [valsCells, valCells]
def EvSays (x : EvR) (w : World) (e : Ending) (w' : World) : Prop := e = .returned (.tuple #[valV x.v, errV x.k]) ∧ Below w.heap.size w w'
theorem evLoop_end {cols : List Col} {r : List Val} {op : ByteArray} {acc : List Val} {args : List Ex} {n : Nat} (h : args.length = n) : evLoop cols r op (args.drop n) acc = ⟨applyErr op acc, applyVal op acc⟩ := by
  rw [List.drop_of_length_le (by omega), evLoop]
theorem rowErr_ok {cols : List Col} {r : List Val} (h : rowErr cols r = 0) (hw : ∀ v ∈ r, v.wf) : schemaErr cols = 0 ∧ RowOk cols r := by
  unfold rowErr at h
  by_cases h1 : schemaErr cols = 0
  · rw [if_neg (by simp [h1])] at h
    by_cases h2 : r.length = cols.length
    · rw [if_neg (by simp [h2])] at h
      have key : ∀ (i : Nat) (c : Col) (v : Val), cols[i]? = some c → r[i]? = some v → vcheck v = 0 ∧ v.type = c.type := by
        intro i c v hc hv
        have := firstErr_all h i (List.getElem?_eq_some_iff.1 hv).1
        rw [rowAt_get hv hc] at this
        by_cases h3 : vcheck v = 0
        · rw [if_neg (by simp [h3])] at this
          by_cases h4 : v.type = c.type
          · exact ⟨h3, h4⟩
          · rw [if_pos h4] at this; omega
        · rw [if_pos h3] at this; exact absurd this h3
      refine ⟨h1, h2, ?_, fun i c v hc hv => (key i c v hc hv).2⟩
      intro v hv
      obtain ⟨i, hi⟩ := List.mem_iff_getElem?.1 hv
      have hl := (List.getElem?_eq_some_iff.1 hi).1
      exact ⟨hw v hv, (key i _ v (List.getElem?_eq_getElem (by omega)) hi).1⟩
    · rw [if_pos h2] at h; omega
  · rw [if_pos h1] at h; exact absurd h h1


/-- What an expression comes to, of a row: the value, or the fault. -/
def evalR (cols : List Col) (r : List Val) (e : Ex) : EvR := if (typeOf cols e).h ≠ 0 then ⟨(typeOf cols e).h, noVal⟩ else if rowErr cols r ≠ 0 then ⟨rowErr cols r, noVal⟩ else evE cols r e
theorem typeOf_ok {cols : List Col} {e : Ex} (h : (typeOf cols e).h = 0) : nodesErr e = 0 ∧ (ofE cols e).h = 0 ∧ checkErr e = 0 ∧ schemaErr cols = 0 ∧ typeOf cols e = ofE cols e := by
  unfold typeOf at h ⊢
  by_cases h1 : checkErr e = 0
  · rw [if_neg (by simp [h1])] at h ⊢
    by_cases h2 : schemaErr cols = 0
    · rw [if_neg (by simp [h2])] at h ⊢
      exact ⟨checkErr_nodes h1, h, h1, h2, rfl⟩
    · rw [if_pos h2] at h; exact absurd h h2
  · rw [if_pos h1] at h; exact absurd h h1

end Go.Proofs.YtlkgeflcnbgndaaGreatDoor
