/- '[]byte(s)' in a walk: what it makes shows s's bytes. No program in sight. row.Name, walked. -/
import Derived.Test.YtkgdfccpkiglaaaDoorSWords
import Derived.Laws.IdiomStrings
import Derived.Lib.Strings
namespace Go.Proofs.YtkgdfccpkiglaaaDoor
open Go.RowKit
def byteCells (l : List UInt8) : List Value := l.map fun b => .int .u8 (b.toNat : Int)
theorem byteCells_get {l : List UInt8} {k : Nat} (h : k < l.length) : (byteCells l)[k]? = some (.int .u8 (l[k].toNat : Int)) := by
 unfold byteCells; rw [List.getElem?_map, List.getElem?_eq_getElem h]; rfl
theorem byteCells_at {l : List UInt8} {k : Nat} {b : UInt8} (h : l[k]? = some b) : (byteCells l)[k]? = some (.int .u8 (b.toNat : Int)) := by
 unfold byteCells; rw [List.getElem?_map, h]; rfl
theorem bytes_conv {P : Program} (w : World) (src dst e : TypeId) (s : ByteArray) (hs : P.underlying src = some .string) (hd : P.underlying dst = some (.slice e)) (he : P.underlying e = some (.int .u8)) :
  ∃ (C : Array Value) (c m : Nat), (convert src dst (.string s)).run P w = .ok (.slice (some ⟨w.heap.size, 0, none⟩) s.size c) (w.drew.alloc (.cells C e (m, m + 1))) ∧
   (∀ k, k < s.data.toList.length → (w.alloc (.cells C e (m, m + 1))).cell? ⟨w.heap.size, k, none⟩ = (byteCells s.data.toList)[k]?) ∧ s.size ≤ c := by
 refine ⟨_, _, _, run_bytes_of_string w src dst e s hs hd he, fun k hk => ?_, grownCap_ge w _ 0 e⟩
 have h0 : (w.alloc (.cells (bytesRow s (grownCap w s.size 0 e)) e ((bytesRow s (grownCap w s.size 0 e)).size, (bytesRow s (grownCap w s.size 0 e)).size + 1))).heap[w.heap.size]? =
   some (.cells (bytesRow s (grownCap w s.size 0 e)) e ((bytesRow s (grownCap w s.size 0 e)).size, (bytesRow s (grownCap w s.size 0 e)).size + 1)) := heap_alloc_new w _
 rw [cell_of_row _ _ _ _ _ _ h0]
 have hk' : k < s.data.size := by simpa using hk
 rw [byteCells_get hk]
 unfold bytesRow
 rw [Array.getElem?_append_left (by simpa using hk')]
 simp only [Array.getElem?_map, Option.map_eq_some_iff]
 exact ⟨_, Array.getElem?_eq_getElem hk', by simp⟩
end Go.Proofs.YtkgdfccpkiglaaaDoor
namespace Go.Proofs.YtkgdfccpkiglaaaDoor
open Go.ChangeShapes Go.WideShapes Go.ChangeAt Go.RowKit
theorem size_eq (s : ByteArray) : s.data.toList.length = s.size := by rw [Array.length_toList]; rfl
theorem all_take_succ {l : List UInt8} {k : Nat} {b : UInt8} {p : UInt8 → Bool} (h : (l.take k).all p = true) (hk : l[k]? = some b) (hc : p b = true) : (l.take (k + 1)).all p = true := by
 rw [List.take_add_one, hk, List.all_append, h]; simp [hc]
theorem all_false {l : List UInt8} {k : Nat} {b : UInt8} {p : UInt8 → Bool} (hk : l[k]? = some b) (hc : p b = false) : l.all p = false := by
 rw [List.all_eq_false]; exact ⟨_, List.mem_of_getElem? hk, by simp [hc]⟩
end Go.Proofs.YtkgdfccpkiglaaaDoor
