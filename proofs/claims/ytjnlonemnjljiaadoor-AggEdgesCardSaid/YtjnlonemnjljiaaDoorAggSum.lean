/- sluiceref2.Total, walked, of rows that are right. -/
import Derived.Test.YtjnlonemnjljiaaDoorTotLaw
import Derived.Test.YtjnlonemnjljiaaDoorRefOrder
import Derived.Test.YtjnlonemnjljiaaDoorSplitParts
import Derived.Test.YtjnlonemnjljiaaDoorAggJoin
import Derived.StillTailTactics
namespace Go.Proofs.YtjnlonemnjljiaaDoor
open Go.ChangeShapes Go.WideShapes Go.ChangeAt Go.RowKit

def rowsOf (hs : List RowH) : List (List Val) := hs.map (·.r)
theorem row_val {w : World} {R : Option Addr} {m rc n : Nat} {hs : List RowH} (h : SeesRows w R m rc hs) (hq : ∀ x ∈ hs, x.n = n) {k j : Nat} (hk : k < m) (hj : j < n) :
    ∃ g o x g2 o2 v, R = some ⟨g, o, none⟩ ∧ x ∈ hs ∧ x.R = some ⟨g2, o2, none⟩ ∧ n ≤ x.c ∧ w.cell? ⟨g, o + k, none⟩ = some (.slice (some ⟨g2, o2, none⟩) n x.c) ∧ (colAt j (rowsOf hs))[k]? = some v ∧ v ∈ x.r ∧
      w.cell? ⟨g2, o2 + j * 3, none⟩ = some (.int .i64 v.type) ∧ w.cell? ⟨g2, o2 + j * 3 + 1, none⟩ = some (.int .i64 v.n) ∧ w.cell? ⟨g2, o2 + j * 3 + 2, none⟩ = some (.string v.s) := by
  obtain ⟨g, o, x, rfl, hx, hs1, hc⟩ := h.at_ hk
  have hm := List.mem_of_getElem? hx
  have hxn := hq x hm
  obtain ⟨g2, o2, v, e, -, hv, a0, a1, a2⟩ := hs1.at_ (k := j) (by omega)
  refine ⟨g, o, x, g2, o2, v, rfl, hm, e, by have := hs1.2.2.1; omega, by rw [hc, e, hxn], ?_, List.mem_of_getElem? hv, a0, a1, a2⟩
  exact colAt_at (by unfold rowsOf; rw [List.getElem?_map, hx]; rfl) hv
def TotSays (l : List One) (n : Nat) (w : World) (e : Ending) (w' : World) : Prop :=
  (∃ A' c', e = .returned (.tuple #[.slice A' (onesRes l n).2.length c', .int .i64 (onesRes l n).1]) ∧ SeesVals w' A' (onesRes l n).2.length c' (onesRes l n).2) ∧ Below w.heap.size w w'
theorem word_facts {k : Kd} : (isCount k.what ∧ (k.what.toList == [99, 111, 117, 110, 116]) = true) ∨
    (¬ isCount k.what ∧ (k.what.toList == [99, 111, 117, 110, 116]) = false ∧ ((isSum k.what ∧ (k.what.toList == [115, 117, 109]) = true) ∨
      (¬ isSum k.what ∧ (k.what.toList == [115, 117, 109]) = false ∧ ∃ bl bm, isLeast k.what = bl ∧ isMost k.what = bm ∧ (k.what.toList == [108, 101, 97, 115, 116]) = bl ∧ (k.what.toList == [109, 111, 115, 116]) = bm ∧ (bl = true → bm = false)))) := by
  rw [Lib.toList_data]
  by_cases hc : isCount k.what
  · left; exact ⟨hc, by unfold isCount at hc; rw [hc]; rfl⟩
  · right
    refine ⟨hc, beq_eq_false_iff_ne.2 hc, ?_⟩
    by_cases hs : isSum k.what
    · left; exact ⟨hs, by unfold isSum at hs; rw [hs]; rfl⟩
    · right
      exact ⟨hs, beq_eq_false_iff_ne.2 hs, _, _, rfl, rfl, rfl, rfl, least_not_most⟩
end Go.Proofs.YtjnlonemnjljiaaDoor
