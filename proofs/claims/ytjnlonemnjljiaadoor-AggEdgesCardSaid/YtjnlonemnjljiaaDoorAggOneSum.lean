/- The little accumulator of one sum that two of the laws begin with; rows as they come, and the other way round. -/
import Derived.Test.YtjnlonemnjljiaaDoorAggIn
import Derived.Test.YtjnlonemnjljiaaDoorRefVal
namespace Go.Proofs.YtjnlonemnjljiaaDoor
open Go.ChangeShapes Go.WideShapes Go.ChangeAt Go.RowKit

def aggOf (s : ByteArray) : AggH := ⟨s, ⟨#[]⟩, ⟨#[]⟩, 0, 0, ⟨#[]⟩, none, 0, 0, 0, ⟨#[]⟩⟩
def sumB : ByteArray := ⟨#[115, 117, 109]⟩
def ksSum : List Kd := [⟨sumB, 1⟩]
theorem sum_new : newFault [aggOf sumB] [1] = 0 := by decide
theorem sum_kds : kdsOf [aggOf sumB] [1] = ksSum := rfl
theorem sum_ok (n : Int) : rowFault ksSum [ofV n] = 0 := rfl
theorem sum_add (rows : List (List Val)) (n : Int) : addGood ksSum rows [ofV n] = rows ++ [[ofV n]] := if_pos (sum_ok n)
theorem seesOneAgg (w : World) (s : ByteArray) (T : TypeId) : SeesAggs (w.alloc (.cells #[.string s, .string ⟨#[]⟩, .string ⟨#[]⟩, .int .i64 0, .int .i64 0, .string ⟨#[]⟩, .slice none 0 0, .int .i64 0, .string ⟨#[]⟩] T)) (some ⟨w.heap.size, 0, none⟩) 1 1 [aggOf s] :=
  ⟨rfl, seesNew w (aggsCells [aggOf s]) T 1 9 rfl (by decide)⟩
theorem seesOneVal (w : World) (v : Val) (T : TypeId) : SeesVals (w.alloc (.cells #[.int .i64 v.type, .int .i64 v.n, .string v.s] T)) (some ⟨w.heap.size, 0, none⟩) 1 1 [v] :=
  ⟨rfl, seesNew w (valsCells [v]) T 1 3 rfl (by decide)⟩
theorem ofV_wf {n : Int} (h : fits n) : ∀ v ∈ [ofV n], v.wf := by
  intro v hv
  rw [List.mem_singleton.1 hv]
  exact ⟨(by decide : fits 1), h, Nat.zero_le _⟩
theorem addGood_append (ks : List Kd) (a b : List (List Val)) (r : List Val) : addGood ks (a ++ b) r = a ++ addGood ks b r := by
  unfold addGood; split
  · rw [List.append_assoc]
  · rfl
theorem filt_step {ks : List Kd} {L : List (List Val)} {i : Nat} {r : List Val} (h : L[i]? = some r) : addGood ks ((L.take i).filter (fun q => rowFault ks q = 0)) r = (L.take (i + 1)).filter (fun q => rowFault ks q = 0) := by
  rw [List.take_add_one, h, List.filter_append]
  unfold addGood
  by_cases hz : rowFault ks r = 0
  · rw [if_pos hz]; simp [hz]
  · rw [if_neg hz]; simp [hz]
theorem filt_len (ks : List Kd) (L : List (List Val)) (i : Nat) : ((L.take i).filter (fun q => rowFault ks q = 0)).length ≤ i := by
  have h1 := List.length_filter_le (fun q => decide (rowFault ks q = 0)) (L.take i)
  have h2 : (L.take i).length ≤ i := by rw [List.length_take]; omega
  omega
end Go.Proofs.YtjnlonemnjljiaaDoor
