/- The least and the most of numbers, and the sum of as many alike: plain. -/
import Derived.Test.YtjnlonemnjljiaaDoorAggOneSum
import Derived.Test.YtjnlonemnjljiaaDoorReckonFn
namespace Go.Proofs.YtjnlonemnjljiaaDoor
open Go.RowKit

def leastB : ByteArray := ⟨#[108, 101, 97, 115, 116]⟩
def mostB : ByteArray := ⟨#[109, 111, 115, 116]⟩
def countB : ByteArray := ⟨#[99, 111, 117, 110, 116]⟩
def ksEdge : List Kd := [⟨leastB, 1⟩, ⟨mostB, 1⟩, ⟨countB, 0⟩]
def aggsEdge : List AggH := [aggOf leastB, aggOf mostB, aggOf countB]
theorem edge_new : newFault aggsEdge [1, 1, 0] = 0 := by decide
theorem edge_kds : kdsOf aggsEdge [1, 1, 0] = ksEdge := rfl
def rowE (x : Int) : List Val := [ofV x, ofV x, noVal]
theorem edge_ok (x : Int) : rowFault ksEdge (rowE x) = 0 := rfl
theorem edge_add (rows : List (List Val)) (x : Int) : addGood ksEdge rows (rowE x) = rows ++ [rowE x] := if_pos (edge_ok x)
theorem rowE_wf {x : Int} (h : fits x) : ∀ v ∈ rowE x, v.wf := by
  intro v hv
  unfold rowE at hv
  simp only [List.mem_cons, List.not_mem_nil, or_false] at hv
  rcases hv with rfl | rfl | rfl
  · exact ⟨(by decide : fits 1), h, Nat.zero_le _⟩
  · exact ⟨(by decide : fits 1), h, Nat.zero_le _⟩
  · exact ⟨(by decide : fits 0), (by decide : fits 0), Nat.zero_le _⟩
theorem edge_none : onesRes (onesOf ksEdge []) 0 = (5, []) := by decide
theorem edge_res (L : List Int) (n : Nat) (hn : n ≠ 0) : onesRes (onesOf ksEdge (L.map rowE)) n = (0, [bestOf leastB (L.map ofV), bestOf mostB (L.map ofV), ofV n]) := by
  have e1 : (L.map rowE).map (·.headD noVal) = L.map ofV := by rw [List.map_map]; rfl
  have e2 : ((L.map rowE).map List.tail).map (·.headD noVal) = L.map ofV := by rw [List.map_map, List.map_map]; rfl
  unfold ksEdge
  rw [onesOf, onesOf, onesOf, onesOf, e1, e2, onesRes, onesRes, onesRes, onesRes]
  rw [oneRes_edge (k := ⟨leastB, 1⟩) (by decide) (by decide), oneRes_edge (k := ⟨mostB, 1⟩) (by decide) (by decide), oneRes_count (k := ⟨countB, 0⟩) (by decide), if_neg hn, if_neg hn]
  rfl
theorem vorder_num {a b : Val} (h : a.type = 1) : vorder a b = Lib.compareInt a.n b.n := by
  unfold vorder; rw [if_neg (by omega)]
theorem edge_mem (wh : ByteArray) (L : List Int) (h : L ≠ []) : (bestOf wh (L.map ofV)).n ∈ L := by
  have := bestOf_mem wh (L.map ofV) (by simpa using h)
  obtain ⟨x, hx, e⟩ := List.mem_map.1 this
  rw [← e]
  exact hx
theorem edge_least (L : List Int) (h : L ≠ []) {x : Int} (hx : x ∈ L) : (bestOf leastB (L.map ofV)).n ≤ x := by
  have ht : ∀ v ∈ L.map ofV, v.type = 1 := fun v hv => by obtain ⟨y, _, rfl⟩ := List.mem_map.1 hv; rfl
  have hb := bestOf_type leastB 1 (L.map ofV) (by simpa using h) ht
  have hs := bestOf_stays leastB 1 (L.map ofV) ht (ofV x) (List.mem_map.2 ⟨x, hx, rfl⟩)
  rw [stays_eq leastB _ _ hb, if_pos (by decide), vorder_num hb] at hs
  have hs := of_decide_eq_true hs
  unfold Lib.compareInt at hs
  have e : (ofV x).n = x := rfl
  rw [e] at hs
  split at hs
  · omega
  · split at hs
    · omega
    · omega
theorem edge_most (L : List Int) (h : L ≠ []) {x : Int} (hx : x ∈ L) : x ≤ (bestOf mostB (L.map ofV)).n := by
  have ht : ∀ v ∈ L.map ofV, v.type = 1 := fun v hv => by obtain ⟨y, _, rfl⟩ := List.mem_map.1 hv; rfl
  have hb := bestOf_type mostB 1 (L.map ofV) (by simpa using h) ht
  have hs := bestOf_stays mostB 1 (L.map ofV) ht (ofV x) (List.mem_map.2 ⟨x, hx, rfl⟩)
  rw [stays_eq mostB _ _ hb, if_neg (by decide), if_pos (by decide), vorder_num hb] at hs
  have hs := of_decide_eq_true hs
  unfold Lib.compareInt at hs
  have e : (ofV x).n = x := rfl
  rw [e] at hs
  split at hs
  · omega
  · split at hs
    · omega
    · omega
theorem any_step {L : List Int} {i : Nat} {x b : Int} (h : L[i]? = some x) : (L.take (i + 1)).any (· == b) = ((L.take i).any (· == b) || (x == b)) := by
  rw [List.take_add_one, h, List.any_append]
  simp
theorem any_all {L : List Int} {b : Int} (h : b ∈ L) : L.any (· == b) = true := List.any_eq_true.2 ⟨b, h, by simp⟩
theorem sum_alike (n : Int) : ∀ k : Nat, sumN (List.replicate k (ofV n)) = k * n
  | 0 => by simp [sumN]
  | k + 1 => by
    rw [List.replicate_succ, sumN, sum_alike n k, Int.natCast_add, Int.add_mul]
    show n + _ = _
    omega
theorem sum_res (n : Int) (k : Nat) : onesRes (onesOf ksSum (List.replicate k [ofV n])) k = if reckonErr [42] n k = 0 then (0, [ofV (reckonVal [42] n k)]) else (9, []) := by
  have e1 : (List.replicate k [ofV n]).map (·.headD noVal) = List.replicate k (ofV n) := by rw [List.map_replicate]; rfl
  unfold ksSum
  rw [onesOf, onesOf, e1, onesRes, onesRes, oneRes_sum (k := ⟨sumB, 1⟩) (by decide) (by decide), sum_alike]
  have e3 : exact_ [42] n k = some (n * k) := by unfold exact_; simp
  have e4 : isOp [42] = true := by decide
  unfold reckonErr reckonVal
  rw [e4, e3, Int.mul_comm n k]
  by_cases hf : fits (k * n)
  · have hf2 : fits64 (k * n) := hf
    simp [hf, hf2]
  · have hf2 : ¬ fits64 (k * n) := hf
    simp [hf, hf2]
end Go.Proofs.YtjnlonemnjljiaaDoor
