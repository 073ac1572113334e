/- Expressions but for where they lie. -/
import Derived.Test.YtecdgdgdlmancaaGreatDoorCheck
namespace Go.Proofs.YtecdgdgdlmancaaGreatDoor
open Go.ChangeShapes Go.WideShapes Go.ChangeAt Go.RowKit

mutual
def strip : Ex → Ex
  | .mk op name v _ _ args pos => .mk op name v none 0 (strips args) pos
def strips : List Ex → List Ex
  | [] => []
  | a :: l => strip a :: strips l
end
theorem strip_mk (op name : ByteArray) (v : Val) (A : Option Addr) (c : Nat) (args : List Ex) (pos : Int) : strip (.mk op name v A c args pos) = .mk op name v none 0 (strips args) pos := by rw [strip]
theorem strips_map : ∀ l : List Ex, strips l = l.map strip
  | [] => by rw [strips]; rfl
  | a :: l => by rw [strips, strips_map l]; rfl
theorem strips_len (l : List Ex) : (strips l).length = l.length := by rw [strips_map, List.length_map]
theorem strip_op (e : Ex) : (strip e).op = e.op := by cases e; rw [strip]; rfl
theorem strip_val (e : Ex) : (strip e).val = e.val := by cases e; rw [strip]; rfl
theorem strip_name (e : Ex) : (strip e).name = e.name := by cases e; rw [strip]; rfl
theorem strip_pos (e : Ex) : (strip e).pos = e.pos := by cases e; rw [strip]; rfl
theorem strip_args (e : Ex) : (strip e).args = strips e.args := by cases e; rw [strip]; rfl
mutual
theorem strip_nodes : ∀ e : Ex, nodesErr (strip e) = nodesErr e
  | .mk op name v A c args pos => by rw [strip, nodesErr, nodesErr, strips_len, strip_nodess args]
theorem strip_nodess : ∀ l : List Ex, nodesErrs (strips l) = nodesErrs l
  | [] => by rw [strips]
  | a :: l => by rw [strips, nodesErrs, nodesErrs, strip_nodes a, strip_nodess l]
end
theorem strip_below : ∀ (n : Nat) (e : Ex), exBelow n (strip e) = exBelow n e
  | 0, e => by rw [exBelow, exBelow]
  | n + 1, e => by
    rw [exBelow_all, exBelow_all, strip_args, strips_map, List.all_map]
    congr 1
    funext a
    exact strip_below n a
end Go.Proofs.YtecdgdgdlmancaaGreatDoor
