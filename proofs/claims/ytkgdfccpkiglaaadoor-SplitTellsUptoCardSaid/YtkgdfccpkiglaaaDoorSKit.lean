/- Small laws for the walks: a slice type's facts in one word; append of one element onto a row of the call's own, with 'Below' handed on; reading a row. No program in sight. -/
import Derived.Test.YtkgdfccpkiglaaaDoorRows
import Derived.WalkKit
import Derived.ProofKit
import Derived.OpenShut
import Derived.JoinedCond
import Derived.WalkLawsBesides
import Derived.WalkSpells
import Derived.OwnWalk
import Derived.Lib.Hide
import Derived.Carry
import Derived.Deep.Draws
namespace Go.Proofs.YtkgdfccpkiglaaaDoor
open Go.ChangeShapes Go.WideShapes Go.ChangeAt Go.RowKit
def SliceTy (P : Program) (t e : TypeId) (z : Value) (size bytes : Nat) : Prop :=
 P.underlying t = some (.slice e) ∧ 0 < size ∧ 0 < bytes ∧ z.cells.size = size ∧ ∃ i, P.info? e = some i ∧ i.zero = some z ∧ i.size = size ∧ i.bytes = bytes
theorem SliceTy.of {P : Program} {t e : TypeId} {z : Value} {size bytes : Nat} (ht : P.underlying t = some (.slice e))
  (h : (P.info? e).map (fun i => (i.zero, i.size, i.bytes)) = some (some z, size, bytes)) (h1 : z.cells.size = size) (h2 : 0 < size) (h3 : 0 < bytes) : SliceTy P t e z size bytes := by
 obtain ⟨i0, hi, hz0, hz1, hz2⟩ := info_parts h
 exact ⟨ht, h2, h3, h1, i0, hi, hz0, hz1, hz2⟩
theorem addr_add0 (b j : Nat) : (⟨b, 0, none⟩ : Addr).add j = ⟨b, j, none⟩ := by unfold Addr.add; split <;> simp_all
theorem cells_new (w : World) (cs : Array Value) (e : TypeId) (j : Nat) : (w.alloc (.cells cs e)).cell? ((⟨w.heap.size, 0, none⟩ : Addr).add j) = cs[j]? := by
 rw [addr_add0, cell_of_row _ _ _ _ _ _ (heap_alloc_new w _)]
theorem wpList_append_one {P : Program} {t e : TypeId} {z : Value} {size bytes : Nat} (hS : SliceTy P t e z size bytes)
  {ops : Array Oper} {rest : List Oper} {o : Oper} {a : Act} {Q : Exit → Act → World → Prop} (hgd : o.guard = none) (s x : Operand)
  (ho : o.op = .call { callee := .builtin .append, args := #[s, x], argTypes := #[t, t] })
  {B : Nat} {w0 wr : World} {v : Value} {n : Nat} {xs : List Value} {cs : Array Value} {c : Nat}
  (hs : a.eval s = v) (hx : a.eval x = .slice (some ⟨wr.heap.size, 0, none⟩) 1 c)
  (hown : wr.ownsRow B e size v n xs) (hb : Below B w0 wr) (hB : B ≤ w0.heap.size) (hcs : cs.size = size) (h1 : ∀ u ∈ cs.toList, u.oneCell' = true)
  (hn : (n + 1) * bytes ≤ 140737488355328)
  (h : ∀ v' w1, w1.ownsRow B e size v' (n + 1) (xs ++ cs.toList) → Below B w0 w1 → v' ≠ .slice none 0 0 → wpList P ops Q rest (a.put o.dst v') w1) :
  wpList P ops Q (o :: rest) a (wr.alloc (.cells cs e)) := by
 obtain ⟨ht, h2, h3, hzs, i, hi, hz, hsz, hby⟩ := hS
 have hB' := hb.size
 have hm : n + 1 ≤ (n + 1) * bytes := Nat.le_mul_of_pos_right _ h3
 refine wpList_append_own _ hgd s x t ho B e i z size bytes ht hi hz hsz hby hzs h2 v n xs hs (hown.alloc _) ⟨wr.heap.size, 0, none⟩ 1 c cs.toList hx (by simpa using hcs) ?_ h1 (by unfold maxLen; omega) hn (by simp; omega) ?_
 ·intro j u hu
  rw [cells_new]; simpa using hu
 ·intro v' w1 hown' hg hv
  refine h v' w1 hown' ?_ (fun e => by have := (hv.1 e).2; omega)
  refine (hb.alloc (by omega) _).grown hg (by simp; omega) ?_
  intro k hk
  exact (hown.lt k hk).1
theorem own_shape {w : World} {B e size : Nat} {v : Value} {n : Nat} {xs : List Value} (h : w.ownsRow B e size v n xs) : ∃ A c, v = .slice A n c := by
 rcases h.2 with ⟨rfl, rfl⟩ | ⟨g, cap, cur, rfl, _⟩
 ·exact ⟨_, _, rfl⟩
 ·exact ⟨_, _, rfl⟩
end Go.Proofs.YtkgdfccpkiglaaaDoor
