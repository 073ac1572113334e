/- Memory: what only some blocks may change. append of elements just laid, in a region that draws its order. -/
import Derived.Test.YtkgdfccpkiglaaaDoorSAnyInt
import Derived.Maps.AppendAt
import Derived.Deep.AppendLies
namespace Go.Proofs.YtkgdfccpkiglaaaDoor
open Go.ChangeShapes Go.WideShapes Go.ChangeAt Go.RowKit
structure Only (S : Nat → Prop) (w w' : World) : Prop where
 os : w'.os = w.os
 tape : w'.tape = w.tape
 output : w'.output = w.output
 size : w.heap.size ≤ w'.heap.size
 block : ∀ k, k < w.heap.size → ¬ S k → w'.heap[k]? = w.heap[k]?
theorem Only.refl (S : Nat → Prop) (w : World) : Only S w w := ⟨rfl, rfl, rfl, Nat.le_refl _, fun _ _ _ => rfl⟩
theorem Only.trans {S : Nat → Prop} {a b c : World} (h : Only S a b) (k : Only S b c) : Only S a c :=
 ⟨k.os.trans h.os, k.tape.trans h.tape, k.output.trans h.output, Nat.le_trans h.size k.size, fun i hi hs => (k.block i (Nat.lt_of_lt_of_le hi h.size) hs).trans (h.block i hi hs)⟩
theorem Only.mono {S T : Nat → Prop} {a b : World} (h : Only S a b) (hT : ∀ k, S k → T k) : Only T a b := ⟨h.os, h.tape, h.output, h.size, fun k hk hs => h.block k hk (fun e => hs (hT k e))⟩
theorem Only.drew {S : Nat → Prop} {a b : World} (h : Only S a b) : Only S a b.drew := ⟨h.os, h.tape, h.output, h.size, h.block⟩
theorem Only.of_below {S : Nat → Prop} {a b : World} (h : Below a.heap.size a b) : Only S a b := ⟨h.os, h.tape, h.output, h.size, fun k hk _ => h.block k hk⟩
theorem Only.setCell {S : Nat → Prop} {a b : World} (h : Only S a b) {p : Addr} (hp : S p.block) (u : Value) : Only S a (b.setCell p u) :=
 h.trans ⟨rfl, rfl, rfl, by simp [World.setCell], fun k _ hs => Below.heap_setCell _ _ _ _ (fun e => hs (e ▸ hp))⟩
theorem Only.alloc {S : Nat → Prop} {a b : World} (h : Only S a b) (o : Obj) : Only S a (b.alloc o) := h.trans (.of_below ((Below.refl _ _).alloc (Nat.le_refl _) o))
theorem Only.below {S : Nat → Prop} {a b : World} {B : Nat} (h : Only S a b) (hB : B ≤ a.heap.size) (hS : ∀ k, S k → B ≤ k) : Below B a b := ⟨h.os, h.tape, h.output, h.size, fun k hk => h.block k (by omega) (fun e => by have := hS k e; omega)⟩
theorem Only.cell {S : Nat → Prop} {a b : World} (h : Only S a b) {p : Addr} (hp : p.block < a.heap.size) (hs : ¬ S p.block) : b.cell? p = a.cell? p := World.cell?_of_block (w := a) (h.block p.block hp hs)
theorem Only.own {S : Nat → Prop} {a b : World} (h : Only S a b) {B e size : Nat} {v : Value} {n : Nat} {xs : List Value} (ho : a.ownsRow B e size v n xs) (hs : ∀ k, v.ownBlock = some k → ¬ S k) : b.ownsRow B e size v n xs := by
 refine ⟨ho.1, ?_⟩
 have hlt := ho.lt
 rcases ho.2 with hn | ⟨g, cap, cur, rfl, hb, hg, rest⟩
 ·exact .inl hn
 ·exact .inr ⟨g, cap, cur, rfl, hb, (h.block g (hlt g rfl).2 (hs g rfl)).trans hg, rest⟩
theorem Only.sees_far {S : Nat → Prop} {a b : World} (h : Only S a b) {A : Option Addr} {n c size : Nat} {xs : List Value} (hs : Sees a A n c size xs) (hA : 0 < n → ∀ ad, A = some ad → ¬ S ad.block) : Sees b A n c size xs :=
 ⟨hs.1, hs.2.1, hs.2.2.1, hs.2.2.2.1, fun hn => by
  obtain ⟨g, o, e, hg, hc⟩ := hs.2.2.2.2 hn
  exact ⟨g, o, e, Nat.lt_of_lt_of_le hg h.size, fun k u hu => (h.cell (p := ⟨g, o + k, none⟩) hg (hA hn ⟨g, o, none⟩ e)).trans (hc k u hu)⟩⟩
theorem Only.vals_far {S : Nat → Prop} {a b : World} (h : Only S a b) {A : Option Addr} {n c : Nat} {l : List Val} (hs : SeesVals a A n c l) (hA : 0 < n → ∀ ad, A = some ad → ¬ S ad.block) : SeesVals b A n c l := ⟨hs.1, h.sees_far hs.2 hA⟩
theorem Only.drewN {S : Nat → Prop} {a b : World} (h : Only S a b) (q : Nat) : Only S a (b.drewN q) := ⟨h.os, h.tape, h.output, h.size, h.block⟩
theorem box3 {w : World} {b : Nat} {x y z : Value} {T : TypeId} (h : w.heap[b]? = some (.cells #[x, y, z] T (0, 0))) : w.cell? ⟨b, 0, none⟩ = some x ∧ w.cell? ⟨b, 1, none⟩ = some y ∧ w.cell? ⟨b, 2, none⟩ = some z := by
 refine ⟨?_, ?_, ?_⟩ <;> (rw [cell_of_row _ _ _ _ _ _ h]; rfl)
end Go.Proofs.YtkgdfccpkiglaaaDoor
namespace Go.Proofs.YtkgdfccpkiglaaaDoor
open Go.ChangeShapes Go.WideShapes Go.ChangeAt Go.RowKit
end Go.Proofs.YtkgdfccpkiglaaaDoor
