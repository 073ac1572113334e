/- Cells of elements of one size, one behind the other; a block that holds them. -/
import Derived.Test.YtkgdfccpkiglaaaDoorSSortLaw
import Derived.Test.YtkgdfccpkiglaaaDoorSOwn3
import Derived.Test.YtkgdfccpkiglaaaDoorSOnly
namespace Go.Proofs.YtkgdfccpkiglaaaDoor
open Go.ChangeShapes Go.WideShapes Go.ChangeAt Go.RowKit
namespace SortLaw
def setAll : List Value → Nat → List Value → List Value
 | xs, _, [] => xs
 | xs, o, v :: vs => setAll (xs.set o v) (o + 1) vs
def putAll : World → Nat → Nat → List Value → World
 | w, _, _, [] => w
 | w, g, o, v :: vs => putAll (w.setCell ⟨g, o, none⟩ v) g (o + 1) vs
theorem setAll_cons (a : Value) : ∀ (vs xs : List Value) (o : Nat), setAll (a :: xs) (o + 1) vs = a :: setAll xs o vs
 | [], xs, o => rfl
 | v :: vs, xs, o => by rw [setAll, setAll, List.set_cons_succ, setAll_cons a vs]
theorem setAll_app : ∀ (p xs : List Value) (o : Nat) (vs : List Value), setAll (p ++ xs) (o + p.length) vs = p ++ setAll xs o vs
 | [], xs, o, vs => rfl
 | a :: p, xs, o, vs => by rw [List.length_cons, ← Nat.add_assoc, List.cons_append, setAll_cons, setAll_app p xs o vs]; rfl
theorem setAll_here : ∀ (vs ys xs : List Value), ys.length = vs.length → setAll (ys ++ xs) 0 vs = vs ++ xs
 | [], [], xs, _ => rfl
 | v :: vs, y :: ys, xs, h => by
  rw [setAll, List.cons_append, List.set_cons_zero, setAll_cons, setAll_here vs ys xs (by simpa using h)]; rfl
 | [], _ :: _, _, h => by simp at h
 | _ :: _, [], _, h => by simp at h
theorem setAll_front : ∀ (xs post : List Value) (o : Nat) (vs : List Value), o + vs.length ≤ xs.length → setAll (xs ++ post) o vs = setAll xs o vs ++ post
 | xs, post, o, [], _ => rfl
 | xs, post, o, v :: vs, h => by
  rw [List.length_cons] at h
  rw [setAll, setAll, List.set_append_left _ _ (by omega), setAll_front _ post (o + 1) vs (by rw [List.length_set]; omega)]
theorem putAll_same : ∀ (vs : List Value) (w : World) (g o : Nat) (cs : Array Value) (t : TypeId), w.heap[g]? = some (.cells cs t (0, 0)) → ∃ cs', (putAll w g o vs).heap[g]? = some (.cells cs' t (0, 0)) ∧ cs'.toList = setAll cs.toList o vs
 | [], w, g, o, cs, t, h => ⟨cs, h, rfl⟩
 | v :: vs, w, g, o, cs, t, h => by
  obtain ⟨cs', h1, h2⟩ := putAll_same vs (w.setCell ⟨g, o, none⟩ v) g (o + 1) _ t (heap_setCell_same _ _ _ _ _ v h)
  refine ⟨cs', h1, ?_⟩
  rw [h2, setAll, Array.toList_setIfInBounds]
section
variable {β : Type} {f : β → List Value} {n : Nat}
theorem flat_len (hn : ∀ x, (f x).length = n) : ∀ l : List β, (l.flatMap f).length = l.length * n
 | [] => by simp
 | a :: l => by rw [List.flatMap_cons, List.length_append, flat_len hn l, hn, List.length_cons, Nat.succ_mul, Nat.add_comm]
theorem flat_set (hn : ∀ x, (f x).length = n) : ∀ (l : List β) (k : Nat) (x : β), k < l.length → setAll (l.flatMap f) (k * n) (f x) = (l.set k x).flatMap f
 | [], k, x, h => by simp at h
 | e :: l, 0, x, _ => by
  rw [Nat.zero_mul, List.set_cons_zero, List.flatMap_cons, List.flatMap_cons]
  exact setAll_here _ _ _ (by rw [hn, hn])
 | e :: l, k + 1, x, h => by
  have := setAll_app (f e) (l.flatMap f) (k * n) (f x)
  rw [hn e, ← Nat.succ_mul] at this
  rw [List.flatMap_cons, List.set_cons_succ, List.flatMap_cons, this, flat_set hn l k x (by simpa using h)]
theorem flat_get (hn : ∀ x, (f x).length = n) : ∀ (l : List β) (k : Nat) (x : β) (j : Nat), l[k]? = some x → j < n → (l.flatMap f)[k * n + j]? = (f x)[j]?
 | [], k, x, j, h, _ => by simp at h
 | e :: l, 0, x, j, h, hj => by
  have h : e = x := by simpa using h
  subst h
  rw [Nat.zero_mul, Nat.zero_add, List.flatMap_cons, List.getElem?_append_left (by rw [hn]; exact hj)]
 | e :: l, k + 1, x, j, h, hj => by
  rw [List.flatMap_cons, List.getElem?_append_right (by rw [hn, Nat.succ_mul]; omega), hn,
   show (k + 1) * n + j - n = k * n + j by rw [Nat.succ_mul]; omega]
  exact flat_get hn l k x j (by simpa using h) hj
end
theorem putAll_below : ∀ (vs : List Value) (B : Nat) (w0 w : World) (g o : Nat), Below B w0 w → B ≤ g → Below B w0 (putAll w g o vs)
 | [], _, _, _, _, _, h, _ => h
 | v :: vs, B, w0, _, g, o, h, hg => putAll_below vs B w0 _ g (o + 1) (h.setCell (p := ⟨g, o, none⟩) hg v) hg
theorem putAll_size : ∀ (vs : List Value) (w : World) (g o : Nat), (putAll w g o vs).heap.size = w.heap.size
 | [], w, g, o => rfl
 | v :: vs, w, g, o => by rw [putAll, putAll_size vs]; simp [World.setCell]
theorem putAll_other : ∀ (vs : List Value) (w : World) (g o k : Nat), k ≠ g → (putAll w g o vs).heap[k]? = w.heap[k]?
 | [], w, g, o, k, h => rfl
 | v :: vs, w, g, o, k, h => by rw [putAll, putAll_other vs _ g (o + 1) k h, heap_setCell_other _ _ _ _ h]
def RowL (w : World) (b : Nat) (t : TypeId) (l : List Value) : Prop := w.heap[b]? = some (.cells l.toArray t (0, 0))
section
variable {w w' : World} {b : Nat} {t : TypeId} {l : List Value}
theorem RowL.lt (h : RowL w b t l) : b < w.heap.size := (Array.getElem?_eq_some_iff.1 h).1
theorem RowL.keep (h : RowL w b t l) (hb : Below w.heap.size w w') : RowL w' b t l := (hb.block b h.lt).trans h
theorem RowL.only {S : Nat → Prop} (h : RowL w b t l) (ho : Only S w w') (hs : ¬ S b) : RowL w' b t l := (ho.block b h.lt hs).trans h
theorem RowL.cell (h : RowL w b t l) {j : Nat} {v : Value} (hj : l[j]? = some v) : w.cell? ⟨b, j, none⟩ = some v := by
 rw [cell_of_row _ _ _ _ _ _ h]
 simpa using hj
theorem RowL.free (h : RowL w b t l) (j : Nat) : w.frozen? ⟨b, j, none⟩ = false := frozen_of_row _ _ _ _ _ h
theorem RowL.put (h : RowL w b t l) (o : Nat) (vs : List Value) : RowL (putAll w b o vs) b t (setAll l o vs) := by
 obtain ⟨cs, h1, h2⟩ := putAll_same vs w b o _ _ h
 unfold RowL
 rw [h1]
 have h2 : cs.toList = setAll l o vs := h2
 rw [← h2]
theorem RowL.set (h : RowL w b t l) (o : Nat) (v : Value) : RowL (w.setCell ⟨b, o, none⟩ v) b t (l.set o v) := h.put o [v]
theorem putAll_only (vs : List Value) (w : World) (b o : Nat) : Only (fun k => k = b) w (putAll w b o vs) := by
 have hb := putAll_below vs b w w b o (Below.refl _ _) (Nat.le_refl _)
 exact ⟨hb.os, hb.tape, hb.output, by rw [putAll_size]; exact Nat.le_refl _, fun k _ hk => putAll_other vs w b o k hk⟩
end
end SortLaw
end Go.Proofs.YtkgdfccpkiglaaaDoor
