/- Outs in a block, as they lie while they are sorted: what is read of them, and what is stored. -/
import Derived.Test.YtkgdfccpkiglaaaDoorSSortMem
namespace Go.Proofs.YtkgdfccpkiglaaaDoor
open Go.ChangeShapes Go.WideShapes Go.ChangeAt Go.RowKit
namespace SortLaw
structure OutE where
 p : Option Addr
 n : Nat
 c : Nat
 err : Int
 beg : Int
def oC (x : OutE) : List Value := [.slice x.p x.n x.c, .int .i64 x.err, .int .i64 x.beg]
def oV (x : OutE) : Value := .agg #[.slice x.p x.n x.c, .int .i64 x.err, .int .i64 x.beg]
structure SEnv (β : Type) where
 rep : β → OutE
 w0 : World
 b : Nat
 post : List Value
 tag : β → Nat
 A : β → β → Prop
 M : β → Prop
variable {β : Type}
def oCs (S : SEnv β) (l : List β) : List Value := l.flatMap (fun x => oC (S.rep x))
structure SAt (S : SEnv β) (w : World) (l : List β) : Prop where
 row : RowL w S.b 52 (oCs S l ++ S.post)
 only : Only (fun k => k = S.b) S.w0 w
theorem oCs_len (S : SEnv β) (l : List β) : (oCs S l).length = l.length * 3 := flat_len (f := fun x => oC (S.rep x)) (fun _ => rfl) l
theorem SAt.keep {S : SEnv β} {w w' : World} {l : List β} (h : SAt S w l) (hb : Below w.heap.size w w') : SAt S w' l := ⟨h.row.keep hb, h.only.trans (.of_below hb)⟩
theorem SAt.cells {S : SEnv β} {w : World} {l : List β} (h : SAt S w l) {j : Nat} {x : β} (hj : l[j]? = some x) :
  w.cell? ⟨S.b, j * 3, none⟩ = some (.slice (S.rep x).p (S.rep x).n (S.rep x).c) ∧ w.cell? ⟨S.b, j * 3 + 1, none⟩ = some (.int .i64 (S.rep x).err) ∧ w.cell? ⟨S.b, j * 3 + 2, none⟩ = some (.int .i64 (S.rep x).beg) ∧
  w.frozen? ⟨S.b, j * 3, none⟩ = false ∧ w.frozen? ⟨S.b, j * 3 + 1, none⟩ = false ∧ w.frozen? ⟨S.b, j * 3 + 2, none⟩ = false ∧ S.b < w.heap.size := by
 have hl : j < l.length := (List.getElem?_eq_some_iff.1 hj).1
 have g : ∀ k, k < 3 → (oCs S l ++ S.post)[j * 3 + k]? = (oC (S.rep x))[k]? := fun k hk => by
  rw [List.getElem?_append_left (by rw [oCs_len]; omega)]
  exact flat_get (f := fun x => oC (S.rep x)) (fun _ => rfl) l j x k hj hk
 exact ⟨(by have := h.row.cell (v := .slice (S.rep x).p (S.rep x).n (S.rep x).c) (g 0 (by omega)); rwa [Nat.add_zero] at this), h.row.cell (g 1 (by omega)), h.row.cell (g 2 (by omega)), h.row.free _, h.row.free _, h.row.free _, h.row.lt⟩
theorem SAt.put {S : SEnv β} {w : World} {l : List β} (h : SAt S w l) {j : Nat} (x : β) (hj : j < l.length) : SAt S (putAll w S.b (j * 3) (oC (S.rep x))) (l.set j x) := by
 refine ⟨?_, h.only.trans (putAll_only _ _ _ _)⟩
 have := h.row.put (j * 3) (oC (S.rep x))
 have e : setAll (oCs S l ++ S.post) (j * 3) (oC (S.rep x)) = oCs S (l.set j x) ++ S.post := by
  rw [show oCs S (l.set j x) = setAll (oCs S l) (j * 3) (oC (S.rep x)) from (flat_set (f := fun x => oC (S.rep x)) (n := 3) (fun _ => rfl) l j x hj).symm]
  exact setAll_front (oCs S l) S.post (j * 3) (oC (S.rep x)) (by rw [oCs_len]; show j * 3 + 3 ≤ _; omega)
 rwa [e] at this
end SortLaw
end Go.Proofs.YtkgdfccpkiglaaaDoor
