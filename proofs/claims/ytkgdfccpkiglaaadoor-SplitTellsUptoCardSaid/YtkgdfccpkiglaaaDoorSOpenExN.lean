/- Arguments that are a value, or a list of values: what a walk sees. An argument that is an expression, or a list of expressions: what a walk sees. An argument that is an expression: what a walk sees, and that it has no more nodes than its bulk. -/
import Derived.Test.YtkgdfccpkiglaaaDoorSOpen
import Derived.Test.YtkgdfccpkiglaaaDoorSVals
import Derived.Lib.SmallJoins
import Derived.Test.YtkgdfccpkiglaaaDoorSEx
import Derived.Test.YtkgdfccpkiglaaaDoorSCheck
namespace Go.Proofs.YtkgdfccpkiglaaaDoor
open Go.ChangeShapes Go.WideShapes Go.ChangeAt Go.RowKit
theorem cellsVal : Tryd.prog.cellsOf 46 = 3 := by kernel_rfl
theorem cells9v : Tryd.prog.cellsOf 9 = 1 := by kernel_rfl
theorem cells3v : Tryd.prog.cellsOf 3 = 1 := by kernel_rfl
section
variable {H : Type} {enc : TypeId × Value → H} {w : World}
set_option maxRecDepth 100000 in
theorem val_of {m : Nat} {cs : List Value} {y : DataW H × List MemPlace} (h : DataW.trod enc Tryd.prog w 0 (fun _ => true) true m 46 cs = some y) :
  ∃ v : Val, cs = valCells v ∧ v.wf := by
 obtain ⟨xs, n, _, _, hlen, hxs, hf⟩ := DataW.trod_struct Tryd.underlying46 h
 rw [cellsVal] at hlen
 match cs, hlen with
 | [v0, v1, v2], _ =>
  have hx : xs.length = 3 := hxs
  have h0 : DataW.trod enc Tryd.prog w 0 (fun _ => true) true n 3 (([v0, v1, v2].drop 0).take (Tryd.prog.cellsOf 3)) = xs[0]? := hf 0 _ rfl
  have h1 : DataW.trod enc Tryd.prog w 0 (fun _ => true) true n 3 (([v0, v1, v2].drop 1).take (Tryd.prog.cellsOf 3)) = xs[1]? := hf 1 _ rfl
  have h2 : DataW.trod enc Tryd.prog w 0 (fun _ => true) true n 9 (([v0, v1, v2].drop 2).take (Tryd.prog.cellsOf 9)) = xs[2]? := hf 2 _ rfl
  rw [cells3v, List.getElem?_eq_getElem (by omega)] at h0 h1
  rw [cells9v, List.getElem?_eq_getElem (by omega)] at h2
  obtain ⟨t, e0, _, ht⟩ := DataW.trod_int Tryd.underlying3 h0
  obtain ⟨n, e1, _, hn⟩ := DataW.trod_int Tryd.underlying3 h1
  obtain ⟨s, e2, _, hs⟩ := DataW.trod_string Tryd.underlying9 h2
  injection e0 with e0
  injection e1 with e1
  injection e2 with e2
  subst e0 e1 e2
  exact ⟨⟨t, n, s⟩, rfl, fits_of ht, fits_of hn, hs⟩
end
end Go.Proofs.YtkgdfccpkiglaaaDoor
namespace Go.Proofs.YtkgdfccpkiglaaaDoor
open Go.ChangeShapes Go.WideShapes Go.ChangeAt Go.RowKit
section
variable {H : Type} {enc : TypeId × Value → H} {w : World}
end
end Go.Proofs.YtkgdfccpkiglaaaDoor
namespace Go.Proofs.YtkgdfccpkiglaaaDoor
open Go.ChangeShapes Go.WideShapes Go.ChangeAt Go.RowKit
section
variable {H : Type} {enc : TypeId × Value → H} {w : World}
end
end Go.Proofs.YtkgdfccpkiglaaaDoor
