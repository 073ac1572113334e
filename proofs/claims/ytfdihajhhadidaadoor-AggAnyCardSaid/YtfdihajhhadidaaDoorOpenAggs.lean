/- An argument that is a list of aggregates: what a walk sees. -/
import Derived.Test.YtfdihajhhadidaaDoorOpenEx
import Derived.Test.YtfdihajhhadidaaDoorAggNew
namespace Go.Proofs.YtfdihajhhadidaaDoor
open Go.ChangeShapes Go.WideShapes Go.ChangeAt Go.RowKit

theorem cellsAgg : Tryd.prog.cellsOf 31 = 9 := by kernel_rfl
section
variable {H : Type} {enc : TypeId × Value → H} {w : World}
set_option maxRecDepth 100000 in
theorem agg_of {m : Nat} {cs : List Value} {y : DataW H × List MemPlace} (h : DataW.trod enc Tryd.prog w 0 (fun _ => true) true m 31 cs = some y) :
    ∃ a : AggH, cs = aggCells a := by
  obtain ⟨xs, n, _, _, hlen, hxs, hf⟩ := DataW.trod_struct Tryd.underlying31 h
  rw [cellsAgg] at hlen
  match cs, hlen with
  | [v0, v1, v2, v3, v4, v5, v6, v7, v8], _ =>
    have hx : xs.length = 3 := hxs
    have h0 : DataW.trod enc Tryd.prog w 0 (fun _ => true) true n 9 (([v0, v1, v2, v3, v4, v5, v6, v7, v8].drop 0).take (Tryd.prog.cellsOf 9)) = xs[0]? := hf 0 _ rfl
    have h1 : DataW.trod enc Tryd.prog w 0 (fun _ => true) true n 29 (([v0, v1, v2, v3, v4, v5, v6, v7, v8].drop 1).take (Tryd.prog.cellsOf 29)) = xs[1]? := hf 1 _ rfl
    have h2 : DataW.trod enc Tryd.prog w 0 (fun _ => true) true n 9 (([v0, v1, v2, v3, v4, v5, v6, v7, v8].drop 8).take (Tryd.prog.cellsOf 9)) = xs[2]? := hf 2 _ rfl
    rw [cells9v, List.getElem?_eq_getElem (by omega)] at h0 h2
    rw [cellsEx, List.getElem?_eq_getElem (by omega)] at h1
    obtain ⟨s0, e0, _, _⟩ := DataW.trod_string Tryd.underlying9 h0
    obtain ⟨s2, e2, _, _⟩ := DataW.trod_string Tryd.underlying9 h2
    obtain ⟨⟨op, nm, v, A, c, args, pos⟩, e1, _⟩ := ex_of _ _ _ h1
    injection e0 with e0
    injection e2 with e2
    subst e0 e2
    have e1' : [v1, v2, v3, v4, v5, v6, v7] = exCells (.mk op nm v A c args pos) := e1
    unfold exCells at e1'
    simp only [List.cons.injEq, and_true] at e1'
    obtain ⟨rfl, rfl, rfl, rfl, rfl, rfl, rfl⟩ := e1'
    exact ⟨⟨s0, op, nm, v.type, v.n, v.s, A, args.length, c, pos, s2⟩, rfl⟩
set_option maxRecDepth 100000 in
theorem open_aggs {v : Value} {d : DataW H} {p : List MemPlace} (hok : ∃ A n c, v = .slice A n c) (h : DataW.Trod enc Tryd.prog w 0 (fun _ => true) true 22 v d p) :
    ∃ (A : Option Addr) (n c : Nat) (l : List AggH), v = .slice A n c ∧ SeesAggs w A n c l := by
  obtain ⟨A0, n0, c0, rfl⟩ := hok
  obtain ⟨fuel, hf⟩ := h
  obtain ⟨A, n, c, css, ds, e, hn, _, hs, hl, hR, _⟩ := open_sees Tryd.underlying22 cellsAgg (by decide) hf
    (fun u _ => ∃ x : AggH, u = aggCells x) (fun m cs' y _ hy => agg_of hy)
  have hall : ∀ u ∈ css, ∃ x : AggH, u = aggCells x := by
    intro u hu
    obtain ⟨k, hk⟩ := List.mem_iff_getElem?.1 hu
    obtain ⟨_, _, hx⟩ := hR k u hk
    exact hx
  obtain ⟨l, hl1⟩ : ∃ l : List AggH, css = l.map aggCells := by
    clear hR hs hn hl hf e
    induction css with
    | nil => exact ⟨[], rfl⟩
    | cons u css ih =>
      obtain ⟨l, rfl⟩ := ih fun u hu => hall u (List.mem_cons_of_mem _ hu)
      obtain ⟨x, rfl⟩ := hall u List.mem_cons_self
      exact ⟨x :: l, rfl⟩
  subst hl1
  have e : Value.slice A0 n0 c0 = .slice A n c := by simpa [Value.cells] using e
  refine ⟨A, n, c, l, e, by simpa using hn, ?_⟩
  rw [show aggsCells l = (l.map aggCells).flatten from List.flatMap_def]
  exact hs
end
end Go.Proofs.YtfdihajhhadidaaDoor
