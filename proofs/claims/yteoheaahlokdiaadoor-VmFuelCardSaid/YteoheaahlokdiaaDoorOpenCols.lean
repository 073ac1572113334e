/- An argument that is a list of columns: what a walk sees. -/
import Derived.Test.YteoheaahlokdiaaDoorOpen
import Derived.Test.YteoheaahlokdiaaDoorRowBase
namespace Go.Proofs.YteoheaahlokdiaaDoor
open Go.ChangeShapes Go.WideShapes Go.ChangeAt Go.RowKit

theorem cellsCol : Tryd.prog.cellsOf 51 = 2 := by kernel_rfl
theorem cells9 : Tryd.prog.cellsOf 9 = 1 := by kernel_rfl
theorem cells3 : Tryd.prog.cellsOf 3 = 1 := by kernel_rfl

section
variable {H : Type} {enc : TypeId × Value → H} {w : World}
set_option maxRecDepth 100000 in
theorem col_of {m : Nat} {cs : List Value} {y : DataW H × List MemPlace} (h : DataW.trod enc Tryd.prog w 0 (fun _ => true) true m 51 cs = some y) :
    ∃ c : Col, cs = colCells c ∧ c.name.size ≤ maxLen ∧ (Lit.int .i64 c.type).wf = true := by
  obtain ⟨xs, n, _, _, hlen, hxs, hf⟩ := DataW.trod_struct Tryd.underlying51 h
  rw [cellsCol] at hlen
  match cs, hlen with
  | [v0, v1], _ =>
    have hx : xs.length = 2 := hxs
    have h0 : DataW.trod enc Tryd.prog w 0 (fun _ => true) true n 9 (([v0, v1].drop 0).take (Tryd.prog.cellsOf 9)) = xs[0]? := hf 0 _ rfl
    have h1 : DataW.trod enc Tryd.prog w 0 (fun _ => true) true n 3 (([v0, v1].drop 1).take (Tryd.prog.cellsOf 3)) = xs[1]? := hf 1 _ rfl
    rw [cells9, List.getElem?_eq_getElem (by omega)] at h0
    rw [cells3, List.getElem?_eq_getElem (by omega)] at h1
    obtain ⟨s, e0, _, hs⟩ := DataW.trod_string Tryd.underlying9 h0
    obtain ⟨t, e1, _, ht⟩ := DataW.trod_int Tryd.underlying3 h1
    injection e0 with e0
    injection e1 with e1
    subst e0 e1
    exact ⟨⟨s, t⟩, rfl, hs, ht⟩

set_option maxRecDepth 100000 in
theorem open_cols {v : Value} {d : DataW H} {p : List MemPlace} (hok : ∃ A n c, v = .slice A n c) (h : DataW.Trod enc Tryd.prog w 0 (fun _ => true) true 23 v d p) :
    ∃ (A : Option Addr) (n c : Nat) (l : List Col), v = .slice A n c ∧ SeesCols w A n c l ∧ ∀ x ∈ l, x.name.size ≤ maxLen ∧ (Lit.int .i64 x.type).wf = true := by
  obtain ⟨A0, n0, c0, rfl⟩ := hok
  obtain ⟨fuel, hf⟩ := h
  obtain ⟨A, n, c, css, ds, e, hn, _, hs, hl, hR, _⟩ := open_sees Tryd.underlying23 cellsCol (by decide) hf
    (fun u _ => ∃ x : Col, u = colCells x ∧ x.name.size ≤ maxLen ∧ (Lit.int .i64 x.type).wf = true) (fun m cs' y _ hy => col_of hy)
  have hall : ∀ u ∈ css, ∃ x : Col, u = colCells x ∧ x.name.size ≤ maxLen ∧ (Lit.int .i64 x.type).wf = true := by
    intro u hu
    obtain ⟨k, hk⟩ := List.mem_iff_getElem?.1 hu
    obtain ⟨_, _, hx⟩ := hR k u hk
    exact hx
  obtain ⟨l, hl1, hl2⟩ : ∃ l : List Col, css = l.map colCells ∧ ∀ x ∈ l, x.name.size ≤ maxLen ∧ (Lit.int .i64 x.type).wf = true := by
    clear hR hs hn hl hf e
    induction css with
    | nil => exact ⟨[], rfl, by simp⟩
    | cons u css ih =>
      obtain ⟨l, rfl, h2⟩ := ih fun u hu => hall u (List.mem_cons_of_mem _ hu)
      obtain ⟨x, rfl, h3⟩ := hall u List.mem_cons_self
      exact ⟨x :: l, rfl, fun y hy => (List.mem_cons.1 hy).elim (fun e => by rw [e]; exact h3) (fun hy => h2 y hy)⟩
  subst hl1
  have e : Value.slice A0 n0 c0 = .slice A n c := by simpa [Value.cells] using e
  refine ⟨A, n, c, l, e, ⟨by simpa using hn, ?_⟩, hl2⟩
  rw [show colsCells l = (l.map colCells).flatten from List.flatMap_def]
  exact hs
end
end Go.Proofs.YteoheaahlokdiaaDoor
