/- Arguments that are a value, or a list of values: what a walk sees. -/
import Derived.Test.YtlkgeflcnbgndaaGreatDoorOpen
import Derived.Test.YtlkgeflcnbgndaaGreatDoorVals
import Derived.Lib.SmallJoins
namespace Go.Proofs.YtlkgeflcnbgndaaGreatDoor
open Go.ChangeShapes Go.WideShapes Go.ChangeAt Go.RowKit

theorem cellsVal : Tryz.prog.cellsOf 23 = 3 := by kernel_rfl
theorem cells9v : Tryz.prog.cellsOf 9 = 1 := by kernel_rfl
theorem cells3v : Tryz.prog.cellsOf 3 = 1 := by kernel_rfl

section
variable {H : Type} {enc : TypeId × Value → H} {w : World}
set_option maxRecDepth 100000 in
theorem val_of {m : Nat} {cs : List Value} {y : DataW H × List MemPlace} (h : DataW.trod enc Tryz.prog w 0 (fun _ => true) true m 23 cs = some y) :
    ∃ v : Val, cs = valCells v ∧ v.wf := by
  obtain ⟨xs, n, _, _, hlen, hxs, hf⟩ := DataW.trod_struct Tryz.underlying23 h
  rw [cellsVal] at hlen
  match cs, hlen with
  | [v0, v1, v2], _ =>
    have hx : xs.length = 3 := hxs
    have h0 : DataW.trod enc Tryz.prog w 0 (fun _ => true) true n 3 (([v0, v1, v2].drop 0).take (Tryz.prog.cellsOf 3)) = xs[0]? := hf 0 _ rfl
    have h1 : DataW.trod enc Tryz.prog w 0 (fun _ => true) true n 3 (([v0, v1, v2].drop 1).take (Tryz.prog.cellsOf 3)) = xs[1]? := hf 1 _ rfl
    have h2 : DataW.trod enc Tryz.prog w 0 (fun _ => true) true n 9 (([v0, v1, v2].drop 2).take (Tryz.prog.cellsOf 9)) = xs[2]? := hf 2 _ rfl
    rw [cells3v, List.getElem?_eq_getElem (by omega)] at h0 h1
    rw [cells9v, List.getElem?_eq_getElem (by omega)] at h2
    obtain ⟨t, e0, _, ht⟩ := DataW.trod_int Tryz.underlying3 h0
    obtain ⟨n, e1, _, hn⟩ := DataW.trod_int Tryz.underlying3 h1
    obtain ⟨s, e2, _, hs⟩ := DataW.trod_string Tryz.underlying9 h2
    injection e0 with e0
    injection e1 with e1
    injection e2 with e2
    subst e0 e1 e2
    exact ⟨⟨t, n, s⟩, rfl, fits_of ht, fits_of hn, hs⟩

set_option maxRecDepth 100000 in
theorem open_val {base : Nat} {v : Value} {d : DataW H} {p : List MemPlace} (hok : Value.okWide Tryz.prog w .any base 23 v) (h : DataW.Trod enc Tryz.prog w 0 (fun _ => true) true 23 v d p) :
    ∃ x : Val, v = valV x ∧ x.wf := by
  obtain ⟨cs, rfl, _⟩ := okWide_struct Tryz.underlying23 hok
  obtain ⟨c0, c1, c2, y0, y1, y2, m, e, _, _, h0, h1, h2⟩ := Go.Joins.open_agg3 Tryz.underlying23 (by kernel_rfl) cellsVal hok h
  rw [e]
  obtain ⟨t, e0, _, ht⟩ := DataW.trod_int Tryz.underlying3 h0
  obtain ⟨n, e1, _, hn⟩ := DataW.trod_int Tryz.underlying3 h1
  obtain ⟨s, e2, _, hs⟩ := DataW.trod_string Tryz.underlying9 h2
  injection e0 with e0
  injection e1 with e1
  injection e2 with e2
  subst e0 e1 e2
  exact ⟨⟨t, n, s⟩, rfl, fits_of ht, fits_of hn, hs⟩

set_option maxRecDepth 100000 in
theorem open_vals {v : Value} {d : DataW H} {p : List MemPlace} (hok : ∃ A n c, v = .slice A n c) (h : DataW.Trod enc Tryz.prog w 0 (fun _ => true) true 63 v d p) :
    ∃ (A : Option Addr) (n c : Nat) (l : List Val), v = .slice A n c ∧ SeesVals w A n c l ∧ ∀ x ∈ l, x.wf := by
  obtain ⟨A0, n0, c0, rfl⟩ := hok
  obtain ⟨fuel, hf⟩ := h
  obtain ⟨A, n, c, css, ds, e, hn, _, hs, hl, hR, _⟩ := open_sees Tryz.underlying63 cellsVal (by decide) hf
    (fun u _ => ∃ x : Val, u = valCells x ∧ x.wf) (fun m cs' y _ hy => val_of hy)
  have hall : ∀ u ∈ css, ∃ x : Val, u = valCells x ∧ x.wf := by
    intro u hu
    obtain ⟨k, hk⟩ := List.mem_iff_getElem?.1 hu
    obtain ⟨_, _, hx⟩ := hR k u hk
    exact hx
  obtain ⟨l, hl1, hl2⟩ : ∃ l : List Val, css = l.map valCells ∧ ∀ x ∈ l, x.wf := by
    clear hR hs hn hl hf e
    induction css with
    | nil => exact ⟨[], rfl, by simp⟩
    | cons u css ih =>
      obtain ⟨l, rfl, h2⟩ := ih fun u hu => hall u (List.mem_cons_of_mem _ hu)
      obtain ⟨x, rfl, h3⟩ := hall u List.mem_cons_self
      exact ⟨x :: l, rfl, fun y hy => (List.mem_cons.1 hy).elim (fun e => by rw [e]; exact h3) (fun hy => h2 y hy)⟩
  subst hl1
  have e : Value.slice A0 n0 c0 = .slice A n c := by simpa [Value.cells] using e
  refine ⟨A, n, c, l, e, ⟨by simpa using hn, ?_⟩, hl2⟩
  rw [show valsCells l = (l.map valCells).flatten from List.flatMap_def]
  exact hs
end
end Go.Proofs.YtlkgeflcnbgndaaGreatDoor
