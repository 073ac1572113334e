/- An argument that is a list of rows of values: what a walk sees. -/
import Derived.Test.YtkgdfccpkiglaaaDoorSOpenExN
import Derived.Test.YtkgdfccpkiglaaaDoorSSplitParts
namespace Go.Proofs.YtkgdfccpkiglaaaDoor
open Go.ChangeShapes Go.WideShapes Go.ChangeAt Go.RowKit
theorem cellsVals : Tryd.prog.cellsOf 28 = 1 := by kernel_rfl
section
variable {H : Type} {enc : TypeId × Value → H} {w : World}
set_option maxRecDepth 100000 in
theorem vals_of {m : Nat} {cs : List Value} {y : DataW H × List MemPlace} (hf : DataW.trod enc Tryd.prog w 0 (fun _ => true) true m 28 cs = some y) :
  ∃ h : RowH, cs = [.slice h.R h.n h.c] ∧ SeesVals w h.R h.n h.c h.r ∧ ∀ v ∈ h.r, v.wf := by
 obtain ⟨A, n, c, css, ds, e, hn, _, hs, hl, hR, _⟩ := open_sees Tryd.underlying28 cellsVal (by decide) hf
  (fun u _ => ∃ x : Val, u = valCells x ∧ x.wf) (fun m cs' y _ hy => val_of hy)
 have hall : ∀ u ∈ css, ∃ x : Val, u = valCells x ∧ x.wf := by
  intro u hu
  obtain ⟨k, hk⟩ := List.mem_iff_getElem?.1 hu
  obtain ⟨_, _, hx⟩ := hR k u hk
  exact hx
 obtain ⟨l, hl1, hl2⟩ : ∃ l : List Val, css = l.map valCells ∧ ∀ x ∈ l, x.wf := by
  clear hR hs hn hl hf e
  induction css with
  | nil => exact ⟨[], rfl, by simp⟩
  | cons u css ih =>
   obtain ⟨l, rfl, h2⟩ := ih fun u hu => hall u (List.mem_cons_of_mem _ hu)
   obtain ⟨x, rfl, h3⟩ := hall u List.mem_cons_self
   exact ⟨x :: l, rfl, fun y hy => (List.mem_cons.1 hy).elim (fun e => by rw [e]; exact h3) (fun hy => h2 y hy)⟩
 subst hl1
 refine ⟨⟨A, n, c, l⟩, e, ⟨by simpa using hn, ?_⟩, hl2⟩
 rw [show valsCells l = (l.map valCells).flatten from List.flatMap_def]
 exact hs
set_option maxRecDepth 100000 in
theorem open_rows {v : Value} {d : DataW H} {p : List MemPlace} (hok : ∃ A n c, v = .slice A n c) (h : DataW.Trod enc Tryd.prog w 0 (fun _ => true) true 22 v d p) :
  ∃ (A : Option Addr) (n c : Nat) (l : List RowH), v = .slice A n c ∧ SeesRows w A n c l ∧ ∀ x ∈ l, ∀ u ∈ x.r, u.wf := by
 obtain ⟨A0, n0, c0, rfl⟩ := hok
 obtain ⟨fuel, hf⟩ := h
 obtain ⟨A, n, c, css, ds, e, hn, _, hs, hl, hR, _⟩ := open_sees Tryd.underlying22 cellsVals (by decide) hf
  (fun u _ => ∃ h : RowH, u = [.slice h.R h.n h.c] ∧ SeesVals w h.R h.n h.c h.r ∧ ∀ v ∈ h.r, v.wf) (fun m cs' y _ hy => vals_of hy)
 have hall : ∀ u ∈ css, ∃ h : RowH, u = [.slice h.R h.n h.c] ∧ SeesVals w h.R h.n h.c h.r ∧ ∀ v ∈ h.r, v.wf := by
  intro u hu
  obtain ⟨k, hk⟩ := List.mem_iff_getElem?.1 hu
  obtain ⟨_, _, hx⟩ := hR k u hk
  exact hx
 obtain ⟨l, hl1, hl2⟩ : ∃ l : List RowH, css = l.map (fun h => [Value.slice h.R h.n h.c]) ∧ ∀ x ∈ l, SeesVals w x.R x.n x.c x.r ∧ ∀ v ∈ x.r, v.wf := by
  clear hR hs hn hl hf e
  induction css with
  | nil => exact ⟨[], rfl, by simp⟩
  | cons u css ih =>
   obtain ⟨l, rfl, h2⟩ := ih fun u hu => hall u (List.mem_cons_of_mem _ hu)
   obtain ⟨x, rfl, h3⟩ := hall u List.mem_cons_self
   exact ⟨x :: l, rfl, fun y hy => (List.mem_cons.1 hy).elim (fun e => by rw [e]; exact h3) (fun hy => h2 y hy)⟩
 subst hl1
 have e : Value.slice A0 n0 c0 = .slice A n c := by simpa [Value.cells] using e
 have hfl : (l.map (fun h => [Value.slice h.R h.n h.c])).flatten = rowCells l := by
  clear hs hl hR hall hn hf e hl2
  induction l with
  | nil => rfl
  | cons x l ih => rw [List.map_cons, List.flatten_cons, ih]; rfl
 rw [hfl] at hs
 exact ⟨A, n, c, l, e, ⟨hs, fun x hx => (hl2 x hx).1⟩, fun x hx => (hl2 x hx).2⟩
end
end Go.Proofs.YtkgdfccpkiglaaaDoor
