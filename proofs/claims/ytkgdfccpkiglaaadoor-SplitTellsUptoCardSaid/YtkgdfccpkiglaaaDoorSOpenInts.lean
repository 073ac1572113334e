/- An argument that is a list of numbers: what a walk sees. -/
import Derived.Test.YtkgdfccpkiglaaaDoorSOpen
import Derived.Test.YtkgdfccpkiglaaaDoorSAnyInt
namespace Go.Proofs.YtkgdfccpkiglaaaDoor
open Go.ChangeShapes Go.WideShapes Go.ChangeAt Go.RowKit
theorem cells3i : Tryd.prog.cellsOf 3 = 1 := by kernel_rfl
section
variable {H : Type} {enc : TypeId × Value → H} {w : World}
set_option maxRecDepth 100000 in
theorem open_ints {v : Value} {d : DataW H} {p : List MemPlace} (hok : ∃ A n c, v = .slice A n c) (h : DataW.Trod enc Tryd.prog w 0 (fun _ => true) true 23 v d p) :
  ∃ (A : Option Addr) (n c : Nat) (l : List Int), v = .slice A n c ∧ Sees w A n c 1 (intCells l) ∧ ∀ x ∈ l, fits x := by
 obtain ⟨A0, n0, c0, rfl⟩ := hok
 obtain ⟨fuel, hf⟩ := h
 obtain ⟨A, n, c, css, ds, e, hn, _, hs, hl, hR, _⟩ := open_sees Tryd.underlying23 cells3i (by decide) hf
  (fun u _ => ∃ x : Int, u = [.int .i64 x] ∧ fits x) (fun m cs' y _ hy => by
   obtain ⟨t, e0, _, ht⟩ := DataW.trod_int Tryd.underlying3 hy
   exact ⟨t, e0, fits_of ht⟩)
 have hall : ∀ u ∈ css, ∃ x : Int, u = [.int .i64 x] ∧ fits x := by
  intro u hu
  obtain ⟨k, hk⟩ := List.mem_iff_getElem?.1 hu
  obtain ⟨_, _, hx⟩ := hR k u hk
  exact hx
 obtain ⟨l, hl1, hl2⟩ : ∃ l : List Int, css = l.map (fun x => [.int .i64 x]) ∧ ∀ x ∈ l, fits x := by
  clear hR hs hn hl hf e
  induction css with
  | nil => exact ⟨[], rfl, by simp⟩
  | cons u css ih =>
   obtain ⟨l, rfl, h2⟩ := ih fun u hu => hall u (List.mem_cons_of_mem _ hu)
   obtain ⟨x, rfl, h3⟩ := hall u List.mem_cons_self
   exact ⟨x :: l, rfl, fun y hy => (List.mem_cons.1 hy).elim (fun e => by rw [e]; exact h3) (fun hy => h2 y hy)⟩
 subst hl1
 have e : Value.slice A0 n0 c0 = .slice A n c := by simpa [Value.cells] using e
 refine ⟨A, n, c, l, e, ?_, hl2⟩
 have hfl : (l.map (fun x => [Value.int .i64 x])).flatten = intCells l := by
  clear hs hl hR hall hn hf e hl2
  induction l with
  | nil => rfl
  | cons x l ih => rw [List.map_cons, List.flatten_cons, ih]; rfl
 rw [← hfl]
 exact hs
end
end Go.Proofs.YtkgdfccpkiglaaaDoor
