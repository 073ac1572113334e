/- Arguments that are a value, an expression, or a list of expressions: what a walk sees. -/
import Derived.Test.YtpbbkpfaphjdoaaGreatDoorOpenExN
namespace Go.Proofs.YtpbbkpfaphjdoaaGreatDoor
open Go.ChangeShapes Go.WideShapes Go.ChangeAt Go.RowKit

section
variable {H : Type} {enc : TypeId × Value → H} {w : World}
set_option maxRecDepth 100000 in
theorem open_val {base : Nat} {v : Value} {d : DataW H} {p : List MemPlace} (hok : Value.okWide Tryz.prog w .any base 23 v) (h : DataW.Trod enc Tryz.prog w 0 (fun _ => true) true 23 v d p) :
    ∃ x : Val, v = valV x ∧ x.wf := by
  obtain ⟨cs, rfl, _⟩ := okWide_struct Tryz.underlying23 hok
  obtain ⟨c0, c1, c2, y0, y1, y2, m, e, _, _, h0, h1, h2⟩ := Go.Joins.open_agg3 Tryz.underlying23 (by kernel_rfl) cellsVal hok h
  rw [e]
  obtain ⟨t, e0, _, ht⟩ := DataW.trod_int Tryz.underlying3 h0
  obtain ⟨n, e1, _, hn⟩ := DataW.trod_int Tryz.underlying3 h1
  obtain ⟨s, e2, _, hs⟩ := DataW.trod_string Tryz.underlying9 h2
  injection e0 with e0
  injection e1 with e1
  injection e2 with e2
  subst e0 e1 e2
  exact ⟨⟨t, n, s⟩, rfl, fits_of ht, fits_of hn, hs⟩

set_option maxRecDepth 100000 in
theorem ex_of : ∀ (m : Nat) (cs : List Value) (y : DataW H × List MemPlace), DataW.trod enc Tryz.prog w 0 (fun _ => true) true m 26 cs = some y →
    ∃ e : Ex, cs = exCells e ∧ SeesEx w e := by
  intro m
  induction m using Nat.strongRecOn with
  | ind m ih =>
  intro cs y h
  obtain ⟨xs, n, rfl, _, hlen, hxs, hf⟩ := DataW.trod_struct Tryz.underlying26 h
  rw [cellsEx] at hlen
  match cs, hlen with
  | [v0, v1, v2, v3, v4, v5, v6], _ =>
    have hx : xs.length = 5 := hxs
    have h0 : DataW.trod enc Tryz.prog w 0 (fun _ => true) true n 9 (([v0, v1, v2, v3, v4, v5, v6].drop 0).take (Tryz.prog.cellsOf 9)) = xs[0]? := hf 0 _ rfl
    have h1 : DataW.trod enc Tryz.prog w 0 (fun _ => true) true n 9 (([v0, v1, v2, v3, v4, v5, v6].drop 1).take (Tryz.prog.cellsOf 9)) = xs[1]? := hf 1 _ rfl
    have h2 : DataW.trod enc Tryz.prog w 0 (fun _ => true) true n 23 (([v0, v1, v2, v3, v4, v5, v6].drop 2).take (Tryz.prog.cellsOf 23)) = xs[2]? := hf 2 _ rfl
    have h3 : DataW.trod enc Tryz.prog w 0 (fun _ => true) true n 24 (([v0, v1, v2, v3, v4, v5, v6].drop 5).take (Tryz.prog.cellsOf 24)) = xs[3]? := hf 3 _ rfl
    have h4 : DataW.trod enc Tryz.prog w 0 (fun _ => true) true n 3 (([v0, v1, v2, v3, v4, v5, v6].drop 6).take (Tryz.prog.cellsOf 3)) = xs[4]? := hf 4 _ rfl
    rw [cells9v, List.getElem?_eq_getElem (by omega)] at h0 h1
    rw [cellsVal, List.getElem?_eq_getElem (by omega)] at h2
    rw [cellsExs, List.getElem?_eq_getElem (by omega)] at h3
    rw [cells3v, List.getElem?_eq_getElem (by omega)] at h4
    obtain ⟨s0, e0, _, f0⟩ := DataW.trod_string Tryz.underlying9 h0
    obtain ⟨s1, e1, _, f1⟩ := DataW.trod_string Tryz.underlying9 h1
    obtain ⟨v, e2, f2⟩ := val_of h2
    obtain ⟨p, e4, _, f4⟩ := DataW.trod_int Tryz.underlying3 h4
    obtain ⟨A, k, c, css, ds, e3, hk, _, hs, hl, hR, _⟩ := open_sees Tryz.underlying24 cellsEx (by decide) h3
      (fun u _ => ∃ x : Ex, u = exCells x ∧ SeesEx w x) (fun m cs' y hm hy => ih m (by omega) cs' y hy)
    have hall : ∀ u ∈ css, ∃ x : Ex, u = exCells x ∧ SeesEx w x := by
      intro u hu
      obtain ⟨k, hk⟩ := List.mem_iff_getElem?.1 hu
      obtain ⟨_, _, hx⟩ := hR k u hk
      exact hx
    obtain ⟨l, hl1, hl2⟩ : ∃ l : List Ex, css = l.map exCells ∧ ∀ x ∈ l, SeesEx w x := by
      clear hR hs hk hl h3 e3
      induction css with
      | nil => exact ⟨[], rfl, by simp⟩
      | cons u css ih =>
        obtain ⟨l, rfl, h2⟩ := ih fun u hu => hall u (List.mem_cons_of_mem _ hu)
        obtain ⟨x, rfl, h3⟩ := hall u List.mem_cons_self
        exact ⟨x :: l, rfl, fun y hy => (List.mem_cons.1 hy).elim (fun e => by rw [e]; exact h3) (fun hy => h2 y hy)⟩
    subst hl1
    obtain rfl : l.length = k := by simpa using hk
    injection e0 with e0
    injection e1 with e1
    injection e4 with e4
    injection e3 with e3
    obtain ⟨rfl, rfl, rfl⟩ : v2 = .int .i64 v.type ∧ v3 = .int .i64 v.n ∧ v4 = .string v.s := by
      have e2' : [v2, v3, v4] = valCells v := e2
      unfold valCells at e2'
      simpa using e2'
    subst e0 e1 e3 e4
    have hs' : Sees w A l.length c 7 (exsCells l) := by
      rw [show exsCells l = (l.map exCells).flatten from List.flatMap_def]
      exact hs
    exact ⟨.mk s0 s1 v A c l p, rfl, .mk hs' f0 f1 f2 (fits_of f4) hl2⟩

set_option maxRecDepth 100000 in
theorem open_ex {base : Nat} {v : Value} {d : DataW H} {p : List MemPlace} (hok : Value.okWide Tryz.prog w .any base 26 v) (h : DataW.Trod enc Tryz.prog w 0 (fun _ => true) true 26 v d p) :
    ∃ e : Ex, v = exV e ∧ SeesEx w e := by
  obtain ⟨cs, rfl, hsz⟩ := okWide_struct Tryz.underlying26 hok
  obtain ⟨fuel, hf⟩ := h
  obtain ⟨e, he, hs⟩ := ex_of fuel _ _ hf
  refine ⟨e, ?_, hs⟩
  have : cs.toList = exCells e := he
  unfold exV
  rw [show cs = (exCells e).toArray by rw [← this]]
  rfl

set_option maxRecDepth 100000 in
theorem open_exs {v : Value} {d : DataW H} {p : List MemPlace} (hok : ∃ A n c, v = .slice A n c) (h : DataW.Trod enc Tryz.prog w 0 (fun _ => true) true 24 v d p) :
    ∃ (A : Option Addr) (c : Nat) (l : List Ex), v = .slice A l.length c ∧ Sees w A l.length c 7 (exsCells l) ∧ ∀ x ∈ l, SeesEx w x := by
  obtain ⟨A0, n0, c0, rfl⟩ := hok
  obtain ⟨fuel, hf⟩ := h
  obtain ⟨A, n, c, css, ds, e, hn, _, hs, hl, hR, _⟩ := open_sees Tryz.underlying24 cellsEx (by decide) hf
    (fun u _ => ∃ x : Ex, u = exCells x ∧ SeesEx w x) (fun m cs' y _ hy => ex_of m cs' y hy)
  have hall : ∀ u ∈ css, ∃ x : Ex, u = exCells x ∧ SeesEx w x := by
    intro u hu
    obtain ⟨k, hk⟩ := List.mem_iff_getElem?.1 hu
    obtain ⟨_, _, hx⟩ := hR k u hk
    exact hx
  obtain ⟨l, hl1, hl2⟩ : ∃ l : List Ex, css = l.map exCells ∧ ∀ x ∈ l, SeesEx w x := by
    clear hR hs hn hl hf e
    induction css with
    | nil => exact ⟨[], rfl, by simp⟩
    | cons u css ih =>
      obtain ⟨l, rfl, h2⟩ := ih fun u hu => hall u (List.mem_cons_of_mem _ hu)
      obtain ⟨x, rfl, h3⟩ := hall u List.mem_cons_self
      exact ⟨x :: l, rfl, fun y hy => (List.mem_cons.1 hy).elim (fun e => by rw [e]; exact h3) (fun hy => h2 y hy)⟩
  subst hl1
  have e : Value.slice A0 n0 c0 = .slice A n c := by simpa [Value.cells] using e
  obtain rfl : l.length = n := by simpa using hn
  refine ⟨A, c, l, e, ?_, hl2⟩
  rw [show exsCells l = (l.map exCells).flatten from List.flatMap_def]
  exact hs
end
end Go.Proofs.YtpbbkpfaphjdoaaGreatDoor
