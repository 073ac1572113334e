/- Arguments that are a value, or a list of values: what a walk sees. An argument that is an expression, or a list of expressions: what a walk sees. An argument that is an expression: what a walk sees, and that it has no more nodes than its bulk. -/
import Derived.Test.YtpbbkpfaphjdoaaGreatDoorFOpen
import Derived.Test.YtpbbkpfaphjdoaaGreatDoorFVals
import Derived.Lib.SmallJoins
import Derived.Test.YtpbbkpfaphjdoaaGreatDoorFEx
import Derived.Test.YtpbbkpfaphjdoaaGreatDoorFCheck
namespace Go.Proofs.YtpbbkpfaphjdoaaGreatDoor
open Go.ChangeShapes Go.WideShapes Go.ChangeAt Go.RowKit
theorem cellsVal : Tryz.prog.cellsOf 23 = 3 := by kernel_rfl
theorem cells9v : Tryz.prog.cellsOf 9 = 1 := by kernel_rfl
theorem cells3v : Tryz.prog.cellsOf 3 = 1 := by kernel_rfl
section
variable {H : Type} {enc : TypeId × Value → H} {w : World}
set_option maxRecDepth 100000 in
theorem val_of {m : Nat} {cs : List Value} {y : DataW H × List MemPlace} (h : DataW.trod enc Tryz.prog w 0 (fun _ => true) true m 23 cs = some y) :
  ∃ v : Val, cs = valCells v ∧ v.wf := by
 obtain ⟨xs, n, _, _, hlen, hxs, hf⟩ := DataW.trod_struct Tryz.underlying23 h
 rw [cellsVal] at hlen
 match cs, hlen with
 | [v0, v1, v2], _ =>
  have hx : xs.length = 3 := hxs
  have h0 : DataW.trod enc Tryz.prog w 0 (fun _ => true) true n 3 (([v0, v1, v2].drop 0).take (Tryz.prog.cellsOf 3)) = xs[0]? := hf 0 _ rfl
  have h1 : DataW.trod enc Tryz.prog w 0 (fun _ => true) true n 3 (([v0, v1, v2].drop 1).take (Tryz.prog.cellsOf 3)) = xs[1]? := hf 1 _ rfl
  have h2 : DataW.trod enc Tryz.prog w 0 (fun _ => true) true n 9 (([v0, v1, v2].drop 2).take (Tryz.prog.cellsOf 9)) = xs[2]? := hf 2 _ rfl
  rw [cells3v, List.getElem?_eq_getElem (by omega)] at h0 h1
  rw [cells9v, List.getElem?_eq_getElem (by omega)] at h2
  obtain ⟨t, e0, _, ht⟩ := DataW.trod_int Tryz.underlying3 h0
  obtain ⟨n, e1, _, hn⟩ := DataW.trod_int Tryz.underlying3 h1
  obtain ⟨s, e2, _, hs⟩ := DataW.trod_string Tryz.underlying9 h2
  injection e0 with e0
  injection e1 with e1
  injection e2 with e2
  subst e0 e1 e2
  exact ⟨⟨t, n, s⟩, rfl, fits_of ht, fits_of hn, hs⟩
end
end Go.Proofs.YtpbbkpfaphjdoaaGreatDoor
namespace Go.Proofs.YtpbbkpfaphjdoaaGreatDoor
open Go.ChangeShapes Go.WideShapes Go.ChangeAt Go.RowKit
theorem cellsEx : Tryz.prog.cellsOf 26 = 7 := by kernel_rfl
theorem cellsExs : Tryz.prog.cellsOf 24 = 1 := by kernel_rfl
section
variable {H : Type} {enc : TypeId × Value → H} {w : World}
end
end Go.Proofs.YtpbbkpfaphjdoaaGreatDoor
namespace Go.Proofs.YtpbbkpfaphjdoaaGreatDoor
open Go.ChangeShapes Go.WideShapes Go.ChangeAt Go.RowKit
section
variable {H : Type} {enc : TypeId × Value → H} {w : World}
set_option maxRecDepth 100000 in
theorem exn_of : ∀ (m : Nat) (cs : List Value) (y : DataW H × List MemPlace), DataW.trod enc Tryz.prog w 0 (fun _ => true) true m 26 cs = some y →
  ∃ e : Ex, cs = exCells e ∧ SeesEx w e ∧ exN e ≤ Rows.uptoBulk y.1 := by
 intro m
 induction m using Nat.strongRecOn with
 | ind m ih =>
 intro cs y h
 obtain ⟨xs, n, rfl, hy, hlen, hxs, hf⟩ := DataW.trod_struct Tryz.underlying26 h
 rw [cellsEx] at hlen
 match cs, hlen with
 | [v0, v1, v2, v3, v4, v5, v6], _ =>
  have hx : xs.length = 5 := hxs
  have h0 : DataW.trod enc Tryz.prog w 0 (fun _ => true) true n 9 (([v0, v1, v2, v3, v4, v5, v6].drop 0).take (Tryz.prog.cellsOf 9)) = xs[0]? := hf 0 _ rfl
  have h1 : DataW.trod enc Tryz.prog w 0 (fun _ => true) true n 9 (([v0, v1, v2, v3, v4, v5, v6].drop 1).take (Tryz.prog.cellsOf 9)) = xs[1]? := hf 1 _ rfl
  have h2 : DataW.trod enc Tryz.prog w 0 (fun _ => true) true n 23 (([v0, v1, v2, v3, v4, v5, v6].drop 2).take (Tryz.prog.cellsOf 23)) = xs[2]? := hf 2 _ rfl
  have h3 : DataW.trod enc Tryz.prog w 0 (fun _ => true) true n 24 (([v0, v1, v2, v3, v4, v5, v6].drop 5).take (Tryz.prog.cellsOf 24)) = xs[3]? := hf 3 _ rfl
  have h4 : DataW.trod enc Tryz.prog w 0 (fun _ => true) true n 3 (([v0, v1, v2, v3, v4, v5, v6].drop 6).take (Tryz.prog.cellsOf 3)) = xs[4]? := hf 4 _ rfl
  rw [cells9v, List.getElem?_eq_getElem (by omega)] at h0 h1
  rw [cellsVal, List.getElem?_eq_getElem (by omega)] at h2
  rw [cellsExs, List.getElem?_eq_getElem (by omega)] at h3
  rw [cells3v, List.getElem?_eq_getElem (by omega)] at h4
  obtain ⟨s0, e0, _, f0⟩ := DataW.trod_string Tryz.underlying9 h0
  obtain ⟨s1, e1, _, f1⟩ := DataW.trod_string Tryz.underlying9 h1
  obtain ⟨v, e2, f2⟩ := val_of h2
  obtain ⟨p, e4, _, f4⟩ := DataW.trod_int Tryz.underlying3 h4
  obtain ⟨A, k, c, css, ds, e3, hk, hds, hs, hl, hR, hdd⟩ := open_sees Tryz.underlying24 cellsEx (by decide) h3
   (fun u d => ∃ x : Ex, u = exCells x ∧ SeesEx w x ∧ exN x ≤ Rows.uptoBulk d) (fun m cs' y hm hy => ih m (by omega) cs' y hy)
  obtain ⟨l, hl1, hl2, hl3⟩ : ∃ l : List Ex, css = l.map exCells ∧ (∀ x ∈ l, SeesEx w x) ∧ exNs l ≤ Rows.uptoBulkAll ds := by
   clear hs hl h3 e3 hdd
   induction css generalizing ds k with
   | nil => exact ⟨[], rfl, by simp, Nat.zero_le _⟩
   | cons u css ih2 =>
    obtain ⟨d, hd, x, hx1, hx2, hx3⟩ := hR 0 u rfl
    cases ds with
    | nil => cases hd
    | cons d0 ds =>
     cases k with
     | zero => simp at hk
     | succ k =>
      obtain ⟨l, hl1, hl2, hl3⟩ := ih2 k ds (by simpa using hk) (by simpa using hds) (fun j u hu => hR (j + 1) u (by simpa using hu))
      simp only [List.getElem?_cons_zero, Option.some.injEq] at hd
      subst hd
      refine ⟨x :: l, by rw [hx1, hl1]; rfl, ?_, ?_⟩
      ·intro y hy
       rcases List.mem_cons.1 hy with rfl | hy
       ·exact hx2
       ·exact hl2 y hy
      ·rw [exNs, Rows.uptoBulkAll]; omega
  subst hl1
  obtain rfl : l.length = k := by simpa using hk
  injection e0 with e0
  injection e1 with e1
  injection e4 with e4
  injection e3 with e3
  obtain ⟨rfl, rfl, rfl⟩ : v2 = .int .i64 v.type ∧ v3 = .int .i64 v.n ∧ v4 = .string v.s := by
   have e2' : [v2, v3, v4] = valCells v := e2
   unfold valCells at e2'
   simpa using e2'
  subst e0 e1 e3 e4
  have hs' : Sees w A l.length c 7 (exsCells l) := by
   rw [show exsCells l = (l.map exCells).flatten from List.flatMap_def]
   exact hs
  refine ⟨.mk s0 s1 v A c l p, rfl, .mk hs' f0 f1 f2 (fits_of f4) hl2, ?_⟩
  rw [hy, exN]
  show exNs l + 1 ≤ Rows.uptoBulk (DataW.agg (xs.map (·.1)))
  rw [Rows.uptoBulk]
  have hb3 : exNs l ≤ Rows.uptoBulk (xs[3]'(by omega)).1 := by
   rcases hdd with ⟨hd, hk0, _⟩ | ⟨sp, hd, _⟩
   ·have : l = [] := List.eq_nil_of_length_eq_zero hk0
    subst this
    exact Nat.zero_le _
   ·rw [hd, Rows.uptoBulk]; omega
  have hall : ∀ (l : List (DataW H)) (j : Nat) (h : j < l.length), Rows.uptoBulk l[j] ≤ Rows.uptoBulkAll l := by
   intro l
   induction l with
   | nil => intro j h; simp at h
   | cons a l ih =>
    intro j h
    rw [Rows.uptoBulkAll]
    cases j with
    | zero => simp
    | succ j => have := ih j (by simpa using h); simp; omega
  have hm := hall (xs.map (·.1)) 3 (by simp; omega)
  simp only [List.getElem_map] at hm
  omega
set_option maxRecDepth 100000 in
theorem open_exn {base : Nat} {v : Value} {d : DataW H} {p : List MemPlace} (hok : Value.okWide Tryz.prog w .any base 26 v) (h : DataW.Trod enc Tryz.prog w 0 (fun _ => true) true 26 v d p) :
  ∃ e : Ex, v = exV e ∧ SeesEx w e ∧ exN e ≤ Rows.uptoBulk d := by
 obtain ⟨cs, rfl, hsz⟩ := okWide_struct Tryz.underlying26 hok
 obtain ⟨fuel, hf⟩ := h
 obtain ⟨e, he, hs, hn⟩ := exn_of fuel _ _ hf
 refine ⟨e, ?_, hs, hn⟩
 have : cs.toList = exCells e := he
 unfold exV
 rw [show cs = (exCells e).toArray by rw [← this]]
 rfl
end
end Go.Proofs.YtpbbkpfaphjdoaaGreatDoor
