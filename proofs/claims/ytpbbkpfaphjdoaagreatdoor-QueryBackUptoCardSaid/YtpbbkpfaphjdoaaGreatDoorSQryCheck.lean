/- An argument that is a query, of so much bulk: what a walk sees. query.Check, walked: the columns of what comes of a query, or what is wrong with it. -/
import Derived.Test.YtpbbkpfaphjdoaaGreatDoorSShow
import Derived.Test.YtpbbkpfaphjdoaaGreatDoorSQryShown
import Derived.Test.YtpbbkpfaphjdoaaGreatDoorSQryShape
import Derived.Test.YtpbbkpfaphjdoaaGreatDoorSQryColsOf
namespace Go.Proofs.YtpbbkpfaphjdoaaGreatDoor
open Go.ChangeShapes Go.WideShapes Go.ChangeAt Go.RowKit
theorem cellsAggB : Tryz.prog.cellsOf 99 = 9 := by kernel_rfl
theorem cellsQryB : Tryz.prog.cellsOf 30 = 14 := by kernel_rfl
theorem cellsStrsB : Tryz.prog.cellsOf 27 = 1 := by kernel_rfl
theorem cellsAggsB : Tryz.prog.cellsOf 28 = 1 := by kernel_rfl
section
variable {H : Type} {enc : TypeId × Value → H} {w : World}
theorem lens_small {q : QX} (h : SmallQ q) : LensQ q := by
 obtain ⟨h1, h2, h3, h4⟩ := h.lens
 exact ⟨by omega, by omega, by omega, by omega⟩
theorem bulkB_pos (d : DataW H) : 1 ≤ Rows.uptoBulk d := by
 cases d with
 | lit l => cases l <;> rw [Rows.uptoBulk] <;> first | omega | (intro _ h; cases h)
 | nil => rw [Rows.uptoBulk]; omega
 | ptr d => rw [Rows.uptoBulk]; omega
 | slice e s => rw [Rows.uptoBulk]; omega
 | agg p => rw [Rows.uptoBulk]; omega
 | iface t d => rw [Rows.uptoBulk]; omega
 | map e => rw [Rows.uptoBulk]; omega
 | held h => rw [Rows.uptoBulk]; omega
theorem bulkB_len : ∀ ds : List (DataW H), ds.length ≤ Rows.uptoBulkAll ds
 | [] => Nat.zero_le _
 | d :: ds => by have := bulkB_len ds; have := bulkB_pos d; rw [Rows.uptoBulkAll, List.length_cons]; omega
theorem bulkB_at : ∀ (l : List (DataW H)) (j : Nat) (h : j < l.length), Rows.uptoBulk l[j] ≤ Rows.uptoBulkAll l := by
 intro l
 induction l with
 | nil => intro j h; simp at h
 | cons a l ih =>
  intro j h
  rw [Rows.uptoBulkAll]
  cases j with
  | zero => simp
  | succ j => have := ih j (by simpa using h); simp; omega
theorem listB_of {α : Type} (f : α → List Value) (P : α → Nat → Prop) {size m : Nat} {t e : TypeId} {cs : List Value} {y : DataW H × List MemPlace} (ht : Tryz.prog.underlying t = some (.slice e)) (hC : Tryz.prog.cellsOf e = size) (hpos : 0 < size)
  (h : DataW.trod enc Tryz.prog w 0 (fun _ => true) true m t cs = some y) (hR : ∀ m cs' y, DataW.trod enc Tryz.prog w 0 (fun _ => true) true m e cs' = some y → ∃ x, cs' = f x ∧ P x (Rows.uptoBulk y.1)) :
  ∃ (A : Option Addr) (c : Nat) (l : List α), cs = [.slice A l.length c] ∧ Sees w A l.length c size (l.map f).flatten ∧ (∀ x ∈ l, ∃ n, n ≤ Rows.uptoBulk y.1 ∧ P x n) ∧ l.length ≤ Rows.uptoBulk y.1 := by
 obtain ⟨A, n, c, css, ds, ecs, hn, hds, hs, hl, hR', hb⟩ := open_sees ht hC hpos h (fun u d => ∃ x, u = f x ∧ P x (Rows.uptoBulk d)) (fun m cs' y _ hy => hR m cs' y hy)
 have hbk : n ≤ Rows.uptoBulk y.1 ∧ ∀ d ∈ ds, Rows.uptoBulk d ≤ Rows.uptoBulk y.1 := by
  rcases hb with ⟨h1, h2, -⟩ | ⟨sp, h1, -⟩
  ·refine ⟨by omega, fun d hd => ?_⟩
   rw [List.eq_nil_of_length_eq_zero (hds.trans h2)] at hd
   cases hd
  ·rw [h1, Rows.uptoBulk]
   have := bulkB_len ds
   refine ⟨by omega, fun d hd => ?_⟩
   obtain ⟨k, hk⟩ := List.mem_iff_getElem?.1 hd
   obtain ⟨hk1, hk2⟩ := List.getElem?_eq_some_iff.1 hk
   have := bulkB_at ds k hk1
   rw [hk2] at this
   omega
 have hall : ∀ u ∈ css, ∃ x, u = f x ∧ ∃ n, n ≤ Rows.uptoBulk y.1 ∧ P x n := by
  intro u hu
  obtain ⟨k, hk⟩ := List.mem_iff_getElem?.1 hu
  obtain ⟨d, hd, x, h1, h2⟩ := hR' k u hk
  exact ⟨x, h1, _, hbk.2 d (List.mem_of_getElem? hd), h2⟩
 obtain ⟨l, hl1, hl2⟩ : ∃ l : List α, css = l.map f ∧ ∀ x ∈ l, ∃ n, n ≤ Rows.uptoBulk y.1 ∧ P x n := by
  clear hR' hs hn hl h ecs hb hbk
  induction css with
  | nil => exact ⟨[], rfl, by simp⟩
  | cons u css ih =>
   obtain ⟨l, rfl, h2⟩ := ih fun u hu => hall u (List.mem_cons_of_mem _ hu)
   obtain ⟨x, rfl, h3⟩ := hall u List.mem_cons_self
   exact ⟨x :: l, rfl, fun y hy => (List.mem_cons.1 hy).elim (fun e => by rw [e]; exact h3) (fun hy => h2 y hy)⟩
 subst hl1
 obtain rfl : l.length = n := by rw [List.length_map] at hn; exact hn
 exact ⟨A, c, l, ecs, hs, hl2, hbk.1⟩
theorem str_bulk {s : List UInt8} : s.length ≤ Rows.uptoBulk (DataW.lit (.string s) : DataW H) := by rw [Rows.uptoBulk]; omega
set_option maxRecDepth 100000 in
theorem aggxB_of {m : Nat} {cs : List Value} {y : DataW H × List MemPlace} (h : DataW.trod enc Tryz.prog w 0 (fun _ => true) true m 99 cs = some y) :
  ∃ a : AggX, cs = aggXL a ∧ SeesEx w a.of ∧ (a.what.size ≤ maxLen ∧ a.name.size ≤ maxLen) ∧ a.what.size ≤ Rows.uptoBulk y.1 ∧ a.name.size ≤ Rows.uptoBulk y.1 := by
 obtain ⟨xs, n, _, hy, hlen, hxs, hf⟩ := DataW.trod_struct Tryz.underlying99 h
 rw [cellsAggB] at hlen
 match cs, hlen with
 | [v0, v1, v2, v3, v4, v5, v6, v7, v8], _ =>
  have hx : xs.length = 3 := hxs
  have h0 : DataW.trod enc Tryz.prog w 0 (fun _ => true) true n 9 (([v0, v1, v2, v3, v4, v5, v6, v7, v8].drop 0).take (Tryz.prog.cellsOf 9)) = xs[0]? := hf 0 _ rfl
  have h1 : DataW.trod enc Tryz.prog w 0 (fun _ => true) true n 26 (([v0, v1, v2, v3, v4, v5, v6, v7, v8].drop 1).take (Tryz.prog.cellsOf 26)) = xs[1]? := hf 1 _ rfl
  have h2 : DataW.trod enc Tryz.prog w 0 (fun _ => true) true n 9 (([v0, v1, v2, v3, v4, v5, v6, v7, v8].drop 8).take (Tryz.prog.cellsOf 9)) = xs[2]? := hf 2 _ rfl
  rw [cells9v, List.getElem?_eq_getElem (by omega)] at h0 h2
  rw [cellsEx, List.getElem?_eq_getElem (by omega)] at h1
  obtain ⟨s0, e0, g0, f0⟩ := DataW.trod_string Tryz.underlying9 h0
  obtain ⟨s2, e2, g2, f2⟩ := DataW.trod_string Tryz.underlying9 h2
  obtain ⟨⟨op, nm, v, A, c, args, pos⟩, e1, hse⟩ := ex_of _ _ _ h1
  have hall := bulkB_at (xs.map (·.1))
  have b0 := hall 0 (by simp; omega)
  have b2 := hall 2 (by simp; omega)
  simp only [List.getElem_map] at b0 b2
  rw [g0] at b0
  rw [g2] at b2
  replace b0 : Rows.uptoBulk (DataW.lit (.string s0.data.toList) : DataW H) ≤ _ := b0
  replace b2 : Rows.uptoBulk (DataW.lit (.string s2.data.toList) : DataW H) ≤ _ := b2
  have hyb : Rows.uptoBulk y.1 = Rows.uptoBulkAll (xs.map (·.1)) + 1 := by rw [hy]; show Rows.uptoBulk (DataW.agg (xs.map (·.1))) = _; rw [Rows.uptoBulk]
  have k0 := str_bulk (H := H) (s := s0.data.toList)
  have k2 := str_bulk (H := H) (s := s2.data.toList)
  have z0 : s0.data.toList.length = s0.size := rfl
  have z2 : s2.data.toList.length = s2.size := rfl
  injection e0 with e0
  injection e2 with e2
  subst e0 e2
  have e1' : [v1, v2, v3, v4, v5, v6, v7] = exCells (.mk op nm v A c args pos) := e1
  unfold exCells at e1'
  simp only [List.cons.injEq, and_true] at e1'
  obtain ⟨rfl, rfl, rfl, rfl, rfl, rfl, rfl⟩ := e1'
  exact ⟨⟨s0, .mk op nm v A c args pos, s2⟩, rfl, hse, ⟨f0, f2⟩, by show s0.size ≤ _; omega, by show s2.size ≤ _; omega⟩
theorem strB_of {m : Nat} {cs : List Value} {y : DataW H × List MemPlace} (h : DataW.trod enc Tryz.prog w 0 (fun _ => true) true m 9 cs = some y) : ∃ s : ByteArray, cs = [.string s] ∧ s.size ≤ maxLen ∧ s.size ≤ Rows.uptoBulk y.1 := by
 obtain ⟨s0, e0, g0, f0⟩ := DataW.trod_string Tryz.underlying9 h
 refine ⟨s0, e0, f0, ?_⟩
 rw [g0]
 exact str_bulk (H := H) (s := s0.data.toList)
theorem seesSB_true {w : World} (e : Ex) (h : SeesEx w e) : SeesS (fun _ => True) w e := (seesS_of h).mono fun _ _ => trivial
set_option maxRecDepth 100000 in
theorem qryB_of {m : Nat} {cs : List Value} {y : DataW H × List MemPlace} (h : DataW.trod enc Tryz.prog w 0 (fun _ => true) true m 30 cs = some y) :
  ∃ q : QX, cs = qxL q ∧ SeesQ (fun _ => True) w q ∧ (Rows.uptoBulk y.1 ≤ 1048576 → SmallQ q) := by
 obtain ⟨xs, n, _, hy, hlen, hxs, hf⟩ := DataW.trod_struct Tryz.underlying30 h
 rw [cellsQryB] at hlen
 match cs, hlen with
 | [v0, v1, v2, v3, v4, v5, v6, v7, v8, v9, v10, v11, v12, v13], _ =>
  have hx : xs.length = 8 := hxs
  have h0 : DataW.trod enc Tryz.prog w 0 (fun _ => true) true n 9 (([v0, v1, v2, v3, v4, v5, v6, v7, v8, v9, v10, v11, v12, v13].drop 0).take (Tryz.prog.cellsOf 9)) = xs[0]? := hf 0 _ rfl
  have h1 : DataW.trod enc Tryz.prog w 0 (fun _ => true) true n 26 (([v0, v1, v2, v3, v4, v5, v6, v7, v8, v9, v10, v11, v12, v13].drop 1).take (Tryz.prog.cellsOf 26)) = xs[1]? := hf 1 _ rfl
  have h2 : DataW.trod enc Tryz.prog w 0 (fun _ => true) true n 24 (([v0, v1, v2, v3, v4, v5, v6, v7, v8, v9, v10, v11, v12, v13].drop 8).take (Tryz.prog.cellsOf 24)) = xs[2]? := hf 2 _ rfl
  have h3 : DataW.trod enc Tryz.prog w 0 (fun _ => true) true n 27 (([v0, v1, v2, v3, v4, v5, v6, v7, v8, v9, v10, v11, v12, v13].drop 9).take (Tryz.prog.cellsOf 27)) = xs[3]? := hf 3 _ rfl
  have h4 : DataW.trod enc Tryz.prog w 0 (fun _ => true) true n 27 (([v0, v1, v2, v3, v4, v5, v6, v7, v8, v9, v10, v11, v12, v13].drop 10).take (Tryz.prog.cellsOf 27)) = xs[4]? := hf 4 _ rfl
  have h5 : DataW.trod enc Tryz.prog w 0 (fun _ => true) true n 3 (([v0, v1, v2, v3, v4, v5, v6, v7, v8, v9, v10, v11, v12, v13].drop 11).take (Tryz.prog.cellsOf 3)) = xs[5]? := hf 5 _ rfl
  have h6 : DataW.trod enc Tryz.prog w 0 (fun _ => true) true n 3 (([v0, v1, v2, v3, v4, v5, v6, v7, v8, v9, v10, v11, v12, v13].drop 12).take (Tryz.prog.cellsOf 3)) = xs[6]? := hf 6 _ rfl
  have h7 : DataW.trod enc Tryz.prog w 0 (fun _ => true) true n 28 (([v0, v1, v2, v3, v4, v5, v6, v7, v8, v9, v10, v11, v12, v13].drop 13).take (Tryz.prog.cellsOf 28)) = xs[7]? := hf 7 _ rfl
  rw [cells9v, List.getElem?_eq_getElem (by omega)] at h0
  rw [cellsEx, List.getElem?_eq_getElem (by omega)] at h1
  rw [cellsExs, List.getElem?_eq_getElem (by omega)] at h2
  rw [cellsStrsB, List.getElem?_eq_getElem (by omega)] at h3 h4
  rw [cells3v, List.getElem?_eq_getElem (by omega)] at h5 h6
  rw [cellsAggsB, List.getElem?_eq_getElem (by omega)] at h7
  obtain ⟨s0, e0, g0, f0⟩ := DataW.trod_string Tryz.underlying9 h0
  obtain ⟨⟨op, nm, v, A, c, args, pos⟩, e1, hse⟩ := ex_of _ _ _ h1
  obtain ⟨A2, c2, l2, e2, g2, p2, b2⟩ := listB_of exCells (fun x _ => SeesEx w x) Tryz.underlying24 cellsEx (by decide) h2 (fun m cs' y hy => ex_of m cs' y hy)
  obtain ⟨A3, c3, l3, e3, g3, p3, b3⟩ := listB_of (fun s : ByteArray => [Value.string s]) (fun s n => s.size ≤ maxLen ∧ s.size ≤ n) Tryz.underlying27 cells9v (by decide) h3 (fun m cs' y hy => strB_of hy)
  obtain ⟨A4, c4, l4, e4, g4, p4, b4⟩ := listB_of (fun s : ByteArray => [Value.string s]) (fun s n => s.size ≤ maxLen ∧ s.size ≤ n) Tryz.underlying27 cells9v (by decide) h4 (fun m cs' y hy => strB_of hy)
  obtain ⟨z5, e5, _, f5⟩ := DataW.trod_int Tryz.underlying3 h5
  obtain ⟨z6, e6, _, f6⟩ := DataW.trod_int Tryz.underlying3 h6
  obtain ⟨A7, c7, l7, e7, g7, p7, b7⟩ := listB_of aggXL (fun a n => SeesEx w a.of ∧ (a.what.size ≤ maxLen ∧ a.name.size ≤ maxLen) ∧ a.what.size ≤ n ∧ a.name.size ≤ n) Tryz.underlying28 cellsAggB (by decide) h7 (fun m cs' y hy => aggxB_of hy)
  injection e0 with e0
  injection e2 with e2
  injection e3 with e3
  injection e4 with e4
  injection e5 with e5
  injection e6 with e6
  injection e7 with e7
  have e1' : [v1, v2, v3, v4, v5, v6, v7] = exCells (.mk op nm v A c args pos) := e1
  unfold exCells at e1'
  simp only [List.cons.injEq, and_true] at e1'
  obtain ⟨rfl, rfl, rfl, rfl, rfl, rfl, rfl⟩ := e1'
  subst e0 e2 e3 e4 e5 e6 e7
  have hfl : ∀ l : List ByteArray, (l.map fun s => [Value.string s]).flatten = strCells l := fun l => by
   induction l with
   | nil => rfl
   | cons a l ih => rw [List.map_cons, List.flatten_cons, ih]; rfl
  rw [hfl] at g3 g4
  have hall := bulkB_at (xs.map (·.1))
  have hyb : Rows.uptoBulk y.1 = Rows.uptoBulkAll (xs.map (·.1)) + 1 := by rw [hy]; show Rows.uptoBulk (DataW.agg (xs.map (·.1))) = _; rw [Rows.uptoBulk]
  have m0 := hall 0 (by simp; omega)
  have m2 := hall 2 (by simp; omega)
  have m3 := hall 3 (by simp; omega)
  have m4 := hall 4 (by simp; omega)
  have m7 := hall 7 (by simp; omega)
  simp only [List.getElem_map] at m0 m2 m3 m4 m7
  rw [g0] at m0
  replace m0 : Rows.uptoBulk (DataW.lit (.string s0.data.toList) : DataW H) ≤ _ := m0
  have k0 := str_bulk (H := H) (s := s0.data.toList)
  have z0 : s0.data.toList.length = s0.size := rfl
  refine ⟨⟨s0, .mk op nm v A c args pos, A2, c2, l2, A3, c3, l3, A4, c4, l4, z5, z6, A7, c7, l7⟩, rfl, ⟨seesSB_true _ hse, ⟨by rw [show exsCells l2 = (l2.map exCells).flatten from List.flatMap_def]; exact g2, fun _ _ _ => trivial⟩, fun x hx => seesSB_true x (p2 x hx).choose_spec.2, ⟨g3, fun _ _ _ => trivial⟩, ⟨g4, fun _ _ _ => trivial⟩, ⟨by rw [show aggXs l7 = (l7.map aggXL).flatten from List.flatMap_def]; exact g7, fun _ _ _ => trivial⟩, fun a ha => seesSB_true a.of (p7 a ha).choose_spec.2.1, ⟨f0, fun s hs => (p3 s hs).choose_spec.2.1, fun s hs => (p4 s hs).choose_spec.2.1, fun a ha => (p7 a ha).choose_spec.2.2.1⟩, ⟨fits_of f5, fits_of f6⟩⟩, fun hbk => ?_⟩
  refine ⟨⟨by show l2.length ≤ _; omega, by show l3.length ≤ _; omega, by show l4.length ≤ _; omega, by show l7.length ≤ _; omega⟩, by show s0.size ≤ _; omega, fun s hs => ?_, fun s hs => ?_, fun a ha => ?_⟩
  ·obtain ⟨n, h1, -, h2⟩ := p3 s hs; omega
  ·obtain ⟨n, h1, -, h2⟩ := p4 s hs; omega
  ·obtain ⟨n, h1, -, -, h2, h3⟩ := p7 a ha; exact ⟨by omega, by omega⟩
set_option maxRecDepth 100000 in
theorem open_qryn {base : Nat} {v : Value} {d : DataW H} {p : List MemPlace} (hok : Value.okWide Tryz.prog w .any base 30 v) (h : DataW.Trod enc Tryz.prog w 0 (fun _ => true) true 30 v d p) :
  ∃ q : QX, v = qxV q ∧ SeesQ (fun _ => True) w q ∧ (Rows.uptoBulk d ≤ 1048576 → SmallQ q) := by
 obtain ⟨cs, rfl, hsz⟩ := okWide_struct Tryz.underlying30 hok
 obtain ⟨fuel, hf⟩ := h
 obtain ⟨q, he, hs, hn⟩ := qryB_of hf
 refine ⟨q, ?_, hs, hn⟩
 have : cs.toList = qxL q := he
 unfold qxV
 rw [show cs = (qxL q).toArray by rw [← this]]
 rfl
end
end Go.Proofs.YtpbbkpfaphjdoaaGreatDoor
namespace Go.Proofs.YtpbbkpfaphjdoaaGreatDoor
open Go.ChangeShapes Go.WideShapes Go.ChangeAt Go.RowKit
def wrongQ (q : QX) (l : List Col) : Int :=
 if schemaErr l ≠ 0 then schemaErr l else if shapeErr q ≠ 0 then shapeErr q else if exSame q.wher zeroE = false ∧ (typedQ l q.wher 2).2 ≠ 0 then (typedQ l q.wher 2).2
 else if colsErr q l ≠ 0 then colsErr q l else schemaErr (colsOut q l)
def QCheckSays (q : QX) (l : List Col) (w : World) (r : Ending) (w' : World) : Prop :=
 Below w.heap.size w w' ∧ if wrongQ q l ≠ 0 then r = .returned (.tuple #[.slice none 0 0, errV (wrongQ q l)])
 else ∃ A c, r = .returned (.tuple #[.slice A (colsOut q l).length c, .nilIface]) ∧ SeesCols w' A (colsOut q l).length c (colsOut q l)
theorem shape_names {q : QX} (h : shapeErr q = 0) : q.cols.length ≤ q.names.length := by
 unfold shapeErr shapeOf at h
 split at h
 ·omega
 ·rename_i h1
  split at h
  ·omega
  ·rename_i h2
   by_cases hz : q.size = 0
   ·have : q.names.length = q.cols.length := Classical.byContradiction fun hn => h1 ⟨hz, Or.inr (Or.inr (Or.inr hn))⟩
    omega
   ·have : ¬ 0 < q.cols.length + q.names.length := fun hn => h2 ⟨hz, hn⟩
    omega
theorem shape_small {q : QX} (h : shapeErr q = 0) : q.names.length + q.group.length + q.aggs.length ≤ 6 := by
 unfold shapeErr shapeOf at h
 split at h
 ·omega
 ·split at h
  ·omega
  ·split at h
   ·omega
   ·split at h
    ·omega
    ·split at h
     ·omega
     ·omega
set_option maxHeartbeats 8000000 in
set_option maxRecDepth 100000 in
theorem qcheck_any (q : QX) (C : Option Addr) (p n : Nat) (l : List Col) (w : World) (hT : Tables w) (hA : AggsT w) (hC : SeesCols w C p n l) (hs : ∀ x ∈ l, x.name.size ≤ maxLen) (hq : SeesQ (fun _ => True) w q) (hlen : LensQ q) :
  Calls Tryz.prog 11 #[qxV q, .slice C p n] w (QCheckSays q l w) := by
 obtain ⟨w0, hw0, ho0, hb0⟩ := box_q w q
 have T1 := Lib.hid (rschema_any l C p n w0 (hC.keep hb0) hs)
 have T2 := Lib.hid (fun w' => qshape_any q w' hlen)
 have T3 := Lib.hid (fun w' (hb : Below w.heap.size w w') => show Calls Tryz.prog 28 #[.agg #[.string q.wher.op, .string q.wher.name, .int .i64 q.wher.val.type, .int .i64 q.wher.val.n, .string q.wher.val.s, .slice q.wher.A q.wher.args.length q.wher.c, .int .i64 q.wher.pos], .agg #[.string ⟨#[]⟩, .string ⟨#[]⟩, .int .i64 0, .int .i64 0, .string ⟨#[]⟩, .slice none 0 0, .int .i64 0]] w' (fun e w'' => e = .returned (.bool (exSame q.wher zeroE)) ∧ Below w'.heap.size w' w'') from (like_any (SizeOf.sizeOf q.wher)) q.wher zeroE (Nat.le_refl _) w' (hq.wher.see.keep hb) (zeroX_sees w'))
 have T4 := Lib.hid (fun w' (hb : Below w.heap.size w w') => typed_any q.wher C p n l 2 w' (hT.keep hb) (hC.keep hb) hs (hq.wher.see.keep hb))
 have T5 := Lib.hid (fun w' (hb : Below w.heap.size w w') (hn : shapeErr q = 0) => cols_any q C p n l w' (hT.keep hb) (hA.keep hb) (hC.keep hb) hs (hq.keep (.of_below hb)) (shape_names hn) (shape_small hn))
 have HB0 := Lib.hid hb0
 have HO0 := Lib.hid ho0
 have HW0 := Lib.hid hw0
 have E := Lib.hid (show wrongQ q l = if schemaErr l ≠ 0 then schemaErr l else if shapeErr q ≠ 0 then shapeErr q else if exSame q.wher zeroE = false ∧ (typedQ l q.wher 2).2 ≠ 0 then (typedQ l q.wher 2).2
  else if colsErr q l ≠ 0 then colsErr q l else schemaErr (colsOut q l) from rfl)
 clear hT hA hC hs hq hlen hw0 ho0 hb0
 unfold ColsSays at T5
 unfold exV at T4
 generalize schemaErr l = x1 at T1 E
 generalize shapeErr q = x2 at T2 E T5
 generalize exSame q.wher zeroE = x3 at T3 E
 generalize typedQ l q.wher 2 = x4 at T4 E
 generalize colsErr q l = x5 at T5 E
 generalize schemaErr (colsOut q l) = x6 at T5 E
 unfold qxV at T2 T5 ⊢
 go_enter Tryz.func11, Tryz.ntmps11
 go_wp2_with (first | rw [HW0.out])
 refine (T1.out).mono ?_
 rintro e' w1 ⟨rfl, hb1⟩
 have HB1 := Lib.hid (below_step HB0.out hb1)
 have HO1 := HO0.out.keep hb1
 have HQ1 := Lib.hid HO1
 clear hb1
 have c0 : w1.cell? ⟨w.heap.size, 0, none⟩ = some (.string q.from_) := HO1.cell rfl
 have c1 : w1.cell? ⟨w.heap.size, 1, none⟩ = some (.string q.wher.op) := HO1.cell rfl
 have c2 : w1.cell? ⟨w.heap.size, 2, none⟩ = some (.string q.wher.name) := HO1.cell rfl
 have c3 : w1.cell? ⟨w.heap.size, 3, none⟩ = some (.int .i64 q.wher.val.type) := HO1.cell rfl
 have c4 : w1.cell? ⟨w.heap.size, 4, none⟩ = some (.int .i64 q.wher.val.n) := HO1.cell rfl
 have c5 : w1.cell? ⟨w.heap.size, 5, none⟩ = some (.string q.wher.val.s) := HO1.cell rfl
 have c6 : w1.cell? ⟨w.heap.size, 6, none⟩ = some (.slice q.wher.A q.wher.args.length q.wher.c) := HO1.cell rfl
 have c7 : w1.cell? ⟨w.heap.size, 7, none⟩ = some (.int .i64 q.wher.pos) := HO1.cell rfl
 have c8 : w1.cell? ⟨w.heap.size, 8, none⟩ = some (.slice q.CA q.cols.length q.cc) := HO1.cell rfl
 have c9 : w1.cell? ⟨w.heap.size, 9, none⟩ = some (.slice q.NA q.names.length q.nc) := HO1.cell rfl
 have c10 : w1.cell? ⟨w.heap.size, 10, none⟩ = some (.slice q.GA q.group.length q.gc) := HO1.cell rfl
 have c11 : w1.cell? ⟨w.heap.size, 11, none⟩ = some (.int .i64 q.size) := HO1.cell rfl
 have c12 : w1.cell? ⟨w.heap.size, 12, none⟩ = some (.int .i64 q.slide) := HO1.cell rfl
 have c13 : w1.cell? ⟨w.heap.size, 13, none⟩ = some (.slice q.AA q.aggs.length q.ac) := HO1.cell rfl
 have hl1 := HO1.lt
 clear HO1
 by_cases h1 : x1 = 0
 ·subst h1
  rw [errV_zero]
  replace E := Lib.hid (E.out.trans (if_neg (by decide)))
  go_wp2_with fail
  refine (T2.out w1).mono ?_
  rintro e' w2 ⟨rfl, hb2⟩
  clear c0 c1 c2 c3 c4 c5 c6 c7 c8 c9 c10 c11 c12 c13 hl1
  have HO2 := HQ1.out.keep hb2
  have HQ2 := Lib.hid HO2
  have HB2 := Lib.hid (below_step HB1.out hb2)
  clear hb2
  by_cases h2 : x2 = 0
  ·subst h2
   replace T5 := Lib.hid (fun w' hb => T5.out w' hb rfl)
   rw [errV_zero]
   replace E := Lib.hid (E.out.trans (if_neg (by decide)))
   have c1 : w2.cell? ⟨w.heap.size, 1, none⟩ = some (.string q.wher.op) := HO2.cell rfl
   have c2 : w2.cell? ⟨w.heap.size, 2, none⟩ = some (.string q.wher.name) := HO2.cell rfl
   have c3 : w2.cell? ⟨w.heap.size, 3, none⟩ = some (.int .i64 q.wher.val.type) := HO2.cell rfl
   have c4 : w2.cell? ⟨w.heap.size, 4, none⟩ = some (.int .i64 q.wher.val.n) := HO2.cell rfl
   have c5 : w2.cell? ⟨w.heap.size, 5, none⟩ = some (.string q.wher.val.s) := HO2.cell rfl
   have c6 : w2.cell? ⟨w.heap.size, 6, none⟩ = some (.slice q.wher.A q.wher.args.length q.wher.c) := HO2.cell rfl
   have c7 : w2.cell? ⟨w.heap.size, 7, none⟩ = some (.int .i64 q.wher.pos) := HO2.cell rfl
   have hl2 := HO2.lt
   clear HO2
   have bz := run_zero w2
   go_wp2_with fail
   refine (T3.out w2 HB2.out).mono ?_
   rintro e' w3 ⟨rfl, hb3⟩
   clear c1 c2 c3 c4 c5 c6 c7 hl2 bz
   have HO3 := HQ2.out.keep hb3
   have HQ3 := Lib.hid HO3
   have HB3 := Lib.hid (below_step HB2.out hb3)
   clear hb3
   have c0 : w3.cell? ⟨w.heap.size, 0, none⟩ = some (.string q.from_) := HO3.cell rfl
   have c1 : w3.cell? ⟨w.heap.size, 1, none⟩ = some (.string q.wher.op) := HO3.cell rfl
   have c2 : w3.cell? ⟨w.heap.size, 2, none⟩ = some (.string q.wher.name) := HO3.cell rfl
   have c3 : w3.cell? ⟨w.heap.size, 3, none⟩ = some (.int .i64 q.wher.val.type) := HO3.cell rfl
   have c4 : w3.cell? ⟨w.heap.size, 4, none⟩ = some (.int .i64 q.wher.val.n) := HO3.cell rfl
   have c5 : w3.cell? ⟨w.heap.size, 5, none⟩ = some (.string q.wher.val.s) := HO3.cell rfl
   have c6 : w3.cell? ⟨w.heap.size, 6, none⟩ = some (.slice q.wher.A q.wher.args.length q.wher.c) := HO3.cell rfl
   have c7 : w3.cell? ⟨w.heap.size, 7, none⟩ = some (.int .i64 q.wher.pos) := HO3.cell rfl
   have c8 : w3.cell? ⟨w.heap.size, 8, none⟩ = some (.slice q.CA q.cols.length q.cc) := HO3.cell rfl
   have c9 : w3.cell? ⟨w.heap.size, 9, none⟩ = some (.slice q.NA q.names.length q.nc) := HO3.cell rfl
   have c10 : w3.cell? ⟨w.heap.size, 10, none⟩ = some (.slice q.GA q.group.length q.gc) := HO3.cell rfl
   have c11 : w3.cell? ⟨w.heap.size, 11, none⟩ = some (.int .i64 q.size) := HO3.cell rfl
   have c12 : w3.cell? ⟨w.heap.size, 12, none⟩ = some (.int .i64 q.slide) := HO3.cell rfl
   have c13 : w3.cell? ⟨w.heap.size, 13, none⟩ = some (.slice q.AA q.aggs.length q.ac) := HO3.cell rfl
   have hl3 := HO3.lt
   clear HO3
   cases x3 with
   | true =>
    replace E := Lib.hid (E.out.trans (if_neg (fun h => by cases h.1)))
    have T6 := T5.out w3 HB3.out
    go_wp2_with fail
    refine T6.mono ?_
    rintro e' w5 ⟨hb5, hc5⟩
    have HB5 := Lib.hid (below_step HB3.out hb5)
    clear hb5 T6 c0 c1 c2 c3 c4 c5 c6 c7 c8 c9 c10 c11 c12 c13
    by_cases h5 : x5 = 0
    ·subst h5
     replace E := Lib.hid (E.out.trans (if_neg (by decide)))
     rw [if_neg (by decide)] at hc5
     obtain ⟨OA, oc, rfl, hsee⟩ := hc5
     have HSEE := Lib.hid hsee
     generalize hLN : (colsOut q l).length = LN at HSEE ⊢
     have HLN := Lib.hid hLN
     clear hLN
     clear hsee
     by_cases h6 : x6 = 0
     ·subst h6
      rw [errV_zero]
      go_wp2_with fail
      go_ret2
      refine ⟨HB5.out, ?_⟩
      rw [E.out, if_neg (by decide), HLN.out]
      exact ⟨OA, oc, rfl, HSEE.out⟩
     ·rw [errV_ne h6]
      have HNE := Lib.hid h6
      clear h6
      go_wp2_with fail
      go_ret2
      refine ⟨HB5.out, ?_⟩
      rw [E.out, if_pos HNE.out, errV_ne HNE.out]
      rfl
    ·replace E := Lib.hid (E.out.trans (if_pos h5))
     rw [if_pos h5] at hc5
     subst hc5
     rw [errV_ne h5]
     have HNE := Lib.hid h5
     clear h5
     go_wp2_with fail
     go_ret2
     refine ⟨HB5.out, ?_⟩
     rw [E.out, if_pos HNE.out, errV_ne HNE.out]
     rfl
   | false =>
    go_wp2_with fail
    refine (T4.out w3 HB3.out).mono ?_
    rintro e' w4 ⟨rfl, hb4⟩
    clear c0 c1 c2 c3 c4 c5 c6 c7 c8 c9 c10 c11 c12 c13 hl3
    have HO4 := HQ3.out.keep hb4
    have HB4 := Lib.hid (below_step HB3.out hb4)
    clear hb4
    obtain ⟨ty, x4⟩ := x4
    by_cases h4 : x4 = 0
    ·subst h4
     rw [errV_zero]
     replace E := Lib.hid (E.out.trans (if_neg (fun h => h.2 rfl)))
     have c0 : w4.cell? ⟨w.heap.size, 0, none⟩ = some (.string q.from_) := HO4.cell rfl
     have c1 : w4.cell? ⟨w.heap.size, 1, none⟩ = some (.string q.wher.op) := HO4.cell rfl
     have c2 : w4.cell? ⟨w.heap.size, 2, none⟩ = some (.string q.wher.name) := HO4.cell rfl
     have c3 : w4.cell? ⟨w.heap.size, 3, none⟩ = some (.int .i64 q.wher.val.type) := HO4.cell rfl
     have c4 : w4.cell? ⟨w.heap.size, 4, none⟩ = some (.int .i64 q.wher.val.n) := HO4.cell rfl
     have c5 : w4.cell? ⟨w.heap.size, 5, none⟩ = some (.string q.wher.val.s) := HO4.cell rfl
     have c6 : w4.cell? ⟨w.heap.size, 6, none⟩ = some (.slice q.wher.A q.wher.args.length q.wher.c) := HO4.cell rfl
     have c7 : w4.cell? ⟨w.heap.size, 7, none⟩ = some (.int .i64 q.wher.pos) := HO4.cell rfl
     have c8 : w4.cell? ⟨w.heap.size, 8, none⟩ = some (.slice q.CA q.cols.length q.cc) := HO4.cell rfl
     have c9 : w4.cell? ⟨w.heap.size, 9, none⟩ = some (.slice q.NA q.names.length q.nc) := HO4.cell rfl
     have c10 : w4.cell? ⟨w.heap.size, 10, none⟩ = some (.slice q.GA q.group.length q.gc) := HO4.cell rfl
     have c11 : w4.cell? ⟨w.heap.size, 11, none⟩ = some (.int .i64 q.size) := HO4.cell rfl
     have c12 : w4.cell? ⟨w.heap.size, 12, none⟩ = some (.int .i64 q.slide) := HO4.cell rfl
     have c13 : w4.cell? ⟨w.heap.size, 13, none⟩ = some (.slice q.AA q.aggs.length q.ac) := HO4.cell rfl
     have hl4 := HO4.lt
     clear HO4
     have T6 := T5.out w4 HB4.out
     go_wp2_with fail
     refine T6.mono ?_
     rintro e' w5 ⟨hb5, hc5⟩
     have HB5 := Lib.hid (below_step HB4.out hb5)
     clear hb5 T6 c0 c1 c2 c3 c4 c5 c6 c7 c8 c9 c10 c11 c12 c13
     by_cases h5 : x5 = 0
     ·subst h5
      replace E := Lib.hid (E.out.trans (if_neg (by decide)))
      rw [if_neg (by decide)] at hc5
      obtain ⟨OA, oc, rfl, hsee⟩ := hc5
      have HSEE := Lib.hid hsee
      generalize hLN : (colsOut q l).length = LN at HSEE ⊢
      have HLN := Lib.hid hLN
      clear hLN
      clear hsee
      by_cases h6 : x6 = 0
      ·subst h6
       rw [errV_zero]
       go_wp2_with fail
       go_ret2
       refine ⟨HB5.out, ?_⟩
       rw [E.out, if_neg (by decide), HLN.out]
       exact ⟨OA, oc, rfl, HSEE.out⟩
      ·rw [errV_ne h6]
       have HNE := Lib.hid h6
       clear h6
       go_wp2_with fail
       go_ret2
       refine ⟨HB5.out, ?_⟩
       rw [E.out, if_pos HNE.out, errV_ne HNE.out]
       rfl
     ·replace E := Lib.hid (E.out.trans (if_pos h5))
      rw [if_pos h5] at hc5
      subst hc5
      rw [errV_ne h5]
      have HNE := Lib.hid h5
      clear h5
      go_wp2_with fail
      go_ret2
      refine ⟨HB5.out, ?_⟩
      rw [E.out, if_pos HNE.out, errV_ne HNE.out]
      rfl
    ·replace E := Lib.hid (E.out.trans (if_pos ⟨by first | trivial | rfl, h4⟩))
     rw [errV_ne h4]
     have HNE := Lib.hid (show x4 ≠ 0 from h4)
     clear h4
     go_wp2_with fail
     go_ret2
     refine ⟨HB4.out, ?_⟩
     rw [E.out, if_pos HNE.out, errV_ne HNE.out]
     rfl
  ·replace E := Lib.hid (E.out.trans (if_pos h2))
   rw [errV_ne h2]
   have HNE := Lib.hid h2
   clear h2
   go_wp2_with fail
   go_ret2
   refine ⟨HB2.out, ?_⟩
   rw [E.out, if_pos HNE.out, errV_ne HNE.out]
   rfl
 ·replace E := Lib.hid (E.out.trans (if_pos h1))
  rw [errV_ne h1]
  have HNE := Lib.hid h1
  clear h1
  go_wp2_with fail
  go_ret2
  refine ⟨HB1.out, ?_⟩
  rw [E.out, if_pos HNE.out, errV_ne HNE.out]
  rfl
end Go.Proofs.YtpbbkpfaphjdoaaGreatDoor
