/- An argument that is a query: what a walk sees. -/
import Derived.Test.YtpbbkpfaphjdoabGreatDoorSShow
import Derived.Test.YtpbbkpfaphjdoabGreatDoorSQryCheck
namespace Go.Proofs.YtpbbkpfaphjdoabGreatDoor
open Go.ChangeShapes Go.WideShapes Go.ChangeAt Go.RowKit
theorem cellsAggQ : Tryz.prog.cellsOf 69 = 9 := by kernel_rfl
theorem cellsQry : Tryz.prog.cellsOf 59 = 14 := by kernel_rfl
theorem cellsStrs : Tryz.prog.cellsOf 56 = 1 := by kernel_rfl
theorem cellsAggs : Tryz.prog.cellsOf 57 = 1 := by kernel_rfl
section
variable {H : Type} {enc : TypeId × Value → H} {w : World}
theorem list_of {α : Type} (f : α → List Value) (P : α → Prop) {size m : Nat} {t e : TypeId} {cs : List Value} {y : DataW H × List MemPlace} (ht : Tryz.prog.underlying t = some (.slice e)) (hC : Tryz.prog.cellsOf e = size) (hpos : 0 < size)
  (h : DataW.trod enc Tryz.prog w 0 (fun _ => true) true m t cs = some y) (hR : ∀ m cs' y, DataW.trod enc Tryz.prog w 0 (fun _ => true) true m e cs' = some y → ∃ x, cs' = f x ∧ P x) :
  ∃ (A : Option Addr) (c : Nat) (l : List α), cs = [.slice A l.length c] ∧ Sees w A l.length c size (l.map f).flatten ∧ (∀ x ∈ l, P x) ∧ ((∀ n ∈ y.1.weights Tryz.prog t, n ≤ reachBytes) → 0 < Tryz.prog.bytesOf e → l.length ≤ 140737488355328) := by
 obtain ⟨A, n, c, css, ds, ecs, hn, hds, hs, hl, hR', hb⟩ := open_sees ht hC hpos h (fun u _ => ∃ x, u = f x ∧ P x) (fun m cs' y _ hy => hR m cs' y hy)
 have hall : ∀ u ∈ css, ∃ x, u = f x ∧ P x := by
  intro u hu
  obtain ⟨k, hk⟩ := List.mem_iff_getElem?.1 hu
  obtain ⟨_, _, hx⟩ := hR' k u hk
  exact hx
 have hbk : (∀ n ∈ y.1.weights Tryz.prog t, n ≤ reachBytes) → 0 < Tryz.prog.bytesOf e → n ≤ 140737488355328 := by
  intro hw hp
  rcases hb with ⟨h1, h2, -⟩ | ⟨sp, h1, -⟩
  ·omega
  ·rw [h1, DataW.weights, ht] at hw
   have h3 := hw _ List.mem_cons_self
   have h4 := Nat.mul_le_mul_left (ds.length + sp.length) hp
   have h5 : reachBytes < 2 ^ 47 := reachBytes_lt
   omega
 obtain ⟨l, hl1, hl2⟩ : ∃ l : List α, css = l.map f ∧ ∀ x ∈ l, P x := by
  clear hR' hs hn hl h ecs hb hbk
  induction css with
  | nil => exact ⟨[], rfl, by simp⟩
  | cons u css ih =>
   obtain ⟨l, rfl, h2⟩ := ih fun u hu => hall u (List.mem_cons_of_mem _ hu)
   obtain ⟨x, rfl, h3⟩ := hall u List.mem_cons_self
   exact ⟨x :: l, rfl, fun y hy => (List.mem_cons.1 hy).elim (fun e => by rw [e]; exact h3) (fun hy => h2 y hy)⟩
 subst hl1
 obtain rfl : l.length = n := by rw [List.length_map] at hn; exact hn
 exact ⟨A, c, l, ecs, hs, hl2, hbk⟩
set_option maxRecDepth 100000 in
theorem aggx_of {m : Nat} {cs : List Value} {y : DataW H × List MemPlace} (h : DataW.trod enc Tryz.prog w 0 (fun _ => true) true m 69 cs = some y) :
  ∃ a : AggX, cs = aggXL a ∧ SeesEx w a.of ∧ a.what.size ≤ maxLen ∧ a.name.size ≤ maxLen := by
 obtain ⟨xs, n, _, _, hlen, hxs, hf⟩ := DataW.trod_struct Tryz.underlying69 h
 rw [cellsAggQ] at hlen
 match cs, hlen with
 | [v0, v1, v2, v3, v4, v5, v6, v7, v8], _ =>
  have hx : xs.length = 3 := hxs
  have h0 : DataW.trod enc Tryz.prog w 0 (fun _ => true) true n 9 (([v0, v1, v2, v3, v4, v5, v6, v7, v8].drop 0).take (Tryz.prog.cellsOf 9)) = xs[0]? := hf 0 _ rfl
  have h1 : DataW.trod enc Tryz.prog w 0 (fun _ => true) true n 55 (([v0, v1, v2, v3, v4, v5, v6, v7, v8].drop 1).take (Tryz.prog.cellsOf 55)) = xs[1]? := hf 1 _ rfl
  have h2 : DataW.trod enc Tryz.prog w 0 (fun _ => true) true n 9 (([v0, v1, v2, v3, v4, v5, v6, v7, v8].drop 8).take (Tryz.prog.cellsOf 9)) = xs[2]? := hf 2 _ rfl
  rw [cells9v, List.getElem?_eq_getElem (by omega)] at h0 h2
  rw [cellsEx, List.getElem?_eq_getElem (by omega)] at h1
  obtain ⟨s0, e0, _, f0⟩ := DataW.trod_string Tryz.underlying9 h0
  obtain ⟨s2, e2, _, f2⟩ := DataW.trod_string Tryz.underlying9 h2
  obtain ⟨⟨op, nm, v, A, c, args, pos⟩, e1, hse⟩ := ex_of _ _ _ h1
  injection e0 with e0
  injection e2 with e2
  subst e0 e2
  have e1' : [v1, v2, v3, v4, v5, v6, v7] = exCells (.mk op nm v A c args pos) := e1
  unfold exCells at e1'
  simp only [List.cons.injEq, and_true] at e1'
  obtain ⟨rfl, rfl, rfl, rfl, rfl, rfl, rfl⟩ := e1'
  exact ⟨⟨s0, .mk op nm v A c args pos, s2⟩, rfl, hse, f0, f2⟩
theorem str_of {m : Nat} {cs : List Value} {y : DataW H × List MemPlace} (h : DataW.trod enc Tryz.prog w 0 (fun _ => true) true m 9 cs = some y) : ∃ s : ByteArray, cs = [.string s] ∧ s.size ≤ maxLen := by
 obtain ⟨s0, e0, _, f0⟩ := DataW.trod_string Tryz.underlying9 h
 exact ⟨s0, e0, f0⟩
theorem seesS_true {w : World} (e : Ex) (h : SeesEx w e) : SeesS (fun _ => True) w e := (seesS_of h).mono fun _ _ => trivial
set_option maxRecDepth 100000 in
theorem qry_of {m : Nat} {cs : List Value} {y : DataW H × List MemPlace} (h : DataW.trod enc Tryz.prog w 0 (fun _ => true) true m 59 cs = some y) :
  ∃ q : QX, cs = qxL q ∧ SeesQ (fun _ => True) w q ∧ ((∀ n ∈ y.1.weights Tryz.prog 59, n ≤ reachBytes) → LensQ q) := by
 obtain ⟨xs, n, _, hy, hlen, hxs, hf⟩ := DataW.trod_struct Tryz.underlying59 h
 rw [cellsQry] at hlen
 match cs, hlen with
 | [v0, v1, v2, v3, v4, v5, v6, v7, v8, v9, v10, v11, v12, v13], _ =>
  have hx : xs.length = 8 := hxs
  have h0 : DataW.trod enc Tryz.prog w 0 (fun _ => true) true n 9 (([v0, v1, v2, v3, v4, v5, v6, v7, v8, v9, v10, v11, v12, v13].drop 0).take (Tryz.prog.cellsOf 9)) = xs[0]? := hf 0 _ rfl
  have h1 : DataW.trod enc Tryz.prog w 0 (fun _ => true) true n 55 (([v0, v1, v2, v3, v4, v5, v6, v7, v8, v9, v10, v11, v12, v13].drop 1).take (Tryz.prog.cellsOf 55)) = xs[1]? := hf 1 _ rfl
  have h2 : DataW.trod enc Tryz.prog w 0 (fun _ => true) true n 53 (([v0, v1, v2, v3, v4, v5, v6, v7, v8, v9, v10, v11, v12, v13].drop 8).take (Tryz.prog.cellsOf 53)) = xs[2]? := hf 2 _ rfl
  have h3 : DataW.trod enc Tryz.prog w 0 (fun _ => true) true n 56 (([v0, v1, v2, v3, v4, v5, v6, v7, v8, v9, v10, v11, v12, v13].drop 9).take (Tryz.prog.cellsOf 56)) = xs[3]? := hf 3 _ rfl
  have h4 : DataW.trod enc Tryz.prog w 0 (fun _ => true) true n 56 (([v0, v1, v2, v3, v4, v5, v6, v7, v8, v9, v10, v11, v12, v13].drop 10).take (Tryz.prog.cellsOf 56)) = xs[4]? := hf 4 _ rfl
  have h5 : DataW.trod enc Tryz.prog w 0 (fun _ => true) true n 3 (([v0, v1, v2, v3, v4, v5, v6, v7, v8, v9, v10, v11, v12, v13].drop 11).take (Tryz.prog.cellsOf 3)) = xs[5]? := hf 5 _ rfl
  have h6 : DataW.trod enc Tryz.prog w 0 (fun _ => true) true n 3 (([v0, v1, v2, v3, v4, v5, v6, v7, v8, v9, v10, v11, v12, v13].drop 12).take (Tryz.prog.cellsOf 3)) = xs[6]? := hf 6 _ rfl
  have h7 : DataW.trod enc Tryz.prog w 0 (fun _ => true) true n 57 (([v0, v1, v2, v3, v4, v5, v6, v7, v8, v9, v10, v11, v12, v13].drop 13).take (Tryz.prog.cellsOf 57)) = xs[7]? := hf 7 _ rfl
  rw [cells9v, List.getElem?_eq_getElem (by omega)] at h0
  rw [cellsEx, List.getElem?_eq_getElem (by omega)] at h1
  rw [cellsExs, List.getElem?_eq_getElem (by omega)] at h2
  rw [cellsStrs, List.getElem?_eq_getElem (by omega)] at h3 h4
  rw [cells3v, List.getElem?_eq_getElem (by omega)] at h5 h6
  rw [cellsAggs, List.getElem?_eq_getElem (by omega)] at h7
  obtain ⟨s0, e0, _, f0⟩ := DataW.trod_string Tryz.underlying9 h0
  obtain ⟨⟨op, nm, v, A, c, args, pos⟩, e1, hse⟩ := ex_of _ _ _ h1
  obtain ⟨A2, c2, l2, e2, g2, p2, b2⟩ := list_of exCells (SeesEx w) Tryz.underlying53 cellsEx (by decide) h2 (fun m cs' y hy => ex_of m cs' y hy)
  obtain ⟨A3, c3, l3, e3, g3, p3, b3⟩ := list_of (fun s : ByteArray => [Value.string s]) (fun s => s.size ≤ maxLen) Tryz.underlying56 cells9v (by decide) h3 (fun m cs' y hy => str_of hy)
  obtain ⟨A4, c4, l4, e4, g4, p4, b4⟩ := list_of (fun s : ByteArray => [Value.string s]) (fun s => s.size ≤ maxLen) Tryz.underlying56 cells9v (by decide) h4 (fun m cs' y hy => str_of hy)
  obtain ⟨z5, e5, _, f5⟩ := DataW.trod_int Tryz.underlying3 h5
  obtain ⟨z6, e6, _, f6⟩ := DataW.trod_int Tryz.underlying3 h6
  obtain ⟨A7, c7, l7, e7, g7, p7, b7⟩ := list_of aggXL (fun a => SeesEx w a.of ∧ a.what.size ≤ maxLen ∧ a.name.size ≤ maxLen) Tryz.underlying57 cellsAggQ (by decide) h7 (fun m cs' y hy => aggx_of hy)
  injection e0 with e0
  injection e2 with e2
  injection e3 with e3
  injection e4 with e4
  injection e5 with e5
  injection e6 with e6
  injection e7 with e7
  have e1' : [v1, v2, v3, v4, v5, v6, v7] = exCells (.mk op nm v A c args pos) := e1
  unfold exCells at e1'
  simp only [List.cons.injEq, and_true] at e1'
  obtain ⟨rfl, rfl, rfl, rfl, rfl, rfl, rfl⟩ := e1'
  subst e0 e2 e3 e4 e5 e6 e7
  have hfl : ∀ l : List ByteArray, (l.map fun s => [Value.string s]).flatten = strCells l := fun l => by
   induction l with
   | nil => rfl
   | cons a l ih => rw [List.map_cons, List.flatten_cons, ih]; rfl
  rw [hfl] at g3 g4
  refine ⟨⟨s0, .mk op nm v A c args pos, A2, c2, l2, A3, c3, l3, A4, c4, l4, z5, z6, A7, c7, l7⟩, rfl, ⟨seesS_true _ hse, ⟨by rw [show exsCells l2 = (l2.map exCells).flatten from List.flatMap_def]; exact g2, fun _ _ _ => trivial⟩, fun x hx => seesS_true x (p2 x hx), ⟨g3, fun _ _ _ => trivial⟩, ⟨g4, fun _ _ _ => trivial⟩, ⟨by rw [show aggXs l7 = (l7.map aggXL).flatten from List.flatMap_def]; exact g7, fun _ _ _ => trivial⟩, fun a ha => seesS_true a.of (p7 a ha).1, ⟨f0, p3, p4, fun a ha => (p7 a ha).2⟩, ⟨fits_of f5, fits_of f6⟩⟩, fun hbk => ?_⟩
  rw [hy] at hbk
  have hbk : ∀ n ∈ DataW.weightsEach Tryz.prog [9, 55, 53, 56, 56, 3, 3, 57] (xs.map (·.1)), n ≤ reachBytes := by
   have h := hbk
   rw [show (DataW.agg (xs.map (·.1))).weights Tryz.prog 59 = _ from by rw [DataW.weights, Tryz.underlying59]] at h
   exact h
  have key : ∀ (j : Nat) (t : TypeId) (hj : j < xs.length), [9, 55, 53, 56, 56, 3, 3, 57][j]? = some t → ∀ n ∈ (xs[j].1).weights Tryz.prog t, n ≤ reachBytes := fun j t hj ht n hn =>
   hbk n (DataW.weights_mem_each ht (by rw [List.getElem?_map, List.getElem?_eq_getElem hj]; rfl) n hn)
  exact ⟨b2 (key 2 _ (by omega) rfl) (of_decide_eq_true (by kernel_rfl)), b3 (key 3 _ (by omega) rfl) (of_decide_eq_true (by kernel_rfl)), b4 (key 4 _ (by omega) rfl) (of_decide_eq_true (by kernel_rfl)), b7 (key 7 _ (by omega) rfl) (of_decide_eq_true (by kernel_rfl))⟩
set_option maxRecDepth 100000 in
theorem open_qry {base : Nat} {v : Value} {d : DataW H} {p : List MemPlace} (hok : Value.okWide Tryz.prog w .any base 59 v) (h : DataW.Trod enc Tryz.prog w 0 (fun _ => true) true 59 v d p) :
  ∃ q : QX, v = qxV q ∧ SeesQ (fun _ => True) w q ∧ ((∀ n ∈ d.weights Tryz.prog 59, n ≤ reachBytes) → LensQ q) := by
 obtain ⟨cs, rfl, hsz⟩ := okWide_struct Tryz.underlying59 hok
 obtain ⟨fuel, hf⟩ := h
 obtain ⟨q, he, hs, hn⟩ := qry_of hf
 refine ⟨q, ?_, hs, hn⟩
 have : cs.toList = qxL q := he
 unfold qxV
 rw [show cs = (qxL q).toArray by rw [← this]]
 rfl
end
end Go.Proofs.YtpbbkpfaphjdoabGreatDoor
