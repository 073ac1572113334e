/- An argument that is a list of lists of Outs, of so much bulk: what a walk sees. -/
import Derived.Test.YtkgdfccpkiglaaaDoorSOpenRows
import Derived.Test.YtkgdfccpkiglaaaDoorSJoinSt
namespace Go.Proofs.YtkgdfccpkiglaaaDoor
open Go.ChangeShapes Go.WideShapes Go.ChangeAt Go.RowKit
namespace SortLaw
theorem cellsValsO : Tryd.prog.cellsOf 28 = 1 := by kernel_rfl
theorem cellsErrO : Tryd.prog.cellsOf 49 = 1 := by kernel_rfl
theorem cellsOutO : Tryd.prog.cellsOf 52 = 3 := by kernel_rfl
theorem cellsOutsO : Tryd.prog.cellsOf 37 = 1 := by kernel_rfl
section
variable {H : Type} {enc : TypeId × Value → H} {w : World}
theorem obulk_pos (d : DataW H) : 1 ≤ Rows.uptoBulk d := by
 cases d with
 | lit l => cases l <;> rw [Rows.uptoBulk] <;> first | omega | (intro _ h; cases h)
 | nil => rw [Rows.uptoBulk]; omega
 | ptr d => rw [Rows.uptoBulk]; omega
 | slice e s => rw [Rows.uptoBulk]; omega
 | agg p => rw [Rows.uptoBulk]; omega
 | iface t d => rw [Rows.uptoBulk]; omega
 | map e => rw [Rows.uptoBulk]; omega
 | held h => rw [Rows.uptoBulk]; omega
theorem obulk_len : ∀ ds : List (DataW H), ds.length ≤ Rows.uptoBulkAll ds
 | [] => Nat.zero_le _
 | d :: ds => by have := obulk_len ds; have := obulk_pos d; rw [Rows.uptoBulkAll, List.length_cons]; omega
theorem obulk_at : ∀ (l : List (DataW H)) (j : Nat) (h : j < l.length), Rows.uptoBulk l[j] ≤ Rows.uptoBulkAll l := by
 intro l
 induction l with
 | nil => intro j h; simp at h
 | cons a l ih =>
  intro j h
  rw [Rows.uptoBulkAll]
  cases j with
  | zero => simp
  | succ j => have := ih j (by simpa using h); simp; omega
theorem olist_of {α : Type} (f : α → List Value) (P : α → Nat → Prop) {size m : Nat} {t e : TypeId} {cs : List Value} {y : DataW H × List MemPlace} (ht : Tryd.prog.underlying t = some (.slice e)) (hC : Tryd.prog.cellsOf e = size) (hpos : 0 < size)
  (h : DataW.trod enc Tryd.prog w 0 (fun _ => true) true m t cs = some y) (hR : ∀ m cs' y, DataW.trod enc Tryd.prog w 0 (fun _ => true) true m e cs' = some y → ∃ x, cs' = f x ∧ P x (Rows.uptoBulk y.1)) :
  ∃ (A : Option Addr) (c : Nat) (l : List α), cs = [.slice A l.length c] ∧ Sees w A l.length c size (l.map f).flatten ∧ (∀ x ∈ l, ∃ n, n ≤ Rows.uptoBulk y.1 ∧ P x n) ∧ l.length ≤ Rows.uptoBulk y.1 := by
 obtain ⟨A, n, c, css, ds, ecs, hn, hds, hs, hl, hR', hb⟩ := open_sees ht hC hpos h (fun u d => ∃ x, u = f x ∧ P x (Rows.uptoBulk d)) (fun m cs' y _ hy => hR m cs' y hy)
 have hbk : n ≤ Rows.uptoBulk y.1 ∧ ∀ d ∈ ds, Rows.uptoBulk d ≤ Rows.uptoBulk y.1 := by
  rcases hb with ⟨h1, h2, -⟩ | ⟨sp, h1, -⟩
  ·refine ⟨by omega, fun d hd => ?_⟩
   rw [List.eq_nil_of_length_eq_zero (hds.trans h2)] at hd
   cases hd
  ·rw [h1, Rows.uptoBulk]
   have := obulk_len ds
   refine ⟨by omega, fun d hd => ?_⟩
   obtain ⟨k, hk⟩ := List.mem_iff_getElem?.1 hd
   obtain ⟨hk1, hk2⟩ := List.getElem?_eq_some_iff.1 hk
   have := obulk_at ds k hk1
   rw [hk2] at this
   omega
 have hall : ∀ u ∈ css, ∃ x, u = f x ∧ ∃ n, n ≤ Rows.uptoBulk y.1 ∧ P x n := by
  intro u hu
  obtain ⟨k, hk⟩ := List.mem_iff_getElem?.1 hu
  obtain ⟨d, hd, x, h1, h2⟩ := hR' k u hk
  exact ⟨x, h1, _, hbk.2 d (List.mem_of_getElem? hd), h2⟩
 obtain ⟨l, hl1, hl2⟩ : ∃ l : List α, css = l.map f ∧ ∀ x ∈ l, ∃ n, n ≤ Rows.uptoBulk y.1 ∧ P x n := by
  clear hR' hs hn hl h ecs hb hbk
  induction css with
  | nil => exact ⟨[], rfl, by simp⟩
  | cons u css ih =>
   obtain ⟨l, rfl, h2⟩ := ih fun u hu => hall u (List.mem_cons_of_mem _ hu)
   obtain ⟨x, rfl, h3⟩ := hall u List.mem_cons_self
   exact ⟨x :: l, rfl, fun y hy => (List.mem_cons.1 hy).elim (fun e => by rw [e]; exact h3) (fun hy => h2 y hy)⟩
 subst hl1
 obtain rfl : l.length = n := by rw [List.length_map] at hn; exact hn
 exact ⟨A, c, l, ecs, hs, hl2, hbk.1⟩
set_option maxRecDepth 100000 in
theorem outB_of {m : Nat} {cs : List Value} {y : DataW H × List MemPlace} (h : DataW.trod enc Tryd.prog w 0 (fun _ => true) true m 52 cs = some y) :
  ∃ o : OutH, cs = oC o.e ∧ SeesOut w o ∧ (∀ v ∈ o.o.row, v.wf) ∧ o.o.row.length ≤ Rows.uptoBulk y.1 := by
 obtain ⟨xs, n, _, hy, hlen, hxs, hf⟩ := DataW.trod_struct Tryd.underlying52 h
 rw [cellsOutO] at hlen
 match cs, hlen with
 | [v0, v1, v2], _ =>
  have hx : xs.length = 3 := hxs
  have h0 : DataW.trod enc Tryd.prog w 0 (fun _ => true) true n 28 (([v0, v1, v2].drop 0).take (Tryd.prog.cellsOf 28)) = xs[0]? := hf 0 _ rfl
  have h1 : DataW.trod enc Tryd.prog w 0 (fun _ => true) true n 49 (([v0, v1, v2].drop 1).take (Tryd.prog.cellsOf 49)) = xs[1]? := hf 1 _ rfl
  have h2 : DataW.trod enc Tryd.prog w 0 (fun _ => true) true n 3 (([v0, v1, v2].drop 2).take (Tryd.prog.cellsOf 3)) = xs[2]? := hf 2 _ rfl
  rw [cellsValsO, List.getElem?_eq_getElem (by omega)] at h0
  rw [cellsErrO, List.getElem?_eq_getElem (by omega)] at h1
  rw [cells3v, List.getElem?_eq_getElem (by omega)] at h2
  obtain ⟨A, c, l, e0, hs, hl, hb⟩ := olist_of valCells (fun v _ => v.wf) Tryd.underlying28 cellsVal (by decide) h0 (fun m cs' y hy => by
   obtain ⟨v, e, hv⟩ := val_of hy
   exact ⟨v, e, hv⟩)
  obtain ⟨t, e1, _, _⟩ := DataW.trod_int Tryd.underlying49 h1
  obtain ⟨b, e2, _, _⟩ := DataW.trod_int Tryd.underlying3 h2
  have hall := obulk_at (xs.map (·.1)) 0 (by simp; omega)
  simp only [List.getElem_map] at hall
  have hyb : Rows.uptoBulk y.1 = Rows.uptoBulkAll (xs.map (·.1)) + 1 := by rw [hy]; show Rows.uptoBulk (DataW.agg (xs.map (·.1))) = _; rw [Rows.uptoBulk]
  have e0' : [v0] = [Value.slice A l.length c] := e0
  have e1' : [v1] = [Value.int .i64 t] := e1
  have e2' : [v2] = [Value.int .i64 b] := e2
  injection e0' with e0'
  injection e1' with e1'
  injection e2' with e2'
  subst e0' e1' e2'
  refine ⟨⟨A, c, ⟨l, t, b⟩⟩, rfl, ⟨rfl, ?_⟩, fun v hv => ?_, ?_⟩
  ·rw [show valsCells l = (l.map valCells).flatten from List.flatMap_def]
   exact hs
  ·obtain ⟨_, _, hw⟩ := hl v hv
   exact hw
  ·show l.length ≤ _
   omega
set_option maxRecDepth 100000 in
theorem outsB_of {m : Nat} {cs : List Value} {y : DataW H × List MemPlace} (h : DataW.trod enc Tryd.prog w 0 (fun _ => true) true m 37 cs = some y) :
  ∃ l : ListH, cs = [.slice l.R l.hs.length l.c] ∧ SeesOuts w l.R l.hs.length l.c l.hs ∧ (∀ o ∈ l.hs, ∀ v ∈ o.o.row, v.wf) ∧ l.hs.length ≤ Rows.uptoBulk y.1 ∧ ∀ o ∈ l.hs, o.o.row.length ≤ Rows.uptoBulk y.1 := by
 obtain ⟨A, c, l, e0, hs, hl, hb⟩ := olist_of (fun o : OutH => oC o.e) (fun o n => SeesOut w o ∧ (∀ v ∈ o.o.row, v.wf) ∧ o.o.row.length ≤ n) Tryd.underlying37 cellsOutO (by decide) h (fun m cs' y hy => by
  obtain ⟨o, e, h1, h2, h3⟩ := outB_of hy
  exact ⟨o, e, h1, h2, h3⟩)
 refine ⟨⟨A, c, l⟩, e0, ⟨?_, fun o ho => ?_⟩, fun o ho => ?_, hb, fun o ho => ?_⟩
 ·rw [show outCells l = (l.map (fun o : OutH => oC o.e)).flatten from List.flatMap_def]
  exact hs
 ·obtain ⟨n, hn, h1, _, _⟩ := hl o ho
  exact h1
 ·obtain ⟨n, hn, _, h2, _⟩ := hl o ho
  exact h2
 ·obtain ⟨n, hn, _, _, h3⟩ := hl o ho
  exact Nat.le_trans h3 hn
set_option maxRecDepth 100000 in
theorem open_outs {v : Value} {d : DataW H} {p : List MemPlace} (hok : ∃ A n c, v = .slice A n c) (h : DataW.Trod enc Tryd.prog w 0 (fun _ => true) true 24 v d p) :
  ∃ (A : Option Addr) (c : Nat) (ls : List ListH), v = .slice A ls.length c ∧ SeesLists w A ls.length c ls ∧ (∀ h ∈ flat ls, ∀ v ∈ h.o.row, v.wf) ∧ ls.length ≤ Rows.uptoBulk d ∧ (∀ l ∈ ls, l.hs.length ≤ Rows.uptoBulk d) ∧ ∀ h ∈ flat ls, h.o.row.length ≤ Rows.uptoBulk d := by
 obtain ⟨A0, n0, c0, rfl⟩ := hok
 obtain ⟨fuel, hf⟩ := h
 obtain ⟨A, c, l, e0, hs, hl, hb⟩ := olist_of (fun l : ListH => [Value.slice l.R l.hs.length l.c]) (fun l n => SeesOuts w l.R l.hs.length l.c l.hs ∧ (∀ o ∈ l.hs, ∀ v ∈ o.o.row, v.wf) ∧ l.hs.length ≤ n ∧ ∀ o ∈ l.hs, o.o.row.length ≤ n)
  Tryd.underlying24 cellsOutsO (by decide) hf (fun m cs' y hy => by
   obtain ⟨o, e, h1, h2, h3, h4⟩ := outsB_of hy
   exact ⟨o, e, h1, h2, h3, h4⟩)
 have e : Value.slice A0 n0 c0 = .slice A l.length c := by simpa [Value.cells] using e0
 refine ⟨A, c, l, e, ⟨?_, fun o ho => ?_⟩, ?_, hb, fun o ho => ?_, ?_⟩
 ·have : listCells l = (l.map (fun l : ListH => [Value.slice l.R l.hs.length l.c])).flatten := by
   unfold listCells
   clear hs hl hb e0 e hf
   induction l with
   | nil => rfl
   | cons x l ih => rw [List.map_cons, List.map_cons, List.flatten_cons, ih]; rfl
  rw [this]; exact hs
 ·obtain ⟨n, hn, h1, _⟩ := hl o ho
  exact h1
 ·intro h hh
  obtain ⟨x, hx, hm⟩ := List.mem_flatMap.1 hh
  obtain ⟨n, hn, _, h2, _⟩ := hl x hx
  exact h2 h hm
 ·obtain ⟨n, hn, _, _, h3, _⟩ := hl o ho
  exact Nat.le_trans h3 hn
 ·intro h hh
  obtain ⟨x, hx, hm⟩ := List.mem_flatMap.1 hh
  obtain ⟨n, hn, _, _, _, h4⟩ := hl x hx
  exact Nat.le_trans (h4 h hm) hn
end
end SortLaw
end Go.Proofs.YtkgdfccpkiglaaaDoor
