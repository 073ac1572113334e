/- Cells in a block of their own; aggregates and queries as they lie. query.Agg, query.number, walked. -/
import Derived.Test.YtpbbkpfaphjdoaaGreatDoorSQryLaw
import Derived.Test.YtpbbkpfaphjdoaaGreatDoorSExOwn
namespace Go.Proofs.YtpbbkpfaphjdoaaGreatDoor
open Go.ChangeShapes Go.WideShapes Go.ChangeAt Go.RowKit
def RowL (w : World) (b : Nat) (t : TypeId) (l : List Value) : Prop := w.heap[b]? = some (.cells l.toArray t (0, 0))
section
variable {w w' : World} {b : Nat} {t : TypeId} {l : List Value}
theorem RowL.lt (h : RowL w b t l) : b < w.heap.size := (Array.getElem?_eq_some_iff.1 h).1
theorem RowL.keep (h : RowL w b t l) (hb : Below w.heap.size w w') : RowL w' b t l := (hb.block b h.lt).trans h
theorem RowL.only {S : Nat → Prop} (h : RowL w b t l) (ho : Only S w w') (hs : ¬ S b) : RowL w' b t l := (ho.block b h.lt hs).trans h
theorem RowL.cell (h : RowL w b t l) {j : Nat} {v : Value} (hj : l[j]? = some v) : w.cell? ⟨b, j, none⟩ = some v := by
 rw [cell_of_row _ _ _ _ _ _ h]
 simpa using hj
theorem RowL.free (h : RowL w b t l) (j : Nat) : w.frozen? ⟨b, j, none⟩ = false := frozen_of_row _ _ _ _ _ h
theorem RowL.put (h : RowL w b t l) (o : Nat) (vs : List Value) : RowL (putAll w b o vs) b t (setAll l o vs) := by
 obtain ⟨cs, h1, h2⟩ := putAll_same vs w b o _ _ h
 unfold RowL
 rw [h1]
 have h2 : cs.toList = setAll l o vs := h2
 rw [← h2]
theorem RowL.set (h : RowL w b t l) (o : Nat) (v : Value) : RowL (w.setCell ⟨b, o, none⟩ v) b t (l.set o v) := h.put o [v]
theorem putAll_only (vs : List Value) (w : World) (b o : Nat) : Only (fun k => k = b) w (putAll w b o vs) := by
 have hb := putAll_below vs b w w b o (Below.refl _ _) (Nat.le_refl _)
 exact ⟨hb.os, hb.tape, hb.output, by rw [putAll_size]; exact Nat.le_refl _, fun k _ hk => putAll_other vs w b o k hk⟩
theorem rowL_new (w : World) (t : TypeId) (l : List Value) : RowL (w.alloc (.cells l.toArray t)) w.heap.size t l := heap_alloc_new w _
theorem wpList_storeL {ops : Array Oper} {rest : List Oper} {o : Oper} {a : Act} {Q : Exit → Act → World → Prop} (hg : o.guard = none) (ty : TypeId) (x y : Operand) (ho : o.op = .store ty x y) {n : List Value}
  (hown : RowL w b t l) (hx : a.eval x = .pointer (some ⟨b, 0, none⟩)) (hy : a.eval y = .agg n.toArray) (hi : (Tryz.prog.info? ty).map (·.size) = some n.length) (hl : l.length = n.length) (h1 : n.all (·.oneCell') = true)
  (h : ∀ w', RowL w' b t n → Only (fun k => k = b) w w' → wpList Tryz.prog ops Q rest (a.put o.dst undef) w') : wpList Tryz.prog ops Q (o :: rest) a w := by
 refine wpList_store_row hg _ x y ho b _ hx hy t _ hown (by simpa using hi) (by simpa using hl) (by simpa using h1) (h _ (setRow_heap w b _ _ _ _ hown) ?_)
 have hb := below_setRow (B := b) (Below.refl b w) (Nat.le_refl _) n.toArray
 exact ⟨hb.os, hb.tape, hb.output, hb.size, fun k _ hk => setRow_other w b k _ hk⟩
end
structure AggX where
 what : ByteArray
 of : Ex
 name : ByteArray
def aggXL (a : AggX) : List Value := [.string a.what, .string a.of.op, .string a.of.name, .int .i64 a.of.val.type, .int .i64 a.of.val.n, .string a.of.val.s, .slice a.of.A a.of.args.length a.of.c, .int .i64 a.of.pos, .string a.name]
def aggXV (a : AggX) : Value := .agg #[.string a.what, .string a.of.op, .string a.of.name, .int .i64 a.of.val.type, .int .i64 a.of.val.n, .string a.of.val.s, .slice a.of.A a.of.args.length a.of.c, .int .i64 a.of.pos, .string a.name]
def aggP (a : AggX) : AggP := ⟨a.what.data.toList, strip a.of, a.name.data.toList⟩
def aggXs (l : List AggX) : List Value := l.flatMap aggXL
def aggsB : List ByteArray := aggL.map mkB
def AggsT (w : World) : Prop := Sees w (some ⟨0, 0, none⟩) 4 4 1 (strCells aggsB)
theorem AggsT.keep {w w' : World} (h : AggsT w) (hb : Below w.heap.size w w') : AggsT w' := Sees.keep h hb
theorem gAggs : Tryz.prog.globalNamed "sluicebook/query.aggs" = some 0 := by kernel_rfl
theorem tAggs : (Tryz.prog.globals[0]?).map (·.type) = some 191 := by kernel_rfl
theorem aggsT_of {W : World} {l : List (String × DataW Unit)} (h : laidMet Tryz.prog l W) (hx : ("sluicebook/query.aggs", Rows.laid_sluicebook_query_aggs) ∈ l) : AggsT W := by
 obtain ⟨g, t, cs, fuel, p, hg, ht, hv, hd⟩ := laid_var h hx
 obtain rfl := Option.some.inj (gAggs.symm.trans hg)
 obtain rfl := Option.some.inj (tAggs.symm.trans ht)
 have hd' : DataW.trod (fun _ => ()) Tryz.prog W 0 (fun _ => true) false fuel 191 cs.toList = some (.agg (aggL.map litS), p) := hd
 have hel := open_arr_strs Tryz.underlying191 Tryz.underlying9 cellsS hd'
 have hc : ∀ (i : Nat) (s : ByteArray), aggsB[i]? = some s → W.cell? ⟨0, i, none⟩ = some (.string s) := by
  intro i s hs
  unfold aggsB at hs
  rw [List.getElem?_map] at hs
  obtain ⟨l, hl, rfl⟩ := Option.map_eq_some_iff.1 hs
  have hi : i < 4 := (List.getElem?_eq_some_iff.1 hl).1
  have := hel i l hl hi
  rw [World.var?_cell hg hv i, ← Array.getElem?_toList]
  exact this
 refine ⟨rfl, Nat.le_refl _, by unfold maxLen; omega, (fun e => by cases e), fun _ => ⟨_, _, rfl, World.block_lt_of_cell? W _ (hc 0 _ rfl), fun j u hu => ?_⟩⟩
 obtain ⟨s, hs, rfl⟩ := strCells_at hu
 rw [Nat.zero_add]
 exact hc j s hs
def aggWord (s : ByteArray) : Bool := Lib.containsS aggsB s
set_option maxHeartbeats 1000000 in
theorem qagg_any (s : ByteArray) (w : World) (hA : AggsT w) : Calls Tryz.prog 177 #[.string s] w fun e w' => e = .returned (.bool (aggWord s)) ∧ w' = w := by
 go_enter Tryz.func177, Tryz.ntmps177
 go_wp2_with fail
 refine (contains_any _ _ _ _ _ _ hA).mono ?_
 rintro e w' ⟨rfl, rfl⟩
 go_wp2_with fail
 go_ret
 exact ⟨rfl, rfl⟩
def QSays {α : Type} (T : List Tok) (E : Nat) (rb : Nat) (A : Option Addr) (c : Nat) (w : World) (V : α → Value → World → Prop) : QR α → Ending → World → Prop
 | .ok (x, j), e, w' => ∃ v, e = .returned v ∧ V x v w' ∧ RdAt T E w' rb A c j ∧ Only (fun k => k = rb) w w'
 | .error k, e, w' => e = wrongAt k ∧ Only (fun k => k = rb) w w'
theorem numQ_eq (T : List Tok) (E i : Nat) : numQ T E i = if kindT T i = 2 then .ok ((readP (textT T i)).1.n, i + 1) else .error (atT T E i) := by
 unfold numQ kindT textT
 cases T[i]? with
 | none => rfl
 | some t => rfl
abbrev NumV (n : Int) (v : Value) (_ : World) : Prop := v = .int .i64 n
theorem num_read {T : List Tok} {E i : Nat} (hW : Words T E) (h : kindT T i = 2) : (readP (textT T i)).2 = 0 ∧ i < T.length := by
 have hi := kind_lt h (by decide)
 have ht : T[i]? = some T[i] := List.getElem?_eq_getElem hi
 unfold kindT at h
 unfold textT
 rw [ht] at h ⊢
 exact ⟨hW.val _ (List.getElem_mem hi) (Or.inl h), hi⟩
set_option maxHeartbeats 2000000 in
set_option maxRecDepth 100000 in
theorem qnum_any {T : List Tok} {E : Nat} (hW : Words T E) (i : Nat) (wB w : World) (rb : Nat) (A : Option Addr) (c : Nat) (hR : RdAt T E w rb A c i) (hE : Env wB w rb) :
  Calls Tryz.prog 170 #[.pointer (some ⟨rb, 0, none⟩)] w (QSays T E rb A c w NumV (numQ T E i)) := by
 have T1 := Lib.hid (peek_any hR hW)
 have HWW := Lib.hid hW
 have HR := Lib.hid hR
 have HE := Lib.hid hE
 unfold PeekSays tokV at T1
 obtain ⟨r, hr⟩ : ∃ r, numQ T E i = r := ⟨_, rfl⟩
 have HQ := Lib.hid (hr.symm.trans (numQ_eq T E i))
 rw [hr]
 clear hW hR hE hr
 go_enter Tryz.func170, Tryz.ntmps170
 go_wp2_with fail
 refine (T1.out).mono ?_
 rintro e' w1 ⟨rfl, hb1⟩
 obtain ⟨w2, hw2⟩ : ∃ w2, w1.alloc (.cells #[.int .i64 (kindT T i), .string ⟨(textT T i).toArray⟩, .int .i64 (atT T E i)] 115) = w2 := ⟨_, rfl⟩
 have hb2 : Below w1.heap.size w1 w2 := by rw [← hw2]; exact belowNew' _ _
 have ho2 : Own3T w2 w1.heap.size (kindT T i) ⟨(textT T i).toArray⟩ (atT T E i) := by rw [← hw2]; exact own3t_new w1 _ _ _
 have h02 := below_step hb1 hb2
 have HR2 := Lib.hid (HR.out.keep h02)
 have HN2 := Lib.hid (Only.of_below (S := fun k => k = rb) h02)
 have HE2 := Lib.hid (HE.out.keep h02)
 obtain ⟨d0, d1, d2⟩ := ho2.cells
 have hl2 := ho2.lt
 have HW2 := Lib.hid hw2
 clear hb1 hw2 hb2 ho2 h02 T1
 by_cases hk : kindT T i = 2
 rotate_left
 ·have g1 : (kindT T i != 2) = true := by simpa using hk
  have T2 := Lib.hid (fail_any HR2.out HWW.out)
  have HQ2 := Lib.hid (HQ.out.trans (if_neg hk))
  clear hk HQ
  go_wp2_with (first | rw [HW2.out])
  refine (T2.out).mono ?_
  rintro e' w3 ⟨rfl, hb3⟩
  have HF := Lib.hid (HN2.out.trans (.of_below hb3))
  clear hb3 T2
  unfold wrongAt
  go_wp2_with fail
  rw [HQ2.out]
  exact ⟨rfl, rfl, HF.out⟩
 ·have g1 : (kindT T i != 2) = false := by simpa using hk
  obtain ⟨hrd, hi⟩ := num_read HWW.out hk
  have HTL := Lib.hid (text_len HWW.out i)
  have T2 := Lib.hid (take_any HR2.out HWW.out hi)
  unfold TakeSays tokV at T2
  have HQ2 := Lib.hid (HQ.out.trans (if_pos hk))
  clear HQ
  have HRD := Lib.hid hrd
  have ft := field_text (kindT T i) ⟨(textT T i).toArray⟩ (atT T E i)
  clear hk hrd hi
  go_wp2_with (first | rw [HW2.out])
  refine (T2.out).mono ?_
  rintro e' w3 ⟨rfl, hr3, hn3⟩
  have hE3 := HE2.out.only hn3
  have T3 := Lib.hid (parse_any ⟨(textT T i).toArray⟩ (by have := HTL.out; have e : (⟨(textT T i).toArray⟩ : ByteArray).size = (textT T i).length := rfl; omega) w3 (hE3.text.keep hE3.below) (hE3.num.keep hE3.below))
  unfold ParseSays at T3
  obtain ⟨v, hv⟩ : ∃ v, (readP (textT T i)).1 = v := ⟨_, rfl⟩
  replace T3 : Hid (Calls Tryz.prog 36 #[.string ⟨(textT T i).toArray⟩] w3 fun e w' => e = .returned (.tuple #[.agg #[.int .i64 v.type, .int .i64 v.n, .string v.s], .nilIface]) ∧ Below w3.heap.size w3 w') := by
   have h1 : (readP (⟨(textT T i).toArray⟩ : ByteArray).data.toList).1 = v := hv
   have h2 : (readP (⟨(textT T i).toArray⟩ : ByteArray).data.toList).2 = 0 := HRD.out
   rw [h1, h2] at T3
   exact T3
  have HQ3 := Lib.hid (show r = .ok (v.n, i + 1) by rw [HQ2.out, hv])
  have HR3 := Lib.hid hr3
  have HN3 := Lib.hid (HN2.out.trans hn3)
  clear hr3 hn3 hE3 T2 hv d0 d1 d2 hl2 HW2 HQ2
  go_wp2_with fail
  refine (T3.out).mono ?_
  rintro e' w4 ⟨rfl, hb4⟩
  obtain ⟨w5, hw5⟩ : ∃ w5, w4.alloc (.cells #[.int .i64 v.type, .int .i64 v.n, .string v.s] 23) = w5 := ⟨_, rfl⟩
  have hb5 : Below w4.heap.size w4 w5 := by rw [← hw5]; exact belowNew' _ _
  have ho5 : w5.heap[w4.heap.size]? = some (.cells #[.int .i64 v.type, .int .i64 v.n, .string v.s] 23 (0, 0)) := by rw [← hw5]; exact heap_alloc_new w4 _
  have hb45 := below_step hb4 hb5
  have HR5 := Lib.hid (HR3.out.keep hb45)
  have HN5 := Lib.hid (HN3.out.trans (.of_below hb45))
  obtain ⟨v0, v1, v2⟩ := box3 ho5
  have ltv : w4.heap.size < w5.heap.size := (Array.getElem?_eq_some_iff.1 ho5).1
  have HW5 := Lib.hid hw5
  clear hb4 hw5 hb5 ho5 hb45 T3 ft
  go_wp2_with (first | rw [HW5.out])
  go_ret
  rw [HQ3.out]
  exact ⟨_, rfl, rfl, HR5.out, HN5.out⟩
end Go.Proofs.YtpbbkpfaphjdoaaGreatDoor
