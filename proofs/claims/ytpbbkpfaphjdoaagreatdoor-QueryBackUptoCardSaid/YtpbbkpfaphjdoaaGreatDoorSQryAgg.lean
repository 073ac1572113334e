/- query.agg, walked: an aggregate that is read of words. -/
import Derived.Test.YtpbbkpfaphjdoaaGreatDoorSQryMem
import Derived.Deep.DeepCutAuto
import Derived.Deep.CutRange
namespace Go.Proofs.YtpbbkpfaphjdoaaGreatDoor
open Go.ChangeShapes Go.WideShapes Go.ChangeAt Go.RowKit
theorem isAg_eq {T : List Tok} {E : Nat} (hW : Words T E) (i : Nat) : isAg T i = ((kindT T i == 1) && aggWord ⟨(textT T i).toArray⟩) := by
 have hc : aggWord ⟨(textT T i).toArray⟩ = aggL.any (fun s => textT T i == s) := by
  cases hx : aggL.any (fun s => textT T i == s) with
  | true =>
   obtain ⟨s, hs, h⟩ := List.any_eq_true.1 hx
   rw [beq_iff_eq] at h
   refine (Lib.containsS_iff _ _).2 (List.mem_map.2 ⟨s, hs, ?_⟩)
   rw [h]; rfl
  | false =>
   cases hy : aggWord ⟨(textT T i).toArray⟩ with
   | false => rfl
   | true =>
    obtain ⟨s, hs, h⟩ := List.mem_map.1 ((Lib.containsS_iff _ _).1 hy)
    have e : s = textT T i := by have := congrArg (fun b : ByteArray => b.data.toList) h; simpa [mkB] using this
    have := List.any_eq_true.2 ⟨s, hs, beq_iff_eq.2 e.symm⟩
    rw [hx] at this
    cases this
 rw [hc]
 unfold isAg
 have e : (fun s => isT T i s) = fun s => (kindT T i == 4 || kindT T i == 1) && (textT T i == s) := funext fun s => isT_eq T i s
 rw [e]
 cases h1 : (kindT T i == 1) with
 | true => simp
 | false =>
  cases h4 : (kindT T i == 4) with
  | false => simp
  | true =>
   have hi := kind_lt (beq_iff_eq.1 h4) (by decide)
   have hs : textT T i ∈ signL := by
    have ht : T[i]? = some T[i] := List.getElem?_eq_getElem hi
    have hk := beq_iff_eq.1 h4
    unfold kindT at hk
    unfold textT
    rw [ht] at hk ⊢
    exact hW.sign _ (List.getElem_mem hi) hk
   have key : ∀ u ∈ signL, (aggL.any fun s => u == s) = false := by decide
   simpa using key _ hs
section
variable {T : List Tok} {E i : Nat} {s : List UInt8}
theorem need_ok (h : isT T i s = true) : needQ T E s i = .ok (i + 1) := if_pos h
theorem need_no (h : isT T i s = false) : needQ T E s i = .error (atT T E i) := if_neg (by rw [h]; decide)
theorem nameQ_ok (h : nameT T i = some s) : nameQ T E i = .ok (s, i + 1) := by unfold nameQ; rw [h]
theorem nameQ_no (h : nameT T i = none) : nameQ T E i = .error (atT T E i) := by unfold nameQ; rw [h]
end
theorem built_agg (s : ByteArray) : Tryz.prog.built 99 [(0, Value.string s)] = some #[.string s, .string ⟨#[]⟩, .string ⟨#[]⟩, .int .i64 0, .int .i64 0, .string ⟨#[]⟩, .slice none 0 0, .int .i64 0, .string ⟨#[]⟩] := by kernel_rfl
theorem run_agg (s : ByteArray) (w : World) : (Instr.build 99 #[(0, .string s)]).run Tryz.prog w = .ok (.agg #[.string s, .string ⟨#[]⟩, .string ⟨#[]⟩, .int .i64 0, .int .i64 0, .string ⟨#[]⟩, .slice none 0 0, .int .i64 0, .string ⟨#[]⟩]) w :=
 run_build w _ _ _ (built_agg s)
theorem Env.other {wB w w' : World} {rb b : Nat} (h : Env wB w rb) (ho : Only (fun k => k = b) w w') (hb : wB.heap.size ≤ b) : Env wB w' rb := ⟨h.lev, h.words, h.text, h.num, h.below.trans (ho.below h.below.size (fun _ e => by have e := e; omega)), h.le⟩
def zeroA (s : ByteArray) : List Value := [.string s, .string ⟨#[]⟩, .string ⟨#[]⟩, .int .i64 0, .int .i64 0, .string ⟨#[]⟩, .slice none 0 0, .int .i64 0, .string ⟨#[]⟩]
theorem box_agg (w : World) (s : ByteArray) : ∃ w0, w.alloc (.cells #[.string s, .string ⟨#[]⟩, .string ⟨#[]⟩, .int .i64 0, .int .i64 0, .string ⟨#[]⟩, .slice none 0 0, .int .i64 0, .string ⟨#[]⟩] 99) = w0 ∧ RowL w0 w.heap.size 99 (aggXL ⟨s, zeroE, ⟨#[]⟩⟩) ∧ Below w.heap.size w w0 :=
 ⟨_, rfl, rowL_new w _ (zeroA s), belowNew' _ _⟩
theorem aggX_of (w : World) (b : Nat) (s : ByteArray) (e y : Ex) (n : ByteArray) (h : RowL w b 99 (aggXL ⟨s, e, n⟩)) : RowL (putAll w b 1 (exCells y)) b 99 (aggXL ⟨s, y, n⟩) := h.put 1 (exCells y)
def AggVv (w : World) (p : AggP) (v : Value) (w' : World) : Prop := ∃ a : AggX, v = aggXV a ∧ SeesS (fun b => w.heap.size ≤ b) w' a.of ∧ aggP a = p ∧ a.name.size ≤ 400 ∧ a.what.size ≤ 400
set_option maxHeartbeats 4000000 in
set_option maxRecDepth 100000 in
theorem aggFn_any {T : List Tok} {E : Nat} (hW : Words T E) {X : Nat → PR} (hX : Oracle T E X) (i : Nat) (wB w : World) (rb : Nat) (A : Option Addr) (c : Nat) (hR : RdAt T E w rb A c i) (hE : Env wB w rb) (hA : AggsT wB) :
  Calls Tryz.prog 166 #[.pointer (some ⟨rb, 0, none⟩)] w (QSays T E rb A c w (AggVv w) (aggQ T E X i)) := by
 obtain ⟨r, hr⟩ : ∃ r, aggQ T E X i = r := ⟨_, rfl⟩
 obtain ⟨w0, hw0, ho0, hb0⟩ := box_agg w ⟨#[]⟩
 have T1 := Lib.hid (peek_any (hR.keep hb0) hW)
 have HAG := Lib.hid (isAg_eq hW i)
 have HWW := Lib.hid hW
 have HXX := Lib.hid hX
 have HQ := Lib.hid hr
 have HR0 := Lib.hid (hR.keep hb0)
 have HE0 := Lib.hid (hE.keep hb0)
 have HA := Lib.hid hA
 have HBW := Lib.hid hE.below.size
 have HLT := Lib.hid hR.lt
 have HOLD := Lib.hid (show 0 < T.length → ∀ ad, A = some ad → ad.block < w.heap.size from hR.old)
 have HB0 := Lib.hid hb0
 have HO0 := Lib.hid ho0
 have HW0 := Lib.hid hw0
 have HTL := Lib.hid (text_len hW i)
 unfold PeekSays tokV at T1
 rw [hr]
 clear hW hX hR hE hA hr hw0 ho0 hb0
 go_enter Tryz.func166, Tryz.ntmps166
 go_wp2_with (first | rw [HW0.out])
 refine (T1.out).mono ?_
 rintro e' w1 ⟨rfl, hb1⟩
 obtain ⟨w2, hw2⟩ : ∃ w2, w1.alloc (.cells #[.int .i64 (kindT T i), .string ⟨(textT T i).toArray⟩, .int .i64 (atT T E i)] 115) = w2 := ⟨_, rfl⟩
 have hb2 : Below w1.heap.size w1 w2 := by rw [← hw2]; exact belowNew' _ _
 have ho2 : Own3T w2 w1.heap.size (kindT T i) ⟨(textT T i).toArray⟩ (atT T E i) := by rw [← hw2]; exact own3t_new w1 _ _ _
 have h02 := below_step hb1 hb2
 have HR2 := Lib.hid (HR0.out.keep h02)
 have HN2 := Lib.hid (Only.of_below (S := fun k => k = rb) (below_step HB0.out h02))
 have HE2 := Lib.hid (HE0.out.keep h02)
 have HO2 := Lib.hid (HO0.out.keep h02)
 obtain ⟨d0, d1, d2⟩ := ho2.cells
 have hl2 := ho2.lt
 have HW2 := Lib.hid hw2
 clear hb1 hw2 hb2 ho2 h02 T1
 by_cases hk : kindT T i = 1
 rotate_left
 ·have g1 : (kindT T i != 1) = true := by simpa using hk
  have T2 := Lib.hid (fail_any HR2.out HWW.out)
  have HQ2 := Lib.hid (show r = .error (atT T E i) by
   rw [← HQ.out]; unfold aggQ
   exact if_neg (by rw [HAG.out, show (kindT T i == 1) = false from beq_eq_false_iff_ne.2 hk, Bool.false_and]; decide))
  clear hk
  go_wp2_with (first | rw [HW2.out])
  refine (T2.out).mono ?_
  rintro e' w3 ⟨rfl, hb3⟩
  have HF := Lib.hid (HN2.out.trans (.of_below hb3))
  clear hb3 T2
  unfold wrongAt
  go_wp2_with fail
  refine ⟨rfl, ?_⟩
  rw [HQ2.out]
  exact ⟨rfl, HF.out⟩
 have g1 : (kindT T i != 1) = false := by simpa using hk
 have hk1 : (kindT T i == 1) = true := beq_iff_eq.2 hk
 have T2 := Lib.hid (qagg_any ⟨(textT T i).toArray⟩ w2 (HA.out.keep HE2.out.below))
 have HIL := Lib.hid (kind_lt hk (by decide))
 have HTX := Lib.hid (show (⟨(textT T i).toArray⟩ : ByteArray).data.toList = textT T i from rfl)
 have HTS := Lib.hid (show (⟨(textT T i).toArray⟩ : ByteArray).size ≤ 400 from HTL.out)
 have HAG2 := Lib.hid (show isAg T i = aggWord ⟨(textT T i).toArray⟩ by rw [HAG.out, hk1]; rfl)
 have T3 := Lib.hid (take_any HR2.out HWW.out HIL.out)
 unfold TakeSays tokV at T3
 have ft := field_text (kindT T i) ⟨(textT T i).toArray⟩ (atT T E i)
 have bd := run_agg ⟨(textT T i).toArray⟩
 have HBX := Lib.hid (fun w' : World => box_agg w' ⟨(textT T i).toArray⟩)
 generalize (⟨(textT T i).toArray⟩ : ByteArray) = tx at *
 clear hk hk1 HAG HTL
 cases haw : aggWord tx with
 | false =>
  have T4 := Lib.hid (fail_any HR2.out HWW.out)
  rw [haw] at T2 HAG2
  have HQ2 := Lib.hid (show r = .error (atT T E i) by
   rw [← HQ.out]; unfold aggQ
   exact if_neg (by rw [HAG2.out]; decide))
  clear haw
  go_wp2_with (first | rw [HW2.out])
  refine (T2.out).mono ?_
  rintro e' w3 ⟨rfl, rfl⟩
  go_wp2_with fail
  refine (T4.out).mono ?_
  rintro e' w4 ⟨rfl, hb4⟩
  have HF := Lib.hid (HN2.out.trans (.of_below hb4))
  clear hb4 T4 T2
  unfold wrongAt
  go_wp2_with fail
  refine ⟨rfl, ?_⟩
  rw [HQ2.out]
  exact ⟨rfl, HF.out⟩
 | true =>
  rw [haw] at T2 HAG2
  clear haw
  go_wp2_with (first | rw [HW2.out])
  refine (T2.out).mono ?_
  rintro e' w3 ⟨rfl, rfl⟩
  go_wp2_with fail
  refine (T3.out).mono ?_
  rintro e' w4 ⟨rfl, hr4, hn4⟩
  obtain ⟨w5, hw5, ho5, hb5⟩ := HBX.out w4
  have HR5 := Lib.hid (hr4.keep hb5)
  have HN5 := Lib.hid (HN2.out.trans (hn4.trans (.of_below hb5)))
  have HE5 := Lib.hid ((HE2.out.only hn4).keep hb5)
  have HO5 := Lib.hid ((HO2.out.only hn4 (by have := HLT.out; omega)).keep hb5)
  have HP5 := Lib.hid ho5
  have HSZ := Lib.hid (show w.heap.size < w4.heap.size from (HO2.out.only hn4 (by have := HLT.out; omega)).lt)
  have HW5 := Lib.hid hw5
  have c0 : w5.cell? ⟨w4.heap.size, 0, none⟩ = some (.string tx) := ho5.cell rfl
  have hl5 := ho5.lt
  clear hw5 ho5 hb5 hr4 hn4 T3 T2 HBX d0 d1 d2 hl2 HW2 HO2
  have HQ1 := Lib.hid (show r = if textT T i = qCount then (asQ T E (i + 1)).bind fun s => .ok (⟨qCount, zeroX, s.1⟩, s.2) else (ofQ T E X (i + 1)).bind fun x => (asQ T E x.2).bind fun s => .ok (⟨textT T i, x.1, s.1⟩, s.2) by
   rw [← HQ.out]; unfold aggQ; exact if_pos HAG2.out)
  obtain ⟨q, hq⟩ : ∃ q, (tx.toList == [99, 111, 117, 110, 116]) = q := ⟨_, rfl⟩
  have HQB := Lib.hid (show (textT T i == qCount) = q by rw [← hq, ← HTX.out, Lib.toList_data]; rfl)
  clear HQ HAG2
  go_upto_if 24 with (first | rw [HW5.out])
  generalize w4.heap.size = b4 at *
  go_cut [] from 25 to 31 (fun wx => ∃ (y : Ex) (j : Nat), RdAt T E wx rb A c j ∧ RowL wx b4 99 (aggXL ⟨tx, y, ⟨#[]⟩⟩) ∧ RowL wx w.heap.size 99 (aggXL ⟨⟨#[]⟩, zeroE, ⟨#[]⟩⟩) ∧ SeesS (fun b => b4 < b) wx y ∧ Only (fun k => k = rb) w wx ∧ Env wB wx rb ∧ b4 < wx.heap.size ∧ r = (asQ T E j).bind fun s => .ok (⟨tx.data.toList, strip y, s.1⟩, s.2))
  case first =>
   cases q with
   | true =>
    have hcnt := beq_iff_eq.1 HQB.out
    have HQ3 := Lib.hid (HQ1.out.trans (if_pos hcnt))
    have HCT := Lib.hid (HTX.out.trans hcnt)
    clear hcnt HQ1 HQB hq
    go_wp2_with fail
    go_meet
    exact ⟨zeroE, i + 1, HR5.out, HP5.out, HO5.out, seesS_leaf (by decide) (by decide) ⟨show fits 0 by decide, show fits 0 by decide, Nat.zero_le _⟩ (show fits 0 by decide), HN5.out, HE5.out, HP5.out.lt, by rw [HQ3.out, HCT.out]; rfl⟩
   | false =>
    have hcnt := beq_eq_false_iff_ne.1 HQB.out
    have HQ3 := Lib.hid (HQ1.out.trans (if_neg hcnt))
    clear hcnt HQ1 HQB hq
    unfold ofQ at HQ3
    have T6 := Lib.hid (need_any HR5.out HWW.out ⟨#[40]⟩)
    go_wp2_with fail
    refine (T6.out).mono ?_
    rintro e' w6 (⟨hh, rfl, hr6, hn6⟩ | ⟨hh, rfl, hn6⟩)
    rotate_left
    ·have HF := Lib.hid (HN5.out.trans hn6)
     rw [need_no (s := wOpen) hh] at HQ3
     clear hn6 T6
     unfold wrongAt
     go_wp2_with fail
     refine ⟨rfl, ?_⟩
     rw [HQ3.out]
     exact ⟨rfl, HF.out⟩
    rw [need_ok (s := wOpen) hh] at HQ3
    have HR6 := Lib.hid hr6
    have HN6 := Lib.hid (HN5.out.trans hn6)
    have HE6 := Lib.hid (HE5.out.only hn6)
    have HP6 := Lib.hid (HP5.out.only hn6 (by have := HLT.out; have := HSZ.out; omega))
    have HO6 := Lib.hid (HO5.out.only hn6 (by have := HLT.out; omega))
    have HS6 := Lib.hid HP6.out.lt
    have T7 := Lib.hid (rdExpr_any HWW.out (HXX.out (i + 1 + 1) hr6.le) wB w6 rb A c hr6 HE6.out)
    clear hh hr6 hn6 T6
    go_wp2_with fail
    refine (T7.out).mono ?_
    intro e' w7 h7
    cases hx : X (i + 1 + 1) with
    | error k =>
     rw [hx] at h7
     obtain ⟨rfl, hn7⟩ := h7
     have HF := Lib.hid (HN6.out.trans hn7)
     have HQ4 := Lib.hid (show r = .error k by
      rw [HQ3.out]
      show ((X (i + 1 + 1)).bind _).bind _ = _
      rw [hx]; rfl)
     clear hn7 T7 hx HQ3
     unfold wrongAt
     go_wp2_with fail
     refine ⟨rfl, ?_⟩
     rw [HQ4.out]
     exact ⟨rfl, HF.out⟩
    | ok p =>
     obtain ⟨x, j⟩ := p
     rw [hx] at h7
     obtain ⟨y, rfl, hsy, hst, hr7, hn7⟩ := h7
     have hp7 := HP6.out.only hn7 (by have := HLT.out; have := HSZ.out; omega)
     have hp8 := aggX_of w7 b4 tx zeroE y ⟨#[]⟩ hp7
     have ho8 := putAll_only (exCells y) w7 b4 1
     obtain ⟨w8, hw8⟩ : ∃ w8, putAll w7 b4 1 (exCells y) = w8 := ⟨_, rfl⟩
     rw [hw8] at hp8 ho8
     have HR8 := Lib.hid (hr7.other ho8 (by have := HLT.out; have := HSZ.out; omega) (fun h0 ad e => by have := HOLD.out h0 ad e; have := HSZ.out; omega))
     have HN8 := Lib.hid ((HN6.out.trans hn7).then_new ho8 (by have := HSZ.out; omega))
     have HE8 := Lib.hid (show Env wB w8 rb from (HE6.out.only hn7).other ho8 (by have := HBW.out; have := HSZ.out; omega))
     have HO8 := Lib.hid ((HO6.out.only hn7 (by have := HLT.out; omega)).only ho8 (by have := HSZ.out; omega))
     have HP8 := Lib.hid hp8
     have HSY := Lib.hid ((hsy.mono (fun b hb => Nat.lt_of_lt_of_le HS6.out hb)).keep (alike_only2 (S := fun b => b4 < b) ho8 (fun b hb e => by have e : b = b4 := e; omega)))
     have HQ4 := Lib.hid (show r = ((needQ T E wClose j).bind (fun k => .ok (x, k))).bind fun x => (asQ T E x.2).bind fun s => .ok (⟨textT T i, x.1, s.1⟩, s.2) by
      rw [HQ3.out]
      show ((X (i + 1 + 1)).bind _).bind _ = _
      rw [hx]; rfl)
     have HST := Lib.hid hst
     have T9 := Lib.hid (need_any HR8.out HWW.out ⟨#[41]⟩)
     have c1 : w7.cell? ⟨b4, 1, none⟩ = some (.string zeroE.op) := hp7.cell rfl
     have c2 : w7.cell? ⟨b4, 2, none⟩ = some (.string zeroE.name) := hp7.cell rfl
     have c3 : w7.cell? ⟨b4, 3, none⟩ = some (.int .i64 0) := hp7.cell rfl
     have c4 : w7.cell? ⟨b4, 4, none⟩ = some (.int .i64 0) := hp7.cell rfl
     have c5 : w7.cell? ⟨b4, 5, none⟩ = some (.string zeroE.val.s) := hp7.cell rfl
     have c6 : w7.cell? ⟨b4, 6, none⟩ = some (.slice none 0 0) := hp7.cell rfl
     have c7 : w7.cell? ⟨b4, 7, none⟩ = some (.int .i64 0) := hp7.cell rfl
     have f1 := hp7.free 1
     have f2 := hp7.free 2
     have f3 := hp7.free 3
     have f4 := hp7.free 4
     have f5 := hp7.free 5
     have f6 := hp7.free 6
     have f7 := hp7.free 7
     have hl7 := hp7.lt
     simp only [putAll, exCells, Nat.reduceAdd] at hw8
     have HW8 := Lib.hid hw8
     clear hx hsy hst hr7 hn7 hp7 hp8 ho8 hw8 T7 HQ3 c0 hl5
     unfold exV
     go_wp2_with (first | rw [HW8.out])
     refine (T9.out).mono ?_
     rintro e' w9 (⟨hh, rfl, hr9, hn9⟩ | ⟨hh, rfl, hn9⟩)
     rotate_left
     ·have HF := Lib.hid (HN8.out.trans hn9)
      rw [need_no (s := wClose) hh] at HQ4
      clear hn9 T9
      unfold wrongAt
      go_wp2_with fail
      refine ⟨rfl, ?_⟩
      rw [HQ4.out]
      exact ⟨rfl, HF.out⟩
     rw [need_ok (s := wClose) hh] at HQ4
     have HR9 := Lib.hid hr9
     have HN9 := Lib.hid (HN8.out.trans hn9)
     have HE9 := Lib.hid (HE8.out.only hn9)
     have HO9 := Lib.hid (HO8.out.only hn9 (by have := HLT.out; omega))
     have HP9 := Lib.hid (HP8.out.only hn9 (by have := HLT.out; have := HSZ.out; omega))
     have HS9 := Lib.hid (HSY.out.keep (alike_only2 (S := fun b => b4 < b) hn9 (fun b hb e => by have e : b = rb := e; have := HLT.out; have := HSZ.out; omega)))
     clear hh hr9 hn9 T9
     go_wp2_with fail
     go_meet
     exact ⟨y, j + 1, HR9.out, HP9.out, HO9.out, HS9.out, HN9.out, HE9.out, HP9.out.lt, by rw [HQ4.out, HST.out, HTX.out]; rfl⟩
  case rest =>
   obtain ⟨y, j, hr6, hp6, ho6, hs6, hn6, he6, hl6, hq6⟩ := hcut
   unfold asQ at hq6
   have HP6 := Lib.hid hp6
   have HO6 := Lib.hid ho6
   have HS6 := Lib.hid hs6
   have HN6 := Lib.hid hn6
   have HE6 := Lib.hid he6
   have HQ6 := Lib.hid hq6
   have T7 := Lib.hid (need_any hr6 HWW.out ⟨#[97, 115]⟩)
   clear hr6 hp6 ho6 hs6 hn6 he6 hl6 hq6 HQB HQ1 hq c0 hl5 HR5 HN5 HE5 HO5 HP5 HW5
   go_wp2_with fail
   refine (T7.out).mono ?_
   rintro e' w7 (⟨hh, rfl, hr7, hn7⟩ | ⟨hh, rfl, hn7⟩)
   rotate_left
   ·have HF := Lib.hid (HN6.out.trans hn7)
    rw [need_no (s := qAs) hh] at HQ6
    clear hn7 T7
    unfold wrongAt
    go_wp2_with fail
    refine ⟨rfl, ?_⟩
    rw [HQ6.out]
    exact ⟨rfl, HF.out⟩
   rw [need_ok (s := qAs) hh] at HQ6
   have HR7 := Lib.hid hr7
   have HN7 := Lib.hid (HN6.out.trans hn7)
   have HE7 := Lib.hid (HE6.out.only hn7)
   have HO7 := Lib.hid (HO6.out.only hn7 (by have := HLT.out; omega))
   have HP7 := Lib.hid (HP6.out.only hn7 (by have := HLT.out; have := HSZ.out; omega))
   have HS7 := Lib.hid (HS6.out.keep (alike_only2 (S := fun b => b4 < b) hn7 (fun b hb e => by have e : b = rb := e; have := HLT.out; have := HSZ.out; omega)))
   have T8 := Lib.hid (rdName_any hr7 HWW.out (HE7.out.words.keep HE7.out.below))
   clear hh hr7 hn7 T7
   go_wp2_with fail
   refine (T8.out).mono ?_
   rintro e' w8 (⟨nm, hnm, rfl, hr8, hn8⟩ | ⟨hnm, rfl, hn8⟩)
   rotate_left
   ·have HF := Lib.hid (HN7.out.trans hn8)
    have HQ7 := Lib.hid (show r = .error (atT T E (j + 1)) by rw [HQ6.out]; show ((nameQ T E (j + 1)).bind _) = _; rw [nameQ_no hnm]; rfl)
    clear hn8 T8
    unfold wrongAt
    go_wp2_with fail
    refine ⟨rfl, ?_⟩
    rw [HQ7.out]
    exact ⟨rfl, HF.out⟩
   have HQ7 := Lib.hid (show r = .ok (⟨tx.data.toList, strip y, nm⟩, j + 1 + 1) by rw [HQ6.out]; show ((nameQ T E (j + 1)).bind _) = _; rw [nameQ_ok hnm]; rfl)
   have HNL := Lib.hid (show nm.length ≤ 400 by obtain ⟨t, ht, -, rfl, -⟩ := nameT_some hnm; exact HWW.out.text t (List.mem_of_getElem? ht))
   have hp8 := HP7.out.only hn8 (by have := HLT.out; have := HSZ.out; omega)
   have HR8 := Lib.hid hr8
   have HN8 := Lib.hid (HN7.out.trans hn8)
   have HO8 := Lib.hid (HO7.out.only hn8 (by have := HLT.out; omega))
   have HS8 := Lib.hid (HS7.out.keep (alike_only2 (S := fun b => b4 < b) hn8 (fun b hb e => by have e : b = rb := e; have := HLT.out; have := HSZ.out; omega)))
   have hp9 : RowL (w8.setCell ⟨b4, 8, none⟩ (.string (mkB nm))) b4 99 (aggXL ⟨tx, y, mkB nm⟩) := hp8.set 8 (.string (mkB nm))
   have ho9 : Only (fun k => k = b4) w8 (w8.setCell ⟨b4, 8, none⟩ (.string (mkB nm))) := putAll_only [.string (mkB nm)] w8 b4 8
   obtain ⟨w9, hw9⟩ : ∃ w9, w8.setCell ⟨b4, 8, none⟩ (.string (mkB nm)) = w9 := ⟨_, rfl⟩
   rw [hw9] at hp9 ho9
   have HO9 := Lib.hid (HO8.out.only ho9 (by have := HSZ.out; omega))
   have HR9 := Lib.hid (HR8.out.other ho9 (by have := HLT.out; have := HSZ.out; omega) (fun h0 ad e => by have := HOLD.out h0 ad e; have := HSZ.out; omega))
   have HN9 := Lib.hid (HN8.out.then_new ho9 (by have := HSZ.out; omega))
   have HS9 := Lib.hid (HS8.out.keep (alike_only2 (S := fun b => b4 < b) ho9 (fun b hb e => by have e : b = b4 := e; omega)))
   have k8 : w8.cell? ⟨b4, 8, none⟩ = some (.string ⟨#[]⟩) := hp8.cell rfl
   have f8 := hp8.free 8
   have hl8 := hp8.lt
   have v0 : w9.cell? ⟨b4, 0, none⟩ = some (.string tx) := hp9.cell rfl
   have v1 : w9.cell? ⟨b4, 1, none⟩ = some (.string y.op) := hp9.cell rfl
   have v2 : w9.cell? ⟨b4, 2, none⟩ = some (.string y.name) := hp9.cell rfl
   have v3 : w9.cell? ⟨b4, 3, none⟩ = some (.int .i64 y.val.type) := hp9.cell rfl
   have v4 : w9.cell? ⟨b4, 4, none⟩ = some (.int .i64 y.val.n) := hp9.cell rfl
   have v5 : w9.cell? ⟨b4, 5, none⟩ = some (.string y.val.s) := hp9.cell rfl
   have v6 : w9.cell? ⟨b4, 6, none⟩ = some (.slice y.A y.args.length y.c) := hp9.cell rfl
   have v7 : w9.cell? ⟨b4, 7, none⟩ = some (.int .i64 y.pos) := hp9.cell rfl
   have v8 : w9.cell? ⟨b4, 8, none⟩ = some (.string (mkB nm)) := hp9.cell rfl
   have hl9 := hp9.lt
   have HW9 := Lib.hid hw9
   clear hnm hr8 hn8 hp8 hp9 ho9 hw9 T8 HQ6
   go_wp2_with (first
    | rw [HW9.out]
    | (refine wpList_storeL rfl 99 (.tmp 2) (.tmp 37) rfl (n := aggXL ⟨tx, y, mkB nm⟩) HO9.out rfl (by rfl) (by kernel_rfl) rfl (by rfl) ?_; intro wl hzl hol; have HZL := Lib.hid hzl; have HOL := Lib.hid hol; clear hzl hol))
   have o0 : wl.cell? ⟨w.heap.size, 0, none⟩ = some (.string tx) := HZL.out.cell rfl
   have o1 : wl.cell? ⟨w.heap.size, 1, none⟩ = some (.string y.op) := HZL.out.cell rfl
   have o2 : wl.cell? ⟨w.heap.size, 2, none⟩ = some (.string y.name) := HZL.out.cell rfl
   have o3 : wl.cell? ⟨w.heap.size, 3, none⟩ = some (.int .i64 y.val.type) := HZL.out.cell rfl
   have o4 : wl.cell? ⟨w.heap.size, 4, none⟩ = some (.int .i64 y.val.n) := HZL.out.cell rfl
   have o5 : wl.cell? ⟨w.heap.size, 5, none⟩ = some (.string y.val.s) := HZL.out.cell rfl
   have o6 : wl.cell? ⟨w.heap.size, 6, none⟩ = some (.slice y.A y.args.length y.c) := HZL.out.cell rfl
   have o7 : wl.cell? ⟨w.heap.size, 7, none⟩ = some (.int .i64 y.pos) := HZL.out.cell rfl
   have o8 : wl.cell? ⟨w.heap.size, 8, none⟩ = some (.string (mkB nm)) := HZL.out.cell rfl
   refine bodyPost_ret (v := aggXV ⟨tx, y, mkB nm⟩) ?_ rfl ?_
   ·simp [results, Tryz.results166, go_sem, o0, o1, o2, o3, o4, o5, o6, o7, o8, aggXV]
   ·rw [HQ7.out]
    have hsz := HSZ.out
    refine ⟨_, rfl, ⟨⟨tx, y, mkB nm⟩, rfl, ?_, rfl, HNL.out, HTS.out⟩, HR9.out.other HOL.out (by have := HLT.out; omega) (fun h0 ad e => by have := HOLD.out h0 ad e; omega), HN9.out.then_new HOL.out (Nat.le_refl _)⟩
    exact (HS9.out.keep (alike_only2 (S := fun b => b4 < b) HOL.out (fun b hb e => by have e : b = w.heap.size := e; omega))).mono (fun b hb => by have hb : b4 < b := hb; omega)
end Go.Proofs.YtpbbkpfaphjdoaaGreatDoor
