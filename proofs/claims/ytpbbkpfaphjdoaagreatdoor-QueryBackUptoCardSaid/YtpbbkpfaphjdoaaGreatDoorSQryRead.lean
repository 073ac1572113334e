/- query.read, walked: a query that is read of words. -/
import Derived.Test.YtpbbkpfaphjdoaaGreatDoorSQryCols
namespace Go.Proofs.YtpbbkpfaphjdoaaGreatDoor
open Go.ChangeShapes Go.WideShapes Go.ChangeAt Go.RowKit
theorem items_any {T : List Tok} {E : Nat} (hW : Words T E) {X : Nat → PR} (hX : Oracle T E X) (j : Nat) (wB w : World) (rb qb : Nat) (A : Option Addr) (c : Nat) (hR : RdAt T E w rb A c j) (hE : Env wB w rb) (hA : AggsT wB) (hqB : wB.heap.size ≤ qb) (hL : Lies T A rb qb w) (hq : RowL w qb 30 (qxL zeroQX)) :
  Calls Tryz.prog 106 #[.pointer (some ⟨rb, 0, none⟩), .pointer (some ⟨qb, 0, none⟩)] w (QSays2 T E rb qb A c w (ItemsV w qb (isAg T j)) (itemsQ T E X zeroQ j)) := by
 unfold itemsQ
 cases h : isAg T j with
 | true => rw [if_pos rfl]; exact items_aggs hW hX j wB w rb qb A c hR hE hA hqB hL hq h
 | false => rw [if_neg (by decide)]; exact items_cols hW hX j wB w rb qb A c hR hE hA hqB hL hq h
theorem SeesQ.only2 {w0 wr w' : World} {rb qb : Nat} {y : QX} (h : SeesQ (fun b => w0.heap.size ≤ b) wr y) (ho : Only (fun b => b = rb ∨ b = qb) wr w') (h1 : rb < w0.heap.size) (h2 : qb < w0.heap.size) : SeesQ (fun b => w0.heap.size ≤ b) w' y :=
 h.keep (alike_only2 ho (fun b hb e => by have hb : w0.heap.size ≤ b := hb; rcases e with e | e <;> omega))
def ReadV (w : World) (qb : Nat) (p : QP) (v : Value) (w' : World) : Prop := v = .tuple #[] ∧ ∃ y : QX, RowL w' qb 30 (qxL y) ∧ SeesQ (fun b => w.heap.size ≤ b) w' y ∧ qpX y = p
set_option maxHeartbeats 8000000 in
set_option maxRecDepth 100000 in
theorem qread_any {T : List Tok} {E : Nat} (hW : Words T E) {X : Nat → PR} (hX : Oracle T E X) (wB w : World) (rb qb : Nat) (A : Option Addr) (c : Nat) (hR : RdAt T E w rb A c 0) (hE : Env wB w rb) (hA : AggsT wB) (hqB : wB.heap.size ≤ qb) (hL : Lies T A rb qb w) (hq : RowL w qb 30 (qxL zeroQX)) :
  Calls Tryz.prog 41 #[.pointer (some ⟨rb, 0, none⟩), .pointer (some ⟨qb, 0, none⟩)] w (QSays2 T E rb qb A c w (ReadV w qb) (readQ' T E X)) := by
 obtain ⟨r, hr⟩ : ∃ r, readQ' T E X = r := ⟨_, rfl⟩
 have T1 := Lib.hid (need_any hR hW ⟨#[115, 101, 108, 101, 99, 116]⟩)
 have HWW := Lib.hid hW
 have HXX := Lib.hid hX
 have HR := Lib.hid hr
 have HE := Lib.hid hE
 have HA := Lib.hid hA
 have HQB := Lib.hid hqB
 have HL := Lib.hid hL
 have HQ := Lib.hid hq
 rw [hr]
 unfold readQ' at HR
 clear hW hX hR hE hA hL hq hr hqB
 go_enter Tryz.func41, Tryz.ntmps41
 go_wp2_with fail
 refine (T1.out).mono ?_
 rintro e' w1 (⟨hh, rfl, hr1, hn1⟩ | ⟨hh, rfl, hn1⟩)
 rotate_left
 ·have HF := Lib.hid (hn1.mono (T := fun k => k = rb ∨ k = qb) (fun k e => Or.inl e))
  rw [need_no (s := qSelect) hh] at HR
  clear hn1 T1
  unfold wrongAt
  go_wp2_with fail
  refine ⟨rfl, ?_⟩
  rw [← HR.out]
  exact ⟨rfl, HF.out⟩
 rw [need_ok (s := qSelect) hh] at HR
 have HN1 := Lib.hid (hn1.mono (T := fun k => k = rb ∨ k = qb) (fun k e => Or.inl e))
 have HS1 := Lib.hid hn1.size
 have HL1 := Lib.hid (HL.out.up hn1.size)
 replace HR := Lib.hid (show ((itemsQ T E X zeroQ 1).bind fun p => (fromQ T E X p.1 p.2).bind fun q => if isAg T 1 = true then groupQ T E q.1 q.2 else .ok q) = r from HR.out)
 have T2 := Lib.hid (items_any HWW.out HXX.out 1 wB w1 rb qb A c hr1 (HE.out.only hn1) HA.out HQB.out HL1.out (HQ.out.only hn1 HL.out.ne))
 obtain ⟨g, hg⟩ : ∃ g, isAg T 1 = g := ⟨_, rfl⟩
 rw [hg] at T2 HR
 clear hh hr1 hn1 T1 HQ hg
 go_wp2_with fail
 refine (T2.out).mono ?_
 intro e' w2 h2
 cases hx : itemsQ T E X zeroQ 1 with
 | error k =>
  rw [hx] at h2 HR
  obtain ⟨rfl, hn2⟩ := h2
  have HF := Lib.hid (HN1.out.trans hn2)
  clear hn2 T2 hx
  unfold wrongAt
  go_wp2_with fail
  refine ⟨rfl, ?_⟩
  rw [← HR.out]
  exact ⟨rfl, HF.out⟩
 | ok pp =>
  obtain ⟨p1, j⟩ := pp
  rw [hx] at h2 HR
  obtain ⟨-, rfl, ⟨rfl, y, hq2, hs2, hp2, hG⟩, hr2, hn2⟩ := h2
  replace HR := Lib.hid (show ((fromQ T E X p1 j).bind fun q => if g = true then groupQ T E q.1 q.2 else .ok q) = r from HR.out)
  have HN2 := Lib.hid (HN1.out.trans hn2)
  have HL2 := Lib.hid (HL1.out.up hn2.size)
  have HQ2 := Lib.hid hq2
  have HS2 := Lib.hid (show SeesQ (fun b => w.heap.size ≤ b) w2 y from hs2.mono (fun b hb => Nat.le_trans HS1.out hb))
  have HP2 := Lib.hid hp2
  have HG := Lib.hid hG
  have HE2 := Lib.hid (HE.out.two HN2.out HQB.out)
  have T3 := Lib.hid (need_any hr2 HWW.out ⟨#[102, 114, 111, 109]⟩)
  clear hx hq2 hs2 hp2 hG hr2 hn2 T2 HN1 HL1
  go_wp2_with fail
  refine (T3.out).mono ?_
  rintro e' w3 (⟨hh, rfl, hr3, hn3⟩ | ⟨hh, rfl, hn3⟩)
  rotate_left
  ·have HF := Lib.hid (HN2.out.trans (hn3.mono (fun k e => Or.inl e)))
   replace HR := Lib.hid (show .error (atT T E j) = r by rw [← HR.out]; show _ = (((needQ T E qFrom j).bind _).bind _); rw [need_no (s := qFrom) hh]; rfl)
   clear hn3 T3
   unfold wrongAt
   go_wp2_with fail
   refine ⟨rfl, ?_⟩
   rw [← HR.out]
   exact ⟨rfl, HF.out⟩
  replace HR := Lib.hid (show (((nameQ T E (j + 1)).bind fun s => if isT T s.2 qWhere = true then (X (s.2 + 1)).bind fun x => .ok ({ p1 with from_ := s.1, wher := x.1 }, x.2) else .ok ({ p1 with from_ := s.1 }, s.2)).bind fun q => if g = true then groupQ T E q.1 q.2 else .ok q) = r by
   rw [← HR.out]; show _ = (((needQ T E qFrom j).bind _).bind _); rw [need_ok (s := qFrom) hh]; rfl)
  have HN3 := Lib.hid (HN2.out.trans (hn3.mono (fun k e => Or.inl e)))
  have HE3 := Lib.hid (HE2.out.only hn3)
  have HQ3 := Lib.hid (HQ2.out.only hn3 HL.out.ne)
  have HS3 := Lib.hid (HS2.out.only2 (hn3.mono (T := fun k => k = rb ∨ k = qb) (fun k e => Or.inl e)) HL.out.rd HL.out.q)
  have T4 := Lib.hid (rdName_any hr3 HWW.out (HE3.out.words.keep HE3.out.below))
  clear hh hr3 hn3 T3 HQ2 HS2 HE2 HL2
  go_wp2_with fail
  refine (T4.out).mono ?_
  rintro e' w4 (⟨nm, hnm, rfl, hr4, hn4⟩ | ⟨hnm, rfl, hn4⟩)
  rotate_left
  ·have HF := Lib.hid (HN3.out.trans (hn4.mono (fun k e => Or.inl e)))
   replace HR := Lib.hid (show .error (atT T E (j + 1)) = r by rw [← HR.out, nameQ_no hnm]; rfl)
   clear hn4 T4 hnm
   unfold wrongAt
   go_wp2_with fail
   refine ⟨rfl, ?_⟩
   rw [← HR.out]
   exact ⟨rfl, HF.out⟩
  replace HR := Lib.hid (show ((if isT T (j + 1 + 1) qWhere = true then (X (j + 1 + 1 + 1)).bind fun x => .ok ({ p1 with from_ := nm, wher := x.1 }, x.2) else .ok ({ p1 with from_ := nm }, j + 1 + 1)).bind fun q => if g = true then groupQ T E q.1 q.2 else .ok q) = r by rw [← HR.out, nameQ_ok hnm]; rfl)
  have HNL := Lib.hid (name_size hnm HWW.out)
  have hq4 := HQ3.out.only hn4 HL.out.ne
  obtain ⟨w5, hw5⟩ : ∃ w5, w4.setCell ⟨qb, 0, none⟩ (.string (mkB nm)) = w5 := ⟨_, rfl⟩
  have hq5 : RowL w5 qb 30 (qxL { y with from_ := mkB nm }) := by rw [← hw5]; exact hq4.set 0 (.string (mkB nm))
  have ho5 : Only (fun k => k = qb) w4 w5 := by rw [← hw5]; exact putAll_only [.string (mkB nm)] w4 qb 0
  have hs5 : SeesQ (fun b => w.heap.size ≤ b) w5 y := (HS3.out.only2 (hn4.mono (T := fun k => k = rb ∨ k = qb) (fun k e => Or.inl e)) HL.out.rd HL.out.q).only2 (ho5.mono (T := fun k => k = rb ∨ k = qb) (fun k e => Or.inr e)) HL.out.rd HL.out.q
  have HS5 := Lib.hid (show SeesQ (fun b => w.heap.size ≤ b) w5 { y with from_ := mkB nm } from ⟨hs5.wher, hs5.cols, hs5.colsAt, hs5.names, hs5.group, hs5.aggs, hs5.aggsAt, ⟨show (mkB nm).size ≤ maxLen by have := HNL.out; unfold maxLen; omega, hs5.sizes.2⟩, hs5.nums⟩)
  have HN5 := Lib.hid ((HN3.out.trans (hn4.mono (fun k e => Or.inl e))).trans (ho5.mono (fun k e => Or.inr e)))
  have HQ5 := Lib.hid hq5
  have HE5 := Lib.hid (HE.out.two HN5.out HQB.out)
  have hr5 := hr4.other ho5 HL.out.ne.symm HL.out.toks
  have T6 := Lib.hid (has_any hr5 HWW.out ⟨#[119, 104, 101, 114, 101]⟩)
  unfold StepSays at T6
  obtain ⟨b, hb⟩ : ∃ b, isT T (j + 1 + 1) qWhere = b := ⟨_, rfl⟩
  rw [show isT T (j + 1 + 1) (⟨#[119, 104, 101, 114, 101]⟩ : ByteArray).data.toList = b from hb] at T6
  rw [hb] at HR
  have k0 : w4.cell? ⟨qb, 0, none⟩ = some (.string y.from_) := hq4.cell rfl
  have f0 := hq4.free 0
  have hl4 := hq4.lt
  have HW5 := Lib.hid hw5
  clear hnm hr4 hn4 hq4 hw5 hq5 ho5 hs5 hr5 T4 hb HQ3 HS3 HE3 HN3
  generalize j + 1 + 1 = j2 at *
  go_wp2_with (first | rw [HW5.out])
  refine (T6.out).mono ?_
  rintro e' w6 ⟨rfl, hr6, hn6⟩
  have HN6 := Lib.hid (HN5.out.trans (hn6.mono (fun k e => Or.inl e)))
  have HE6 := Lib.hid (HE.out.two HN6.out HQB.out)
  have HQ6 := Lib.hid (HQ5.out.only hn6 HL.out.ne)
  have HS6 := Lib.hid (HS5.out.only2 (hn6.mono (T := fun k => k = rb ∨ k = qb) (fun k e => Or.inl e)) HL.out.rd HL.out.q)
  have HR6 := Lib.hid hr6
  clear hr6 hn6 T6 HQ5 HS5 HE5 HN5 k0 f0 hl4 HW5
  go_upto_if 18 with fail
  go_cut [] from 19 to 23 (fun wx => ∃ (y' : QX) (p' : QP) (j' : Nat), RowL wx qb 30 (qxL y') ∧ SeesQ (fun b => w.heap.size ≤ b) wx y' ∧ qpX y' = p' ∧ (y'.GA = none ∧ y'.gc = 0 ∧ y'.group = []) ∧ RdAt T E wx rb A c j' ∧ Only (fun b => b = rb ∨ b = qb) w wx ∧ (if g = true then groupQ T E p' j' else .ok (p', j')) = r)
  case first =>
   cases b with
   | false =>
    go_wp2_with fail
    go_meet
    exact ⟨{ y with from_ := mkB nm }, { p1 with from_ := nm }, j2, HQ6.out, HS6.out, by rw [← HP2.out]; rfl, HG.out, HR6.out, HN6.out, by rw [← HR.out]; rfl⟩
   | true =>
    have hr6 : RdAt T E w6 rb A c (j2 + 1) := HR6.out
    have T7 := Lib.hid (rdExpr_any HWW.out (HXX.out (j2 + 1) hr6.le) wB w6 rb A c hr6 HE6.out)
    clear hr6
    go_wp2_with fail
    refine (T7.out).mono ?_
    intro e' w7 h7
    cases hx : X (j2 + 1) with
    | error k =>
     rw [hx] at h7
     obtain ⟨rfl, hn7⟩ := h7
     have HF := Lib.hid (HN6.out.trans (hn7.mono (fun k e => Or.inl e)))
     replace HR := Lib.hid (show .error k = r by rw [← HR.out, if_pos trivial, hx]; rfl)
     clear hn7 T7 hx
     unfold wrongAt
     go_wp2_with fail
     refine ⟨rfl, ?_⟩
     rw [← HR.out]
     exact ⟨rfl, HF.out⟩
    | ok pp =>
     obtain ⟨x, j3⟩ := pp
     rw [hx] at h7
     obtain ⟨z, rfl, hsz, hst, hr7, hn7⟩ := h7
     replace HR := Lib.hid (show (if g = true then groupQ T E { p1 with from_ := nm, wher := x } j3 else .ok ({ p1 with from_ := nm, wher := x }, j3)) = r by rw [← HR.out, if_pos trivial, hx]; rfl)
     have hq7 := HQ6.out.only hn7 HL.out.ne
     have hq8 : RowL (putAll w7 qb 1 (exCells z)) qb 30 (qxL { y with from_ := mkB nm, wher := z }) := hq7.put 1 (exCells z)
     have ho8 := putAll_only (exCells z) w7 qb 1
     obtain ⟨w8, hw8⟩ : ∃ w8, putAll w7 qb 1 (exCells z) = w8 := ⟨_, rfl⟩
     rw [hw8] at hq8 ho8
     have hs8 := (HS6.out.only2 (hn7.mono (T := fun k => k = rb ∨ k = qb) (fun k e => Or.inl e)) HL.out.rd HL.out.q).only2 (ho8.mono (T := fun k => k = rb ∨ k = qb) (fun k e => Or.inr e)) HL.out.rd HL.out.q
     have hz8 : SeesS (fun b => w.heap.size ≤ b) w8 z := (hsz.mono (T := fun b => w.heap.size ≤ b) (fun b hb => Nat.le_trans HN6.out.size hb)).keep (alike_only2 ho8 (fun b hb e => by have e : b = qb := e; have hb : w.heap.size ≤ b := hb; have := HL.out.q; omega))
     have HS8 := Lib.hid (show SeesQ (fun b => w.heap.size ≤ b) w8 { y with from_ := mkB nm, wher := z } from ⟨hz8, hs8.cols, hs8.colsAt, hs8.names, hs8.group, hs8.aggs, hs8.aggsAt, hs8.sizes, hs8.nums⟩)
     have HQ8 := Lib.hid hq8
     have HR8 := Lib.hid (hr7.other ho8 HL.out.ne.symm HL.out.toks)
     have HN8 := Lib.hid ((HN6.out.trans (hn7.mono (fun k e => Or.inl e))).trans (ho8.mono (fun k e => Or.inr e)))
     have HST := Lib.hid hst
     have c1 : w7.cell? ⟨qb, 1, none⟩ = some (.string y.wher.op) := hq7.cell rfl
     have c2 : w7.cell? ⟨qb, 2, none⟩ = some (.string y.wher.name) := hq7.cell rfl
     have c3 : w7.cell? ⟨qb, 3, none⟩ = some (.int .i64 y.wher.val.type) := hq7.cell rfl
     have c4 : w7.cell? ⟨qb, 4, none⟩ = some (.int .i64 y.wher.val.n) := hq7.cell rfl
     have c5 : w7.cell? ⟨qb, 5, none⟩ = some (.string y.wher.val.s) := hq7.cell rfl
     have c6 : w7.cell? ⟨qb, 6, none⟩ = some (.slice y.wher.A y.wher.args.length y.wher.c) := hq7.cell rfl
     have c7 : w7.cell? ⟨qb, 7, none⟩ = some (.int .i64 y.wher.pos) := hq7.cell rfl
     have f1 := hq7.free 1
     have f2 := hq7.free 2
     have f3 := hq7.free 3
     have f4 := hq7.free 4
     have f5 := hq7.free 5
     have f6 := hq7.free 6
     have f7 := hq7.free 7
     have hl7 := hq7.lt
     simp only [putAll, exCells, Nat.reduceAdd] at hw8
     have HW8 := Lib.hid hw8
     clear hx hsz hst hr7 hn7 hq7 hq8 ho8 hw8 hs8 hz8 T7
     unfold exV
     go_wp2_with (first | rw [HW8.out])
     go_meet
     exact ⟨{ y with from_ := mkB nm, wher := z }, { p1 with from_ := nm, wher := x }, j3, HQ8.out, HS8.out, by rw [← HP2.out, ← HST.out]; rfl, HG.out, HR8.out, HN8.out, HR.out⟩
  case rest =>
   obtain ⟨y', p', j', hq7, hs7, hp7, hg7, hr7, hn7, hres⟩ := hcut
   have HQ7 := Lib.hid hq7
   have HS7 := Lib.hid hs7
   have HP7 := Lib.hid hp7
   have HN7 := Lib.hid hn7
   have HR7 := Lib.hid hr7
   have HRES := Lib.hid hres
   have T8 := Lib.hid (group_any HWW.out j' wB wc rb qb A c hr7 (HE.out.two hn7 HQB.out) HQB.out (HL.out.up hn7.size) y' hg7 hq7)
   rw [hp7] at T8
   clear hq7 hs7 hp7 hg7 hr7 hn7 hres
   cases g with
   | false =>
    go_wp2_with fail
    go_end0
    rw [← HRES.out, if_neg (by decide)]
    exact ⟨_, rfl, ⟨rfl, y', HQ7.out, HS7.out, HP7.out⟩, HR7.out, HN7.out⟩
   | true =>
    rw [if_pos rfl] at HRES
    rw [HRES.out] at T8
    go_wp2_with fail
    refine (T8.out).mono ?_
    intro e' w9 h9
    cases r with
    | error k =>
     obtain ⟨rfl, hn9⟩ := h9
     have HF := Lib.hid (HN7.out.trans hn9)
     clear hn9 T8 HRES HR
     unfold wrongAt
     go_wp2_with fail
     refine ⟨rfl, ?_⟩
     exact ⟨rfl, HF.out⟩
    | ok pp =>
     obtain ⟨p9, j9⟩ := pp
     obtain ⟨-, rfl, ⟨rfl, GA, gc, ns, sz, sl, hq9, hs9, hp9, hns, hf1, hf2⟩, hr9, hn9⟩ := h9
     have hsq := HS7.out.only2 hn9 HL.out.rd HL.out.q
     have HV := Lib.hid (show ReadV w qb p9 (.tuple #[]) w9 from ⟨rfl, _, hq9, ⟨hsq.wher, hsq.cols, hsq.colsAt, hsq.names, hs9.mono (fun b hb => Nat.le_trans HN7.out.size hb), hsq.aggs, hsq.aggsAt, ⟨hsq.sizes.1, hsq.sizes.2.1, fun s hs => by have := hns s hs; unfold maxLen; omega, hsq.sizes.2.2.2⟩, ⟨hf1, hf2⟩⟩, hp9⟩)
     have HR9 := Lib.hid hr9
     have HN9 := Lib.hid (HN7.out.trans hn9)
     clear hq9 hs9 hp9 hns hf1 hf2 hr9 hn9 hsq T8 HRES HR
     go_wp2_with fail
     go_end0
     exact ⟨_, rfl, HV.out, HR9.out, HN9.out⟩
end Go.Proofs.YtpbbkpfaphjdoaaGreatDoor
