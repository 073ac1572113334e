/- query.cols, walked: the columns of what comes of a query. -/
import Derived.Test.YtpbbkpfaphjdoaaGreatDoorSQryTyped
namespace Go.Proofs.YtpbbkpfaphjdoaaGreatDoor
open Go.ChangeShapes Go.WideShapes Go.ChangeAt Go.RowKit
def outs (f : Nat → Col × Int) : Nat → List Col
 | 0 => []
 | n + 1 => outs f n ++ [(f n).1]
theorem outs_length (f : Nat → Col × Int) : ∀ n, (outs f n).length = n
 | 0 => rfl
 | n + 1 => by rw [outs, List.length_append, outs_length f n]; rfl
def errs (f : Nat → Col × Int) (n : Nat) : Int := firstErr (fun k => (f k).2) n
theorem colsCells_snoc (l : List Col) (c : Col) : colsCells (l ++ [c]) = colsCells l ++ [.string c.name, .int .i64 c.type] := by simp [colsCells, colCells]
def colsF1 (q : QX) (l : List Col) (k : Nat) : Col × Int := match q.cols[k]? with
 | some e => (⟨(q.names[k]?).getD ⟨#[]⟩, (typedQ l e 0).1⟩, (typedQ l e 0).2)
 | none => (⟨⟨#[]⟩, 0⟩, 0)
def grpErr (q : QX) (l : List Col) (k : Nat) (s : ByteArray) : Int := if findCol l s < 0 then 5 else if Lib.containsS (q.group.take k) s = true then 7 else 0
def colsF2 (q : QX) (l : List Col) (k : Nat) : Col × Int := match q.group[k]? with
 | some s => (⟨s, colType l (findCol l s)⟩, grpErr q l k s)
 | none => (⟨⟨#[]⟩, 0⟩, 0)
def colsF3 (q : QX) (l : List Col) (k : Nat) : Col × Int := match q.aggs[k]? with
 | some a => toldQ l a
 | none => (⟨⟨#[]⟩, 0⟩, 0)
def colsOut (q : QX) (l : List Col) : List Col := outs (colsF1 q l) q.cols.length ++ outs (colsF2 q l) q.group.length ++ outs (colsF3 q l) q.aggs.length
def colsErr (q : QX) (l : List Col) : Int := if errs (colsF1 q l) q.cols.length ≠ 0 then errs (colsF1 q l) q.cols.length else if errs (colsF2 q l) q.group.length ≠ 0 then errs (colsF2 q l) q.group.length else errs (colsF3 q l) q.aggs.length
theorem sees_take {w : World} {A : Option Addr} {n c size k : Nat} {xs : List Value} (h : Sees w A n c size xs) (hk : k ≤ n) : Sees w A k c size (xs.take (k * size)) := by
 obtain ⟨h1, h2, h3, h4, h5⟩ := h
 have hm : k * size ≤ n * size := Nat.mul_le_mul_right _ hk
 refine ⟨by rw [List.length_take]; omega, by omega, h3, fun e => ⟨by have := (h4 e).1; omega, (h4 e).2⟩, fun h0 => ?_⟩
 obtain ⟨g, o, e, hg, hc⟩ := h5 (by omega)
 refine ⟨g, o, e, hg, fun j u hu => hc j u ?_⟩
 rw [List.getElem?_take] at hu
 split at hu
 ·exact hu
 ·cases hu
theorem strCells_take (l : List ByteArray) (k : Nat) : (strCells l).take (k * 1) = strCells (l.take k) := by rw [Nat.mul_one]; unfold strCells; rw [List.map_take]
def ColsSays (q : QX) (l : List Col) (w : World) (r : Ending) (w' : World) : Prop :=
 Below w.heap.size w w' ∧ if colsErr q l ≠ 0 then r = .returned (.tuple #[.slice none 0 0, errV (colsErr q l)])
 else ∃ A c, r = .returned (.tuple #[.slice A (colsOut q l).length c, errV (schemaErr (colsOut q l))]) ∧ SeesCols w' A (colsOut q l).length c (colsOut q l)
def ColsFit (L : List Col) : Prop := ∀ x ∈ L, x.name.size ≤ maxLen
theorem colsOut_fit {q : QX} {l : List Col} (h1 : ∀ s ∈ q.names, s.size ≤ maxLen) (h2 : ∀ s ∈ q.group, s.size ≤ maxLen) (h3 : ∀ a ∈ q.aggs, a.name.size ≤ maxLen) : ColsFit (colsOut q l) := by
 have key : ∀ (f : Nat → Col × Int), (∀ k, (f k).1.name.size ≤ maxLen) → ∀ n, ∀ x ∈ outs f n, x.name.size ≤ maxLen := by
  intro f hf n
  induction n with
  | zero => intro x hx; cases hx
  | succ n ih =>
   intro x hx
   rw [outs] at hx
   rcases List.mem_append.1 hx with hx | hx
   ·exact ih x hx
   ·rw [List.mem_singleton.1 hx]; exact hf n
 intro x hx
 unfold colsOut at hx
 rcases List.mem_append.1 hx with hx | hx
 ·rcases List.mem_append.1 hx with hx | hx
  ·refine key _ (fun k => ?_) _ x hx
   unfold colsF1
   split
   ·cases h : q.names[k]? with
    | none => exact Nat.zero_le _
    | some s => exact h1 s (List.mem_of_getElem? h)
   ·exact Nat.zero_le _
  ·refine key _ (fun k => ?_) _ x hx
   unfold colsF2
   split
   ·rename_i s h; exact h2 s (List.mem_of_getElem? h)
   ·exact Nat.zero_le _
 ·refine key _ (fun k => ?_) _ x hx
  unfold colsF3
  split
  ·rename_i a h
   have : (toldQ l a).1.name = a.name := by
    unfold toldQ
    split
    ·rfl
    ·split
     ·rfl
     ·rfl
   rw [this]; exact h3 a (List.mem_of_getElem? h)
  ·exact Nat.zero_le _
theorem colsErr_1 {q : QX} {l : List Col} {k : Nat} (hk : k < q.cols.length) (h0 : errs (colsF1 q l) k = 0) (h : (colsF1 q l k).2 ≠ 0) : colsErr q l = (colsF1 q l k).2 := by
 have e : errs (colsF1 q l) q.cols.length = (colsF1 q l k).2 := firstErr_hit (f := fun k => (colsF1 q l k).2) h0 h _ hk
 unfold colsErr
 rw [e, if_pos h]
theorem colsErr_2 {q : QX} {l : List Col} {k : Nat} (h1 : errs (colsF1 q l) q.cols.length = 0) (hk : k < q.group.length) (h0 : errs (colsF2 q l) k = 0) (h : (colsF2 q l k).2 ≠ 0) : colsErr q l = (colsF2 q l k).2 := by
 have e : errs (colsF2 q l) q.group.length = (colsF2 q l k).2 := firstErr_hit (f := fun k => (colsF2 q l k).2) h0 h _ hk
 unfold colsErr
 rw [h1, if_neg (by decide), e, if_pos h]
theorem colsErr_3 {q : QX} {l : List Col} {k : Nat} (h1 : errs (colsF1 q l) q.cols.length = 0) (h2 : errs (colsF2 q l) q.group.length = 0) (hk : k < q.aggs.length) (h0 : errs (colsF3 q l) k = 0) (h : (colsF3 q l k).2 ≠ 0) : colsErr q l = (colsF3 q l k).2 := by
 have e : errs (colsF3 q l) q.aggs.length = (colsF3 q l k).2 := firstErr_hit (f := fun k => (colsF3 q l k).2) h0 h _ hk
 unfold colsErr
 rw [h1, if_neg (by decide), h2, if_neg (by decide), e]
theorem colsErr_0 {q : QX} {l : List Col} (h1 : errs (colsF1 q l) q.cols.length = 0) (h2 : errs (colsF2 q l) q.group.length = 0) (h3 : errs (colsF3 q l) q.aggs.length = 0) : colsErr q l = 0 := by
 unfold colsErr
 rw [h1, if_neg (by decide), h2, if_neg (by decide), h3]
theorem errs_next {f : Nat → Col × Int} {k : Nat} (h : errs f k = 0) (hk : (f k).2 = 0) : errs f (k + 1) = 0 := firstErr_next (f := fun k => (f k).2) h hk
theorem strAt {w : World} {A : Option Addr} {n c : Nat} {zs : List ByteArray} (h : Sees w A n c 1 (strCells zs)) {k : Nat} (hk : k < n) : ∃ g o s, A = some ⟨g, o, none⟩ ∧ g < w.heap.size ∧ zs[k]? = some s ∧ w.cell? ⟨g, o + k, none⟩ = some (.string s) := by
 obtain ⟨g, o, e, hg, hc⟩ := h.2.2.2.2 (by omega)
 have hl : zs.length = n := by have := h.1; simpa [strCells] using this
 have hz : zs[k]? = some (zs[k]'(by omega)) := List.getElem?_eq_getElem _
 exact ⟨g, o, _, e, hg, hz, hc k _ (by unfold strCells; rw [List.getElem?_map, hz]; rfl)⟩
theorem colSlice' : SliceTy Tryz.prog 31 103 (.agg #[.string ⟨#[]⟩, .int .i64 0]) 2 24 := SliceTy.of Tryz.underlying31 (by kernel_rfl) rfl (by decide) (by decide)
set_option maxHeartbeats 8000000 in
set_option maxRecDepth 100000 in
theorem cols_any (q : QX) (C : Option Addr) (p n : Nat) (l : List Col) (w : World) (hT : Tables w) (hA : AggsT w) (hC : SeesCols w C p n l) (hs : ∀ x ∈ l, x.name.size ≤ maxLen) (hq : SeesQ (fun _ => True) w q) (hnn : q.cols.length ≤ q.names.length) (hsm : q.names.length + q.group.length + q.aggs.length ≤ 6) :
  Calls Tryz.prog 50 #[qxV q, .slice C p n] w (ColsSays q l w) := by
 obtain ⟨w0, hw0, ho0, hb0⟩ := box_q w q
 have HQ := Lib.hid (hq.keep (.of_below hb0))
 have HFIT := Lib.hid (colsOut_fit (q := q) (l := l) hq.sizes.2.1 hq.sizes.2.2.1 (fun a ha => (hq.sizes.2.2.2 a ha).2))
 have HTT := Lib.hid (hT.keep hb0)
 have HAA := Lib.hid (hA.keep hb0)
 have HC := Lib.hid (hC.keep hb0)
 have HS := Lib.hid hs
 have HNN := Lib.hid hnn
 have HEX := Lib.hid (show SeesEx w0 (.mk ⟨#[]⟩ ⟨#[]⟩ noVal q.CA q.cc q.cols 0) from .mk HQ.out.cols.1 (Nat.zero_le _) (Nat.zero_le _) ⟨show fits 0 by decide, show fits 0 by decide, Nat.zero_le _⟩ (show fits 0 by decide) (fun x hx => (HQ.out.colsAt x hx).see))
 have HB0 := Lib.hid hb0
 have HO0 := Lib.hid ho0
 have HW0 := Lib.hid hw0
 obtain ⟨hl1, hl2, hl3, hl4⟩ : q.cols.length ≤ 6 ∧ q.names.length ≤ 6 ∧ q.group.length ≤ 6 ∧ q.aggs.length ≤ 6 := ⟨by omega, by omega, by omega, by omega⟩
 have c8 : w0.cell? ⟨w.heap.size, 8, none⟩ = some (.slice q.CA q.cols.length q.cc) := ho0.cell rfl
 have hl0 := ho0.lt
 have HLT := Lib.hid hl0
 have e1 := hq.cols.1.2.1
 have e1' := hq.cols.1.2.2.1
 have e2 := hq.names.1.2.1
 have e2' := hq.names.1.2.2.1
 have e3 := hq.group.1.2.1
 have e3' := hq.group.1.2.2.1
 have e4 := hq.aggs.1.2.1
 have e4' := hq.aggs.1.2.2.1
 have e5 := hC.2.2.1
 have e5' := hC.2.2.2.1
 unfold maxLen at e1' e2' e3' e4' e5'
 clear hT hA hC hs hq hnn hsm hw0 ho0 hb0
 unfold qxV
 go_enter Tryz.func50, Tryz.ntmps50
 go_wp2_with (first | rw [HW0.out])
 go_loopw [4, 21] (fun v i wr => ∃ k : Nat, k ≤ q.cols.length ∧ i = .int .i64 k ∧ wr.ownsRow w0.heap.size 103 2 v k (colsCells (outs (colsF1 q l) k)) ∧ Below w0.heap.size w0 wr ∧ errs (colsF1 q l) k = 0) (fun _ i _ => q.cols.length - (intOf i).toNat)
 case atStart => exact ⟨0, Nat.zero_le _, rfl, World.ownsRow_nil _ _ _ _, Below.refl _ _, rfl⟩
 case round =>
  obtain ⟨k, hk, rfl, hown, hb, hno⟩ := hrel
  have HN := Lib.hid hno
  have HBR := Lib.hid hb
  have HSZ := Lib.hid hb.size
  clear hno c8
  by_cases hlk : k < q.cols.length
  ·obtain ⟨g, o, x, (hA : q.CA = _), hg, hx, hsx, d0, d1, d2, d3, d4, d5, d6⟩ := (HEX.out.keep hb).at_ (k := k) hlk
   have hx : q.cols[k]? = some x := hx
   obtain ⟨w3, hw3⟩ : ∃ w3, wr.alloc (.cells #[.string x.op, .string x.name, .int .i64 x.val.type, .int .i64 x.val.n, .string x.val.s, .slice x.A x.args.length x.c, .int .i64 x.pos] 26) = w3 := ⟨_, rfl⟩
   have hb3 : Below wr.heap.size wr w3 := by rw [← hw3]; exact belowNew' _ _
   have ho3 : Own7 w3 wr.heap.size x := by rw [← hw3]; exact own7_new _ _
   obtain ⟨k0, k1, k2, k3, k4, k5, k6⟩ := ho3.cells
   have hl3 := ho3.lt
   have HB3 := Lib.hid (hb.trans (hb3.mono hb.size))
   have T := Lib.hid (typed_any x C p n l 0 w3 (HTT.out.keep HB3.out) (HC.out.keep HB3.out) HS.out (hsx.keep hb3))
   unfold exV at T
   have HOW := Lib.hid (own_keep hown hb3)
   have HW3 := Lib.hid hw3
   obtain ⟨g2, o2, s, hNA, hg2, hs2, -⟩ := strAt HQ.out.names.1 (k := k) (by have := HNN.out; omega)
   have HNS := Lib.hid (fun w4 (hb : Below w0.heap.size w0 w4) => show w4.cell? ⟨g2, o2 + k, none⟩ = some (.string s) by
    obtain ⟨g3, o3, s3, e3, -, e4, e5⟩ := strAt (HQ.out.names.1.keep hb) (k := k) (by have := HNN.out; omega)
    rw [hNA] at e3
    injection e3 with e3
    injection e3 with e6 e7
    subst e6 e7
    rw [hs2] at e4
    injection e4 with e4
    subst e4
    exact e5)
   have EF := Lib.hid (show colsF1 q l k = (⟨s, (typedQ l x 0).1⟩, (typedQ l x 0).2) by unfold colsF1; rw [hx]; show ((⟨(q.names[k]?).getD ⟨#[]⟩, _⟩ : Col), _) = _; rw [hs2]; rfl)
   have hNk : k < q.names.length := by have := HNN.out; omega
   clear hx hs2 hsx hw3 hb3 ho3 hown hb
   generalize typedQ l x 0 = r at T EF
   obtain ⟨rt, re⟩ := r
   go_wp2_with (first | rw [HW3.out])
   refine (T.out).mono ?_
   rintro e' w4 ⟨rfl, hb4⟩
   have HB4 := Lib.hid (HB3.out.trans (hb4.mono HB3.out.size))
   have HOW4 := Lib.hid (own_keep HOW.out hb4)
   clear hb4 k0 k1 k2 k3 k4 k5 k6 d0 d1 d2 d3 d4 d5 d6
   have HRQ := HO0.out.keep HB4.out
   have c9 : w4.cell? ⟨w.heap.size, 9, none⟩ = some (.slice q.NA q.names.length q.nc) := HRQ.cell rfl
   have hlr := HRQ.lt
   have n0 := HNS.out w4 HB4.out
   clear HRQ
   by_cases he : re = 0
   ·subst he
    rw [errV_zero]
    have hb4 := HB4.out
    have how4 := HOW4.out
    go_wp2_with (first
     | (at_builtin; refine wpList_append_one colSlice' rfl _ _ rfl rfl rfl how4 hb4 (Nat.le_refl _) rfl (by intro u hu; simp at hu; rcases hu with rfl | rfl <;> rfl) (by omega) ?_; intro v1 wz hownz hbz _))
    go_roundw
    case rel => exact ⟨_, _, _, _, _, _, _, ⟨k + 1, by omega, by go_num, by rw [outs, colsCells_snoc, EF.out]; exact hownz, errs_next HN.out (by rw [EF.out])⟩, rfl, rfl, rfl, rfl, rfl, rfl, rfl⟩
    case measure => simp [intOf]; omega
   ·rw [errV_ne he]
    have HERR := Lib.hid ((colsErr_1 hlk HN.out (by rw [EF.out]; exact he)).trans (show (colsF1 q l k).2 = re by rw [EF.out]))
    have HNE := Lib.hid he
    have HBF := Lib.hid (below_step HB0.out HB4.out)
    clear he
    go_wp2_with fail
    go_ret2
    refine ⟨HBF.out, ?_⟩
    rw [HERR.out, if_pos HNE.out, errV_ne HNE.out]
    rfl
  ·obtain rfl : k = q.cols.length := by omega
   have HOW := Lib.hid hown
   have HRQ := HO0.out.keep hb
   have c10 : wr.cell? ⟨w.heap.size, 10, none⟩ = some (.slice q.GA q.group.length q.gc) := HRQ.cell rfl
   have hlr := HRQ.lt
   clear HRQ hb hown hlk
   go_wp2_with fail
   clear c10
   go_loopw [4, 49] (fun v i wr => ∃ k : Nat, k ≤ q.group.length ∧ i = .int .i64 k ∧ wr.ownsRow w0.heap.size 103 2 v (q.cols.length + k) (colsCells (outs (colsF1 q l) q.cols.length ++ outs (colsF2 q l) k)) ∧ Below w0.heap.size w0 wr ∧ errs (colsF2 q l) k = 0) (fun _ i _ => q.group.length - (intOf i).toNat)
   case atStart => exact ⟨0, Nat.zero_le _, rfl, by rw [outs, List.append_nil]; exact HOW.out, HBR.out, rfl⟩
   case round =>
    have HN1 := Lib.hid HN.out
    clear HN HOW HBR HSZ hlr
    obtain ⟨k, hk, rfl, hown, hb, hno⟩ := hrel
    have HN := Lib.hid hno
    have HBR := Lib.hid hb
    have HOW := Lib.hid hown
    clear hno
    by_cases hlk : k < q.group.length
    ·obtain ⟨g, o, s, hGA, hg, hs, d0⟩ := strAt (HQ.out.group.1.keep hb) hlk
     have HTK := Lib.hid (show Sees w0 q.GA k q.gc 1 (strCells (q.group.take k)) by rw [← strCells_take]; exact sees_take HQ.out.group.1 hk)
     have EF := Lib.hid (show colsF2 q l k = (⟨s, colType l (findCol l s)⟩, grpErr q l k s) by unfold colsF2; rw [hs])
     clear hs hown
     by_cases hf : 0 ≤ findCol l s
     ·have T := Lib.hid (rFind_some l s C p n wr (HC.out.keep hb) hf)
      obtain ⟨j, x, ej, hx, hxs⟩ := findCol_get hf
      rw [ej] at T
      clear hb
      go_wp2_with fail
      refine (T.out).mono ?_
      rintro e' w4 ⟨rfl, hb4⟩
      have HB4 := Lib.hid (HBR.out.trans (hb4.mono HBR.out.size))
      have HOW4 := Lib.hid (own_keep HOW.out hb4)
      clear hb4 d0
      have HRQ := HO0.out.keep HB4.out
      have c10 : w4.cell? ⟨w.heap.size, 10, none⟩ = some (.slice q.GA q.group.length q.gc) := HRQ.cell rfl
      have hlr := HRQ.lt
      have T2 := Lib.hid (contains_any q.GA k q.gc (q.group.take k) s w4 (HTK.out.keep HB4.out))
      obtain ⟨b, hb⟩ : ∃ b, Lib.containsS (q.group.take k) s = b := ⟨_, rfl⟩
      rw [hb, hGA] at T2
      have EG := Lib.hid (show grpErr q l k s = if b = true then 7 else 0 by unfold grpErr; rw [if_neg (by omega), hb])
      clear HRQ hb hf
      have hGN : q.GA ≠ none := by rw [hGA]; exact fun e => by cases e
      obtain ⟨gC, oC, x2, hCA, hgC, hx2, m0, m1⟩ := (HC.out.keep HB4.out).at_ (k := j) (by have := (List.getElem?_eq_some_iff.1 hx).1; have := HC.out.1; omega)
      rw [hx] at hx2
      injection hx2 with hx2
      subst hx2
      have hjn : j < p := by have := (List.getElem?_eq_some_iff.1 hx).1; have := HC.out.1; omega
      have ECT := Lib.hid (show colType l (findCol l s) = x.type by rw [ej]; unfold colType; rw [show ((j : Int)).toNat = j by omega, hx])
      have HXS := Lib.hid hxs
      clear hx ej hxs
      go_wp2_with fail
      refine (T2.out).mono ?_
      rintro e' w5 ⟨rfl, rfl⟩
      cases b with
      | true =>
       have HERR := Lib.hid ((colsErr_2 HN1.out hlk HN.out (by rw [EF.out, EG.out]; show (if true = true then (7 : Int) else 0) ≠ 0; decide)).trans (show (colsF2 q l k).2 = 7 by rw [EF.out, EG.out]; rfl))
       have HBF := Lib.hid (below_step HB0.out HB4.out)
       go_wp2_with fail
       go_ret2
       refine ⟨HBF.out, ?_⟩
       rw [HERR.out, if_pos (by decide)]
       rfl
      | false =>
       have hb4 := HB4.out
       have how4 := HOW4.out
       go_wp2_with (first
        | (at_builtin; refine wpList_append_one colSlice' rfl _ _ rfl rfl rfl how4 hb4 (Nat.le_refl _) rfl (by intro u hu; simp at hu; rcases hu with rfl | rfl <;> rfl) (by omega) ?_; intro v1 wz hownz hbz _))
       go_roundw
       case rel => exact ⟨_, _, _, _, _, _, _, ⟨k + 1, by omega, by go_num, by rw [outs, ← List.append_assoc, colsCells_snoc, EF.out, ECT.out, ← HXS.out]; exact hownz, errs_next HN.out (by rw [EF.out, EG.out]; rfl)⟩, rfl, rfl, rfl, rfl, rfl, rfl, rfl⟩
       case measure => simp [intOf]; omega
     ·have T := Lib.hid (rFind_none l s C p n wr (HC.out.keep hb) (by omega))
      have HERR := Lib.hid ((colsErr_2 HN1.out hlk HN.out (by rw [EF.out]; show grpErr q l k s ≠ 0; unfold grpErr; rw [if_pos (by omega)]; decide)).trans (show (colsF2 q l k).2 = 5 by rw [EF.out]; show grpErr q l k s = 5; unfold grpErr; rw [if_pos (by omega)]))
      clear hb hf
      go_wp2_with fail
      refine (T.out).mono ?_
      rintro e' w4 ⟨rfl, hb4⟩
      have HBF := Lib.hid (below_step HB0.out (HBR.out.trans (hb4.mono HBR.out.size)))
      go_wp2_with fail
      go_ret2
      refine ⟨HBF.out, ?_⟩
      rw [HERR.out, if_pos (by decide)]
      rfl
    ·obtain rfl : k = q.group.length := by omega
     have HRQ := HO0.out.keep hb
     have c13 : wr.cell? ⟨w.heap.size, 13, none⟩ = some (.slice q.AA q.aggs.length q.ac) := HRQ.cell rfl
     have hlr := HRQ.lt
     clear HRQ hb hown hlk
     go_wp2_with fail
     clear c13
     go_loopw [4, 81] (fun v i wr => ∃ k : Nat, k ≤ q.aggs.length ∧ i = .int .i64 k ∧ wr.ownsRow w0.heap.size 103 2 v (q.cols.length + q.group.length + k) (colsCells (outs (colsF1 q l) q.cols.length ++ outs (colsF2 q l) q.group.length ++ outs (colsF3 q l) k)) ∧ Below w0.heap.size w0 wr ∧ errs (colsF3 q l) k = 0) (fun _ i _ => q.aggs.length - (intOf i).toNat)
     case atStart => exact ⟨0, Nat.zero_le _, rfl, by rw [outs, List.append_nil]; exact HOW.out, HBR.out, rfl⟩
     case round =>
      have HN2 := Lib.hid HN.out
      clear HN HOW HBR hlr
      obtain ⟨k, hk, rfl, hown, hb, hno⟩ := hrel
      have HN := Lib.hid hno
      have HBR := Lib.hid hb
      clear hno
      by_cases hlk : k < q.aggs.length
      ·obtain ⟨g, o, x, hA, hg, hx, a0, a1, a2, a3, a4, a5, a6, a7, a8⟩ := aggs_at (HQ.out.aggs.1.keep hb) hlk
       obtain ⟨w3, hw3⟩ : ∃ w3, wr.alloc (.cells #[.string x.what, .string x.of.op, .string x.of.name, .int .i64 x.of.val.type, .int .i64 x.of.val.n, .string x.of.val.s, .slice x.of.A x.of.args.length x.of.c, .int .i64 x.of.pos, .string x.name] 99) = w3 := ⟨_, rfl⟩
       have hb3 : Below wr.heap.size wr w3 := by rw [← hw3]; exact belowNew' _ _
       have ho3 : RowL w3 wr.heap.size 99 (aggXL x) := by rw [← hw3]; exact rowL_new wr _ (aggXL x)
       have k0 : w3.cell? ⟨wr.heap.size, 0, none⟩ = some (.string x.what) := ho3.cell rfl
       have k1 : w3.cell? ⟨wr.heap.size, 1, none⟩ = some (.string x.of.op) := ho3.cell rfl
       have k2 : w3.cell? ⟨wr.heap.size, 2, none⟩ = some (.string x.of.name) := ho3.cell rfl
       have k3 : w3.cell? ⟨wr.heap.size, 3, none⟩ = some (.int .i64 x.of.val.type) := ho3.cell rfl
       have k4 : w3.cell? ⟨wr.heap.size, 4, none⟩ = some (.int .i64 x.of.val.n) := ho3.cell rfl
       have k5 : w3.cell? ⟨wr.heap.size, 5, none⟩ = some (.string x.of.val.s) := ho3.cell rfl
       have k6 : w3.cell? ⟨wr.heap.size, 6, none⟩ = some (.slice x.of.A x.of.args.length x.of.c) := ho3.cell rfl
       have k7 : w3.cell? ⟨wr.heap.size, 7, none⟩ = some (.int .i64 x.of.pos) := ho3.cell rfl
       have k8 : w3.cell? ⟨wr.heap.size, 8, none⟩ = some (.string x.name) := ho3.cell rfl
       have hl3 := ho3.lt
       have HB3 := Lib.hid (hb.trans (hb3.mono hb.size))
       have T := Lib.hid (toldq_any x C p n l w3 (HTT.out.keep HB3.out) (HAA.out.keep HB3.out) (HC.out.keep HB3.out) HS.out (((HQ.out.aggsAt x (List.mem_of_getElem? hx)).see).keep HB3.out))
       have EF := Lib.hid (show colsF3 q l k = toldQ l x by unfold colsF3; rw [hx])
       unfold aggXV at T
       have HOW := Lib.hid (own_keep hown hb3)
       have HW3 := Lib.hid hw3
       clear hx hw3 hb3 ho3 hown hb
       generalize toldQ l x = r at T EF
       obtain ⟨⟨rs, rt⟩, re⟩ := r
       go_wp2_with (first | rw [HW3.out])
       refine (T.out).mono ?_
       rintro e' w4 ⟨rfl, hb4⟩
       unfold colV
       obtain ⟨w5, hw5⟩ : ∃ w5, w4.alloc (.cells #[.string rs, .int .i64 rt] 103) = w5 := ⟨_, rfl⟩
       have hb5 : Below w4.heap.size w4 w5 := by rw [← hw5]; exact belowNew' _ _
       have ho5 : RowL w5 w4.heap.size 103 (colCells ⟨rs, rt⟩) := by rw [← hw5]; exact rowL_new w4 _ (colCells ⟨rs, rt⟩)
       have m0 : w5.cell? ⟨w4.heap.size, 0, none⟩ = some (.string rs) := ho5.cell rfl
       have m1 : w5.cell? ⟨w4.heap.size, 1, none⟩ = some (.int .i64 rt) := ho5.cell rfl
       have hl5 := ho5.lt
       have HB4 := Lib.hid (HB3.out.trans ((below_step hb4 hb5).mono HB3.out.size))
       have HOW4 := Lib.hid (own_keep (own_keep HOW.out hb4) hb5)
       have HW5 := Lib.hid hw5
       clear hb4 hb5 hw5 ho5 k0 k1 k2 k3 k4 k5 k6 k7 k8 a0 a1 a2 a3 a4 a5 a6 a7 a8
       by_cases he : re = 0
       ·subst he
        rw [errV_zero]
        have hb4 := HB4.out
        have how4 := HOW4.out
        go_wp2_with (first
         | rw [HW5.out]
         | (at_builtin; refine wpList_append_one colSlice' rfl _ _ rfl rfl rfl how4 hb4 (Nat.le_refl _) rfl (by intro u hu; simp at hu; rcases hu with rfl | rfl <;> rfl) (by omega) ?_; intro v1 wz hownz hbz _))
        go_roundw
        case rel => exact ⟨_, _, _, _, _, _, ⟨k + 1, by omega, by go_num, by rw [outs, EF.out, ← List.append_assoc (outs (colsF2 q l) q.group.length), ← List.append_assoc (outs (colsF1 q l) q.cols.length), colsCells_snoc]; first | exact hownz | (rw [← List.append_assoc]; exact hownz) | (rw [List.append_assoc]; exact hownz), errs_next HN.out (by rw [EF.out])⟩, rfl, rfl, rfl, rfl, rfl, rfl⟩
        case measure => simp [intOf]; omega
       ·rw [errV_ne he]
        have HERR := Lib.hid ((colsErr_3 HN1.out HN2.out hlk HN.out (by rw [EF.out]; exact he)).trans (show (colsF3 q l k).2 = re by rw [EF.out]))
        have HNE := Lib.hid he
        have HBF := Lib.hid (below_step HB0.out HB4.out)
        clear he
        go_wp2_with (first | rw [HW5.out])
        go_ret2
        refine ⟨HBF.out, ?_⟩
        rw [HERR.out, if_pos HNE.out, errV_ne HNE.out]
        rfl
      ·obtain rfl : k = q.aggs.length := by omega
       have HERR := Lib.hid (colsErr_0 HN1.out HN2.out HN.out)
       have hlen : (colsOut q l).length = q.cols.length + q.group.length + q.aggs.length := by unfold colsOut; rw [List.length_append, List.length_append, outs_length, outs_length, outs_length]
       have hown' : wr.ownsRow w0.heap.size 103 2 u4 (colsOut q l).length (colsCells (colsOut q l)) := by rw [hlen]; exact hown
       obtain ⟨OA, oc, rfl, hsee⟩ := SeesIn.of_own (S := fun _ => True) hown' (fun _ _ _ => trivial)
       have HSC := Lib.hid (show SeesCols wr OA (colsOut q l).length oc (colsOut q l) from ⟨rfl, hsee.1⟩)
       have T := Lib.hid (rschema_any (colsOut q l) OA (colsOut q l).length oc wr HSC.out HFIT.out)
       clear hb hown hown' hsee
       generalize hLN : (colsOut q l).length = LN at T
       have HLN := Lib.hid hLN
       clear hLN
       go_wp2_with fail
       refine (T.out).mono ?_
       rintro e' w4 ⟨rfl, hb4⟩
       have HBF := Lib.hid (below_step HB0.out (HBR.out.trans (hb4.mono HBR.out.size)))
       have HSF := Lib.hid (HSC.out.keep hb4)
       go_wp2_with fail
       go_ret2
       refine ⟨HBF.out, ?_⟩
       rw [HERR.out, if_neg (by decide)]
       exact ⟨OA, oc, by rw [HLN.out]; rfl, HSF.out⟩
end Go.Proofs.YtpbbkpfaphjdoaaGreatDoor
