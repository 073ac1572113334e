/- Of the law EvalSides: the card Rows.EvalSidesCardSaid, without any condition: whatever the two expressions, the columns and the row, it returns true. -/
import Derived.Test.YtapbmknimejldaaDoorFrame
import Derived.Test.YtapbmknimejldaaDoorSidesLaw
import Derived.Test.YtapbmknimejldaaDoorCards
import Derived.Test.YtapbmknimejldaaDoorTie
import Derived.Test.YtapbmknimejldaaDoorOpenEx
import Derived.Test.YtapbmknimejldaaDoorOpenCols
import Derived.LaidLaws
import Derived.LaidMore
import Derived.LaidHandle
import Derived.Stop.Joined
import Derived.SevenTiedAt
import Derived.Deep.DeepWitnessRowRef
import Derived.Deep.DeepHandedRow
import Derived.BigQuiet
namespace Go.Proofs.YtapbmknimejldaaDoor.evalSides
open Go.ChangeShapes Go.WideShapes Go.ChangeAt Go.RowKit

/-- A block of the call's own. -/
def At (w : World) (b : Nat) (cs : Array Value) (t : TypeId) : Prop := w.heap[b]? = some (.cells cs t (0, 0))
theorem At.keep {w w' : World} {b : Nat} {cs : Array Value} {t : TypeId} (h : At w b cs t) (hb : Below w.heap.size w w') : At w' b cs t := (hb.block b (Array.getElem?_eq_some_iff.1 h).1).trans h
theorem At.cell {w : World} {b : Nat} {cs : Array Value} {t : TypeId} (h : At w b cs t) (j : Nat) (u : Value) (hu : cs[j]? = some u) : w.cell? ⟨b, j, none⟩ = some u := by
  rw [cell_of_row _ _ _ _ _ _ h]; exact hu
theorem at_new (w : World) (cs : Array Value) (t : TypeId) : At (w.alloc (.cells cs t)) w.heap.size cs t := heap_alloc_new w _
theorem sees_new (w : World) (cs : List Value) (t : TypeId) (n size : Nat) (h : cs.length = n * size) (hn : n ≤ maxLen) : Sees (w.alloc (.cells cs.toArray t)) (some ⟨w.heap.size, 0, none⟩) n n size cs := by
  refine ⟨h, Nat.le_refl _, hn, (fun e => by cases e), fun _ => ⟨_, _, rfl, by simp, fun j u hu => ?_⟩⟩
  rw [Nat.zero_add, cell_of_row _ _ _ _ _ _ (heap_alloc_new w _)]
  simpa using hu
theorem below_new (w : World) (cs : Array Value) (t : TypeId) : Below w.heap.size w (w.alloc (.cells cs t)) := (Below.refl _ _).alloc (Nat.le_refl _) _
theorem seesOp (w : World) (op : ByteArray) (l : List Ex) (hop : op.size ≤ maxLen) (hl : ∀ x ∈ l, SeesEx w x) (hn : l.length ≤ maxLen) :
    SeesEx (w.alloc (.cells (exsCells l).toArray 44)) (opE op (some ⟨w.heap.size, 0, none⟩) l.length l) :=
  .mk (sees_new w _ _ _ _ (exsCells_length l) hn) hop (Nat.zero_le _) ⟨show fits 0 by decide, show fits 0 by decide, Nat.zero_le _⟩ (show fits 0 by decide) (fun x hx => (hl x hx).keep (below_new w _ _))
theorem in1 {w : World} {x : Ex} (hx : SeesEx w x) : ∀ z ∈ [x], SeesEx w z := by intro z hz; simp at hz; subst hz; exact hx
theorem in2 {w : World} {x y : Ex} (hx : SeesEx w x) (hy : SeesEx w y) : ∀ z ∈ [x, y], SeesEx w z := by intro z hz; simp at hz; rcases hz with rfl | rfl; exact hx; exact hy
theorem in3 {w : World} {x y z : Ex} (hx : SeesEx w x) (hy : SeesEx w y) (hz : SeesEx w z) : ∀ u ∈ [x, y, z], SeesEx w u := by intro u hu; simp at hu; rcases hu with rfl | rfl | rfl; exact hx; exact hy; exact hz
/-- What stays all along. -/
structure St (a b : Ex) (C R : Option Addr) (p q y s : Nat) (cols : List Col) (r : List Val) (ba bb bY bN : Nat) (W w : World) : Prop where
  ta : At w ba #[.string a.op, .string a.name, .int .i64 a.val.type, .int .i64 a.val.n, .string a.val.s, .slice a.A a.args.length a.c, .int .i64 a.pos] 44
  tb : At w bb #[.string b.op, .string b.name, .int .i64 b.val.type, .int .i64 b.val.n, .string b.val.s, .slice b.A b.args.length b.c, .int .i64 b.pos] 44
  ty : At w bY #[.string ⟨#[118, 97, 108]⟩, .string ⟨#[]⟩, .int .i64 2, .int .i64 1, .string ⟨#[]⟩, .slice none 0 0, .int .i64 0] 44
  tn : At w bN #[.string ⟨#[118, 97, 108]⟩, .string ⟨#[]⟩, .int .i64 2, .int .i64 0, .string ⟨#[]⟩, .slice none 0 0, .int .i64 0] 44
  bl : Below W.heap.size W w
  T : Tables w
  C : SeesCols w C p q cols
  R : SeesVals w R y s r
  sa : SeesEx w a
  sb : SeesEx w b
theorem St.keep {a b : Ex} {C R : Option Addr} {p q y s : Nat} {cols : List Col} {r : List Val} {ba bb bY bN : Nat} {W w w' : World} (h : St a b C R p q y s cols r ba bb bY bN W w) (hb : Below w.heap.size w w') :
    St a b C R p q y s cols r ba bb bY bN W w' := ⟨h.ta.keep hb, h.tb.keep hb, h.ty.keep hb, h.tn.keep hb, below_step h.bl hb, h.T.keep hb, h.C.keep hb, h.R.keep hb, h.sa.keep hb, h.sb.keep hb⟩
theorem At.free {w : World} {b : Nat} {cs : Array Value} {t : TypeId} (h : At w b cs t) (j : Nat) : w.frozen? ⟨b, j, none⟩ = false := by
  unfold World.frozen?; rw [show w.heap[b]? = _ from h]; simp
theorem At.self {w : World} {b : Nat} {cs : Array Value} {t : TypeId} (h : At w b cs t) (j : Nat) (u : Value) (hu : cs[j]? = some u) : w.setCell ⟨b, j, none⟩ u = w := by
  have hs := heap_setCell_same w b j cs t u h
  have e : (w.setCell ⟨b, j, none⟩ u).heap = w.heap := by
    apply Array.ext_getElem?
    intro i
    by_cases hi : i = b
    · subst hi
      rw [hs, show w.heap[i]? = _ from h]
      congr 2
      apply Array.ext_getElem?
      intro k
      rw [Array.getElem?_setIfInBounds]
      split
      · rename_i hk
        subst hk
        rw [hu, if_pos (Array.getElem?_eq_some_iff.1 hu).1]
      · rfl
    · exact heap_setCell_other _ _ _ _ hi
  rw [show w.setCell ⟨b, j, none⟩ u = { w with heap := (w.setCell ⟨b, j, none⟩ u).heap } from rfl, e]
theorem self3 {w : World} {b : Nat} (h : At w b #[.int .i64 0, .int .i64 0, .string ⟨#[]⟩] 33) :
    ((w.setCell ⟨b, 0, none⟩ (.int .i64 0)).setCell ⟨b, 1, none⟩ (.int .i64 0)).setCell ⟨b, 2, none⟩ (.string ⟨#[]⟩) = w := by
  rw [h.self 0 (.int .i64 0) rfl, h.self 1 (.int .i64 0) rfl, h.self 2 (.string ⟨#[]⟩) rfl]
def colsX : List Col := [⟨⟨#[120]⟩, 1⟩]
def rowX : List Val := [⟨1, 3, ⟨#[]⟩⟩]
theorem fact0 (A : Option Addr) (c : Nat) : evalR colsX rowX (opE ⟨#[110, 111, 116]⟩ A c [litE false]) = ⟨0, truthV true⟩ := by kernel_rfl

set_option maxHeartbeats 8000000 in
set_option maxRecDepth 100000 in
theorem walk (a b : Ex) (C R : Option Addr) (p q y s : Nat) (cols : List Col) (r : List Val) (w : World) (hT : Tables w) (hC : SeesCols w C p q cols) (hs : ∀ x ∈ cols, x.name.size ≤ maxLen) (hR : SeesVals w R y s r) (hw : ∀ x ∈ r, x.wf) (ha : SeesEx w a) (hb : SeesEx w b) :
    Calls Tryd.prog 9 #[exV a, exV b, .slice C p q, .slice R y s] w fun e w' => e = .returned (.bool true) ∧ Below w.heap.size w w' := by
  have HS := Lib.hid hs
  have HW := Lib.hid hw
  obtain ⟨wa, hwa⟩ : ∃ z, w.alloc (.cells #[.string a.op, .string a.name, .int .i64 a.val.type, .int .i64 a.val.n, .string a.val.s, .slice a.A a.args.length a.c, .int .i64 a.pos] 44) = z := ⟨_, rfl⟩
  have bwa : Below w.heap.size w wa := by rw [← hwa]; exact below_new _ _ _
  have Awa : At wa w.heap.size #[.string a.op, .string a.name, .int .i64 a.val.type, .int .i64 a.val.n, .string a.val.s, .slice a.A a.args.length a.c, .int .i64 a.pos] 44 := by rw [← hwa]; exact at_new _ _ _
  obtain ⟨wb, hwb⟩ : ∃ z, wa.alloc (.cells #[.string b.op, .string b.name, .int .i64 b.val.type, .int .i64 b.val.n, .string b.val.s, .slice b.A b.args.length b.c, .int .i64 b.pos] 44) = z := ⟨_, rfl⟩
  have bwb : Below wa.heap.size wa wb := by rw [← hwb]; exact below_new _ _ _
  have Awb : At wb wa.heap.size #[.string b.op, .string b.name, .int .i64 b.val.type, .int .i64 b.val.n, .string b.val.s, .slice b.A b.args.length b.c, .int .i64 b.pos] 44 := by rw [← hwb]; exact at_new _ _ _
  obtain ⟨wy, hwy⟩ : ∃ z, wb.alloc (.cells #[.string ⟨#[118, 97, 108]⟩, .string ⟨#[]⟩, .int .i64 2, .int .i64 1, .string ⟨#[]⟩, .slice none 0 0, .int .i64 0] 44) = z := ⟨_, rfl⟩
  have bwy : Below wb.heap.size wb wy := by rw [← hwy]; exact below_new _ _ _
  have Awy : At wy wb.heap.size #[.string ⟨#[118, 97, 108]⟩, .string ⟨#[]⟩, .int .i64 2, .int .i64 1, .string ⟨#[]⟩, .slice none 0 0, .int .i64 0] 44 := by rw [← hwy]; exact at_new _ _ _
  obtain ⟨wn, hwn⟩ : ∃ z, wy.alloc (.cells #[.string ⟨#[118, 97, 108]⟩, .string ⟨#[]⟩, .int .i64 2, .int .i64 0, .string ⟨#[]⟩, .slice none 0 0, .int .i64 0] 44) = z := ⟨_, rfl⟩
  have bwn : Below wy.heap.size wy wn := by rw [← hwn]; exact below_new _ _ _
  have Awn : At wn wy.heap.size #[.string ⟨#[118, 97, 108]⟩, .string ⟨#[]⟩, .int .i64 2, .int .i64 0, .string ⟨#[]⟩, .slice none 0 0, .int .i64 0] 44 := by rw [← hwn]; exact at_new _ _ _
  obtain ⟨wc, hwc⟩ : ∃ z, wn.alloc (.cells #[.string ⟨#[120]⟩, .int .i64 1] 46) = z := ⟨_, rfl⟩
  have bwc : Below wn.heap.size wn wc := by rw [← hwc]; exact below_new _ _ _
  have Awc : At wc wn.heap.size #[.string ⟨#[120]⟩, .int .i64 1] 46 := by rw [← hwc]; exact at_new _ _ _
  obtain ⟨wo, hwo⟩ : ∃ z, wc.alloc (.cells #[.string ⟨#[118, 97, 108]⟩, .string ⟨#[]⟩, .int .i64 2, .int .i64 0, .string ⟨#[]⟩, .slice none 0 0, .int .i64 0] 44) = z := ⟨_, rfl⟩
  have bwo : Below wc.heap.size wc wo := by rw [← hwo]; exact below_new _ _ _
  have Awo : At wo wc.heap.size #[.string ⟨#[118, 97, 108]⟩, .string ⟨#[]⟩, .int .i64 2, .int .i64 0, .string ⟨#[]⟩, .slice none 0 0, .int .i64 0] 44 := by rw [← hwo]; exact at_new _ _ _
  obtain ⟨wv, hwv⟩ : ∃ z, wo.alloc (.cells #[.int .i64 1, .int .i64 3, .string ⟨#[]⟩] 33) = z := ⟨_, rfl⟩
  have bwv : Below wo.heap.size wo wv := by rw [← hwv]; exact below_new _ _ _
  have Awv : At wv wo.heap.size #[.int .i64 1, .int .i64 3, .string ⟨#[]⟩] 33 := by rw [← hwv]; exact at_new _ _ _
  have bnv := below_step bwc (below_step bwo bwv)
  have byv := below_step bwn bnv
  have bbv := below_step bwy byv
  have bav := below_step bwb bbv
  have bv := below_step bwa bav
  have ST := Lib.hid (show St a b C R p q y s cols r w.heap.size wa.heap.size wb.heap.size wy.heap.size w wv from ⟨Awa.keep bav, Awb.keep bbv, Awy.keep byv, Awn.keep bnv, bv, hT.keep bv, hC.keep bv, hR.keep bv, ha.keep bv, hb.keep bv⟩)
  have so : SeesEx wo (opE ⟨#[110, 111, 116]⟩ (some ⟨wc.heap.size, 0, none⟩) 1 [litE false]) := by rw [← hwo]; exact seesOp wc ⟨#[110, 111, 116]⟩ [litE false] (show (3 : Nat) ≤ maxLen by decide) (in1 (lit_seen _ _)) (show (1 : Nat) ≤ maxLen by decide)
  have sc : SeesCols wc (some ⟨wn.heap.size, 0, none⟩) 1 1 colsX := ⟨rfl, by rw [← hwc]; exact sees_new wn (colsCells colsX) _ 1 2 rfl (by decide)⟩
  have sv : SeesVals wv (some ⟨wo.heap.size, 0, none⟩) 1 1 rowX := ⟨rfl, by rw [← hwv]; exact sees_new wo (valsCells rowX) _ 1 3 rfl (by decide)⟩
  have TN : Calls Tryd.prog 32 #[.agg #[.string ⟨#[110, 111, 116]⟩, .string ⟨#[]⟩, .int .i64 0, .int .i64 0, .string ⟨#[]⟩, .slice (some ⟨wc.heap.size, 0, none⟩) 1 1, .int .i64 0], .slice (some ⟨wn.heap.size, 0, none⟩) 1 1, .slice (some ⟨wo.heap.size, 0, none⟩) 1 1] wv _ :=
    eval_any (opE ⟨#[110, 111, 116]⟩ (some ⟨wc.heap.size, 0, none⟩) 1 [litE false]) _ _ 1 1 1 1 colsX rowX wv ST.out.T (sc.keep (below_step bwo bwv)) (by intro x hx; simp [colsX] at hx; subst hx; exact (show (1 : Nat) ≤ maxLen by decide)) sv (by intro x hx; simp [rowX] at hx; subst hx; exact ⟨show fits 1 by decide, show fits 3 by decide, Nat.zero_le _⟩) (so.keep bwv)
  rw [fact0] at TN
  have HTN := Lib.hid TN
  have wcn := Awn.keep bwc
  have fn0 := wcn.cell 0 _ rfl
  have fn1 := wcn.cell 1 _ rfl
  have fn2 := wcn.cell 2 _ rfl
  have fn3 := wcn.cell 3 _ rfl
  have fn4 := wcn.cell 4 _ rfl
  have fn5 := wcn.cell 5 _ rfl
  have fn6 := wcn.cell 6 _ rfl
  have Hwa := Lib.hid hwa
  clear hwa
  have Hwb := Lib.hid hwb
  clear hwb
  have Hwy := Lib.hid hwy
  clear hwy
  have Hwn := Lib.hid hwn
  clear hwn
  have Hwc := Lib.hid hwc
  clear hwc
  have Hwo := Lib.hid hwo
  clear hwo
  have Hwv := Lib.hid hwv
  clear hwv
  clear hT hC hs hR hw ha hb bnv byv bbv bav bv so sc sv TN wcn Awa bwa Awb bwb Awy bwy Awn bwn Awc bwc Awo bwo Awv bwv
  show Calls Tryd.prog 9 #[.agg #[.string a.op, .string a.name, .int .i64 a.val.type, .int .i64 a.val.n, .string a.val.s, .slice a.A a.args.length a.c, .int .i64 a.pos], .agg #[.string b.op, .string b.name, .int .i64 b.val.type, .int .i64 b.val.n, .string b.val.s, .slice b.A b.args.length b.c, .int .i64 b.pos], .slice C p q, .slice R y s] w _
  go_enter Tryd.func9, Tryd.ntmps9
  go_wp2_with (first | rw [Hwa.out] | rw [Hwb.out] | rw [Hwy.out] | rw [Hwn.out] | rw [Hwc.out] | rw [Hwo.out] | rw [Hwv.out])
  refine (HTN.out).mono ?_
  rintro e' w1 ⟨rfl, hb1⟩
  obtain ⟨x1, hx1⟩ : ∃ z, w1.alloc (.cells #[.int .i64 2, .int .i64 1, .string ⟨#[]⟩] 33) = z := ⟨_, rfl⟩
  have bx1 : Below w1.heap.size w1 x1 := by rw [← hx1]; exact below_new _ _ _
  have Ax1 : At x1 w1.heap.size #[.int .i64 2, .int .i64 1, .string ⟨#[]⟩] 33 := by rw [← hx1]; exact at_new _ _ _
  have ST1 := Lib.hid ((ST.out.keep hb1).keep bx1)
  have k1 := Ax1.cell 1 _ rfl
  have Hx1 := Lib.hid hx1
  clear hx1
  clear hb1 bx1 Ax1 HTN ST fn0 fn1 fn2 fn3 fn4 fn5 fn6
  rw [errV_zero]
  unfold valV truthV
  have TRC := Lib.hid (rowCheck_any cols r C R p q y s x1 ST1.out.C HS.out ST1.out.R)
  generalize hre : rowErr cols r = re at TRC
  by_cases hr0 : re = 0
  · subst hr0
    have HRE := Lib.hid hre
    clear hre
    go_wp2_with (first | rw [Hx1.out])
    refine (TRC.out).mono ?_
    rintro e' w2 ⟨rfl, hb2⟩
    rw [errV_zero]
    have ST2 := Lib.hid (ST1.out.keep hb2)
    have TSA := Lib.hid (tsize_any _ a (Nat.le_refl _) w2 ST2.out.sa)
    unfold exV at TSA
    clear hb2 k1 TRC
    have fa0 := ST2.out.ta.cell 0 _ rfl
    have fa1 := ST2.out.ta.cell 1 _ rfl
    have fa2 := ST2.out.ta.cell 2 _ rfl
    have fa3 := ST2.out.ta.cell 3 _ rfl
    have fa4 := ST2.out.ta.cell 4 _ rfl
    have fa5 := ST2.out.ta.cell 5 _ rfl
    have fa6 := ST2.out.ta.cell 6 _ rfl
    have fb0 := ST2.out.tb.cell 0 _ rfl
    have fb1 := ST2.out.tb.cell 1 _ rfl
    have fb2 := ST2.out.tb.cell 2 _ rfl
    have fb3 := ST2.out.tb.cell 3 _ rfl
    have fb4 := ST2.out.tb.cell 4 _ rfl
    have fb5 := ST2.out.tb.cell 5 _ rfl
    have fb6 := ST2.out.tb.cell 6 _ rfl
    by_cases hsa : 90 < exSize a
    · have ds : decide (90 < exSize a) = true := by simpa using hsa
      generalize exSize a = za at TSA ds
      clear hsa
      go_wp2_with fail
      refine (TSA.out).mono ?_
      rintro e' w3 ⟨rfl, hb3⟩
      have ST3 := Lib.hid (ST2.out.keep hb3)
      clear hb3 fa0 fa1 fa2 fa3 fa4 fa5 fa6 fb0 fb1 fb2 fb3 fb4 fb5 fb6
      go_wp2_with fail
      go_ret
      exact ⟨rfl, ST3.out.bl⟩
    have ds : decide (90 < exSize a) = false := by simpa using hsa
    clear hsa
    generalize exSize a = za at TSA ds
    go_wp2_with fail
    refine (TSA.out).mono ?_
    rintro e' w3 ⟨rfl, hb3⟩
    have ST3 := Lib.hid (ST2.out.keep hb3)
    have TSB := Lib.hid (tsize_any _ b (Nat.le_refl _) w3 ST3.out.sb)
    unfold exV at TSB
    clear hb3 TSA fa0 fa1 fa2 fa3 fa4 fa5 fa6 fb0 fb1 fb2 fb3 fb4 fb5 fb6
    have fa0 := ST3.out.ta.cell 0 _ rfl
    have fa1 := ST3.out.ta.cell 1 _ rfl
    have fa2 := ST3.out.ta.cell 2 _ rfl
    have fa3 := ST3.out.ta.cell 3 _ rfl
    have fa4 := ST3.out.ta.cell 4 _ rfl
    have fa5 := ST3.out.ta.cell 5 _ rfl
    have fa6 := ST3.out.ta.cell 6 _ rfl
    have fb0 := ST3.out.tb.cell 0 _ rfl
    have fb1 := ST3.out.tb.cell 1 _ rfl
    have fb2 := ST3.out.tb.cell 2 _ rfl
    have fb3 := ST3.out.tb.cell 3 _ rfl
    have fb4 := ST3.out.tb.cell 4 _ rfl
    have fb5 := ST3.out.tb.cell 5 _ rfl
    have fb6 := ST3.out.tb.cell 6 _ rfl
    by_cases hsb : 90 < exSize b
    · have ds2 : decide (90 < exSize b) = true := by simpa using hsb
      generalize exSize b = zb at TSB ds2
      clear hsb
      go_wp2_with fail
      refine (TSB.out).mono ?_
      rintro e' w4 ⟨rfl, hb4⟩
      have ST4 := Lib.hid (ST3.out.keep hb4)
      clear hb4 fa0 fa1 fa2 fa3 fa4 fa5 fa6 fb0 fb1 fb2 fb3 fb4 fb5 fb6
      go_wp2_with fail
      go_ret
      exact ⟨rfl, ST4.out.bl⟩
    have ds2 : decide (90 < exSize b) = false := by simpa using hsb
    clear hsb
    generalize exSize b = zb at TSB ds2
    go_wp2_with fail
    refine (TSB.out).mono ?_
    rintro e' w4 ⟨rfl, hb4⟩
    have ST4 := Lib.hid (ST3.out.keep hb4)
    have TA := Lib.hid (typeOf_any a C p q cols w4 ST4.out.T ST4.out.C HS.out ST4.out.sa)
    unfold exV at TA
    clear hb4 TSB fa0 fa1 fa2 fa3 fa4 fa5 fa6 fb0 fb1 fb2 fb3 fb4 fb5 fb6
    have fa0 := ST4.out.ta.cell 0 _ rfl
    have fa1 := ST4.out.ta.cell 1 _ rfl
    have fa2 := ST4.out.ta.cell 2 _ rfl
    have fa3 := ST4.out.ta.cell 3 _ rfl
    have fa4 := ST4.out.ta.cell 4 _ rfl
    have fa5 := ST4.out.ta.cell 5 _ rfl
    have fa6 := ST4.out.ta.cell 6 _ rfl
    have fb0 := ST4.out.tb.cell 0 _ rfl
    have fb1 := ST4.out.tb.cell 1 _ rfl
    have fb2 := ST4.out.tb.cell 2 _ rfl
    have fb3 := ST4.out.tb.cell 3 _ rfl
    have fb4 := ST4.out.tb.cell 4 _ rfl
    have fb5 := ST4.out.tb.cell 5 _ rfl
    have fb6 := ST4.out.tb.cell 6 _ rfl
    generalize hra : typeOf cols a = ra at TA
    have RA := Lib.hid hra
    clear hra
    obtain ⟨ta, ha0, pa⟩ := ra
    go_wp2_with fail
    clear ds ds2
    refine (TA.out).mono ?_
    rintro e' w5 ⟨rfl, hb5⟩
    obtain ⟨x5, hx5⟩ : ∃ z, w5.alloc (.cells #[.int .i64 ha0, .int .i64 pa] 40) = z := ⟨_, rfl⟩
    have bx5 : Below w5.heap.size w5 x5 := by rw [← hx5]; exact below_new _ _ _
    have Ax5 : At x5 w5.heap.size #[.int .i64 ha0, .int .i64 pa] 40 := by rw [← hx5]; exact at_new _ _ _
    have ST5 := Lib.hid ((ST4.out.keep hb5).keep bx5)
    have A5 := Lib.hid Ax5
    have Hx5 := Lib.hid hx5
    clear hx5
    have TB := Lib.hid (typeOf_any b C p q cols x5 ST5.out.T ST5.out.C HS.out ST5.out.sb)
    unfold exV at TB
    clear hb5 bx5 Ax5 TA fa0 fa1 fa2 fa3 fa4 fa5 fa6 fb0 fb1 fb2 fb3 fb4 fb5 fb6
    have fa0 := ST5.out.ta.cell 0 _ rfl
    have fa1 := ST5.out.ta.cell 1 _ rfl
    have fa2 := ST5.out.ta.cell 2 _ rfl
    have fa3 := ST5.out.ta.cell 3 _ rfl
    have fa4 := ST5.out.ta.cell 4 _ rfl
    have fa5 := ST5.out.ta.cell 5 _ rfl
    have fa6 := ST5.out.ta.cell 6 _ rfl
    have fb0 := ST5.out.tb.cell 0 _ rfl
    have fb1 := ST5.out.tb.cell 1 _ rfl
    have fb2 := ST5.out.tb.cell 2 _ rfl
    have fb3 := ST5.out.tb.cell 3 _ rfl
    have fb4 := ST5.out.tb.cell 4 _ rfl
    have fb5 := ST5.out.tb.cell 5 _ rfl
    have fb6 := ST5.out.tb.cell 6 _ rfl
    generalize hrb : typeOf cols b = rb at TB
    have RB := Lib.hid hrb
    clear hrb
    obtain ⟨tb, hb0, pb⟩ := rb
    unfold resV
    go_wp2_with (first | rw [Hx5.out])
    refine (TB.out).mono ?_
    rintro e' w6 ⟨rfl, hb6⟩
    obtain ⟨x6, hx6⟩ : ∃ z, w6.alloc (.cells #[.int .i64 hb0, .int .i64 pb] 40) = z := ⟨_, rfl⟩
    have bx6 : Below w6.heap.size w6 x6 := by rw [← hx6]; exact below_new _ _ _
    have Ax6 : At x6 w6.heap.size #[.int .i64 hb0, .int .i64 pb] 40 := by rw [← hx6]; exact at_new _ _ _
    have ST6 := Lib.hid ((ST5.out.keep hb6).keep bx6)
    have k5 := ((A5.out.keep hb6).keep bx6).cell 0 _ rfl
    have k6 := Ax6.cell 0 _ rfl
    have Hx6 := Lib.hid hx6
    clear hx6
    clear hb6 bx6 Ax6 TB A5 Hx5 fa0 fa1 fa2 fa3 fa4 fa5 fa6 fb0 fb1 fb2 fb3 fb4 fb5 fb6
    unfold resV
    by_cases h1 : ha0 = 0
    rotate_left
    · have e1 : (ha0 != 0) = true := by simpa using h1
      clear h1
      go_wp2_with (first | rw [Hx6.out])
      go_ret
      exact ⟨rfl, ST6.out.bl⟩
    subst h1
    by_cases h2 : hb0 = 0
    rotate_left
    · have e1 : (hb0 != 0) = true := by simpa using h2
      clear h2
      go_wp2_with (first | rw [Hx6.out])
      go_ret
      exact ⟨rfl, ST6.out.bl⟩
    subst h2
    obtain ⟨w7, hw7⟩ : ∃ z, x6.alloc (.cells #[.string ⟨#[118, 97, 108]⟩, .string ⟨#[]⟩, .int .i64 2, .int .i64 1, .string ⟨#[]⟩, .slice none 0 0, .int .i64 0, .string a.op, .string a.name, .int .i64 a.val.type, .int .i64 a.val.n, .string a.val.s, .slice a.A a.args.length a.c, .int .i64 a.pos, .string b.op, .string b.name, .int .i64 b.val.type, .int .i64 b.val.n, .string b.val.s, .slice b.A b.args.length b.c, .int .i64 b.pos] 44) = z := ⟨_, rfl⟩
    have bw7 : Below x6.heap.size x6 w7 := by rw [← hw7]; exact below_new _ _ _
    have Aw7 : At w7 x6.heap.size #[.string ⟨#[118, 97, 108]⟩, .string ⟨#[]⟩, .int .i64 2, .int .i64 1, .string ⟨#[]⟩, .slice none 0 0, .int .i64 0, .string a.op, .string a.name, .int .i64 a.val.type, .int .i64 a.val.n, .string a.val.s, .slice a.A a.args.length a.c, .int .i64 a.pos, .string b.op, .string b.name, .int .i64 b.val.type, .int .i64 b.val.n, .string b.val.s, .slice b.A b.args.length b.c, .int .i64 b.pos] 44 := by rw [← hw7]; exact at_new _ _ _
    have Sw7 : SeesEx w7 (opE ⟨#[105, 102]⟩ (some ⟨x6.heap.size, 0, none⟩) 3 [litE true, a, b]) := by rw [← hw7]; exact seesOp x6 ⟨#[105, 102]⟩ [litE true, a, b] (show (2 : Nat) ≤ maxLen by decide) (in3 (lit_seen _ _) ST6.out.sa ST6.out.sb) (show (3 : Nat) ≤ maxLen by decide)
    have ST7 := Lib.hid (ST6.out.keep bw7)
    have TC : Calls Tryd.prog 15 #[.agg #[.string ⟨#[105, 102]⟩, .string ⟨#[]⟩, .int .i64 0, .int .i64 0, .string ⟨#[]⟩, .slice (some ⟨x6.heap.size, 0, none⟩) 3 3, .int .i64 0]] w7 _ := check_any (opE ⟨#[105, 102]⟩ (some ⟨x6.heap.size, 0, none⟩) 3 [litE true, a, b]) w7 ST7.out.T.lev ST7.out.T.words Sw7
    generalize hck : checkErr (opE ⟨#[105, 102]⟩ (some ⟨x6.heap.size, 0, none⟩) 3 [litE true, a, b]) = ck at TC
    have HTC := Lib.hid TC
    have Hw7 := Lib.hid hw7
    clear hw7
    clear TC Sw7 Aw7 bw7
    have fy0 := ST6.out.ty.cell 0 _ rfl
    have fy1 := ST6.out.ty.cell 1 _ rfl
    have fy2 := ST6.out.ty.cell 2 _ rfl
    have fy3 := ST6.out.ty.cell 3 _ rfl
    have fy4 := ST6.out.ty.cell 4 _ rfl
    have fy5 := ST6.out.ty.cell 5 _ rfl
    have fy6 := ST6.out.ty.cell 6 _ rfl
    have fa0 := ST6.out.ta.cell 0 _ rfl
    have fa1 := ST6.out.ta.cell 1 _ rfl
    have fa2 := ST6.out.ta.cell 2 _ rfl
    have fa3 := ST6.out.ta.cell 3 _ rfl
    have fa4 := ST6.out.ta.cell 4 _ rfl
    have fa5 := ST6.out.ta.cell 5 _ rfl
    have fa6 := ST6.out.ta.cell 6 _ rfl
    have fb0 := ST6.out.tb.cell 0 _ rfl
    have fb1 := ST6.out.tb.cell 1 _ rfl
    have fb2 := ST6.out.tb.cell 2 _ rfl
    have fb3 := ST6.out.tb.cell 3 _ rfl
    have fb4 := ST6.out.tb.cell 4 _ rfl
    have fb5 := ST6.out.tb.cell 5 _ rfl
    have fb6 := ST6.out.tb.cell 6 _ rfl
    by_cases h3 : ck = 0
    rotate_left
    · have H9 := Lib.hid (errV_ne h3)
      clear h3 hck
      go_wp2_with (first | rw [Hx6.out] | rw [Hw7.out])
      refine (HTC.out).mono ?_
      rintro e' w8 ⟨rfl, hb8⟩
      rw [H9.out]
      have ST8 := Lib.hid (ST7.out.keep hb8)
      clear hb8 fy0 fy1 fy2 fy3 fy4 fy5 fy6 fa0 fa1 fa2 fa3 fa4 fa5 fa6 fb0 fb1 fb2 fb3 fb4 fb5 fb6
      go_wp2_with fail
      go_ret
      exact ⟨rfl, ST8.out.bl⟩
    subst h3
    have POK := Lib.hid (part_of_if hck (by rw [RA.out]) (by rw [RB.out]))
    clear hck
    have TOA := Lib.hid (typeOf_ok (cols := cols) (e := a) (by rw [RA.out]))
    have TOB := Lib.hid (typeOf_ok (cols := cols) (e := b) (by rw [RB.out]))
    have TTA := Lib.hid (show (ofE cols a).t = ta by rw [← TOA.out.2.2.2.2, RA.out])
    have TTB := Lib.hid (show (ofE cols b).t = tb by rw [← TOB.out.2.2.2.2, RB.out])
    have SCH := Lib.hid TOA.out.2.2.2.1
    have ROK := Lib.hid (rowErr_ok HRE.out HW.out).2
    have EVA := Lib.hid (ev_sound ROK.out _ a (Nat.le_refl _) _ ST7.out.sa TOA.out.1 TOA.out.2.1)
    have EVB := Lib.hid (ev_sound ROK.out _ b (Nat.le_refl _) _ ST7.out.sb TOB.out.1 TOB.out.2.1)
    have EA := Lib.hid (show evalR cols r a = evE cols r a by unfold evalR; rw [if_neg (by rw [RA.out]; simp), if_neg (by rw [HRE.out]; decide)])
    have EB := Lib.hid (show evalR cols r b = evE cols r b by unfold evalR; rw [if_neg (by rw [RB.out]; simp), if_neg (by rw [HRE.out]; decide)])
    go_wp2_with (first | rw [Hx6.out] | rw [Hw7.out])
    refine (HTC.out).mono ?_
    rintro e' w8 ⟨rfl, hb8⟩
    rw [errV_zero]
    have ST8 := Lib.hid (ST7.out.keep hb8)
    clear hb8 k5 k6 HTC fy0 fy1 fy2 fy3 fy4 fy5 fy6 fa0 fa1 fa2 fa3 fa4 fa5 fa6 fb0 fb1 fb2 fb3 fb4 fb5 fb6
    have TE := Lib.hid (eval_any a C R p q y s cols r w8 ST8.out.T ST8.out.C HS.out ST8.out.R HW.out ST8.out.sa)
    unfold exV at TE
    rw [EA.out] at TE
    have fa0 := ST8.out.ta.cell 0 _ rfl
    have fa1 := ST8.out.ta.cell 1 _ rfl
    have fa2 := ST8.out.ta.cell 2 _ rfl
    have fa3 := ST8.out.ta.cell 3 _ rfl
    have fa4 := ST8.out.ta.cell 4 _ rfl
    have fa5 := ST8.out.ta.cell 5 _ rfl
    have fa6 := ST8.out.ta.cell 6 _ rfl
    generalize hea : evE cols r a = xa at TE
    have XA := Lib.hid hea
    clear hea
    obtain ⟨ak, av⟩ := xa
    go_wp2_with fail
    refine (TE.out).mono ?_
    rintro e' v9 ⟨rfl, hb9⟩
    obtain ⟨z9, hz9⟩ : ∃ z, v9.alloc (.cells #[.int .i64 av.type, .int .i64 av.n, .string av.s] 33) = z := ⟨_, rfl⟩
    have bz9 : Below v9.heap.size v9 z9 := by rw [← hz9]; exact below_new _ _ _
    have Az9 : At z9 v9.heap.size #[.int .i64 av.type, .int .i64 av.n, .string av.s] 33 := by rw [← hz9]; exact at_new _ _ _
    have ST9 := Lib.hid ((ST8.out.keep hb9).keep bz9)
    have LV9 := Lib.hid Az9
    have Hz9 := Lib.hid hz9
    clear hz9
    clear hb9 bz9 Az9 TE fa0 fa1 fa2 fa3 fa4 fa5 fa6
    have TE := Lib.hid (eval_any b C R p q y s cols r z9 ST9.out.T ST9.out.C HS.out ST9.out.R HW.out ST9.out.sb)
    unfold exV at TE
    rw [EB.out] at TE
    have fb0 := ST9.out.tb.cell 0 _ rfl
    have fb1 := ST9.out.tb.cell 1 _ rfl
    have fb2 := ST9.out.tb.cell 2 _ rfl
    have fb3 := ST9.out.tb.cell 3 _ rfl
    have fb4 := ST9.out.tb.cell 4 _ rfl
    have fb5 := ST9.out.tb.cell 5 _ rfl
    have fb6 := ST9.out.tb.cell 6 _ rfl
    generalize heb : evE cols r b = xb at TE
    have XB := Lib.hid heb
    clear heb
    obtain ⟨bk, bv⟩ := xb
    unfold valV
    go_wp2_with (first | rw [Hz9.out])
    refine (TE.out).mono ?_
    rintro e' v10 ⟨rfl, hb10⟩
    obtain ⟨z10, hz10⟩ : ∃ z, v10.alloc (.cells #[.int .i64 bv.type, .int .i64 bv.n, .string bv.s] 33) = z := ⟨_, rfl⟩
    have bz10 : Below v10.heap.size v10 z10 := by rw [← hz10]; exact below_new _ _ _
    have Az10 : At z10 v10.heap.size #[.int .i64 bv.type, .int .i64 bv.n, .string bv.s] 33 := by rw [← hz10]; exact at_new _ _ _
    have ST10 := Lib.hid ((ST9.out.keep hb10).keep bz10)
    have LV10 := Lib.hid ((LV9.out.keep hb10).keep bz10)
    have LW10 := Lib.hid Az10
    have Hz10 := Lib.hid hz10
    clear hz10
    clear hb10 bz10 Az10 TE Hz9 fb0 fb1 fb2 fb3 fb4 fb5 fb6
    unfold valV
    have HAK := Lib.hid (show ak = 0 ∨ ak = 9 by
      have h := EVA.out
      rw [XA.out] at h
      rcases h with h | h
      · exact Or.inl h.1
      · exact Or.inr h.1)
    have HBK := Lib.hid (show bk = 0 ∨ bk = 9 by
      have h := EVB.out
      rw [XB.out] at h
      rcases h with h | h
      · exact Or.inl h.1
      · exact Or.inr h.1)
    have e9 : errV 9 = .iface 38 (.int .i64 9) := errV_ne (by decide)
    have E9 := Lib.hid e9
    clear e9
    rcases HAK.out with hak | hak
    · subst hak
      rw [errV_zero]
      rcases HBK.out with hbk | hbk
      · subst hbk
        rw [errV_zero]
        by_cases htt : ta = tb
        rotate_left
        · have e1 : (ta == tb) = false := by simpa using htt
          clear htt
          by_cases ht2 : ta = 2
          rotate_left
          · have e2 : (ta != 2) = true := by simpa using ht2
            clear ht2
            go_wp2_with (first | rw [Hz10.out])
            go_ret
            exact ⟨rfl, ST10.out.bl⟩
          have HT2 := Lib.hid (TTA.out.trans ht2)
          subst ht2
          obtain ⟨y30, hy30⟩ : ∃ z, z10.alloc (.cells #[.string ⟨#[118, 97, 108]⟩, .string ⟨#[]⟩, .int .i64 2, .int .i64 0, .string ⟨#[]⟩, .slice none 0 0, .int .i64 0, .string a.op, .string a.name, .int .i64 a.val.type, .int .i64 a.val.n, .string a.val.s, .slice a.A a.args.length a.c, .int .i64 a.pos] 44) = z := ⟨_, rfl⟩
          have by30 : Below z10.heap.size z10 y30 := by rw [← hy30]; exact below_new _ _ _
          have Ay30 : At y30 z10.heap.size #[.string ⟨#[118, 97, 108]⟩, .string ⟨#[]⟩, .int .i64 2, .int .i64 0, .string ⟨#[]⟩, .slice none 0 0, .int .i64 0, .string a.op, .string a.name, .int .i64 a.val.type, .int .i64 a.val.n, .string a.val.s, .slice a.A a.args.length a.c, .int .i64 a.pos] 44 := by rw [← hy30]; exact at_new _ _ _
          have Sy30 : SeesEx y30 (opE ⟨#[97, 110, 100]⟩ (some ⟨z10.heap.size, 0, none⟩) 2 [litE false, a]) := by rw [← hy30]; exact seesOp z10 ⟨#[97, 110, 100]⟩ [litE false, a] (show (3 : Nat) ≤ maxLen by decide) (in2 (lit_seen _ _) ST10.out.sa) (show (2 : Nat) ≤ maxLen by decide)
          have SY30 := Lib.hid (ST10.out.keep by30)
          have TE0 : Calls Tryd.prog 32 #[.agg #[.string ⟨#[97, 110, 100]⟩, .string ⟨#[]⟩, .int .i64 0, .int .i64 0, .string ⟨#[]⟩, .slice (some ⟨z10.heap.size, 0, none⟩) 2 2, .int .i64 0], .slice C p q, .slice R y s] y30 _ := eval_any (opE ⟨#[97, 110, 100]⟩ (some ⟨z10.heap.size, 0, none⟩) 2 [litE false, a]) C R p q y s cols r y30 SY30.out.T SY30.out.C HS.out SY30.out.R HW.out Sy30
          rw [and_no POK.out.1 (by have := POK.out.2.2; omega) SCH.out HRE.out HT2.out] at TE0
          have TE := Lib.hid TE0
          have Hy30 := Lib.hid hy30
          clear hy30
          have fa0 := ST10.out.ta.cell 0 _ rfl
          have fa1 := ST10.out.ta.cell 1 _ rfl
          have fa2 := ST10.out.ta.cell 2 _ rfl
          have fa3 := ST10.out.ta.cell 3 _ rfl
          have fa4 := ST10.out.ta.cell 4 _ rfl
          have fa5 := ST10.out.ta.cell 5 _ rfl
          have fa6 := ST10.out.ta.cell 6 _ rfl
          have fn0 := ST10.out.tn.cell 0 _ rfl
          have fn1 := ST10.out.tn.cell 1 _ rfl
          have fn2 := ST10.out.tn.cell 2 _ rfl
          have fn3 := ST10.out.tn.cell 3 _ rfl
          have fn4 := ST10.out.tn.cell 4 _ rfl
          have fn5 := ST10.out.tn.cell 5 _ rfl
          have fn6 := ST10.out.tn.cell 6 _ rfl
          have MV30 := Lib.hid (LV10.out.keep by30)
          clear TE0 Sy30 Ay30 by30
          go_wp2_with (first | rw [Hz10.out] | rw [Hy30.out])
          refine (TE.out).mono ?_
          rintro e' v30 ⟨rfl, hb30⟩
          obtain ⟨z30, hz30⟩ : ∃ z, v30.alloc (.cells #[.int .i64 2, .int .i64 0, .string ⟨#[]⟩] 33) = z := ⟨_, rfl⟩
          have bz30 : Below v30.heap.size v30 z30 := by rw [← hz30]; exact below_new _ _ _
          have Az30 : At z30 v30.heap.size #[.int .i64 2, .int .i64 0, .string ⟨#[]⟩] 33 := by rw [← hz30]; exact at_new _ _ _
          have ST30 := Lib.hid ((SY30.out.keep hb30).keep bz30)
          have LV30 := Lib.hid ((MV30.out.keep hb30).keep bz30)
          have LI30 := Lib.hid Az30
          have Hz30 := Lib.hid hz30
          clear hz30
          clear hb30 bz30 Az30 TE fa0 fa1 fa2 fa3 fa4 fa5 fa6 fn0 fn1 fn2 fn3 fn4 fn5 fn6 Hy30 SY30 MV30 LV10
          unfold valV
          rw [errV_zero]
          unfold truthV
          obtain ⟨y31, hy31⟩ : ∃ z, z30.alloc (.cells #[.string ⟨#[118, 97, 108]⟩, .string ⟨#[]⟩, .int .i64 2, .int .i64 1, .string ⟨#[]⟩, .slice none 0 0, .int .i64 0, .string a.op, .string a.name, .int .i64 a.val.type, .int .i64 a.val.n, .string a.val.s, .slice a.A a.args.length a.c, .int .i64 a.pos] 44) = z := ⟨_, rfl⟩
          have by31 : Below z30.heap.size z30 y31 := by rw [← hy31]; exact below_new _ _ _
          have Ay31 : At y31 z30.heap.size #[.string ⟨#[118, 97, 108]⟩, .string ⟨#[]⟩, .int .i64 2, .int .i64 1, .string ⟨#[]⟩, .slice none 0 0, .int .i64 0, .string a.op, .string a.name, .int .i64 a.val.type, .int .i64 a.val.n, .string a.val.s, .slice a.A a.args.length a.c, .int .i64 a.pos] 44 := by rw [← hy31]; exact at_new _ _ _
          have Sy31 : SeesEx y31 (opE ⟨#[111, 114]⟩ (some ⟨z30.heap.size, 0, none⟩) 2 [litE true, a]) := by rw [← hy31]; exact seesOp z30 ⟨#[111, 114]⟩ [litE true, a] (show (2 : Nat) ≤ maxLen by decide) (in2 (lit_seen _ _) ST30.out.sa) (show (2 : Nat) ≤ maxLen by decide)
          have SY31 := Lib.hid (ST30.out.keep by31)
          have TE0 : Calls Tryd.prog 32 #[.agg #[.string ⟨#[111, 114]⟩, .string ⟨#[]⟩, .int .i64 0, .int .i64 0, .string ⟨#[]⟩, .slice (some ⟨z30.heap.size, 0, none⟩) 2 2, .int .i64 0], .slice C p q, .slice R y s] y31 _ := eval_any (opE ⟨#[111, 114]⟩ (some ⟨z30.heap.size, 0, none⟩) 2 [litE true, a]) C R p q y s cols r y31 SY31.out.T SY31.out.C HS.out SY31.out.R HW.out Sy31
          rw [or_yes POK.out.1 (by have := POK.out.2.2; omega) SCH.out HRE.out HT2.out] at TE0
          have TE := Lib.hid TE0
          have Hy31 := Lib.hid hy31
          clear hy31
          have fa0 := ST30.out.ta.cell 0 _ rfl
          have fa1 := ST30.out.ta.cell 1 _ rfl
          have fa2 := ST30.out.ta.cell 2 _ rfl
          have fa3 := ST30.out.ta.cell 3 _ rfl
          have fa4 := ST30.out.ta.cell 4 _ rfl
          have fa5 := ST30.out.ta.cell 5 _ rfl
          have fa6 := ST30.out.ta.cell 6 _ rfl
          have fy0 := ST30.out.ty.cell 0 _ rfl
          have fy1 := ST30.out.ty.cell 1 _ rfl
          have fy2 := ST30.out.ty.cell 2 _ rfl
          have fy3 := ST30.out.ty.cell 3 _ rfl
          have fy4 := ST30.out.ty.cell 4 _ rfl
          have fy5 := ST30.out.ty.cell 5 _ rfl
          have fy6 := ST30.out.ty.cell 6 _ rfl
          have MV31 := Lib.hid (LV30.out.keep by31)
          have MI31 := Lib.hid (LI30.out.keep by31)
          clear TE0 Sy31 Ay31 by31
          go_wp2_with (first | rw [Hz30.out] | rw [Hy31.out])
          refine (TE.out).mono ?_
          rintro e' v31 ⟨rfl, hb31⟩
          obtain ⟨z31, hz31⟩ : ∃ z, v31.alloc (.cells #[.int .i64 2, .int .i64 1, .string ⟨#[]⟩] 33) = z := ⟨_, rfl⟩
          have bz31 : Below v31.heap.size v31 z31 := by rw [← hz31]; exact below_new _ _ _
          have Az31 : At z31 v31.heap.size #[.int .i64 2, .int .i64 1, .string ⟨#[]⟩] 33 := by rw [← hz31]; exact at_new _ _ _
          have ST31 := Lib.hid ((SY31.out.keep hb31).keep bz31)
          have LV31 := Lib.hid ((MV31.out.keep hb31).keep bz31)
          have LI31 := Lib.hid ((MI31.out.keep hb31).keep bz31)
          have LJ31 := Lib.hid Az31
          have Hz31 := Lib.hid hz31
          clear hz31
          clear hb31 bz31 Az31 TE fa0 fa1 fa2 fa3 fa4 fa5 fa6 fy0 fy1 fy2 fy3 fy4 fy5 fy6 Hy31 SY31 MV31 MI31 LV30 LI30
          unfold valV
          rw [errV_zero]
          unfold truthV
          obtain ⟨y32, hy32⟩ : ∃ z, z31.alloc (.cells #[.string ⟨#[118, 97, 108]⟩, .string ⟨#[]⟩, .int .i64 2, .int .i64 1, .string ⟨#[]⟩, .slice none 0 0, .int .i64 0, .string a.op, .string a.name, .int .i64 a.val.type, .int .i64 a.val.n, .string a.val.s, .slice a.A a.args.length a.c, .int .i64 a.pos] 44) = z := ⟨_, rfl⟩
          have by32 : Below z31.heap.size z31 y32 := by rw [← hy32]; exact below_new _ _ _
          have Ay32 : At y32 z31.heap.size #[.string ⟨#[118, 97, 108]⟩, .string ⟨#[]⟩, .int .i64 2, .int .i64 1, .string ⟨#[]⟩, .slice none 0 0, .int .i64 0, .string a.op, .string a.name, .int .i64 a.val.type, .int .i64 a.val.n, .string a.val.s, .slice a.A a.args.length a.c, .int .i64 a.pos] 44 := by rw [← hy32]; exact at_new _ _ _
          have Sy32 : SeesEx y32 (opE ⟨#[97, 110, 100]⟩ (some ⟨z31.heap.size, 0, none⟩) 2 [litE true, a]) := by rw [← hy32]; exact seesOp z31 ⟨#[97, 110, 100]⟩ [litE true, a] (show (3 : Nat) ≤ maxLen by decide) (in2 (lit_seen _ _) ST31.out.sa) (show (2 : Nat) ≤ maxLen by decide)
          have SY32 := Lib.hid (ST31.out.keep by32)
          have TE0 : Calls Tryd.prog 32 #[.agg #[.string ⟨#[97, 110, 100]⟩, .string ⟨#[]⟩, .int .i64 0, .int .i64 0, .string ⟨#[]⟩, .slice (some ⟨z31.heap.size, 0, none⟩) 2 2, .int .i64 0], .slice C p q, .slice R y s] y32 _ := eval_any (opE ⟨#[97, 110, 100]⟩ (some ⟨z31.heap.size, 0, none⟩) 2 [litE true, a]) C R p q y s cols r y32 SY32.out.T SY32.out.C HS.out SY32.out.R HW.out Sy32
          rw [and_yes POK.out.1 (by have := POK.out.2.2; omega) SCH.out HRE.out HT2.out EVA.out, XA.out] at TE0
          have TE := Lib.hid TE0
          have Hy32 := Lib.hid hy32
          clear hy32
          have fa0 := ST31.out.ta.cell 0 _ rfl
          have fa1 := ST31.out.ta.cell 1 _ rfl
          have fa2 := ST31.out.ta.cell 2 _ rfl
          have fa3 := ST31.out.ta.cell 3 _ rfl
          have fa4 := ST31.out.ta.cell 4 _ rfl
          have fa5 := ST31.out.ta.cell 5 _ rfl
          have fa6 := ST31.out.ta.cell 6 _ rfl
          have fy0 := ST31.out.ty.cell 0 _ rfl
          have fy1 := ST31.out.ty.cell 1 _ rfl
          have fy2 := ST31.out.ty.cell 2 _ rfl
          have fy3 := ST31.out.ty.cell 3 _ rfl
          have fy4 := ST31.out.ty.cell 4 _ rfl
          have fy5 := ST31.out.ty.cell 5 _ rfl
          have fy6 := ST31.out.ty.cell 6 _ rfl
          have MV32 := Lib.hid (LV31.out.keep by32)
          have MI32 := Lib.hid (LI31.out.keep by32)
          have MJ32 := Lib.hid (LJ31.out.keep by32)
          clear TE0 Sy32 Ay32 by32
          go_wp2_with (first | rw [Hz31.out] | rw [Hy32.out])
          refine (TE.out).mono ?_
          rintro e' v32 ⟨rfl, hb32⟩
          obtain ⟨z32, hz32⟩ : ∃ z, v32.alloc (.cells #[.int .i64 av.type, .int .i64 av.n, .string av.s] 33) = z := ⟨_, rfl⟩
          have bz32 : Below v32.heap.size v32 z32 := by rw [← hz32]; exact below_new _ _ _
          have Az32 : At z32 v32.heap.size #[.int .i64 av.type, .int .i64 av.n, .string av.s] 33 := by rw [← hz32]; exact at_new _ _ _
          have ST32 := Lib.hid ((SY32.out.keep hb32).keep bz32)
          have LV32 := Lib.hid ((MV32.out.keep hb32).keep bz32)
          have LI32 := Lib.hid ((MI32.out.keep hb32).keep bz32)
          have LJ32 := Lib.hid ((MJ32.out.keep hb32).keep bz32)
          have LK32 := Lib.hid Az32
          have Hz32 := Lib.hid hz32
          clear hz32
          clear hb32 bz32 Az32 TE fa0 fa1 fa2 fa3 fa4 fa5 fa6 fy0 fy1 fy2 fy3 fy4 fy5 fy6 Hy32 SY32 MV32 MI32 MJ32 LV31 LI31 LJ31
          unfold valV
          rw [errV_zero]
          have q1 := LI32.out.cell 1 _ rfl
          have q2 := LJ32.out.cell 1 _ rfl
          have qv0 := LV32.out.cell 0 _ rfl
          have qk0 := LK32.out.cell 0 _ rfl
          have qv1 := LV32.out.cell 1 _ rfl
          have qk1 := LK32.out.cell 1 _ rfl
          have qv2 := LV32.out.cell 2 _ rfl
          have qk2 := LK32.out.cell 2 _ rfl
          go_wp2_with (first | rw [Hz32.out])
          go_quiet (fail)
          have BLZ := Lib.hid (below_drewN ST32.out.bl nq)
          generalize z32.drewN nq = wz at BLZ ⊢
          go_wp2_with fail
          go_ret
          exact ⟨by simp, BLZ.out⟩
        subst htt
        have TAB := Lib.hid (TTA.out.trans TTB.out.symm)
        obtain ⟨y11, hy11⟩ : ∃ z, z10.alloc (.cells #[.string ⟨#[118, 97, 108]⟩, .string ⟨#[]⟩, .int .i64 2, .int .i64 1, .string ⟨#[]⟩, .slice none 0 0, .int .i64 0, .string a.op, .string a.name, .int .i64 a.val.type, .int .i64 a.val.n, .string a.val.s, .slice a.A a.args.length a.c, .int .i64 a.pos, .string b.op, .string b.name, .int .i64 b.val.type, .int .i64 b.val.n, .string b.val.s, .slice b.A b.args.length b.c, .int .i64 b.pos] 44) = z := ⟨_, rfl⟩
        have by11 : Below z10.heap.size z10 y11 := by rw [← hy11]; exact below_new _ _ _
        have Ay11 : At y11 z10.heap.size #[.string ⟨#[118, 97, 108]⟩, .string ⟨#[]⟩, .int .i64 2, .int .i64 1, .string ⟨#[]⟩, .slice none 0 0, .int .i64 0, .string a.op, .string a.name, .int .i64 a.val.type, .int .i64 a.val.n, .string a.val.s, .slice a.A a.args.length a.c, .int .i64 a.pos, .string b.op, .string b.name, .int .i64 b.val.type, .int .i64 b.val.n, .string b.val.s, .slice b.A b.args.length b.c, .int .i64 b.pos] 44 := by rw [← hy11]; exact at_new _ _ _
        have Sy11 : SeesEx y11 (opE ⟨#[105, 102]⟩ (some ⟨z10.heap.size, 0, none⟩) 3 [litE true, a, b]) := by rw [← hy11]; exact seesOp z10 ⟨#[105, 102]⟩ [litE true, a, b] (show (2 : Nat) ≤ maxLen by decide) (in3 (lit_seen _ _) ST10.out.sa ST10.out.sb) (show (3 : Nat) ≤ maxLen by decide)
        have SY11 := Lib.hid (ST10.out.keep by11)
        have TE0 : Calls Tryd.prog 32 #[.agg #[.string ⟨#[105, 102]⟩, .string ⟨#[]⟩, .int .i64 0, .int .i64 0, .string ⟨#[]⟩, .slice (some ⟨z10.heap.size, 0, none⟩) 3 3, .int .i64 0], .slice C p q, .slice R y s] y11 _ := eval_any (opE ⟨#[105, 102]⟩ (some ⟨z10.heap.size, 0, none⟩) 3 [litE true, a, b]) C R p q y s cols r y11 SY11.out.T SY11.out.C HS.out SY11.out.R HW.out Sy11
        rw [if_is true POK.out.1 POK.out.2.1 POK.out.2.2 SCH.out HRE.out TAB.out, if_pos rfl, XA.out] at TE0
        have TE := Lib.hid TE0
        have Hy11 := Lib.hid hy11
        clear hy11
        have fa0 := ST10.out.ta.cell 0 _ rfl
        have fa1 := ST10.out.ta.cell 1 _ rfl
        have fa2 := ST10.out.ta.cell 2 _ rfl
        have fa3 := ST10.out.ta.cell 3 _ rfl
        have fa4 := ST10.out.ta.cell 4 _ rfl
        have fa5 := ST10.out.ta.cell 5 _ rfl
        have fa6 := ST10.out.ta.cell 6 _ rfl
        have fb0 := ST10.out.tb.cell 0 _ rfl
        have fb1 := ST10.out.tb.cell 1 _ rfl
        have fb2 := ST10.out.tb.cell 2 _ rfl
        have fb3 := ST10.out.tb.cell 3 _ rfl
        have fb4 := ST10.out.tb.cell 4 _ rfl
        have fb5 := ST10.out.tb.cell 5 _ rfl
        have fb6 := ST10.out.tb.cell 6 _ rfl
        have fy0 := ST10.out.ty.cell 0 _ rfl
        have fy1 := ST10.out.ty.cell 1 _ rfl
        have fy2 := ST10.out.ty.cell 2 _ rfl
        have fy3 := ST10.out.ty.cell 3 _ rfl
        have fy4 := ST10.out.ty.cell 4 _ rfl
        have fy5 := ST10.out.ty.cell 5 _ rfl
        have fy6 := ST10.out.ty.cell 6 _ rfl
        have MV11 := Lib.hid (LV10.out.keep by11)
        have MW11 := Lib.hid (LW10.out.keep by11)
        clear TE0 Sy11 Ay11 by11
        go_wp2_with (first | rw [Hz10.out] | rw [Hy11.out])
        refine (TE.out).mono ?_
        rintro e' v11 ⟨rfl, hb11⟩
        obtain ⟨z11, hz11⟩ : ∃ z, v11.alloc (.cells #[.int .i64 av.type, .int .i64 av.n, .string av.s] 33) = z := ⟨_, rfl⟩
        have bz11 : Below v11.heap.size v11 z11 := by rw [← hz11]; exact below_new _ _ _
        have Az11 : At z11 v11.heap.size #[.int .i64 av.type, .int .i64 av.n, .string av.s] 33 := by rw [← hz11]; exact at_new _ _ _
        have ST11 := Lib.hid ((SY11.out.keep hb11).keep bz11)
        have LV11 := Lib.hid ((MV11.out.keep hb11).keep bz11)
        have LW11 := Lib.hid ((MW11.out.keep hb11).keep bz11)
        have LX11 := Lib.hid Az11
        have Hz11 := Lib.hid hz11
        clear hz11
        clear hb11 bz11 Az11 TE fa0 fa1 fa2 fa3 fa4 fa5 fa6 fb0 fb1 fb2 fb3 fb4 fb5 fb6 fy0 fy1 fy2 fy3 fy4 fy5 fy6 Hy11 SY11 MV11 MW11 LV10 LW10
        unfold valV
        rw [errV_zero]
        obtain ⟨y12, hy12⟩ : ∃ z, z11.alloc (.cells #[.string ⟨#[118, 97, 108]⟩, .string ⟨#[]⟩, .int .i64 2, .int .i64 0, .string ⟨#[]⟩, .slice none 0 0, .int .i64 0, .string a.op, .string a.name, .int .i64 a.val.type, .int .i64 a.val.n, .string a.val.s, .slice a.A a.args.length a.c, .int .i64 a.pos, .string b.op, .string b.name, .int .i64 b.val.type, .int .i64 b.val.n, .string b.val.s, .slice b.A b.args.length b.c, .int .i64 b.pos] 44) = z := ⟨_, rfl⟩
        have by12 : Below z11.heap.size z11 y12 := by rw [← hy12]; exact below_new _ _ _
        have Ay12 : At y12 z11.heap.size #[.string ⟨#[118, 97, 108]⟩, .string ⟨#[]⟩, .int .i64 2, .int .i64 0, .string ⟨#[]⟩, .slice none 0 0, .int .i64 0, .string a.op, .string a.name, .int .i64 a.val.type, .int .i64 a.val.n, .string a.val.s, .slice a.A a.args.length a.c, .int .i64 a.pos, .string b.op, .string b.name, .int .i64 b.val.type, .int .i64 b.val.n, .string b.val.s, .slice b.A b.args.length b.c, .int .i64 b.pos] 44 := by rw [← hy12]; exact at_new _ _ _
        have Sy12 : SeesEx y12 (opE ⟨#[105, 102]⟩ (some ⟨z11.heap.size, 0, none⟩) 3 [litE false, a, b]) := by rw [← hy12]; exact seesOp z11 ⟨#[105, 102]⟩ [litE false, a, b] (show (2 : Nat) ≤ maxLen by decide) (in3 (lit_seen _ _) ST11.out.sa ST11.out.sb) (show (3 : Nat) ≤ maxLen by decide)
        have SY12 := Lib.hid (ST11.out.keep by12)
        have TE0 : Calls Tryd.prog 32 #[.agg #[.string ⟨#[105, 102]⟩, .string ⟨#[]⟩, .int .i64 0, .int .i64 0, .string ⟨#[]⟩, .slice (some ⟨z11.heap.size, 0, none⟩) 3 3, .int .i64 0], .slice C p q, .slice R y s] y12 _ := eval_any (opE ⟨#[105, 102]⟩ (some ⟨z11.heap.size, 0, none⟩) 3 [litE false, a, b]) C R p q y s cols r y12 SY12.out.T SY12.out.C HS.out SY12.out.R HW.out Sy12
        rw [if_is false POK.out.1 POK.out.2.1 POK.out.2.2 SCH.out HRE.out TAB.out, if_neg (by decide), XB.out] at TE0
        have TE := Lib.hid TE0
        have Hy12 := Lib.hid hy12
        clear hy12
        have fa0 := ST11.out.ta.cell 0 _ rfl
        have fa1 := ST11.out.ta.cell 1 _ rfl
        have fa2 := ST11.out.ta.cell 2 _ rfl
        have fa3 := ST11.out.ta.cell 3 _ rfl
        have fa4 := ST11.out.ta.cell 4 _ rfl
        have fa5 := ST11.out.ta.cell 5 _ rfl
        have fa6 := ST11.out.ta.cell 6 _ rfl
        have fb0 := ST11.out.tb.cell 0 _ rfl
        have fb1 := ST11.out.tb.cell 1 _ rfl
        have fb2 := ST11.out.tb.cell 2 _ rfl
        have fb3 := ST11.out.tb.cell 3 _ rfl
        have fb4 := ST11.out.tb.cell 4 _ rfl
        have fb5 := ST11.out.tb.cell 5 _ rfl
        have fb6 := ST11.out.tb.cell 6 _ rfl
        have fn0 := ST11.out.tn.cell 0 _ rfl
        have fn1 := ST11.out.tn.cell 1 _ rfl
        have fn2 := ST11.out.tn.cell 2 _ rfl
        have fn3 := ST11.out.tn.cell 3 _ rfl
        have fn4 := ST11.out.tn.cell 4 _ rfl
        have fn5 := ST11.out.tn.cell 5 _ rfl
        have fn6 := ST11.out.tn.cell 6 _ rfl
        have MV12 := Lib.hid (LV11.out.keep by12)
        have MW12 := Lib.hid (LW11.out.keep by12)
        have MX12 := Lib.hid (LX11.out.keep by12)
        clear TE0 Sy12 Ay12 by12
        go_wp2_with (first | rw [Hz11.out] | rw [Hy12.out])
        refine (TE.out).mono ?_
        rintro e' v12 ⟨rfl, hb12⟩
        obtain ⟨z12, hz12⟩ : ∃ z, v12.alloc (.cells #[.int .i64 bv.type, .int .i64 bv.n, .string bv.s] 33) = z := ⟨_, rfl⟩
        have bz12 : Below v12.heap.size v12 z12 := by rw [← hz12]; exact below_new _ _ _
        have Az12 : At z12 v12.heap.size #[.int .i64 bv.type, .int .i64 bv.n, .string bv.s] 33 := by rw [← hz12]; exact at_new _ _ _
        have ST12 := Lib.hid ((SY12.out.keep hb12).keep bz12)
        have LV12 := Lib.hid ((MV12.out.keep hb12).keep bz12)
        have LW12 := Lib.hid ((MW12.out.keep hb12).keep bz12)
        have LX12 := Lib.hid ((MX12.out.keep hb12).keep bz12)
        have LY12 := Lib.hid Az12
        have Hz12 := Lib.hid hz12
        clear hz12
        clear hb12 bz12 Az12 TE fa0 fa1 fa2 fa3 fa4 fa5 fa6 fb0 fb1 fb2 fb3 fb4 fb5 fb6 fn0 fn1 fn2 fn3 fn4 fn5 fn6 Hy12 SY12 MV12 MW12 MX12 LV11 LW11 LX11
        unfold valV
        rw [errV_zero]
        have qv0 := LV12.out.cell 0 _ rfl
        have qv1 := LV12.out.cell 1 _ rfl
        have qv2 := LV12.out.cell 2 _ rfl
        have qw0 := LW12.out.cell 0 _ rfl
        have qw1 := LW12.out.cell 1 _ rfl
        have qw2 := LW12.out.cell 2 _ rfl
        have qx0 := LX12.out.cell 0 _ rfl
        have qx1 := LX12.out.cell 1 _ rfl
        have qx2 := LX12.out.cell 2 _ rfl
        have qy0 := LY12.out.cell 0 _ rfl
        have qy1 := LY12.out.cell 1 _ rfl
        have qy2 := LY12.out.cell 2 _ rfl
        go_wp2_with (first | rw [Hz12.out])
        go_quiet (fail)
        have ST13 := Lib.hid (ST12.out.keep (below_drewN (Below.refl _ _) nq))
        have LV13 := Lib.hid (LV12.out.keep (below_drewN (Below.refl _ _) nq))
        generalize z12.drewN nq = z13 at ST13 LV13 ⊢
        clear qv0 qv1 qv2 qw0 qw1 qw2 qx0 qx1 qx2 qy0 qy1 qy2 LV12 LW12 LX12 LY12
        have CMP := Lib.hid (fun A c A' c' => cmp_is (r := r) (A := A) (c := c) (A' := A') (c' := c') POK.out.1 POK.out.2.1 POK.out.2.2 SCH.out HRE.out TAB.out EVA.out EVB.out)
        obtain ⟨nn, CL, CG⟩ : ∃ nn : Bool, (∀ A c, evalR cols r (opE ⟨#[60]⟩ A c [a, b]) = ⟨0, truthV nn⟩) ∧ (∀ A c, evalR cols r (opE ⟨#[62, 61]⟩ A c [a, b]) = ⟨0, truthV (!nn)⟩) := by
          refine ⟨(evalR cols r (opE ⟨#[60]⟩ none 0 [a, b])).v.n == 1, fun A c => ?_, fun A c => ?_⟩
          · rcases CMP.out A c none 0 with ⟨_, _, n1, h1, _⟩ | ⟨h1, _⟩
            · rcases CMP.out none 0 none 0 with ⟨_, _, n2, h3, h4⟩ | ⟨h3, _⟩
              · rcases CMP.out A c none 0 with ⟨_, _, n3, h5, h6⟩ | ⟨h5, _⟩
                · have e : truthV (!n3) = truthV (!n2) := by have := h6.symm.trans h4; injection this
                  rw [h5, h3]
                  cases n2 <;> cases n3 <;> first | rfl | (exact absurd (congrArg Val.n e) (by decide))
                · rw [XA.out, XB.out] at h5; rcases h5 with h5 | h5 <;> simp at h5
              · rw [XA.out, XB.out] at h3; rcases h3 with h3 | h3 <;> simp at h3
            · rw [XA.out, XB.out] at h1; rcases h1 with h1 | h1 <;> simp at h1
          · rcases CMP.out none 0 A c with ⟨_, _, n2, h3, h4⟩ | ⟨h3, _⟩
            · rw [h3, h4]
              cases n2 <;> rfl
            · rw [XA.out, XB.out] at h3; rcases h3 with h3 | h3 <;> simp at h3
        have HCL := Lib.hid CL
        have HCG := Lib.hid CG
        clear CL CG CMP
        cases nn
        case false =>
          have HCL2 := Lib.hid HCL.out
          have HCG2 := Lib.hid HCG.out
          clear HCL HCG
          obtain ⟨y14, hy14⟩ : ∃ z, z13.alloc (.cells #[.string a.op, .string a.name, .int .i64 a.val.type, .int .i64 a.val.n, .string a.val.s, .slice a.A a.args.length a.c, .int .i64 a.pos, .string b.op, .string b.name, .int .i64 b.val.type, .int .i64 b.val.n, .string b.val.s, .slice b.A b.args.length b.c, .int .i64 b.pos] 44) = z := ⟨_, rfl⟩
          have by14 : Below z13.heap.size z13 y14 := by rw [← hy14]; exact below_new _ _ _
          have Ay14 : At y14 z13.heap.size #[.string a.op, .string a.name, .int .i64 a.val.type, .int .i64 a.val.n, .string a.val.s, .slice a.A a.args.length a.c, .int .i64 a.pos, .string b.op, .string b.name, .int .i64 b.val.type, .int .i64 b.val.n, .string b.val.s, .slice b.A b.args.length b.c, .int .i64 b.pos] 44 := by rw [← hy14]; exact at_new _ _ _
          have Sy14 : SeesEx y14 (opE ⟨#[60]⟩ (some ⟨z13.heap.size, 0, none⟩) 2 [a, b]) := by rw [← hy14]; exact seesOp z13 ⟨#[60]⟩ [a, b] (show (1 : Nat) ≤ maxLen by decide) (in2 ST13.out.sa ST13.out.sb) (show (2 : Nat) ≤ maxLen by decide)
          have SY14 := Lib.hid (ST13.out.keep by14)
          have TE0 : Calls Tryd.prog 32 #[.agg #[.string ⟨#[60]⟩, .string ⟨#[]⟩, .int .i64 0, .int .i64 0, .string ⟨#[]⟩, .slice (some ⟨z13.heap.size, 0, none⟩) 2 2, .int .i64 0], .slice C p q, .slice R y s] y14 _ := eval_any (opE ⟨#[60]⟩ (some ⟨z13.heap.size, 0, none⟩) 2 [a, b]) C R p q y s cols r y14 SY14.out.T SY14.out.C HS.out SY14.out.R HW.out Sy14
          rw [HCL2.out] at TE0
          have TE := Lib.hid TE0
          have Hy14 := Lib.hid hy14
          clear hy14
          have fa0 := ST13.out.ta.cell 0 _ rfl
          have fa1 := ST13.out.ta.cell 1 _ rfl
          have fa2 := ST13.out.ta.cell 2 _ rfl
          have fa3 := ST13.out.ta.cell 3 _ rfl
          have fa4 := ST13.out.ta.cell 4 _ rfl
          have fa5 := ST13.out.ta.cell 5 _ rfl
          have fa6 := ST13.out.ta.cell 6 _ rfl
          have fb0 := ST13.out.tb.cell 0 _ rfl
          have fb1 := ST13.out.tb.cell 1 _ rfl
          have fb2 := ST13.out.tb.cell 2 _ rfl
          have fb3 := ST13.out.tb.cell 3 _ rfl
          have fb4 := ST13.out.tb.cell 4 _ rfl
          have fb5 := ST13.out.tb.cell 5 _ rfl
          have fb6 := ST13.out.tb.cell 6 _ rfl
          have MV14 := Lib.hid (LV13.out.keep by14)
          clear TE0 Sy14 Ay14 by14
          go_wp2_with (first | rw [Hy14.out])
          refine (TE.out).mono ?_
          rintro e' v14 ⟨rfl, hb14⟩
          rw [errV_zero]
          unfold valV truthV
          obtain ⟨z14, hz14⟩ : ∃ z, v14.alloc (.cells #[.int .i64 2, .int .i64 0, .string ⟨#[]⟩] 33) = z := ⟨_, rfl⟩
          have bz14 : Below v14.heap.size v14 z14 := by rw [← hz14]; exact below_new _ _ _
          have Az14 : At z14 v14.heap.size #[.int .i64 2, .int .i64 0, .string ⟨#[]⟩] 33 := by rw [← hz14]; exact at_new _ _ _
          have ST14 := Lib.hid ((SY14.out.keep hb14).keep bz14)
          have LV14 := Lib.hid ((MV14.out.keep hb14).keep bz14)
          have LP14 := Lib.hid Az14
          have Hz14 := Lib.hid hz14
          clear hz14
          clear hb14 bz14 Az14 TE fa0 fa1 fa2 fa3 fa4 fa5 fa6 fb0 fb1 fb2 fb3 fb4 fb5 fb6 Hy14 SY14 MV14 LV13
          obtain ⟨y15, hy15⟩ : ∃ z, z14.alloc (.cells #[.string a.op, .string a.name, .int .i64 a.val.type, .int .i64 a.val.n, .string a.val.s, .slice a.A a.args.length a.c, .int .i64 a.pos, .string b.op, .string b.name, .int .i64 b.val.type, .int .i64 b.val.n, .string b.val.s, .slice b.A b.args.length b.c, .int .i64 b.pos] 44) = z := ⟨_, rfl⟩
          have by15 : Below z14.heap.size z14 y15 := by rw [← hy15]; exact below_new _ _ _
          have Ay15 : At y15 z14.heap.size #[.string a.op, .string a.name, .int .i64 a.val.type, .int .i64 a.val.n, .string a.val.s, .slice a.A a.args.length a.c, .int .i64 a.pos, .string b.op, .string b.name, .int .i64 b.val.type, .int .i64 b.val.n, .string b.val.s, .slice b.A b.args.length b.c, .int .i64 b.pos] 44 := by rw [← hy15]; exact at_new _ _ _
          have Sy15 : SeesEx y15 (opE ⟨#[62, 61]⟩ (some ⟨z14.heap.size, 0, none⟩) 2 [a, b]) := by rw [← hy15]; exact seesOp z14 ⟨#[62, 61]⟩ [a, b] (show (2 : Nat) ≤ maxLen by decide) (in2 ST14.out.sa ST14.out.sb) (show (2 : Nat) ≤ maxLen by decide)
          have SY15 := Lib.hid (ST14.out.keep by15)
          have TE0 : Calls Tryd.prog 32 #[.agg #[.string ⟨#[62, 61]⟩, .string ⟨#[]⟩, .int .i64 0, .int .i64 0, .string ⟨#[]⟩, .slice (some ⟨z14.heap.size, 0, none⟩) 2 2, .int .i64 0], .slice C p q, .slice R y s] y15 _ := eval_any (opE ⟨#[62, 61]⟩ (some ⟨z14.heap.size, 0, none⟩) 2 [a, b]) C R p q y s cols r y15 SY15.out.T SY15.out.C HS.out SY15.out.R HW.out Sy15
          rw [HCG2.out] at TE0
          have TE := Lib.hid TE0
          have Hy15 := Lib.hid hy15
          clear hy15
          have fa0 := ST14.out.ta.cell 0 _ rfl
          have fa1 := ST14.out.ta.cell 1 _ rfl
          have fa2 := ST14.out.ta.cell 2 _ rfl
          have fa3 := ST14.out.ta.cell 3 _ rfl
          have fa4 := ST14.out.ta.cell 4 _ rfl
          have fa5 := ST14.out.ta.cell 5 _ rfl
          have fa6 := ST14.out.ta.cell 6 _ rfl
          have fb0 := ST14.out.tb.cell 0 _ rfl
          have fb1 := ST14.out.tb.cell 1 _ rfl
          have fb2 := ST14.out.tb.cell 2 _ rfl
          have fb3 := ST14.out.tb.cell 3 _ rfl
          have fb4 := ST14.out.tb.cell 4 _ rfl
          have fb5 := ST14.out.tb.cell 5 _ rfl
          have fb6 := ST14.out.tb.cell 6 _ rfl
          have MV15 := Lib.hid (LV14.out.keep by15)
          have MP15 := Lib.hid (LP14.out.keep by15)
          clear TE0 Sy15 Ay15 by15
          go_wp2_with (first | rw [Hz14.out] | rw [Hy15.out])
          refine (TE.out).mono ?_
          rintro e' v15 ⟨rfl, hb15⟩
          rw [errV_zero]
          unfold valV truthV
          obtain ⟨z15, hz15⟩ : ∃ z, v15.alloc (.cells #[.int .i64 2, .int .i64 1, .string ⟨#[]⟩] 33) = z := ⟨_, rfl⟩
          have bz15 : Below v15.heap.size v15 z15 := by rw [← hz15]; exact below_new _ _ _
          have Az15 : At z15 v15.heap.size #[.int .i64 2, .int .i64 1, .string ⟨#[]⟩] 33 := by rw [← hz15]; exact at_new _ _ _
          have ST15 := Lib.hid ((SY15.out.keep hb15).keep bz15)
          have LV15 := Lib.hid ((MV15.out.keep hb15).keep bz15)
          have LP15 := Lib.hid ((MP15.out.keep hb15).keep bz15)
          have LQ15 := Lib.hid Az15
          have Hz15 := Lib.hid hz15
          clear hz15
          clear hb15 bz15 Az15 TE fa0 fa1 fa2 fa3 fa4 fa5 fa6 fb0 fb1 fb2 fb3 fb4 fb5 fb6 Hy15 SY15 MV15 MP15 LV14 LP14
          have qp := LP15.out.cell 1 _ rfl
          have qq := LQ15.out.cell 1 _ rfl
          go_wp2_with (first | rw [Hz15.out])
          go_quiet (fail)
          have ST16 := Lib.hid (ST15.out.keep (below_drewN (Below.refl _ _) nq))
          have LV16 := Lib.hid (LV15.out.keep (below_drewN (Below.refl _ _) nq))
          generalize z15.drewN nq = z16 at ST16 LV16 ⊢
          clear qp qq LP15 LQ15 LV15
          by_cases ht2 : ta = 2
          rotate_left
          · have e2 : (ta != 2) = true := by simpa using ht2
            clear ht2
            go_wp2_with fail
            go_ret
            exact ⟨rfl, ST16.out.bl⟩
          have HT2 := Lib.hid (TTA.out.trans ht2)
          subst ht2
          obtain ⟨y30, hy30⟩ : ∃ z, z16.alloc (.cells #[.string ⟨#[118, 97, 108]⟩, .string ⟨#[]⟩, .int .i64 2, .int .i64 0, .string ⟨#[]⟩, .slice none 0 0, .int .i64 0, .string a.op, .string a.name, .int .i64 a.val.type, .int .i64 a.val.n, .string a.val.s, .slice a.A a.args.length a.c, .int .i64 a.pos] 44) = z := ⟨_, rfl⟩
          have by30 : Below z16.heap.size z16 y30 := by rw [← hy30]; exact below_new _ _ _
          have Ay30 : At y30 z16.heap.size #[.string ⟨#[118, 97, 108]⟩, .string ⟨#[]⟩, .int .i64 2, .int .i64 0, .string ⟨#[]⟩, .slice none 0 0, .int .i64 0, .string a.op, .string a.name, .int .i64 a.val.type, .int .i64 a.val.n, .string a.val.s, .slice a.A a.args.length a.c, .int .i64 a.pos] 44 := by rw [← hy30]; exact at_new _ _ _
          have Sy30 : SeesEx y30 (opE ⟨#[97, 110, 100]⟩ (some ⟨z16.heap.size, 0, none⟩) 2 [litE false, a]) := by rw [← hy30]; exact seesOp z16 ⟨#[97, 110, 100]⟩ [litE false, a] (show (3 : Nat) ≤ maxLen by decide) (in2 (lit_seen _ _) ST16.out.sa) (show (2 : Nat) ≤ maxLen by decide)
          have SY30 := Lib.hid (ST16.out.keep by30)
          have TE0 : Calls Tryd.prog 32 #[.agg #[.string ⟨#[97, 110, 100]⟩, .string ⟨#[]⟩, .int .i64 0, .int .i64 0, .string ⟨#[]⟩, .slice (some ⟨z16.heap.size, 0, none⟩) 2 2, .int .i64 0], .slice C p q, .slice R y s] y30 _ := eval_any (opE ⟨#[97, 110, 100]⟩ (some ⟨z16.heap.size, 0, none⟩) 2 [litE false, a]) C R p q y s cols r y30 SY30.out.T SY30.out.C HS.out SY30.out.R HW.out Sy30
          rw [and_no POK.out.1 (by have := POK.out.2.2; omega) SCH.out HRE.out HT2.out] at TE0
          have TE := Lib.hid TE0
          have Hy30 := Lib.hid hy30
          clear hy30
          have fa0 := ST16.out.ta.cell 0 _ rfl
          have fa1 := ST16.out.ta.cell 1 _ rfl
          have fa2 := ST16.out.ta.cell 2 _ rfl
          have fa3 := ST16.out.ta.cell 3 _ rfl
          have fa4 := ST16.out.ta.cell 4 _ rfl
          have fa5 := ST16.out.ta.cell 5 _ rfl
          have fa6 := ST16.out.ta.cell 6 _ rfl
          have fn0 := ST16.out.tn.cell 0 _ rfl
          have fn1 := ST16.out.tn.cell 1 _ rfl
          have fn2 := ST16.out.tn.cell 2 _ rfl
          have fn3 := ST16.out.tn.cell 3 _ rfl
          have fn4 := ST16.out.tn.cell 4 _ rfl
          have fn5 := ST16.out.tn.cell 5 _ rfl
          have fn6 := ST16.out.tn.cell 6 _ rfl
          have MV30 := Lib.hid (LV16.out.keep by30)
          clear TE0 Sy30 Ay30 by30
          go_wp2_with (first | rw [Hy30.out])
          refine (TE.out).mono ?_
          rintro e' v30 ⟨rfl, hb30⟩
          obtain ⟨z30, hz30⟩ : ∃ z, v30.alloc (.cells #[.int .i64 2, .int .i64 0, .string ⟨#[]⟩] 33) = z := ⟨_, rfl⟩
          have bz30 : Below v30.heap.size v30 z30 := by rw [← hz30]; exact below_new _ _ _
          have Az30 : At z30 v30.heap.size #[.int .i64 2, .int .i64 0, .string ⟨#[]⟩] 33 := by rw [← hz30]; exact at_new _ _ _
          have ST30 := Lib.hid ((SY30.out.keep hb30).keep bz30)
          have LV30 := Lib.hid ((MV30.out.keep hb30).keep bz30)
          have LI30 := Lib.hid Az30
          have Hz30 := Lib.hid hz30
          clear hz30
          clear hb30 bz30 Az30 TE fa0 fa1 fa2 fa3 fa4 fa5 fa6 fn0 fn1 fn2 fn3 fn4 fn5 fn6 Hy30 SY30 MV30 LV16
          unfold valV
          rw [errV_zero]
          unfold truthV
          obtain ⟨y31, hy31⟩ : ∃ z, z30.alloc (.cells #[.string ⟨#[118, 97, 108]⟩, .string ⟨#[]⟩, .int .i64 2, .int .i64 1, .string ⟨#[]⟩, .slice none 0 0, .int .i64 0, .string a.op, .string a.name, .int .i64 a.val.type, .int .i64 a.val.n, .string a.val.s, .slice a.A a.args.length a.c, .int .i64 a.pos] 44) = z := ⟨_, rfl⟩
          have by31 : Below z30.heap.size z30 y31 := by rw [← hy31]; exact below_new _ _ _
          have Ay31 : At y31 z30.heap.size #[.string ⟨#[118, 97, 108]⟩, .string ⟨#[]⟩, .int .i64 2, .int .i64 1, .string ⟨#[]⟩, .slice none 0 0, .int .i64 0, .string a.op, .string a.name, .int .i64 a.val.type, .int .i64 a.val.n, .string a.val.s, .slice a.A a.args.length a.c, .int .i64 a.pos] 44 := by rw [← hy31]; exact at_new _ _ _
          have Sy31 : SeesEx y31 (opE ⟨#[111, 114]⟩ (some ⟨z30.heap.size, 0, none⟩) 2 [litE true, a]) := by rw [← hy31]; exact seesOp z30 ⟨#[111, 114]⟩ [litE true, a] (show (2 : Nat) ≤ maxLen by decide) (in2 (lit_seen _ _) ST30.out.sa) (show (2 : Nat) ≤ maxLen by decide)
          have SY31 := Lib.hid (ST30.out.keep by31)
          have TE0 : Calls Tryd.prog 32 #[.agg #[.string ⟨#[111, 114]⟩, .string ⟨#[]⟩, .int .i64 0, .int .i64 0, .string ⟨#[]⟩, .slice (some ⟨z30.heap.size, 0, none⟩) 2 2, .int .i64 0], .slice C p q, .slice R y s] y31 _ := eval_any (opE ⟨#[111, 114]⟩ (some ⟨z30.heap.size, 0, none⟩) 2 [litE true, a]) C R p q y s cols r y31 SY31.out.T SY31.out.C HS.out SY31.out.R HW.out Sy31
          rw [or_yes POK.out.1 (by have := POK.out.2.2; omega) SCH.out HRE.out HT2.out] at TE0
          have TE := Lib.hid TE0
          have Hy31 := Lib.hid hy31
          clear hy31
          have fa0 := ST30.out.ta.cell 0 _ rfl
          have fa1 := ST30.out.ta.cell 1 _ rfl
          have fa2 := ST30.out.ta.cell 2 _ rfl
          have fa3 := ST30.out.ta.cell 3 _ rfl
          have fa4 := ST30.out.ta.cell 4 _ rfl
          have fa5 := ST30.out.ta.cell 5 _ rfl
          have fa6 := ST30.out.ta.cell 6 _ rfl
          have fy0 := ST30.out.ty.cell 0 _ rfl
          have fy1 := ST30.out.ty.cell 1 _ rfl
          have fy2 := ST30.out.ty.cell 2 _ rfl
          have fy3 := ST30.out.ty.cell 3 _ rfl
          have fy4 := ST30.out.ty.cell 4 _ rfl
          have fy5 := ST30.out.ty.cell 5 _ rfl
          have fy6 := ST30.out.ty.cell 6 _ rfl
          have MV31 := Lib.hid (LV30.out.keep by31)
          have MI31 := Lib.hid (LI30.out.keep by31)
          clear TE0 Sy31 Ay31 by31
          go_wp2_with (first | rw [Hz30.out] | rw [Hy31.out])
          refine (TE.out).mono ?_
          rintro e' v31 ⟨rfl, hb31⟩
          obtain ⟨z31, hz31⟩ : ∃ z, v31.alloc (.cells #[.int .i64 2, .int .i64 1, .string ⟨#[]⟩] 33) = z := ⟨_, rfl⟩
          have bz31 : Below v31.heap.size v31 z31 := by rw [← hz31]; exact below_new _ _ _
          have Az31 : At z31 v31.heap.size #[.int .i64 2, .int .i64 1, .string ⟨#[]⟩] 33 := by rw [← hz31]; exact at_new _ _ _
          have ST31 := Lib.hid ((SY31.out.keep hb31).keep bz31)
          have LV31 := Lib.hid ((MV31.out.keep hb31).keep bz31)
          have LI31 := Lib.hid ((MI31.out.keep hb31).keep bz31)
          have LJ31 := Lib.hid Az31
          have Hz31 := Lib.hid hz31
          clear hz31
          clear hb31 bz31 Az31 TE fa0 fa1 fa2 fa3 fa4 fa5 fa6 fy0 fy1 fy2 fy3 fy4 fy5 fy6 Hy31 SY31 MV31 MI31 LV30 LI30
          unfold valV
          rw [errV_zero]
          unfold truthV
          obtain ⟨y32, hy32⟩ : ∃ z, z31.alloc (.cells #[.string ⟨#[118, 97, 108]⟩, .string ⟨#[]⟩, .int .i64 2, .int .i64 1, .string ⟨#[]⟩, .slice none 0 0, .int .i64 0, .string a.op, .string a.name, .int .i64 a.val.type, .int .i64 a.val.n, .string a.val.s, .slice a.A a.args.length a.c, .int .i64 a.pos] 44) = z := ⟨_, rfl⟩
          have by32 : Below z31.heap.size z31 y32 := by rw [← hy32]; exact below_new _ _ _
          have Ay32 : At y32 z31.heap.size #[.string ⟨#[118, 97, 108]⟩, .string ⟨#[]⟩, .int .i64 2, .int .i64 1, .string ⟨#[]⟩, .slice none 0 0, .int .i64 0, .string a.op, .string a.name, .int .i64 a.val.type, .int .i64 a.val.n, .string a.val.s, .slice a.A a.args.length a.c, .int .i64 a.pos] 44 := by rw [← hy32]; exact at_new _ _ _
          have Sy32 : SeesEx y32 (opE ⟨#[97, 110, 100]⟩ (some ⟨z31.heap.size, 0, none⟩) 2 [litE true, a]) := by rw [← hy32]; exact seesOp z31 ⟨#[97, 110, 100]⟩ [litE true, a] (show (3 : Nat) ≤ maxLen by decide) (in2 (lit_seen _ _) ST31.out.sa) (show (2 : Nat) ≤ maxLen by decide)
          have SY32 := Lib.hid (ST31.out.keep by32)
          have TE0 : Calls Tryd.prog 32 #[.agg #[.string ⟨#[97, 110, 100]⟩, .string ⟨#[]⟩, .int .i64 0, .int .i64 0, .string ⟨#[]⟩, .slice (some ⟨z31.heap.size, 0, none⟩) 2 2, .int .i64 0], .slice C p q, .slice R y s] y32 _ := eval_any (opE ⟨#[97, 110, 100]⟩ (some ⟨z31.heap.size, 0, none⟩) 2 [litE true, a]) C R p q y s cols r y32 SY32.out.T SY32.out.C HS.out SY32.out.R HW.out Sy32
          rw [and_yes POK.out.1 (by have := POK.out.2.2; omega) SCH.out HRE.out HT2.out EVA.out, XA.out] at TE0
          have TE := Lib.hid TE0
          have Hy32 := Lib.hid hy32
          clear hy32
          have fa0 := ST31.out.ta.cell 0 _ rfl
          have fa1 := ST31.out.ta.cell 1 _ rfl
          have fa2 := ST31.out.ta.cell 2 _ rfl
          have fa3 := ST31.out.ta.cell 3 _ rfl
          have fa4 := ST31.out.ta.cell 4 _ rfl
          have fa5 := ST31.out.ta.cell 5 _ rfl
          have fa6 := ST31.out.ta.cell 6 _ rfl
          have fy0 := ST31.out.ty.cell 0 _ rfl
          have fy1 := ST31.out.ty.cell 1 _ rfl
          have fy2 := ST31.out.ty.cell 2 _ rfl
          have fy3 := ST31.out.ty.cell 3 _ rfl
          have fy4 := ST31.out.ty.cell 4 _ rfl
          have fy5 := ST31.out.ty.cell 5 _ rfl
          have fy6 := ST31.out.ty.cell 6 _ rfl
          have MV32 := Lib.hid (LV31.out.keep by32)
          have MI32 := Lib.hid (LI31.out.keep by32)
          have MJ32 := Lib.hid (LJ31.out.keep by32)
          clear TE0 Sy32 Ay32 by32
          go_wp2_with (first | rw [Hz31.out] | rw [Hy32.out])
          refine (TE.out).mono ?_
          rintro e' v32 ⟨rfl, hb32⟩
          obtain ⟨z32, hz32⟩ : ∃ z, v32.alloc (.cells #[.int .i64 av.type, .int .i64 av.n, .string av.s] 33) = z := ⟨_, rfl⟩
          have bz32 : Below v32.heap.size v32 z32 := by rw [← hz32]; exact below_new _ _ _
          have Az32 : At z32 v32.heap.size #[.int .i64 av.type, .int .i64 av.n, .string av.s] 33 := by rw [← hz32]; exact at_new _ _ _
          have ST32 := Lib.hid ((SY32.out.keep hb32).keep bz32)
          have LV32 := Lib.hid ((MV32.out.keep hb32).keep bz32)
          have LI32 := Lib.hid ((MI32.out.keep hb32).keep bz32)
          have LJ32 := Lib.hid ((MJ32.out.keep hb32).keep bz32)
          have LK32 := Lib.hid Az32
          have Hz32 := Lib.hid hz32
          clear hz32
          clear hb32 bz32 Az32 TE fa0 fa1 fa2 fa3 fa4 fa5 fa6 fy0 fy1 fy2 fy3 fy4 fy5 fy6 Hy32 SY32 MV32 MI32 MJ32 LV31 LI31 LJ31
          unfold valV
          rw [errV_zero]
          have q1 := LI32.out.cell 1 _ rfl
          have q2 := LJ32.out.cell 1 _ rfl
          have qv0 := LV32.out.cell 0 _ rfl
          have qk0 := LK32.out.cell 0 _ rfl
          have qv1 := LV32.out.cell 1 _ rfl
          have qk1 := LK32.out.cell 1 _ rfl
          have qv2 := LV32.out.cell 2 _ rfl
          have qk2 := LK32.out.cell 2 _ rfl
          go_wp2_with (first | rw [Hz32.out])
          go_quiet (fail)
          have BLZ := Lib.hid (below_drewN ST32.out.bl nq)
          generalize z32.drewN nq = wz at BLZ ⊢
          go_wp2_with fail
          go_ret
          exact ⟨by simp, BLZ.out⟩
        case true =>
          have HCL2 := Lib.hid HCL.out
          have HCG2 := Lib.hid HCG.out
          clear HCL HCG
          obtain ⟨y14, hy14⟩ : ∃ z, z13.alloc (.cells #[.string a.op, .string a.name, .int .i64 a.val.type, .int .i64 a.val.n, .string a.val.s, .slice a.A a.args.length a.c, .int .i64 a.pos, .string b.op, .string b.name, .int .i64 b.val.type, .int .i64 b.val.n, .string b.val.s, .slice b.A b.args.length b.c, .int .i64 b.pos] 44) = z := ⟨_, rfl⟩
          have by14 : Below z13.heap.size z13 y14 := by rw [← hy14]; exact below_new _ _ _
          have Ay14 : At y14 z13.heap.size #[.string a.op, .string a.name, .int .i64 a.val.type, .int .i64 a.val.n, .string a.val.s, .slice a.A a.args.length a.c, .int .i64 a.pos, .string b.op, .string b.name, .int .i64 b.val.type, .int .i64 b.val.n, .string b.val.s, .slice b.A b.args.length b.c, .int .i64 b.pos] 44 := by rw [← hy14]; exact at_new _ _ _
          have Sy14 : SeesEx y14 (opE ⟨#[60]⟩ (some ⟨z13.heap.size, 0, none⟩) 2 [a, b]) := by rw [← hy14]; exact seesOp z13 ⟨#[60]⟩ [a, b] (show (1 : Nat) ≤ maxLen by decide) (in2 ST13.out.sa ST13.out.sb) (show (2 : Nat) ≤ maxLen by decide)
          have SY14 := Lib.hid (ST13.out.keep by14)
          have TE0 : Calls Tryd.prog 32 #[.agg #[.string ⟨#[60]⟩, .string ⟨#[]⟩, .int .i64 0, .int .i64 0, .string ⟨#[]⟩, .slice (some ⟨z13.heap.size, 0, none⟩) 2 2, .int .i64 0], .slice C p q, .slice R y s] y14 _ := eval_any (opE ⟨#[60]⟩ (some ⟨z13.heap.size, 0, none⟩) 2 [a, b]) C R p q y s cols r y14 SY14.out.T SY14.out.C HS.out SY14.out.R HW.out Sy14
          rw [HCL2.out] at TE0
          have TE := Lib.hid TE0
          have Hy14 := Lib.hid hy14
          clear hy14
          have fa0 := ST13.out.ta.cell 0 _ rfl
          have fa1 := ST13.out.ta.cell 1 _ rfl
          have fa2 := ST13.out.ta.cell 2 _ rfl
          have fa3 := ST13.out.ta.cell 3 _ rfl
          have fa4 := ST13.out.ta.cell 4 _ rfl
          have fa5 := ST13.out.ta.cell 5 _ rfl
          have fa6 := ST13.out.ta.cell 6 _ rfl
          have fb0 := ST13.out.tb.cell 0 _ rfl
          have fb1 := ST13.out.tb.cell 1 _ rfl
          have fb2 := ST13.out.tb.cell 2 _ rfl
          have fb3 := ST13.out.tb.cell 3 _ rfl
          have fb4 := ST13.out.tb.cell 4 _ rfl
          have fb5 := ST13.out.tb.cell 5 _ rfl
          have fb6 := ST13.out.tb.cell 6 _ rfl
          have MV14 := Lib.hid (LV13.out.keep by14)
          clear TE0 Sy14 Ay14 by14
          go_wp2_with (first | rw [Hy14.out])
          refine (TE.out).mono ?_
          rintro e' v14 ⟨rfl, hb14⟩
          rw [errV_zero]
          unfold valV truthV
          obtain ⟨z14, hz14⟩ : ∃ z, v14.alloc (.cells #[.int .i64 2, .int .i64 1, .string ⟨#[]⟩] 33) = z := ⟨_, rfl⟩
          have bz14 : Below v14.heap.size v14 z14 := by rw [← hz14]; exact below_new _ _ _
          have Az14 : At z14 v14.heap.size #[.int .i64 2, .int .i64 1, .string ⟨#[]⟩] 33 := by rw [← hz14]; exact at_new _ _ _
          have ST14 := Lib.hid ((SY14.out.keep hb14).keep bz14)
          have LV14 := Lib.hid ((MV14.out.keep hb14).keep bz14)
          have LP14 := Lib.hid Az14
          have Hz14 := Lib.hid hz14
          clear hz14
          clear hb14 bz14 Az14 TE fa0 fa1 fa2 fa3 fa4 fa5 fa6 fb0 fb1 fb2 fb3 fb4 fb5 fb6 Hy14 SY14 MV14 LV13
          obtain ⟨y15, hy15⟩ : ∃ z, z14.alloc (.cells #[.string a.op, .string a.name, .int .i64 a.val.type, .int .i64 a.val.n, .string a.val.s, .slice a.A a.args.length a.c, .int .i64 a.pos, .string b.op, .string b.name, .int .i64 b.val.type, .int .i64 b.val.n, .string b.val.s, .slice b.A b.args.length b.c, .int .i64 b.pos] 44) = z := ⟨_, rfl⟩
          have by15 : Below z14.heap.size z14 y15 := by rw [← hy15]; exact below_new _ _ _
          have Ay15 : At y15 z14.heap.size #[.string a.op, .string a.name, .int .i64 a.val.type, .int .i64 a.val.n, .string a.val.s, .slice a.A a.args.length a.c, .int .i64 a.pos, .string b.op, .string b.name, .int .i64 b.val.type, .int .i64 b.val.n, .string b.val.s, .slice b.A b.args.length b.c, .int .i64 b.pos] 44 := by rw [← hy15]; exact at_new _ _ _
          have Sy15 : SeesEx y15 (opE ⟨#[62, 61]⟩ (some ⟨z14.heap.size, 0, none⟩) 2 [a, b]) := by rw [← hy15]; exact seesOp z14 ⟨#[62, 61]⟩ [a, b] (show (2 : Nat) ≤ maxLen by decide) (in2 ST14.out.sa ST14.out.sb) (show (2 : Nat) ≤ maxLen by decide)
          have SY15 := Lib.hid (ST14.out.keep by15)
          have TE0 : Calls Tryd.prog 32 #[.agg #[.string ⟨#[62, 61]⟩, .string ⟨#[]⟩, .int .i64 0, .int .i64 0, .string ⟨#[]⟩, .slice (some ⟨z14.heap.size, 0, none⟩) 2 2, .int .i64 0], .slice C p q, .slice R y s] y15 _ := eval_any (opE ⟨#[62, 61]⟩ (some ⟨z14.heap.size, 0, none⟩) 2 [a, b]) C R p q y s cols r y15 SY15.out.T SY15.out.C HS.out SY15.out.R HW.out Sy15
          rw [HCG2.out] at TE0
          have TE := Lib.hid TE0
          have Hy15 := Lib.hid hy15
          clear hy15
          have fa0 := ST14.out.ta.cell 0 _ rfl
          have fa1 := ST14.out.ta.cell 1 _ rfl
          have fa2 := ST14.out.ta.cell 2 _ rfl
          have fa3 := ST14.out.ta.cell 3 _ rfl
          have fa4 := ST14.out.ta.cell 4 _ rfl
          have fa5 := ST14.out.ta.cell 5 _ rfl
          have fa6 := ST14.out.ta.cell 6 _ rfl
          have fb0 := ST14.out.tb.cell 0 _ rfl
          have fb1 := ST14.out.tb.cell 1 _ rfl
          have fb2 := ST14.out.tb.cell 2 _ rfl
          have fb3 := ST14.out.tb.cell 3 _ rfl
          have fb4 := ST14.out.tb.cell 4 _ rfl
          have fb5 := ST14.out.tb.cell 5 _ rfl
          have fb6 := ST14.out.tb.cell 6 _ rfl
          have MV15 := Lib.hid (LV14.out.keep by15)
          have MP15 := Lib.hid (LP14.out.keep by15)
          clear TE0 Sy15 Ay15 by15
          go_wp2_with (first | rw [Hz14.out] | rw [Hy15.out])
          refine (TE.out).mono ?_
          rintro e' v15 ⟨rfl, hb15⟩
          rw [errV_zero]
          unfold valV truthV
          obtain ⟨z15, hz15⟩ : ∃ z, v15.alloc (.cells #[.int .i64 2, .int .i64 0, .string ⟨#[]⟩] 33) = z := ⟨_, rfl⟩
          have bz15 : Below v15.heap.size v15 z15 := by rw [← hz15]; exact below_new _ _ _
          have Az15 : At z15 v15.heap.size #[.int .i64 2, .int .i64 0, .string ⟨#[]⟩] 33 := by rw [← hz15]; exact at_new _ _ _
          have ST15 := Lib.hid ((SY15.out.keep hb15).keep bz15)
          have LV15 := Lib.hid ((MV15.out.keep hb15).keep bz15)
          have LP15 := Lib.hid ((MP15.out.keep hb15).keep bz15)
          have LQ15 := Lib.hid Az15
          have Hz15 := Lib.hid hz15
          clear hz15
          clear hb15 bz15 Az15 TE fa0 fa1 fa2 fa3 fa4 fa5 fa6 fb0 fb1 fb2 fb3 fb4 fb5 fb6 Hy15 SY15 MV15 MP15 LV14 LP14
          have qp := LP15.out.cell 1 _ rfl
          have qq := LQ15.out.cell 1 _ rfl
          go_wp2_with (first | rw [Hz15.out])
          go_quiet (fail)
          have ST16 := Lib.hid (ST15.out.keep (below_drewN (Below.refl _ _) nq))
          have LV16 := Lib.hid (LV15.out.keep (below_drewN (Below.refl _ _) nq))
          generalize z15.drewN nq = z16 at ST16 LV16 ⊢
          clear qp qq LP15 LQ15 LV15
          by_cases ht2 : ta = 2
          rotate_left
          · have e2 : (ta != 2) = true := by simpa using ht2
            clear ht2
            go_wp2_with fail
            go_ret
            exact ⟨rfl, ST16.out.bl⟩
          have HT2 := Lib.hid (TTA.out.trans ht2)
          subst ht2
          obtain ⟨y30, hy30⟩ : ∃ z, z16.alloc (.cells #[.string ⟨#[118, 97, 108]⟩, .string ⟨#[]⟩, .int .i64 2, .int .i64 0, .string ⟨#[]⟩, .slice none 0 0, .int .i64 0, .string a.op, .string a.name, .int .i64 a.val.type, .int .i64 a.val.n, .string a.val.s, .slice a.A a.args.length a.c, .int .i64 a.pos] 44) = z := ⟨_, rfl⟩
          have by30 : Below z16.heap.size z16 y30 := by rw [← hy30]; exact below_new _ _ _
          have Ay30 : At y30 z16.heap.size #[.string ⟨#[118, 97, 108]⟩, .string ⟨#[]⟩, .int .i64 2, .int .i64 0, .string ⟨#[]⟩, .slice none 0 0, .int .i64 0, .string a.op, .string a.name, .int .i64 a.val.type, .int .i64 a.val.n, .string a.val.s, .slice a.A a.args.length a.c, .int .i64 a.pos] 44 := by rw [← hy30]; exact at_new _ _ _
          have Sy30 : SeesEx y30 (opE ⟨#[97, 110, 100]⟩ (some ⟨z16.heap.size, 0, none⟩) 2 [litE false, a]) := by rw [← hy30]; exact seesOp z16 ⟨#[97, 110, 100]⟩ [litE false, a] (show (3 : Nat) ≤ maxLen by decide) (in2 (lit_seen _ _) ST16.out.sa) (show (2 : Nat) ≤ maxLen by decide)
          have SY30 := Lib.hid (ST16.out.keep by30)
          have TE0 : Calls Tryd.prog 32 #[.agg #[.string ⟨#[97, 110, 100]⟩, .string ⟨#[]⟩, .int .i64 0, .int .i64 0, .string ⟨#[]⟩, .slice (some ⟨z16.heap.size, 0, none⟩) 2 2, .int .i64 0], .slice C p q, .slice R y s] y30 _ := eval_any (opE ⟨#[97, 110, 100]⟩ (some ⟨z16.heap.size, 0, none⟩) 2 [litE false, a]) C R p q y s cols r y30 SY30.out.T SY30.out.C HS.out SY30.out.R HW.out Sy30
          rw [and_no POK.out.1 (by have := POK.out.2.2; omega) SCH.out HRE.out HT2.out] at TE0
          have TE := Lib.hid TE0
          have Hy30 := Lib.hid hy30
          clear hy30
          have fa0 := ST16.out.ta.cell 0 _ rfl
          have fa1 := ST16.out.ta.cell 1 _ rfl
          have fa2 := ST16.out.ta.cell 2 _ rfl
          have fa3 := ST16.out.ta.cell 3 _ rfl
          have fa4 := ST16.out.ta.cell 4 _ rfl
          have fa5 := ST16.out.ta.cell 5 _ rfl
          have fa6 := ST16.out.ta.cell 6 _ rfl
          have fn0 := ST16.out.tn.cell 0 _ rfl
          have fn1 := ST16.out.tn.cell 1 _ rfl
          have fn2 := ST16.out.tn.cell 2 _ rfl
          have fn3 := ST16.out.tn.cell 3 _ rfl
          have fn4 := ST16.out.tn.cell 4 _ rfl
          have fn5 := ST16.out.tn.cell 5 _ rfl
          have fn6 := ST16.out.tn.cell 6 _ rfl
          have MV30 := Lib.hid (LV16.out.keep by30)
          clear TE0 Sy30 Ay30 by30
          go_wp2_with (first | rw [Hy30.out])
          refine (TE.out).mono ?_
          rintro e' v30 ⟨rfl, hb30⟩
          obtain ⟨z30, hz30⟩ : ∃ z, v30.alloc (.cells #[.int .i64 2, .int .i64 0, .string ⟨#[]⟩] 33) = z := ⟨_, rfl⟩
          have bz30 : Below v30.heap.size v30 z30 := by rw [← hz30]; exact below_new _ _ _
          have Az30 : At z30 v30.heap.size #[.int .i64 2, .int .i64 0, .string ⟨#[]⟩] 33 := by rw [← hz30]; exact at_new _ _ _
          have ST30 := Lib.hid ((SY30.out.keep hb30).keep bz30)
          have LV30 := Lib.hid ((MV30.out.keep hb30).keep bz30)
          have LI30 := Lib.hid Az30
          have Hz30 := Lib.hid hz30
          clear hz30
          clear hb30 bz30 Az30 TE fa0 fa1 fa2 fa3 fa4 fa5 fa6 fn0 fn1 fn2 fn3 fn4 fn5 fn6 Hy30 SY30 MV30 LV16
          unfold valV
          rw [errV_zero]
          unfold truthV
          obtain ⟨y31, hy31⟩ : ∃ z, z30.alloc (.cells #[.string ⟨#[118, 97, 108]⟩, .string ⟨#[]⟩, .int .i64 2, .int .i64 1, .string ⟨#[]⟩, .slice none 0 0, .int .i64 0, .string a.op, .string a.name, .int .i64 a.val.type, .int .i64 a.val.n, .string a.val.s, .slice a.A a.args.length a.c, .int .i64 a.pos] 44) = z := ⟨_, rfl⟩
          have by31 : Below z30.heap.size z30 y31 := by rw [← hy31]; exact below_new _ _ _
          have Ay31 : At y31 z30.heap.size #[.string ⟨#[118, 97, 108]⟩, .string ⟨#[]⟩, .int .i64 2, .int .i64 1, .string ⟨#[]⟩, .slice none 0 0, .int .i64 0, .string a.op, .string a.name, .int .i64 a.val.type, .int .i64 a.val.n, .string a.val.s, .slice a.A a.args.length a.c, .int .i64 a.pos] 44 := by rw [← hy31]; exact at_new _ _ _
          have Sy31 : SeesEx y31 (opE ⟨#[111, 114]⟩ (some ⟨z30.heap.size, 0, none⟩) 2 [litE true, a]) := by rw [← hy31]; exact seesOp z30 ⟨#[111, 114]⟩ [litE true, a] (show (2 : Nat) ≤ maxLen by decide) (in2 (lit_seen _ _) ST30.out.sa) (show (2 : Nat) ≤ maxLen by decide)
          have SY31 := Lib.hid (ST30.out.keep by31)
          have TE0 : Calls Tryd.prog 32 #[.agg #[.string ⟨#[111, 114]⟩, .string ⟨#[]⟩, .int .i64 0, .int .i64 0, .string ⟨#[]⟩, .slice (some ⟨z30.heap.size, 0, none⟩) 2 2, .int .i64 0], .slice C p q, .slice R y s] y31 _ := eval_any (opE ⟨#[111, 114]⟩ (some ⟨z30.heap.size, 0, none⟩) 2 [litE true, a]) C R p q y s cols r y31 SY31.out.T SY31.out.C HS.out SY31.out.R HW.out Sy31
          rw [or_yes POK.out.1 (by have := POK.out.2.2; omega) SCH.out HRE.out HT2.out] at TE0
          have TE := Lib.hid TE0
          have Hy31 := Lib.hid hy31
          clear hy31
          have fa0 := ST30.out.ta.cell 0 _ rfl
          have fa1 := ST30.out.ta.cell 1 _ rfl
          have fa2 := ST30.out.ta.cell 2 _ rfl
          have fa3 := ST30.out.ta.cell 3 _ rfl
          have fa4 := ST30.out.ta.cell 4 _ rfl
          have fa5 := ST30.out.ta.cell 5 _ rfl
          have fa6 := ST30.out.ta.cell 6 _ rfl
          have fy0 := ST30.out.ty.cell 0 _ rfl
          have fy1 := ST30.out.ty.cell 1 _ rfl
          have fy2 := ST30.out.ty.cell 2 _ rfl
          have fy3 := ST30.out.ty.cell 3 _ rfl
          have fy4 := ST30.out.ty.cell 4 _ rfl
          have fy5 := ST30.out.ty.cell 5 _ rfl
          have fy6 := ST30.out.ty.cell 6 _ rfl
          have MV31 := Lib.hid (LV30.out.keep by31)
          have MI31 := Lib.hid (LI30.out.keep by31)
          clear TE0 Sy31 Ay31 by31
          go_wp2_with (first | rw [Hz30.out] | rw [Hy31.out])
          refine (TE.out).mono ?_
          rintro e' v31 ⟨rfl, hb31⟩
          obtain ⟨z31, hz31⟩ : ∃ z, v31.alloc (.cells #[.int .i64 2, .int .i64 1, .string ⟨#[]⟩] 33) = z := ⟨_, rfl⟩
          have bz31 : Below v31.heap.size v31 z31 := by rw [← hz31]; exact below_new _ _ _
          have Az31 : At z31 v31.heap.size #[.int .i64 2, .int .i64 1, .string ⟨#[]⟩] 33 := by rw [← hz31]; exact at_new _ _ _
          have ST31 := Lib.hid ((SY31.out.keep hb31).keep bz31)
          have LV31 := Lib.hid ((MV31.out.keep hb31).keep bz31)
          have LI31 := Lib.hid ((MI31.out.keep hb31).keep bz31)
          have LJ31 := Lib.hid Az31
          have Hz31 := Lib.hid hz31
          clear hz31
          clear hb31 bz31 Az31 TE fa0 fa1 fa2 fa3 fa4 fa5 fa6 fy0 fy1 fy2 fy3 fy4 fy5 fy6 Hy31 SY31 MV31 MI31 LV30 LI30
          unfold valV
          rw [errV_zero]
          unfold truthV
          obtain ⟨y32, hy32⟩ : ∃ z, z31.alloc (.cells #[.string ⟨#[118, 97, 108]⟩, .string ⟨#[]⟩, .int .i64 2, .int .i64 1, .string ⟨#[]⟩, .slice none 0 0, .int .i64 0, .string a.op, .string a.name, .int .i64 a.val.type, .int .i64 a.val.n, .string a.val.s, .slice a.A a.args.length a.c, .int .i64 a.pos] 44) = z := ⟨_, rfl⟩
          have by32 : Below z31.heap.size z31 y32 := by rw [← hy32]; exact below_new _ _ _
          have Ay32 : At y32 z31.heap.size #[.string ⟨#[118, 97, 108]⟩, .string ⟨#[]⟩, .int .i64 2, .int .i64 1, .string ⟨#[]⟩, .slice none 0 0, .int .i64 0, .string a.op, .string a.name, .int .i64 a.val.type, .int .i64 a.val.n, .string a.val.s, .slice a.A a.args.length a.c, .int .i64 a.pos] 44 := by rw [← hy32]; exact at_new _ _ _
          have Sy32 : SeesEx y32 (opE ⟨#[97, 110, 100]⟩ (some ⟨z31.heap.size, 0, none⟩) 2 [litE true, a]) := by rw [← hy32]; exact seesOp z31 ⟨#[97, 110, 100]⟩ [litE true, a] (show (3 : Nat) ≤ maxLen by decide) (in2 (lit_seen _ _) ST31.out.sa) (show (2 : Nat) ≤ maxLen by decide)
          have SY32 := Lib.hid (ST31.out.keep by32)
          have TE0 : Calls Tryd.prog 32 #[.agg #[.string ⟨#[97, 110, 100]⟩, .string ⟨#[]⟩, .int .i64 0, .int .i64 0, .string ⟨#[]⟩, .slice (some ⟨z31.heap.size, 0, none⟩) 2 2, .int .i64 0], .slice C p q, .slice R y s] y32 _ := eval_any (opE ⟨#[97, 110, 100]⟩ (some ⟨z31.heap.size, 0, none⟩) 2 [litE true, a]) C R p q y s cols r y32 SY32.out.T SY32.out.C HS.out SY32.out.R HW.out Sy32
          rw [and_yes POK.out.1 (by have := POK.out.2.2; omega) SCH.out HRE.out HT2.out EVA.out, XA.out] at TE0
          have TE := Lib.hid TE0
          have Hy32 := Lib.hid hy32
          clear hy32
          have fa0 := ST31.out.ta.cell 0 _ rfl
          have fa1 := ST31.out.ta.cell 1 _ rfl
          have fa2 := ST31.out.ta.cell 2 _ rfl
          have fa3 := ST31.out.ta.cell 3 _ rfl
          have fa4 := ST31.out.ta.cell 4 _ rfl
          have fa5 := ST31.out.ta.cell 5 _ rfl
          have fa6 := ST31.out.ta.cell 6 _ rfl
          have fy0 := ST31.out.ty.cell 0 _ rfl
          have fy1 := ST31.out.ty.cell 1 _ rfl
          have fy2 := ST31.out.ty.cell 2 _ rfl
          have fy3 := ST31.out.ty.cell 3 _ rfl
          have fy4 := ST31.out.ty.cell 4 _ rfl
          have fy5 := ST31.out.ty.cell 5 _ rfl
          have fy6 := ST31.out.ty.cell 6 _ rfl
          have MV32 := Lib.hid (LV31.out.keep by32)
          have MI32 := Lib.hid (LI31.out.keep by32)
          have MJ32 := Lib.hid (LJ31.out.keep by32)
          clear TE0 Sy32 Ay32 by32
          go_wp2_with (first | rw [Hz31.out] | rw [Hy32.out])
          refine (TE.out).mono ?_
          rintro e' v32 ⟨rfl, hb32⟩
          obtain ⟨z32, hz32⟩ : ∃ z, v32.alloc (.cells #[.int .i64 av.type, .int .i64 av.n, .string av.s] 33) = z := ⟨_, rfl⟩
          have bz32 : Below v32.heap.size v32 z32 := by rw [← hz32]; exact below_new _ _ _
          have Az32 : At z32 v32.heap.size #[.int .i64 av.type, .int .i64 av.n, .string av.s] 33 := by rw [← hz32]; exact at_new _ _ _
          have ST32 := Lib.hid ((SY32.out.keep hb32).keep bz32)
          have LV32 := Lib.hid ((MV32.out.keep hb32).keep bz32)
          have LI32 := Lib.hid ((MI32.out.keep hb32).keep bz32)
          have LJ32 := Lib.hid ((MJ32.out.keep hb32).keep bz32)
          have LK32 := Lib.hid Az32
          have Hz32 := Lib.hid hz32
          clear hz32
          clear hb32 bz32 Az32 TE fa0 fa1 fa2 fa3 fa4 fa5 fa6 fy0 fy1 fy2 fy3 fy4 fy5 fy6 Hy32 SY32 MV32 MI32 MJ32 LV31 LI31 LJ31
          unfold valV
          rw [errV_zero]
          have q1 := LI32.out.cell 1 _ rfl
          have q2 := LJ32.out.cell 1 _ rfl
          have qv0 := LV32.out.cell 0 _ rfl
          have qk0 := LK32.out.cell 0 _ rfl
          have qv1 := LV32.out.cell 1 _ rfl
          have qk1 := LK32.out.cell 1 _ rfl
          have qv2 := LV32.out.cell 2 _ rfl
          have qk2 := LK32.out.cell 2 _ rfl
          go_wp2_with (first | rw [Hz32.out])
          go_quiet (fail)
          have BLZ := Lib.hid (below_drewN ST32.out.bl nq)
          generalize z32.drewN nq = wz at BLZ ⊢
          go_wp2_with fail
          go_ret
          exact ⟨by simp, BLZ.out⟩
      · subst hbk
        rw [E9.out]
        by_cases htt : ta = tb
        rotate_left
        · have e1 : (ta == tb) = false := by simpa using htt
          clear htt
          by_cases ht2 : ta = 2
          rotate_left
          · have e2 : (ta != 2) = true := by simpa using ht2
            clear ht2
            go_wp2_with (first | rw [Hz10.out])
            go_ret
            exact ⟨rfl, ST10.out.bl⟩
          have HT2 := Lib.hid (TTA.out.trans ht2)
          subst ht2
          obtain ⟨y30, hy30⟩ : ∃ z, z10.alloc (.cells #[.string ⟨#[118, 97, 108]⟩, .string ⟨#[]⟩, .int .i64 2, .int .i64 0, .string ⟨#[]⟩, .slice none 0 0, .int .i64 0, .string a.op, .string a.name, .int .i64 a.val.type, .int .i64 a.val.n, .string a.val.s, .slice a.A a.args.length a.c, .int .i64 a.pos] 44) = z := ⟨_, rfl⟩
          have by30 : Below z10.heap.size z10 y30 := by rw [← hy30]; exact below_new _ _ _
          have Ay30 : At y30 z10.heap.size #[.string ⟨#[118, 97, 108]⟩, .string ⟨#[]⟩, .int .i64 2, .int .i64 0, .string ⟨#[]⟩, .slice none 0 0, .int .i64 0, .string a.op, .string a.name, .int .i64 a.val.type, .int .i64 a.val.n, .string a.val.s, .slice a.A a.args.length a.c, .int .i64 a.pos] 44 := by rw [← hy30]; exact at_new _ _ _
          have Sy30 : SeesEx y30 (opE ⟨#[97, 110, 100]⟩ (some ⟨z10.heap.size, 0, none⟩) 2 [litE false, a]) := by rw [← hy30]; exact seesOp z10 ⟨#[97, 110, 100]⟩ [litE false, a] (show (3 : Nat) ≤ maxLen by decide) (in2 (lit_seen _ _) ST10.out.sa) (show (2 : Nat) ≤ maxLen by decide)
          have SY30 := Lib.hid (ST10.out.keep by30)
          have TE0 : Calls Tryd.prog 32 #[.agg #[.string ⟨#[97, 110, 100]⟩, .string ⟨#[]⟩, .int .i64 0, .int .i64 0, .string ⟨#[]⟩, .slice (some ⟨z10.heap.size, 0, none⟩) 2 2, .int .i64 0], .slice C p q, .slice R y s] y30 _ := eval_any (opE ⟨#[97, 110, 100]⟩ (some ⟨z10.heap.size, 0, none⟩) 2 [litE false, a]) C R p q y s cols r y30 SY30.out.T SY30.out.C HS.out SY30.out.R HW.out Sy30
          rw [and_no POK.out.1 (by have := POK.out.2.2; omega) SCH.out HRE.out HT2.out] at TE0
          have TE := Lib.hid TE0
          have Hy30 := Lib.hid hy30
          clear hy30
          have fa0 := ST10.out.ta.cell 0 _ rfl
          have fa1 := ST10.out.ta.cell 1 _ rfl
          have fa2 := ST10.out.ta.cell 2 _ rfl
          have fa3 := ST10.out.ta.cell 3 _ rfl
          have fa4 := ST10.out.ta.cell 4 _ rfl
          have fa5 := ST10.out.ta.cell 5 _ rfl
          have fa6 := ST10.out.ta.cell 6 _ rfl
          have fn0 := ST10.out.tn.cell 0 _ rfl
          have fn1 := ST10.out.tn.cell 1 _ rfl
          have fn2 := ST10.out.tn.cell 2 _ rfl
          have fn3 := ST10.out.tn.cell 3 _ rfl
          have fn4 := ST10.out.tn.cell 4 _ rfl
          have fn5 := ST10.out.tn.cell 5 _ rfl
          have fn6 := ST10.out.tn.cell 6 _ rfl
          have MV30 := Lib.hid (LV10.out.keep by30)
          clear TE0 Sy30 Ay30 by30
          go_wp2_with (first | rw [Hz10.out] | rw [Hy30.out])
          refine (TE.out).mono ?_
          rintro e' v30 ⟨rfl, hb30⟩
          obtain ⟨z30, hz30⟩ : ∃ z, v30.alloc (.cells #[.int .i64 2, .int .i64 0, .string ⟨#[]⟩] 33) = z := ⟨_, rfl⟩
          have bz30 : Below v30.heap.size v30 z30 := by rw [← hz30]; exact below_new _ _ _
          have Az30 : At z30 v30.heap.size #[.int .i64 2, .int .i64 0, .string ⟨#[]⟩] 33 := by rw [← hz30]; exact at_new _ _ _
          have ST30 := Lib.hid ((SY30.out.keep hb30).keep bz30)
          have LV30 := Lib.hid ((MV30.out.keep hb30).keep bz30)
          have LI30 := Lib.hid Az30
          have Hz30 := Lib.hid hz30
          clear hz30
          clear hb30 bz30 Az30 TE fa0 fa1 fa2 fa3 fa4 fa5 fa6 fn0 fn1 fn2 fn3 fn4 fn5 fn6 Hy30 SY30 MV30 LV10
          unfold valV
          rw [errV_zero]
          unfold truthV
          obtain ⟨y31, hy31⟩ : ∃ z, z30.alloc (.cells #[.string ⟨#[118, 97, 108]⟩, .string ⟨#[]⟩, .int .i64 2, .int .i64 1, .string ⟨#[]⟩, .slice none 0 0, .int .i64 0, .string a.op, .string a.name, .int .i64 a.val.type, .int .i64 a.val.n, .string a.val.s, .slice a.A a.args.length a.c, .int .i64 a.pos] 44) = z := ⟨_, rfl⟩
          have by31 : Below z30.heap.size z30 y31 := by rw [← hy31]; exact below_new _ _ _
          have Ay31 : At y31 z30.heap.size #[.string ⟨#[118, 97, 108]⟩, .string ⟨#[]⟩, .int .i64 2, .int .i64 1, .string ⟨#[]⟩, .slice none 0 0, .int .i64 0, .string a.op, .string a.name, .int .i64 a.val.type, .int .i64 a.val.n, .string a.val.s, .slice a.A a.args.length a.c, .int .i64 a.pos] 44 := by rw [← hy31]; exact at_new _ _ _
          have Sy31 : SeesEx y31 (opE ⟨#[111, 114]⟩ (some ⟨z30.heap.size, 0, none⟩) 2 [litE true, a]) := by rw [← hy31]; exact seesOp z30 ⟨#[111, 114]⟩ [litE true, a] (show (2 : Nat) ≤ maxLen by decide) (in2 (lit_seen _ _) ST30.out.sa) (show (2 : Nat) ≤ maxLen by decide)
          have SY31 := Lib.hid (ST30.out.keep by31)
          have TE0 : Calls Tryd.prog 32 #[.agg #[.string ⟨#[111, 114]⟩, .string ⟨#[]⟩, .int .i64 0, .int .i64 0, .string ⟨#[]⟩, .slice (some ⟨z30.heap.size, 0, none⟩) 2 2, .int .i64 0], .slice C p q, .slice R y s] y31 _ := eval_any (opE ⟨#[111, 114]⟩ (some ⟨z30.heap.size, 0, none⟩) 2 [litE true, a]) C R p q y s cols r y31 SY31.out.T SY31.out.C HS.out SY31.out.R HW.out Sy31
          rw [or_yes POK.out.1 (by have := POK.out.2.2; omega) SCH.out HRE.out HT2.out] at TE0
          have TE := Lib.hid TE0
          have Hy31 := Lib.hid hy31
          clear hy31
          have fa0 := ST30.out.ta.cell 0 _ rfl
          have fa1 := ST30.out.ta.cell 1 _ rfl
          have fa2 := ST30.out.ta.cell 2 _ rfl
          have fa3 := ST30.out.ta.cell 3 _ rfl
          have fa4 := ST30.out.ta.cell 4 _ rfl
          have fa5 := ST30.out.ta.cell 5 _ rfl
          have fa6 := ST30.out.ta.cell 6 _ rfl
          have fy0 := ST30.out.ty.cell 0 _ rfl
          have fy1 := ST30.out.ty.cell 1 _ rfl
          have fy2 := ST30.out.ty.cell 2 _ rfl
          have fy3 := ST30.out.ty.cell 3 _ rfl
          have fy4 := ST30.out.ty.cell 4 _ rfl
          have fy5 := ST30.out.ty.cell 5 _ rfl
          have fy6 := ST30.out.ty.cell 6 _ rfl
          have MV31 := Lib.hid (LV30.out.keep by31)
          have MI31 := Lib.hid (LI30.out.keep by31)
          clear TE0 Sy31 Ay31 by31
          go_wp2_with (first | rw [Hz30.out] | rw [Hy31.out])
          refine (TE.out).mono ?_
          rintro e' v31 ⟨rfl, hb31⟩
          obtain ⟨z31, hz31⟩ : ∃ z, v31.alloc (.cells #[.int .i64 2, .int .i64 1, .string ⟨#[]⟩] 33) = z := ⟨_, rfl⟩
          have bz31 : Below v31.heap.size v31 z31 := by rw [← hz31]; exact below_new _ _ _
          have Az31 : At z31 v31.heap.size #[.int .i64 2, .int .i64 1, .string ⟨#[]⟩] 33 := by rw [← hz31]; exact at_new _ _ _
          have ST31 := Lib.hid ((SY31.out.keep hb31).keep bz31)
          have LV31 := Lib.hid ((MV31.out.keep hb31).keep bz31)
          have LI31 := Lib.hid ((MI31.out.keep hb31).keep bz31)
          have LJ31 := Lib.hid Az31
          have Hz31 := Lib.hid hz31
          clear hz31
          clear hb31 bz31 Az31 TE fa0 fa1 fa2 fa3 fa4 fa5 fa6 fy0 fy1 fy2 fy3 fy4 fy5 fy6 Hy31 SY31 MV31 MI31 LV30 LI30
          unfold valV
          rw [errV_zero]
          unfold truthV
          obtain ⟨y32, hy32⟩ : ∃ z, z31.alloc (.cells #[.string ⟨#[118, 97, 108]⟩, .string ⟨#[]⟩, .int .i64 2, .int .i64 1, .string ⟨#[]⟩, .slice none 0 0, .int .i64 0, .string a.op, .string a.name, .int .i64 a.val.type, .int .i64 a.val.n, .string a.val.s, .slice a.A a.args.length a.c, .int .i64 a.pos] 44) = z := ⟨_, rfl⟩
          have by32 : Below z31.heap.size z31 y32 := by rw [← hy32]; exact below_new _ _ _
          have Ay32 : At y32 z31.heap.size #[.string ⟨#[118, 97, 108]⟩, .string ⟨#[]⟩, .int .i64 2, .int .i64 1, .string ⟨#[]⟩, .slice none 0 0, .int .i64 0, .string a.op, .string a.name, .int .i64 a.val.type, .int .i64 a.val.n, .string a.val.s, .slice a.A a.args.length a.c, .int .i64 a.pos] 44 := by rw [← hy32]; exact at_new _ _ _
          have Sy32 : SeesEx y32 (opE ⟨#[97, 110, 100]⟩ (some ⟨z31.heap.size, 0, none⟩) 2 [litE true, a]) := by rw [← hy32]; exact seesOp z31 ⟨#[97, 110, 100]⟩ [litE true, a] (show (3 : Nat) ≤ maxLen by decide) (in2 (lit_seen _ _) ST31.out.sa) (show (2 : Nat) ≤ maxLen by decide)
          have SY32 := Lib.hid (ST31.out.keep by32)
          have TE0 : Calls Tryd.prog 32 #[.agg #[.string ⟨#[97, 110, 100]⟩, .string ⟨#[]⟩, .int .i64 0, .int .i64 0, .string ⟨#[]⟩, .slice (some ⟨z31.heap.size, 0, none⟩) 2 2, .int .i64 0], .slice C p q, .slice R y s] y32 _ := eval_any (opE ⟨#[97, 110, 100]⟩ (some ⟨z31.heap.size, 0, none⟩) 2 [litE true, a]) C R p q y s cols r y32 SY32.out.T SY32.out.C HS.out SY32.out.R HW.out Sy32
          rw [and_yes POK.out.1 (by have := POK.out.2.2; omega) SCH.out HRE.out HT2.out EVA.out, XA.out] at TE0
          have TE := Lib.hid TE0
          have Hy32 := Lib.hid hy32
          clear hy32
          have fa0 := ST31.out.ta.cell 0 _ rfl
          have fa1 := ST31.out.ta.cell 1 _ rfl
          have fa2 := ST31.out.ta.cell 2 _ rfl
          have fa3 := ST31.out.ta.cell 3 _ rfl
          have fa4 := ST31.out.ta.cell 4 _ rfl
          have fa5 := ST31.out.ta.cell 5 _ rfl
          have fa6 := ST31.out.ta.cell 6 _ rfl
          have fy0 := ST31.out.ty.cell 0 _ rfl
          have fy1 := ST31.out.ty.cell 1 _ rfl
          have fy2 := ST31.out.ty.cell 2 _ rfl
          have fy3 := ST31.out.ty.cell 3 _ rfl
          have fy4 := ST31.out.ty.cell 4 _ rfl
          have fy5 := ST31.out.ty.cell 5 _ rfl
          have fy6 := ST31.out.ty.cell 6 _ rfl
          have MV32 := Lib.hid (LV31.out.keep by32)
          have MI32 := Lib.hid (LI31.out.keep by32)
          have MJ32 := Lib.hid (LJ31.out.keep by32)
          clear TE0 Sy32 Ay32 by32
          go_wp2_with (first | rw [Hz31.out] | rw [Hy32.out])
          refine (TE.out).mono ?_
          rintro e' v32 ⟨rfl, hb32⟩
          obtain ⟨z32, hz32⟩ : ∃ z, v32.alloc (.cells #[.int .i64 av.type, .int .i64 av.n, .string av.s] 33) = z := ⟨_, rfl⟩
          have bz32 : Below v32.heap.size v32 z32 := by rw [← hz32]; exact below_new _ _ _
          have Az32 : At z32 v32.heap.size #[.int .i64 av.type, .int .i64 av.n, .string av.s] 33 := by rw [← hz32]; exact at_new _ _ _
          have ST32 := Lib.hid ((SY32.out.keep hb32).keep bz32)
          have LV32 := Lib.hid ((MV32.out.keep hb32).keep bz32)
          have LI32 := Lib.hid ((MI32.out.keep hb32).keep bz32)
          have LJ32 := Lib.hid ((MJ32.out.keep hb32).keep bz32)
          have LK32 := Lib.hid Az32
          have Hz32 := Lib.hid hz32
          clear hz32
          clear hb32 bz32 Az32 TE fa0 fa1 fa2 fa3 fa4 fa5 fa6 fy0 fy1 fy2 fy3 fy4 fy5 fy6 Hy32 SY32 MV32 MI32 MJ32 LV31 LI31 LJ31
          unfold valV
          rw [errV_zero]
          have q1 := LI32.out.cell 1 _ rfl
          have q2 := LJ32.out.cell 1 _ rfl
          have qv0 := LV32.out.cell 0 _ rfl
          have qk0 := LK32.out.cell 0 _ rfl
          have qv1 := LV32.out.cell 1 _ rfl
          have qk1 := LK32.out.cell 1 _ rfl
          have qv2 := LV32.out.cell 2 _ rfl
          have qk2 := LK32.out.cell 2 _ rfl
          go_wp2_with (first | rw [Hz32.out])
          go_quiet (fail)
          have BLZ := Lib.hid (below_drewN ST32.out.bl nq)
          generalize z32.drewN nq = wz at BLZ ⊢
          go_wp2_with fail
          go_ret
          exact ⟨by simp, BLZ.out⟩
        subst htt
        have TAB := Lib.hid (TTA.out.trans TTB.out.symm)
        obtain ⟨y11, hy11⟩ : ∃ z, z10.alloc (.cells #[.string ⟨#[118, 97, 108]⟩, .string ⟨#[]⟩, .int .i64 2, .int .i64 1, .string ⟨#[]⟩, .slice none 0 0, .int .i64 0, .string a.op, .string a.name, .int .i64 a.val.type, .int .i64 a.val.n, .string a.val.s, .slice a.A a.args.length a.c, .int .i64 a.pos, .string b.op, .string b.name, .int .i64 b.val.type, .int .i64 b.val.n, .string b.val.s, .slice b.A b.args.length b.c, .int .i64 b.pos] 44) = z := ⟨_, rfl⟩
        have by11 : Below z10.heap.size z10 y11 := by rw [← hy11]; exact below_new _ _ _
        have Ay11 : At y11 z10.heap.size #[.string ⟨#[118, 97, 108]⟩, .string ⟨#[]⟩, .int .i64 2, .int .i64 1, .string ⟨#[]⟩, .slice none 0 0, .int .i64 0, .string a.op, .string a.name, .int .i64 a.val.type, .int .i64 a.val.n, .string a.val.s, .slice a.A a.args.length a.c, .int .i64 a.pos, .string b.op, .string b.name, .int .i64 b.val.type, .int .i64 b.val.n, .string b.val.s, .slice b.A b.args.length b.c, .int .i64 b.pos] 44 := by rw [← hy11]; exact at_new _ _ _
        have Sy11 : SeesEx y11 (opE ⟨#[105, 102]⟩ (some ⟨z10.heap.size, 0, none⟩) 3 [litE true, a, b]) := by rw [← hy11]; exact seesOp z10 ⟨#[105, 102]⟩ [litE true, a, b] (show (2 : Nat) ≤ maxLen by decide) (in3 (lit_seen _ _) ST10.out.sa ST10.out.sb) (show (3 : Nat) ≤ maxLen by decide)
        have SY11 := Lib.hid (ST10.out.keep by11)
        have TE0 : Calls Tryd.prog 32 #[.agg #[.string ⟨#[105, 102]⟩, .string ⟨#[]⟩, .int .i64 0, .int .i64 0, .string ⟨#[]⟩, .slice (some ⟨z10.heap.size, 0, none⟩) 3 3, .int .i64 0], .slice C p q, .slice R y s] y11 _ := eval_any (opE ⟨#[105, 102]⟩ (some ⟨z10.heap.size, 0, none⟩) 3 [litE true, a, b]) C R p q y s cols r y11 SY11.out.T SY11.out.C HS.out SY11.out.R HW.out Sy11
        rw [if_is true POK.out.1 POK.out.2.1 POK.out.2.2 SCH.out HRE.out TAB.out, if_pos rfl, XA.out] at TE0
        have TE := Lib.hid TE0
        have Hy11 := Lib.hid hy11
        clear hy11
        have fa0 := ST10.out.ta.cell 0 _ rfl
        have fa1 := ST10.out.ta.cell 1 _ rfl
        have fa2 := ST10.out.ta.cell 2 _ rfl
        have fa3 := ST10.out.ta.cell 3 _ rfl
        have fa4 := ST10.out.ta.cell 4 _ rfl
        have fa5 := ST10.out.ta.cell 5 _ rfl
        have fa6 := ST10.out.ta.cell 6 _ rfl
        have fb0 := ST10.out.tb.cell 0 _ rfl
        have fb1 := ST10.out.tb.cell 1 _ rfl
        have fb2 := ST10.out.tb.cell 2 _ rfl
        have fb3 := ST10.out.tb.cell 3 _ rfl
        have fb4 := ST10.out.tb.cell 4 _ rfl
        have fb5 := ST10.out.tb.cell 5 _ rfl
        have fb6 := ST10.out.tb.cell 6 _ rfl
        have fy0 := ST10.out.ty.cell 0 _ rfl
        have fy1 := ST10.out.ty.cell 1 _ rfl
        have fy2 := ST10.out.ty.cell 2 _ rfl
        have fy3 := ST10.out.ty.cell 3 _ rfl
        have fy4 := ST10.out.ty.cell 4 _ rfl
        have fy5 := ST10.out.ty.cell 5 _ rfl
        have fy6 := ST10.out.ty.cell 6 _ rfl
        have MV11 := Lib.hid (LV10.out.keep by11)
        have MW11 := Lib.hid (LW10.out.keep by11)
        clear TE0 Sy11 Ay11 by11
        go_wp2_with (first | rw [Hz10.out] | rw [Hy11.out])
        refine (TE.out).mono ?_
        rintro e' v11 ⟨rfl, hb11⟩
        obtain ⟨z11, hz11⟩ : ∃ z, v11.alloc (.cells #[.int .i64 av.type, .int .i64 av.n, .string av.s] 33) = z := ⟨_, rfl⟩
        have bz11 : Below v11.heap.size v11 z11 := by rw [← hz11]; exact below_new _ _ _
        have Az11 : At z11 v11.heap.size #[.int .i64 av.type, .int .i64 av.n, .string av.s] 33 := by rw [← hz11]; exact at_new _ _ _
        have ST11 := Lib.hid ((SY11.out.keep hb11).keep bz11)
        have LV11 := Lib.hid ((MV11.out.keep hb11).keep bz11)
        have LW11 := Lib.hid ((MW11.out.keep hb11).keep bz11)
        have LX11 := Lib.hid Az11
        have Hz11 := Lib.hid hz11
        clear hz11
        clear hb11 bz11 Az11 TE fa0 fa1 fa2 fa3 fa4 fa5 fa6 fb0 fb1 fb2 fb3 fb4 fb5 fb6 fy0 fy1 fy2 fy3 fy4 fy5 fy6 Hy11 SY11 MV11 MW11 LV10 LW10
        unfold valV
        rw [errV_zero]
        obtain ⟨y12, hy12⟩ : ∃ z, z11.alloc (.cells #[.string ⟨#[118, 97, 108]⟩, .string ⟨#[]⟩, .int .i64 2, .int .i64 0, .string ⟨#[]⟩, .slice none 0 0, .int .i64 0, .string a.op, .string a.name, .int .i64 a.val.type, .int .i64 a.val.n, .string a.val.s, .slice a.A a.args.length a.c, .int .i64 a.pos, .string b.op, .string b.name, .int .i64 b.val.type, .int .i64 b.val.n, .string b.val.s, .slice b.A b.args.length b.c, .int .i64 b.pos] 44) = z := ⟨_, rfl⟩
        have by12 : Below z11.heap.size z11 y12 := by rw [← hy12]; exact below_new _ _ _
        have Ay12 : At y12 z11.heap.size #[.string ⟨#[118, 97, 108]⟩, .string ⟨#[]⟩, .int .i64 2, .int .i64 0, .string ⟨#[]⟩, .slice none 0 0, .int .i64 0, .string a.op, .string a.name, .int .i64 a.val.type, .int .i64 a.val.n, .string a.val.s, .slice a.A a.args.length a.c, .int .i64 a.pos, .string b.op, .string b.name, .int .i64 b.val.type, .int .i64 b.val.n, .string b.val.s, .slice b.A b.args.length b.c, .int .i64 b.pos] 44 := by rw [← hy12]; exact at_new _ _ _
        have Sy12 : SeesEx y12 (opE ⟨#[105, 102]⟩ (some ⟨z11.heap.size, 0, none⟩) 3 [litE false, a, b]) := by rw [← hy12]; exact seesOp z11 ⟨#[105, 102]⟩ [litE false, a, b] (show (2 : Nat) ≤ maxLen by decide) (in3 (lit_seen _ _) ST11.out.sa ST11.out.sb) (show (3 : Nat) ≤ maxLen by decide)
        have SY12 := Lib.hid (ST11.out.keep by12)
        have TE0 : Calls Tryd.prog 32 #[.agg #[.string ⟨#[105, 102]⟩, .string ⟨#[]⟩, .int .i64 0, .int .i64 0, .string ⟨#[]⟩, .slice (some ⟨z11.heap.size, 0, none⟩) 3 3, .int .i64 0], .slice C p q, .slice R y s] y12 _ := eval_any (opE ⟨#[105, 102]⟩ (some ⟨z11.heap.size, 0, none⟩) 3 [litE false, a, b]) C R p q y s cols r y12 SY12.out.T SY12.out.C HS.out SY12.out.R HW.out Sy12
        rw [if_is false POK.out.1 POK.out.2.1 POK.out.2.2 SCH.out HRE.out TAB.out, if_neg (by decide), XB.out] at TE0
        have TE := Lib.hid TE0
        have Hy12 := Lib.hid hy12
        clear hy12
        have fa0 := ST11.out.ta.cell 0 _ rfl
        have fa1 := ST11.out.ta.cell 1 _ rfl
        have fa2 := ST11.out.ta.cell 2 _ rfl
        have fa3 := ST11.out.ta.cell 3 _ rfl
        have fa4 := ST11.out.ta.cell 4 _ rfl
        have fa5 := ST11.out.ta.cell 5 _ rfl
        have fa6 := ST11.out.ta.cell 6 _ rfl
        have fb0 := ST11.out.tb.cell 0 _ rfl
        have fb1 := ST11.out.tb.cell 1 _ rfl
        have fb2 := ST11.out.tb.cell 2 _ rfl
        have fb3 := ST11.out.tb.cell 3 _ rfl
        have fb4 := ST11.out.tb.cell 4 _ rfl
        have fb5 := ST11.out.tb.cell 5 _ rfl
        have fb6 := ST11.out.tb.cell 6 _ rfl
        have fn0 := ST11.out.tn.cell 0 _ rfl
        have fn1 := ST11.out.tn.cell 1 _ rfl
        have fn2 := ST11.out.tn.cell 2 _ rfl
        have fn3 := ST11.out.tn.cell 3 _ rfl
        have fn4 := ST11.out.tn.cell 4 _ rfl
        have fn5 := ST11.out.tn.cell 5 _ rfl
        have fn6 := ST11.out.tn.cell 6 _ rfl
        have MV12 := Lib.hid (LV11.out.keep by12)
        have MW12 := Lib.hid (LW11.out.keep by12)
        have MX12 := Lib.hid (LX11.out.keep by12)
        clear TE0 Sy12 Ay12 by12
        go_wp2_with (first | rw [Hz11.out] | rw [Hy12.out])
        refine (TE.out).mono ?_
        rintro e' v12 ⟨rfl, hb12⟩
        obtain ⟨z12, hz12⟩ : ∃ z, v12.alloc (.cells #[.int .i64 bv.type, .int .i64 bv.n, .string bv.s] 33) = z := ⟨_, rfl⟩
        have bz12 : Below v12.heap.size v12 z12 := by rw [← hz12]; exact below_new _ _ _
        have Az12 : At z12 v12.heap.size #[.int .i64 bv.type, .int .i64 bv.n, .string bv.s] 33 := by rw [← hz12]; exact at_new _ _ _
        have ST12 := Lib.hid ((SY12.out.keep hb12).keep bz12)
        have LV12 := Lib.hid ((MV12.out.keep hb12).keep bz12)
        have LW12 := Lib.hid ((MW12.out.keep hb12).keep bz12)
        have LX12 := Lib.hid ((MX12.out.keep hb12).keep bz12)
        have LY12 := Lib.hid Az12
        have Hz12 := Lib.hid hz12
        clear hz12
        clear hb12 bz12 Az12 TE fa0 fa1 fa2 fa3 fa4 fa5 fa6 fb0 fb1 fb2 fb3 fb4 fb5 fb6 fn0 fn1 fn2 fn3 fn4 fn5 fn6 Hy12 SY12 MV12 MW12 MX12 LV11 LW11 LX11
        unfold valV
        rw [E9.out]
        have qv0 := LV12.out.cell 0 _ rfl
        have qv1 := LV12.out.cell 1 _ rfl
        have qv2 := LV12.out.cell 2 _ rfl
        have qw0 := LW12.out.cell 0 _ rfl
        have qw1 := LW12.out.cell 1 _ rfl
        have qw2 := LW12.out.cell 2 _ rfl
        have qx0 := LX12.out.cell 0 _ rfl
        have qx1 := LX12.out.cell 1 _ rfl
        have qx2 := LX12.out.cell 2 _ rfl
        have qy0 := LY12.out.cell 0 _ rfl
        have qy1 := LY12.out.cell 1 _ rfl
        have qy2 := LY12.out.cell 2 _ rfl
        go_wp2_with (first | rw [Hz12.out])
        go_quiet (fail)
        have ST13 := Lib.hid (ST12.out.keep (below_drewN (Below.refl _ _) nq))
        have LV13 := Lib.hid (LV12.out.keep (below_drewN (Below.refl _ _) nq))
        generalize z12.drewN nq = z13 at ST13 LV13 ⊢
        clear qv0 qv1 qv2 qw0 qw1 qw2 qx0 qx1 qx2 qy0 qy1 qy2 LV12 LW12 LX12 LY12
        have CMP := Lib.hid (fun A c A' c' => cmp_is (r := r) (A := A) (c := c) (A' := A') (c' := c') POK.out.1 POK.out.2.1 POK.out.2.2 SCH.out HRE.out TAB.out EVA.out EVB.out)
        have CL := Lib.hid (show (∀ A c, evalR cols r (opE ⟨#[60]⟩ A c [a, b]) = ⟨9, noVal⟩) from fun A c => by
          rcases CMP.out A c none 0 with ⟨h1, h2, _⟩ | ⟨_, h, _⟩
          · rw [XA.out] at h1; rw [XB.out] at h2; first | (simp at h1; done) | (simp at h2; done)
          · exact h)
        have CG := Lib.hid (show (∀ A c, evalR cols r (opE ⟨#[62, 61]⟩ A c [a, b]) = ⟨9, noVal⟩) from fun A c => by
          rcases CMP.out none 0 A c with ⟨h1, h2, _⟩ | ⟨_, _, h⟩
          · rw [XA.out] at h1; rw [XB.out] at h2; first | (simp at h1; done) | (simp at h2; done)
          · exact h)
        obtain ⟨y14, hy14⟩ : ∃ z, z13.alloc (.cells #[.string a.op, .string a.name, .int .i64 a.val.type, .int .i64 a.val.n, .string a.val.s, .slice a.A a.args.length a.c, .int .i64 a.pos, .string b.op, .string b.name, .int .i64 b.val.type, .int .i64 b.val.n, .string b.val.s, .slice b.A b.args.length b.c, .int .i64 b.pos] 44) = z := ⟨_, rfl⟩
        have by14 : Below z13.heap.size z13 y14 := by rw [← hy14]; exact below_new _ _ _
        have Ay14 : At y14 z13.heap.size #[.string a.op, .string a.name, .int .i64 a.val.type, .int .i64 a.val.n, .string a.val.s, .slice a.A a.args.length a.c, .int .i64 a.pos, .string b.op, .string b.name, .int .i64 b.val.type, .int .i64 b.val.n, .string b.val.s, .slice b.A b.args.length b.c, .int .i64 b.pos] 44 := by rw [← hy14]; exact at_new _ _ _
        have Sy14 : SeesEx y14 (opE ⟨#[60]⟩ (some ⟨z13.heap.size, 0, none⟩) 2 [a, b]) := by rw [← hy14]; exact seesOp z13 ⟨#[60]⟩ [a, b] (show (1 : Nat) ≤ maxLen by decide) (in2 ST13.out.sa ST13.out.sb) (show (2 : Nat) ≤ maxLen by decide)
        have SY14 := Lib.hid (ST13.out.keep by14)
        have TE0 : Calls Tryd.prog 32 #[.agg #[.string ⟨#[60]⟩, .string ⟨#[]⟩, .int .i64 0, .int .i64 0, .string ⟨#[]⟩, .slice (some ⟨z13.heap.size, 0, none⟩) 2 2, .int .i64 0], .slice C p q, .slice R y s] y14 _ := eval_any (opE ⟨#[60]⟩ (some ⟨z13.heap.size, 0, none⟩) 2 [a, b]) C R p q y s cols r y14 SY14.out.T SY14.out.C HS.out SY14.out.R HW.out Sy14
        rw [CL.out] at TE0
        have TE := Lib.hid TE0
        have Hy14 := Lib.hid hy14
        clear hy14
        have fa0 := ST13.out.ta.cell 0 _ rfl
        have fa1 := ST13.out.ta.cell 1 _ rfl
        have fa2 := ST13.out.ta.cell 2 _ rfl
        have fa3 := ST13.out.ta.cell 3 _ rfl
        have fa4 := ST13.out.ta.cell 4 _ rfl
        have fa5 := ST13.out.ta.cell 5 _ rfl
        have fa6 := ST13.out.ta.cell 6 _ rfl
        have fb0 := ST13.out.tb.cell 0 _ rfl
        have fb1 := ST13.out.tb.cell 1 _ rfl
        have fb2 := ST13.out.tb.cell 2 _ rfl
        have fb3 := ST13.out.tb.cell 3 _ rfl
        have fb4 := ST13.out.tb.cell 4 _ rfl
        have fb5 := ST13.out.tb.cell 5 _ rfl
        have fb6 := ST13.out.tb.cell 6 _ rfl
        have MV14 := Lib.hid (LV13.out.keep by14)
        clear TE0 Sy14 Ay14 by14
        go_wp2_with (first | rw [Hy14.out])
        refine (TE.out).mono ?_
        rintro e' v14 ⟨rfl, hb14⟩
        rw [E9.out]
        unfold valV noVal
        obtain ⟨z14, hz14⟩ : ∃ z, v14.alloc (.cells #[.int .i64 0, .int .i64 0, .string ⟨#[]⟩] 33) = z := ⟨_, rfl⟩
        have bz14 : Below v14.heap.size v14 z14 := by rw [← hz14]; exact below_new _ _ _
        have Az14 : At z14 v14.heap.size #[.int .i64 0, .int .i64 0, .string ⟨#[]⟩] 33 := by rw [← hz14]; exact at_new _ _ _
        have ST14 := Lib.hid ((SY14.out.keep hb14).keep bz14)
        have LV14 := Lib.hid ((MV14.out.keep hb14).keep bz14)
        have LP14 := Lib.hid Az14
        have HSelf14 := Lib.hid (self3 Az14)
        have bl14 := (Array.getElem?_eq_some_iff.1 Az14).1
        have sc140 := Az14.cell 0 _ rfl
        have sz140 := Az14.free 0
        have sc141 := Az14.cell 1 _ rfl
        have sz141 := Az14.free 1
        have sc142 := Az14.cell 2 _ rfl
        have sz142 := Az14.free 2
        have Hz14 := Lib.hid hz14
        clear hz14
        clear hb14 bz14 Az14 TE fa0 fa1 fa2 fa3 fa4 fa5 fa6 fb0 fb1 fb2 fb3 fb4 fb5 fb6 Hy14 SY14 MV14 LV13
        obtain ⟨y15, hy15⟩ : ∃ z, z14.alloc (.cells #[.string a.op, .string a.name, .int .i64 a.val.type, .int .i64 a.val.n, .string a.val.s, .slice a.A a.args.length a.c, .int .i64 a.pos, .string b.op, .string b.name, .int .i64 b.val.type, .int .i64 b.val.n, .string b.val.s, .slice b.A b.args.length b.c, .int .i64 b.pos] 44) = z := ⟨_, rfl⟩
        have by15 : Below z14.heap.size z14 y15 := by rw [← hy15]; exact below_new _ _ _
        have Ay15 : At y15 z14.heap.size #[.string a.op, .string a.name, .int .i64 a.val.type, .int .i64 a.val.n, .string a.val.s, .slice a.A a.args.length a.c, .int .i64 a.pos, .string b.op, .string b.name, .int .i64 b.val.type, .int .i64 b.val.n, .string b.val.s, .slice b.A b.args.length b.c, .int .i64 b.pos] 44 := by rw [← hy15]; exact at_new _ _ _
        have Sy15 : SeesEx y15 (opE ⟨#[62, 61]⟩ (some ⟨z14.heap.size, 0, none⟩) 2 [a, b]) := by rw [← hy15]; exact seesOp z14 ⟨#[62, 61]⟩ [a, b] (show (2 : Nat) ≤ maxLen by decide) (in2 ST14.out.sa ST14.out.sb) (show (2 : Nat) ≤ maxLen by decide)
        have SY15 := Lib.hid (ST14.out.keep by15)
        have TE0 : Calls Tryd.prog 32 #[.agg #[.string ⟨#[62, 61]⟩, .string ⟨#[]⟩, .int .i64 0, .int .i64 0, .string ⟨#[]⟩, .slice (some ⟨z14.heap.size, 0, none⟩) 2 2, .int .i64 0], .slice C p q, .slice R y s] y15 _ := eval_any (opE ⟨#[62, 61]⟩ (some ⟨z14.heap.size, 0, none⟩) 2 [a, b]) C R p q y s cols r y15 SY15.out.T SY15.out.C HS.out SY15.out.R HW.out Sy15
        rw [CG.out] at TE0
        have TE := Lib.hid TE0
        have Hy15 := Lib.hid hy15
        clear hy15
        have fa0 := ST14.out.ta.cell 0 _ rfl
        have fa1 := ST14.out.ta.cell 1 _ rfl
        have fa2 := ST14.out.ta.cell 2 _ rfl
        have fa3 := ST14.out.ta.cell 3 _ rfl
        have fa4 := ST14.out.ta.cell 4 _ rfl
        have fa5 := ST14.out.ta.cell 5 _ rfl
        have fa6 := ST14.out.ta.cell 6 _ rfl
        have fb0 := ST14.out.tb.cell 0 _ rfl
        have fb1 := ST14.out.tb.cell 1 _ rfl
        have fb2 := ST14.out.tb.cell 2 _ rfl
        have fb3 := ST14.out.tb.cell 3 _ rfl
        have fb4 := ST14.out.tb.cell 4 _ rfl
        have fb5 := ST14.out.tb.cell 5 _ rfl
        have fb6 := ST14.out.tb.cell 6 _ rfl
        have MV15 := Lib.hid (LV14.out.keep by15)
        have MP15 := Lib.hid (LP14.out.keep by15)
        clear TE0 Sy15 Ay15 by15
        go_wp2_with (first | rw [Hz14.out] | rw [HSelf14.out] | rw [Hy15.out])
        refine (TE.out).mono ?_
        rintro e' v15 ⟨rfl, hb15⟩
        rw [E9.out]
        unfold valV noVal
        obtain ⟨z15, hz15⟩ : ∃ z, v15.alloc (.cells #[.int .i64 0, .int .i64 0, .string ⟨#[]⟩] 33) = z := ⟨_, rfl⟩
        have bz15 : Below v15.heap.size v15 z15 := by rw [← hz15]; exact below_new _ _ _
        have Az15 : At z15 v15.heap.size #[.int .i64 0, .int .i64 0, .string ⟨#[]⟩] 33 := by rw [← hz15]; exact at_new _ _ _
        have ST15 := Lib.hid ((SY15.out.keep hb15).keep bz15)
        have LV15 := Lib.hid ((MV15.out.keep hb15).keep bz15)
        have LP15 := Lib.hid ((MP15.out.keep hb15).keep bz15)
        have LQ15 := Lib.hid Az15
        have HSelf15 := Lib.hid (self3 Az15)
        have bl15 := (Array.getElem?_eq_some_iff.1 Az15).1
        have sc150 := Az15.cell 0 _ rfl
        have sz150 := Az15.free 0
        have sc151 := Az15.cell 1 _ rfl
        have sz151 := Az15.free 1
        have sc152 := Az15.cell 2 _ rfl
        have sz152 := Az15.free 2
        have Hz15 := Lib.hid hz15
        clear hz15
        clear hb15 bz15 Az15 TE fa0 fa1 fa2 fa3 fa4 fa5 fa6 fb0 fb1 fb2 fb3 fb4 fb5 fb6 Hy15 SY15 MV15 MP15 LV14 LP14
        have qp := LP15.out.cell 1 _ rfl
        have qq := LQ15.out.cell 1 _ rfl
        go_wp2_with (first | rw [Hz15.out] | rw [HSelf15.out])
        go_quiet (fail)
        have ST16 := Lib.hid (ST15.out.keep (below_drewN (Below.refl _ _) nq))
        have LV16 := Lib.hid (LV15.out.keep (below_drewN (Below.refl _ _) nq))
        generalize z15.drewN nq = z16 at ST16 LV16 ⊢
        clear qp qq LP15 LQ15 LV15
        by_cases ht2 : ta = 2
        rotate_left
        · have e2 : (ta != 2) = true := by simpa using ht2
          clear ht2
          go_wp2_with fail
          go_ret
          exact ⟨rfl, ST16.out.bl⟩
        have HT2 := Lib.hid (TTA.out.trans ht2)
        subst ht2
        obtain ⟨y30, hy30⟩ : ∃ z, z16.alloc (.cells #[.string ⟨#[118, 97, 108]⟩, .string ⟨#[]⟩, .int .i64 2, .int .i64 0, .string ⟨#[]⟩, .slice none 0 0, .int .i64 0, .string a.op, .string a.name, .int .i64 a.val.type, .int .i64 a.val.n, .string a.val.s, .slice a.A a.args.length a.c, .int .i64 a.pos] 44) = z := ⟨_, rfl⟩
        have by30 : Below z16.heap.size z16 y30 := by rw [← hy30]; exact below_new _ _ _
        have Ay30 : At y30 z16.heap.size #[.string ⟨#[118, 97, 108]⟩, .string ⟨#[]⟩, .int .i64 2, .int .i64 0, .string ⟨#[]⟩, .slice none 0 0, .int .i64 0, .string a.op, .string a.name, .int .i64 a.val.type, .int .i64 a.val.n, .string a.val.s, .slice a.A a.args.length a.c, .int .i64 a.pos] 44 := by rw [← hy30]; exact at_new _ _ _
        have Sy30 : SeesEx y30 (opE ⟨#[97, 110, 100]⟩ (some ⟨z16.heap.size, 0, none⟩) 2 [litE false, a]) := by rw [← hy30]; exact seesOp z16 ⟨#[97, 110, 100]⟩ [litE false, a] (show (3 : Nat) ≤ maxLen by decide) (in2 (lit_seen _ _) ST16.out.sa) (show (2 : Nat) ≤ maxLen by decide)
        have SY30 := Lib.hid (ST16.out.keep by30)
        have TE0 : Calls Tryd.prog 32 #[.agg #[.string ⟨#[97, 110, 100]⟩, .string ⟨#[]⟩, .int .i64 0, .int .i64 0, .string ⟨#[]⟩, .slice (some ⟨z16.heap.size, 0, none⟩) 2 2, .int .i64 0], .slice C p q, .slice R y s] y30 _ := eval_any (opE ⟨#[97, 110, 100]⟩ (some ⟨z16.heap.size, 0, none⟩) 2 [litE false, a]) C R p q y s cols r y30 SY30.out.T SY30.out.C HS.out SY30.out.R HW.out Sy30
        rw [and_no POK.out.1 (by have := POK.out.2.2; omega) SCH.out HRE.out HT2.out] at TE0
        have TE := Lib.hid TE0
        have Hy30 := Lib.hid hy30
        clear hy30
        have fa0 := ST16.out.ta.cell 0 _ rfl
        have fa1 := ST16.out.ta.cell 1 _ rfl
        have fa2 := ST16.out.ta.cell 2 _ rfl
        have fa3 := ST16.out.ta.cell 3 _ rfl
        have fa4 := ST16.out.ta.cell 4 _ rfl
        have fa5 := ST16.out.ta.cell 5 _ rfl
        have fa6 := ST16.out.ta.cell 6 _ rfl
        have fn0 := ST16.out.tn.cell 0 _ rfl
        have fn1 := ST16.out.tn.cell 1 _ rfl
        have fn2 := ST16.out.tn.cell 2 _ rfl
        have fn3 := ST16.out.tn.cell 3 _ rfl
        have fn4 := ST16.out.tn.cell 4 _ rfl
        have fn5 := ST16.out.tn.cell 5 _ rfl
        have fn6 := ST16.out.tn.cell 6 _ rfl
        have MV30 := Lib.hid (LV16.out.keep by30)
        clear TE0 Sy30 Ay30 by30
        go_wp2_with (first | rw [Hy30.out])
        refine (TE.out).mono ?_
        rintro e' v30 ⟨rfl, hb30⟩
        obtain ⟨z30, hz30⟩ : ∃ z, v30.alloc (.cells #[.int .i64 2, .int .i64 0, .string ⟨#[]⟩] 33) = z := ⟨_, rfl⟩
        have bz30 : Below v30.heap.size v30 z30 := by rw [← hz30]; exact below_new _ _ _
        have Az30 : At z30 v30.heap.size #[.int .i64 2, .int .i64 0, .string ⟨#[]⟩] 33 := by rw [← hz30]; exact at_new _ _ _
        have ST30 := Lib.hid ((SY30.out.keep hb30).keep bz30)
        have LV30 := Lib.hid ((MV30.out.keep hb30).keep bz30)
        have LI30 := Lib.hid Az30
        have Hz30 := Lib.hid hz30
        clear hz30
        clear hb30 bz30 Az30 TE fa0 fa1 fa2 fa3 fa4 fa5 fa6 fn0 fn1 fn2 fn3 fn4 fn5 fn6 Hy30 SY30 MV30 LV16
        unfold valV
        rw [errV_zero]
        unfold truthV
        obtain ⟨y31, hy31⟩ : ∃ z, z30.alloc (.cells #[.string ⟨#[118, 97, 108]⟩, .string ⟨#[]⟩, .int .i64 2, .int .i64 1, .string ⟨#[]⟩, .slice none 0 0, .int .i64 0, .string a.op, .string a.name, .int .i64 a.val.type, .int .i64 a.val.n, .string a.val.s, .slice a.A a.args.length a.c, .int .i64 a.pos] 44) = z := ⟨_, rfl⟩
        have by31 : Below z30.heap.size z30 y31 := by rw [← hy31]; exact below_new _ _ _
        have Ay31 : At y31 z30.heap.size #[.string ⟨#[118, 97, 108]⟩, .string ⟨#[]⟩, .int .i64 2, .int .i64 1, .string ⟨#[]⟩, .slice none 0 0, .int .i64 0, .string a.op, .string a.name, .int .i64 a.val.type, .int .i64 a.val.n, .string a.val.s, .slice a.A a.args.length a.c, .int .i64 a.pos] 44 := by rw [← hy31]; exact at_new _ _ _
        have Sy31 : SeesEx y31 (opE ⟨#[111, 114]⟩ (some ⟨z30.heap.size, 0, none⟩) 2 [litE true, a]) := by rw [← hy31]; exact seesOp z30 ⟨#[111, 114]⟩ [litE true, a] (show (2 : Nat) ≤ maxLen by decide) (in2 (lit_seen _ _) ST30.out.sa) (show (2 : Nat) ≤ maxLen by decide)
        have SY31 := Lib.hid (ST30.out.keep by31)
        have TE0 : Calls Tryd.prog 32 #[.agg #[.string ⟨#[111, 114]⟩, .string ⟨#[]⟩, .int .i64 0, .int .i64 0, .string ⟨#[]⟩, .slice (some ⟨z30.heap.size, 0, none⟩) 2 2, .int .i64 0], .slice C p q, .slice R y s] y31 _ := eval_any (opE ⟨#[111, 114]⟩ (some ⟨z30.heap.size, 0, none⟩) 2 [litE true, a]) C R p q y s cols r y31 SY31.out.T SY31.out.C HS.out SY31.out.R HW.out Sy31
        rw [or_yes POK.out.1 (by have := POK.out.2.2; omega) SCH.out HRE.out HT2.out] at TE0
        have TE := Lib.hid TE0
        have Hy31 := Lib.hid hy31
        clear hy31
        have fa0 := ST30.out.ta.cell 0 _ rfl
        have fa1 := ST30.out.ta.cell 1 _ rfl
        have fa2 := ST30.out.ta.cell 2 _ rfl
        have fa3 := ST30.out.ta.cell 3 _ rfl
        have fa4 := ST30.out.ta.cell 4 _ rfl
        have fa5 := ST30.out.ta.cell 5 _ rfl
        have fa6 := ST30.out.ta.cell 6 _ rfl
        have fy0 := ST30.out.ty.cell 0 _ rfl
        have fy1 := ST30.out.ty.cell 1 _ rfl
        have fy2 := ST30.out.ty.cell 2 _ rfl
        have fy3 := ST30.out.ty.cell 3 _ rfl
        have fy4 := ST30.out.ty.cell 4 _ rfl
        have fy5 := ST30.out.ty.cell 5 _ rfl
        have fy6 := ST30.out.ty.cell 6 _ rfl
        have MV31 := Lib.hid (LV30.out.keep by31)
        have MI31 := Lib.hid (LI30.out.keep by31)
        clear TE0 Sy31 Ay31 by31
        go_wp2_with (first | rw [Hz30.out] | rw [Hy31.out])
        refine (TE.out).mono ?_
        rintro e' v31 ⟨rfl, hb31⟩
        obtain ⟨z31, hz31⟩ : ∃ z, v31.alloc (.cells #[.int .i64 2, .int .i64 1, .string ⟨#[]⟩] 33) = z := ⟨_, rfl⟩
        have bz31 : Below v31.heap.size v31 z31 := by rw [← hz31]; exact below_new _ _ _
        have Az31 : At z31 v31.heap.size #[.int .i64 2, .int .i64 1, .string ⟨#[]⟩] 33 := by rw [← hz31]; exact at_new _ _ _
        have ST31 := Lib.hid ((SY31.out.keep hb31).keep bz31)
        have LV31 := Lib.hid ((MV31.out.keep hb31).keep bz31)
        have LI31 := Lib.hid ((MI31.out.keep hb31).keep bz31)
        have LJ31 := Lib.hid Az31
        have Hz31 := Lib.hid hz31
        clear hz31
        clear hb31 bz31 Az31 TE fa0 fa1 fa2 fa3 fa4 fa5 fa6 fy0 fy1 fy2 fy3 fy4 fy5 fy6 Hy31 SY31 MV31 MI31 LV30 LI30
        unfold valV
        rw [errV_zero]
        unfold truthV
        obtain ⟨y32, hy32⟩ : ∃ z, z31.alloc (.cells #[.string ⟨#[118, 97, 108]⟩, .string ⟨#[]⟩, .int .i64 2, .int .i64 1, .string ⟨#[]⟩, .slice none 0 0, .int .i64 0, .string a.op, .string a.name, .int .i64 a.val.type, .int .i64 a.val.n, .string a.val.s, .slice a.A a.args.length a.c, .int .i64 a.pos] 44) = z := ⟨_, rfl⟩
        have by32 : Below z31.heap.size z31 y32 := by rw [← hy32]; exact below_new _ _ _
        have Ay32 : At y32 z31.heap.size #[.string ⟨#[118, 97, 108]⟩, .string ⟨#[]⟩, .int .i64 2, .int .i64 1, .string ⟨#[]⟩, .slice none 0 0, .int .i64 0, .string a.op, .string a.name, .int .i64 a.val.type, .int .i64 a.val.n, .string a.val.s, .slice a.A a.args.length a.c, .int .i64 a.pos] 44 := by rw [← hy32]; exact at_new _ _ _
        have Sy32 : SeesEx y32 (opE ⟨#[97, 110, 100]⟩ (some ⟨z31.heap.size, 0, none⟩) 2 [litE true, a]) := by rw [← hy32]; exact seesOp z31 ⟨#[97, 110, 100]⟩ [litE true, a] (show (3 : Nat) ≤ maxLen by decide) (in2 (lit_seen _ _) ST31.out.sa) (show (2 : Nat) ≤ maxLen by decide)
        have SY32 := Lib.hid (ST31.out.keep by32)
        have TE0 : Calls Tryd.prog 32 #[.agg #[.string ⟨#[97, 110, 100]⟩, .string ⟨#[]⟩, .int .i64 0, .int .i64 0, .string ⟨#[]⟩, .slice (some ⟨z31.heap.size, 0, none⟩) 2 2, .int .i64 0], .slice C p q, .slice R y s] y32 _ := eval_any (opE ⟨#[97, 110, 100]⟩ (some ⟨z31.heap.size, 0, none⟩) 2 [litE true, a]) C R p q y s cols r y32 SY32.out.T SY32.out.C HS.out SY32.out.R HW.out Sy32
        rw [and_yes POK.out.1 (by have := POK.out.2.2; omega) SCH.out HRE.out HT2.out EVA.out, XA.out] at TE0
        have TE := Lib.hid TE0
        have Hy32 := Lib.hid hy32
        clear hy32
        have fa0 := ST31.out.ta.cell 0 _ rfl
        have fa1 := ST31.out.ta.cell 1 _ rfl
        have fa2 := ST31.out.ta.cell 2 _ rfl
        have fa3 := ST31.out.ta.cell 3 _ rfl
        have fa4 := ST31.out.ta.cell 4 _ rfl
        have fa5 := ST31.out.ta.cell 5 _ rfl
        have fa6 := ST31.out.ta.cell 6 _ rfl
        have fy0 := ST31.out.ty.cell 0 _ rfl
        have fy1 := ST31.out.ty.cell 1 _ rfl
        have fy2 := ST31.out.ty.cell 2 _ rfl
        have fy3 := ST31.out.ty.cell 3 _ rfl
        have fy4 := ST31.out.ty.cell 4 _ rfl
        have fy5 := ST31.out.ty.cell 5 _ rfl
        have fy6 := ST31.out.ty.cell 6 _ rfl
        have MV32 := Lib.hid (LV31.out.keep by32)
        have MI32 := Lib.hid (LI31.out.keep by32)
        have MJ32 := Lib.hid (LJ31.out.keep by32)
        clear TE0 Sy32 Ay32 by32
        go_wp2_with (first | rw [Hz31.out] | rw [Hy32.out])
        refine (TE.out).mono ?_
        rintro e' v32 ⟨rfl, hb32⟩
        obtain ⟨z32, hz32⟩ : ∃ z, v32.alloc (.cells #[.int .i64 av.type, .int .i64 av.n, .string av.s] 33) = z := ⟨_, rfl⟩
        have bz32 : Below v32.heap.size v32 z32 := by rw [← hz32]; exact below_new _ _ _
        have Az32 : At z32 v32.heap.size #[.int .i64 av.type, .int .i64 av.n, .string av.s] 33 := by rw [← hz32]; exact at_new _ _ _
        have ST32 := Lib.hid ((SY32.out.keep hb32).keep bz32)
        have LV32 := Lib.hid ((MV32.out.keep hb32).keep bz32)
        have LI32 := Lib.hid ((MI32.out.keep hb32).keep bz32)
        have LJ32 := Lib.hid ((MJ32.out.keep hb32).keep bz32)
        have LK32 := Lib.hid Az32
        have Hz32 := Lib.hid hz32
        clear hz32
        clear hb32 bz32 Az32 TE fa0 fa1 fa2 fa3 fa4 fa5 fa6 fy0 fy1 fy2 fy3 fy4 fy5 fy6 Hy32 SY32 MV32 MI32 MJ32 LV31 LI31 LJ31
        unfold valV
        rw [errV_zero]
        have q1 := LI32.out.cell 1 _ rfl
        have q2 := LJ32.out.cell 1 _ rfl
        have qv0 := LV32.out.cell 0 _ rfl
        have qk0 := LK32.out.cell 0 _ rfl
        have qv1 := LV32.out.cell 1 _ rfl
        have qk1 := LK32.out.cell 1 _ rfl
        have qv2 := LV32.out.cell 2 _ rfl
        have qk2 := LK32.out.cell 2 _ rfl
        go_wp2_with (first | rw [Hz32.out])
        go_quiet (fail)
        have BLZ := Lib.hid (below_drewN ST32.out.bl nq)
        generalize z32.drewN nq = wz at BLZ ⊢
        go_wp2_with fail
        go_ret
        exact ⟨by simp, BLZ.out⟩
    · subst hak
      rw [E9.out]
      rcases HBK.out with hbk | hbk
      · subst hbk
        rw [errV_zero]
        by_cases htt : ta = tb
        rotate_left
        · have e1 : (ta == tb) = false := by simpa using htt
          clear htt
          by_cases ht2 : ta = 2
          rotate_left
          · have e2 : (ta != 2) = true := by simpa using ht2
            clear ht2
            go_wp2_with (first | rw [Hz10.out])
            go_ret
            exact ⟨rfl, ST10.out.bl⟩
          have HT2 := Lib.hid (TTA.out.trans ht2)
          subst ht2
          obtain ⟨y30, hy30⟩ : ∃ z, z10.alloc (.cells #[.string ⟨#[118, 97, 108]⟩, .string ⟨#[]⟩, .int .i64 2, .int .i64 0, .string ⟨#[]⟩, .slice none 0 0, .int .i64 0, .string a.op, .string a.name, .int .i64 a.val.type, .int .i64 a.val.n, .string a.val.s, .slice a.A a.args.length a.c, .int .i64 a.pos] 44) = z := ⟨_, rfl⟩
          have by30 : Below z10.heap.size z10 y30 := by rw [← hy30]; exact below_new _ _ _
          have Ay30 : At y30 z10.heap.size #[.string ⟨#[118, 97, 108]⟩, .string ⟨#[]⟩, .int .i64 2, .int .i64 0, .string ⟨#[]⟩, .slice none 0 0, .int .i64 0, .string a.op, .string a.name, .int .i64 a.val.type, .int .i64 a.val.n, .string a.val.s, .slice a.A a.args.length a.c, .int .i64 a.pos] 44 := by rw [← hy30]; exact at_new _ _ _
          have Sy30 : SeesEx y30 (opE ⟨#[97, 110, 100]⟩ (some ⟨z10.heap.size, 0, none⟩) 2 [litE false, a]) := by rw [← hy30]; exact seesOp z10 ⟨#[97, 110, 100]⟩ [litE false, a] (show (3 : Nat) ≤ maxLen by decide) (in2 (lit_seen _ _) ST10.out.sa) (show (2 : Nat) ≤ maxLen by decide)
          have SY30 := Lib.hid (ST10.out.keep by30)
          have TE0 : Calls Tryd.prog 32 #[.agg #[.string ⟨#[97, 110, 100]⟩, .string ⟨#[]⟩, .int .i64 0, .int .i64 0, .string ⟨#[]⟩, .slice (some ⟨z10.heap.size, 0, none⟩) 2 2, .int .i64 0], .slice C p q, .slice R y s] y30 _ := eval_any (opE ⟨#[97, 110, 100]⟩ (some ⟨z10.heap.size, 0, none⟩) 2 [litE false, a]) C R p q y s cols r y30 SY30.out.T SY30.out.C HS.out SY30.out.R HW.out Sy30
          rw [and_no POK.out.1 (by have := POK.out.2.2; omega) SCH.out HRE.out HT2.out] at TE0
          have TE := Lib.hid TE0
          have Hy30 := Lib.hid hy30
          clear hy30
          have fa0 := ST10.out.ta.cell 0 _ rfl
          have fa1 := ST10.out.ta.cell 1 _ rfl
          have fa2 := ST10.out.ta.cell 2 _ rfl
          have fa3 := ST10.out.ta.cell 3 _ rfl
          have fa4 := ST10.out.ta.cell 4 _ rfl
          have fa5 := ST10.out.ta.cell 5 _ rfl
          have fa6 := ST10.out.ta.cell 6 _ rfl
          have fn0 := ST10.out.tn.cell 0 _ rfl
          have fn1 := ST10.out.tn.cell 1 _ rfl
          have fn2 := ST10.out.tn.cell 2 _ rfl
          have fn3 := ST10.out.tn.cell 3 _ rfl
          have fn4 := ST10.out.tn.cell 4 _ rfl
          have fn5 := ST10.out.tn.cell 5 _ rfl
          have fn6 := ST10.out.tn.cell 6 _ rfl
          have MV30 := Lib.hid (LV10.out.keep by30)
          clear TE0 Sy30 Ay30 by30
          go_wp2_with (first | rw [Hz10.out] | rw [Hy30.out])
          refine (TE.out).mono ?_
          rintro e' v30 ⟨rfl, hb30⟩
          obtain ⟨z30, hz30⟩ : ∃ z, v30.alloc (.cells #[.int .i64 2, .int .i64 0, .string ⟨#[]⟩] 33) = z := ⟨_, rfl⟩
          have bz30 : Below v30.heap.size v30 z30 := by rw [← hz30]; exact below_new _ _ _
          have Az30 : At z30 v30.heap.size #[.int .i64 2, .int .i64 0, .string ⟨#[]⟩] 33 := by rw [← hz30]; exact at_new _ _ _
          have ST30 := Lib.hid ((SY30.out.keep hb30).keep bz30)
          have LV30 := Lib.hid ((MV30.out.keep hb30).keep bz30)
          have LI30 := Lib.hid Az30
          have Hz30 := Lib.hid hz30
          clear hz30
          clear hb30 bz30 Az30 TE fa0 fa1 fa2 fa3 fa4 fa5 fa6 fn0 fn1 fn2 fn3 fn4 fn5 fn6 Hy30 SY30 MV30 LV10
          unfold valV
          rw [errV_zero]
          unfold truthV
          obtain ⟨y31, hy31⟩ : ∃ z, z30.alloc (.cells #[.string ⟨#[118, 97, 108]⟩, .string ⟨#[]⟩, .int .i64 2, .int .i64 1, .string ⟨#[]⟩, .slice none 0 0, .int .i64 0, .string a.op, .string a.name, .int .i64 a.val.type, .int .i64 a.val.n, .string a.val.s, .slice a.A a.args.length a.c, .int .i64 a.pos] 44) = z := ⟨_, rfl⟩
          have by31 : Below z30.heap.size z30 y31 := by rw [← hy31]; exact below_new _ _ _
          have Ay31 : At y31 z30.heap.size #[.string ⟨#[118, 97, 108]⟩, .string ⟨#[]⟩, .int .i64 2, .int .i64 1, .string ⟨#[]⟩, .slice none 0 0, .int .i64 0, .string a.op, .string a.name, .int .i64 a.val.type, .int .i64 a.val.n, .string a.val.s, .slice a.A a.args.length a.c, .int .i64 a.pos] 44 := by rw [← hy31]; exact at_new _ _ _
          have Sy31 : SeesEx y31 (opE ⟨#[111, 114]⟩ (some ⟨z30.heap.size, 0, none⟩) 2 [litE true, a]) := by rw [← hy31]; exact seesOp z30 ⟨#[111, 114]⟩ [litE true, a] (show (2 : Nat) ≤ maxLen by decide) (in2 (lit_seen _ _) ST30.out.sa) (show (2 : Nat) ≤ maxLen by decide)
          have SY31 := Lib.hid (ST30.out.keep by31)
          have TE0 : Calls Tryd.prog 32 #[.agg #[.string ⟨#[111, 114]⟩, .string ⟨#[]⟩, .int .i64 0, .int .i64 0, .string ⟨#[]⟩, .slice (some ⟨z30.heap.size, 0, none⟩) 2 2, .int .i64 0], .slice C p q, .slice R y s] y31 _ := eval_any (opE ⟨#[111, 114]⟩ (some ⟨z30.heap.size, 0, none⟩) 2 [litE true, a]) C R p q y s cols r y31 SY31.out.T SY31.out.C HS.out SY31.out.R HW.out Sy31
          rw [or_yes POK.out.1 (by have := POK.out.2.2; omega) SCH.out HRE.out HT2.out] at TE0
          have TE := Lib.hid TE0
          have Hy31 := Lib.hid hy31
          clear hy31
          have fa0 := ST30.out.ta.cell 0 _ rfl
          have fa1 := ST30.out.ta.cell 1 _ rfl
          have fa2 := ST30.out.ta.cell 2 _ rfl
          have fa3 := ST30.out.ta.cell 3 _ rfl
          have fa4 := ST30.out.ta.cell 4 _ rfl
          have fa5 := ST30.out.ta.cell 5 _ rfl
          have fa6 := ST30.out.ta.cell 6 _ rfl
          have fy0 := ST30.out.ty.cell 0 _ rfl
          have fy1 := ST30.out.ty.cell 1 _ rfl
          have fy2 := ST30.out.ty.cell 2 _ rfl
          have fy3 := ST30.out.ty.cell 3 _ rfl
          have fy4 := ST30.out.ty.cell 4 _ rfl
          have fy5 := ST30.out.ty.cell 5 _ rfl
          have fy6 := ST30.out.ty.cell 6 _ rfl
          have MV31 := Lib.hid (LV30.out.keep by31)
          have MI31 := Lib.hid (LI30.out.keep by31)
          clear TE0 Sy31 Ay31 by31
          go_wp2_with (first | rw [Hz30.out] | rw [Hy31.out])
          refine (TE.out).mono ?_
          rintro e' v31 ⟨rfl, hb31⟩
          obtain ⟨z31, hz31⟩ : ∃ z, v31.alloc (.cells #[.int .i64 2, .int .i64 1, .string ⟨#[]⟩] 33) = z := ⟨_, rfl⟩
          have bz31 : Below v31.heap.size v31 z31 := by rw [← hz31]; exact below_new _ _ _
          have Az31 : At z31 v31.heap.size #[.int .i64 2, .int .i64 1, .string ⟨#[]⟩] 33 := by rw [← hz31]; exact at_new _ _ _
          have ST31 := Lib.hid ((SY31.out.keep hb31).keep bz31)
          have LV31 := Lib.hid ((MV31.out.keep hb31).keep bz31)
          have LI31 := Lib.hid ((MI31.out.keep hb31).keep bz31)
          have LJ31 := Lib.hid Az31
          have Hz31 := Lib.hid hz31
          clear hz31
          clear hb31 bz31 Az31 TE fa0 fa1 fa2 fa3 fa4 fa5 fa6 fy0 fy1 fy2 fy3 fy4 fy5 fy6 Hy31 SY31 MV31 MI31 LV30 LI30
          unfold valV
          rw [errV_zero]
          unfold truthV
          obtain ⟨y32, hy32⟩ : ∃ z, z31.alloc (.cells #[.string ⟨#[118, 97, 108]⟩, .string ⟨#[]⟩, .int .i64 2, .int .i64 1, .string ⟨#[]⟩, .slice none 0 0, .int .i64 0, .string a.op, .string a.name, .int .i64 a.val.type, .int .i64 a.val.n, .string a.val.s, .slice a.A a.args.length a.c, .int .i64 a.pos] 44) = z := ⟨_, rfl⟩
          have by32 : Below z31.heap.size z31 y32 := by rw [← hy32]; exact below_new _ _ _
          have Ay32 : At y32 z31.heap.size #[.string ⟨#[118, 97, 108]⟩, .string ⟨#[]⟩, .int .i64 2, .int .i64 1, .string ⟨#[]⟩, .slice none 0 0, .int .i64 0, .string a.op, .string a.name, .int .i64 a.val.type, .int .i64 a.val.n, .string a.val.s, .slice a.A a.args.length a.c, .int .i64 a.pos] 44 := by rw [← hy32]; exact at_new _ _ _
          have Sy32 : SeesEx y32 (opE ⟨#[97, 110, 100]⟩ (some ⟨z31.heap.size, 0, none⟩) 2 [litE true, a]) := by rw [← hy32]; exact seesOp z31 ⟨#[97, 110, 100]⟩ [litE true, a] (show (3 : Nat) ≤ maxLen by decide) (in2 (lit_seen _ _) ST31.out.sa) (show (2 : Nat) ≤ maxLen by decide)
          have SY32 := Lib.hid (ST31.out.keep by32)
          have TE0 : Calls Tryd.prog 32 #[.agg #[.string ⟨#[97, 110, 100]⟩, .string ⟨#[]⟩, .int .i64 0, .int .i64 0, .string ⟨#[]⟩, .slice (some ⟨z31.heap.size, 0, none⟩) 2 2, .int .i64 0], .slice C p q, .slice R y s] y32 _ := eval_any (opE ⟨#[97, 110, 100]⟩ (some ⟨z31.heap.size, 0, none⟩) 2 [litE true, a]) C R p q y s cols r y32 SY32.out.T SY32.out.C HS.out SY32.out.R HW.out Sy32
          rw [and_yes POK.out.1 (by have := POK.out.2.2; omega) SCH.out HRE.out HT2.out EVA.out, XA.out] at TE0
          have TE := Lib.hid TE0
          have Hy32 := Lib.hid hy32
          clear hy32
          have fa0 := ST31.out.ta.cell 0 _ rfl
          have fa1 := ST31.out.ta.cell 1 _ rfl
          have fa2 := ST31.out.ta.cell 2 _ rfl
          have fa3 := ST31.out.ta.cell 3 _ rfl
          have fa4 := ST31.out.ta.cell 4 _ rfl
          have fa5 := ST31.out.ta.cell 5 _ rfl
          have fa6 := ST31.out.ta.cell 6 _ rfl
          have fy0 := ST31.out.ty.cell 0 _ rfl
          have fy1 := ST31.out.ty.cell 1 _ rfl
          have fy2 := ST31.out.ty.cell 2 _ rfl
          have fy3 := ST31.out.ty.cell 3 _ rfl
          have fy4 := ST31.out.ty.cell 4 _ rfl
          have fy5 := ST31.out.ty.cell 5 _ rfl
          have fy6 := ST31.out.ty.cell 6 _ rfl
          have MV32 := Lib.hid (LV31.out.keep by32)
          have MI32 := Lib.hid (LI31.out.keep by32)
          have MJ32 := Lib.hid (LJ31.out.keep by32)
          clear TE0 Sy32 Ay32 by32
          go_wp2_with (first | rw [Hz31.out] | rw [Hy32.out])
          refine (TE.out).mono ?_
          rintro e' v32 ⟨rfl, hb32⟩
          obtain ⟨z32, hz32⟩ : ∃ z, v32.alloc (.cells #[.int .i64 av.type, .int .i64 av.n, .string av.s] 33) = z := ⟨_, rfl⟩
          have bz32 : Below v32.heap.size v32 z32 := by rw [← hz32]; exact below_new _ _ _
          have Az32 : At z32 v32.heap.size #[.int .i64 av.type, .int .i64 av.n, .string av.s] 33 := by rw [← hz32]; exact at_new _ _ _
          have ST32 := Lib.hid ((SY32.out.keep hb32).keep bz32)
          have LV32 := Lib.hid ((MV32.out.keep hb32).keep bz32)
          have LI32 := Lib.hid ((MI32.out.keep hb32).keep bz32)
          have LJ32 := Lib.hid ((MJ32.out.keep hb32).keep bz32)
          have LK32 := Lib.hid Az32
          have Hz32 := Lib.hid hz32
          clear hz32
          clear hb32 bz32 Az32 TE fa0 fa1 fa2 fa3 fa4 fa5 fa6 fy0 fy1 fy2 fy3 fy4 fy5 fy6 Hy32 SY32 MV32 MI32 MJ32 LV31 LI31 LJ31
          unfold valV
          rw [E9.out]
          have q1 := LI32.out.cell 1 _ rfl
          have q2 := LJ32.out.cell 1 _ rfl
          have qv0 := LV32.out.cell 0 _ rfl
          have qk0 := LK32.out.cell 0 _ rfl
          have qv1 := LV32.out.cell 1 _ rfl
          have qk1 := LK32.out.cell 1 _ rfl
          have qv2 := LV32.out.cell 2 _ rfl
          have qk2 := LK32.out.cell 2 _ rfl
          go_wp2_with (first | rw [Hz32.out])
          go_quiet (fail)
          have BLZ := Lib.hid (below_drewN ST32.out.bl nq)
          generalize z32.drewN nq = wz at BLZ ⊢
          go_wp2_with fail
          go_ret
          exact ⟨by simp, BLZ.out⟩
        subst htt
        have TAB := Lib.hid (TTA.out.trans TTB.out.symm)
        obtain ⟨y11, hy11⟩ : ∃ z, z10.alloc (.cells #[.string ⟨#[118, 97, 108]⟩, .string ⟨#[]⟩, .int .i64 2, .int .i64 1, .string ⟨#[]⟩, .slice none 0 0, .int .i64 0, .string a.op, .string a.name, .int .i64 a.val.type, .int .i64 a.val.n, .string a.val.s, .slice a.A a.args.length a.c, .int .i64 a.pos, .string b.op, .string b.name, .int .i64 b.val.type, .int .i64 b.val.n, .string b.val.s, .slice b.A b.args.length b.c, .int .i64 b.pos] 44) = z := ⟨_, rfl⟩
        have by11 : Below z10.heap.size z10 y11 := by rw [← hy11]; exact below_new _ _ _
        have Ay11 : At y11 z10.heap.size #[.string ⟨#[118, 97, 108]⟩, .string ⟨#[]⟩, .int .i64 2, .int .i64 1, .string ⟨#[]⟩, .slice none 0 0, .int .i64 0, .string a.op, .string a.name, .int .i64 a.val.type, .int .i64 a.val.n, .string a.val.s, .slice a.A a.args.length a.c, .int .i64 a.pos, .string b.op, .string b.name, .int .i64 b.val.type, .int .i64 b.val.n, .string b.val.s, .slice b.A b.args.length b.c, .int .i64 b.pos] 44 := by rw [← hy11]; exact at_new _ _ _
        have Sy11 : SeesEx y11 (opE ⟨#[105, 102]⟩ (some ⟨z10.heap.size, 0, none⟩) 3 [litE true, a, b]) := by rw [← hy11]; exact seesOp z10 ⟨#[105, 102]⟩ [litE true, a, b] (show (2 : Nat) ≤ maxLen by decide) (in3 (lit_seen _ _) ST10.out.sa ST10.out.sb) (show (3 : Nat) ≤ maxLen by decide)
        have SY11 := Lib.hid (ST10.out.keep by11)
        have TE0 : Calls Tryd.prog 32 #[.agg #[.string ⟨#[105, 102]⟩, .string ⟨#[]⟩, .int .i64 0, .int .i64 0, .string ⟨#[]⟩, .slice (some ⟨z10.heap.size, 0, none⟩) 3 3, .int .i64 0], .slice C p q, .slice R y s] y11 _ := eval_any (opE ⟨#[105, 102]⟩ (some ⟨z10.heap.size, 0, none⟩) 3 [litE true, a, b]) C R p q y s cols r y11 SY11.out.T SY11.out.C HS.out SY11.out.R HW.out Sy11
        rw [if_is true POK.out.1 POK.out.2.1 POK.out.2.2 SCH.out HRE.out TAB.out, if_pos rfl, XA.out] at TE0
        have TE := Lib.hid TE0
        have Hy11 := Lib.hid hy11
        clear hy11
        have fa0 := ST10.out.ta.cell 0 _ rfl
        have fa1 := ST10.out.ta.cell 1 _ rfl
        have fa2 := ST10.out.ta.cell 2 _ rfl
        have fa3 := ST10.out.ta.cell 3 _ rfl
        have fa4 := ST10.out.ta.cell 4 _ rfl
        have fa5 := ST10.out.ta.cell 5 _ rfl
        have fa6 := ST10.out.ta.cell 6 _ rfl
        have fb0 := ST10.out.tb.cell 0 _ rfl
        have fb1 := ST10.out.tb.cell 1 _ rfl
        have fb2 := ST10.out.tb.cell 2 _ rfl
        have fb3 := ST10.out.tb.cell 3 _ rfl
        have fb4 := ST10.out.tb.cell 4 _ rfl
        have fb5 := ST10.out.tb.cell 5 _ rfl
        have fb6 := ST10.out.tb.cell 6 _ rfl
        have fy0 := ST10.out.ty.cell 0 _ rfl
        have fy1 := ST10.out.ty.cell 1 _ rfl
        have fy2 := ST10.out.ty.cell 2 _ rfl
        have fy3 := ST10.out.ty.cell 3 _ rfl
        have fy4 := ST10.out.ty.cell 4 _ rfl
        have fy5 := ST10.out.ty.cell 5 _ rfl
        have fy6 := ST10.out.ty.cell 6 _ rfl
        have MV11 := Lib.hid (LV10.out.keep by11)
        have MW11 := Lib.hid (LW10.out.keep by11)
        clear TE0 Sy11 Ay11 by11
        go_wp2_with (first | rw [Hz10.out] | rw [Hy11.out])
        refine (TE.out).mono ?_
        rintro e' v11 ⟨rfl, hb11⟩
        obtain ⟨z11, hz11⟩ : ∃ z, v11.alloc (.cells #[.int .i64 av.type, .int .i64 av.n, .string av.s] 33) = z := ⟨_, rfl⟩
        have bz11 : Below v11.heap.size v11 z11 := by rw [← hz11]; exact below_new _ _ _
        have Az11 : At z11 v11.heap.size #[.int .i64 av.type, .int .i64 av.n, .string av.s] 33 := by rw [← hz11]; exact at_new _ _ _
        have ST11 := Lib.hid ((SY11.out.keep hb11).keep bz11)
        have LV11 := Lib.hid ((MV11.out.keep hb11).keep bz11)
        have LW11 := Lib.hid ((MW11.out.keep hb11).keep bz11)
        have LX11 := Lib.hid Az11
        have Hz11 := Lib.hid hz11
        clear hz11
        clear hb11 bz11 Az11 TE fa0 fa1 fa2 fa3 fa4 fa5 fa6 fb0 fb1 fb2 fb3 fb4 fb5 fb6 fy0 fy1 fy2 fy3 fy4 fy5 fy6 Hy11 SY11 MV11 MW11 LV10 LW10
        unfold valV
        rw [E9.out]
        obtain ⟨y12, hy12⟩ : ∃ z, z11.alloc (.cells #[.string ⟨#[118, 97, 108]⟩, .string ⟨#[]⟩, .int .i64 2, .int .i64 0, .string ⟨#[]⟩, .slice none 0 0, .int .i64 0, .string a.op, .string a.name, .int .i64 a.val.type, .int .i64 a.val.n, .string a.val.s, .slice a.A a.args.length a.c, .int .i64 a.pos, .string b.op, .string b.name, .int .i64 b.val.type, .int .i64 b.val.n, .string b.val.s, .slice b.A b.args.length b.c, .int .i64 b.pos] 44) = z := ⟨_, rfl⟩
        have by12 : Below z11.heap.size z11 y12 := by rw [← hy12]; exact below_new _ _ _
        have Ay12 : At y12 z11.heap.size #[.string ⟨#[118, 97, 108]⟩, .string ⟨#[]⟩, .int .i64 2, .int .i64 0, .string ⟨#[]⟩, .slice none 0 0, .int .i64 0, .string a.op, .string a.name, .int .i64 a.val.type, .int .i64 a.val.n, .string a.val.s, .slice a.A a.args.length a.c, .int .i64 a.pos, .string b.op, .string b.name, .int .i64 b.val.type, .int .i64 b.val.n, .string b.val.s, .slice b.A b.args.length b.c, .int .i64 b.pos] 44 := by rw [← hy12]; exact at_new _ _ _
        have Sy12 : SeesEx y12 (opE ⟨#[105, 102]⟩ (some ⟨z11.heap.size, 0, none⟩) 3 [litE false, a, b]) := by rw [← hy12]; exact seesOp z11 ⟨#[105, 102]⟩ [litE false, a, b] (show (2 : Nat) ≤ maxLen by decide) (in3 (lit_seen _ _) ST11.out.sa ST11.out.sb) (show (3 : Nat) ≤ maxLen by decide)
        have SY12 := Lib.hid (ST11.out.keep by12)
        have TE0 : Calls Tryd.prog 32 #[.agg #[.string ⟨#[105, 102]⟩, .string ⟨#[]⟩, .int .i64 0, .int .i64 0, .string ⟨#[]⟩, .slice (some ⟨z11.heap.size, 0, none⟩) 3 3, .int .i64 0], .slice C p q, .slice R y s] y12 _ := eval_any (opE ⟨#[105, 102]⟩ (some ⟨z11.heap.size, 0, none⟩) 3 [litE false, a, b]) C R p q y s cols r y12 SY12.out.T SY12.out.C HS.out SY12.out.R HW.out Sy12
        rw [if_is false POK.out.1 POK.out.2.1 POK.out.2.2 SCH.out HRE.out TAB.out, if_neg (by decide), XB.out] at TE0
        have TE := Lib.hid TE0
        have Hy12 := Lib.hid hy12
        clear hy12
        have fa0 := ST11.out.ta.cell 0 _ rfl
        have fa1 := ST11.out.ta.cell 1 _ rfl
        have fa2 := ST11.out.ta.cell 2 _ rfl
        have fa3 := ST11.out.ta.cell 3 _ rfl
        have fa4 := ST11.out.ta.cell 4 _ rfl
        have fa5 := ST11.out.ta.cell 5 _ rfl
        have fa6 := ST11.out.ta.cell 6 _ rfl
        have fb0 := ST11.out.tb.cell 0 _ rfl
        have fb1 := ST11.out.tb.cell 1 _ rfl
        have fb2 := ST11.out.tb.cell 2 _ rfl
        have fb3 := ST11.out.tb.cell 3 _ rfl
        have fb4 := ST11.out.tb.cell 4 _ rfl
        have fb5 := ST11.out.tb.cell 5 _ rfl
        have fb6 := ST11.out.tb.cell 6 _ rfl
        have fn0 := ST11.out.tn.cell 0 _ rfl
        have fn1 := ST11.out.tn.cell 1 _ rfl
        have fn2 := ST11.out.tn.cell 2 _ rfl
        have fn3 := ST11.out.tn.cell 3 _ rfl
        have fn4 := ST11.out.tn.cell 4 _ rfl
        have fn5 := ST11.out.tn.cell 5 _ rfl
        have fn6 := ST11.out.tn.cell 6 _ rfl
        have MV12 := Lib.hid (LV11.out.keep by12)
        have MW12 := Lib.hid (LW11.out.keep by12)
        have MX12 := Lib.hid (LX11.out.keep by12)
        clear TE0 Sy12 Ay12 by12
        go_wp2_with (first | rw [Hz11.out] | rw [Hy12.out])
        refine (TE.out).mono ?_
        rintro e' v12 ⟨rfl, hb12⟩
        obtain ⟨z12, hz12⟩ : ∃ z, v12.alloc (.cells #[.int .i64 bv.type, .int .i64 bv.n, .string bv.s] 33) = z := ⟨_, rfl⟩
        have bz12 : Below v12.heap.size v12 z12 := by rw [← hz12]; exact below_new _ _ _
        have Az12 : At z12 v12.heap.size #[.int .i64 bv.type, .int .i64 bv.n, .string bv.s] 33 := by rw [← hz12]; exact at_new _ _ _
        have ST12 := Lib.hid ((SY12.out.keep hb12).keep bz12)
        have LV12 := Lib.hid ((MV12.out.keep hb12).keep bz12)
        have LW12 := Lib.hid ((MW12.out.keep hb12).keep bz12)
        have LX12 := Lib.hid ((MX12.out.keep hb12).keep bz12)
        have LY12 := Lib.hid Az12
        have Hz12 := Lib.hid hz12
        clear hz12
        clear hb12 bz12 Az12 TE fa0 fa1 fa2 fa3 fa4 fa5 fa6 fb0 fb1 fb2 fb3 fb4 fb5 fb6 fn0 fn1 fn2 fn3 fn4 fn5 fn6 Hy12 SY12 MV12 MW12 MX12 LV11 LW11 LX11
        unfold valV
        rw [errV_zero]
        have qv0 := LV12.out.cell 0 _ rfl
        have qv1 := LV12.out.cell 1 _ rfl
        have qv2 := LV12.out.cell 2 _ rfl
        have qw0 := LW12.out.cell 0 _ rfl
        have qw1 := LW12.out.cell 1 _ rfl
        have qw2 := LW12.out.cell 2 _ rfl
        have qx0 := LX12.out.cell 0 _ rfl
        have qx1 := LX12.out.cell 1 _ rfl
        have qx2 := LX12.out.cell 2 _ rfl
        have qy0 := LY12.out.cell 0 _ rfl
        have qy1 := LY12.out.cell 1 _ rfl
        have qy2 := LY12.out.cell 2 _ rfl
        go_wp2_with (first | rw [Hz12.out])
        go_quiet (fail)
        have ST13 := Lib.hid (ST12.out.keep (below_drewN (Below.refl _ _) nq))
        have LV13 := Lib.hid (LV12.out.keep (below_drewN (Below.refl _ _) nq))
        generalize z12.drewN nq = z13 at ST13 LV13 ⊢
        clear qv0 qv1 qv2 qw0 qw1 qw2 qx0 qx1 qx2 qy0 qy1 qy2 LV12 LW12 LX12 LY12
        have CMP := Lib.hid (fun A c A' c' => cmp_is (r := r) (A := A) (c := c) (A' := A') (c' := c') POK.out.1 POK.out.2.1 POK.out.2.2 SCH.out HRE.out TAB.out EVA.out EVB.out)
        have CL := Lib.hid (show (∀ A c, evalR cols r (opE ⟨#[60]⟩ A c [a, b]) = ⟨9, noVal⟩) from fun A c => by
          rcases CMP.out A c none 0 with ⟨h1, h2, _⟩ | ⟨_, h, _⟩
          · rw [XA.out] at h1; rw [XB.out] at h2; first | (simp at h1; done) | (simp at h2; done)
          · exact h)
        have CG := Lib.hid (show (∀ A c, evalR cols r (opE ⟨#[62, 61]⟩ A c [a, b]) = ⟨9, noVal⟩) from fun A c => by
          rcases CMP.out none 0 A c with ⟨h1, h2, _⟩ | ⟨_, _, h⟩
          · rw [XA.out] at h1; rw [XB.out] at h2; first | (simp at h1; done) | (simp at h2; done)
          · exact h)
        obtain ⟨y14, hy14⟩ : ∃ z, z13.alloc (.cells #[.string a.op, .string a.name, .int .i64 a.val.type, .int .i64 a.val.n, .string a.val.s, .slice a.A a.args.length a.c, .int .i64 a.pos, .string b.op, .string b.name, .int .i64 b.val.type, .int .i64 b.val.n, .string b.val.s, .slice b.A b.args.length b.c, .int .i64 b.pos] 44) = z := ⟨_, rfl⟩
        have by14 : Below z13.heap.size z13 y14 := by rw [← hy14]; exact below_new _ _ _
        have Ay14 : At y14 z13.heap.size #[.string a.op, .string a.name, .int .i64 a.val.type, .int .i64 a.val.n, .string a.val.s, .slice a.A a.args.length a.c, .int .i64 a.pos, .string b.op, .string b.name, .int .i64 b.val.type, .int .i64 b.val.n, .string b.val.s, .slice b.A b.args.length b.c, .int .i64 b.pos] 44 := by rw [← hy14]; exact at_new _ _ _
        have Sy14 : SeesEx y14 (opE ⟨#[60]⟩ (some ⟨z13.heap.size, 0, none⟩) 2 [a, b]) := by rw [← hy14]; exact seesOp z13 ⟨#[60]⟩ [a, b] (show (1 : Nat) ≤ maxLen by decide) (in2 ST13.out.sa ST13.out.sb) (show (2 : Nat) ≤ maxLen by decide)
        have SY14 := Lib.hid (ST13.out.keep by14)
        have TE0 : Calls Tryd.prog 32 #[.agg #[.string ⟨#[60]⟩, .string ⟨#[]⟩, .int .i64 0, .int .i64 0, .string ⟨#[]⟩, .slice (some ⟨z13.heap.size, 0, none⟩) 2 2, .int .i64 0], .slice C p q, .slice R y s] y14 _ := eval_any (opE ⟨#[60]⟩ (some ⟨z13.heap.size, 0, none⟩) 2 [a, b]) C R p q y s cols r y14 SY14.out.T SY14.out.C HS.out SY14.out.R HW.out Sy14
        rw [CL.out] at TE0
        have TE := Lib.hid TE0
        have Hy14 := Lib.hid hy14
        clear hy14
        have fa0 := ST13.out.ta.cell 0 _ rfl
        have fa1 := ST13.out.ta.cell 1 _ rfl
        have fa2 := ST13.out.ta.cell 2 _ rfl
        have fa3 := ST13.out.ta.cell 3 _ rfl
        have fa4 := ST13.out.ta.cell 4 _ rfl
        have fa5 := ST13.out.ta.cell 5 _ rfl
        have fa6 := ST13.out.ta.cell 6 _ rfl
        have fb0 := ST13.out.tb.cell 0 _ rfl
        have fb1 := ST13.out.tb.cell 1 _ rfl
        have fb2 := ST13.out.tb.cell 2 _ rfl
        have fb3 := ST13.out.tb.cell 3 _ rfl
        have fb4 := ST13.out.tb.cell 4 _ rfl
        have fb5 := ST13.out.tb.cell 5 _ rfl
        have fb6 := ST13.out.tb.cell 6 _ rfl
        have MV14 := Lib.hid (LV13.out.keep by14)
        clear TE0 Sy14 Ay14 by14
        go_wp2_with (first | rw [Hy14.out])
        refine (TE.out).mono ?_
        rintro e' v14 ⟨rfl, hb14⟩
        rw [E9.out]
        unfold valV noVal
        obtain ⟨z14, hz14⟩ : ∃ z, v14.alloc (.cells #[.int .i64 0, .int .i64 0, .string ⟨#[]⟩] 33) = z := ⟨_, rfl⟩
        have bz14 : Below v14.heap.size v14 z14 := by rw [← hz14]; exact below_new _ _ _
        have Az14 : At z14 v14.heap.size #[.int .i64 0, .int .i64 0, .string ⟨#[]⟩] 33 := by rw [← hz14]; exact at_new _ _ _
        have ST14 := Lib.hid ((SY14.out.keep hb14).keep bz14)
        have LV14 := Lib.hid ((MV14.out.keep hb14).keep bz14)
        have LP14 := Lib.hid Az14
        have HSelf14 := Lib.hid (self3 Az14)
        have bl14 := (Array.getElem?_eq_some_iff.1 Az14).1
        have sc140 := Az14.cell 0 _ rfl
        have sz140 := Az14.free 0
        have sc141 := Az14.cell 1 _ rfl
        have sz141 := Az14.free 1
        have sc142 := Az14.cell 2 _ rfl
        have sz142 := Az14.free 2
        have Hz14 := Lib.hid hz14
        clear hz14
        clear hb14 bz14 Az14 TE fa0 fa1 fa2 fa3 fa4 fa5 fa6 fb0 fb1 fb2 fb3 fb4 fb5 fb6 Hy14 SY14 MV14 LV13
        obtain ⟨y15, hy15⟩ : ∃ z, z14.alloc (.cells #[.string a.op, .string a.name, .int .i64 a.val.type, .int .i64 a.val.n, .string a.val.s, .slice a.A a.args.length a.c, .int .i64 a.pos, .string b.op, .string b.name, .int .i64 b.val.type, .int .i64 b.val.n, .string b.val.s, .slice b.A b.args.length b.c, .int .i64 b.pos] 44) = z := ⟨_, rfl⟩
        have by15 : Below z14.heap.size z14 y15 := by rw [← hy15]; exact below_new _ _ _
        have Ay15 : At y15 z14.heap.size #[.string a.op, .string a.name, .int .i64 a.val.type, .int .i64 a.val.n, .string a.val.s, .slice a.A a.args.length a.c, .int .i64 a.pos, .string b.op, .string b.name, .int .i64 b.val.type, .int .i64 b.val.n, .string b.val.s, .slice b.A b.args.length b.c, .int .i64 b.pos] 44 := by rw [← hy15]; exact at_new _ _ _
        have Sy15 : SeesEx y15 (opE ⟨#[62, 61]⟩ (some ⟨z14.heap.size, 0, none⟩) 2 [a, b]) := by rw [← hy15]; exact seesOp z14 ⟨#[62, 61]⟩ [a, b] (show (2 : Nat) ≤ maxLen by decide) (in2 ST14.out.sa ST14.out.sb) (show (2 : Nat) ≤ maxLen by decide)
        have SY15 := Lib.hid (ST14.out.keep by15)
        have TE0 : Calls Tryd.prog 32 #[.agg #[.string ⟨#[62, 61]⟩, .string ⟨#[]⟩, .int .i64 0, .int .i64 0, .string ⟨#[]⟩, .slice (some ⟨z14.heap.size, 0, none⟩) 2 2, .int .i64 0], .slice C p q, .slice R y s] y15 _ := eval_any (opE ⟨#[62, 61]⟩ (some ⟨z14.heap.size, 0, none⟩) 2 [a, b]) C R p q y s cols r y15 SY15.out.T SY15.out.C HS.out SY15.out.R HW.out Sy15
        rw [CG.out] at TE0
        have TE := Lib.hid TE0
        have Hy15 := Lib.hid hy15
        clear hy15
        have fa0 := ST14.out.ta.cell 0 _ rfl
        have fa1 := ST14.out.ta.cell 1 _ rfl
        have fa2 := ST14.out.ta.cell 2 _ rfl
        have fa3 := ST14.out.ta.cell 3 _ rfl
        have fa4 := ST14.out.ta.cell 4 _ rfl
        have fa5 := ST14.out.ta.cell 5 _ rfl
        have fa6 := ST14.out.ta.cell 6 _ rfl
        have fb0 := ST14.out.tb.cell 0 _ rfl
        have fb1 := ST14.out.tb.cell 1 _ rfl
        have fb2 := ST14.out.tb.cell 2 _ rfl
        have fb3 := ST14.out.tb.cell 3 _ rfl
        have fb4 := ST14.out.tb.cell 4 _ rfl
        have fb5 := ST14.out.tb.cell 5 _ rfl
        have fb6 := ST14.out.tb.cell 6 _ rfl
        have MV15 := Lib.hid (LV14.out.keep by15)
        have MP15 := Lib.hid (LP14.out.keep by15)
        clear TE0 Sy15 Ay15 by15
        go_wp2_with (first | rw [Hz14.out] | rw [HSelf14.out] | rw [Hy15.out])
        refine (TE.out).mono ?_
        rintro e' v15 ⟨rfl, hb15⟩
        rw [E9.out]
        unfold valV noVal
        obtain ⟨z15, hz15⟩ : ∃ z, v15.alloc (.cells #[.int .i64 0, .int .i64 0, .string ⟨#[]⟩] 33) = z := ⟨_, rfl⟩
        have bz15 : Below v15.heap.size v15 z15 := by rw [← hz15]; exact below_new _ _ _
        have Az15 : At z15 v15.heap.size #[.int .i64 0, .int .i64 0, .string ⟨#[]⟩] 33 := by rw [← hz15]; exact at_new _ _ _
        have ST15 := Lib.hid ((SY15.out.keep hb15).keep bz15)
        have LV15 := Lib.hid ((MV15.out.keep hb15).keep bz15)
        have LP15 := Lib.hid ((MP15.out.keep hb15).keep bz15)
        have LQ15 := Lib.hid Az15
        have HSelf15 := Lib.hid (self3 Az15)
        have bl15 := (Array.getElem?_eq_some_iff.1 Az15).1
        have sc150 := Az15.cell 0 _ rfl
        have sz150 := Az15.free 0
        have sc151 := Az15.cell 1 _ rfl
        have sz151 := Az15.free 1
        have sc152 := Az15.cell 2 _ rfl
        have sz152 := Az15.free 2
        have Hz15 := Lib.hid hz15
        clear hz15
        clear hb15 bz15 Az15 TE fa0 fa1 fa2 fa3 fa4 fa5 fa6 fb0 fb1 fb2 fb3 fb4 fb5 fb6 Hy15 SY15 MV15 MP15 LV14 LP14
        have qp := LP15.out.cell 1 _ rfl
        have qq := LQ15.out.cell 1 _ rfl
        go_wp2_with (first | rw [Hz15.out] | rw [HSelf15.out])
        go_quiet (fail)
        have ST16 := Lib.hid (ST15.out.keep (below_drewN (Below.refl _ _) nq))
        have LV16 := Lib.hid (LV15.out.keep (below_drewN (Below.refl _ _) nq))
        generalize z15.drewN nq = z16 at ST16 LV16 ⊢
        clear qp qq LP15 LQ15 LV15
        by_cases ht2 : ta = 2
        rotate_left
        · have e2 : (ta != 2) = true := by simpa using ht2
          clear ht2
          go_wp2_with fail
          go_ret
          exact ⟨rfl, ST16.out.bl⟩
        have HT2 := Lib.hid (TTA.out.trans ht2)
        subst ht2
        obtain ⟨y30, hy30⟩ : ∃ z, z16.alloc (.cells #[.string ⟨#[118, 97, 108]⟩, .string ⟨#[]⟩, .int .i64 2, .int .i64 0, .string ⟨#[]⟩, .slice none 0 0, .int .i64 0, .string a.op, .string a.name, .int .i64 a.val.type, .int .i64 a.val.n, .string a.val.s, .slice a.A a.args.length a.c, .int .i64 a.pos] 44) = z := ⟨_, rfl⟩
        have by30 : Below z16.heap.size z16 y30 := by rw [← hy30]; exact below_new _ _ _
        have Ay30 : At y30 z16.heap.size #[.string ⟨#[118, 97, 108]⟩, .string ⟨#[]⟩, .int .i64 2, .int .i64 0, .string ⟨#[]⟩, .slice none 0 0, .int .i64 0, .string a.op, .string a.name, .int .i64 a.val.type, .int .i64 a.val.n, .string a.val.s, .slice a.A a.args.length a.c, .int .i64 a.pos] 44 := by rw [← hy30]; exact at_new _ _ _
        have Sy30 : SeesEx y30 (opE ⟨#[97, 110, 100]⟩ (some ⟨z16.heap.size, 0, none⟩) 2 [litE false, a]) := by rw [← hy30]; exact seesOp z16 ⟨#[97, 110, 100]⟩ [litE false, a] (show (3 : Nat) ≤ maxLen by decide) (in2 (lit_seen _ _) ST16.out.sa) (show (2 : Nat) ≤ maxLen by decide)
        have SY30 := Lib.hid (ST16.out.keep by30)
        have TE0 : Calls Tryd.prog 32 #[.agg #[.string ⟨#[97, 110, 100]⟩, .string ⟨#[]⟩, .int .i64 0, .int .i64 0, .string ⟨#[]⟩, .slice (some ⟨z16.heap.size, 0, none⟩) 2 2, .int .i64 0], .slice C p q, .slice R y s] y30 _ := eval_any (opE ⟨#[97, 110, 100]⟩ (some ⟨z16.heap.size, 0, none⟩) 2 [litE false, a]) C R p q y s cols r y30 SY30.out.T SY30.out.C HS.out SY30.out.R HW.out Sy30
        rw [and_no POK.out.1 (by have := POK.out.2.2; omega) SCH.out HRE.out HT2.out] at TE0
        have TE := Lib.hid TE0
        have Hy30 := Lib.hid hy30
        clear hy30
        have fa0 := ST16.out.ta.cell 0 _ rfl
        have fa1 := ST16.out.ta.cell 1 _ rfl
        have fa2 := ST16.out.ta.cell 2 _ rfl
        have fa3 := ST16.out.ta.cell 3 _ rfl
        have fa4 := ST16.out.ta.cell 4 _ rfl
        have fa5 := ST16.out.ta.cell 5 _ rfl
        have fa6 := ST16.out.ta.cell 6 _ rfl
        have fn0 := ST16.out.tn.cell 0 _ rfl
        have fn1 := ST16.out.tn.cell 1 _ rfl
        have fn2 := ST16.out.tn.cell 2 _ rfl
        have fn3 := ST16.out.tn.cell 3 _ rfl
        have fn4 := ST16.out.tn.cell 4 _ rfl
        have fn5 := ST16.out.tn.cell 5 _ rfl
        have fn6 := ST16.out.tn.cell 6 _ rfl
        have MV30 := Lib.hid (LV16.out.keep by30)
        clear TE0 Sy30 Ay30 by30
        go_wp2_with (first | rw [Hy30.out])
        refine (TE.out).mono ?_
        rintro e' v30 ⟨rfl, hb30⟩
        obtain ⟨z30, hz30⟩ : ∃ z, v30.alloc (.cells #[.int .i64 2, .int .i64 0, .string ⟨#[]⟩] 33) = z := ⟨_, rfl⟩
        have bz30 : Below v30.heap.size v30 z30 := by rw [← hz30]; exact below_new _ _ _
        have Az30 : At z30 v30.heap.size #[.int .i64 2, .int .i64 0, .string ⟨#[]⟩] 33 := by rw [← hz30]; exact at_new _ _ _
        have ST30 := Lib.hid ((SY30.out.keep hb30).keep bz30)
        have LV30 := Lib.hid ((MV30.out.keep hb30).keep bz30)
        have LI30 := Lib.hid Az30
        have Hz30 := Lib.hid hz30
        clear hz30
        clear hb30 bz30 Az30 TE fa0 fa1 fa2 fa3 fa4 fa5 fa6 fn0 fn1 fn2 fn3 fn4 fn5 fn6 Hy30 SY30 MV30 LV16
        unfold valV
        rw [errV_zero]
        unfold truthV
        obtain ⟨y31, hy31⟩ : ∃ z, z30.alloc (.cells #[.string ⟨#[118, 97, 108]⟩, .string ⟨#[]⟩, .int .i64 2, .int .i64 1, .string ⟨#[]⟩, .slice none 0 0, .int .i64 0, .string a.op, .string a.name, .int .i64 a.val.type, .int .i64 a.val.n, .string a.val.s, .slice a.A a.args.length a.c, .int .i64 a.pos] 44) = z := ⟨_, rfl⟩
        have by31 : Below z30.heap.size z30 y31 := by rw [← hy31]; exact below_new _ _ _
        have Ay31 : At y31 z30.heap.size #[.string ⟨#[118, 97, 108]⟩, .string ⟨#[]⟩, .int .i64 2, .int .i64 1, .string ⟨#[]⟩, .slice none 0 0, .int .i64 0, .string a.op, .string a.name, .int .i64 a.val.type, .int .i64 a.val.n, .string a.val.s, .slice a.A a.args.length a.c, .int .i64 a.pos] 44 := by rw [← hy31]; exact at_new _ _ _
        have Sy31 : SeesEx y31 (opE ⟨#[111, 114]⟩ (some ⟨z30.heap.size, 0, none⟩) 2 [litE true, a]) := by rw [← hy31]; exact seesOp z30 ⟨#[111, 114]⟩ [litE true, a] (show (2 : Nat) ≤ maxLen by decide) (in2 (lit_seen _ _) ST30.out.sa) (show (2 : Nat) ≤ maxLen by decide)
        have SY31 := Lib.hid (ST30.out.keep by31)
        have TE0 : Calls Tryd.prog 32 #[.agg #[.string ⟨#[111, 114]⟩, .string ⟨#[]⟩, .int .i64 0, .int .i64 0, .string ⟨#[]⟩, .slice (some ⟨z30.heap.size, 0, none⟩) 2 2, .int .i64 0], .slice C p q, .slice R y s] y31 _ := eval_any (opE ⟨#[111, 114]⟩ (some ⟨z30.heap.size, 0, none⟩) 2 [litE true, a]) C R p q y s cols r y31 SY31.out.T SY31.out.C HS.out SY31.out.R HW.out Sy31
        rw [or_yes POK.out.1 (by have := POK.out.2.2; omega) SCH.out HRE.out HT2.out] at TE0
        have TE := Lib.hid TE0
        have Hy31 := Lib.hid hy31
        clear hy31
        have fa0 := ST30.out.ta.cell 0 _ rfl
        have fa1 := ST30.out.ta.cell 1 _ rfl
        have fa2 := ST30.out.ta.cell 2 _ rfl
        have fa3 := ST30.out.ta.cell 3 _ rfl
        have fa4 := ST30.out.ta.cell 4 _ rfl
        have fa5 := ST30.out.ta.cell 5 _ rfl
        have fa6 := ST30.out.ta.cell 6 _ rfl
        have fy0 := ST30.out.ty.cell 0 _ rfl
        have fy1 := ST30.out.ty.cell 1 _ rfl
        have fy2 := ST30.out.ty.cell 2 _ rfl
        have fy3 := ST30.out.ty.cell 3 _ rfl
        have fy4 := ST30.out.ty.cell 4 _ rfl
        have fy5 := ST30.out.ty.cell 5 _ rfl
        have fy6 := ST30.out.ty.cell 6 _ rfl
        have MV31 := Lib.hid (LV30.out.keep by31)
        have MI31 := Lib.hid (LI30.out.keep by31)
        clear TE0 Sy31 Ay31 by31
        go_wp2_with (first | rw [Hz30.out] | rw [Hy31.out])
        refine (TE.out).mono ?_
        rintro e' v31 ⟨rfl, hb31⟩
        obtain ⟨z31, hz31⟩ : ∃ z, v31.alloc (.cells #[.int .i64 2, .int .i64 1, .string ⟨#[]⟩] 33) = z := ⟨_, rfl⟩
        have bz31 : Below v31.heap.size v31 z31 := by rw [← hz31]; exact below_new _ _ _
        have Az31 : At z31 v31.heap.size #[.int .i64 2, .int .i64 1, .string ⟨#[]⟩] 33 := by rw [← hz31]; exact at_new _ _ _
        have ST31 := Lib.hid ((SY31.out.keep hb31).keep bz31)
        have LV31 := Lib.hid ((MV31.out.keep hb31).keep bz31)
        have LI31 := Lib.hid ((MI31.out.keep hb31).keep bz31)
        have LJ31 := Lib.hid Az31
        have Hz31 := Lib.hid hz31
        clear hz31
        clear hb31 bz31 Az31 TE fa0 fa1 fa2 fa3 fa4 fa5 fa6 fy0 fy1 fy2 fy3 fy4 fy5 fy6 Hy31 SY31 MV31 MI31 LV30 LI30
        unfold valV
        rw [errV_zero]
        unfold truthV
        obtain ⟨y32, hy32⟩ : ∃ z, z31.alloc (.cells #[.string ⟨#[118, 97, 108]⟩, .string ⟨#[]⟩, .int .i64 2, .int .i64 1, .string ⟨#[]⟩, .slice none 0 0, .int .i64 0, .string a.op, .string a.name, .int .i64 a.val.type, .int .i64 a.val.n, .string a.val.s, .slice a.A a.args.length a.c, .int .i64 a.pos] 44) = z := ⟨_, rfl⟩
        have by32 : Below z31.heap.size z31 y32 := by rw [← hy32]; exact below_new _ _ _
        have Ay32 : At y32 z31.heap.size #[.string ⟨#[118, 97, 108]⟩, .string ⟨#[]⟩, .int .i64 2, .int .i64 1, .string ⟨#[]⟩, .slice none 0 0, .int .i64 0, .string a.op, .string a.name, .int .i64 a.val.type, .int .i64 a.val.n, .string a.val.s, .slice a.A a.args.length a.c, .int .i64 a.pos] 44 := by rw [← hy32]; exact at_new _ _ _
        have Sy32 : SeesEx y32 (opE ⟨#[97, 110, 100]⟩ (some ⟨z31.heap.size, 0, none⟩) 2 [litE true, a]) := by rw [← hy32]; exact seesOp z31 ⟨#[97, 110, 100]⟩ [litE true, a] (show (3 : Nat) ≤ maxLen by decide) (in2 (lit_seen _ _) ST31.out.sa) (show (2 : Nat) ≤ maxLen by decide)
        have SY32 := Lib.hid (ST31.out.keep by32)
        have TE0 : Calls Tryd.prog 32 #[.agg #[.string ⟨#[97, 110, 100]⟩, .string ⟨#[]⟩, .int .i64 0, .int .i64 0, .string ⟨#[]⟩, .slice (some ⟨z31.heap.size, 0, none⟩) 2 2, .int .i64 0], .slice C p q, .slice R y s] y32 _ := eval_any (opE ⟨#[97, 110, 100]⟩ (some ⟨z31.heap.size, 0, none⟩) 2 [litE true, a]) C R p q y s cols r y32 SY32.out.T SY32.out.C HS.out SY32.out.R HW.out Sy32
        rw [and_yes POK.out.1 (by have := POK.out.2.2; omega) SCH.out HRE.out HT2.out EVA.out, XA.out] at TE0
        have TE := Lib.hid TE0
        have Hy32 := Lib.hid hy32
        clear hy32
        have fa0 := ST31.out.ta.cell 0 _ rfl
        have fa1 := ST31.out.ta.cell 1 _ rfl
        have fa2 := ST31.out.ta.cell 2 _ rfl
        have fa3 := ST31.out.ta.cell 3 _ rfl
        have fa4 := ST31.out.ta.cell 4 _ rfl
        have fa5 := ST31.out.ta.cell 5 _ rfl
        have fa6 := ST31.out.ta.cell 6 _ rfl
        have fy0 := ST31.out.ty.cell 0 _ rfl
        have fy1 := ST31.out.ty.cell 1 _ rfl
        have fy2 := ST31.out.ty.cell 2 _ rfl
        have fy3 := ST31.out.ty.cell 3 _ rfl
        have fy4 := ST31.out.ty.cell 4 _ rfl
        have fy5 := ST31.out.ty.cell 5 _ rfl
        have fy6 := ST31.out.ty.cell 6 _ rfl
        have MV32 := Lib.hid (LV31.out.keep by32)
        have MI32 := Lib.hid (LI31.out.keep by32)
        have MJ32 := Lib.hid (LJ31.out.keep by32)
        clear TE0 Sy32 Ay32 by32
        go_wp2_with (first | rw [Hz31.out] | rw [Hy32.out])
        refine (TE.out).mono ?_
        rintro e' v32 ⟨rfl, hb32⟩
        obtain ⟨z32, hz32⟩ : ∃ z, v32.alloc (.cells #[.int .i64 av.type, .int .i64 av.n, .string av.s] 33) = z := ⟨_, rfl⟩
        have bz32 : Below v32.heap.size v32 z32 := by rw [← hz32]; exact below_new _ _ _
        have Az32 : At z32 v32.heap.size #[.int .i64 av.type, .int .i64 av.n, .string av.s] 33 := by rw [← hz32]; exact at_new _ _ _
        have ST32 := Lib.hid ((SY32.out.keep hb32).keep bz32)
        have LV32 := Lib.hid ((MV32.out.keep hb32).keep bz32)
        have LI32 := Lib.hid ((MI32.out.keep hb32).keep bz32)
        have LJ32 := Lib.hid ((MJ32.out.keep hb32).keep bz32)
        have LK32 := Lib.hid Az32
        have Hz32 := Lib.hid hz32
        clear hz32
        clear hb32 bz32 Az32 TE fa0 fa1 fa2 fa3 fa4 fa5 fa6 fy0 fy1 fy2 fy3 fy4 fy5 fy6 Hy32 SY32 MV32 MI32 MJ32 LV31 LI31 LJ31
        unfold valV
        rw [E9.out]
        have q1 := LI32.out.cell 1 _ rfl
        have q2 := LJ32.out.cell 1 _ rfl
        have qv0 := LV32.out.cell 0 _ rfl
        have qk0 := LK32.out.cell 0 _ rfl
        have qv1 := LV32.out.cell 1 _ rfl
        have qk1 := LK32.out.cell 1 _ rfl
        have qv2 := LV32.out.cell 2 _ rfl
        have qk2 := LK32.out.cell 2 _ rfl
        go_wp2_with (first | rw [Hz32.out])
        go_quiet (fail)
        have BLZ := Lib.hid (below_drewN ST32.out.bl nq)
        generalize z32.drewN nq = wz at BLZ ⊢
        go_wp2_with fail
        go_ret
        exact ⟨by simp, BLZ.out⟩
      · subst hbk
        rw [E9.out]
        by_cases htt : ta = tb
        rotate_left
        · have e1 : (ta == tb) = false := by simpa using htt
          clear htt
          by_cases ht2 : ta = 2
          rotate_left
          · have e2 : (ta != 2) = true := by simpa using ht2
            clear ht2
            go_wp2_with (first | rw [Hz10.out])
            go_ret
            exact ⟨rfl, ST10.out.bl⟩
          have HT2 := Lib.hid (TTA.out.trans ht2)
          subst ht2
          obtain ⟨y30, hy30⟩ : ∃ z, z10.alloc (.cells #[.string ⟨#[118, 97, 108]⟩, .string ⟨#[]⟩, .int .i64 2, .int .i64 0, .string ⟨#[]⟩, .slice none 0 0, .int .i64 0, .string a.op, .string a.name, .int .i64 a.val.type, .int .i64 a.val.n, .string a.val.s, .slice a.A a.args.length a.c, .int .i64 a.pos] 44) = z := ⟨_, rfl⟩
          have by30 : Below z10.heap.size z10 y30 := by rw [← hy30]; exact below_new _ _ _
          have Ay30 : At y30 z10.heap.size #[.string ⟨#[118, 97, 108]⟩, .string ⟨#[]⟩, .int .i64 2, .int .i64 0, .string ⟨#[]⟩, .slice none 0 0, .int .i64 0, .string a.op, .string a.name, .int .i64 a.val.type, .int .i64 a.val.n, .string a.val.s, .slice a.A a.args.length a.c, .int .i64 a.pos] 44 := by rw [← hy30]; exact at_new _ _ _
          have Sy30 : SeesEx y30 (opE ⟨#[97, 110, 100]⟩ (some ⟨z10.heap.size, 0, none⟩) 2 [litE false, a]) := by rw [← hy30]; exact seesOp z10 ⟨#[97, 110, 100]⟩ [litE false, a] (show (3 : Nat) ≤ maxLen by decide) (in2 (lit_seen _ _) ST10.out.sa) (show (2 : Nat) ≤ maxLen by decide)
          have SY30 := Lib.hid (ST10.out.keep by30)
          have TE0 : Calls Tryd.prog 32 #[.agg #[.string ⟨#[97, 110, 100]⟩, .string ⟨#[]⟩, .int .i64 0, .int .i64 0, .string ⟨#[]⟩, .slice (some ⟨z10.heap.size, 0, none⟩) 2 2, .int .i64 0], .slice C p q, .slice R y s] y30 _ := eval_any (opE ⟨#[97, 110, 100]⟩ (some ⟨z10.heap.size, 0, none⟩) 2 [litE false, a]) C R p q y s cols r y30 SY30.out.T SY30.out.C HS.out SY30.out.R HW.out Sy30
          rw [and_no POK.out.1 (by have := POK.out.2.2; omega) SCH.out HRE.out HT2.out] at TE0
          have TE := Lib.hid TE0
          have Hy30 := Lib.hid hy30
          clear hy30
          have fa0 := ST10.out.ta.cell 0 _ rfl
          have fa1 := ST10.out.ta.cell 1 _ rfl
          have fa2 := ST10.out.ta.cell 2 _ rfl
          have fa3 := ST10.out.ta.cell 3 _ rfl
          have fa4 := ST10.out.ta.cell 4 _ rfl
          have fa5 := ST10.out.ta.cell 5 _ rfl
          have fa6 := ST10.out.ta.cell 6 _ rfl
          have fn0 := ST10.out.tn.cell 0 _ rfl
          have fn1 := ST10.out.tn.cell 1 _ rfl
          have fn2 := ST10.out.tn.cell 2 _ rfl
          have fn3 := ST10.out.tn.cell 3 _ rfl
          have fn4 := ST10.out.tn.cell 4 _ rfl
          have fn5 := ST10.out.tn.cell 5 _ rfl
          have fn6 := ST10.out.tn.cell 6 _ rfl
          have MV30 := Lib.hid (LV10.out.keep by30)
          clear TE0 Sy30 Ay30 by30
          go_wp2_with (first | rw [Hz10.out] | rw [Hy30.out])
          refine (TE.out).mono ?_
          rintro e' v30 ⟨rfl, hb30⟩
          obtain ⟨z30, hz30⟩ : ∃ z, v30.alloc (.cells #[.int .i64 2, .int .i64 0, .string ⟨#[]⟩] 33) = z := ⟨_, rfl⟩
          have bz30 : Below v30.heap.size v30 z30 := by rw [← hz30]; exact below_new _ _ _
          have Az30 : At z30 v30.heap.size #[.int .i64 2, .int .i64 0, .string ⟨#[]⟩] 33 := by rw [← hz30]; exact at_new _ _ _
          have ST30 := Lib.hid ((SY30.out.keep hb30).keep bz30)
          have LV30 := Lib.hid ((MV30.out.keep hb30).keep bz30)
          have LI30 := Lib.hid Az30
          have Hz30 := Lib.hid hz30
          clear hz30
          clear hb30 bz30 Az30 TE fa0 fa1 fa2 fa3 fa4 fa5 fa6 fn0 fn1 fn2 fn3 fn4 fn5 fn6 Hy30 SY30 MV30 LV10
          unfold valV
          rw [errV_zero]
          unfold truthV
          obtain ⟨y31, hy31⟩ : ∃ z, z30.alloc (.cells #[.string ⟨#[118, 97, 108]⟩, .string ⟨#[]⟩, .int .i64 2, .int .i64 1, .string ⟨#[]⟩, .slice none 0 0, .int .i64 0, .string a.op, .string a.name, .int .i64 a.val.type, .int .i64 a.val.n, .string a.val.s, .slice a.A a.args.length a.c, .int .i64 a.pos] 44) = z := ⟨_, rfl⟩
          have by31 : Below z30.heap.size z30 y31 := by rw [← hy31]; exact below_new _ _ _
          have Ay31 : At y31 z30.heap.size #[.string ⟨#[118, 97, 108]⟩, .string ⟨#[]⟩, .int .i64 2, .int .i64 1, .string ⟨#[]⟩, .slice none 0 0, .int .i64 0, .string a.op, .string a.name, .int .i64 a.val.type, .int .i64 a.val.n, .string a.val.s, .slice a.A a.args.length a.c, .int .i64 a.pos] 44 := by rw [← hy31]; exact at_new _ _ _
          have Sy31 : SeesEx y31 (opE ⟨#[111, 114]⟩ (some ⟨z30.heap.size, 0, none⟩) 2 [litE true, a]) := by rw [← hy31]; exact seesOp z30 ⟨#[111, 114]⟩ [litE true, a] (show (2 : Nat) ≤ maxLen by decide) (in2 (lit_seen _ _) ST30.out.sa) (show (2 : Nat) ≤ maxLen by decide)
          have SY31 := Lib.hid (ST30.out.keep by31)
          have TE0 : Calls Tryd.prog 32 #[.agg #[.string ⟨#[111, 114]⟩, .string ⟨#[]⟩, .int .i64 0, .int .i64 0, .string ⟨#[]⟩, .slice (some ⟨z30.heap.size, 0, none⟩) 2 2, .int .i64 0], .slice C p q, .slice R y s] y31 _ := eval_any (opE ⟨#[111, 114]⟩ (some ⟨z30.heap.size, 0, none⟩) 2 [litE true, a]) C R p q y s cols r y31 SY31.out.T SY31.out.C HS.out SY31.out.R HW.out Sy31
          rw [or_yes POK.out.1 (by have := POK.out.2.2; omega) SCH.out HRE.out HT2.out] at TE0
          have TE := Lib.hid TE0
          have Hy31 := Lib.hid hy31
          clear hy31
          have fa0 := ST30.out.ta.cell 0 _ rfl
          have fa1 := ST30.out.ta.cell 1 _ rfl
          have fa2 := ST30.out.ta.cell 2 _ rfl
          have fa3 := ST30.out.ta.cell 3 _ rfl
          have fa4 := ST30.out.ta.cell 4 _ rfl
          have fa5 := ST30.out.ta.cell 5 _ rfl
          have fa6 := ST30.out.ta.cell 6 _ rfl
          have fy0 := ST30.out.ty.cell 0 _ rfl
          have fy1 := ST30.out.ty.cell 1 _ rfl
          have fy2 := ST30.out.ty.cell 2 _ rfl
          have fy3 := ST30.out.ty.cell 3 _ rfl
          have fy4 := ST30.out.ty.cell 4 _ rfl
          have fy5 := ST30.out.ty.cell 5 _ rfl
          have fy6 := ST30.out.ty.cell 6 _ rfl
          have MV31 := Lib.hid (LV30.out.keep by31)
          have MI31 := Lib.hid (LI30.out.keep by31)
          clear TE0 Sy31 Ay31 by31
          go_wp2_with (first | rw [Hz30.out] | rw [Hy31.out])
          refine (TE.out).mono ?_
          rintro e' v31 ⟨rfl, hb31⟩
          obtain ⟨z31, hz31⟩ : ∃ z, v31.alloc (.cells #[.int .i64 2, .int .i64 1, .string ⟨#[]⟩] 33) = z := ⟨_, rfl⟩
          have bz31 : Below v31.heap.size v31 z31 := by rw [← hz31]; exact below_new _ _ _
          have Az31 : At z31 v31.heap.size #[.int .i64 2, .int .i64 1, .string ⟨#[]⟩] 33 := by rw [← hz31]; exact at_new _ _ _
          have ST31 := Lib.hid ((SY31.out.keep hb31).keep bz31)
          have LV31 := Lib.hid ((MV31.out.keep hb31).keep bz31)
          have LI31 := Lib.hid ((MI31.out.keep hb31).keep bz31)
          have LJ31 := Lib.hid Az31
          have Hz31 := Lib.hid hz31
          clear hz31
          clear hb31 bz31 Az31 TE fa0 fa1 fa2 fa3 fa4 fa5 fa6 fy0 fy1 fy2 fy3 fy4 fy5 fy6 Hy31 SY31 MV31 MI31 LV30 LI30
          unfold valV
          rw [errV_zero]
          unfold truthV
          obtain ⟨y32, hy32⟩ : ∃ z, z31.alloc (.cells #[.string ⟨#[118, 97, 108]⟩, .string ⟨#[]⟩, .int .i64 2, .int .i64 1, .string ⟨#[]⟩, .slice none 0 0, .int .i64 0, .string a.op, .string a.name, .int .i64 a.val.type, .int .i64 a.val.n, .string a.val.s, .slice a.A a.args.length a.c, .int .i64 a.pos] 44) = z := ⟨_, rfl⟩
          have by32 : Below z31.heap.size z31 y32 := by rw [← hy32]; exact below_new _ _ _
          have Ay32 : At y32 z31.heap.size #[.string ⟨#[118, 97, 108]⟩, .string ⟨#[]⟩, .int .i64 2, .int .i64 1, .string ⟨#[]⟩, .slice none 0 0, .int .i64 0, .string a.op, .string a.name, .int .i64 a.val.type, .int .i64 a.val.n, .string a.val.s, .slice a.A a.args.length a.c, .int .i64 a.pos] 44 := by rw [← hy32]; exact at_new _ _ _
          have Sy32 : SeesEx y32 (opE ⟨#[97, 110, 100]⟩ (some ⟨z31.heap.size, 0, none⟩) 2 [litE true, a]) := by rw [← hy32]; exact seesOp z31 ⟨#[97, 110, 100]⟩ [litE true, a] (show (3 : Nat) ≤ maxLen by decide) (in2 (lit_seen _ _) ST31.out.sa) (show (2 : Nat) ≤ maxLen by decide)
          have SY32 := Lib.hid (ST31.out.keep by32)
          have TE0 : Calls Tryd.prog 32 #[.agg #[.string ⟨#[97, 110, 100]⟩, .string ⟨#[]⟩, .int .i64 0, .int .i64 0, .string ⟨#[]⟩, .slice (some ⟨z31.heap.size, 0, none⟩) 2 2, .int .i64 0], .slice C p q, .slice R y s] y32 _ := eval_any (opE ⟨#[97, 110, 100]⟩ (some ⟨z31.heap.size, 0, none⟩) 2 [litE true, a]) C R p q y s cols r y32 SY32.out.T SY32.out.C HS.out SY32.out.R HW.out Sy32
          rw [and_yes POK.out.1 (by have := POK.out.2.2; omega) SCH.out HRE.out HT2.out EVA.out, XA.out] at TE0
          have TE := Lib.hid TE0
          have Hy32 := Lib.hid hy32
          clear hy32
          have fa0 := ST31.out.ta.cell 0 _ rfl
          have fa1 := ST31.out.ta.cell 1 _ rfl
          have fa2 := ST31.out.ta.cell 2 _ rfl
          have fa3 := ST31.out.ta.cell 3 _ rfl
          have fa4 := ST31.out.ta.cell 4 _ rfl
          have fa5 := ST31.out.ta.cell 5 _ rfl
          have fa6 := ST31.out.ta.cell 6 _ rfl
          have fy0 := ST31.out.ty.cell 0 _ rfl
          have fy1 := ST31.out.ty.cell 1 _ rfl
          have fy2 := ST31.out.ty.cell 2 _ rfl
          have fy3 := ST31.out.ty.cell 3 _ rfl
          have fy4 := ST31.out.ty.cell 4 _ rfl
          have fy5 := ST31.out.ty.cell 5 _ rfl
          have fy6 := ST31.out.ty.cell 6 _ rfl
          have MV32 := Lib.hid (LV31.out.keep by32)
          have MI32 := Lib.hid (LI31.out.keep by32)
          have MJ32 := Lib.hid (LJ31.out.keep by32)
          clear TE0 Sy32 Ay32 by32
          go_wp2_with (first | rw [Hz31.out] | rw [Hy32.out])
          refine (TE.out).mono ?_
          rintro e' v32 ⟨rfl, hb32⟩
          obtain ⟨z32, hz32⟩ : ∃ z, v32.alloc (.cells #[.int .i64 av.type, .int .i64 av.n, .string av.s] 33) = z := ⟨_, rfl⟩
          have bz32 : Below v32.heap.size v32 z32 := by rw [← hz32]; exact below_new _ _ _
          have Az32 : At z32 v32.heap.size #[.int .i64 av.type, .int .i64 av.n, .string av.s] 33 := by rw [← hz32]; exact at_new _ _ _
          have ST32 := Lib.hid ((SY32.out.keep hb32).keep bz32)
          have LV32 := Lib.hid ((MV32.out.keep hb32).keep bz32)
          have LI32 := Lib.hid ((MI32.out.keep hb32).keep bz32)
          have LJ32 := Lib.hid ((MJ32.out.keep hb32).keep bz32)
          have LK32 := Lib.hid Az32
          have Hz32 := Lib.hid hz32
          clear hz32
          clear hb32 bz32 Az32 TE fa0 fa1 fa2 fa3 fa4 fa5 fa6 fy0 fy1 fy2 fy3 fy4 fy5 fy6 Hy32 SY32 MV32 MI32 MJ32 LV31 LI31 LJ31
          unfold valV
          rw [E9.out]
          have q1 := LI32.out.cell 1 _ rfl
          have q2 := LJ32.out.cell 1 _ rfl
          have qv0 := LV32.out.cell 0 _ rfl
          have qk0 := LK32.out.cell 0 _ rfl
          have qv1 := LV32.out.cell 1 _ rfl
          have qk1 := LK32.out.cell 1 _ rfl
          have qv2 := LV32.out.cell 2 _ rfl
          have qk2 := LK32.out.cell 2 _ rfl
          go_wp2_with (first | rw [Hz32.out])
          go_quiet (fail)
          have BLZ := Lib.hid (below_drewN ST32.out.bl nq)
          generalize z32.drewN nq = wz at BLZ ⊢
          go_wp2_with fail
          go_ret
          exact ⟨by simp, BLZ.out⟩
        subst htt
        have TAB := Lib.hid (TTA.out.trans TTB.out.symm)
        obtain ⟨y11, hy11⟩ : ∃ z, z10.alloc (.cells #[.string ⟨#[118, 97, 108]⟩, .string ⟨#[]⟩, .int .i64 2, .int .i64 1, .string ⟨#[]⟩, .slice none 0 0, .int .i64 0, .string a.op, .string a.name, .int .i64 a.val.type, .int .i64 a.val.n, .string a.val.s, .slice a.A a.args.length a.c, .int .i64 a.pos, .string b.op, .string b.name, .int .i64 b.val.type, .int .i64 b.val.n, .string b.val.s, .slice b.A b.args.length b.c, .int .i64 b.pos] 44) = z := ⟨_, rfl⟩
        have by11 : Below z10.heap.size z10 y11 := by rw [← hy11]; exact below_new _ _ _
        have Ay11 : At y11 z10.heap.size #[.string ⟨#[118, 97, 108]⟩, .string ⟨#[]⟩, .int .i64 2, .int .i64 1, .string ⟨#[]⟩, .slice none 0 0, .int .i64 0, .string a.op, .string a.name, .int .i64 a.val.type, .int .i64 a.val.n, .string a.val.s, .slice a.A a.args.length a.c, .int .i64 a.pos, .string b.op, .string b.name, .int .i64 b.val.type, .int .i64 b.val.n, .string b.val.s, .slice b.A b.args.length b.c, .int .i64 b.pos] 44 := by rw [← hy11]; exact at_new _ _ _
        have Sy11 : SeesEx y11 (opE ⟨#[105, 102]⟩ (some ⟨z10.heap.size, 0, none⟩) 3 [litE true, a, b]) := by rw [← hy11]; exact seesOp z10 ⟨#[105, 102]⟩ [litE true, a, b] (show (2 : Nat) ≤ maxLen by decide) (in3 (lit_seen _ _) ST10.out.sa ST10.out.sb) (show (3 : Nat) ≤ maxLen by decide)
        have SY11 := Lib.hid (ST10.out.keep by11)
        have TE0 : Calls Tryd.prog 32 #[.agg #[.string ⟨#[105, 102]⟩, .string ⟨#[]⟩, .int .i64 0, .int .i64 0, .string ⟨#[]⟩, .slice (some ⟨z10.heap.size, 0, none⟩) 3 3, .int .i64 0], .slice C p q, .slice R y s] y11 _ := eval_any (opE ⟨#[105, 102]⟩ (some ⟨z10.heap.size, 0, none⟩) 3 [litE true, a, b]) C R p q y s cols r y11 SY11.out.T SY11.out.C HS.out SY11.out.R HW.out Sy11
        rw [if_is true POK.out.1 POK.out.2.1 POK.out.2.2 SCH.out HRE.out TAB.out, if_pos rfl, XA.out] at TE0
        have TE := Lib.hid TE0
        have Hy11 := Lib.hid hy11
        clear hy11
        have fa0 := ST10.out.ta.cell 0 _ rfl
        have fa1 := ST10.out.ta.cell 1 _ rfl
        have fa2 := ST10.out.ta.cell 2 _ rfl
        have fa3 := ST10.out.ta.cell 3 _ rfl
        have fa4 := ST10.out.ta.cell 4 _ rfl
        have fa5 := ST10.out.ta.cell 5 _ rfl
        have fa6 := ST10.out.ta.cell 6 _ rfl
        have fb0 := ST10.out.tb.cell 0 _ rfl
        have fb1 := ST10.out.tb.cell 1 _ rfl
        have fb2 := ST10.out.tb.cell 2 _ rfl
        have fb3 := ST10.out.tb.cell 3 _ rfl
        have fb4 := ST10.out.tb.cell 4 _ rfl
        have fb5 := ST10.out.tb.cell 5 _ rfl
        have fb6 := ST10.out.tb.cell 6 _ rfl
        have fy0 := ST10.out.ty.cell 0 _ rfl
        have fy1 := ST10.out.ty.cell 1 _ rfl
        have fy2 := ST10.out.ty.cell 2 _ rfl
        have fy3 := ST10.out.ty.cell 3 _ rfl
        have fy4 := ST10.out.ty.cell 4 _ rfl
        have fy5 := ST10.out.ty.cell 5 _ rfl
        have fy6 := ST10.out.ty.cell 6 _ rfl
        have MV11 := Lib.hid (LV10.out.keep by11)
        have MW11 := Lib.hid (LW10.out.keep by11)
        clear TE0 Sy11 Ay11 by11
        go_wp2_with (first | rw [Hz10.out] | rw [Hy11.out])
        refine (TE.out).mono ?_
        rintro e' v11 ⟨rfl, hb11⟩
        obtain ⟨z11, hz11⟩ : ∃ z, v11.alloc (.cells #[.int .i64 av.type, .int .i64 av.n, .string av.s] 33) = z := ⟨_, rfl⟩
        have bz11 : Below v11.heap.size v11 z11 := by rw [← hz11]; exact below_new _ _ _
        have Az11 : At z11 v11.heap.size #[.int .i64 av.type, .int .i64 av.n, .string av.s] 33 := by rw [← hz11]; exact at_new _ _ _
        have ST11 := Lib.hid ((SY11.out.keep hb11).keep bz11)
        have LV11 := Lib.hid ((MV11.out.keep hb11).keep bz11)
        have LW11 := Lib.hid ((MW11.out.keep hb11).keep bz11)
        have LX11 := Lib.hid Az11
        have Hz11 := Lib.hid hz11
        clear hz11
        clear hb11 bz11 Az11 TE fa0 fa1 fa2 fa3 fa4 fa5 fa6 fb0 fb1 fb2 fb3 fb4 fb5 fb6 fy0 fy1 fy2 fy3 fy4 fy5 fy6 Hy11 SY11 MV11 MW11 LV10 LW10
        unfold valV
        rw [E9.out]
        obtain ⟨y12, hy12⟩ : ∃ z, z11.alloc (.cells #[.string ⟨#[118, 97, 108]⟩, .string ⟨#[]⟩, .int .i64 2, .int .i64 0, .string ⟨#[]⟩, .slice none 0 0, .int .i64 0, .string a.op, .string a.name, .int .i64 a.val.type, .int .i64 a.val.n, .string a.val.s, .slice a.A a.args.length a.c, .int .i64 a.pos, .string b.op, .string b.name, .int .i64 b.val.type, .int .i64 b.val.n, .string b.val.s, .slice b.A b.args.length b.c, .int .i64 b.pos] 44) = z := ⟨_, rfl⟩
        have by12 : Below z11.heap.size z11 y12 := by rw [← hy12]; exact below_new _ _ _
        have Ay12 : At y12 z11.heap.size #[.string ⟨#[118, 97, 108]⟩, .string ⟨#[]⟩, .int .i64 2, .int .i64 0, .string ⟨#[]⟩, .slice none 0 0, .int .i64 0, .string a.op, .string a.name, .int .i64 a.val.type, .int .i64 a.val.n, .string a.val.s, .slice a.A a.args.length a.c, .int .i64 a.pos, .string b.op, .string b.name, .int .i64 b.val.type, .int .i64 b.val.n, .string b.val.s, .slice b.A b.args.length b.c, .int .i64 b.pos] 44 := by rw [← hy12]; exact at_new _ _ _
        have Sy12 : SeesEx y12 (opE ⟨#[105, 102]⟩ (some ⟨z11.heap.size, 0, none⟩) 3 [litE false, a, b]) := by rw [← hy12]; exact seesOp z11 ⟨#[105, 102]⟩ [litE false, a, b] (show (2 : Nat) ≤ maxLen by decide) (in3 (lit_seen _ _) ST11.out.sa ST11.out.sb) (show (3 : Nat) ≤ maxLen by decide)
        have SY12 := Lib.hid (ST11.out.keep by12)
        have TE0 : Calls Tryd.prog 32 #[.agg #[.string ⟨#[105, 102]⟩, .string ⟨#[]⟩, .int .i64 0, .int .i64 0, .string ⟨#[]⟩, .slice (some ⟨z11.heap.size, 0, none⟩) 3 3, .int .i64 0], .slice C p q, .slice R y s] y12 _ := eval_any (opE ⟨#[105, 102]⟩ (some ⟨z11.heap.size, 0, none⟩) 3 [litE false, a, b]) C R p q y s cols r y12 SY12.out.T SY12.out.C HS.out SY12.out.R HW.out Sy12
        rw [if_is false POK.out.1 POK.out.2.1 POK.out.2.2 SCH.out HRE.out TAB.out, if_neg (by decide), XB.out] at TE0
        have TE := Lib.hid TE0
        have Hy12 := Lib.hid hy12
        clear hy12
        have fa0 := ST11.out.ta.cell 0 _ rfl
        have fa1 := ST11.out.ta.cell 1 _ rfl
        have fa2 := ST11.out.ta.cell 2 _ rfl
        have fa3 := ST11.out.ta.cell 3 _ rfl
        have fa4 := ST11.out.ta.cell 4 _ rfl
        have fa5 := ST11.out.ta.cell 5 _ rfl
        have fa6 := ST11.out.ta.cell 6 _ rfl
        have fb0 := ST11.out.tb.cell 0 _ rfl
        have fb1 := ST11.out.tb.cell 1 _ rfl
        have fb2 := ST11.out.tb.cell 2 _ rfl
        have fb3 := ST11.out.tb.cell 3 _ rfl
        have fb4 := ST11.out.tb.cell 4 _ rfl
        have fb5 := ST11.out.tb.cell 5 _ rfl
        have fb6 := ST11.out.tb.cell 6 _ rfl
        have fn0 := ST11.out.tn.cell 0 _ rfl
        have fn1 := ST11.out.tn.cell 1 _ rfl
        have fn2 := ST11.out.tn.cell 2 _ rfl
        have fn3 := ST11.out.tn.cell 3 _ rfl
        have fn4 := ST11.out.tn.cell 4 _ rfl
        have fn5 := ST11.out.tn.cell 5 _ rfl
        have fn6 := ST11.out.tn.cell 6 _ rfl
        have MV12 := Lib.hid (LV11.out.keep by12)
        have MW12 := Lib.hid (LW11.out.keep by12)
        have MX12 := Lib.hid (LX11.out.keep by12)
        clear TE0 Sy12 Ay12 by12
        go_wp2_with (first | rw [Hz11.out] | rw [Hy12.out])
        refine (TE.out).mono ?_
        rintro e' v12 ⟨rfl, hb12⟩
        obtain ⟨z12, hz12⟩ : ∃ z, v12.alloc (.cells #[.int .i64 bv.type, .int .i64 bv.n, .string bv.s] 33) = z := ⟨_, rfl⟩
        have bz12 : Below v12.heap.size v12 z12 := by rw [← hz12]; exact below_new _ _ _
        have Az12 : At z12 v12.heap.size #[.int .i64 bv.type, .int .i64 bv.n, .string bv.s] 33 := by rw [← hz12]; exact at_new _ _ _
        have ST12 := Lib.hid ((SY12.out.keep hb12).keep bz12)
        have LV12 := Lib.hid ((MV12.out.keep hb12).keep bz12)
        have LW12 := Lib.hid ((MW12.out.keep hb12).keep bz12)
        have LX12 := Lib.hid ((MX12.out.keep hb12).keep bz12)
        have LY12 := Lib.hid Az12
        have Hz12 := Lib.hid hz12
        clear hz12
        clear hb12 bz12 Az12 TE fa0 fa1 fa2 fa3 fa4 fa5 fa6 fb0 fb1 fb2 fb3 fb4 fb5 fb6 fn0 fn1 fn2 fn3 fn4 fn5 fn6 Hy12 SY12 MV12 MW12 MX12 LV11 LW11 LX11
        unfold valV
        rw [E9.out]
        have qv0 := LV12.out.cell 0 _ rfl
        have qv1 := LV12.out.cell 1 _ rfl
        have qv2 := LV12.out.cell 2 _ rfl
        have qw0 := LW12.out.cell 0 _ rfl
        have qw1 := LW12.out.cell 1 _ rfl
        have qw2 := LW12.out.cell 2 _ rfl
        have qx0 := LX12.out.cell 0 _ rfl
        have qx1 := LX12.out.cell 1 _ rfl
        have qx2 := LX12.out.cell 2 _ rfl
        have qy0 := LY12.out.cell 0 _ rfl
        have qy1 := LY12.out.cell 1 _ rfl
        have qy2 := LY12.out.cell 2 _ rfl
        go_wp2_with (first | rw [Hz12.out])
        go_quiet (fail)
        have ST13 := Lib.hid (ST12.out.keep (below_drewN (Below.refl _ _) nq))
        have LV13 := Lib.hid (LV12.out.keep (below_drewN (Below.refl _ _) nq))
        generalize z12.drewN nq = z13 at ST13 LV13 ⊢
        clear qv0 qv1 qv2 qw0 qw1 qw2 qx0 qx1 qx2 qy0 qy1 qy2 LV12 LW12 LX12 LY12
        have CMP := Lib.hid (fun A c A' c' => cmp_is (r := r) (A := A) (c := c) (A' := A') (c' := c') POK.out.1 POK.out.2.1 POK.out.2.2 SCH.out HRE.out TAB.out EVA.out EVB.out)
        have CL := Lib.hid (show (∀ A c, evalR cols r (opE ⟨#[60]⟩ A c [a, b]) = ⟨9, noVal⟩) from fun A c => by
          rcases CMP.out A c none 0 with ⟨h1, h2, _⟩ | ⟨_, h, _⟩
          · rw [XA.out] at h1; rw [XB.out] at h2; first | (simp at h1; done) | (simp at h2; done)
          · exact h)
        have CG := Lib.hid (show (∀ A c, evalR cols r (opE ⟨#[62, 61]⟩ A c [a, b]) = ⟨9, noVal⟩) from fun A c => by
          rcases CMP.out none 0 A c with ⟨h1, h2, _⟩ | ⟨_, _, h⟩
          · rw [XA.out] at h1; rw [XB.out] at h2; first | (simp at h1; done) | (simp at h2; done)
          · exact h)
        obtain ⟨y14, hy14⟩ : ∃ z, z13.alloc (.cells #[.string a.op, .string a.name, .int .i64 a.val.type, .int .i64 a.val.n, .string a.val.s, .slice a.A a.args.length a.c, .int .i64 a.pos, .string b.op, .string b.name, .int .i64 b.val.type, .int .i64 b.val.n, .string b.val.s, .slice b.A b.args.length b.c, .int .i64 b.pos] 44) = z := ⟨_, rfl⟩
        have by14 : Below z13.heap.size z13 y14 := by rw [← hy14]; exact below_new _ _ _
        have Ay14 : At y14 z13.heap.size #[.string a.op, .string a.name, .int .i64 a.val.type, .int .i64 a.val.n, .string a.val.s, .slice a.A a.args.length a.c, .int .i64 a.pos, .string b.op, .string b.name, .int .i64 b.val.type, .int .i64 b.val.n, .string b.val.s, .slice b.A b.args.length b.c, .int .i64 b.pos] 44 := by rw [← hy14]; exact at_new _ _ _
        have Sy14 : SeesEx y14 (opE ⟨#[60]⟩ (some ⟨z13.heap.size, 0, none⟩) 2 [a, b]) := by rw [← hy14]; exact seesOp z13 ⟨#[60]⟩ [a, b] (show (1 : Nat) ≤ maxLen by decide) (in2 ST13.out.sa ST13.out.sb) (show (2 : Nat) ≤ maxLen by decide)
        have SY14 := Lib.hid (ST13.out.keep by14)
        have TE0 : Calls Tryd.prog 32 #[.agg #[.string ⟨#[60]⟩, .string ⟨#[]⟩, .int .i64 0, .int .i64 0, .string ⟨#[]⟩, .slice (some ⟨z13.heap.size, 0, none⟩) 2 2, .int .i64 0], .slice C p q, .slice R y s] y14 _ := eval_any (opE ⟨#[60]⟩ (some ⟨z13.heap.size, 0, none⟩) 2 [a, b]) C R p q y s cols r y14 SY14.out.T SY14.out.C HS.out SY14.out.R HW.out Sy14
        rw [CL.out] at TE0
        have TE := Lib.hid TE0
        have Hy14 := Lib.hid hy14
        clear hy14
        have fa0 := ST13.out.ta.cell 0 _ rfl
        have fa1 := ST13.out.ta.cell 1 _ rfl
        have fa2 := ST13.out.ta.cell 2 _ rfl
        have fa3 := ST13.out.ta.cell 3 _ rfl
        have fa4 := ST13.out.ta.cell 4 _ rfl
        have fa5 := ST13.out.ta.cell 5 _ rfl
        have fa6 := ST13.out.ta.cell 6 _ rfl
        have fb0 := ST13.out.tb.cell 0 _ rfl
        have fb1 := ST13.out.tb.cell 1 _ rfl
        have fb2 := ST13.out.tb.cell 2 _ rfl
        have fb3 := ST13.out.tb.cell 3 _ rfl
        have fb4 := ST13.out.tb.cell 4 _ rfl
        have fb5 := ST13.out.tb.cell 5 _ rfl
        have fb6 := ST13.out.tb.cell 6 _ rfl
        have MV14 := Lib.hid (LV13.out.keep by14)
        clear TE0 Sy14 Ay14 by14
        go_wp2_with (first | rw [Hy14.out])
        refine (TE.out).mono ?_
        rintro e' v14 ⟨rfl, hb14⟩
        rw [E9.out]
        unfold valV noVal
        obtain ⟨z14, hz14⟩ : ∃ z, v14.alloc (.cells #[.int .i64 0, .int .i64 0, .string ⟨#[]⟩] 33) = z := ⟨_, rfl⟩
        have bz14 : Below v14.heap.size v14 z14 := by rw [← hz14]; exact below_new _ _ _
        have Az14 : At z14 v14.heap.size #[.int .i64 0, .int .i64 0, .string ⟨#[]⟩] 33 := by rw [← hz14]; exact at_new _ _ _
        have ST14 := Lib.hid ((SY14.out.keep hb14).keep bz14)
        have LV14 := Lib.hid ((MV14.out.keep hb14).keep bz14)
        have LP14 := Lib.hid Az14
        have HSelf14 := Lib.hid (self3 Az14)
        have bl14 := (Array.getElem?_eq_some_iff.1 Az14).1
        have sc140 := Az14.cell 0 _ rfl
        have sz140 := Az14.free 0
        have sc141 := Az14.cell 1 _ rfl
        have sz141 := Az14.free 1
        have sc142 := Az14.cell 2 _ rfl
        have sz142 := Az14.free 2
        have Hz14 := Lib.hid hz14
        clear hz14
        clear hb14 bz14 Az14 TE fa0 fa1 fa2 fa3 fa4 fa5 fa6 fb0 fb1 fb2 fb3 fb4 fb5 fb6 Hy14 SY14 MV14 LV13
        obtain ⟨y15, hy15⟩ : ∃ z, z14.alloc (.cells #[.string a.op, .string a.name, .int .i64 a.val.type, .int .i64 a.val.n, .string a.val.s, .slice a.A a.args.length a.c, .int .i64 a.pos, .string b.op, .string b.name, .int .i64 b.val.type, .int .i64 b.val.n, .string b.val.s, .slice b.A b.args.length b.c, .int .i64 b.pos] 44) = z := ⟨_, rfl⟩
        have by15 : Below z14.heap.size z14 y15 := by rw [← hy15]; exact below_new _ _ _
        have Ay15 : At y15 z14.heap.size #[.string a.op, .string a.name, .int .i64 a.val.type, .int .i64 a.val.n, .string a.val.s, .slice a.A a.args.length a.c, .int .i64 a.pos, .string b.op, .string b.name, .int .i64 b.val.type, .int .i64 b.val.n, .string b.val.s, .slice b.A b.args.length b.c, .int .i64 b.pos] 44 := by rw [← hy15]; exact at_new _ _ _
        have Sy15 : SeesEx y15 (opE ⟨#[62, 61]⟩ (some ⟨z14.heap.size, 0, none⟩) 2 [a, b]) := by rw [← hy15]; exact seesOp z14 ⟨#[62, 61]⟩ [a, b] (show (2 : Nat) ≤ maxLen by decide) (in2 ST14.out.sa ST14.out.sb) (show (2 : Nat) ≤ maxLen by decide)
        have SY15 := Lib.hid (ST14.out.keep by15)
        have TE0 : Calls Tryd.prog 32 #[.agg #[.string ⟨#[62, 61]⟩, .string ⟨#[]⟩, .int .i64 0, .int .i64 0, .string ⟨#[]⟩, .slice (some ⟨z14.heap.size, 0, none⟩) 2 2, .int .i64 0], .slice C p q, .slice R y s] y15 _ := eval_any (opE ⟨#[62, 61]⟩ (some ⟨z14.heap.size, 0, none⟩) 2 [a, b]) C R p q y s cols r y15 SY15.out.T SY15.out.C HS.out SY15.out.R HW.out Sy15
        rw [CG.out] at TE0
        have TE := Lib.hid TE0
        have Hy15 := Lib.hid hy15
        clear hy15
        have fa0 := ST14.out.ta.cell 0 _ rfl
        have fa1 := ST14.out.ta.cell 1 _ rfl
        have fa2 := ST14.out.ta.cell 2 _ rfl
        have fa3 := ST14.out.ta.cell 3 _ rfl
        have fa4 := ST14.out.ta.cell 4 _ rfl
        have fa5 := ST14.out.ta.cell 5 _ rfl
        have fa6 := ST14.out.ta.cell 6 _ rfl
        have fb0 := ST14.out.tb.cell 0 _ rfl
        have fb1 := ST14.out.tb.cell 1 _ rfl
        have fb2 := ST14.out.tb.cell 2 _ rfl
        have fb3 := ST14.out.tb.cell 3 _ rfl
        have fb4 := ST14.out.tb.cell 4 _ rfl
        have fb5 := ST14.out.tb.cell 5 _ rfl
        have fb6 := ST14.out.tb.cell 6 _ rfl
        have MV15 := Lib.hid (LV14.out.keep by15)
        have MP15 := Lib.hid (LP14.out.keep by15)
        clear TE0 Sy15 Ay15 by15
        go_wp2_with (first | rw [Hz14.out] | rw [HSelf14.out] | rw [Hy15.out])
        refine (TE.out).mono ?_
        rintro e' v15 ⟨rfl, hb15⟩
        rw [E9.out]
        unfold valV noVal
        obtain ⟨z15, hz15⟩ : ∃ z, v15.alloc (.cells #[.int .i64 0, .int .i64 0, .string ⟨#[]⟩] 33) = z := ⟨_, rfl⟩
        have bz15 : Below v15.heap.size v15 z15 := by rw [← hz15]; exact below_new _ _ _
        have Az15 : At z15 v15.heap.size #[.int .i64 0, .int .i64 0, .string ⟨#[]⟩] 33 := by rw [← hz15]; exact at_new _ _ _
        have ST15 := Lib.hid ((SY15.out.keep hb15).keep bz15)
        have LV15 := Lib.hid ((MV15.out.keep hb15).keep bz15)
        have LP15 := Lib.hid ((MP15.out.keep hb15).keep bz15)
        have LQ15 := Lib.hid Az15
        have HSelf15 := Lib.hid (self3 Az15)
        have bl15 := (Array.getElem?_eq_some_iff.1 Az15).1
        have sc150 := Az15.cell 0 _ rfl
        have sz150 := Az15.free 0
        have sc151 := Az15.cell 1 _ rfl
        have sz151 := Az15.free 1
        have sc152 := Az15.cell 2 _ rfl
        have sz152 := Az15.free 2
        have Hz15 := Lib.hid hz15
        clear hz15
        clear hb15 bz15 Az15 TE fa0 fa1 fa2 fa3 fa4 fa5 fa6 fb0 fb1 fb2 fb3 fb4 fb5 fb6 Hy15 SY15 MV15 MP15 LV14 LP14
        have qp := LP15.out.cell 1 _ rfl
        have qq := LQ15.out.cell 1 _ rfl
        go_wp2_with (first | rw [Hz15.out] | rw [HSelf15.out])
        go_quiet (fail)
        have ST16 := Lib.hid (ST15.out.keep (below_drewN (Below.refl _ _) nq))
        have LV16 := Lib.hid (LV15.out.keep (below_drewN (Below.refl _ _) nq))
        generalize z15.drewN nq = z16 at ST16 LV16 ⊢
        clear qp qq LP15 LQ15 LV15
        by_cases ht2 : ta = 2
        rotate_left
        · have e2 : (ta != 2) = true := by simpa using ht2
          clear ht2
          go_wp2_with fail
          go_ret
          exact ⟨rfl, ST16.out.bl⟩
        have HT2 := Lib.hid (TTA.out.trans ht2)
        subst ht2
        obtain ⟨y30, hy30⟩ : ∃ z, z16.alloc (.cells #[.string ⟨#[118, 97, 108]⟩, .string ⟨#[]⟩, .int .i64 2, .int .i64 0, .string ⟨#[]⟩, .slice none 0 0, .int .i64 0, .string a.op, .string a.name, .int .i64 a.val.type, .int .i64 a.val.n, .string a.val.s, .slice a.A a.args.length a.c, .int .i64 a.pos] 44) = z := ⟨_, rfl⟩
        have by30 : Below z16.heap.size z16 y30 := by rw [← hy30]; exact below_new _ _ _
        have Ay30 : At y30 z16.heap.size #[.string ⟨#[118, 97, 108]⟩, .string ⟨#[]⟩, .int .i64 2, .int .i64 0, .string ⟨#[]⟩, .slice none 0 0, .int .i64 0, .string a.op, .string a.name, .int .i64 a.val.type, .int .i64 a.val.n, .string a.val.s, .slice a.A a.args.length a.c, .int .i64 a.pos] 44 := by rw [← hy30]; exact at_new _ _ _
        have Sy30 : SeesEx y30 (opE ⟨#[97, 110, 100]⟩ (some ⟨z16.heap.size, 0, none⟩) 2 [litE false, a]) := by rw [← hy30]; exact seesOp z16 ⟨#[97, 110, 100]⟩ [litE false, a] (show (3 : Nat) ≤ maxLen by decide) (in2 (lit_seen _ _) ST16.out.sa) (show (2 : Nat) ≤ maxLen by decide)
        have SY30 := Lib.hid (ST16.out.keep by30)
        have TE0 : Calls Tryd.prog 32 #[.agg #[.string ⟨#[97, 110, 100]⟩, .string ⟨#[]⟩, .int .i64 0, .int .i64 0, .string ⟨#[]⟩, .slice (some ⟨z16.heap.size, 0, none⟩) 2 2, .int .i64 0], .slice C p q, .slice R y s] y30 _ := eval_any (opE ⟨#[97, 110, 100]⟩ (some ⟨z16.heap.size, 0, none⟩) 2 [litE false, a]) C R p q y s cols r y30 SY30.out.T SY30.out.C HS.out SY30.out.R HW.out Sy30
        rw [and_no POK.out.1 (by have := POK.out.2.2; omega) SCH.out HRE.out HT2.out] at TE0
        have TE := Lib.hid TE0
        have Hy30 := Lib.hid hy30
        clear hy30
        have fa0 := ST16.out.ta.cell 0 _ rfl
        have fa1 := ST16.out.ta.cell 1 _ rfl
        have fa2 := ST16.out.ta.cell 2 _ rfl
        have fa3 := ST16.out.ta.cell 3 _ rfl
        have fa4 := ST16.out.ta.cell 4 _ rfl
        have fa5 := ST16.out.ta.cell 5 _ rfl
        have fa6 := ST16.out.ta.cell 6 _ rfl
        have fn0 := ST16.out.tn.cell 0 _ rfl
        have fn1 := ST16.out.tn.cell 1 _ rfl
        have fn2 := ST16.out.tn.cell 2 _ rfl
        have fn3 := ST16.out.tn.cell 3 _ rfl
        have fn4 := ST16.out.tn.cell 4 _ rfl
        have fn5 := ST16.out.tn.cell 5 _ rfl
        have fn6 := ST16.out.tn.cell 6 _ rfl
        have MV30 := Lib.hid (LV16.out.keep by30)
        clear TE0 Sy30 Ay30 by30
        go_wp2_with (first | rw [Hy30.out])
        refine (TE.out).mono ?_
        rintro e' v30 ⟨rfl, hb30⟩
        obtain ⟨z30, hz30⟩ : ∃ z, v30.alloc (.cells #[.int .i64 2, .int .i64 0, .string ⟨#[]⟩] 33) = z := ⟨_, rfl⟩
        have bz30 : Below v30.heap.size v30 z30 := by rw [← hz30]; exact below_new _ _ _
        have Az30 : At z30 v30.heap.size #[.int .i64 2, .int .i64 0, .string ⟨#[]⟩] 33 := by rw [← hz30]; exact at_new _ _ _
        have ST30 := Lib.hid ((SY30.out.keep hb30).keep bz30)
        have LV30 := Lib.hid ((MV30.out.keep hb30).keep bz30)
        have LI30 := Lib.hid Az30
        have Hz30 := Lib.hid hz30
        clear hz30
        clear hb30 bz30 Az30 TE fa0 fa1 fa2 fa3 fa4 fa5 fa6 fn0 fn1 fn2 fn3 fn4 fn5 fn6 Hy30 SY30 MV30 LV16
        unfold valV
        rw [errV_zero]
        unfold truthV
        obtain ⟨y31, hy31⟩ : ∃ z, z30.alloc (.cells #[.string ⟨#[118, 97, 108]⟩, .string ⟨#[]⟩, .int .i64 2, .int .i64 1, .string ⟨#[]⟩, .slice none 0 0, .int .i64 0, .string a.op, .string a.name, .int .i64 a.val.type, .int .i64 a.val.n, .string a.val.s, .slice a.A a.args.length a.c, .int .i64 a.pos] 44) = z := ⟨_, rfl⟩
        have by31 : Below z30.heap.size z30 y31 := by rw [← hy31]; exact below_new _ _ _
        have Ay31 : At y31 z30.heap.size #[.string ⟨#[118, 97, 108]⟩, .string ⟨#[]⟩, .int .i64 2, .int .i64 1, .string ⟨#[]⟩, .slice none 0 0, .int .i64 0, .string a.op, .string a.name, .int .i64 a.val.type, .int .i64 a.val.n, .string a.val.s, .slice a.A a.args.length a.c, .int .i64 a.pos] 44 := by rw [← hy31]; exact at_new _ _ _
        have Sy31 : SeesEx y31 (opE ⟨#[111, 114]⟩ (some ⟨z30.heap.size, 0, none⟩) 2 [litE true, a]) := by rw [← hy31]; exact seesOp z30 ⟨#[111, 114]⟩ [litE true, a] (show (2 : Nat) ≤ maxLen by decide) (in2 (lit_seen _ _) ST30.out.sa) (show (2 : Nat) ≤ maxLen by decide)
        have SY31 := Lib.hid (ST30.out.keep by31)
        have TE0 : Calls Tryd.prog 32 #[.agg #[.string ⟨#[111, 114]⟩, .string ⟨#[]⟩, .int .i64 0, .int .i64 0, .string ⟨#[]⟩, .slice (some ⟨z30.heap.size, 0, none⟩) 2 2, .int .i64 0], .slice C p q, .slice R y s] y31 _ := eval_any (opE ⟨#[111, 114]⟩ (some ⟨z30.heap.size, 0, none⟩) 2 [litE true, a]) C R p q y s cols r y31 SY31.out.T SY31.out.C HS.out SY31.out.R HW.out Sy31
        rw [or_yes POK.out.1 (by have := POK.out.2.2; omega) SCH.out HRE.out HT2.out] at TE0
        have TE := Lib.hid TE0
        have Hy31 := Lib.hid hy31
        clear hy31
        have fa0 := ST30.out.ta.cell 0 _ rfl
        have fa1 := ST30.out.ta.cell 1 _ rfl
        have fa2 := ST30.out.ta.cell 2 _ rfl
        have fa3 := ST30.out.ta.cell 3 _ rfl
        have fa4 := ST30.out.ta.cell 4 _ rfl
        have fa5 := ST30.out.ta.cell 5 _ rfl
        have fa6 := ST30.out.ta.cell 6 _ rfl
        have fy0 := ST30.out.ty.cell 0 _ rfl
        have fy1 := ST30.out.ty.cell 1 _ rfl
        have fy2 := ST30.out.ty.cell 2 _ rfl
        have fy3 := ST30.out.ty.cell 3 _ rfl
        have fy4 := ST30.out.ty.cell 4 _ rfl
        have fy5 := ST30.out.ty.cell 5 _ rfl
        have fy6 := ST30.out.ty.cell 6 _ rfl
        have MV31 := Lib.hid (LV30.out.keep by31)
        have MI31 := Lib.hid (LI30.out.keep by31)
        clear TE0 Sy31 Ay31 by31
        go_wp2_with (first | rw [Hz30.out] | rw [Hy31.out])
        refine (TE.out).mono ?_
        rintro e' v31 ⟨rfl, hb31⟩
        obtain ⟨z31, hz31⟩ : ∃ z, v31.alloc (.cells #[.int .i64 2, .int .i64 1, .string ⟨#[]⟩] 33) = z := ⟨_, rfl⟩
        have bz31 : Below v31.heap.size v31 z31 := by rw [← hz31]; exact below_new _ _ _
        have Az31 : At z31 v31.heap.size #[.int .i64 2, .int .i64 1, .string ⟨#[]⟩] 33 := by rw [← hz31]; exact at_new _ _ _
        have ST31 := Lib.hid ((SY31.out.keep hb31).keep bz31)
        have LV31 := Lib.hid ((MV31.out.keep hb31).keep bz31)
        have LI31 := Lib.hid ((MI31.out.keep hb31).keep bz31)
        have LJ31 := Lib.hid Az31
        have Hz31 := Lib.hid hz31
        clear hz31
        clear hb31 bz31 Az31 TE fa0 fa1 fa2 fa3 fa4 fa5 fa6 fy0 fy1 fy2 fy3 fy4 fy5 fy6 Hy31 SY31 MV31 MI31 LV30 LI30
        unfold valV
        rw [errV_zero]
        unfold truthV
        obtain ⟨y32, hy32⟩ : ∃ z, z31.alloc (.cells #[.string ⟨#[118, 97, 108]⟩, .string ⟨#[]⟩, .int .i64 2, .int .i64 1, .string ⟨#[]⟩, .slice none 0 0, .int .i64 0, .string a.op, .string a.name, .int .i64 a.val.type, .int .i64 a.val.n, .string a.val.s, .slice a.A a.args.length a.c, .int .i64 a.pos] 44) = z := ⟨_, rfl⟩
        have by32 : Below z31.heap.size z31 y32 := by rw [← hy32]; exact below_new _ _ _
        have Ay32 : At y32 z31.heap.size #[.string ⟨#[118, 97, 108]⟩, .string ⟨#[]⟩, .int .i64 2, .int .i64 1, .string ⟨#[]⟩, .slice none 0 0, .int .i64 0, .string a.op, .string a.name, .int .i64 a.val.type, .int .i64 a.val.n, .string a.val.s, .slice a.A a.args.length a.c, .int .i64 a.pos] 44 := by rw [← hy32]; exact at_new _ _ _
        have Sy32 : SeesEx y32 (opE ⟨#[97, 110, 100]⟩ (some ⟨z31.heap.size, 0, none⟩) 2 [litE true, a]) := by rw [← hy32]; exact seesOp z31 ⟨#[97, 110, 100]⟩ [litE true, a] (show (3 : Nat) ≤ maxLen by decide) (in2 (lit_seen _ _) ST31.out.sa) (show (2 : Nat) ≤ maxLen by decide)
        have SY32 := Lib.hid (ST31.out.keep by32)
        have TE0 : Calls Tryd.prog 32 #[.agg #[.string ⟨#[97, 110, 100]⟩, .string ⟨#[]⟩, .int .i64 0, .int .i64 0, .string ⟨#[]⟩, .slice (some ⟨z31.heap.size, 0, none⟩) 2 2, .int .i64 0], .slice C p q, .slice R y s] y32 _ := eval_any (opE ⟨#[97, 110, 100]⟩ (some ⟨z31.heap.size, 0, none⟩) 2 [litE true, a]) C R p q y s cols r y32 SY32.out.T SY32.out.C HS.out SY32.out.R HW.out Sy32
        rw [and_yes POK.out.1 (by have := POK.out.2.2; omega) SCH.out HRE.out HT2.out EVA.out, XA.out] at TE0
        have TE := Lib.hid TE0
        have Hy32 := Lib.hid hy32
        clear hy32
        have fa0 := ST31.out.ta.cell 0 _ rfl
        have fa1 := ST31.out.ta.cell 1 _ rfl
        have fa2 := ST31.out.ta.cell 2 _ rfl
        have fa3 := ST31.out.ta.cell 3 _ rfl
        have fa4 := ST31.out.ta.cell 4 _ rfl
        have fa5 := ST31.out.ta.cell 5 _ rfl
        have fa6 := ST31.out.ta.cell 6 _ rfl
        have fy0 := ST31.out.ty.cell 0 _ rfl
        have fy1 := ST31.out.ty.cell 1 _ rfl
        have fy2 := ST31.out.ty.cell 2 _ rfl
        have fy3 := ST31.out.ty.cell 3 _ rfl
        have fy4 := ST31.out.ty.cell 4 _ rfl
        have fy5 := ST31.out.ty.cell 5 _ rfl
        have fy6 := ST31.out.ty.cell 6 _ rfl
        have MV32 := Lib.hid (LV31.out.keep by32)
        have MI32 := Lib.hid (LI31.out.keep by32)
        have MJ32 := Lib.hid (LJ31.out.keep by32)
        clear TE0 Sy32 Ay32 by32
        go_wp2_with (first | rw [Hz31.out] | rw [Hy32.out])
        refine (TE.out).mono ?_
        rintro e' v32 ⟨rfl, hb32⟩
        obtain ⟨z32, hz32⟩ : ∃ z, v32.alloc (.cells #[.int .i64 av.type, .int .i64 av.n, .string av.s] 33) = z := ⟨_, rfl⟩
        have bz32 : Below v32.heap.size v32 z32 := by rw [← hz32]; exact below_new _ _ _
        have Az32 : At z32 v32.heap.size #[.int .i64 av.type, .int .i64 av.n, .string av.s] 33 := by rw [← hz32]; exact at_new _ _ _
        have ST32 := Lib.hid ((SY32.out.keep hb32).keep bz32)
        have LV32 := Lib.hid ((MV32.out.keep hb32).keep bz32)
        have LI32 := Lib.hid ((MI32.out.keep hb32).keep bz32)
        have LJ32 := Lib.hid ((MJ32.out.keep hb32).keep bz32)
        have LK32 := Lib.hid Az32
        have Hz32 := Lib.hid hz32
        clear hz32
        clear hb32 bz32 Az32 TE fa0 fa1 fa2 fa3 fa4 fa5 fa6 fy0 fy1 fy2 fy3 fy4 fy5 fy6 Hy32 SY32 MV32 MI32 MJ32 LV31 LI31 LJ31
        unfold valV
        rw [E9.out]
        have q1 := LI32.out.cell 1 _ rfl
        have q2 := LJ32.out.cell 1 _ rfl
        have qv0 := LV32.out.cell 0 _ rfl
        have qk0 := LK32.out.cell 0 _ rfl
        have qv1 := LV32.out.cell 1 _ rfl
        have qk1 := LK32.out.cell 1 _ rfl
        have qv2 := LV32.out.cell 2 _ rfl
        have qk2 := LK32.out.cell 2 _ rfl
        go_wp2_with (first | rw [Hz32.out])
        go_quiet (fail)
        have BLZ := Lib.hid (below_drewN ST32.out.bl nq)
        generalize z32.drewN nq = wz at BLZ ⊢
        go_wp2_with fail
        go_ret
        exact ⟨by simp, BLZ.out⟩
  · have e1 := errV_ne hr0
    rw [e1] at TRC
    clear hr0 e1 hre
    go_wp2_with (first | rw [Hx1.out])
    refine (TRC.out).mono ?_
    rintro e' w2 ⟨rfl, hb2⟩
    have ST2 := Lib.hid (ST1.out.keep hb2)
    clear hb2 k1
    go_wp2_with fail
    go_ret
    exact ⟨rfl, ST2.out.bl⟩

set_option maxRecDepth 100000 in
theorem contract (H : Type) (enc : TypeId × Value → H) (W : World) (base : Nat) (args : Array Value) (ds gs : List (DataW H)) (before : List MemPlace)
    (hval : ∀ (j : Nat) t v, Tryd.f9.params[j]? = some t → args[j]? = some v → Value.okWide Tryd.prog W .any base t v)
    (hW : DataW.Whole enc Tryd.prog Tryd.f9.params.toList Rows.evalSidesSpec.vars false W args.toList ds gs before)
    (hsz : (DataW.weightsEach Tryd.prog (Tryd.f9.params.toList ++ (OpenSpec.ofChange Rows.evalSidesSpec).bare.plain.varTypes Tryd.prog) (ds ++ gs)).all (· ≤ reachBytes) = true) (hL : laidMetH Tryd.prog Rows.evalSidesRow.laid W) :
    Calls Tryd.prog 9 args W fun e W' => ∃ v, e = .returned v ∧ Rows.evalSidesSpec.post enc Tryd.prog Tryd.f9 false true false false W args v W' := by
  have hW' := hW
  obtain ⟨p, q, hA0, hV, rfl, hfz, hnd⟩ := hW
  have hA : DataW.TrodAll enc Tryd.prog W 0 (fun _ => true) true Tryd.f9.params.toList args.toList ds p := hA0
  rw [Tryd.params9] at hA hval
  obtain ⟨v0, vs0, d0, ds0, p0, q0, hargs, rfl, rfl, h0, r0⟩ := trodAll_cons hA
  obtain ⟨v1, vs1, d1, ds1, p1, q1, rfl, rfl, rfl, h1, r1⟩ := trodAll_cons r0
  obtain ⟨v2, vs2, d2, ds2, p2, q2, rfl, rfl, rfl, h2, r2⟩ := trodAll_cons r1
  obtain ⟨v3, vs3, d3, ds3, p3, q3, rfl, rfl, rfl, h3, r3⟩ := trodAll_cons r2
  obtain ⟨rfl, rfl, rfl⟩ := trodAll_nil r3
  obtain rfl : args = #[v0, v1, v2, v3] := by cases args; simp_all
  obtain ⟨rfl, rfl⟩ := trodVars_none hV
  have hv0 := hval 0 44 v0 rfl rfl
  have hv1 := hval 1 44 v1 rfl rfl
  have hv2 := hval 2 37 v2 rfl rfl
  have hv3 := hval 3 34 v3 rfl rfl
  obtain ⟨a, rfl, ha⟩ := open_ex hv0 h0
  obtain ⟨b, rfl, hb⟩ := open_ex hv1 h1
  obtain ⟨C, p, q, cols, rfl, hC, hcs⟩ := open_cols (okWide_slice Tryd.underlying37 hv2) h2
  obtain ⟨R, y, s, r, rfl, hR, hw⟩ := open_vals (okWide_slice Tryd.underlying34 hv3) h3
  have hL0 : laidMet Tryd.prog Rows.evalSidesRow.laid W := hL
  refine (walk a b C R p q y s cols r W ⟨levelsT_of hL0 (.tail _ (.head _)), opsT_of hL0 (.tail _ (.tail _ (.head _))), wordsT_of hL0 (.head _)⟩ hC (fun x hx => (hcs x hx).1) hR hw ha hb).mono fun e W' ⟨he, hb⟩ => ?_
  subst he
  exact ⟨_, rfl, law_post laidOut Tryd.underlying4 (by kernel_rfl) rfl (by rw [Tryd.params9]; intro t ht; simp only [List.mem_cons, List.not_mem_nil, or_false] at ht; rcases ht with rfl | rfl | rfl | rfl; all_goals exact ⟨by kernel_rfl, of_decide_eq_true (by kernel_rfl)⟩) hW' rfl hb⟩

theorem reads (os : Os) {H : Type} (enc : TypeId × Value → H) : ∃ places, DataW.whole enc Tryd.prog ((World.doorLaid Tryd.prog 4000 os).forCall (fun _ _ => 0) ⟨#[], #[.agg #[.string .empty, .string .empty, .int .i64 0, .int .i64 0, .string .empty, .slice none 0 0, .int .i64 0], .agg #[.string .empty, .string .empty, .int .i64 0, .int .i64 0, .string .empty, .slice none 0 0, .int .i64 0], .slice none 0 0, .slice none 0 0], []⟩).memory Tryd.f9.params.toList Rows.evalSidesSpec.vars false (#[.agg #[.string .empty, .string .empty, .int .i64 0, .int .i64 0, .string .empty, .slice none 0 0, .int .i64 0], .agg #[.string .empty, .string .empty, .int .i64 0, .int .i64 0, .string .empty, .slice none 0 0, .int .i64 0], .slice none 0 0, .slice none 0 0] : Array Value).toList 8 = some ([.agg [.lit (.string []), .lit (.string []), .agg [.lit (.int .i64 0), .lit (.int .i64 0), .lit (.string [])], .nil, .lit (.int .i64 0)], .agg [.lit (.string []), .lit (.string []), .agg [.lit (.int .i64 0), .lit (.int .i64 0), .lit (.string [])], .nil, .lit (.int .i64 0)], .nil, .nil], [], places) :=
  ⟨[], by kernel_rfl⟩

set_option maxRecDepth 100000 in
theorem lifted (os : Os) (started : os.Started) (H : Type) (enc : TypeId × Value → H) (F : Stop.Interp) :
    ReturnsInHanded {} Tryd.checked os 9 .any ((OpenSpec.ofChange Rows.evalSidesSpec).preRow enc Tryd.prog Tryd.f9 Rows.evalSidesRow.domain false Rows.evalSidesRow.laid) (((OpenSpec.ofChange Rows.evalSidesSpec).at F).post enc Tryd.prog Tryd.f9 false true false false) := by
  obtain ⟨places, hx⟩ := reads os enc
  refine returnsInHanded_of_row (C := Tryd.checked) (s := OpenSpec.ofChange Rows.evalSidesSpec) own started (by kernel_rfl) Tryd.func9
    (witness_row_atRef (enc := enc) (C := Tryd.checked) false (World.doorLaid Tryd.prog 4000 os) #[.agg #[.string .empty, .string .empty, .int .i64 0, .int .i64 0, .string .empty, .slice none 0 0, .int .i64 0], .agg #[.string .empty, .string .empty, .int .i64 0, .int .i64 0, .string .empty, .slice none 0 0, .int .i64 0], .slice none 0 0, .slice none 0 0] rfl (by kernel_rfl) (by kernel_rfl) (by kernel_rfl)
      (OpenSpec.preRow_of_cond 8 hx (by kernel_rfl) (fun k hk => by cases hk) (by kernel_rfl) (laidMet_of_run' 12 (by kernel_rfl) (by kernel_rfl)))) ?_
  intro W base args ds gs before hval hW _ _ hsz hL _ _
  exact contract H enc W base args ds gs before hval hW hsz hL

theorem said : Rows.EvalSidesSaid :=
  OpenClaim.holds_of_cond 9 Tryd.f9 rfl rfl rfl rfl rfl rfl rfl ⟨rfl, rfl, rfl, rfl, rfl⟩ rfl rfl rfl rfl rfl (by kernel_rfl) Tryd.func9 (by kernel_rfl)
    (of_decide_eq_true (by kernel_rfl)) (by unfold Func.isWrapper; first | (rw [if_pos (by decide +kernel)]; kernel_rfl) | (rw [if_neg (by decide +kernel)]; exact ⟨rfl, rfl⟩))
    (fun os started H enc _ F => by rw [OpenClaim.pre_eq_preRow]; exact lifted os started H enc F)

theorem plain (f : FuncId) (fn : Func) (hf : Tryd.pinned.checked.prog.funcNamed "sluicebook/sluicelaw1.EvalSides" = some f) (hfn : Tryd.pinned.checked.prog.funcs[f]? = some fn) :
    true = Tryd.pinned.checked.prog.looks [] ∧ ∀ (j : Nat) t, fn.params[j]? = some t → Tryd.pinned.checked.prog.wantsStandIn t = false := by
  obtain rfl : f = 9 := Option.some.inj ((show Tryd.prog.funcNamed "sluicebook/sluicelaw1.EvalSides" = some 9 by kernel_rfl).symm.trans hf) |>.symm
  obtain rfl : fn = Tryd.f9 := (Option.some.inj (Tryd.func9.symm.trans hfn)).symm
  refine ⟨by kernel_rfl, fun j t ht => ?_⟩
  rw [Tryd.params9] at ht
  have hm := Array.mem_of_getElem? ht
  simp only [List.mem_toArray, List.mem_cons, List.not_mem_nil, or_false] at hm
  rcases hm with rfl | rfl | rfl | rfl
  · exact (show Tryd.prog.wantsStandIn 44 = false by kernel_rfl)
  · exact (show Tryd.prog.wantsStandIn 44 = false by kernel_rfl)
  · exact (show Tryd.prog.wantsStandIn 37 = false by kernel_rfl)
  · exact (show Tryd.prog.wantsStandIn 34 = false by kernel_rfl)

theorem card : Rows.EvalSidesCardSaid :=
  Claim7.holds_tied_plain_at .later [] _ _ _ _ said (fun _ h => by cases h) (by kernel_rfl) (fun _ h => by cases h) evalSides_row_tie rfl ⟨rfl, rfl⟩ (by kernel_rfl) rfl plain (by kernel_rfl)
#print axioms card
end Go.Proofs.YtapbmknimejldaaDoor.evalSides
