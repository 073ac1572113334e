/- Of the law FoldTells: the card Rows.FoldTellsUptoCardSaid: where what it reads is of bulk at most 1048576, whatever the expression and the columns, it returns true. -/
import Derived.Test.YtpbbkpfaphjdoaaGreatDoorFTold
import Derived.Test.YtpbbkpfaphjdoaaGreatDoorFRefFold
import Derived.Test.YtpbbkpfaphjdoaaGreatDoorFRefUses
import Derived.Test.YtpbbkpfaphjdoaaGreatDoorFFoldFold
import Derived.Test.YtpbbkpfaphjdoaaGreatDoorFRefOf
import Derived.Test.YtpbbkpfaphjdoaaGreatDoorFTreeName
import Derived.Test.YtpbbkpfaphjdoaaGreatDoorCards
import Derived.Test.YtpbbkpfaphjdoaaGreatDoorTie
import Derived.Test.YtpbbkpfaphjdoaaGreatDoorFOpenExN
import Derived.LaidLaws
import Derived.LaidMore
import Derived.LaidHandle
import Derived.Stop.Joined
import Derived.SevenTiedAt
import Derived.Deep.DeepWitnessRowRef
import Derived.Deep.DeepHandedRow
import Derived.Deep.QuietTactic
import Derived.BigQuiet
import Derived.BigRegion
namespace Go.Proofs.YtpbbkpfaphjdoaaGreatDoor.foldTells
open Go.ChangeShapes Go.WideShapes Go.ChangeAt Go.RowKit
theorem errIs (k : Int) : ErrIs (errV k) k := by
 by_cases h : k = 0
 ·subst h; exact Or.inl ⟨rfl, rfl⟩
 ·exact Or.inr ⟨errV_ne h, h⟩
theorem box_zero (w : World) : ∃ w0, w.alloc (.cells #[.string ⟨#[]⟩, .string ⟨#[]⟩, .int .i64 0, .int .i64 0, .string ⟨#[]⟩, .slice none 0 0, .int .i64 0] 26) = w0 ∧ Own7 w0 w.heap.size zeroEx ∧ Below w.heap.size w w0 :=
 ⟨_, rfl, own7_new w zeroEx, belowNew' _ _⟩
def BothAt (cols : List Col) (e : Ex) (w : World) (x : Ex) : Prop := SeesEx w x ∧ ((typeOf cols e).h ≠ 0 ∧ x = zeroEx ∨ (typeOf cols e).h = 0 ∧ strip x = strip (foldE e))
theorem zero_sees (w : World) : SeesEx w zeroEx := .mk (Sees.nil w 7) (Nat.zero_le _) (Nat.zero_le _) ⟨show fits 0 by decide, show fits 0 by decide, Nat.zero_le _⟩ (show fits 0 by decide) (fun a h => by cases h)
theorem both_same {cols : List Col} {e x y : Ex} {w w' : World} (h : BothAt cols e w x) (k : BothAt cols e w' y) : strip x = strip y := by
 rcases h.2 with ⟨h1, h2⟩ | ⟨h1, h2⟩
 ·rcases k.2 with ⟨k1, k2⟩ | ⟨k1, k2⟩
  ·rw [h2, k2]
  ·exact absurd k1 h1
 ·rcases k.2 with ⟨k1, k2⟩ | ⟨k1, k2⟩
  ·exact absurd h1 k1
  ·rw [h2, k2]
def FoldSaysB (cols : List Col) (e : Ex) (w : World) (r : Ending) (w' : World) : Prop := ∃ x, r = .returned (.tuple #[exV x, errV (typeOf cols e).h]) ∧ BothAt cols e w' x ∧ Below w.heap.size w w'
theorem fold_both (e : Ex) (C : Option Addr) (p q : Nat) (cols : List Col) (w : World) (hT : Tables w) (hC : SeesCols w C p q cols) (hs : ∀ x ∈ cols, x.name.size ≤ maxLen) (he : SeesEx w e) :
  Calls Tryz.prog 20 #[exV e, .slice C p q] w (FoldSaysB cols e w) := by
 refine (foldFn_any e C p q cols w hT hC hs he).mono ?_
 rintro r w' (⟨h1, rfl, h3⟩ | ⟨h1, x, rfl, h2, h3, h4⟩)
 ·exact ⟨zeroEx, rfl, ⟨zero_sees _, Or.inl ⟨h1, rfl⟩⟩, h3⟩
 ·exact ⟨x, by rw [h1], ⟨h2.see, Or.inr ⟨h1, h3⟩⟩, h4⟩
def usedOf (e : Ex) (l : List ByteArray) : Prop := (checkErr e ≠ 0 ∧ l = []) ∨ (checkErr e = 0 ∧ ∃ ss : List (List UInt8), l = ss.map mkB ∧ ss.Pairwise (· < ·) ∧ ∀ x, x ∈ ss ↔ mkB x ∈ exNames e)
theorem used_same {e : Ex} {l m : List ByteArray} (h : usedOf e l) (k : usedOf e m) : l = m := by
 rcases h with ⟨h1, rfl⟩ | ⟨h1, s, rfl, h2, h3⟩
 ·rcases k with ⟨k1, rfl⟩ | ⟨k1, _⟩
  ·rfl
  ·exact absurd k1 h1
 ·rcases k with ⟨k1, _⟩ | ⟨k1, t, rfl, k2, k3⟩
  ·exact absurd h1 k1
  ·rw [rise_eq h2 k2 (fun x => (h3 x).trans (k3 x).symm)]
def UsedSays (e : Ex) (w : World) (r : Ending) (w' : World) : Prop := ∃ A n c l, r = .returned (.tuple #[.slice A n c, errV (checkErr e)]) ∧ Sees w' A n c 1 (strCells l) ∧ usedOf e l ∧ Below w.heap.size w w'
theorem used_any (e : Ex) (w : World) (hT : Tables w) (he : SeesEx w e) : Calls Tryz.prog 24 #[exV e] w (UsedSays e w) := by
 refine Calls.mono (uses_any e w hT.lev hT.words he) ?_
 rintro r w' (⟨h1, rfl, h2⟩ | ⟨h1, A, n, c, ss, rfl, h2, h3, h4, h5⟩)
 ·exact ⟨none, 0, 0, [], rfl, Sees.nil _ _, Or.inl ⟨h1, rfl⟩, h2⟩
 ·refine ⟨A, n, c, _, by rw [h1, errV_zero], h2, Or.inr ⟨h1, ss.mergeSort (fun x y => decide (x ≤ y)), rfl, sort_rise h5, fun x => ?_⟩, h4⟩
  rw [(List.mergeSort_perm _ _).mem_iff]
  exact h3 x
def UsedRSays (e : Ex) (w : World) (r : Ending) (w' : World) : Prop := ∃ A n c l, r = .returned (.slice A n c) ∧ Sees w' A n c 1 (strCells l) ∧ usedOf e l ∧ Below w.heap.size w w'
theorem usedR_any (e : Ex) (w : World) (he : SeesEx w e) (h : checkErr e = 0) : Calls Tryz.prog 23 #[exV e] w (UsedRSays e w) := by
 refine Calls.mono (rUses_any e w he h) ?_
 rintro r w' ⟨A, n, c, l, rfl, h1, h2, h3, h4⟩
 exact ⟨A, n, c, _, rfl, h1, Or.inr ⟨h, l, rfl, h2, h3⟩, h4⟩
theorem sameTexts_eq {l m : List ByteArray} {A B : Option Addr} {n k c d : Nat} {w : World} (hA : Sees w A n c 1 (strCells l)) (hB : Sees w B k d 1 (strCells m)) (h : l = m) :
  Calls Tryz.prog 25 #[.slice A n c, .slice B k d] w fun e w' => e = .returned (.bool true) ∧ Below w.heap.size w w' := by
 subst h
 have h1 := strCells_len hA
 have h2 := strCells_len hB
 obtain rfl : n = k := by omega
 exact sameTexts_any l A B n c d w hA hB
set_option maxHeartbeats 8000000 in
set_option maxRecDepth 100000 in
theorem walk (e : Ex) (C : Option Addr) (p q : Nat) (cols : List Col) (W : World) (hG : ErrT W) (hT : Tables W) (he : SeesEx W e) (hN : exN e ≤ 1048576) (hC : SeesCols W C p q cols) (hs : ∀ x ∈ cols, x.name.size ≤ maxLen) :
  Calls Tryz.prog 5 #[exV e, .slice C p q] W fun e W' => e = .returned (.bool true) ∧ Below W.heap.size W W' := by
 obtain ⟨w0, hw0, ho0, hb0, -⟩ := box_ex W e
 have HOE := Lib.hid ho0
 have HB0 := Lib.hid hb0
 have HG := Lib.hid (fun (w' : World) (hb : Below w0.heap.size w0 w') => (hG.keep hb0).keep hb)
 have TE := Lib.hid (fun (k : Int) (w' : World) (hb : Below w0.heap.size w0 w') => same_err (errV k) k k w' (HG.out w' hb) (errIs k))
 have TO := Lib.hid (rof_any e C p q cols w0 (hC.keep hb0) hs (he.keep hb0) hN)
 have TS := Lib.hid (fun (w' : World) (hb : Below w0.heap.size w0 w') (h : (typeOf cols e).h = 0) => rfold_any (cols := cols) _ e (Nat.le_refl _) (good_of he h) (fun b => b < w0.heap.size) w' (fun b h => Nat.lt_of_lt_of_le h hb.size) ((seesS_of (he.keep hb0)).keep (.of_below hb)))
 have TF := Lib.hid (fun (w' : World) (hb : Below w0.heap.size w0 w') => fold_both e C p q cols w' ((hT.keep hb0).keep hb) ((hC.keep hb0).keep hb) hs ((he.keep hb0).keep hb))
 have TX := Lib.hid (fun (x y : Ex) (w' : World) (hx : BothAt cols e w' x) (hy : BothAt cols e w' y) => sameExpr_any _ x y (Nat.le_refl _) (both_same hx hy) w' hx.1 hy.1)
 have TC := Lib.hid (fun (w' : World) (hb : Below w0.heap.size w0 w') => rcheck_any e w' ((he.keep hb0).keep hb) hN)
 have TR := Lib.hid (fun (w' : World) (hb : Below w0.heap.size w0 w') (h : checkErr e = 0) => usedR_any e w' ((he.keep hb0).keep hb) h)
 have TU := Lib.hid (fun (w' : World) (hb : Below w0.heap.size w0 w') => used_any e w' ((hT.keep hb0).keep hb) ((he.keep hb0).keep hb))
 have TK := Lib.hid (fun (w' : World) => const_any e w')
 have HCK := Lib.hid (fun h : (typeOf cols e).h = 0 => (typeOf_ok h).2.2.1)
 have HW0 := Lib.hid hw0
 have HBK := Lib.hid (fun (w' : World) (hb : Below w0.heap.size w0 w') => (HOE.out.keep hb).cells)
 have hl0 := ho0.lt
 unfold TripSays tripV exV at TO
 unfold FoldSays exV at TS
 unfold FoldSaysB exV at TF
 unfold exV at TX TC TR TU TK
 unfold ValSays at TC
 unfold UsedRSays at TR
 unfold UsedSays at TU
 unfold ConstSays valV at TK
 obtain ⟨d0, d1, d2, d3, d4, d5, d6⟩ := ho0.cells
 unfold exV
 clear hG hT he hN hC hs hw0 ho0 hb0
 go_enter Tryz.func5, Tryz.ntmps5
 go_wp2_with (first | rw [HW0.out])
 refine (TO.out).mono ?_
 rintro e' w1 ⟨rfl, hb1⟩
 have HB1 := Lib.hid hb1
 obtain ⟨w2, hw2, ho2, hb2⟩ := box_zero w1
 have HW2 := Lib.hid hw2
 have HO2 := Lib.hid ho2
 have HB2 := Lib.hid (below_step hb1 hb2)
 have HL2 := Lib.hid hb1.size
 obtain ⟨rt, rh, rp, hr⟩ : ∃ rt rh rp, typeOf cols e = ⟨rt, rh, rp⟩ := ⟨_, _, _, rfl⟩
 have HRH := Lib.hid (show (typeOf cols e).h = rh by rw [hr])
 rw [hr]
 clear hb1 hw2 ho2 hb2 TO hr d0 d1 d2 d3 d4 d5 d6
 by_cases hh : rh = 0
 ·have HH := Lib.hid (show (typeOf cols e).h = 0 from HRH.out.trans hh)
  have T2 := Lib.hid (TS.out w2 HB2.out HH.out)
  obtain ⟨d0, d1, d2, d3, d4, d5, d6⟩ := HBK.out w2 HB2.out
  rw [hh]
  clear hh
  go_wp2_with (first | rw [HW2.out])
  refine (T2.out).mono ?_
  rintro e' w3 ⟨x, rfl, hsx, hst, hb3⟩
  have HSX := Lib.hid hsx
  have HST := Lib.hid hst
  have HB3 := Lib.hid (HB2.out.trans (hb3.mono HB2.out.size))
  have HO3 := Lib.hid (HO2.out.keep hb3)
  clear hsx hst hb3 T2 d0 d1 d2 d3 d4 d5 d6
  go_wp2_with (first
   | (refine wpList_store7 rfl (.tmp 8) (.tmp 29) rfl (X := x) HO3.out rfl (by rfl) ?_; intro w4 ho4 hb4 ha4 hs4; have HO4 := Lib.hid ho4; have HB4 := Lib.hid (hb4 _ _ HB3.out HL2.out); have HX4 := Lib.hid (show BothAt cols e w4 x from ⟨(HSX.out.keep (w' := w4) ⟨by rw [hs4]; exact Nat.le_refl _, fun b hb _ => ha4 b (by have := HL2.out; have := HO2.out.lt; rcases hb with hb | hb; all_goals omega)⟩).see, Or.inr ⟨HH.out, HST.out⟩⟩); have T5 := Lib.hid (TF.out w4 HB4.out); rw [HH.out] at T5; obtain ⟨d0, d1, d2, d3, d4, d5, d6⟩ := HBK.out w4 HB4.out; clear ho4 hb4 ha4 hs4))
  refine (T5.out).mono ?_
  rintro e' w5 ⟨y, rfl, hy, hb5⟩
  have HY := Lib.hid hy
  have HB5 := Lib.hid (HB4.out.trans (hb5.mono HB4.out.size))
  have HB45 := Lib.hid hb5
  obtain ⟨w6, hw6, ho6, hb6⟩ := box_zero w5
  have HW6 := Lib.hid hw6
  have HO6 := Lib.hid ho6
  have HB6 := Lib.hid (HB5.out.trans (hb6.mono HB5.out.size))
  have HB46 := Lib.hid (below_step hb5 hb6)
  have HB56 := Lib.hid hb6
  have HL5 := Lib.hid HB5.out.size
  generalize hev : errV 0 = ev
  have HEV := Lib.hid hev
  clear hy hb5 hw6 ho6 hb6 T5 hev d0 d1 d2 d3 d4 d5 d6
  go_wp2_with (first
   | rw [HW6.out]
   | (refine wpList_store7 rfl (.tmp 9) (.tmp 34) rfl (X := y) HO6.out rfl (by rfl) ?_; intro w7 ho7 hb7 ha7 hs7; have HO7 := Lib.hid ho7; have HB7 := Lib.hid (hb7 _ _ HB6.out HL5.out); have hb57 := hb7 w5.heap.size w5 HB56.out (Nat.le_refl _); have HY7 := Lib.hid (show BothAt cols e w7 y from ⟨HY.out.1.keep hb57, HY.out.2⟩); have hb47 := hb7 w4.heap.size w4 HB46.out HB45.out.size; have HX7 := Lib.hid (show BothAt cols e w7 x from ⟨HX4.out.1.keep hb47, HX4.out.2⟩); have HOX7 := Lib.hid (HO4.out.keep hb47); have T6 := Lib.hid (TE.out (0) w7 HB7.out); rw [HEV.out] at T6; clear ho7 hb7 ha7 hs7 hb57 hb47))
  refine (T6.out).mono ?_
  rintro e' w8 ⟨rfl, hb8⟩
  have HB8 := Lib.hid (HB7.out.trans (hb8.mono HB7.out.size))
  have T7 := Lib.hid (TX.out y x w8 ⟨HY7.out.1.keep hb8, HY7.out.2⟩ ⟨HX7.out.1.keep hb8, HX7.out.2⟩)
  obtain ⟨x0, x1, x2, x3, x4, x5, x6⟩ := (HOX7.out.keep hb8).cells
  obtain ⟨y0, y1, y2, y3, y4, y5, y6⟩ := (HO7.out.keep hb8).cells
  have kk : ((0 : Int) == 0) = true := by simp
  clear hb8 T6
  go_wp2_with fail
  refine (T7.out).mono ?_
  rintro e' w9 ⟨rfl, hb9⟩
  have HB9 := Lib.hid (HB8.out.trans (hb9.mono HB8.out.size))
  have T8 := Lib.hid (TC.out w9 HB9.out)
  obtain ⟨d0, d1, d2, d3, d4, d5, d6⟩ := HBK.out w9 HB9.out
  clear hb9 T7 x0 x1 x2 x3 x4 x5 x6 y0 y1 y2 y3 y4 y5 y6
  go_wp2_with fail
  refine (T8.out).mono ?_
  rintro e' w10 ⟨rfl, hb10⟩
  have HB10 := Lib.hid (HB9.out.trans (hb10.mono HB9.out.size))
  obtain ⟨d0, d1, d2, d3, d4, d5, d6⟩ := HBK.out w10 HB10.out
  clear hb10 T8
  obtain ⟨ck, hck⟩ : ∃ ck, checkErr e = ck := ⟨_, rfl⟩
  have HKC := Lib.hid hck
  rw [hck]
  obtain rfl : ck = 0 := hck.symm.trans (HCK.out HH.out)
  have T11 := Lib.hid (TR.out w10 HB10.out HKC.out)
  clear hck
  go_wp2_with fail
  refine (T11.out).mono ?_
  rintro e' w11 ⟨A1, n1, c1, l1, rfl, hs1, hu1, hb11⟩
  have HS1 := Lib.hid hs1
  have HU1 := Lib.hid hu1
  have HB11 := Lib.hid (HB10.out.trans (hb11.mono HB10.out.size))
  have T12 := Lib.hid (TU.out w11 HB11.out)
  rw [HKC.out] at T12
  obtain ⟨d0, d1, d2, d3, d4, d5, d6⟩ := HBK.out w11 HB11.out
  clear hs1 hu1 hb11 T11
  go_wp2_with fail
  refine (T12.out).mono ?_
  rintro e' w12 ⟨A2, n2, c2, l2, rfl, hs2, hu2, hb12⟩
  have HB12 := Lib.hid (HB11.out.trans (hb12.mono HB11.out.size))
  have HS12 := Lib.hid (show Sees w12 _ _ _ 1 (strCells _) from HS1.out.keep hb12)
  have HS2 := Lib.hid hs2
  have HEQ := Lib.hid (used_same hu2 HU1.out)
  have T13 := Lib.hid (TE.out 0 w12 HB12.out)
  generalize hev2 : errV 0 = ev2 at T13 ⊢
  clear hs2 hu2 hb12 T12 hev2 d0 d1 d2 d3 d4 d5 d6
  go_wp2_with fail
  refine (T13.out).mono ?_
  rintro e' w13 ⟨rfl, hb13⟩
  have HB13 := Lib.hid (HB12.out.trans (hb13.mono HB12.out.size))
  have T14 := Lib.hid (sameTexts_eq (HS2.out.keep hb13) (HS12.out.keep hb13) HEQ.out)
  have kk2 : ((0 : Int) == 0) = true := by simp
  clear hb13 T13
  go_wp2_with fail
  refine (T14.out).mono ?_
  rintro e' w14 ⟨rfl, hb14⟩
  have HB14 := Lib.hid (HB13.out.trans (hb14.mono HB13.out.size))
  have T15 := Lib.hid (TK.out w14)
  obtain ⟨d0, d1, d2, d3, d4, d5, d6⟩ := HBK.out w14 HB14.out
  clear hb14 T14 kk2
  by_cases hv : isVal e.op
  ·have e1 := str_is (show e.op.data.toList = [118, 97, 108] from hv)
   have e1' : (e.op.toList != [118, 97, 108]) = false := by show (!(e.op.toList == [118, 97, 108])) = false; rw [e1]; rfl
   rw [if_pos hv, decide_eq_true hv] at T15
   clear hv
   go_wp2_with fail
   refine (T15.out).mono ?_
   rintro e' w15 ⟨rfl, hb15⟩
   have hb16 := belowNew' w15 (.cells #[.int .i64 e.val.type, .int .i64 e.val.n, .string e.val.s] 23)
   have ho16 := own3_new w15 e.val
   obtain ⟨w16, hw16⟩ : ∃ w16, w15.alloc (.cells #[.int .i64 e.val.type, .int .i64 e.val.n, .string e.val.s] 23) = w16 := ⟨_, rfl⟩
   rw [hw16] at hb16 ho16
   have HB16 := Lib.hid (HB14.out.trans ((below_step hb15 hb16).mono HB14.out.size))
   obtain ⟨q0, q1, q2, -, -, -, -⟩ := ho16.cells
   have HW16 := Lib.hid hw16
   obtain ⟨d0, d1, d2, d3, d4, d5, d6⟩ := HBK.out w16 HB16.out
   clear hb15 hb16 ho16 hw16 T15
   go_wp2_with (first | rw [HW16.out])
   go_ret
   exact ⟨rfl, HB0.out.trans (HB16.out.mono HB0.out.size)⟩
  ·have e1 := str_ne (show e.op.data.toList ≠ [118, 97, 108] from hv)
   have e1' : (e.op.toList != [118, 97, 108]) = true := by show (!(e.op.toList == [118, 97, 108])) = true; rw [e1]; rfl
   rw [if_neg hv, decide_eq_false hv] at T15
   generalize noVal = nv at T15
   clear hv
   go_wp2_with fail
   refine (T15.out).mono ?_
   rintro e' w15 ⟨rfl, hb15⟩
   have hb16 := belowNew' w15 (.cells #[.int .i64 nv.type, .int .i64 nv.n, .string nv.s] 23)
   obtain ⟨w16, hw16⟩ : ∃ w16, w15.alloc (.cells #[.int .i64 nv.type, .int .i64 nv.n, .string nv.s] 23) = w16 := ⟨_, rfl⟩
   rw [hw16] at hb16
   have HB16 := Lib.hid (HB14.out.trans ((below_step hb15 hb16).mono HB14.out.size))
   have HW16 := Lib.hid hw16
   obtain ⟨d0, d1, d2, d3, d4, d5, d6⟩ := HBK.out w16 HB16.out
   clear hb15 hb16 hw16 T15
   go_wp2_with (first | rw [HW16.out])
   go_ret
   exact ⟨rfl, HB0.out.trans (HB16.out.mono HB0.out.size)⟩
 ·have HH := Lib.hid (show (typeOf cols e).h ≠ 0 from fun h => hh (HRH.out.symm.trans h))
  have g3 : (rh == 0) = false := by simpa using hh
  obtain ⟨x, hxz⟩ : ∃ x, x = zeroEx := ⟨_, rfl⟩
  obtain ⟨w4, hw4⟩ : ∃ w4, w4 = w2 := ⟨_, rfl⟩
  have HO4 := Lib.hid (show Own7 w4 w1.heap.size x by rw [hw4, hxz]; exact HO2.out)
  have HB4 := Lib.hid (show Below w0.heap.size w0 w4 by rw [hw4]; exact HB2.out)
  have HX4 := Lib.hid (show BothAt cols e w4 x from ⟨by rw [hxz]; exact zero_sees _, Or.inl ⟨HH.out, hxz⟩⟩)
  have HW4 := Lib.hid (HW2.out.trans hw4.symm)
  have T5 := Lib.hid (TF.out w4 HB4.out)
  rw [HRH.out] at T5
  obtain ⟨d0, d1, d2, d3, d4, d5, d6⟩ := HBK.out w4 HB4.out
  clear hh hw4 hxz
  go_wp2_with (first | rw [HW4.out])
  refine (T5.out).mono ?_
  rintro e' w5 ⟨y, rfl, hy, hb5⟩
  have HY := Lib.hid hy
  have HB5 := Lib.hid (HB4.out.trans (hb5.mono HB4.out.size))
  have HB45 := Lib.hid hb5
  obtain ⟨w6, hw6, ho6, hb6⟩ := box_zero w5
  have HW6 := Lib.hid hw6
  have HO6 := Lib.hid ho6
  have HB6 := Lib.hid (HB5.out.trans (hb6.mono HB5.out.size))
  have HB46 := Lib.hid (below_step hb5 hb6)
  have HB56 := Lib.hid hb6
  have HL5 := Lib.hid HB5.out.size
  generalize hev : errV rh = ev
  have HEV := Lib.hid hev
  clear hy hb5 hw6 ho6 hb6 T5 hev d0 d1 d2 d3 d4 d5 d6
  go_wp2_with (first
   | rw [HW6.out]
   | (refine wpList_store7 rfl (.tmp 9) (.tmp 34) rfl (X := y) HO6.out rfl (by rfl) ?_; intro w7 ho7 hb7 ha7 hs7; have HO7 := Lib.hid ho7; have HB7 := Lib.hid (hb7 _ _ HB6.out HL5.out); have hb57 := hb7 w5.heap.size w5 HB56.out (Nat.le_refl _); have HY7 := Lib.hid (show BothAt cols e w7 y from ⟨HY.out.1.keep hb57, HY.out.2⟩); have hb47 := hb7 w4.heap.size w4 HB46.out HB45.out.size; have HX7 := Lib.hid (show BothAt cols e w7 x from ⟨HX4.out.1.keep hb47, HX4.out.2⟩); have HOX7 := Lib.hid (HO4.out.keep hb47); have T6 := Lib.hid (TE.out (rh) w7 HB7.out); rw [HEV.out] at T6; clear ho7 hb7 ha7 hs7 hb57 hb47))
  refine (T6.out).mono ?_
  rintro e' w8 ⟨rfl, hb8⟩
  have HB8 := Lib.hid (HB7.out.trans (hb8.mono HB7.out.size))
  have T7 := Lib.hid (TX.out y x w8 ⟨HY7.out.1.keep hb8, HY7.out.2⟩ ⟨HX7.out.1.keep hb8, HX7.out.2⟩)
  obtain ⟨x0, x1, x2, x3, x4, x5, x6⟩ := (HOX7.out.keep hb8).cells
  obtain ⟨y0, y1, y2, y3, y4, y5, y6⟩ := (HO7.out.keep hb8).cells
  have kk : ((rh : Int) == rh) = true := by simp
  clear hb8 T6
  go_wp2_with fail
  refine (T7.out).mono ?_
  rintro e' w9 ⟨rfl, hb9⟩
  have HB9 := Lib.hid (HB8.out.trans (hb9.mono HB8.out.size))
  have T8 := Lib.hid (TC.out w9 HB9.out)
  obtain ⟨d0, d1, d2, d3, d4, d5, d6⟩ := HBK.out w9 HB9.out
  clear hb9 T7 x0 x1 x2 x3 x4 x5 x6 y0 y1 y2 y3 y4 y5 y6
  go_wp2_with fail
  refine (T8.out).mono ?_
  rintro e' w10 ⟨rfl, hb10⟩
  have HB10 := Lib.hid (HB9.out.trans (hb10.mono HB9.out.size))
  obtain ⟨d0, d1, d2, d3, d4, d5, d6⟩ := HBK.out w10 HB10.out
  clear hb10 T8
  obtain ⟨ck, hck⟩ : ∃ ck, checkErr e = ck := ⟨_, rfl⟩
  have HKC := Lib.hid hck
  rw [hck]
  by_cases hc0 : ck = 0
  ·subst hc0
   have T11 := Lib.hid (TR.out w10 HB10.out HKC.out)
   clear hck
   go_wp2_with fail
   refine (T11.out).mono ?_
   rintro e' w11 ⟨A1, n1, c1, l1, rfl, hs1, hu1, hb11⟩
   have HS1 := Lib.hid hs1
   have HU1 := Lib.hid hu1
   have HB11 := Lib.hid (HB10.out.trans (hb11.mono HB10.out.size))
   have T12 := Lib.hid (TU.out w11 HB11.out)
   rw [HKC.out] at T12
   obtain ⟨d0, d1, d2, d3, d4, d5, d6⟩ := HBK.out w11 HB11.out
   clear hs1 hu1 hb11 T11
   go_wp2_with fail
   refine (T12.out).mono ?_
   rintro e' w12 ⟨A2, n2, c2, l2, rfl, hs2, hu2, hb12⟩
   have HB12 := Lib.hid (HB11.out.trans (hb12.mono HB11.out.size))
   have HS12 := Lib.hid (show Sees w12 _ _ _ 1 (strCells _) from HS1.out.keep hb12)
   have HS2 := Lib.hid hs2
   have HEQ := Lib.hid (used_same hu2 HU1.out)
   have T13 := Lib.hid (TE.out 0 w12 HB12.out)
   generalize hev2 : errV 0 = ev2 at T13 ⊢
   clear hs2 hu2 hb12 T12 hev2 d0 d1 d2 d3 d4 d5 d6
   go_wp2_with fail
   refine (T13.out).mono ?_
   rintro e' w13 ⟨rfl, hb13⟩
   have HB13 := Lib.hid (HB12.out.trans (hb13.mono HB12.out.size))
   have T14 := Lib.hid (sameTexts_eq (HS2.out.keep hb13) (HS12.out.keep hb13) HEQ.out)
   have kk2 : ((0 : Int) == 0) = true := by simp
   clear hb13 T13
   go_wp2_with fail
   refine (T14.out).mono ?_
   rintro e' w14 ⟨rfl, hb14⟩
   have HB14 := Lib.hid (HB13.out.trans (hb14.mono HB13.out.size))
   have T15 := Lib.hid (TK.out w14)
   obtain ⟨d0, d1, d2, d3, d4, d5, d6⟩ := HBK.out w14 HB14.out
   clear hb14 T14 kk2
   by_cases hv : isVal e.op
   ·have e1 := str_is (show e.op.data.toList = [118, 97, 108] from hv)
    have e1' : (e.op.toList != [118, 97, 108]) = false := by show (!(e.op.toList == [118, 97, 108])) = false; rw [e1]; rfl
    rw [if_pos hv, decide_eq_true hv] at T15
    clear hv
    go_wp2_with fail
    refine (T15.out).mono ?_
    rintro e' w15 ⟨rfl, hb15⟩
    have hb16 := belowNew' w15 (.cells #[.int .i64 e.val.type, .int .i64 e.val.n, .string e.val.s] 23)
    have ho16 := own3_new w15 e.val
    obtain ⟨w16, hw16⟩ : ∃ w16, w15.alloc (.cells #[.int .i64 e.val.type, .int .i64 e.val.n, .string e.val.s] 23) = w16 := ⟨_, rfl⟩
    rw [hw16] at hb16 ho16
    have HB16 := Lib.hid (HB14.out.trans ((below_step hb15 hb16).mono HB14.out.size))
    obtain ⟨q0, q1, q2, -, -, -, -⟩ := ho16.cells
    have HW16 := Lib.hid hw16
    obtain ⟨d0, d1, d2, d3, d4, d5, d6⟩ := HBK.out w16 HB16.out
    clear hb15 hb16 ho16 hw16 T15
    go_wp2_with (first | rw [HW16.out])
    go_ret
    exact ⟨rfl, HB0.out.trans (HB16.out.mono HB0.out.size)⟩
   ·have e1 := str_ne (show e.op.data.toList ≠ [118, 97, 108] from hv)
    have e1' : (e.op.toList != [118, 97, 108]) = true := by show (!(e.op.toList == [118, 97, 108])) = true; rw [e1]; rfl
    rw [if_neg hv, decide_eq_false hv] at T15
    generalize noVal = nv at T15
    clear hv
    go_wp2_with fail
    refine (T15.out).mono ?_
    rintro e' w15 ⟨rfl, hb15⟩
    have hb16 := belowNew' w15 (.cells #[.int .i64 nv.type, .int .i64 nv.n, .string nv.s] 23)
    obtain ⟨w16, hw16⟩ : ∃ w16, w15.alloc (.cells #[.int .i64 nv.type, .int .i64 nv.n, .string nv.s] 23) = w16 := ⟨_, rfl⟩
    rw [hw16] at hb16
    have HB16 := Lib.hid (HB14.out.trans ((below_step hb15 hb16).mono HB14.out.size))
    have HW16 := Lib.hid hw16
    obtain ⟨d0, d1, d2, d3, d4, d5, d6⟩ := HBK.out w16 HB16.out
    clear hb15 hb16 hw16 T15
    go_wp2_with (first | rw [HW16.out])
    go_ret
    exact ⟨rfl, HB0.out.trans (HB16.out.mono HB0.out.size)⟩
  ·skip
   have g11 : (ck == 0) = false := by simpa using hc0
   have HS1 := Lib.hid (show Sees w10 none 0 0 1 (strCells []) from Sees.nil w10 1)
   have HU1 := Lib.hid (show usedOf e [] from Or.inl ⟨by rw [HKC.out]; exact hc0, rfl⟩)
   have HB11 := HB10
   have T12 := Lib.hid (TU.out w10 HB10.out)
   rw [HKC.out] at T12
   clear hck hc0
   go_wp2_with fail
   refine (T12.out).mono ?_
   rintro e' w12 ⟨A2, n2, c2, l2, rfl, hs2, hu2, hb12⟩
   have HB12 := Lib.hid (HB11.out.trans (hb12.mono HB11.out.size))
   have HS12 := Lib.hid (show Sees w12 _ _ _ 1 (strCells _) from HS1.out.keep hb12)
   have HS2 := Lib.hid hs2
   have HEQ := Lib.hid (used_same hu2 HU1.out)
   have T13 := Lib.hid (TE.out ck w12 HB12.out)
   generalize hev2 : errV ck = ev2 at T13 ⊢
   clear hs2 hu2 hb12 T12 hev2 d0 d1 d2 d3 d4 d5 d6
   go_wp2_with fail
   refine (T13.out).mono ?_
   rintro e' w13 ⟨rfl, hb13⟩
   have HB13 := Lib.hid (HB12.out.trans (hb13.mono HB12.out.size))
   have T14 := Lib.hid (sameTexts_eq (HS2.out.keep hb13) (HS12.out.keep hb13) HEQ.out)
   have kk2 : ((ck : Int) == ck) = true := by simp
   clear hb13 T13
   go_wp2_with fail
   refine (T14.out).mono ?_
   rintro e' w14 ⟨rfl, hb14⟩
   have HB14 := Lib.hid (HB13.out.trans (hb14.mono HB13.out.size))
   have T15 := Lib.hid (TK.out w14)
   obtain ⟨d0, d1, d2, d3, d4, d5, d6⟩ := HBK.out w14 HB14.out
   clear hb14 T14 kk2
   by_cases hv : isVal e.op
   ·have e1 := str_is (show e.op.data.toList = [118, 97, 108] from hv)
    have e1' : (e.op.toList != [118, 97, 108]) = false := by show (!(e.op.toList == [118, 97, 108])) = false; rw [e1]; rfl
    rw [if_pos hv, decide_eq_true hv] at T15
    clear hv
    go_wp2_with fail
    refine (T15.out).mono ?_
    rintro e' w15 ⟨rfl, hb15⟩
    have hb16 := belowNew' w15 (.cells #[.int .i64 e.val.type, .int .i64 e.val.n, .string e.val.s] 23)
    have ho16 := own3_new w15 e.val
    obtain ⟨w16, hw16⟩ : ∃ w16, w15.alloc (.cells #[.int .i64 e.val.type, .int .i64 e.val.n, .string e.val.s] 23) = w16 := ⟨_, rfl⟩
    rw [hw16] at hb16 ho16
    have HB16 := Lib.hid (HB14.out.trans ((below_step hb15 hb16).mono HB14.out.size))
    obtain ⟨q0, q1, q2, -, -, -, -⟩ := ho16.cells
    have HW16 := Lib.hid hw16
    obtain ⟨d0, d1, d2, d3, d4, d5, d6⟩ := HBK.out w16 HB16.out
    clear hb15 hb16 ho16 hw16 T15
    go_wp2_with (first | rw [HW16.out])
    go_ret
    exact ⟨rfl, HB0.out.trans (HB16.out.mono HB0.out.size)⟩
   ·have e1 := str_ne (show e.op.data.toList ≠ [118, 97, 108] from hv)
    have e1' : (e.op.toList != [118, 97, 108]) = true := by show (!(e.op.toList == [118, 97, 108])) = true; rw [e1]; rfl
    rw [if_neg hv, decide_eq_false hv] at T15
    generalize noVal = nv at T15
    clear hv
    go_wp2_with fail
    refine (T15.out).mono ?_
    rintro e' w15 ⟨rfl, hb15⟩
    have hb16 := belowNew' w15 (.cells #[.int .i64 nv.type, .int .i64 nv.n, .string nv.s] 23)
    obtain ⟨w16, hw16⟩ : ∃ w16, w15.alloc (.cells #[.int .i64 nv.type, .int .i64 nv.n, .string nv.s] 23) = w16 := ⟨_, rfl⟩
    rw [hw16] at hb16
    have HB16 := Lib.hid (HB14.out.trans ((below_step hb15 hb16).mono HB14.out.size))
    have HW16 := Lib.hid hw16
    obtain ⟨d0, d1, d2, d3, d4, d5, d6⟩ := HBK.out w16 HB16.out
    clear hb15 hb16 hw16 T15
    go_wp2_with (first | rw [HW16.out])
    go_ret
    exact ⟨rfl, HB0.out.trans (HB16.out.mono HB0.out.size)⟩
set_option maxRecDepth 100000 in
theorem contract (H : Type) (enc : TypeId × Value → H) (W : World) (base : Nat) (args : Array Value) (ds gs : List (DataW H)) (before : List MemPlace)
  (hval : ∀ (j : Nat) t v, Tryz.f5.params[j]? = some t → args[j]? = some v → Value.okWide Tryz.prog W .any base t v)
  (hW : DataW.Whole enc Tryz.prog Tryz.f5.params.toList Rows.foldTellsSpec.vars false W args.toList ds gs before)
  (hsz : (DataW.weightsEach Tryz.prog (Tryz.f5.params.toList ++ (Rows.OpenSpec.upto Rows.foldTellsSpec).bare.plain.varTypes Tryz.prog) (ds ++ gs)).all (· ≤ reachBytes) = true) (hL : laidMetH Tryz.prog Rows.foldTellsUptoRow.laid W) (hk : Rows.uptoSmall H (ds ++ gs) = true) :
  Calls Tryz.prog 5 args W fun e W' => ∃ v, e = .returned v ∧ Rows.foldTellsSpec.post enc Tryz.prog Tryz.f5 false true false false W args v W' := by
 have hW' := hW
 obtain ⟨p, q, hA0, hV, rfl, hfz, hnd⟩ := hW
 have hA : DataW.TrodAll enc Tryz.prog W 0 (fun _ => true) true Tryz.f5.params.toList args.toList ds p := hA0
 rw [Tryz.params5] at hA hval
 obtain ⟨v0, vs0, d0, ds0, p0, q0, hargs, rfl, rfl, h0, r0⟩ := trodAll_cons hA
 obtain ⟨v1, vs1, d1, ds1, p1, q1, rfl, rfl, rfl, h1, r1⟩ := trodAll_cons r0
 obtain ⟨rfl, rfl, rfl⟩ := trodAll_nil r1
 obtain rfl : args = #[v0, v1] := by cases args; simp_all
 obtain ⟨rfl, rfl⟩ := trodVars_none hV
 have hv0 := hval 0 26 v0 rfl rfl
 have hv1 := hval 1 31 v1 rfl rfl
 obtain ⟨e, rfl, he, hne⟩ := open_exn hv0 h0
 obtain ⟨C, p, q, cols, rfl, hC, hcs⟩ := open_cols (okWide_slice Tryz.underlying31 hv1) h1
 have hbk : Rows.uptoBulkAll _ ≤ 1048576 := of_decide_eq_true hk
 have hN : exN e ≤ 1048576 := by simp only [List.append_nil, Rows.uptoBulkAll] at hbk; omega
 have hL0 : laidMet Tryz.prog [("sluicebook/tree.words", Rows.laid_sluicebook_tree_words), ("sluicebook/tree.levels", Rows.laid_sluicebook_tree_levels), ("sluicebook/kind.ops", Rows.laid_sluicebook_kind_ops)] W ∧ handlesMet Tryz.prog [("errors.errorType", Rows.laid_errors_errorType)] W := hL
 refine (walk e C p q cols W (errT_of_laid (show laidMetH Tryz.prog [("errors.errorType", Rows.laid_errors_errorType)] W from ⟨laidMet_nil _ _, hL0.2⟩)) ⟨levelsT_of hL0.1 (.tail _ (.head _)), opsT_of hL0.1 (.tail _ (.tail _ (.head _))), wordsT_of hL0.1 (.head _)⟩ he hN hC (fun x hx => (hcs x hx).1)).mono fun e W' ⟨he, hb⟩ => ?_
 subst he
 exact ⟨_, rfl, law_post laidOut Tryz.underlying4 (by kernel_rfl) rfl (by rw [Tryz.params5]; intro t ht; simp only [List.mem_cons, List.not_mem_nil, or_false] at ht; rcases ht with rfl | rfl; all_goals exact ⟨by kernel_rfl, of_decide_eq_true (by kernel_rfl)⟩) hW' rfl hb⟩
theorem reads (os : Os) {H : Type} (enc : TypeId × Value → H) : ∃ places, DataW.whole enc Tryz.prog ((World.doorLaid Tryz.prog 4000 os).forCall (fun _ _ => 0) ⟨#[], #[.agg #[.string .empty, .string .empty, .int .i64 0, .int .i64 0, .string .empty, .slice none 0 0, .int .i64 0], .slice none 0 0], []⟩).memory Tryz.f5.params.toList Rows.foldTellsSpec.vars false (#[.agg #[.string .empty, .string .empty, .int .i64 0, .int .i64 0, .string .empty, .slice none 0 0, .int .i64 0], .slice none 0 0] : Array Value).toList 8 = some ([.agg [.lit (.string []), .lit (.string []), .agg [.lit (.int .i64 0), .lit (.int .i64 0), .lit (.string [])], .nil, .lit (.int .i64 0)], .nil], [], places) :=
 ⟨[], by kernel_rfl⟩
set_option maxRecDepth 100000 in
theorem lifted (os : Os) (started : os.Started) (H : Type) (enc : TypeId × Value → H) (F : Stop.Interp) :
  ReturnsInHanded {} Tryz.checked os 5 .any ((Rows.OpenSpec.upto Rows.foldTellsSpec).preRow enc Tryz.prog Tryz.f5 Rows.foldTellsUptoRow.domain false Rows.foldTellsUptoRow.laid) (((Rows.OpenSpec.upto Rows.foldTellsSpec).at F).post enc Tryz.prog Tryz.f5 false true false false) := by
 obtain ⟨places, hx⟩ := reads os enc
 refine returnsInHanded_of_row (C := Tryz.checked) (s := Rows.OpenSpec.upto Rows.foldTellsSpec) own started (by kernel_rfl) Tryz.func5
  (witness_row_atRef (enc := enc) (C := Tryz.checked) false (World.doorLaid Tryz.prog 4000 os) #[.agg #[.string .empty, .string .empty, .int .i64 0, .int .i64 0, .string .empty, .slice none 0 0, .int .i64 0], .slice none 0 0] rfl (by kernel_rfl) (by kernel_rfl) (by kernel_rfl)
   (OpenSpec.preRow_of_cond 8 hx (by kernel_rfl) (fun k hk => by cases hk; kernel_rfl) (by kernel_rfl) (laidMetH_of_parts (laidMet_of_run' 12 (by kernel_rfl) (by kernel_rfl)) (by kernel_rfl)))) ?_
 intro W base args ds gs before hval hW _ hcond hsz hL _ _
 exact contract H enc W base args ds gs before hval hW hsz hL (hcond _ rfl)
theorem said : Rows.FoldTellsUptoSaid :=
 OpenClaim.holds_of_cond 5 Tryz.f5 rfl rfl rfl rfl rfl rfl rfl ⟨rfl, rfl, rfl, rfl, rfl⟩ rfl rfl rfl rfl rfl (by kernel_rfl) Tryz.func5 (by kernel_rfl)
  (of_decide_eq_true (by kernel_rfl)) (by unfold Func.isWrapper; first | (rw [if_pos (by decide +kernel)]; kernel_rfl) | (rw [if_neg (by decide +kernel)]; exact ⟨rfl, rfl⟩))
  (fun os started H enc _ F => by rw [OpenClaim.pre_eq_preRow]; exact lifted os started H enc F)
theorem plain (f : FuncId) (fn : Func) (hf : Tryz.pinned.checked.prog.funcNamed "sluicebook/sluicelaw2.FoldTells" = some f) (hfn : Tryz.pinned.checked.prog.funcs[f]? = some fn) :
  true = Tryz.pinned.checked.prog.looks [] ∧ ∀ (j : Nat) t, fn.params[j]? = some t → Tryz.pinned.checked.prog.wantsStandIn t = false := by
 obtain rfl : f = 5 := Option.some.inj ((show Tryz.prog.funcNamed "sluicebook/sluicelaw2.FoldTells" = some 5 by kernel_rfl).symm.trans hf) |>.symm
 obtain rfl : fn = Tryz.f5 := (Option.some.inj (Tryz.func5.symm.trans hfn)).symm
 refine ⟨by kernel_rfl, fun j t ht => ?_⟩
 rw [Tryz.params5] at ht
 have hm := Array.mem_of_getElem? ht
 simp only [List.mem_toArray, List.mem_cons, List.not_mem_nil, or_false] at hm
 rcases hm with rfl | rfl
 ·exact (show Tryz.prog.wantsStandIn 26 = false by kernel_rfl)
 ·exact (show Tryz.prog.wantsStandIn 31 = false by kernel_rfl)
theorem card : Rows.FoldTellsUptoCardSaid :=
 Claim7.holds_tied_plain_at .later [] _ _ _ _ said (fun _ h => by cases h) (by kernel_rfl) (fun _ h => by cases h) foldTellsUpto_row_tie rfl ⟨rfl, rfl⟩ (by kernel_rfl) rfl plain (by kernel_rfl)
#print axioms card
end Go.Proofs.YtpbbkpfaphjdoaaGreatDoor.foldTells
