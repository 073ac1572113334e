/- Of the law TreeTells: the card Rows.TreeTellsUptoCardSaid: where what it reads is of bulk at most 1048576, whatever the text and the two expressions, it returns true. -/
import Derived.Test.YtjoeeilncekgpaaGreatDoorTRefPars
import Derived.Test.YtjoeeilncekgpaaGreatDoorTRefText
import Derived.Test.YtjoeeilncekgpaaGreatDoorTSameEx
import Derived.Test.YtjoeeilncekgpaaGreatDoorTTold
import Derived.Test.YtjoeeilncekgpaaGreatDoorTOpenExN
import Derived.Test.YtjoeeilncekgpaaGreatDoorCards
import Derived.Test.YtjoeeilncekgpaaGreatDoorTie
import Derived.LaidLaws
import Derived.LaidMore
import Derived.LaidHandle
import Derived.Stop.Joined
import Derived.SevenTiedAt
import Derived.Deep.DeepWitnessRowRef
import Derived.Deep.DeepHandedRow
import Derived.Deep.RegionHeld3
namespace Go.Proofs.YtjoeeilncekgpaaGreatDoor.treeTells
open Go.ChangeShapes Go.WideShapes Go.ChangeAt Go.RowKit
abbrev TtS (w w1 wz : World) (x y : Ex) (w' : World) : Prop := Below wz.heap.size wz w' ∧ w'.cell? ⟨w.heap.size, 0, none⟩ = some (.string x.op) ∧ w'.cell? ⟨w.heap.size, 1, none⟩ = some (.string x.name) ∧ w'.cell? ⟨w.heap.size, 2, none⟩ = some (.int .i64 x.val.type) ∧ w'.cell? ⟨w.heap.size, 3, none⟩ = some (.int .i64 x.val.n) ∧ w'.cell? ⟨w.heap.size, 4, none⟩ = some (.string x.val.s) ∧ w'.cell? ⟨w.heap.size, 5, none⟩ = some (.slice x.A x.args.length x.c) ∧ w'.cell? ⟨w.heap.size, 6, none⟩ = some (.int .i64 x.pos) ∧ w'.cell? ⟨w1.heap.size, 0, none⟩ = some (.string y.op) ∧ w'.cell? ⟨w1.heap.size, 1, none⟩ = some (.string y.name) ∧ w'.cell? ⟨w1.heap.size, 2, none⟩ = some (.int .i64 y.val.type) ∧ w'.cell? ⟨w1.heap.size, 3, none⟩ = some (.int .i64 y.val.n) ∧ w'.cell? ⟨w1.heap.size, 4, none⟩ = some (.string y.val.s) ∧ w'.cell? ⟨w1.heap.size, 5, none⟩ = some (.slice y.A y.args.length y.c) ∧ w'.cell? ⟨w1.heap.size, 6, none⟩ = some (.int .i64 y.pos)
theorem errIs (k : Int) : ErrIs (errV k) k := by
 by_cases h : k = 0
 ·subst h; exact Or.inl ⟨rfl, rfl⟩
 ·exact Or.inr ⟨errV_ne h, h⟩
theorem sameV (k : Int) (w : World) (hg : ErrT w) : Calls Tryz.prog 15 #[errV k, .int .i64 k] w fun ev w' => ev = .returned (.bool true) ∧ Below w.heap.size w w' := by
 have := same_err (errV k) k k w hg (errIs k)
 rw [beq_self_eq_true] at this
 exact this
def resX : Except (Int × Int) Ex → Ex
 | .ok x => x
 | .error _ => zeroE
def resH : Except (Int × Int) Ex → Int
 | .ok _ => 0
 | .error e => e.1
def resP : Except (Int × Int) Ex → Int
 | .ok _ => 0
 | .error e => e.2
theorem zero_sees (w : World) : SeesEx w zeroE := .mk (Sees.nil w 7) (Nat.zero_le _) (Nat.zero_le _) ⟨show fits 0 by decide, show fits 0 by decide, Nat.zero_le _⟩ (show fits 0 by decide) (fun a h => by cases h)
def OneR (x : Ex) (h q : Int) (w : World) (e : Ending) (w' : World) : Prop := ∃ y, e = .returned (.tuple #[exV y, .int .i64 h, .int .i64 q]) ∧ SeesEx w' y ∧ strip y = x ∧ Below w.heap.size w w'
def OneP (x : Ex) (h q : Int) (w : World) (e : Ending) (w' : World) : Prop := ∃ y, e = .returned (.tuple #[exV y, .agg #[.int .i64 h, .int .i64 q]]) ∧ SeesEx w' y ∧ strip y = x ∧ Below w.heap.size w w'
theorem oneR {R : Except (Int × Int) Ex} {w w' : World} {e : Ending} (h : RPSays R w e w') : OneR (resX R) (resH R) (resP R) w e w' := by
 obtain ⟨hb, h⟩ := h
 match R, h with
 | .error (hh, pp), h => exact ⟨zeroE, h, zero_sees _, rfl, hb⟩
 | .ok x, h =>
  obtain ⟨y, he, hs, hst⟩ := h
  exact ⟨y, he, hs.see, hst, hb⟩
theorem oneP {R : Except (Int × Int) Ex} {w w' : World} {e : Ending} (h : PSays R w e w') : OneP (resX R) (resH R) (resP R) w e w' := by
 obtain ⟨hb, h⟩ := h
 match R, h with
 | .error (hh, pp), h => exact ⟨zeroE, h, zero_sees _, rfl, hb⟩
 | .ok x, h =>
  obtain ⟨y, he, hs, hst⟩ := h
  exact ⟨y, he, hs.see, hst, hb⟩
theorem alloc_size (w : World) (o : Obj) : (w.alloc o).heap.size = w.heap.size + 1 := by show (w.heap.push _).size = _; exact Array.size_push _
structure Tabs (w : World) : Prop where
 lev : LevelsT w
 words : WordsT w
 text : TextT w
 num : NumT w
 signs : SignsT w
 err : ErrT w
theorem Tabs.keep {w w' : World} (h : Tabs w) (hb : Below w.heap.size w w') : Tabs w' := ⟨h.lev.keep hb, h.words.keep hb, h.text.keep hb, h.num.keep hb, h.signs.keep hb, h.err.keep hb⟩
set_option maxHeartbeats 16000000 in
set_option maxRecDepth 100000 in
theorem walk (s : ByteArray) (x y : Ex) (w : World) (hs : s.size ≤ 2000000) (hx : SeesEx w x) (hy : SeesEx w y) (hN : exN x ≤ 1048576) (hT : Tabs w) :
  Calls Tryz.prog 6 #[.string s, exV x, exV y] w fun e w' => e = .returned (.bool true) ∧ Below w.heap.size w w' := by
 obtain ⟨R, hR⟩ := parse_all s.data.toList
 have hsm : s.size ≤ maxLen := by unfold maxLen; omega
 have TR := Lib.hid (fun (w' : World) => (rParse_any s hsm hR w').mono (fun e w'' h => oneR h))
 have TP := Lib.hid (fun (w' : World) (hb : Below w.heap.size w w') => (rdParse_any s hsm hR w' (hT.keep hb).lev (hT.keep hb).words (hT.keep hb).text (hT.keep hb).num (hT.keep hb).signs).mono (fun e w'' h => oneP h))
 generalize resX R = rx at TR TP
 generalize resH R = rh at TR TP
 generalize resP R = rp at TR TP
 have TC := Lib.hid (fun (w' : World) (hb : Below w.heap.size w w') => rcheck_any x w' (hx.keep hb) hN)
 have TK := Lib.hid (fun (w' : World) (hb : Below w.heap.size w w') => check_any x w' (hT.keep hb).lev (hT.keep hb).words (hx.keep hb))
 have TE := Lib.hid (fun (k : Int) (w' : World) (hb : Below w.heap.size w w') => sameV k w' (hT.keep hb).err)
 have TX := Lib.hid (fun (hc : checkErr x = 0) (w' : World) (hb : Below w.heap.size w w') => rtext_any _ x (Nat.le_refl _) (checkErr_ok hc).2.2 (by have h := checkErr_ok hc; have := (size_ok 30 (Nat.le_refl _) x h.2.1 h.2.2).1; omega) w' (hx.keep hb))
 have TQ := Lib.hid (fun (w' : World) (hb : Below w.heap.size w w') => printE_any x w' (hT.keep hb).lev (hT.keep hb).words (hT.keep hb).text (hx.keep hb))
 have TL := Lib.hid (fun (w' : World) (hb : Below w.heap.size w w') => likeExpr_any _ x y (Nat.le_refl _) w' (hx.keep hb) (hy.keep hb))
 have TS := Lib.hid (fun (w' : World) (hb : Below w.heap.size w w') => like_any _ x y (Nat.le_refl _) w' (hx.keep hb) (hy.keep hb))
 have TZ := Lib.hid (fun (w' : World) (hb : Below w.heap.size w w') => tsize_any _ x (Nat.le_refl _) w' (hx.keep hb))
 have TZR := Lib.hid (fun (w' : World) (hb : Below w.heap.size w w') => rsize_any _ x (Nat.le_refl _) w' (hx.keep hb))
 unfold ValSays at TC TZR
 unfold NodeSays at TK
 unfold PrintESays at TQ
 generalize exSize x = sz at TZ TZR
 generalize exSame x y = q at TL TS
 obtain ⟨w1, hw1, ho1, hb1, -⟩ := box_ex w x
 obtain ⟨w2, hw2, ho2, hb2, -⟩ := box_ex w1 y
 have HW1 := Lib.hid hw1
 have HW2 := Lib.hid hw2
 have HB2 := Lib.hid (below_step hb1 hb2)
 have HOX := Lib.hid (ho1.keep hb2)
 have HOY := Lib.hid ho2
 clear hw1 ho1 hb1 hw2 ho2 hb2 hs hx hy hN hT hR hsm
 unfold exV at TC TK TX TQ TL TS TZ TZR ⊢
 go_enter Tryz.func6, Tryz.ntmps6
 go_wp2_with (first | rw [HW1.out] | rw [HW2.out])
 refine (TR.out w2).mono ?_
 rintro e w3 ⟨y1, rfl, hy1, hst1, hb3⟩
 obtain ⟨w4, hw4, ho4, hb4, -⟩ := box_ex w3 y1
 have HB4 := Lib.hid (below_step (below_step HB2.out hb3) hb4)
 have hb24 := below_step hb3 hb4
 have HOX4 := Lib.hid (HOX.out.keep hb24)
 have HOY4 := Lib.hid (HOY.out.keep hb24)
 have HO4 := Lib.hid ho4
 have HS1 := Lib.hid (hy1.keep hb4)
 have HST1 := Lib.hid hst1
 have HW4 := Lib.hid hw4
 clear hb3 hy1 hst1 hw4 ho4 hb4 hb24
 unfold exV
 go_wp2_with (first | rw [HW4.out])
 refine (TP.out w4 HB4.out).mono ?_
 rintro e wr ⟨y2, rfl, hy2, hst2, hb2⟩
 obtain ⟨ws, hws, ho9, hb9, -⟩ := box_ex wr y2
 have hsz : ws.heap.size = wr.heap.size + 1 := by rw [← hws]; exact alloc_size _ _
 obtain ⟨wt0, hwt0⟩ : ∃ wt0, ws.alloc (.cells #[.int .i64 0, .int .i64 0] 34) = wt0 := ⟨_, rfl⟩
 have hb10 : Below ws.heap.size ws wt0 := by rw [← hwt0]; exact belowNew' _ _
 have ho100 : Own2F wt0 (wr.heap.size + 1) 0 0 := by rw [← hwt0, ← hsz]; exact own2f_new ws _ _
 obtain ⟨wt, hwt⟩ : ∃ wt, (wt0.setCell ⟨wr.heap.size + 1, 0, none⟩ (.int .i64 rh)).setCell ⟨wr.heap.size + 1, 1, none⟩ (.int .i64 rp) = wt := ⟨_, rfl⟩
 have ho10 : Own2F wt (wr.heap.size + 1) rh rp := by rw [← hwt]; exact own2f_set ho100 _ _
 have hn10 : Only (fun k => k = wr.heap.size + 1) wt0 wt := by rw [← hwt]; exact own2f_setOnly _ _
 have hb11 : Below ws.heap.size ws wt := hb10.trans (hn10.below hb10.size (fun k e => by have e' : k = wr.heap.size + 1 := e; omega))
 have hb4t := below_step (below_step hb2 hb9) hb11
 have T3 := Lib.hid (sameExpr_any _ y2 y1 (Nat.le_refl _) (hst2.trans HST1.out.symm) wt ((hy2.keep hb9).keep hb11) (HS1.out.keep hb4t))
 unfold exV at T3
 have HBT := Lib.hid (below_step HB4.out hb4t)
 have HOXT := Lib.hid (HOX4.out.keep hb4t)
 have HOYT := Lib.hid (HOY4.out.keep hb4t)
 have h7t := HO4.out.keep hb4t
 have h9t := ho9.keep hb11
 obtain ⟨t0, t1, t2, t3, t4, t5, t6⟩ := h7t.cells
 obtain ⟨r0, r1, r2, r3, r4, r5, r6⟩ := h9t.cells
 have hl7 := h7t.lt
 have hl9 := h9t.lt
 have HO10 := Lib.hid ho10
 obtain ⟨z0, z1⟩ := ho100.cells
 obtain ⟨zf0, zf1⟩ := ho100.frees
 have zl := ho100.lt
 have HWS := Lib.hid hws
 have HWT0 := Lib.hid hwt0
 have HWT := Lib.hid hwt
 clear hws hsz hwt0 hwt ho9 hb9 hb10 ho100 ho10 hn10 hb11 hb4t hy2 hst2 hb2 h7t h9t
 unfold exV
 go_wp2_with (first | rw [HWS.out] | rw [HWT0.out] | rw [HWT.out])
 refine (T3.out).mono ?_
 rintro e wu ⟨rfl, hbu⟩
 obtain ⟨d0, d1⟩ := (HO10.out.keep hbu).cells
 have hl10 := (HO10.out.keep hbu).lt
 have HBU := Lib.hid (below_step HBT.out hbu)
 have HOXU := Lib.hid (HOXT.out.keep hbu)
 have HOYU := Lib.hid (HOYT.out.keep hbu)
 obtain ⟨x0, x1, x2, x3, x4, x5, x6⟩ := (HOXT.out.keep hbu).cells
 have hlx := (HOXT.out.keep hbu).lt
 have T4 := Lib.hid (TC.out wu HBU.out)
 have e1 : (rh != rh) = false := by simp
 have e2 : (rp != rp) = false := by simp
 clear hbu T3 t0 t1 t2 t3 t4 t5 t6 r0 r1 r2 r3 r4 r5 r6 z0 z1 zf0 zf1 zl hl7 hl9
 go_wp2_with fail
 refine (T4.out).mono ?_
 rintro e wv ⟨rfl, hbv⟩
 have HBV := Lib.hid (below_step HBU.out hbv)
 have HOXV := Lib.hid (HOXU.out.keep hbv)
 have HOYV := Lib.hid (HOYU.out.keep hbv)
 have T5 := Lib.hid (TK.out wv HBV.out)
 clear x0 x1 x2 x3 x4 x5 x6 hlx d0 d1 hl10
 obtain ⟨x0, x1, x2, x3, x4, x5, x6⟩ := HOXV.out.cells
 have hlx := HOXV.out.lt
 clear hbv T4
 go_wp2_with fail
 refine (T5.out).mono ?_
 rintro e wa ⟨rfl, hba⟩
 have HBA := Lib.hid (below_step HBV.out hba)
 have HOXA := Lib.hid (HOXV.out.keep hba)
 have HOYA := Lib.hid (HOYV.out.keep hba)
 have T6 := Lib.hid (TE.out (checkErr x) wa HBA.out)
 have HCK := Lib.hid (rfl : checkErr x = checkErr x)
 clear hba T5 x0 x1 x2 x3 x4 x5 x6 hlx
 go_wp2_with fail
 refine (T6.out).mono ?_
 rintro e wb ⟨rfl, hbb⟩
 have HBB := Lib.hid (below_step HBA.out hbb)
 have HOXB := Lib.hid (HOXA.out.keep hbb)
 have HOYB := Lib.hid (HOYA.out.keep hbb)
 obtain ⟨x0, x1, x2, x3, x4, x5, x6⟩ := HOXB.out.cells
 have hlx := HOXB.out.lt
 clear hbb T6
 by_cases hc : checkErr x = 0
 ·have T7 := Lib.hid (TX.out hc wb HBB.out)
  have g0 : (checkErr x == 0) = true := beq_iff_eq.2 hc
  generalize txB (exText x) = tx at TQ T7
  go_wp2_with fail
  refine (T7.out).mono ?_
  rintro e wc ⟨rfl, hbc⟩
  have HBC := Lib.hid (below_step HBB.out hbc)
  have HOXC := Lib.hid (HOXB.out.keep hbc)
  have HOYC := Lib.hid (HOYB.out.keep hbc)
  clear hbc T7 x0 x1 x2 x3 x4 x5 x6 hlx
  have T8 := Lib.hid (TQ.out wc HBC.out)
  rw [if_pos hc] at T8
  have T9 := Lib.hid (fun w' hb => TE.out (checkErr x) w' hb)
  obtain ⟨x0, x1, x2, x3, x4, x5, x6⟩ := HOXC.out.cells
  have hlx := HOXC.out.lt
  have HEQ := Lib.hid hc
  clear hc
  go_wp2_with fail
  refine (T8.out).mono ?_
  rintro e wd ⟨rfl, hbd⟩
  have HBD := Lib.hid (below_step HBC.out hbd)
  have HOXD := Lib.hid (HOXC.out.keep hbd)
  have HOYD := Lib.hid (HOYC.out.keep hbd)
  have T10 := Lib.hid (show Calls Tryz.prog 15 #[errV (checkErr x), .int .i64 0] wd (fun ev w' => ev = .returned (.bool true) ∧ Below wd.heap.size wd w') from by have h := T9.out wd HBD.out; rw [HEQ.out] at h ⊢; exact h)
  clear hbd T8 x0 x1 x2 x3 x4 x5 x6 hlx
  go_wp2_with fail
  refine (T10.out).mono ?_
  rintro e we ⟨rfl, hbe⟩
  have HBE := Lib.hid (below_step HBD.out hbe)
  have HOXE := Lib.hid (HOXD.out.keep hbe)
  have HOYE := Lib.hid (HOYD.out.keep hbe)
  have T11 := Lib.hid (TL.out we HBE.out)
  obtain ⟨x0, x1, x2, x3, x4, x5, x6⟩ := HOXE.out.cells
  obtain ⟨y0, y1', y2', y3, y4, y5, y6⟩ := HOYE.out.cells
  have hlx := HOXE.out.lt
  have hly := HOYE.out.lt
  clear hbe T10
  go_wp2_with fail
  refine (T11.out).mono ?_
  rintro e wz ⟨rfl, hbz⟩
  have HBZ := Lib.hid (below_step HBE.out hbz)
  have HOXZ := Lib.hid (HOXE.out.keep hbz)
  have HOYZ := Lib.hid (HOYE.out.keep hbz)
  have HBX := Lib.hid (show Below wz.heap.size wz (wz.drew) from (Below.refl _ wz).drew)
  have TSA := Lib.hid (fun w' (hb : Below wz.heap.size wz w') => TS.out w' (below_step HBZ.out hb))
  have TZA := Lib.hid (fun w' (hb : Below wz.heap.size wz w') => TZ.out w' (below_step HBZ.out hb))
  have TZB := Lib.hid (fun w' (hb : Below wz.heap.size wz w') => TZR.out w' (below_step HBZ.out hb))
  have HKEEP := Lib.hid (show ∀ w', Below wz.heap.size wz w' → TtS w w1 wz x y w' from fun w' hb => by
   obtain ⟨x0, x1, x2, x3, x4, x5, x6⟩ := (HOXZ.out.keep hb).cells
   obtain ⟨y0, y1', y2', y3, y4, y5, y6⟩ := (HOYZ.out.keep hb).cells
   exact ⟨hb, x0, x1, x2, x3, x4, x5, x6, y0, y1', y2', y3, y4, y5, y6⟩)
  have e3 : (q == q) = true := by simp
  have e4 : (sz == sz) = true := by simp
  clear hbz T11 x0 x1 x2 x3 x4 x5 x6 y0 y1' y2' y3 y4 y5 y6 hlx hly
  go_wp2_with fail
  go_region_held3 (fun w' : World => Below wz.heap.size wz w' ∧ w'.cell? ⟨w.heap.size, 0, none⟩ = some (.string x.op) ∧ w'.cell? ⟨w.heap.size, 1, none⟩ = some (.string x.name) ∧ w'.cell? ⟨w.heap.size, 2, none⟩ = some (.int .i64 x.val.type) ∧ w'.cell? ⟨w.heap.size, 3, none⟩ = some (.int .i64 x.val.n) ∧ w'.cell? ⟨w.heap.size, 4, none⟩ = some (.string x.val.s) ∧ w'.cell? ⟨w.heap.size, 5, none⟩ = some (.slice x.A x.args.length x.c) ∧ w'.cell? ⟨w.heap.size, 6, none⟩ = some (.int .i64 x.pos) ∧ w'.cell? ⟨w1.heap.size, 0, none⟩ = some (.string y.op) ∧ w'.cell? ⟨w1.heap.size, 1, none⟩ = some (.string y.name) ∧ w'.cell? ⟨w1.heap.size, 2, none⟩ = some (.int .i64 y.val.type) ∧ w'.cell? ⟨w1.heap.size, 3, none⟩ = some (.int .i64 y.val.n) ∧ w'.cell? ⟨w1.heap.size, 4, none⟩ = some (.string y.val.s) ∧ w'.cell? ⟨w1.heap.size, 5, none⟩ = some (.slice y.A y.args.length y.c) ∧ w'.cell? ⟨w1.heap.size, 6, none⟩ = some (.int .i64 y.pos)) (first | exact HKEEP.out _ HBN.out | exact HKEEP.out _ HBX.out)
   (first
    | (go_at_call 21; refine (TSA.out _ (by first | exact HBN.out | exact HBX.out)).mono ?_; rintro e' wn ⟨rfl, hbn⟩; have HBN := Lib.hid (below_step (show Below wz.heap.size wz _ by first | exact HBN.out | exact HBX.out) hbn))
    | (go_at_call 22; refine (TZA.out _ (by first | exact HBN.out | exact HBX.out)).mono ?_; rintro e' wn ⟨rfl, hbn⟩; have HBN := Lib.hid (below_step (show Below wz.heap.size wz _ by first | exact HBN.out | exact HBX.out) hbn))
    | (go_at_call 27; refine (TZB.out _ (by first | exact HBN.out | exact HBX.out)).mono ?_; rintro e' wn ⟨rfl, hbn⟩; have HBN := Lib.hid (below_step (show Below wz.heap.size wz _ by first | exact HBN.out | exact HBX.out) hbn)))
  have HBF := Lib.hid (below_step HBZ.out HBN.out)
  go_wp2_with fail
  go_ret
  exact ⟨rfl, HBF.out⟩
 ·have g0 : (checkErr x == 0) = false := beq_eq_false_iff_ne.2 hc
  have HBC := HBB
  have HOXC := HOXB
  have HOYC := HOYB
  clear x0 x1 x2 x3 x4 x5 x6 hlx
  generalize wb = wc at HBC HOXC HOYC ⊢
  have T8 := Lib.hid (TQ.out wc HBC.out)
  rw [if_neg hc] at T8
  have T9 := Lib.hid (fun w' hb => TE.out (checkErr x) w' hb)
  obtain ⟨x0, x1, x2, x3, x4, x5, x6⟩ := HOXC.out.cells
  have hlx := HOXC.out.lt
  have HEQ := Lib.hid hc
  clear hc
  go_wp2_with fail
  refine (T8.out).mono ?_
  rintro e wd ⟨rfl, hbd⟩
  have HBD := Lib.hid (below_step HBC.out hbd)
  have HOXD := Lib.hid (HOXC.out.keep hbd)
  have HOYD := Lib.hid (HOYC.out.keep hbd)
  have T10 := Lib.hid (T9.out wd HBD.out)
  clear hbd T8 x0 x1 x2 x3 x4 x5 x6 hlx
  go_wp2_with fail
  refine (T10.out).mono ?_
  rintro e we ⟨rfl, hbe⟩
  have HBE := Lib.hid (below_step HBD.out hbe)
  have HOXE := Lib.hid (HOXD.out.keep hbe)
  have HOYE := Lib.hid (HOYD.out.keep hbe)
  have T11 := Lib.hid (TL.out we HBE.out)
  obtain ⟨x0, x1, x2, x3, x4, x5, x6⟩ := HOXE.out.cells
  obtain ⟨y0, y1', y2', y3, y4, y5, y6⟩ := HOYE.out.cells
  have hlx := HOXE.out.lt
  have hly := HOYE.out.lt
  clear hbe T10
  go_wp2_with fail
  refine (T11.out).mono ?_
  rintro e wz ⟨rfl, hbz⟩
  have HBZ := Lib.hid (below_step HBE.out hbz)
  have HOXZ := Lib.hid (HOXE.out.keep hbz)
  have HOYZ := Lib.hid (HOYE.out.keep hbz)
  have HBX := Lib.hid (show Below wz.heap.size wz (wz.drew) from (Below.refl _ wz).drew)
  have TSA := Lib.hid (fun w' (hb : Below wz.heap.size wz w') => TS.out w' (below_step HBZ.out hb))
  have TZA := Lib.hid (fun w' (hb : Below wz.heap.size wz w') => TZ.out w' (below_step HBZ.out hb))
  have TZB := Lib.hid (fun w' (hb : Below wz.heap.size wz w') => TZR.out w' (below_step HBZ.out hb))
  have HKEEP := Lib.hid (show ∀ w', Below wz.heap.size wz w' → TtS w w1 wz x y w' from fun w' hb => by
   obtain ⟨x0, x1, x2, x3, x4, x5, x6⟩ := (HOXZ.out.keep hb).cells
   obtain ⟨y0, y1', y2', y3, y4, y5, y6⟩ := (HOYZ.out.keep hb).cells
   exact ⟨hb, x0, x1, x2, x3, x4, x5, x6, y0, y1', y2', y3, y4, y5, y6⟩)
  have e3 : (q == q) = true := by simp
  have e4 : (sz == sz) = true := by simp
  clear hbz T11 x0 x1 x2 x3 x4 x5 x6 y0 y1' y2' y3 y4 y5 y6 hlx hly
  go_wp2_with fail
  go_region_held3 (fun w' : World => Below wz.heap.size wz w' ∧ w'.cell? ⟨w.heap.size, 0, none⟩ = some (.string x.op) ∧ w'.cell? ⟨w.heap.size, 1, none⟩ = some (.string x.name) ∧ w'.cell? ⟨w.heap.size, 2, none⟩ = some (.int .i64 x.val.type) ∧ w'.cell? ⟨w.heap.size, 3, none⟩ = some (.int .i64 x.val.n) ∧ w'.cell? ⟨w.heap.size, 4, none⟩ = some (.string x.val.s) ∧ w'.cell? ⟨w.heap.size, 5, none⟩ = some (.slice x.A x.args.length x.c) ∧ w'.cell? ⟨w.heap.size, 6, none⟩ = some (.int .i64 x.pos) ∧ w'.cell? ⟨w1.heap.size, 0, none⟩ = some (.string y.op) ∧ w'.cell? ⟨w1.heap.size, 1, none⟩ = some (.string y.name) ∧ w'.cell? ⟨w1.heap.size, 2, none⟩ = some (.int .i64 y.val.type) ∧ w'.cell? ⟨w1.heap.size, 3, none⟩ = some (.int .i64 y.val.n) ∧ w'.cell? ⟨w1.heap.size, 4, none⟩ = some (.string y.val.s) ∧ w'.cell? ⟨w1.heap.size, 5, none⟩ = some (.slice y.A y.args.length y.c) ∧ w'.cell? ⟨w1.heap.size, 6, none⟩ = some (.int .i64 y.pos)) (first | exact HKEEP.out _ HBN.out | exact HKEEP.out _ HBX.out)
   (first
    | (go_at_call 21; refine (TSA.out _ (by first | exact HBN.out | exact HBX.out)).mono ?_; rintro e' wn ⟨rfl, hbn⟩; have HBN := Lib.hid (below_step (show Below wz.heap.size wz _ by first | exact HBN.out | exact HBX.out) hbn))
    | (go_at_call 22; refine (TZA.out _ (by first | exact HBN.out | exact HBX.out)).mono ?_; rintro e' wn ⟨rfl, hbn⟩; have HBN := Lib.hid (below_step (show Below wz.heap.size wz _ by first | exact HBN.out | exact HBX.out) hbn))
    | (go_at_call 27; refine (TZB.out _ (by first | exact HBN.out | exact HBX.out)).mono ?_; rintro e' wn ⟨rfl, hbn⟩; have HBN := Lib.hid (below_step (show Below wz.heap.size wz _ by first | exact HBN.out | exact HBX.out) hbn)))
  have HBF := Lib.hid (below_step HBZ.out HBN.out)
  go_wp2_with fail
  go_ret
  exact ⟨rfl, HBF.out⟩
noncomputable def theWorld (os : Os) : World := (World.doorLaid Tryz.prog 4000 os).layVars Tryz.prog (Rows.treeTellsUptoRow.laid.filter fun x => x.2.handleName?.isNone)
set_option maxRecDepth 100000 in
theorem contract (H : Type) (enc : TypeId × Value → H) (W : World) (base : Nat) (args : Array Value) (ds gs : List (DataW H)) (before : List MemPlace)
  (hval : ∀ (j : Nat) t v, Tryz.f6.params[j]? = some t → args[j]? = some v → Value.okWide Tryz.prog W .any base t v)
  (hW : DataW.Whole enc Tryz.prog Tryz.f6.params.toList Rows.treeTellsSpec.vars false W args.toList ds gs before)
  (hsz : (DataW.weightsEach Tryz.prog (Tryz.f6.params.toList ++ (Rows.OpenSpec.upto Rows.treeTellsSpec).bare.plain.varTypes Tryz.prog) (ds ++ gs)).all (· ≤ reachBytes) = true) (hL : laidMetH Tryz.prog Rows.treeTellsUptoRow.laid W) (hsh : W.ShapedOpen Tryz.prog) (hk : Rows.uptoSmall H (ds ++ gs) = true) :
  Calls Tryz.prog 6 args W fun e W' => ∃ v, e = .returned v ∧ Rows.treeTellsSpec.post enc Tryz.prog Tryz.f6 false true false false W args v W' := by
 have hW' := hW
 obtain ⟨p, q, hA0, hV, rfl, hfz, hnd⟩ := hW
 have hA : DataW.TrodAll enc Tryz.prog W 0 (fun _ => true) true Tryz.f6.params.toList args.toList ds p := hA0
 rw [Tryz.params6] at hA hval
 obtain ⟨v0, vs0, d0, ds0, p0, q0, hargs, rfl, rfl, h0, r0⟩ := trodAll_cons hA
 obtain ⟨v1, vs1, d1, ds1, p1, q1, rfl, rfl, rfl, h1, r1⟩ := trodAll_cons r0
 obtain ⟨v2, vs2, d2, ds2, p2, q2, rfl, rfl, rfl, h2, r2⟩ := trodAll_cons r1
 obtain ⟨rfl, rfl, rfl⟩ := trodAll_nil r2
 obtain rfl : args = #[v0, v1, v2] := by cases args; simp_all
 obtain ⟨rfl, rfl⟩ := trodVars_none hV
 obtain ⟨a0, rfl, rfl, rfl, w0⟩ := Go.ChangeMaps.open_string Tryz.underlying9 (hval 0 9 v0 rfl rfl) h0
 have hv1 := hval 1 26 v1 rfl rfl
 have hv2 := hval 2 26 v2 rfl rfl
 obtain ⟨e1, rfl, he1, hn1⟩ := open_exn hv1 h1
 obtain ⟨e2, rfl, he2, -⟩ := open_exn hv2 h2
 have hL1 : laidMet Tryz.prog [("math/bits.deBruijn32tab", Rows.laid_math_bits_deBruijn32tab), ("math/bits.deBruijn64tab", Rows.laid_math_bits_deBruijn64tab), ("internal/strconv.uint64pow10", Rows.laid_internal_strconv_uint64pow10), ("unicode/utf8.acceptRanges", Rows.laid_unicode_utf8_acceptRanges), ("strconv.ErrRange", Rows.laid_strconv_ErrRange), ("strconv.ErrSyntax", Rows.laid_strconv_ErrSyntax), ("sluicebook/lex.signs", Rows.laid_sluicebook_lex_signs), ("sluicebook/tree.words", Rows.laid_sluicebook_tree_words), ("sluicebook/tree.levels", Rows.laid_sluicebook_tree_levels), ("unicode/utf8.first", Rows.laid_unicode_utf8_first)] W ∧ handlesMet Tryz.prog [("errors.errorType", Rows.laid_errors_errorType)] W := hL
 have hL0 := hL1.1
 have hbk : Rows.uptoBulkAll _ ≤ 1048576 := of_decide_eq_true hk
 have hS : a0.size ≤ 2000000 := by simp only [List.append_nil, Rows.uptoBulkAll, Rows.uptoBulk] at hbk; rw [← size_eq]; omega
 have hN : exN e1 ≤ 1048576 := by simp only [List.append_nil, Rows.uptoBulkAll] at hbk; omega
 refine (walk a0 e1 e2 W hS he1 he2 hN ⟨(levelsT_of hL0 (.tail _ (.tail _ (.tail _ (.tail _ (.tail _ (.tail _ (.tail _ (.tail _ (.head _)))))))))), (wordsT_of hL0 (.tail _ (.tail _ (.tail _ (.tail _ (.tail _ (.tail _ (.tail _ (.head _))))))))), (textT_of hL0 (.tail _ (.tail _ (.head _))) hsh), (numT_of hL0.tail.tail.tail.tail), (signsT_of hL0 (.tail _ (.tail _ (.tail _ (.tail _ (.tail _ (.tail _ (.head _)))))))), (errT_of_laid (show laidMetH Tryz.prog [("errors.errorType", Rows.laid_errors_errorType)] W from ⟨laidMet_nil _ _, hL1.2⟩))⟩).mono fun e W' ⟨he, hb⟩ => ?_
 subst he
 exact ⟨_, rfl, law_post laidOut Tryz.underlying4 (by kernel_rfl) rfl (by rw [Tryz.params6]; intro t ht; simp only [List.mem_cons, List.not_mem_nil, or_false] at ht; rcases ht with rfl | rfl | rfl; all_goals exact ⟨by kernel_rfl, of_decide_eq_true (by kernel_rfl)⟩) hW' rfl hb⟩
theorem reads (os : Os) {H : Type} (enc : TypeId × Value → H) : ∃ places, DataW.whole enc Tryz.prog ((theWorld os).forCall (fun _ _ => 0) ⟨#[], #[.string .empty, .agg #[.string .empty, .string .empty, .int .i64 0, .int .i64 0, .string .empty, .slice none 0 0, .int .i64 0], .agg #[.string .empty, .string .empty, .int .i64 0, .int .i64 0, .string .empty, .slice none 0 0, .int .i64 0]], []⟩).memory Tryz.f6.params.toList Rows.treeTellsSpec.vars false (#[.string .empty, .agg #[.string .empty, .string .empty, .int .i64 0, .int .i64 0, .string .empty, .slice none 0 0, .int .i64 0], .agg #[.string .empty, .string .empty, .int .i64 0, .int .i64 0, .string .empty, .slice none 0 0, .int .i64 0]] : Array Value).toList 8 = some ([.lit (.string []), .agg [.lit (.string []), .lit (.string []), .agg [.lit (.int .i64 0), .lit (.int .i64 0), .lit (.string [])], .nil, .lit (.int .i64 0)], .agg [.lit (.string []), .lit (.string []), .agg [.lit (.int .i64 0), .lit (.int .i64 0), .lit (.string [])], .nil, .lit (.int .i64 0)]], [], places) :=
 ⟨[], by kernel_rfl⟩
set_option maxRecDepth 100000 in
theorem lifted (os : Os) (started : os.Started) (H : Type) (enc : TypeId × Value → H) (F : Stop.Interp) :
  ReturnsInHanded {} Tryz.checked os 6 .any ((Rows.OpenSpec.upto Rows.treeTellsSpec).preRow enc Tryz.prog Tryz.f6 Rows.treeTellsUptoRow.domain false Rows.treeTellsUptoRow.laid) (((Rows.OpenSpec.upto Rows.treeTellsSpec).at F).post enc Tryz.prog Tryz.f6 false true false false) := by
 obtain ⟨places, hx⟩ := reads os enc
 refine returnsInHanded_of_row (C := Tryz.checked) (s := Rows.OpenSpec.upto Rows.treeTellsSpec) own started (by kernel_rfl) Tryz.func6
  (witness_row_atRef (enc := enc) (C := Tryz.checked) false (theWorld os) #[.string .empty, .agg #[.string .empty, .string .empty, .int .i64 0, .int .i64 0, .string .empty, .slice none 0 0, .int .i64 0], .agg #[.string .empty, .string .empty, .int .i64 0, .int .i64 0, .string .empty, .slice none 0 0, .int .i64 0]] (World.layVars_os _ _ _) (by kernel_rfl) (by kernel_rfl) (by kernel_rfl)
   (OpenSpec.preRow_of_cond 8 hx (by kernel_rfl) (fun k hk => by cases hk; kernel_rfl) (by kernel_rfl) (laidMetH_of_parts (laidMet_over (w0 := World.doorLaid Tryz.prog 4000 os) rfl (by kernel_rfl) (by kernel_rfl)) (by kernel_rfl)))) ?_
 intro W base args ds gs before hval hW _ hcond hsz hL hsh _
 exact contract H enc W base args ds gs before hval hW hsz hL hsh (hcond _ rfl)
theorem said : Rows.TreeTellsUptoSaid :=
 OpenClaim.holds_of_cond 6 Tryz.f6 rfl rfl rfl rfl rfl rfl rfl ⟨rfl, rfl, rfl, rfl, rfl⟩ rfl rfl rfl rfl rfl (by kernel_rfl) Tryz.func6 (by kernel_rfl)
  (of_decide_eq_true (by kernel_rfl)) (by unfold Func.isWrapper; first | (rw [if_pos (by decide +kernel)]; kernel_rfl) | (rw [if_neg (by decide +kernel)]; exact ⟨rfl, rfl⟩))
  (fun os started H enc _ F => by rw [OpenClaim.pre_eq_preRow]; exact lifted os started H enc F)
theorem plain (f : FuncId) (fn : Func) (hf : Tryz.pinned.checked.prog.funcNamed "sluicebook/sluicelaw1.TreeTells" = some f) (hfn : Tryz.pinned.checked.prog.funcs[f]? = some fn) :
  true = Tryz.pinned.checked.prog.looks [] ∧ ∀ (j : Nat) t, fn.params[j]? = some t → Tryz.pinned.checked.prog.wantsStandIn t = false := by
 obtain rfl : f = 6 := Option.some.inj ((show Tryz.prog.funcNamed "sluicebook/sluicelaw1.TreeTells" = some 6 by kernel_rfl).symm.trans hf) |>.symm
 obtain rfl : fn = Tryz.f6 := (Option.some.inj (Tryz.func6.symm.trans hfn)).symm
 refine ⟨by kernel_rfl, fun j t ht => ?_⟩
 rw [Tryz.params6] at ht
 have hm := Array.mem_of_getElem? ht
 simp only [List.mem_toArray, List.mem_cons, List.not_mem_nil, or_false] at hm
 rcases hm with rfl | rfl | rfl
 ·exact (show Tryz.prog.wantsStandIn 9 = false by kernel_rfl)
 ·exact (show Tryz.prog.wantsStandIn 26 = false by kernel_rfl)
 ·exact (show Tryz.prog.wantsStandIn 26 = false by kernel_rfl)
theorem card : Rows.TreeTellsUptoCardSaid :=
 Claim7.holds_tied_plain_at .later [] _ _ _ _ said (fun _ h => by cases h) (by kernel_rfl) (fun _ h => by cases h) treeTellsUpto_row_tie rfl ⟨rfl, rfl⟩ (by kernel_rfl) rfl plain (by kernel_rfl)
#print axioms card
end Go.Proofs.YtjoeeilncekgpaaGreatDoor.treeTells
