/- Of the law TreeBack: the card Rows.TreeBackCardSaid: whatever the text and the expression, it returns true. -/
import Derived.Test.YtjoeeilncekgpaaGreatDoorTBackPlain
import Derived.Test.YtjoeeilncekgpaaGreatDoorTRefText
import Derived.Test.YtjoeeilncekgpaaGreatDoorTSameEx
import Derived.Test.YtjoeeilncekgpaaGreatDoorTErrEq
import Derived.Test.YtjoeeilncekgpaaGreatDoorTTold
import Derived.Test.YtjoeeilncekgpaaGreatDoorTOpenEx
import Derived.Test.YtjoeeilncekgpaaGreatDoorCards
import Derived.Test.YtjoeeilncekgpaaGreatDoorTie
import Derived.LaidLaws
import Derived.LaidMore
import Derived.LaidHandle
import Derived.Stop.Joined
import Derived.SevenTiedAt
import Derived.Deep.DeepWitnessRowRef
import Derived.Deep.DeepHandedRow
import Derived.Deep.QuietTactic
import Derived.BigQuiet
namespace Go.Proofs.YtjoeeilncekgpaaGreatDoor.treeBack
open Go.ChangeShapes Go.WideShapes Go.ChangeAt Go.RowKit
def resX : Except (Int × Int) Ex → Ex
 | .ok x => x
 | .error _ => zeroE
def resH : Except (Int × Int) Ex → Int
 | .ok _ => 0
 | .error e => e.1
def resP : Except (Int × Int) Ex → Int
 | .ok _ => 0
 | .error e => e.2
theorem zero_sees (w : World) : SeesEx w zeroE := .mk (Sees.nil w 7) (Nat.zero_le _) (Nat.zero_le _) ⟨show fits 0 by decide, show fits 0 by decide, Nat.zero_le _⟩ (show fits 0 by decide) (fun a h => by cases h)
def OneP (x : Ex) (h q : Int) (w : World) (e : Ending) (w' : World) : Prop := ∃ y, e = .returned (.tuple #[exV y, .agg #[.int .i64 h, .int .i64 q]]) ∧ SeesEx w' y ∧ strip y = x ∧ Below w.heap.size w w'
theorem oneP {R : Except (Int × Int) Ex} {w w' : World} {e : Ending} (h : PSays R w e w') : OneP (resX R) (resH R) (resP R) w e w' := by
 obtain ⟨hb, h⟩ := h
 match R, h with
 | .error (hh, pp), h => exact ⟨zeroE, h, zero_sees _, rfl, hb⟩
 | .ok x, h =>
  obtain ⟨y, he, hs, hst⟩ := h
  exact ⟨y, he, hs.see, hst, hb⟩
theorem alloc_size (w : World) (o : Obj) : (w.alloc o).heap.size = w.heap.size + 1 := by show (w.heap.push _).size = _; exact Array.size_push _
theorem pair_box (wr : World) (y : Ex) (h q : Int) : ∃ ws wt0 wt, wr.alloc (.cells #[.string y.op, .string y.name, .int .i64 y.val.type, .int .i64 y.val.n, .string y.val.s, .slice y.A y.args.length y.c, .int .i64 y.pos] 26) = ws ∧ ws.alloc (.cells #[.int .i64 0, .int .i64 0] 34) = wt0 ∧
  (wt0.setCell ⟨wr.heap.size + 1, 0, none⟩ (.int .i64 h)).setCell ⟨wr.heap.size + 1, 1, none⟩ (.int .i64 q) = wt ∧ Own2F wt0 (wr.heap.size + 1) 0 0 ∧ Own7 wt wr.heap.size y ∧ Own2F wt (wr.heap.size + 1) h q ∧ Below wr.heap.size wr wt := by
 obtain ⟨ws, hws, ho9, hb9, -⟩ := box_ex wr y
 have hsz : ws.heap.size = wr.heap.size + 1 := by rw [← hws]; exact alloc_size _ _
 obtain ⟨wt0, hwt0⟩ : ∃ wt0, ws.alloc (.cells #[.int .i64 0, .int .i64 0] 34) = wt0 := ⟨_, rfl⟩
 have hb10 : Below ws.heap.size ws wt0 := by rw [← hwt0]; exact belowNew' _ _
 have ho100 : Own2F wt0 (wr.heap.size + 1) 0 0 := by rw [← hwt0, ← hsz]; exact own2f_new ws _ _
 have ho10 := own2f_set ho100 h q
 have hn10 : Only (fun k => k = wr.heap.size + 1) wt0 _ := own2f_setOnly h q
 have hb11 : Below ws.heap.size ws _ := hb10.trans (hn10.below hb10.size (fun k e => by have e' : k = wr.heap.size + 1 := e; omega))
 exact ⟨ws, wt0, _, hws, hwt0, rfl, ho100, ho9.keep hb11, ho10, below_step hb9 hb11⟩
structure Tabs (w : World) : Prop where
 lev : LevelsT w
 words : WordsT w
 text : TextT w
 num : NumT w
 signs : SignsT w
theorem Tabs.keep {w w' : World} (h : Tabs w) (hb : Below w.heap.size w w') : Tabs w' := ⟨h.lev.keep hb, h.words.keep hb, h.text.keep hb, h.num.keep hb, h.signs.keep hb⟩
theorem parseOf {s : ByteArray} (hs : s.size ≤ maxLen) {R : Except (Int × Int) Ex} (hR : ParseIs s.data.toList R) {w : World} (hT : Tabs w) (w' : World) (hb : Below w.heap.size w w') : Calls Tryz.prog 18 #[.string s] w' (OneP (resX R) (resH R) (resP R) w') :=
 (rdParse_any s hs hR w' (hT.keep hb).lev (hT.keep hb).words (hT.keep hb).text (hT.keep hb).num (hT.keep hb).signs).mono (fun _ _ h => oneP h)
theorem fact_sees {x a b y : Ex} {w : World} (hst : strip y = x) (h1 : x.op.data.toList = [43]) (h2 : x.args = [a, b]) (h3 : b.op.data.toList = [42]) (h4 : x.pos = 2) (hs : SeesEx w y) :
  (y.op.toList == [43]) = true ∧ y.args.length = 2 ∧ y.pos = 2 ∧ ∃ (g o : Nat) (z : ByteArray), y.A = some ⟨g, o, none⟩ ∧ w.cell? ⟨g, o + 7, none⟩ = some (.string z) ∧ (z.toList == [42]) = true := by
 subst hst
 rw [strip_op] at h1
 rw [strip_args, strips_map] at h2
 rw [strip_pos] at h4
 have hl : y.args.length = 2 := by have := congrArg List.length h2; simpa using this
 obtain ⟨g, o, z, e1, -, e2, -, e3, -⟩ := hs.at_ (k := 1) (by omega)
 refine ⟨by rw [Lib.toList_data]; exact beq_iff_eq.2 h1, hl, h4, g, o, z.op, e1, by rw [Nat.one_mul] at e3; exact e3, ?_⟩
 have : strip z = b := by
  have h5 := congrArg (fun l => l[1]?) h2
  simp only [List.getElem?_map, e2] at h5
  simpa using h5
 rw [← this, strip_op] at h3
 rw [Lib.toList_data]
 exact beq_iff_eq.2 h3
theorem strip_check (e : Ex) : checkErr (strip e) = checkErr e := by unfold checkErr; rw [strip_full, strip_nodes]
theorem ok_or (R : Except (Int × Int) Ex) : (∃ e, R = .ok e) ∨ ∃ h q, R = .error (h, q) := by
 cases R with
 | ok e => exact Or.inl ⟨e, rfl⟩
 | error e => obtain ⟨h, q⟩ := e; exact Or.inr ⟨h, q, rfl⟩
abbrev XS (w4 w : World) (x : Ex) (w' : World) : Prop := Below w4.heap.size w4 w' ∧ w'.cell? ⟨w.heap.size, 0, none⟩ = some (.string x.op) ∧ w'.cell? ⟨w.heap.size, 1, none⟩ = some (.string x.name) ∧ w'.cell? ⟨w.heap.size, 2, none⟩ = some (.int .i64 x.val.type) ∧ w'.cell? ⟨w.heap.size, 3, none⟩ = some (.int .i64 x.val.n) ∧ w'.cell? ⟨w.heap.size, 4, none⟩ = some (.string x.val.s) ∧ w'.cell? ⟨w.heap.size, 5, none⟩ = some (.slice x.A x.args.length x.c) ∧ w'.cell? ⟨w.heap.size, 6, none⟩ = some (.int .i64 x.pos)
set_option maxHeartbeats 16000000 in
set_option maxRecDepth 100000 in
theorem walk (s : ByteArray) (x : Ex) (w : World) (hs : s.size ≤ maxLen) (hx : SeesEx w x) (hT : Tabs w) :
  Calls Tryz.prog 5 #[.string s, exV x] w fun e w' => e = .returned (.bool true) ∧ Below w.heap.size w w' := by
 obtain ⟨xf, af, bf, hF, hf1, hf2, hf3, hf4⟩ := fact_is
 obtain ⟨w1, hw1, ho1, hb1, -⟩ := box_ex w x
 have hT1 := hT.keep hb1
 have HFS := Lib.hid (fun (y : Ex) (w' : World) (h : strip y = xf) (h2 : SeesEx w' y) => fact_sees h hf1 hf2 hf3 hf4 h2)
 have TPA := Lib.hid (fun (t : ByteArray) (ht : t.size ≤ maxLen) (R : Except (Int × Int) Ex) (hR : ParseIs t.data.toList R) (w' : World) (hb : Below w1.heap.size w1 w') => parseOf ht hR hT1 w' hb)
 have TF := Lib.hid (TPA.out ⟨#[97, 32, 43, 32, 50, 32, 42, 32, 98]⟩ (by decide) (.ok xf) hF w1 (Below.refl _ _))
 have TC := Lib.hid (fun (e : Ex) (w' : World) (he : SeesEx w' e) (hb : Below w1.heap.size w1 w') => check_any e w' (hT1.keep hb).lev (hT1.keep hb).words he)
 have TQ := Lib.hid (fun (e : Ex) (w' : World) (he : SeesEx w' e) (hb : Below w1.heap.size w1 w') => printE_any e w' (hT1.keep hb).lev (hT1.keep hb).words (hT1.keep hb).text he)
 have TS := Lib.hid (fun (a b : Ex) (w' : World) (ha : SeesEx w' a) (hb : SeesEx w' b) => like_any _ a b (Nat.le_refl _) w' ha hb)
 have TZ := Lib.hid (fun (e : Ex) (w' : World) (he : SeesEx w' e) => tsize_any _ e (Nat.le_refl _) w' he)
 unfold NodeSays at TC
 unfold PrintESays at TQ
 unfold ValSays at TZ
 have HSS := Lib.hid hs
 have HFX := Lib.hid (fitsE_sees hx)
 have HW1 := Lib.hid hw1
 have HB1 := Lib.hid hb1
 have HOX := Lib.hid ho1
 have HSX := Lib.hid (hx.keep hb1)
 clear hw1 ho1 hb1 hx hs hT hT1 hF hf1 hf2 hf3 hf4
 unfold exV at TC TQ TS TZ ⊢
 go_enter Tryz.func5, Tryz.ntmps5
 go_wp2_with (first | rw [HW1.out])
 refine (TF.out).mono ?_
 rw [show resX (.ok xf) = xf from rfl, show resH (.ok xf) = 0 from rfl, show resP (.ok xf) = 0 from rfl]
 rintro e w2 ⟨yf, rfl, hyf, hstf, hb2⟩
 obtain ⟨e1, e2, e3, g, o, z, e4, e5, e6⟩ := HFS.out yf w2 hstf hyf
 have HB2 := Lib.hid hb2
 obtain ⟨rh, hrh⟩ : ∃ rh : Int, rh = 0 := ⟨0, rfl⟩
 obtain ⟨rp, hrp⟩ : ∃ rp : Int, rp = 0 := ⟨0, rfl⟩
 rw [show (Value.agg #[Value.int .i64 0, Value.int .i64 0]) = .agg #[.int .i64 rh, .int .i64 rp] by rw [hrh, hrp]]
 have HE5 := Lib.hid (show ∀ w', Below w2.heap.size w2 w' → w'.cell? ⟨g, o + 7, none⟩ = some (.string z) from fun w' hb => (hb.cell (p := ⟨g, o + 7, none⟩) (World.block_lt_of_cell? w2 _ e5)).trans e5)
 have q0 : (rh != 0) = false := by rw [hrh]; rfl
 have q1 : (yf.pos != 2) = false := by rw [e3]; rfl
 clear hrh hrp hstf hyf e5 e3 HFS TF
 replace HOX := Lib.hid (HOX.out.keep hb2)
 replace HSX := Lib.hid (HSX.out.keep hb2)
 obtain ⟨ws, wt0, w3, hws, hwt0, hwt, hz0, hoy, hof, hbt⟩ := pair_box w2 yf rh rp
 obtain ⟨z0, z1⟩ := hz0.cells
 obtain ⟨zf0, zf1⟩ := hz0.frees
 have zl := hz0.lt
 have HB3 := Lib.hid (below_step HB2.out hbt)
 have HOF := Lib.hid hoy
 have HOFF := Lib.hid hof
 have HBT := Lib.hid hbt
 have HWS := Lib.hid hws
 have HWT0 := Lib.hid hwt0
 have HWT := Lib.hid hwt
 clear hws hwt0 hwt hz0 hoy hof hbt
 unfold exV
 replace HOX := Lib.hid (HOX.out.keep HBT.out)
 replace HSX := Lib.hid (HSX.out.keep HBT.out)
 obtain ⟨t0, t1, t2, t3, t4, t5, t6⟩ := HOF.out.cells
 have hlt := HOF.out.lt
 obtain ⟨d0, d1⟩ := HOFF.out.cells
 have hl2 := HOFF.out.lt
 rw [e2, e4] at t5
 have c5 := HE5.out _ HBT.out
 obtain ⟨x0, x1, x2, x3, x4, x5, x6⟩ := HOX.out.cells
 have hlx := HOX.out.lt
 have T2 := Lib.hid (TQ.out x w3 HSX.out HB3.out)
 clear e2 e4 hb2
 go_wp2_with (first | rw [HWS.out] | rw [HWT0.out] | rw [HWT.out])
 refine (T2.out).mono ?_
 rintro e w4 ⟨rfl, hb4⟩
 have HB4 := Lib.hid (below_step HB3.out hb4)
 replace HOX := Lib.hid (HOX.out.keep hb4)
 replace HSX := Lib.hid (HSX.out.keep hb4)
 clear x0 x1 x2 x3 x4 x5 x6 hlx
 clear t0 t1 t2 t3 t4 t5 t6 hlt
 have QA := errVNil (checkErr x)
 have QA2 := errVGuard 53 (checkErr x)
 have QA3 := errVGuard 56 (checkErr x)
 have QA4 := errVGuard 59 (checkErr x)
 have qn : ((checkErr x == 0) != (checkErr x == 0)) = false := by simp
 obtain ⟨st, hst⟩ : ∃ st, (if checkErr x = 0 then txB (exText x) else ⟨#[]⟩) = st := ⟨_, rfl⟩
 rw [hst]
 have HST := Lib.hid hst
 have HBX := Lib.hid (show Below w4.heap.size w4 w4.drew from (Below.refl _ w4).drew)
 have HKEEP := Lib.hid (show ∀ w', Below w4.heap.size w4 w' → XS w4 w x w' from fun w' hb => by
  obtain ⟨x0, x1, x2, x3, x4, x5, x6⟩ := (HOX.out.keep hb).cells
  exact ⟨hb, x0, x1, x2, x3, x4, x5, x6⟩)
 have TCA := Lib.hid (fun w' (hb : Below w4.heap.size w4 w') => TC.out x w' (HSX.out.keep hb) (below_step HB4.out hb))
 clear hb4 T2 d0 d1 c5 hl2 z0 z1 zf0 zf1 zl HWS HWT0 HWT HE5 HOF HOFF HBT e1 e6 q0 q1 hst
 go_wp2_with fail
 go_cut [58] from 53 to 57 (fun s58 wx => s58 = .bool false ∧ Below w4.heap.size w4 wx)
 case first =>
  go_region_held3 (fun w' : World => Below w4.heap.size w4 w' ∧ w'.cell? ⟨w.heap.size, 0, none⟩ = some (.string x.op) ∧ w'.cell? ⟨w.heap.size, 1, none⟩ = some (.string x.name) ∧ w'.cell? ⟨w.heap.size, 2, none⟩ = some (.int .i64 x.val.type) ∧ w'.cell? ⟨w.heap.size, 3, none⟩ = some (.int .i64 x.val.n) ∧ w'.cell? ⟨w.heap.size, 4, none⟩ = some (.string x.val.s) ∧ w'.cell? ⟨w.heap.size, 5, none⟩ = some (.slice x.A x.args.length x.c) ∧ w'.cell? ⟨w.heap.size, 6, none⟩ = some (.int .i64 x.pos)) (first | exact HKEEP.out _ HBN.out | exact HKEEP.out _ HBX.out)
   (first
    | (go_at_call 20; refine (TCA.out _ (by first | exact HBN.out | exact HBX.out)).mono ?_; rintro e' wn ⟨rfl, hbn⟩; have HBN := Lib.hid (below_step (show Below w4.heap.size w4 _ by first | exact HBN.out | exact HBX.out) hbn)))
  all_goals (go_wp2_with fail; go_meet; exact ⟨rfl, HBN.out⟩)
 case rest =>
  obtain ⟨rfl, hb5⟩ := hcut
  have HB5 := Lib.hid (below_step HB4.out hb5)
  replace HOX := Lib.hid (HOX.out.keep hb5)
  replace HSX := Lib.hid (HSX.out.keep hb5)
  obtain ⟨bb, hbb⟩ : ∃ bb, ((checkErr x == 0) && decide (st.size ≤ 400)) = bb := ⟨_, rfl⟩
  have HBB := Lib.hid hbb
  clear hb5 hbb QA2 QA3 qn HKEEP HBX TCA
  go_upto_region 7 with fail
  go_cut [65] from 59 to 64 (fun s65 wx => s65 = .bool bb ∧ wx = wc)
  case first =>
   rcases hq : (checkErr x == 0) with _ | _
   ·go_wp2_with fail
    go_meet
    exact ⟨by rw [← HBB.out, hq]; rfl, rfl⟩
   ·by_cases hl : st.size ≤ 400
    ·have g1 : decide ((st.size : Int) ≤ 400) = true := decide_eq_true (by omega)
     have HG := Lib.hid (decide_eq_true hl)
     clear hl
     go_wp2_with fail
     go_meet
     exact ⟨by rw [← HBB.out, hq, HG.out]; rfl, rfl⟩
    ·have g1 : decide ((st.size : Int) ≤ 400) = false := decide_eq_false (by omega)
     have HG := Lib.hid (decide_eq_false hl)
     clear hl
     go_wp2_with fail
     go_meet
     exact ⟨by rw [← HBB.out, hq, HG.out]; rfl, rfl⟩
  case rest =>
   obtain ⟨rfl, rfl⟩ := hcut
   clear QA QA4
   go_upto_if 65 with fail
   go_cut [9, 10] from 66 to 79 (fun _ _ wx => Below wc.heap.size wc wx)
   case first =>
    cases bb with
    | false =>
     go_wp2_with fail
     go_meet
     exact Below.refl _ _
    | true =>
     obtain ⟨hk, hl⟩ : checkErr x = 0 ∧ (exText x).length ≤ 400 := by
      have h := HBB.out
      simp only [Bool.and_eq_true, beq_iff_eq, decide_eq_true_eq] at h
      obtain ⟨h1, h2⟩ := h
      refine ⟨h1, ?_⟩
      rw [← HST.out, if_pos h1] at h2
      exact h2
     obtain ⟨e2, he2, hse⟩ := parse_text hk HFX.out hl
     have hst2 : st = txB (exText x) := by rw [← HST.out, if_pos hk]
     have T3 := Lib.hid (TPA.out st (by rw [hst2]; show (exText x).length ≤ _; unfold maxLen; omega) (.ok e2) (by rw [hst2]; exact he2) wc HB5.out)
     rw [show resX (.ok e2) = e2 from rfl, show resH (.ok e2) = 0 from rfl, show resP (.ok e2) = 0 from rfl] at T3
     have HSE := Lib.hid hse
     clear hk hl he2 hse hst2
     go_wp2_with fail
     refine (T3.out).mono ?_
     rintro e w6 ⟨y2, rfl, hy2, hst2, hb6⟩
     have HB6 := Lib.hid hb6
     obtain ⟨rh, hrh⟩ : ∃ rh : Int, rh = 0 := ⟨0, rfl⟩
     obtain ⟨rp, hrp⟩ : ∃ rp : Int, rp = 0 := ⟨0, rfl⟩
     rw [show (Value.agg #[Value.int .i64 0, Value.int .i64 0]) = .agg #[.int .i64 rh, .int .i64 rp] by rw [hrh, hrp]]
     have q0 : (rh != 0) = false := by rw [hrh]; rfl
     have q1 : (rh == 0) = true := by rw [hrh]; rfl
     clear hrh hrp
     replace HOX := Lib.hid (HOX.out.keep hb6)
     replace HSX := Lib.hid (HSX.out.keep hb6)
     obtain ⟨ws, wt0, w7, hws, hwt0, hwt, hz0, hoy, hof, hbt⟩ := pair_box w6 y2 rh rp
     obtain ⟨z0, z1⟩ := hz0.cells
     obtain ⟨zf0, zf1⟩ := hz0.frees
     have zl := hz0.lt
     have HB7 := Lib.hid (below_step HB6.out hbt)
     have HOY := Lib.hid hoy
     have HOYF := Lib.hid hof
     have HBT := Lib.hid hbt
     have HWS := Lib.hid hws
     have HWT0 := Lib.hid hwt0
     have HWT := Lib.hid hwt
     clear hws hwt0 hwt hz0 hoy hof hbt
     unfold exV
     replace HOX := Lib.hid (HOX.out.keep HBT.out)
     replace HSX := Lib.hid (HSX.out.keep HBT.out)
     obtain ⟨x0, x1, x2, x3, x4, x5, x6⟩ := HOX.out.cells
     have hlx := HOX.out.lt
     obtain ⟨c0, c1, c2, c3, c4, c5, c6⟩ := HOY.out.cells
     have hlc := HOY.out.lt
     obtain ⟨d0, d1⟩ := HOYF.out.cells
     have hl2 := HOYF.out.lt
     have T4 := Lib.hid (TS.out y2 x w7 (hy2.keep HBT.out) HSX.out)
     rw [show exSame y2 x = true by rw [← same_strip, hst2]; exact HSE.out] at T4
     clear hy2 hst2 hb6 T3
     go_wp2_with (first | rw [HWS.out] | rw [HWT0.out] | rw [HWT.out])
     refine (T4.out).mono ?_
     rintro e w8 ⟨rfl, hb8⟩
     have HB8 := Lib.hid (below_step HB7.out hb8)
     clear hb8 T4
     go_wp2_with fail
     go_meet
     exact HB8.out
   case rest =>
    have hb6 := hcut
    have HB6 := Lib.hid (below_step HB5.out hb6)
    replace HOX := Lib.hid (HOX.out.keep hb6)
    replace HSX := Lib.hid (HSX.out.keep hb6)
    clear hb6 hcut HBB
    obtain ⟨R, hR⟩ := parse_all s.data.toList
    have T5 := Lib.hid (TPA.out s HSS.out R hR wc HB6.out)
    have HR := Lib.hid hR
    clear hR
    go_wp2_with fail
    rcases ok_or R with ⟨e', rfl⟩ | ⟨hh, qq, rfl⟩
    rotate_left
    ·rw [show resX (.error (hh, qq)) = zeroE from rfl, show resH (.error (hh, qq)) = hh from rfl, show resP (.error (hh, qq)) = qq from rfl] at T5
     obtain ⟨h1, h2, h3⟩ := parse_wrong HR.out
     have q0 : (hh != 0) = true := by simpa using h1
     have q1 : decide (0 ≤ qq) = true := decide_eq_true h2
     have q2 : decide (qq ≤ (s.size : Int)) = true := decide_eq_true (by rw [size_eq] at h3; exact h3)
     clear h1 h2 h3
     refine (T5.out).mono ?_
     rintro e w9 ⟨y, rfl, hy, hsty, hb9⟩
     have HB9 := Lib.hid (below_step HB6.out hb9)
     obtain ⟨ws, wt0, wt9, hws, hwt0, hwt, hz0, hoy, hof, hbt⟩ := pair_box w9 y hh qq
     obtain ⟨z0, z1⟩ := hz0.cells
     obtain ⟨zf0, zf1⟩ := hz0.frees
     have zl := hz0.lt
     have HB10 := Lib.hid (below_step HB9.out hbt)
     have HOY := Lib.hid hoy
     have HOYF := Lib.hid hof
     have HBT := Lib.hid hbt
     have HWS := Lib.hid hws
     have HWT0 := Lib.hid hwt0
     have HWT := Lib.hid hwt
     clear hws hwt0 hwt hz0 hoy hof hbt
     unfold exV
     obtain ⟨d0, d1⟩ := HOYF.out.cells
     have hl2 := HOYF.out.lt
     clear hy hsty hb9 T5
     go_wp2_with (first | rw [HWS.out] | rw [HWT0.out] | rw [HWT.out])
     go_ret
     exact ⟨rfl, below_step HB1.out HB10.out⟩
    ·rw [show resX (.ok e') = e' from rfl, show resH (.ok e') = 0 from rfl, show resP (.ok e') = 0 from rfl] at T5
     refine (T5.out).mono ?_
     rintro e w9 ⟨y, rfl, hy, hsty, hb9⟩
     have HB9 := Lib.hid (below_step HB6.out hb9)
     obtain ⟨rh, hrh⟩ : ∃ rh : Int, rh = 0 := ⟨0, rfl⟩
     obtain ⟨rp, hrp⟩ : ∃ rp : Int, rp = 0 := ⟨0, rfl⟩
     rw [show (Value.agg #[Value.int .i64 0, Value.int .i64 0]) = .agg #[.int .i64 rh, .int .i64 rp] by rw [hrh, hrp]]
     have q0 : (rh != 0) = false := by rw [hrh]; rfl
     have q1 : (rh == 0) = true := by rw [hrh]; rfl
     clear hrh hrp
     obtain ⟨ws, wt0, w10, hws, hwt0, hwt, hz0, hoy, hof, hbt⟩ := pair_box w9 y rh rp
     obtain ⟨z0, z1⟩ := hz0.cells
     obtain ⟨zf0, zf1⟩ := hz0.frees
     have zl := hz0.lt
     have HB10 := Lib.hid (below_step HB9.out hbt)
     have HOY := Lib.hid hoy
     have HOYF := Lib.hid hof
     have HBT := Lib.hid hbt
     have HWS := Lib.hid hws
     have HWT0 := Lib.hid hwt0
     have HWT := Lib.hid hwt
     clear hws hwt0 hwt hz0 hoy hof hbt
     unfold exV
     obtain ⟨d0, d1⟩ := HOYF.out.cells
     have hl2 := HOYF.out.lt
     have HSY := Lib.hid (hy.keep HBT.out)
     have HST2 := Lib.hid hsty
     obtain ⟨hk, hz1, hz2⟩ := parse_right HR.out
     rw [← hsty, strip_size] at hz1 hz2
     have hky : checkErr y = 0 := by rw [← strip_check, hsty]; exact hk
     have s1 : decide (exSize y < 1) = false := decide_eq_false (by omega)
     have s2 : decide (200 < exSize y) = false := decide_eq_false (by omega)
     have HKY := Lib.hid hky
     have HFY := Lib.hid (fitsE_sees hy)
     have T6 := Lib.hid (TC.out y w10 HSY.out HB10.out)
     rw [hky, errV_zero] at T6
     clear hy hsty hb9 T5 hk hz1 hz2 hky HOX HSX HFX HST
     obtain ⟨c0, c1, c2, c3, c4, c5, c6⟩ := HOY.out.cells
     have hlc := HOY.out.lt
     go_wp2_with (first | rw [HWS.out] | rw [HWT0.out] | rw [HWT.out])
     refine (T6.out).mono ?_
     rintro e w11 ⟨rfl, hb11⟩
     have HB11 := Lib.hid (below_step HB10.out hb11)
     replace HOY := Lib.hid (HOY.out.keep hb11)
     replace HSY := Lib.hid (HSY.out.keep hb11)
     clear c0 c1 c2 c3 c4 c5 c6 hlc
     obtain ⟨c0, c1, c2, c3, c4, c5, c6⟩ := HOY.out.cells
     have hlc := HOY.out.lt
     have T7 := Lib.hid (TZ.out y w11 HSY.out)
     clear hb11 T6 d0 d1 hl2 z0 z1 zf0 zf1 zl HWS HWT0 HWT HBT HOYF
     go_wp2_with fail
     refine (T7.out).mono ?_
     rintro e w12 ⟨rfl, hb12⟩
     have HB12 := Lib.hid (below_step HB11.out hb12)
     replace HOY := Lib.hid (HOY.out.keep hb12)
     replace HSY := Lib.hid (HSY.out.keep hb12)
     clear c0 c1 c2 c3 c4 c5 c6 hlc
     obtain ⟨c0, c1, c2, c3, c4, c5, c6⟩ := HOY.out.cells
     have hlc := HOY.out.lt
     have T8 := Lib.hid (TZ.out y w12 HSY.out)
     clear hb12 T7
     go_wp2_with fail
     refine (T8.out).mono ?_
     rintro e w13 ⟨rfl, hb13⟩
     have HB13 := Lib.hid (below_step HB12.out hb13)
     replace HOY := Lib.hid (HOY.out.keep hb13)
     replace HSY := Lib.hid (HSY.out.keep hb13)
     clear c0 c1 c2 c3 c4 c5 c6 hlc
     clear hb13 T8
     obtain ⟨b2, hb2⟩ : ∃ b2, decide ((s.size : Int) ≤ 398) = b2 := ⟨_, rfl⟩
     have HB2' := Lib.hid hb2
     go_upto_if 113 with fail
     go_cut [13, 14] from 114 to 129 (fun _ _ wx => Below w13.heap.size w13 wx)
     case first =>
      cases b2 with
      | false =>
       go_wp2_with fail
       go_meet
       exact Below.refl _ _
      | true =>
       have hl : s.data.toList.length ≤ 398 := by have h := of_decide_eq_true HB2'.out; rw [size_eq]; omega
       obtain ⟨g, hg, hse⟩ := parse_in HR.out hl
       have T9 := Lib.hid (TPA.out ((⟨#[40]⟩ ++ s) ++ ⟨#[41]⟩) (by rw [← size_eq]; have e : ((⟨#[40]⟩ ++ s : ByteArray) ++ ⟨#[41]⟩).data.toList = 40 :: (s.data.toList ++ [41]) := (by simp); rw [e]; simp only [List.length_cons, List.length_append, List.length_nil]; unfold maxLen; omega) (.ok g) (by have e : ((⟨#[40]⟩ ++ s : ByteArray) ++ ⟨#[41]⟩).data.toList = 40 :: (s.data.toList ++ [41]) := (by simp); rw [e]; exact hg) w13 HB13.out)
       rw [show resX (.ok g) = g from rfl, show resH (.ok g) = 0 from rfl, show resP (.ok g) = 0 from rfl] at T9
       have HSE := Lib.hid hse
       have hsz : s.size ≤ 398 := by rw [size_eq] at hl; exact hl
       clear hb2 hl hg hse
       go_wp2_with fail
       refine (T9.out).mono ?_
       rintro e w14 ⟨yg, rfl, hyg, hstg, hb14⟩
       have HB14 := Lib.hid hb14
       have HB14b := Lib.hid (below_step HB13.out hb14)
       obtain ⟨rh, hrh⟩ : ∃ rh : Int, rh = 0 := ⟨0, rfl⟩
       obtain ⟨rp, hrp⟩ : ∃ rp : Int, rp = 0 := ⟨0, rfl⟩
       rw [show (Value.agg #[Value.int .i64 0, Value.int .i64 0]) = .agg #[.int .i64 rh, .int .i64 rp] by rw [hrh, hrp]]
       have q0 : (rh != 0) = false := by rw [hrh]; rfl
       have q1 : (rh == 0) = true := by rw [hrh]; rfl
       clear hrh hrp
       replace HOY := Lib.hid (HOY.out.keep hb14)
       replace HSY := Lib.hid (HSY.out.keep hb14)
       obtain ⟨ws, wt0, w15, hws, hwt0, hwt, hz0, hoy, hof, hbt⟩ := pair_box w14 yg rh rp
       obtain ⟨z0, z1⟩ := hz0.cells
       obtain ⟨zf0, zf1⟩ := hz0.frees
       have zl := hz0.lt
       have HB15 := Lib.hid (below_step HB14.out hbt)
       have HOG := Lib.hid hoy
       have HOGF := Lib.hid hof
       have HBT := Lib.hid hbt
       have HWS := Lib.hid hws
       have HWT0 := Lib.hid hwt0
       have HWT := Lib.hid hwt
       clear hws hwt0 hwt hz0 hoy hof hbt
       unfold exV
       replace HOY := Lib.hid (HOY.out.keep HBT.out)
       replace HSY := Lib.hid (HSY.out.keep HBT.out)
       obtain ⟨c0, c1, c2, c3, c4, c5, c6⟩ := HOY.out.cells
       have hlc := HOY.out.lt
       obtain ⟨v0, v1, v2, v3, v4, v5, v6⟩ := HOG.out.cells
       have hlv := HOG.out.lt
       obtain ⟨d0, d1⟩ := HOGF.out.cells
       have hl2 := HOGF.out.lt
       have T10 := Lib.hid (TS.out yg y w15 (hyg.keep HBT.out) HSY.out)
       rw [show exSame yg y = true by rw [← same_strip, ← same_stripR, hstg, HST2.out]; exact HSE.out] at T10
       clear hyg hstg hb14 T9
       go_wp2_with (first | rw [HWS.out] | rw [HWT0.out] | rw [HWT.out])
       refine (T10.out).mono ?_
       rintro e w16 ⟨rfl, hb16⟩
       have HB16 := Lib.hid (below_step HB15.out hb16)
       clear hb16 T10
       go_wp2_with fail
       go_meet
       exact HB16.out
     case rest =>
      have hb14 := hcut
      have HB14 := Lib.hid (below_step HB13.out hb14)
      replace HOY := Lib.hid (HOY.out.keep hb14)
      replace HSY := Lib.hid (HSY.out.keep hb14)
      obtain ⟨c0, c1, c2, c3, c4, c5, c6⟩ := HOY.out.cells
      have hlc := HOY.out.lt
      have T9 := Lib.hid (TQ.out y wc HSY.out HB14.out)
      rw [HKY.out, if_pos rfl, errV_zero] at T9
      have HLT := Lib.hid (show (exText y).length ≤ maxLen from by
       obtain ⟨c1, c2, c3⟩ := checkErr_ok HKY.out
       have h1 := (size_ok 30 (Nat.le_refl _) y c2 c3).1
       have h2 := exText_len y c3 HFY.out
       unfold maxLen
       omega)
      clear hb14 hcut hb2 HB2' s1 s2
      go_wp2_with fail
      refine (T9.out).mono ?_
      rintro e w17 ⟨rfl, hb17⟩
      have HB17 := Lib.hid (below_step HB14.out hb17)
      replace HOY := Lib.hid (HOY.out.keep hb17)
      replace HSY := Lib.hid (HSY.out.keep hb17)
      clear c0 c1 c2 c3 c4 c5 c6 hlc
      clear hb17 T9
      go_wp2_with fail
      by_cases hl : (exText y).length ≤ 400
      ·obtain ⟨e6, he6, hse⟩ := parse_text HKY.out HFY.out hl
       have T11 := Lib.hid (TPA.out (txB (exText y)) HLT.out (.ok e6) he6 w17 HB17.out)
       rw [show resX (.ok e6) = e6 from rfl, show resH (.ok e6) = 0 from rfl, show resP (.ok e6) = 0 from rfl] at T11
       have g1 : decide (400 < ((txB (exText y)).size : Int)) = false := decide_eq_false (by show ¬ (400 : Int) < ((exText y).length : Int); omega)
       have HSE := Lib.hid hse
       clear hl he6 hse
       generalize txB (exText y) = tx at T11 g1 ⊢
       refine (T11.out).mono ?_
       rintro e w18 ⟨yg, rfl, hyg, hstg, hb18⟩
       have HB18 := Lib.hid (below_step HB17.out hb18)
       obtain ⟨rh, hrh⟩ : ∃ rh : Int, rh = 0 := ⟨0, rfl⟩
       obtain ⟨rp, hrp⟩ : ∃ rp : Int, rp = 0 := ⟨0, rfl⟩
       rw [show (Value.agg #[Value.int .i64 0, Value.int .i64 0]) = .agg #[.int .i64 rh, .int .i64 rp] by rw [hrh, hrp]]
       have q0 : (rh != 0) = false := by rw [hrh]; rfl
       have q1 : (rh == 0) = true := by rw [hrh]; rfl
       clear hrh hrp
       replace HOY := Lib.hid (HOY.out.keep hb18)
       replace HSY := Lib.hid (HSY.out.keep hb18)
       obtain ⟨ws, wt0, w19, hws, hwt0, hwt, hz0, hoy, hof, hbt⟩ := pair_box w18 yg rh rp
       obtain ⟨z0, z1⟩ := hz0.cells
       obtain ⟨zf0, zf1⟩ := hz0.frees
       have zl := hz0.lt
       have HB19 := Lib.hid (below_step HB18.out hbt)
       have HOG := Lib.hid hoy
       have HOGF := Lib.hid hof
       have HBT := Lib.hid hbt
       have HWS := Lib.hid hws
       have HWT0 := Lib.hid hwt0
       have HWT := Lib.hid hwt
       clear hws hwt0 hwt hz0 hoy hof hbt
       unfold exV
       replace HOY := Lib.hid (HOY.out.keep HBT.out)
       replace HSY := Lib.hid (HSY.out.keep HBT.out)
       obtain ⟨c0, c1, c2, c3, c4, c5, c6⟩ := HOY.out.cells
       have hlc := HOY.out.lt
       obtain ⟨v0, v1, v2, v3, v4, v5, v6⟩ := HOG.out.cells
       have hlv := HOG.out.lt
       obtain ⟨d0, d1⟩ := HOGF.out.cells
       have hl2 := HOGF.out.lt
       have T12 := Lib.hid (TS.out yg y w19 (hyg.keep HBT.out) HSY.out)
       rw [show exSame yg y = true by rw [← same_strip, hstg]; exact HSE.out] at T12
       clear hyg hstg hb18 T11
       go_wp2_with (first | rw [HWS.out] | rw [HWT0.out] | rw [HWT.out])
       refine (T12.out).mono ?_
       rintro e w20 ⟨rfl, hb20⟩
       have HB20 := Lib.hid (below_step HB19.out hb20)
       clear hb20 T12
       go_wp2_with fail
       go_ret
       exact ⟨rfl, below_step HB1.out HB20.out⟩
      ·obtain ⟨R6, hR6⟩ := parse_all (txB (exText y)).data.toList
       have T11 := Lib.hid (TPA.out (txB (exText y)) HLT.out R6 hR6 w17 HB17.out)
       have g1 : decide (400 < ((txB (exText y)).size : Int)) = true := decide_eq_true (by show (400 : Int) < ((exText y).length : Int); omega)
       clear hl hR6
       generalize resX R6 = xx at T11
       generalize resH R6 = hh at T11
       generalize resP R6 = qq at T11
       generalize txB (exText y) = tx at T11 g1 ⊢
       refine (T11.out).mono ?_
       rintro e w18 ⟨yg, rfl, hyg, hstg, hb18⟩
       have HB18 := Lib.hid (below_step HB17.out hb18)
       obtain ⟨ws, wt0, w19, hws, hwt0, hwt, hz0, hoy, hof, hbt⟩ := pair_box w18 yg hh qq
       obtain ⟨z0, z1⟩ := hz0.cells
       obtain ⟨zf0, zf1⟩ := hz0.frees
       have zl := hz0.lt
       have HB19 := Lib.hid (below_step HB18.out hbt)
       have HOG := Lib.hid hoy
       have HOGF := Lib.hid hof
       have HBT := Lib.hid hbt
       have HWS := Lib.hid hws
       have HWT0 := Lib.hid hwt0
       have HWT := Lib.hid hwt
       clear hws hwt0 hwt hz0 hoy hof hbt
       unfold exV
       obtain ⟨d0, d1⟩ := HOGF.out.cells
       have hl2 := HOGF.out.lt
       clear hyg hstg hb18 T11
       go_wp2_with (first | rw [HWS.out] | rw [HWT0.out] | rw [HWT.out])
       go_ret
       exact ⟨rfl, below_step HB1.out HB19.out⟩
noncomputable def theWorld (os : Os) : World := (World.doorLaid Tryz.prog 4000 os).layVars Tryz.prog (Rows.treeBackRow.laid.filter fun x => x.2.handleName?.isNone)
set_option maxRecDepth 100000 in
theorem contract (H : Type) (enc : TypeId × Value → H) (W : World) (base : Nat) (args : Array Value) (ds gs : List (DataW H)) (before : List MemPlace)
  (hval : ∀ (j : Nat) t v, Tryz.f5.params[j]? = some t → args[j]? = some v → Value.okWide Tryz.prog W .any base t v)
  (hW : DataW.Whole enc Tryz.prog Tryz.f5.params.toList Rows.treeBackSpec.vars false W args.toList ds gs before)
  (hsz : (DataW.weightsEach Tryz.prog (Tryz.f5.params.toList ++ (OpenSpec.ofChange Rows.treeBackSpec).bare.plain.varTypes Tryz.prog) (ds ++ gs)).all (· ≤ reachBytes) = true) (hL : laidMetH Tryz.prog Rows.treeBackRow.laid W) (hsh : W.ShapedOpen Tryz.prog) :
  Calls Tryz.prog 5 args W fun e W' => ∃ v, e = .returned v ∧ Rows.treeBackSpec.post enc Tryz.prog Tryz.f5 false true false false W args v W' := by
 have hW' := hW
 obtain ⟨p, q, hA0, hV, rfl, hfz, hnd⟩ := hW
 have hA : DataW.TrodAll enc Tryz.prog W 0 (fun _ => true) true Tryz.f5.params.toList args.toList ds p := hA0
 rw [Tryz.params5] at hA hval
 obtain ⟨v0, vs0, d0, ds0, p0, q0, hargs, rfl, rfl, h0, r0⟩ := trodAll_cons hA
 obtain ⟨v1, vs1, d1, ds1, p1, q1, rfl, rfl, rfl, h1, r1⟩ := trodAll_cons r0
 obtain ⟨rfl, rfl, rfl⟩ := trodAll_nil r1
 obtain rfl : args = #[v0, v1] := by cases args; simp_all
 obtain ⟨rfl, rfl⟩ := trodVars_none hV
 obtain ⟨a0, rfl, rfl, rfl, w0⟩ := Go.ChangeMaps.open_string Tryz.underlying9 (hval 0 9 v0 rfl rfl) h0
 have hv1 := hval 1 26 v1 rfl rfl
 obtain ⟨e1, rfl, he1⟩ := open_ex hv1 h1
 have hL0 : laidMet Tryz.prog [("math/bits.deBruijn32tab", Rows.laid_math_bits_deBruijn32tab), ("math/bits.deBruijn64tab", Rows.laid_math_bits_deBruijn64tab), ("internal/strconv.uint64pow10", Rows.laid_internal_strconv_uint64pow10), ("unicode/utf8.acceptRanges", Rows.laid_unicode_utf8_acceptRanges), ("strconv.ErrRange", Rows.laid_strconv_ErrRange), ("strconv.ErrSyntax", Rows.laid_strconv_ErrSyntax), ("sluicebook/lex.signs", Rows.laid_sluicebook_lex_signs), ("sluicebook/tree.words", Rows.laid_sluicebook_tree_words), ("sluicebook/tree.levels", Rows.laid_sluicebook_tree_levels), ("unicode/utf8.first", Rows.laid_unicode_utf8_first)] W := hL
 refine (walk a0 e1 W w0 he1 ⟨(levelsT_of hL0 (.tail _ (.tail _ (.tail _ (.tail _ (.tail _ (.tail _ (.tail _ (.tail _ (.head _)))))))))), (wordsT_of hL0 (.tail _ (.tail _ (.tail _ (.tail _ (.tail _ (.tail _ (.tail _ (.head _))))))))), (textT_of hL0 (.tail _ (.tail _ (.head _))) hsh), (numT_of hL0.tail.tail.tail.tail), (signsT_of hL0 (.tail _ (.tail _ (.tail _ (.tail _ (.tail _ (.tail _ (.head _))))))))⟩).mono fun e W' ⟨he, hb⟩ => ?_
 subst he
 exact ⟨_, rfl, law_post laidOut Tryz.underlying4 (by kernel_rfl) rfl (by rw [Tryz.params5]; intro t ht; simp only [List.mem_cons, List.not_mem_nil, or_false] at ht; rcases ht with rfl | rfl; all_goals exact ⟨by kernel_rfl, of_decide_eq_true (by kernel_rfl)⟩) hW' rfl hb⟩
theorem reads (os : Os) {H : Type} (enc : TypeId × Value → H) : ∃ places, DataW.whole enc Tryz.prog ((theWorld os).forCall (fun _ _ => 0) ⟨#[], #[.string .empty, .agg #[.string .empty, .string .empty, .int .i64 0, .int .i64 0, .string .empty, .slice none 0 0, .int .i64 0]], []⟩).memory Tryz.f5.params.toList Rows.treeBackSpec.vars false (#[.string .empty, .agg #[.string .empty, .string .empty, .int .i64 0, .int .i64 0, .string .empty, .slice none 0 0, .int .i64 0]] : Array Value).toList 8 = some ([.lit (.string []), .agg [.lit (.string []), .lit (.string []), .agg [.lit (.int .i64 0), .lit (.int .i64 0), .lit (.string [])], .nil, .lit (.int .i64 0)]], [], places) :=
 ⟨[], by kernel_rfl⟩
set_option maxRecDepth 100000 in
theorem lifted (os : Os) (started : os.Started) (H : Type) (enc : TypeId × Value → H) (F : Stop.Interp) :
  ReturnsInHanded {} Tryz.checked os 5 .any ((OpenSpec.ofChange Rows.treeBackSpec).preRow enc Tryz.prog Tryz.f5 Rows.treeBackRow.domain false Rows.treeBackRow.laid) (((OpenSpec.ofChange Rows.treeBackSpec).at F).post enc Tryz.prog Tryz.f5 false true false false) := by
 obtain ⟨places, hx⟩ := reads os enc
 refine returnsInHanded_of_row (C := Tryz.checked) (s := OpenSpec.ofChange Rows.treeBackSpec) own started (by kernel_rfl) Tryz.func5
  (witness_row_atRef (enc := enc) (C := Tryz.checked) false (theWorld os) #[.string .empty, .agg #[.string .empty, .string .empty, .int .i64 0, .int .i64 0, .string .empty, .slice none 0 0, .int .i64 0]] (World.layVars_os _ _ _) (by kernel_rfl) (by kernel_rfl) (by kernel_rfl)
   (OpenSpec.preRow_of_cond 8 hx (by kernel_rfl) (fun k hk => by cases hk) (by kernel_rfl) (laidMetH_of_parts (laidMet_over (w0 := World.doorLaid Tryz.prog 4000 os) rfl (by kernel_rfl) (by kernel_rfl)) (by kernel_rfl)))) ?_
 intro W base args ds gs before hval hW _ _ hsz hL hsh _
 exact contract H enc W base args ds gs before hval hW hsz hL hsh
theorem said : Rows.TreeBackSaid :=
 OpenClaim.holds_of_cond 5 Tryz.f5 rfl rfl rfl rfl rfl rfl rfl ⟨rfl, rfl, rfl, rfl, rfl⟩ rfl rfl rfl rfl rfl (by kernel_rfl) Tryz.func5 (by kernel_rfl)
  (of_decide_eq_true (by kernel_rfl)) (by unfold Func.isWrapper; first | (rw [if_pos (by decide +kernel)]; kernel_rfl) | (rw [if_neg (by decide +kernel)]; exact ⟨rfl, rfl⟩))
  (fun os started H enc _ F => by rw [OpenClaim.pre_eq_preRow]; exact lifted os started H enc F)
theorem plain (f : FuncId) (fn : Func) (hf : Tryz.pinned.checked.prog.funcNamed "sluicebook/sluicelaw1.TreeBack" = some f) (hfn : Tryz.pinned.checked.prog.funcs[f]? = some fn) :
  true = Tryz.pinned.checked.prog.looks [] ∧ ∀ (j : Nat) t, fn.params[j]? = some t → Tryz.pinned.checked.prog.wantsStandIn t = false := by
 obtain rfl : f = 5 := Option.some.inj ((show Tryz.prog.funcNamed "sluicebook/sluicelaw1.TreeBack" = some 5 by kernel_rfl).symm.trans hf) |>.symm
 obtain rfl : fn = Tryz.f5 := (Option.some.inj (Tryz.func5.symm.trans hfn)).symm
 refine ⟨by kernel_rfl, fun j t ht => ?_⟩
 rw [Tryz.params5] at ht
 have hm := Array.mem_of_getElem? ht
 simp only [List.mem_toArray, List.mem_cons, List.not_mem_nil, or_false] at hm
 rcases hm with rfl | rfl
 ·exact (show Tryz.prog.wantsStandIn 9 = false by kernel_rfl)
 ·exact (show Tryz.prog.wantsStandIn 26 = false by kernel_rfl)
theorem card : Rows.TreeBackCardSaid :=
 Claim7.holds_tied_plain_at .later [] _ _ _ _ said (fun _ h => by cases h) (by kernel_rfl) (fun _ h => by cases h) treeBack_row_tie rfl ⟨rfl, rfl⟩ (by kernel_rfl) rfl plain (by kernel_rfl)
#print axioms card
end Go.Proofs.YtjoeeilncekgpaaGreatDoor.treeBack
