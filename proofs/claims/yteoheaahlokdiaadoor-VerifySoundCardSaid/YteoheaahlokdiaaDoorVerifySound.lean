/- VerifySound: what is sound runs: whatever the row, it ends in no more steps than there are instructions, with a value of its type, or a number goes over. No conditions. -/
import Derived.Test.YteoheaahlokdiaaDoorVmTop
import Derived.Test.YteoheaahlokdiaaDoorOpenVals
import Derived.Test.YteoheaahlokdiaaDoorTold
import Derived.Test.YteoheaahlokdiaaDoorFrame
import Derived.Test.YteoheaahlokdiaaDoorLaidErr
import Derived.Test.YteoheaahlokdiaaDoorOpenCols
import Derived.Deep.DeepWitnessRowRef
import Derived.Deep.DeepHandedRow
import Derived.Test.YteoheaahlokdiaaDoorCards
import Derived.Test.YteoheaahlokdiaaDoorTie
import Derived.LaidLaws
import Derived.LaidMore
import Derived.LaidHandle
import Derived.Stop.Joined
import Derived.SevenTiedAt
namespace Go.Proofs.YteoheaahlokdiaaDoor.verifySound
open Go.ChangeShapes Go.WideShapes Go.ChangeAt Go.RowKit

theorem errIs (k : Int) : ErrIs (errV k) k := by
  by_cases h : k = 0
  · exact Or.inl ⟨by rw [h]; rfl, h⟩
  · exact Or.inr ⟨errV_ne h, h⟩
set_option maxHeartbeats 16000000 in
set_option maxRecDepth 100000 in
theorem walk (A0 : Option Addr) (n c : Nat) (code : List Ins) (K : Option Addr) (nk ck : Nat) (cols : List Col) (AR : Option Addr) (nr cr : Nat) (row : List Val) (W : World) (hG : ErrT W) (hO : OpsT W) (hT : LevelsT W) (hC : SeesCode W A0 n c code) (hK : SeesCols W K nk ck cols) (hs : ∀ x ∈ cols, x.name.size ≤ maxLen) (hwf : ∀ x ∈ code, x.wf) (hR : SeesVals W AR nr cr row) (hwr : ∀ v ∈ row, v.wf) :
    Calls Tryd.prog 5 #[.slice A0 n c, .slice K nk ck, .slice AR nr cr] W fun e W' => e = .returned (.bool true) ∧ Below W.heap.size W W' := by
  have HC := Lib.hid hC
  have HK := Lib.hid hK
  have HS := Lib.hid hs
  have HG := Lib.hid hG
  have HO := Lib.hid hO
  have HT := Lib.hid hT
  have HR := Lib.hid hR
  have HWR := Lib.hid hwr
  have HWF := Lib.hid hwf
  have HWV := Lib.hid (show ∀ x ∈ code, x.val.wf from fun x hx => (hwf x hx).2.2)
  have TV := Lib.hid (fun w' hb => vetype_any A0 n c code K nk ck cols w' (hC.keep (w' := w') hb) (hK.keep hb) hs (hO.keep hb) (hT.keep hb))
  have TR := Lib.hid (fun fuel w' hb => vmrun_any A0 n c code K nk ck cols AR nr cr row w' (hC.keep (w' := w') hb) (hK.keep hb) hs (hR.keep hb) (hO.keep hb) (hT.keep hb) fuel HWV.out hwr)
  have TT := Lib.hid (fun w' hb => vmtrace_any A0 n c code K nk ck cols AR nr cr row w' (hC.keep (w' := w') hb) (hK.keep hb) hs (hR.keep hb) (hO.keep hb) (hT.keep hb) HWV.out hwr)
  have TC := Lib.hid (fun w' hb => rowCheck_any cols row K AR nk ck nr cr w' (hK.keep (w' := w') hb) hs (hR.keep hb))
  have TE := Lib.hid (fun k e w' hb => same_err (errV k) k e w' (hG.keep (w' := w') hb) (errIs k))
  have hl := hC.1
  have HLL := Lib.hid hl
  have hcc := hC.2.2.1
  have hcm := hC.2.2.2.1
  unfold maxLen at hcm
  obtain ⟨w0, hw0⟩ : ∃ w0, W.alloc (.cells #[.string ⟨#[120]⟩, .int .i64 1] 51) = w0 := ⟨_, rfl⟩
  have HB0 := Lib.hid (show Below W.heap.size W w0 by rw [← hw0]; exact (Below.refl _ _).alloc (Nat.le_refl _) _)
  have HK0 := Lib.hid (show SeesCols w0 (some ⟨W.heap.size, 0, none⟩) 1 1 oneCol by rw [← hw0]; exact ⟨rfl, seesNew W (colsCells oneCol) _ 1 2 rfl (by decide)⟩)
  have HW0 := Lib.hid hw0
  obtain ⟨w1, hw1⟩ : ∃ w1, w0.alloc (.cells #[.int .i64 2, .int .i64 0, .int .i64 0, .int .i64 0, .string ⟨#[]⟩, .int .i64 6, .int .i64 0, .int .i64 0, .int .i64 0, .string ⟨#[]⟩, .int .i64 7, .int .i64 0, .int .i64 0, .int .i64 0, .string ⟨#[]⟩] 55) = w1 := ⟨_, rfl⟩
  have hb1 : Below w0.heap.size w0 w1 := by rw [← hw1]; exact belowNew _ _
  have HC1 := Lib.hid (show SeesCode w1 (some ⟨w0.heap.size, 0, none⟩) 3 3 threeCode by rw [← hw1]; exact ⟨rfl, seesNew w0 (codeCells threeCode) _ 3 5 rfl (by decide)⟩)
  have HB1 := Lib.hid (below_step HB0.out hb1)
  have HK1 := Lib.hid (HK0.out.keep hb1)
  have T0 := Lib.hid (vetype_any (some ⟨w0.heap.size, 0, none⟩) 3 3 threeCode (some ⟨W.heap.size, 0, none⟩) 1 1 oneCol w1 HC1.out HK1.out (by intro x hx; rw [List.mem_singleton.1 hx]; decide) (HO.out.keep HB1.out) (HT.out.keep HB1.out))
  rw [ver_three] at T0
  have HW1 := Lib.hid hw1
  clear hC hK hs hG hO hT hR hwr hwf hw0 hl hw1 hb1
  go_enter Tryd.func5, Tryd.ntmps5
  go_wp2_with (first | rw [HW0.out] | rw [HW1.out])
  refine (T0.out).mono ?_
  rintro e w2 ⟨rfl, hb⟩
  rw [errV_zero]
  have HB2 := Lib.hid (below_step HB1.out hb)
  clear hb
  go_wp2_with fail
  refine (TV.out w2 HB2.out).mono ?_
  rintro e w3 ⟨rfl, hb⟩
  have HB3 := Lib.hid (below_step HB2.out hb)
  clear hb
  go_wp2_with fail
  refine (TR.out 1000000 w3 HB3.out).mono ?_
  rintro e w4 ⟨rfl, hb⟩
  have HB4 := Lib.hid (below_step HB3.out hb)
  clear hb
  have RB := Lib.hid (fun h => vmRun_bad (code := code) (cols := cols) (row := row) (fuel := 1000000) h)
  have RV := Lib.hid (show readyErr code cols row = if (verP code cols).err ≠ 0 then (verP code cols).err else rowErr cols row from rfl)
  have HMU := Lib.hid (fun h hd => show vmRun code cols row 1000000 = ((runV code row none 0 [] []).err, (runV code row none 0 [] []).done.length, (runV code row none 0 [] []).val) from vm_much (F := 1000000) (code := code) (cols := cols) (row := row) h HWF.out HWR.out hd (by decide))
  have HFU := Lib.hid (fun h => vm_full (code := code) (cols := cols) (row := row) h HWF.out HWR.out)
  obtain ⟨ve, hve⟩ : ∃ ve, ve = (verP code cols).err := ⟨_, rfl⟩
  obtain ⟨vt, hvt⟩ : ∃ vt, vt = (verP code cols).ty := ⟨_, rfl⟩
  obtain ⟨re, hre⟩ : ∃ re, re = rowErr cols row := ⟨_, rfl⟩
  rw [← hve, ← hre] at RV
  rw [← hvt] at HFU
  rw [← hve, ← hvt]
  rw [← hre] at TC
  clear hve hvt hre
  by_cases h0 : ve = 0
  · rw [h0, if_neg (by decide)] at RV
    rw [h0, errV_zero]
    clear h0
    by_cases h1 : re = 0
    · rw [h1] at RV
      have HF := Lib.hid (HFU.out RV.out)
      have E := Lib.hid (HMU.out RV.out (by have := HF.out.1; have := HF.out.2.1; omega))
      rw [h1, errV_zero] at TC
      have hdl := HF.out.1
      rw [HLL.out] at hdl
      have HF2 := Lib.hid HF.out.2.2.2
      rw [E.out]
      obtain ⟨r, hr⟩ : ∃ r, r = runV code row none 0 [] [] := ⟨_, rfl⟩
      rw [← hr] at HF2 hdl
      rw [← hr]
      have d1 : decide ((n : Int) < (r.done.length : Int)) = false := decide_eq_false (by omega)
      have d1' : decide (n < r.done.length) = false := decide_eq_false (by omega)
      clear h1 hr HF E RB HMU HFU
      unfold valV
      obtain ⟨w5, hw5⟩ : ∃ w5, w4.alloc (.cells #[.int .i64 r.val.type, .int .i64 r.val.n, .string r.val.s] 53) = w5 := ⟨_, rfl⟩
      have hb5 : Below w4.heap.size w4 w5 := by rw [← hw5]; exact belowNew _ _
      have hv5 := heap_alloc_new w4 (.cells #[.int .i64 r.val.type, .int .i64 r.val.n, .string r.val.s] 53)
      rw [hw5] at hv5
      have HB5 := Lib.hid (below_step HB4.out hb5)
      have HV5 := Lib.hid hv5
      have HW5 := Lib.hid hw5
      clear hb5 hv5 hw5
      rcases HF2.out with ⟨q1, q2, q3, q4⟩ | ⟨q1, q2⟩
      · have Q2 := Lib.hid q2.2
        have e3 : (r.val.type == vt) = true := beq_iff_eq.2 q3
        have d4 : decide (0 < r.done.length) = true := decide_eq_true q4
        have d4' : decide (0 < (r.done.length : Int)) = true := decide_eq_true (by omega)
        rw [q1, errV_zero]
        clear q1 q2 q3 q4 HF2
        go_wp2_with (first | rw [HW5.out])
        refine (TC.out w5 HB5.out).mono ?_
        rintro e w6 ⟨rfl, hb⟩
        have HB6 := Lib.hid (below_step HB5.out hb)
        obtain ⟨v0, v1, v2⟩ := box3 ((hb.block w4.heap.size (Array.getElem?_eq_some_iff.1 HV5.out).1).trans HV5.out)
        clear hb
        go_wp2_with fail
        refine (vcheck_any r.val w6).mono ?_
        rintro e w7 ⟨rfl, hb⟩
        rw [Q2.out, errV_zero]
        have HB7 := Lib.hid (below_step HB6.out hb)
        clear hb
        go_wp2_with fail
        go_ret
        exact ⟨rfl, HB7.out⟩
      · rw [q1]
        have e9 : ((9 : Int) == 9) = true := rfl
        clear q1 q2 HF2
        rw [show errV ((9 : Int), r.done.length, r.val).1 = errV 9 from rfl, errV_ne (show ¬ (9 : Int) = 0 by decide)]
        go_wp2_with (first | rw [HW5.out])
        refine (TC.out w5 HB5.out).mono ?_
        rintro e w6 ⟨rfl, hb⟩
        have HB6 := Lib.hid (below_step HB5.out hb)
        clear hb
        go_wp2_with fail
        refine (TE.out 9 9 w6 HB6.out).mono ?_
        rintro e w7 ⟨rfl, hb⟩
        have HB7 := Lib.hid (below_step HB6.out hb)
        clear hb
        go_wp2_with fail
        go_ret
        exact ⟨rfl, HB7.out⟩
    · have E := Lib.hid (RB.out (by rw [RV.out]; exact h1))
      rw [E.out, RV.out]
      rw [errV_ne h1] at TC
      rw [errV_ne h1]
      clear h1 E RB RV HMU HFU
      unfold valV
      obtain ⟨w5, hw5⟩ : ∃ w5, w4.alloc (.cells #[.int .i64 0, .int .i64 0, .string ⟨#[]⟩] 53) = w5 := ⟨_, rfl⟩
      have HB5 := Lib.hid (show Below W.heap.size W w5 by rw [← hw5]; exact below_step HB4.out (belowNew _ _))
      have hz5 : Own3 w5 w4.heap.size noVal := by rw [← hw5]; exact own3_new w4 noVal
      have HSELF := Lib.hid (zero3_self hz5)
      obtain ⟨o0, o1, o2, z0, z1, z2, hlt⟩ := hz5.cells
      have HW5 := Lib.hid hw5
      clear hw5 hz5
      unfold noVal
      go_wp2_with (first | rw [HW5.out] | rw [HSELF.out])
      refine (TC.out w5 HB5.out).mono ?_
      rintro e w6 ⟨rfl, hb⟩
      have HB6 := Lib.hid (below_step HB5.out hb)
      clear hb
      go_wp2_with fail
      go_ret
      exact ⟨rfl, HB6.out⟩
  · rw [if_pos h0] at RV
    have E := Lib.hid (RB.out (by rw [RV.out]; exact h0))
    rw [E.out, RV.out]
    rw [errV_ne h0]
    clear h0 E RB RV HMU HFU
    unfold valV
    obtain ⟨w5, hw5⟩ : ∃ w5, w4.alloc (.cells #[.int .i64 0, .int .i64 0, .string ⟨#[]⟩] 53) = w5 := ⟨_, rfl⟩
    have HB5 := Lib.hid (show Below W.heap.size W w5 by rw [← hw5]; exact below_step HB4.out (belowNew _ _))
    have hz5 : Own3 w5 w4.heap.size noVal := by rw [← hw5]; exact own3_new w4 noVal
    have HSELF := Lib.hid (zero3_self hz5)
    obtain ⟨o0, o1, o2, z0, z1, z2, hlt⟩ := hz5.cells
    have HW5 := Lib.hid hw5
    clear hw5 hz5
    unfold noVal
    go_wp2_with (first | rw [HW5.out] | rw [HSELF.out])
    go_ret
    exact ⟨rfl, HB5.out⟩

set_option maxRecDepth 100000 in
theorem contract (H : Type) (enc : TypeId × Value → H) (W : World) (base : Nat) (args : Array Value) (ds gs : List (DataW H)) (before : List MemPlace)
    (hval : ∀ (j : Nat) t v, Tryd.f5.params[j]? = some t → args[j]? = some v → Value.okWide Tryd.prog W .any base t v)
    (hW : DataW.Whole enc Tryd.prog Tryd.f5.params.toList Rows.verifySoundSpec.vars false W args.toList ds gs before)
    (hsz : (DataW.weightsEach Tryd.prog (Tryd.f5.params.toList ++ (OpenSpec.ofChange Rows.verifySoundSpec).bare.plain.varTypes Tryd.prog) (ds ++ gs)).all (· ≤ reachBytes) = true) (hL : laidMetH Tryd.prog Rows.verifySoundRow.laid W) :
    Calls Tryd.prog 5 args W fun e W' => ∃ v, e = .returned v ∧ Rows.verifySoundSpec.post enc Tryd.prog Tryd.f5 false true false false W args v W' := by
  have hW' := hW
  obtain ⟨p, q, hA0, hV, rfl, hfz, hnd⟩ := hW
  have hA : DataW.TrodAll enc Tryd.prog W 0 (fun _ => true) true Tryd.f5.params.toList args.toList ds p := hA0
  rw [Tryd.params5] at hA hval
  obtain ⟨v0, vs0, d0, ds0, p0, q0, hargs, rfl, rfl, h0, r0⟩ := trodAll_cons hA
  obtain ⟨v1, vs1, d1, ds1, p1, q1, rfl, rfl, rfl, h1, r1⟩ := trodAll_cons r0
  obtain ⟨v2, vs2, d2, ds2, p2, q2, rfl, rfl, rfl, h2, r2⟩ := trodAll_cons r1
  obtain ⟨rfl, rfl, rfl⟩ := trodAll_nil r2
  obtain rfl : args = #[v0, v1, v2] := by cases args; simp_all
  obtain ⟨rfl, rfl⟩ := trodVars_none hV
  have hv0 := hval 0 22 v0 rfl rfl
  have hv1 := hval 1 23 v1 rfl rfl
  have hv2 := hval 2 38 v2 rfl rfl
  obtain ⟨A0, n, c, l, rfl, hC, hwf⟩ := open_code (okWide_slice Tryd.underlying22 hv0) h0
  obtain ⟨K, nk, ck, cols, rfl, hK, hcs⟩ := open_cols (okWide_slice Tryd.underlying23 hv1) h1
  obtain ⟨AR, nr, cr, row, rfl, hR, hwr⟩ := open_vals (okWide_slice Tryd.underlying38 hv2) h2
  have hL0 : laidMet Tryd.prog [("sluicebook/tree.levels", Rows.laid_sluicebook_tree_levels), ("sluicebook/kind.ops", Rows.laid_sluicebook_kind_ops)] W ∧ handlesMet Tryd.prog [("errors.errorType", Rows.laid_errors_errorType)] W := hL
  refine (walk A0 n c l K nk ck cols AR nr cr row W (errT_of_laid (show laidMetH Tryd.prog [("errors.errorType", Rows.laid_errors_errorType)] W from ⟨laidMet_nil _ _, hL0.2⟩)) (opsT_of hL0.1 (.tail _ (.head _))) (levelsT_of hL0.1 (.head _)) hC hK (fun x hx => (hcs x hx).1) hwf hR hwr).mono fun e W' ⟨he, hb⟩ => ?_
  subst he
  exact ⟨_, rfl, law_post laidOut Tryd.underlying4 (by kernel_rfl) rfl (by rw [Tryd.params5]; intro t ht; simp only [List.mem_cons, List.not_mem_nil, or_false] at ht; rcases ht with rfl | rfl | rfl; all_goals exact ⟨by kernel_rfl, of_decide_eq_true (by kernel_rfl)⟩) hW' rfl hb⟩

theorem reads (os : Os) {H : Type} (enc : TypeId × Value → H) : ∃ places, DataW.whole enc Tryd.prog ((World.doorLaid Tryd.prog 4000 os).forCall (fun _ _ => 0) ⟨#[], #[.slice none 0 0, .slice none 0 0, .slice none 0 0], []⟩).memory Tryd.f5.params.toList Rows.verifySoundSpec.vars false (#[.slice none 0 0, .slice none 0 0, .slice none 0 0] : Array Value).toList 8 = some ([.nil, .nil, .nil], [], places) :=
  ⟨[], by kernel_rfl⟩

set_option maxRecDepth 100000 in
theorem lifted (os : Os) (started : os.Started) (H : Type) (enc : TypeId × Value → H) (F : Stop.Interp) :
    ReturnsInHanded {} Tryd.checked os 5 .any ((OpenSpec.ofChange Rows.verifySoundSpec).preRow enc Tryd.prog Tryd.f5 Rows.verifySoundRow.domain false Rows.verifySoundRow.laid) (((OpenSpec.ofChange Rows.verifySoundSpec).at F).post enc Tryd.prog Tryd.f5 false true false false) := by
  obtain ⟨places, hx⟩ := reads os enc
  refine returnsInHanded_of_row (C := Tryd.checked) (s := OpenSpec.ofChange Rows.verifySoundSpec) own started (by kernel_rfl) Tryd.func5
    (witness_row_atRef (enc := enc) (C := Tryd.checked) false (World.doorLaid Tryd.prog 4000 os) #[.slice none 0 0, .slice none 0 0, .slice none 0 0] rfl (by kernel_rfl) (by kernel_rfl) (by kernel_rfl)
      (OpenSpec.preRow_of_cond 8 hx (by kernel_rfl) (fun k hk => by cases hk) (by kernel_rfl) (laidMetH_of_parts (laidMet_of_run' 12 (by kernel_rfl) (by kernel_rfl)) (by kernel_rfl)))) ?_
  intro W base args ds gs before hval hW _ _ hsz hL _ _
  exact contract H enc W base args ds gs before hval hW hsz hL

theorem said : Rows.VerifySoundSaid :=
  OpenClaim.holds_of_cond 5 Tryd.f5 rfl rfl rfl rfl rfl rfl rfl ⟨rfl, rfl, rfl, rfl, rfl⟩ rfl rfl rfl rfl rfl (by kernel_rfl) Tryd.func5 (by kernel_rfl)
    (of_decide_eq_true (by kernel_rfl)) (by unfold Func.isWrapper; first | (rw [if_pos (by decide +kernel)]; kernel_rfl) | (rw [if_neg (by decide +kernel)]; exact ⟨rfl, rfl⟩))
    (fun os started H enc _ F => by rw [OpenClaim.pre_eq_preRow]; exact lifted os started H enc F)

theorem plain (f : FuncId) (fn : Func) (hf : Tryd.pinned.checked.prog.funcNamed "sluicebook/sluicelaw2.VerifySound" = some f) (hfn : Tryd.pinned.checked.prog.funcs[f]? = some fn) :
    true = Tryd.pinned.checked.prog.looks [] ∧ ∀ (j : Nat) t, fn.params[j]? = some t → Tryd.pinned.checked.prog.wantsStandIn t = false := by
  obtain rfl : f = 5 := Option.some.inj ((show Tryd.prog.funcNamed "sluicebook/sluicelaw2.VerifySound" = some 5 by kernel_rfl).symm.trans hf) |>.symm
  obtain rfl : fn = Tryd.f5 := (Option.some.inj (Tryd.func5.symm.trans hfn)).symm
  refine ⟨by kernel_rfl, fun j t ht => ?_⟩
  rw [Tryd.params5] at ht
  have hm := Array.mem_of_getElem? ht
  simp only [List.mem_toArray, List.mem_cons, List.not_mem_nil, or_false] at hm
  rcases hm with rfl | rfl | rfl
  · exact (show Tryd.prog.wantsStandIn 22 = false by kernel_rfl)
  · exact (show Tryd.prog.wantsStandIn 23 = false by kernel_rfl)
  · exact (show Tryd.prog.wantsStandIn 38 = false by kernel_rfl)

theorem card : Rows.VerifySoundCardSaid :=
  Claim7.holds_tied_plain_at .later [] _ _ _ _ said (fun _ h => by cases h) (by kernel_rfl) (fun _ h => by cases h) verifySound_row_tie rfl ⟨rfl, rfl⟩ (by kernel_rfl) rfl plain (by kernel_rfl)
#print axioms card
end Go.Proofs.YteoheaahlokdiaaDoor.verifySound
