/- VmFuel: fuel is steps: with as much as was needed it ends likewise, with one less it does not; no instruction is done twice, and none behind one that is further on. No conditions. -/
import Derived.Test.YteoheaahlokdiaaDoorVmTop
import Derived.Test.YteoheaahlokdiaaDoorOpenVals
import Derived.Test.YteoheaahlokdiaaDoorTold
import Derived.Test.YteoheaahlokdiaaDoorFrame
import Derived.Test.YteoheaahlokdiaaDoorLaidErr
import Derived.Test.YteoheaahlokdiaaDoorOpenCols
import Derived.Deep.DeepWitnessRowRef
import Derived.Deep.DeepHandedRow
import Derived.Test.YteoheaahlokdiaaDoorCards
import Derived.Test.YteoheaahlokdiaaDoorTie
import Derived.LaidLaws
import Derived.LaidMore
import Derived.LaidHandle
import Derived.Stop.Joined
import Derived.SevenTiedAt
namespace Go.Proofs.YteoheaahlokdiaaDoor.vmFuel
open Go.ChangeShapes Go.WideShapes Go.ChangeAt Go.RowKit

theorem errIs (k : Int) : ErrIs (errV k) k := by
  by_cases h : k = 0
  · exact Or.inl ⟨by rw [h]; rfl, h⟩
  · exact Or.inr ⟨errV_ne h, h⟩
set_option maxHeartbeats 16000000 in
set_option maxRecDepth 100000 in
theorem walk (A0 : Option Addr) (n c : Nat) (code : List Ins) (K : Option Addr) (nk ck : Nat) (cols : List Col) (AR : Option Addr) (nr cr : Nat) (row : List Val) (W : World) (hG : ErrT W) (hO : OpsT W) (hT : LevelsT W) (hC : SeesCode W A0 n c code) (hK : SeesCols W K nk ck cols) (hs : ∀ x ∈ cols, x.name.size ≤ maxLen) (hwf : ∀ x ∈ code, x.wf) (hR : SeesVals W AR nr cr row) (hwr : ∀ v ∈ row, v.wf) :
    Calls Tryd.prog 6 #[.slice A0 n c, .slice K nk ck, .slice AR nr cr] W fun e W' => e = .returned (.bool true) ∧ Below W.heap.size W W' := by
  have HC := Lib.hid hC
  have HK := Lib.hid hK
  have HS := Lib.hid hs
  have HG := Lib.hid hG
  have HO := Lib.hid hO
  have HT := Lib.hid hT
  have HR := Lib.hid hR
  have HWR := Lib.hid hwr
  have HWF := Lib.hid hwf
  have HWV := Lib.hid (show ∀ x ∈ code, x.val.wf from fun x hx => (hwf x hx).2.2)
  have TV := Lib.hid (fun w' hb => vetype_any A0 n c code K nk ck cols w' (hC.keep (w' := w') hb) (hK.keep hb) hs (hO.keep hb) (hT.keep hb))
  have TR := Lib.hid (fun fuel w' hb => vmrun_any A0 n c code K nk ck cols AR nr cr row w' (hC.keep (w' := w') hb) (hK.keep hb) hs (hR.keep hb) (hO.keep hb) (hT.keep hb) fuel HWV.out hwr)
  have TT := Lib.hid (fun w' hb => vmtrace_any A0 n c code K nk ck cols AR nr cr row w' (hC.keep (w' := w') hb) (hK.keep hb) hs (hR.keep hb) (hO.keep hb) (hT.keep hb) HWV.out hwr)
  have TC := Lib.hid (fun w' hb => rowCheck_any cols row K AR nk ck nr cr w' (hK.keep (w' := w') hb) hs (hR.keep hb))
  have TE := Lib.hid (fun k e w' hb => same_err (errV k) k e w' (hG.keep (w' := w') hb) (errIs k))
  have hl := hC.1
  have HLL := Lib.hid hl
  have hcc := hC.2.2.1
  have hcm := hC.2.2.2.1
  unfold maxLen at hcm
  obtain ⟨w0, hw0⟩ : ∃ w0, W.alloc (.cells #[.string ⟨#[120]⟩, .int .i64 1] 51) = w0 := ⟨_, rfl⟩
  have HB0 := Lib.hid (show Below W.heap.size W w0 by rw [← hw0]; exact (Below.refl _ _).alloc (Nat.le_refl _) _)
  have HK0 := Lib.hid (show SeesCols w0 (some ⟨W.heap.size, 0, none⟩) 1 1 oneCol by rw [← hw0]; exact ⟨rfl, seesNew W (colsCells oneCol) _ 1 2 rfl (by decide)⟩)
  have HW0 := Lib.hid hw0
  obtain ⟨w1, hw1⟩ : ∃ w1, w0.alloc (.cells #[.int .i64 2, .int .i64 0, .int .i64 0, .int .i64 0, .string ⟨#[]⟩] 55) = w1 := ⟨_, rfl⟩
  have hb1 : Below w0.heap.size w0 w1 := by rw [← hw1]; exact belowNew _ _
  have hc1 : SeesCode w1 (some ⟨w0.heap.size, 0, none⟩) 1 1 [loadI] := by rw [← hw1]; exact ⟨rfl, seesNew w0 (codeCells [loadI]) _ 1 5 rfl (by decide)⟩
  obtain ⟨w2, hw2⟩ : ∃ w2, w1.alloc (.cells #[.int .i64 1, .int .i64 3, .string ⟨#[]⟩] 53) = w2 := ⟨_, rfl⟩
  have hb2 : Below w1.heap.size w1 w2 := by rw [← hw2]; exact belowNew _ _
  have hr2 : SeesVals w2 (some ⟨w1.heap.size, 0, none⟩) 1 1 rowOne := by rw [← hw2]; exact ⟨rfl, seesNew w1 (valsCells rowOne) _ 1 3 rfl (by decide)⟩
  have HB2 := Lib.hid (below_step (below_step HB0.out hb1) hb2)
  have T0 := Lib.hid (vmrun_any (some ⟨w0.heap.size, 0, none⟩) 1 1 [loadI] (some ⟨W.heap.size, 0, none⟩) 1 1 oneCol (some ⟨w1.heap.size, 0, none⟩) 1 1 rowOne w2 (hc1.keep hb2) (HK0.out.keep (below_step hb1 hb2)) (by intro x hx; rw [List.mem_singleton.1 hx]; decide) hr2 (HO.out.keep HB2.out) (HT.out.keep HB2.out) 5 (by intro x hx; rw [List.mem_singleton.1 hx]; exact ⟨by decide, by decide, by decide⟩) (by intro x hx; rw [List.mem_singleton.1 hx]; exact ⟨by decide, by decide, by decide⟩))
  rw [vm_one] at T0
  have HW1 := Lib.hid hw1
  have HW2 := Lib.hid hw2
  clear hC hK hs hG hO hT hR hwr hwf hw0 hl hw1 hb1 hw2 hb2 hc1 hr2
  unfold valV at TR
  go_enter Tryd.func6, Tryd.ntmps6
  go_wp2_with (first | rw [HW0.out] | rw [HW1.out] | rw [HW2.out])
  refine (T0.out).mono ?_
  rintro e w3 ⟨rfl, hb⟩
  have HB3 := Lib.hid (below_step HB2.out hb)
  clear hb
  unfold valV
  rw [show errV ((0 : Int), (1 : Nat), (⟨1, 3, ⟨#[]⟩⟩ : Val)).1 = errV 0 from rfl, errV_zero]
  obtain ⟨w4, hw4⟩ : ∃ w4, w3.alloc (.cells #[.int .i64 1, .int .i64 3, .string ⟨#[]⟩] 53) = w4 := ⟨_, rfl⟩
  have HB4 := Lib.hid (show Below W.heap.size W w4 by rw [← hw4]; exact below_step HB3.out (belowNew _ _))
  have HW4 := Lib.hid hw4
  clear hw4
  have hz0 : ((1 : Nat) : Int) = 1 := rfl
  go_wp2_with (first | rw [HW4.out])
  refine (TR.out 1000000 w4 HB4.out).mono ?_
  rintro e w5 ⟨rfl, hb⟩
  have HB5 := Lib.hid (below_step HB4.out hb)
  clear hb
  unfold valV
  have VE := Lib.hid (vm_ended (code := code) (cols := cols) (row := row) HWF.out HWR.out)
  by_cases he : (vmRun code cols row 1000000).1 = 0
  · obtain ⟨m, v, done, V1, V2, V3, V4, hdl, hpw, hm⟩ := VE.out he
    rw [V1]
    rw [show errV ((0 : Int), m + 1, v).1 = errV 0 from rfl, errV_zero]
    have HV2 := Lib.hid V2
    have HV3 := Lib.hid V3
    have HV4 := Lib.hid V4
    have HDL := Lib.hid hdl
    have HPW := Lib.hid hpw
    clear he V1 V2 V3 V4 hdl hpw VE
    dsimp only
    obtain ⟨w6, hw6⟩ : ∃ w', w5.alloc (.cells #[.int .i64 v.type, .int .i64 v.n, .string v.s] 53) = w' := ⟨_, rfl⟩
    have hb6 : Below w5.heap.size w5 w6 := by rw [← hw6]; exact belowNew _ _
    have HOV6 := Lib.hid (show Own3 w6 w5.heap.size v by rw [← hw6]; exact own3_new w5 v)
    have HB6 := Lib.hid (below_step HB5.out hb6)
    have HKP6 := Lib.hid hb6
    have HWW6 := Lib.hid hw6
    clear hb6 hw6
    have T2 := Lib.hid (TR.out ((m : Int) + 1) w6 HB6.out)
    unfold RunTopSays at T2
    rw [HV2.out] at T2
    unfold valV at T2
    have ek : ((m + 1 : Nat) : Int) = (m : Int) + 1 := by omega
    rw [ek] at T2
    rw [ek]
    go_wp2_with (first | rw [HWW6.out])
    refine (T2.out).mono ?_
    rintro e w7 ⟨rfl, hb⟩
    rw [show errV ((0 : Int), m + 1, v).1 = errV 0 from rfl, errV_zero]
    have HB7 := Lib.hid (below_step HB6.out hb)
    have HO7 := Lib.hid (HOV6.out.keep hb)
    clear hb
    dsimp only
    obtain ⟨w8, hw8⟩ : ∃ w', w7.alloc (.cells #[.int .i64 v.type, .int .i64 v.n, .string v.s] 53) = w' := ⟨_, rfl⟩
    have hb8 : Below w7.heap.size w7 w8 := by rw [← hw8]; exact belowNew _ _
    have HOV8 := Lib.hid (show Own3 w8 w7.heap.size v by rw [← hw8]; exact own3_new w7 v)
    have HB8 := Lib.hid (below_step HB7.out hb8)
    have HKP8 := Lib.hid hb8
    have HWW8 := Lib.hid hw8
    clear hb8 hw8
    have HO8 := Lib.hid (HO7.out.keep HKP8.out)
    have T3 := Lib.hid (TR.out (m : Int) w8 HB8.out)
    unfold RunTopSays at T3
    rw [HV3.out] at T3
    unfold valV at T3
    go_wp2_with (first | rw [HWW8.out])
    refine (T3.out).mono ?_
    rintro e w9 ⟨rfl, hb⟩
    rw [show errV ((10 : Int), m, noVal).1 = errV 10 from rfl]
    have HB9 := Lib.hid (below_step HB8.out hb)
    have HO9 := Lib.hid (HO8.out.keep hb)
    have HP9 := Lib.hid (HOV8.out.keep hb)
    clear hb
    dsimp only
    obtain ⟨wa, hwa⟩ : ∃ wa, w9.alloc (.cells #[.int .i64 0, .int .i64 0, .string ⟨#[]⟩] 53) = wa := ⟨_, rfl⟩
    have hba : Below w9.heap.size w9 wa := by rw [← hwa]; exact belowNew _ _
    have hza : Own3 wa w9.heap.size noVal := by rw [← hwa]; exact own3_new w9 noVal
    have HSELF := Lib.hid (zero3_self hza)
    obtain ⟨o0, o1, o2, z0, z1, z2, hlt⟩ := hza.cells
    have HBA := Lib.hid (below_step HB9.out hba)
    have HOA := Lib.hid (HO9.out.keep hba)
    have HPA := Lib.hid (HP9.out.keep hba)
    have HWA := Lib.hid hwa
    clear hwa hba hza
    unfold noVal
    go_wp2_with (first | rw [HWA.out] | rw [HSELF.out])
    refine (TE.out 10 10 wa HBA.out).mono ?_
    rintro e wb ⟨rfl, hb⟩
    rw [show ((10 : Int) == 10) = true from rfl]
    have HBB := Lib.hid (below_step HBA.out hb)
    have HOB := Lib.hid (HOA.out.keep hb)
    have HPB := Lib.hid (HPA.out.keep hb)
    clear hb o0 o1 o2 z0 z1 z2 hlt
    have T4 := Lib.hid (TT.out wb HBB.out)
    unfold TraceTopSays at T4
    rw [HV4.out] at T4
    go_wp2_with fail
    refine (T4.out).mono ?_
    rintro e wc ⟨A, mm, c', rfl, hst, hml, hb⟩
    rw [show errV ((0 : Int), done).1 = errV 0 from rfl, errV_zero]
    obtain rfl : mm = m + 1 := hml.symm.trans HDL.out
    have HBC := Lib.hid (below_step HBB.out hb)
    have HOC := Lib.hid (HOB.out.keep hb)
    have HPC := Lib.hid (HPB.out.keep hb)
    have HST := Lib.hid hst
    have hc'1 := hst.2.1
    have hc'2 := hst.2.2.1
    unfold maxLen at hc'2
    clear hb hst hml
    go_wp2_with fail
    go_loopw [23] (fun u wx => ∃ j : Nat, j ≤ m ∧ u = .int .i64 ((j : Int) + 1) ∧ Below wc.heap.size wc wx) (fun u _ => m + 1 - (intOf u).toNat)
    case atStart => exact ⟨0, by omega, rfl, Below.refl _ _⟩
    case round =>
      obtain ⟨j, hj, rfl, hb⟩ := hrel
      have HBR := Lib.hid hb
      clear hb
      by_cases hjm : j < m
      · obtain ⟨g, o, x, rfl, hx, y0⟩ := ints_at (HST.out.keep HBR.out) (show j < m + 1 by omega)
        obtain ⟨g', o', y, eA, hy, y1⟩ := ints_at (HST.out.keep HBR.out) (show j + 1 < m + 1 by omega)
        injection eA with eA
        injection eA with e1 e2
        subst e1 e2
        have hlt : x < y := by
          have h1 : j < done.length := by rw [HDL.out]; omega
          have h2 : j + 1 < done.length := by rw [HDL.out]; omega
          have h3 := List.pairwise_iff_getElem.1 HPW.out j (j + 1) h1 h2 (by omega)
          rw [List.getElem?_map, List.getElem?_eq_getElem h1] at hx
          rw [List.getElem?_map, List.getElem?_eq_getElem h2] at hy
          have hx' : ((done[j] : Nat) : Int) = x := Option.some.inj hx
          have hy' : ((done[j + 1] : Nat) : Int) = y := Option.some.inj hy
          omega
        have d1 : decide (y ≤ x) = false := decide_eq_false (by omega)
        have hwr2 : IntKind.i64.wrap (j : Int) = (j : Int) := IntWalk.i64_in (j : Int) (by omega)
        have hwr1 : IntKind.i64.wrap ((j : Int) + 1 - 1) = (j : Int) := by rw [show (j : Int) + 1 - 1 = (j : Int) by omega]; exact hwr2
        have i1 : j < m + 1 := by omega
        have i2 : (j : Int) < (m : Int) + 1 := by omega
        have i3 : (j : Int) + 1 < (m : Int) + 1 := by omega
        clear hx hy hlt
        go_wp2_with fail
        go_quiet (fail)
        go_wp2_with fail
        go_roundw
        case rel => exact ⟨j + 1, by omega, by go_num, below_drewN HBR.out _⟩
        case measure => simp [intOf]; omega
      · obtain rfl : j = m := by omega
        have HOR := Lib.hid (HOC.out.keep HBR.out)
        have HPR := Lib.hid (HPC.out.keep HBR.out)
        obtain ⟨o0, o1, o2, -, -, -, -⟩ := HOR.out.cells
        obtain ⟨p0, p1, p2, -, -, -, -⟩ := HPR.out.cells
        have s1 : (v.type == v.type) = true := by simp
        have s2 : (v.n == v.n) = true := by simp
        have s3 : (v.s.toList == v.s.toList) = true := by simp
        have s4 : ((j : Int) + 1 == (j : Int) + 1) = true := by simp
        have s5 : ((j : Int) == (j : Int)) = true := by simp
        go_wp2_with fail
        go_ret
        exact ⟨rfl, below_step HBC.out HBR.out⟩
  · rw [errV_ne he]
    clear VE he
    obtain ⟨q, hq⟩ : ∃ q, q = vmRun code cols row 1000000 := ⟨_, rfl⟩
    rw [← hq]
    clear hq
    obtain ⟨w6, hw6⟩ : ∃ w6, w5.alloc (.cells #[.int .i64 q.2.2.type, .int .i64 q.2.2.n, .string q.2.2.s] 53) = w6 := ⟨_, rfl⟩
    have HB6 := Lib.hid (show Below W.heap.size W w6 by rw [← hw6]; exact below_step HB5.out (belowNew _ _))
    have HW6 := Lib.hid hw6
    clear hw6
    go_wp2_with (first | rw [HW6.out])
    go_ret
    exact ⟨rfl, HB6.out⟩

set_option maxRecDepth 100000 in
theorem contract (H : Type) (enc : TypeId × Value → H) (W : World) (base : Nat) (args : Array Value) (ds gs : List (DataW H)) (before : List MemPlace)
    (hval : ∀ (j : Nat) t v, Tryd.f6.params[j]? = some t → args[j]? = some v → Value.okWide Tryd.prog W .any base t v)
    (hW : DataW.Whole enc Tryd.prog Tryd.f6.params.toList Rows.vmFuelSpec.vars false W args.toList ds gs before)
    (hsz : (DataW.weightsEach Tryd.prog (Tryd.f6.params.toList ++ (OpenSpec.ofChange Rows.vmFuelSpec).bare.plain.varTypes Tryd.prog) (ds ++ gs)).all (· ≤ reachBytes) = true) (hL : laidMetH Tryd.prog Rows.vmFuelRow.laid W) :
    Calls Tryd.prog 6 args W fun e W' => ∃ v, e = .returned v ∧ Rows.vmFuelSpec.post enc Tryd.prog Tryd.f6 false true false false W args v W' := by
  have hW' := hW
  obtain ⟨p, q, hA0, hV, rfl, hfz, hnd⟩ := hW
  have hA : DataW.TrodAll enc Tryd.prog W 0 (fun _ => true) true Tryd.f6.params.toList args.toList ds p := hA0
  rw [Tryd.params6] at hA hval
  obtain ⟨v0, vs0, d0, ds0, p0, q0, hargs, rfl, rfl, h0, r0⟩ := trodAll_cons hA
  obtain ⟨v1, vs1, d1, ds1, p1, q1, rfl, rfl, rfl, h1, r1⟩ := trodAll_cons r0
  obtain ⟨v2, vs2, d2, ds2, p2, q2, rfl, rfl, rfl, h2, r2⟩ := trodAll_cons r1
  obtain ⟨rfl, rfl, rfl⟩ := trodAll_nil r2
  obtain rfl : args = #[v0, v1, v2] := by cases args; simp_all
  obtain ⟨rfl, rfl⟩ := trodVars_none hV
  have hv0 := hval 0 22 v0 rfl rfl
  have hv1 := hval 1 23 v1 rfl rfl
  have hv2 := hval 2 38 v2 rfl rfl
  obtain ⟨A0, n, c, l, rfl, hC, hwf⟩ := open_code (okWide_slice Tryd.underlying22 hv0) h0
  obtain ⟨K, nk, ck, cols, rfl, hK, hcs⟩ := open_cols (okWide_slice Tryd.underlying23 hv1) h1
  obtain ⟨AR, nr, cr, row, rfl, hR, hwr⟩ := open_vals (okWide_slice Tryd.underlying38 hv2) h2
  have hL0 : laidMet Tryd.prog [("sluicebook/tree.levels", Rows.laid_sluicebook_tree_levels), ("sluicebook/kind.ops", Rows.laid_sluicebook_kind_ops)] W ∧ handlesMet Tryd.prog [("errors.errorType", Rows.laid_errors_errorType)] W := hL
  refine (walk A0 n c l K nk ck cols AR nr cr row W (errT_of_laid (show laidMetH Tryd.prog [("errors.errorType", Rows.laid_errors_errorType)] W from ⟨laidMet_nil _ _, hL0.2⟩)) (opsT_of hL0.1 (.tail _ (.head _))) (levelsT_of hL0.1 (.head _)) hC hK (fun x hx => (hcs x hx).1) hwf hR hwr).mono fun e W' ⟨he, hb⟩ => ?_
  subst he
  exact ⟨_, rfl, law_post laidOut Tryd.underlying4 (by kernel_rfl) rfl (by rw [Tryd.params6]; intro t ht; simp only [List.mem_cons, List.not_mem_nil, or_false] at ht; rcases ht with rfl | rfl | rfl; all_goals exact ⟨by kernel_rfl, of_decide_eq_true (by kernel_rfl)⟩) hW' rfl hb⟩

theorem reads (os : Os) {H : Type} (enc : TypeId × Value → H) : ∃ places, DataW.whole enc Tryd.prog ((World.doorLaid Tryd.prog 4000 os).forCall (fun _ _ => 0) ⟨#[], #[.slice none 0 0, .slice none 0 0, .slice none 0 0], []⟩).memory Tryd.f6.params.toList Rows.vmFuelSpec.vars false (#[.slice none 0 0, .slice none 0 0, .slice none 0 0] : Array Value).toList 8 = some ([.nil, .nil, .nil], [], places) :=
  ⟨[], by kernel_rfl⟩

set_option maxRecDepth 100000 in
theorem lifted (os : Os) (started : os.Started) (H : Type) (enc : TypeId × Value → H) (F : Stop.Interp) :
    ReturnsInHanded {} Tryd.checked os 6 .any ((OpenSpec.ofChange Rows.vmFuelSpec).preRow enc Tryd.prog Tryd.f6 Rows.vmFuelRow.domain false Rows.vmFuelRow.laid) (((OpenSpec.ofChange Rows.vmFuelSpec).at F).post enc Tryd.prog Tryd.f6 false true false false) := by
  obtain ⟨places, hx⟩ := reads os enc
  refine returnsInHanded_of_row (C := Tryd.checked) (s := OpenSpec.ofChange Rows.vmFuelSpec) own started (by kernel_rfl) Tryd.func6
    (witness_row_atRef (enc := enc) (C := Tryd.checked) false (World.doorLaid Tryd.prog 4000 os) #[.slice none 0 0, .slice none 0 0, .slice none 0 0] rfl (by kernel_rfl) (by kernel_rfl) (by kernel_rfl)
      (OpenSpec.preRow_of_cond 8 hx (by kernel_rfl) (fun k hk => by cases hk) (by kernel_rfl) (laidMetH_of_parts (laidMet_of_run' 12 (by kernel_rfl) (by kernel_rfl)) (by kernel_rfl)))) ?_
  intro W base args ds gs before hval hW _ _ hsz hL _ _
  exact contract H enc W base args ds gs before hval hW hsz hL

theorem said : Rows.VmFuelSaid :=
  OpenClaim.holds_of_cond 6 Tryd.f6 rfl rfl rfl rfl rfl rfl rfl ⟨rfl, rfl, rfl, rfl, rfl⟩ rfl rfl rfl rfl rfl (by kernel_rfl) Tryd.func6 (by kernel_rfl)
    (of_decide_eq_true (by kernel_rfl)) (by unfold Func.isWrapper; first | (rw [if_pos (by decide +kernel)]; kernel_rfl) | (rw [if_neg (by decide +kernel)]; exact ⟨rfl, rfl⟩))
    (fun os started H enc _ F => by rw [OpenClaim.pre_eq_preRow]; exact lifted os started H enc F)

theorem plain (f : FuncId) (fn : Func) (hf : Tryd.pinned.checked.prog.funcNamed "sluicebook/sluicelaw2.VmFuel" = some f) (hfn : Tryd.pinned.checked.prog.funcs[f]? = some fn) :
    true = Tryd.pinned.checked.prog.looks [] ∧ ∀ (j : Nat) t, fn.params[j]? = some t → Tryd.pinned.checked.prog.wantsStandIn t = false := by
  obtain rfl : f = 6 := Option.some.inj ((show Tryd.prog.funcNamed "sluicebook/sluicelaw2.VmFuel" = some 6 by kernel_rfl).symm.trans hf) |>.symm
  obtain rfl : fn = Tryd.f6 := (Option.some.inj (Tryd.func6.symm.trans hfn)).symm
  refine ⟨by kernel_rfl, fun j t ht => ?_⟩
  rw [Tryd.params6] at ht
  have hm := Array.mem_of_getElem? ht
  simp only [List.mem_toArray, List.mem_cons, List.not_mem_nil, or_false] at hm
  rcases hm with rfl | rfl | rfl
  · exact (show Tryd.prog.wantsStandIn 22 = false by kernel_rfl)
  · exact (show Tryd.prog.wantsStandIn 23 = false by kernel_rfl)
  · exact (show Tryd.prog.wantsStandIn 38 = false by kernel_rfl)

theorem card : Rows.VmFuelCardSaid :=
  Claim7.holds_tied_plain_at .later [] _ _ _ _ said (fun _ h => by cases h) (by kernel_rfl) (fun _ h => by cases h) vmFuel_row_tie rfl ⟨rfl, rfl⟩ (by kernel_rfl) rfl plain (by kernel_rfl)
#print axioms card
end Go.Proofs.YteoheaahlokdiaaDoor.vmFuel
