/- VerifyTells: whether any code is sound, or which instruction is wrong, and how; its type, and how much lies on the stack: verify tells what the document's answer tells. No conditions. -/
import Derived.Test.YteoheaahlokdiaaDoorVeOf
import Derived.Test.YteoheaahlokdiaaDoorSeCk
import Derived.Test.YteoheaahlokdiaaDoorTold
import Derived.Test.YteoheaahlokdiaaDoorFrame
import Derived.Test.YteoheaahlokdiaaDoorLaidErr
import Derived.Test.YteoheaahlokdiaaDoorOpenCols
import Derived.Deep.DeepWitnessRowRef
import Derived.Deep.DeepHandedRow
import Derived.Test.YteoheaahlokdiaaDoorCards
import Derived.Test.YteoheaahlokdiaaDoorTie
import Derived.LaidLaws
import Derived.LaidMore
import Derived.LaidHandle
import Derived.Stop.Joined
import Derived.SevenTiedAt
namespace Go.Proofs.YteoheaahlokdiaaDoor.verifyTells
open Go.ChangeShapes Go.WideShapes Go.ChangeAt Go.RowKit

theorem errIs (k : Int) : ErrIs (errV k) k := by
  by_cases h : k = 0
  · exact Or.inl ⟨by rw [h]; rfl, h⟩
  · exact Or.inr ⟨errV_ne h, h⟩
set_option maxHeartbeats 8000000 in
set_option maxRecDepth 100000 in
theorem walk (A0 : Option Addr) (n c : Nat) (code : List Ins) (K : Option Addr) (nk ck : Nat) (cols : List Col) (W : World) (hG : ErrT W) (hO : OpsT W) (hT : LevelsT W) (hC : SeesCode W A0 n c code) (hK : SeesCols W K nk ck cols) (hs : ∀ x ∈ cols, x.name.size ≤ maxLen) (hw : ∀ x ∈ code, x.val.s.size ≤ maxLen) :
    Calls Tryd.prog 3 #[.slice A0 n c, .slice K nk ck] W fun e W' => e = .returned (.bool true) ∧ Below W.heap.size W W' := by
  have HC := Lib.hid hC
  have HK := Lib.hid hK
  have HS := Lib.hid hs
  have HG := Lib.hid hG
  have HO := Lib.hid hO
  have HT := Lib.hid hT
  have T0 := Lib.hid (sck_any A0 n c code K nk ck cols W hC hK hs hw)
  clear hC hK hs hG hO hT hw
  obtain ⟨v, hv⟩ : ∃ v, v = verP code cols := ⟨_, rfl⟩
  rw [← hv] at T0
  have HV := Lib.hid hv
  clear hv
  have e1 : (v.place == v.place) = true := by simp
  have e2 : (v.ty == v.ty) = true := by simp
  have e3 : (v.most == v.most) = true := by simp
  have e4 : (v.err == v.err) = true := by simp
  go_enter Tryd.func3, Tryd.ntmps3
  go_wp2_with fail
  refine (T0.out).mono ?_
  rintro e w1 ⟨rfl, hb⟩
  have HB1 := Lib.hid hb
  clear hb
  go_wp2_with fail
  refine (vecheck_any A0 n c code K nk ck cols w1 (HC.out.keep HB1.out) (HK.out.keep HB1.out) HS.out (HO.out.keep HB1.out) (HT.out.keep HB1.out)).mono ?_
  rintro e w2 ⟨rfl, hb⟩
  rw [← HV.out]
  have HB2 := Lib.hid (below_step HB1.out hb)
  clear hb
  go_wp2_with fail
  refine (same_err (errV v.err) v.err v.err w2 (HG.out.keep HB2.out) (errIs v.err)).mono ?_
  rintro e w3 ⟨rfl, hb⟩
  have HB3 := Lib.hid (below_step HB2.out hb)
  clear hb
  go_wp2_with fail
  refine (vetype_any A0 n c code K nk ck cols w3 (HC.out.keep HB3.out) (HK.out.keep HB3.out) HS.out (HO.out.keep HB3.out) (HT.out.keep HB3.out)).mono ?_
  rintro e w4 ⟨rfl, hb⟩
  rw [← HV.out]
  have HB4 := Lib.hid (below_step HB3.out hb)
  clear hb
  go_wp2_with fail
  refine (same_err (errV v.err) v.err v.err w4 (HG.out.keep HB4.out) (errIs v.err)).mono ?_
  rintro e w5 ⟨rfl, hb⟩
  have HB5 := Lib.hid (below_step HB4.out hb)
  clear hb
  go_wp2_with fail
  refine (vemost_any A0 n c code K nk ck cols w5 (HC.out.keep HB5.out) (HK.out.keep HB5.out) HS.out (HO.out.keep HB5.out) (HT.out.keep HB5.out)).mono ?_
  rintro e w6 ⟨rfl, hb⟩
  rw [← HV.out]
  have HB6 := Lib.hid (below_step HB5.out hb)
  clear hb
  go_wp2_with fail
  refine (same_err (errV v.err) v.err v.err w6 (HG.out.keep HB6.out) (errIs v.err)).mono ?_
  rintro e w7 ⟨rfl, hb⟩
  have HB7 := Lib.hid (below_step HB6.out hb)
  clear hb
  go_wp2_with fail
  go_ret
  exact ⟨rfl, HB7.out⟩

set_option maxRecDepth 100000 in
theorem contract (H : Type) (enc : TypeId × Value → H) (W : World) (base : Nat) (args : Array Value) (ds gs : List (DataW H)) (before : List MemPlace)
    (hval : ∀ (j : Nat) t v, Tryd.f3.params[j]? = some t → args[j]? = some v → Value.okWide Tryd.prog W .any base t v)
    (hW : DataW.Whole enc Tryd.prog Tryd.f3.params.toList Rows.verifyTellsSpec.vars false W args.toList ds gs before)
    (hsz : (DataW.weightsEach Tryd.prog (Tryd.f3.params.toList ++ (OpenSpec.ofChange Rows.verifyTellsSpec).bare.plain.varTypes Tryd.prog) (ds ++ gs)).all (· ≤ reachBytes) = true) (hL : laidMetH Tryd.prog Rows.verifyTellsRow.laid W) :
    Calls Tryd.prog 3 args W fun e W' => ∃ v, e = .returned v ∧ Rows.verifyTellsSpec.post enc Tryd.prog Tryd.f3 false true false false W args v W' := by
  have hW' := hW
  obtain ⟨p, q, hA0, hV, rfl, hfz, hnd⟩ := hW
  have hA : DataW.TrodAll enc Tryd.prog W 0 (fun _ => true) true Tryd.f3.params.toList args.toList ds p := hA0
  rw [Tryd.params3] at hA hval
  obtain ⟨v0, vs0, d0, ds0, p0, q0, hargs, rfl, rfl, h0, r0⟩ := trodAll_cons hA
  obtain ⟨v1, vs1, d1, ds1, p1, q1, rfl, rfl, rfl, h1, r1⟩ := trodAll_cons r0
  obtain ⟨rfl, rfl, rfl⟩ := trodAll_nil r1
  obtain rfl : args = #[v0, v1] := by cases args; simp_all
  obtain ⟨rfl, rfl⟩ := trodVars_none hV
  have hv0 := hval 0 22 v0 rfl rfl
  have hv1 := hval 1 23 v1 rfl rfl
  obtain ⟨A0, n, c, l, rfl, hC, hwf⟩ := open_code (okWide_slice Tryd.underlying22 hv0) h0
  obtain ⟨K, nk, ck, cols, rfl, hK, hcs⟩ := open_cols (okWide_slice Tryd.underlying23 hv1) h1
  have hL0 : laidMet Tryd.prog [("sluicebook/tree.levels", Rows.laid_sluicebook_tree_levels), ("sluicebook/kind.ops", Rows.laid_sluicebook_kind_ops)] W ∧ handlesMet Tryd.prog [("errors.errorType", Rows.laid_errors_errorType)] W := hL
  refine (walk A0 n c l K nk ck cols W (errT_of_laid (show laidMetH Tryd.prog [("errors.errorType", Rows.laid_errors_errorType)] W from ⟨laidMet_nil _ _, hL0.2⟩)) (opsT_of hL0.1 (.tail _ (.head _))) (levelsT_of hL0.1 (.head _)) hC hK (fun x hx => (hcs x hx).1) (fun x hx => (hwf x hx).2.2.2.2)).mono fun e W' ⟨he, hb⟩ => ?_
  subst he
  exact ⟨_, rfl, law_post laidOut Tryd.underlying4 (by kernel_rfl) rfl (by rw [Tryd.params3]; intro t ht; simp only [List.mem_cons, List.not_mem_nil, or_false] at ht; rcases ht with rfl | rfl; all_goals exact ⟨by kernel_rfl, of_decide_eq_true (by kernel_rfl)⟩) hW' rfl hb⟩

theorem reads (os : Os) {H : Type} (enc : TypeId × Value → H) : ∃ places, DataW.whole enc Tryd.prog ((World.doorLaid Tryd.prog 4000 os).forCall (fun _ _ => 0) ⟨#[], #[.slice none 0 0, .slice none 0 0], []⟩).memory Tryd.f3.params.toList Rows.verifyTellsSpec.vars false (#[.slice none 0 0, .slice none 0 0] : Array Value).toList 8 = some ([.nil, .nil], [], places) :=
  ⟨[], by kernel_rfl⟩

set_option maxRecDepth 100000 in
theorem lifted (os : Os) (started : os.Started) (H : Type) (enc : TypeId × Value → H) (F : Stop.Interp) :
    ReturnsInHanded {} Tryd.checked os 3 .any ((OpenSpec.ofChange Rows.verifyTellsSpec).preRow enc Tryd.prog Tryd.f3 Rows.verifyTellsRow.domain false Rows.verifyTellsRow.laid) (((OpenSpec.ofChange Rows.verifyTellsSpec).at F).post enc Tryd.prog Tryd.f3 false true false false) := by
  obtain ⟨places, hx⟩ := reads os enc
  refine returnsInHanded_of_row (C := Tryd.checked) (s := OpenSpec.ofChange Rows.verifyTellsSpec) own started (by kernel_rfl) Tryd.func3
    (witness_row_atRef (enc := enc) (C := Tryd.checked) false (World.doorLaid Tryd.prog 4000 os) #[.slice none 0 0, .slice none 0 0] rfl (by kernel_rfl) (by kernel_rfl) (by kernel_rfl)
      (OpenSpec.preRow_of_cond 8 hx (by kernel_rfl) (fun k hk => by cases hk) (by kernel_rfl) (laidMetH_of_parts (laidMet_of_run' 12 (by kernel_rfl) (by kernel_rfl)) (by kernel_rfl)))) ?_
  intro W base args ds gs before hval hW _ _ hsz hL _ _
  exact contract H enc W base args ds gs before hval hW hsz hL

theorem said : Rows.VerifyTellsSaid :=
  OpenClaim.holds_of_cond 3 Tryd.f3 rfl rfl rfl rfl rfl rfl rfl ⟨rfl, rfl, rfl, rfl, rfl⟩ rfl rfl rfl rfl rfl (by kernel_rfl) Tryd.func3 (by kernel_rfl)
    (of_decide_eq_true (by kernel_rfl)) (by unfold Func.isWrapper; first | (rw [if_pos (by decide +kernel)]; kernel_rfl) | (rw [if_neg (by decide +kernel)]; exact ⟨rfl, rfl⟩))
    (fun os started H enc _ F => by rw [OpenClaim.pre_eq_preRow]; exact lifted os started H enc F)

theorem plain (f : FuncId) (fn : Func) (hf : Tryd.pinned.checked.prog.funcNamed "sluicebook/sluicelaw2.VerifyTells" = some f) (hfn : Tryd.pinned.checked.prog.funcs[f]? = some fn) :
    true = Tryd.pinned.checked.prog.looks [] ∧ ∀ (j : Nat) t, fn.params[j]? = some t → Tryd.pinned.checked.prog.wantsStandIn t = false := by
  obtain rfl : f = 3 := Option.some.inj ((show Tryd.prog.funcNamed "sluicebook/sluicelaw2.VerifyTells" = some 3 by kernel_rfl).symm.trans hf) |>.symm
  obtain rfl : fn = Tryd.f3 := (Option.some.inj (Tryd.func3.symm.trans hfn)).symm
  refine ⟨by kernel_rfl, fun j t ht => ?_⟩
  rw [Tryd.params3] at ht
  have hm := Array.mem_of_getElem? ht
  simp only [List.mem_toArray, List.mem_cons, List.not_mem_nil, or_false] at hm
  rcases hm with rfl | rfl
  · exact (show Tryd.prog.wantsStandIn 22 = false by kernel_rfl)
  · exact (show Tryd.prog.wantsStandIn 23 = false by kernel_rfl)

theorem card : Rows.VerifyTellsCardSaid :=
  Claim7.holds_tied_plain_at .later [] _ _ _ _ said (fun _ h => by cases h) (by kernel_rfl) (fun _ h => by cases h) verifyTells_row_tie rfl ⟨rfl, rfl⟩ (by kernel_rfl) rfl plain (by kernel_rfl)
#print axioms card
end Go.Proofs.YteoheaahlokdiaaDoor.verifyTells
