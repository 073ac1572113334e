/- VerifyCuts: code with a Keep behind it is wrong, with a Keep and a Drop it is what it was. -/
import Derived.Test.YtjnlonemnjljiaaDoorVeOf
import Derived.Test.YtjnlonemnjljiaaDoorVeCutLaw
import Derived.Test.YtjnlonemnjljiaaDoorTold
import Derived.Test.YtjnlonemnjljiaaDoorFrame
import Derived.Test.YtjnlonemnjljiaaDoorLaidErr
import Derived.Test.YtjnlonemnjljiaaDoorOpenCols
import Derived.Deep.DeepWitnessRowRef
import Derived.Deep.DeepHandedRow
import Derived.Test.YtjnlonemnjljiaaDoorCards
import Derived.Test.YtjnlonemnjljiaaDoorTie
import Derived.LaidLaws
import Derived.LaidMore
import Derived.LaidHandle
import Derived.Stop.Joined
import Derived.SevenTiedAt
namespace Go.Proofs.YtjnlonemnjljiaaDoor.verifyCuts
open Go.ChangeShapes Go.WideShapes Go.ChangeAt Go.RowKit

theorem errIs (k : Int) : ErrIs (errV k) k := by
  by_cases h : k = 0
  · exact Or.inl ⟨by rw [h]; rfl, h⟩
  · exact Or.inr ⟨errV_ne h, h⟩
theorem codeSlice : SliceTy Tryd.prog 45 51 (.agg #[.int .i64 0, .int .i64 0, .int .i64 0, .int .i64 0, .string ⟨#[]⟩]) 5 48 := SliceTy.of Tryd.underlying45 (by kernel_rfl) rfl (by decide) (by decide)
theorem code_app (l : List Ins) (x : Ins) : codeCells l ++ (#[.int .i64 x.what, .int .i64 x.arg, .int .i64 x.val.type, .int .i64 x.val.n, .string x.val.s] : Array Value).toList = codeCells (l ++ [x]) := by simp [codeCells, insCells]
theorem one_cell (k : Int) : ∀ u ∈ (#[.int .i64 k, .int .i64 0, .int .i64 0, .int .i64 0, .string ⟨#[]⟩] : Array Value).toList, u.oneCell' = true := codeCells_one [⟨k, 0, noVal⟩]
set_option maxHeartbeats 8000000 in
set_option maxRecDepth 100000 in
theorem walk (A0 : Option Addr) (n c : Nat) (code : List Ins) (K : Option Addr) (nk ck : Nat) (cols : List Col) (W : World) (hG : ErrT W) (hO : OpsT W) (hT : LevelsT W) (hC : SeesCode W A0 n c code) (hK : SeesCols W K nk ck cols) (hs : ∀ x ∈ cols, x.name.size ≤ maxLen) :
    Calls Tryd.prog 4 #[.slice A0 n c, .slice K nk ck] W fun e W' => e = .returned (.bool true) ∧ Below W.heap.size W W' := by
  have HC := Lib.hid hC
  have HK := Lib.hid hK
  have HS := Lib.hid hs
  have HG := Lib.hid hG
  have HO := Lib.hid hO
  have HT := Lib.hid hT
  have hl := hC.1
  have hcc := hC.2.2.1
  have hcm := hC.2.2.2.1
  unfold maxLen at hcm
  have HLL := Lib.hid hl
  obtain ⟨w0, hw0⟩ : ∃ w0, W.alloc (.cells #[.string ⟨#[120]⟩, .int .i64 1] 48) = w0 := ⟨_, rfl⟩
  have HB0 := Lib.hid (show Below W.heap.size W w0 by rw [← hw0]; exact (Below.refl _ _).alloc (Nat.le_refl _) _)
  have HK0 := Lib.hid (show SeesCols w0 (some ⟨W.heap.size, 0, none⟩) 1 1 oneCol by rw [← hw0]; exact ⟨rfl, seesNew W (colsCells oneCol) _ 1 2 rfl (by decide)⟩)
  have HW0 := Lib.hid hw0
  clear hC hK hs hG hO hT hw0 hl
  go_enter Tryd.func4, Tryd.ntmps4
  go_wp2_with (first | rw [HW0.out])
  refine (vecheck_any none 0 0 [] (some ⟨W.heap.size, 0, none⟩) 1 1 oneCol w0 ⟨rfl, Sees.nil _ _⟩ HK0.out (by intro x hx; rw [List.mem_singleton.1 hx]; decide) (HO.out.keep HB0.out) (HT.out.keep HB0.out)).mono ?_
  rintro e w1 ⟨rfl, hb⟩
  rw [ver_none]
  have HB1 := Lib.hid (below_step HB0.out hb)
  clear hb
  go_wp2_with fail
  refine (same_err (errV 3) 3 3 w1 (HG.out.keep HB1.out) (errIs 3)).mono ?_
  rintro e w2 ⟨rfl, hb⟩
  have HB2 := Lib.hid (below_step HB1.out hb)
  clear hb
  go_wp2_with fail
  refine (vetype_any A0 n c code K nk ck cols w2 (HC.out.keep HB2.out) (HK.out.keep HB2.out) HS.out (HO.out.keep HB2.out) (HT.out.keep HB2.out)).mono ?_
  rintro e w3 ⟨rfl, hb⟩
  have HB3 := Lib.hid (below_step HB2.out hb)
  clear hb
  have VK := Lib.hid (ver_keep (code := code) (cols := cols))
  have VD := Lib.hid (ver_keep_drop (code := code) (cols := cols))
  obtain ⟨t, ht⟩ : ∃ t, (verP code cols).ty = t := ⟨_, rfl⟩
  rw [ht] at VD ⊢
  by_cases hv : (verP code cols).err = 0
  · by_cases hn : 1190 < n
    · have d0 : decide (1190 < n) = true := decide_eq_true hn
      have d1 : decide (1190 < (n : Int)) = true := decide_eq_true (by omega)
      rw [hv, errV_zero]
      clear hv ht
      go_wp2_with fail
      go_ret
      exact ⟨rfl, HB3.out⟩
    · have d0 : decide (1190 < n) = false := decide_eq_false hn
      have d1 : decide (1190 < (n : Int)) = false := decide_eq_false (by omega)
      have V1 := Lib.hid (VK.out hv (by rw [HLL.out]; omega))
      have V2 := Lib.hid (VD.out hv (by rw [HLL.out]; omega))
      rw [hv, errV_zero]
      clear hv ht VK VD
      go_wp2_with (first | (at_builtin; refine wpList_append_src codeSlice rfl _ _ rfl rfl rfl (World.ownsRow_nil w3 W.heap.size _ _) (HC.out.keep HB3.out).2 HB3.out (Nat.le_refl _) (codeCells_one code) (by omega) ?_))
      intro v' w4 hown hb _
      obtain ⟨A4, c4, rfl, -⟩ := Sees.of_own hown
      have HO4 := Lib.hid hown
      have HB4 := Lib.hid hb
      clear hown hb
      go_wp2_with (first | (at_builtin; refine wpList_append_one codeSlice rfl _ _ rfl rfl rfl HO4.out HB4.out (Nat.le_refl _) rfl (one_cell 6) (by omega) ?_))
      intro v' w6 hown hb _
      have hown : w6.ownsRow W.heap.size 51 5 v' (n + 1) (codeCells (code ++ [keepI])) := by rw [← code_app]; exact hown
      obtain ⟨A6, c6, rfl, hs6⟩ := Sees.of_own hown
      have HO6 := Lib.hid hown
      have HB6 := Lib.hid hb
      have HC6 := Lib.hid (show SeesCode w6 A6 (n + 1) c6 (code ++ [keepI]) from ⟨by rw [List.length_append, HLL.out]; rfl, hs6⟩)
      clear hown hb hs6
      go_wp2_with fail
      refine (vecheck_any A6 (n + 1) c6 (code ++ [keepI]) K nk ck cols w6 HC6.out (HK.out.keep HB6.out) HS.out (HO.out.keep HB6.out) (HT.out.keep HB6.out)).mono ?_
      rintro e w7 ⟨rfl, hb⟩
      rw [V1.out, HLL.out]
      have HB7 := Lib.hid (below_step HB6.out hb)
      have HO7 := Lib.hid (own_keep HO6.out hb)
      clear hb
      go_wp2_with fail
      refine (same_err (errV 3) 3 3 w7 (HG.out.keep HB7.out) (errIs 3)).mono ?_
      rintro e w8 ⟨rfl, hb⟩
      have HB8 := Lib.hid (below_step HB7.out hb)
      have HO8 := Lib.hid (own_keep HO7.out hb)
      clear hb
      go_wp2_with (first | (at_builtin; refine wpList_append_one codeSlice rfl _ _ rfl rfl rfl HO8.out HB8.out (Nat.le_refl _) rfl (one_cell 7) (by omega) ?_))
      intro v' w9 hown hb _
      have hown : w9.ownsRow W.heap.size 51 5 v' (n + 1 + 1) (codeCells (code ++ [keepI, dropI])) := by
        have e := code_app (code ++ [keepI]) dropI
        rw [List.append_assoc] at e
        rw [← show _ = codeCells (code ++ [keepI, dropI]) from e]; exact hown
      obtain ⟨A9, c9, rfl, hs9⟩ := Sees.of_own hown
      have HB9 := Lib.hid hb
      have HC9 := Lib.hid (show SeesCode w9 A9 (n + 1 + 1) c9 (code ++ [keepI, dropI]) from ⟨by rw [List.length_append, HLL.out]; rfl, hs9⟩)
      clear hown hb hs9
      go_wp2_with fail
      refine (vetype_any A9 (n + 1 + 1) c9 (code ++ [keepI, dropI]) K nk ck cols w9 HC9.out (HK.out.keep HB9.out) HS.out (HO.out.keep HB9.out) (HT.out.keep HB9.out)).mono ?_
      rintro e w10 ⟨rfl, hb⟩
      rw [V2.out.1, V2.out.2, errV_zero]
      have HB10 := Lib.hid (below_step HB9.out hb)
      have e1 : ((n : Int) + 1 == (n : Int) + 1) = true := by simp
      have e2 : (t == t) = true := by simp
      clear hb
      go_wp2_with fail
      go_ret
      exact ⟨rfl, HB10.out⟩
  · rw [errV_ne hv]
    clear hv ht VK VD
    go_wp2_with fail
    go_ret
    exact ⟨rfl, HB3.out⟩

set_option maxRecDepth 100000 in
theorem contract (H : Type) (enc : TypeId × Value → H) (W : World) (base : Nat) (args : Array Value) (ds gs : List (DataW H)) (before : List MemPlace)
    (hval : ∀ (j : Nat) t v, Tryd.f4.params[j]? = some t → args[j]? = some v → Value.okWide Tryd.prog W .any base t v)
    (hW : DataW.Whole enc Tryd.prog Tryd.f4.params.toList Rows.verifyCutsSpec.vars false W args.toList ds gs before)
    (hsz : (DataW.weightsEach Tryd.prog (Tryd.f4.params.toList ++ (OpenSpec.ofChange Rows.verifyCutsSpec).bare.plain.varTypes Tryd.prog) (ds ++ gs)).all (· ≤ reachBytes) = true) (hL : laidMetH Tryd.prog Rows.verifyCutsRow.laid W) :
    Calls Tryd.prog 4 args W fun e W' => ∃ v, e = .returned v ∧ Rows.verifyCutsSpec.post enc Tryd.prog Tryd.f4 false true false false W args v W' := by
  have hW' := hW
  obtain ⟨p, q, hA0, hV, rfl, hfz, hnd⟩ := hW
  have hA : DataW.TrodAll enc Tryd.prog W 0 (fun _ => true) true Tryd.f4.params.toList args.toList ds p := hA0
  rw [Tryd.params4] at hA hval
  obtain ⟨v0, vs0, d0, ds0, p0, q0, hargs, rfl, rfl, h0, r0⟩ := trodAll_cons hA
  obtain ⟨v1, vs1, d1, ds1, p1, q1, rfl, rfl, rfl, h1, r1⟩ := trodAll_cons r0
  obtain ⟨rfl, rfl, rfl⟩ := trodAll_nil r1
  obtain rfl : args = #[v0, v1] := by cases args; simp_all
  obtain ⟨rfl, rfl⟩ := trodVars_none hV
  have hv0 := hval 0 45 v0 rfl rfl
  have hv1 := hval 1 46 v1 rfl rfl
  obtain ⟨A0, n, c, l, rfl, hC, _⟩ := open_code (okWide_slice Tryd.underlying45 hv0) h0
  obtain ⟨K, nk, ck, cols, rfl, hK, hcs⟩ := open_cols (okWide_slice Tryd.underlying46 hv1) h1
  have hL0 : laidMet Tryd.prog [("sluicebook/tree.levels", Rows.laid_sluicebook_tree_levels), ("sluicebook/kind.ops", Rows.laid_sluicebook_kind_ops)] W ∧ handlesMet Tryd.prog [("errors.errorType", Rows.laid_errors_errorType)] W := hL
  refine (walk A0 n c l K nk ck cols W (errT_of_laid (show laidMetH Tryd.prog [("errors.errorType", Rows.laid_errors_errorType)] W from ⟨laidMet_nil _ _, hL0.2⟩)) (opsT_of hL0.1 (.tail _ (.head _))) (levelsT_of hL0.1 (.head _)) hC hK (fun x hx => (hcs x hx).1)).mono fun e W' ⟨he, hb⟩ => ?_
  subst he
  exact ⟨_, rfl, law_post laidOut Tryd.underlying4 (by kernel_rfl) rfl (by rw [Tryd.params4]; intro t ht; simp only [List.mem_cons, List.not_mem_nil, or_false] at ht; rcases ht with rfl | rfl; all_goals exact ⟨by kernel_rfl, of_decide_eq_true (by kernel_rfl)⟩) hW' rfl hb⟩

theorem reads (os : Os) {H : Type} (enc : TypeId × Value → H) : ∃ places, DataW.whole enc Tryd.prog ((World.doorLaid Tryd.prog 4000 os).forCall (fun _ _ => 0) ⟨#[], #[.slice none 0 0, .slice none 0 0], []⟩).memory Tryd.f4.params.toList Rows.verifyCutsSpec.vars false (#[.slice none 0 0, .slice none 0 0] : Array Value).toList 8 = some ([.nil, .nil], [], places) :=
  ⟨[], by kernel_rfl⟩

set_option maxRecDepth 100000 in
theorem lifted (os : Os) (started : os.Started) (H : Type) (enc : TypeId × Value → H) (F : Stop.Interp) :
    ReturnsInHanded {} Tryd.checked os 4 .any ((OpenSpec.ofChange Rows.verifyCutsSpec).preRow enc Tryd.prog Tryd.f4 Rows.verifyCutsRow.domain false Rows.verifyCutsRow.laid) (((OpenSpec.ofChange Rows.verifyCutsSpec).at F).post enc Tryd.prog Tryd.f4 false true false false) := by
  obtain ⟨places, hx⟩ := reads os enc
  refine returnsInHanded_of_row (C := Tryd.checked) (s := OpenSpec.ofChange Rows.verifyCutsSpec) own started (by kernel_rfl) Tryd.func4
    (witness_row_atRef (enc := enc) (C := Tryd.checked) false (World.doorLaid Tryd.prog 4000 os) #[.slice none 0 0, .slice none 0 0] rfl (by kernel_rfl) (by kernel_rfl) (by kernel_rfl)
      (OpenSpec.preRow_of_cond 8 hx (by kernel_rfl) (fun k hk => by cases hk) (by kernel_rfl) (laidMetH_of_parts (laidMet_of_run' 12 (by kernel_rfl) (by kernel_rfl)) (by kernel_rfl)))) ?_
  intro W base args ds gs before hval hW _ _ hsz hL _ _
  exact contract H enc W base args ds gs before hval hW hsz hL

theorem said : Rows.VerifyCutsSaid :=
  OpenClaim.holds_of_cond 4 Tryd.f4 rfl rfl rfl rfl rfl rfl rfl ⟨rfl, rfl, rfl, rfl, rfl⟩ rfl rfl rfl rfl rfl (by kernel_rfl) Tryd.func4 (by kernel_rfl)
    (of_decide_eq_true (by kernel_rfl)) (by unfold Func.isWrapper; first | (rw [if_pos (by decide +kernel)]; kernel_rfl) | (rw [if_neg (by decide +kernel)]; exact ⟨rfl, rfl⟩))
    (fun os started H enc _ F => by rw [OpenClaim.pre_eq_preRow]; exact lifted os started H enc F)

theorem plain (f : FuncId) (fn : Func) (hf : Tryd.pinned.checked.prog.funcNamed "sluicebook/sluicelaw4.VerifyCuts" = some f) (hfn : Tryd.pinned.checked.prog.funcs[f]? = some fn) :
    true = Tryd.pinned.checked.prog.looks [] ∧ ∀ (j : Nat) t, fn.params[j]? = some t → Tryd.pinned.checked.prog.wantsStandIn t = false := by
  obtain rfl : f = 4 := Option.some.inj ((show Tryd.prog.funcNamed "sluicebook/sluicelaw4.VerifyCuts" = some 4 by kernel_rfl).symm.trans hf) |>.symm
  obtain rfl : fn = Tryd.f4 := (Option.some.inj (Tryd.func4.symm.trans hfn)).symm
  refine ⟨by kernel_rfl, fun j t ht => ?_⟩
  rw [Tryd.params4] at ht
  have hm := Array.mem_of_getElem? ht
  simp only [List.mem_toArray, List.mem_cons, List.not_mem_nil, or_false] at hm
  rcases hm with rfl | rfl
  · exact (show Tryd.prog.wantsStandIn 45 = false by kernel_rfl)
  · exact (show Tryd.prog.wantsStandIn 46 = false by kernel_rfl)

theorem card : Rows.VerifyCutsCardSaid :=
  Claim7.holds_tied_plain_at .later [] _ _ _ _ said (fun _ h => by cases h) (by kernel_rfl) (fun _ h => by cases h) verifyCuts_row_tie rfl ⟨rfl, rfl⟩ (by kernel_rfl) rfl plain (by kernel_rfl)
#print axioms card
end Go.Proofs.YtjnlonemnjljiaaDoor.verifyCuts
