/- Of the law ValLaws: the card Rows.ValLawsCardSaid, without any condition: whatever the numbers, it returns true. -/
import Derived.Test.YtjjneldijeckcaaDoorFrame
import Derived.Test.YtjjneldijeckcaaDoorLaidErr
import Derived.Test.YtjjneldijeckcaaDoorReckon
import Derived.Deep.DeepHandedRow
import Derived.Deep.QuietTactic
import Derived.BigQuiet
namespace Go.Proofs.YtjjneldijeckcaaDoor.valLaws
open Go.ChangeShapes Go.WideShapes Go.ChangeAt Go.RowKit

theorem val_comm_add (a b : Int) : reckonVal [43] a b = reckonVal [43] b a := by unfold reckonVal exact_; simp [Int.add_comm]
theorem val_comm_mul (a b : Int) : reckonVal [42] a b = reckonVal [42] b a := by unfold reckonVal exact_; simp [Int.mul_comm]
theorem err_comm_add (a b : Int) : reckonErr [43] a b = reckonErr [43] b a := by unfold reckonErr exact_; simp [Int.add_comm]
theorem err_comm_mul (a b : Int) : reckonErr [42] a b = reckonErr [42] b a := by unfold reckonErr exact_; simp [Int.mul_comm]
theorem add_of {a b : Int} (h : reckonErr [43] a b = 0) : reckonVal [43] a b = a + b := by
  unfold reckonErr isOp exact_ at h; unfold reckonVal exact_
  by_cases hf : fits (a + b) <;> simp [hf] at h ⊢
theorem mul_of {a b : Int} (h : reckonErr [42] a b = 0) : reckonVal [42] a b = a * b := by
  unfold reckonErr isOp exact_ at h; unfold reckonVal exact_
  by_cases hf : fits (a * b) <;> simp [hf] at h ⊢

set_option maxHeartbeats 2000000 in
set_option maxRecDepth 100000 in
theorem walk (x y z : Int) (w : World) (hg : ErrT w) (hx : fits x) (hy : fits y) (hz : fits z) :
    Calls Tryd.prog 4 #[.int .i64 x, .int .i64 y, .int .i64 z] w fun e w' => e = .returned (.bool true) ∧ Below w.heap.size w w' := by
  have HG := Lib.hid hg
  have HX := Lib.hid hx
  have HY := Lib.hid hy
  have HZ := Lib.hid hz
  clear hg hx hy hz
  go_enter Tryd.func4, Tryd.ntmps4
  go_wp2_with fail
  refine (reckon_at _ [42] rfl _ _ _ (by decide) (by decide)).mono ?_
  rintro e w' ⟨rfl, rfl⟩
  rw [show reckonVal [42] (-3) 5 = -15 by decide, show reckonErr [42] (-3) 5 = 0 by decide, errV_zero]
  go_wp2_with fail
  refine (reckon_at _ [47] rfl _ _ _ (by decide) (by decide)).mono ?_
  rintro e w' ⟨rfl, rfl⟩
  rw [show reckonVal [47] (-9223372036854775808) (-1) = 0 by decide, show reckonErr [47] (-9223372036854775808) (-1) = 9 by decide, errV_ne (by decide)]
  go_wp2_with fail
  refine (same_err _ 9 9 _ HG.out (Or.inr ⟨rfl, by decide⟩)).mono ?_
  rintro e w1 ⟨rfl, hb1⟩
  have B1 := Lib.hid hb1
  clear hb1
  go_wp2_with fail
  refine (reckon_at _ [43] rfl _ _ _ HX.out HY.out).mono ?_
  rintro e w' ⟨rfl, rfl⟩
  go_wp2_with fail
  refine (reckon_at _ [43] rfl _ _ _ HY.out HX.out).mono ?_
  rintro e w' ⟨rfl, rfl⟩
  rw [val_comm_add y x, err_comm_add y x]
  go_wp2_with fail
  refine (reckon_at _ [42] rfl _ _ _ HX.out HY.out).mono ?_
  rintro e w' ⟨rfl, rfl⟩
  go_wp2_with fail
  refine (reckon_at _ [42] rfl _ _ _ HY.out HX.out).mono ?_
  rintro e w' ⟨rfl, rfl⟩
  rw [val_comm_mul y x, err_comm_mul y x]
  have M1 := Lib.hid (fun h => mul_of (a := x) (b := y) h)
  have FC := Lib.hid (reckonVal_fits [42] x y)
  generalize reckonVal [43] x y = va
  generalize reckonErr [43] x y = ka
  generalize reckonVal [42] x y = vc at M1 FC
  generalize reckonErr [42] x y = kc at M1
  have t1 : (va != va) = false := by simp
  have t2 : (vc != vc) = false := by simp
  rcases errV_or ka with ⟨h1, -⟩ | ⟨h1, -⟩ <;> rcases errV_or kc with ⟨h2, h3⟩ | ⟨h2, h3⟩
  all_goals
    rw [h1, h2]
    have K3 := Lib.hid h3
    clear h1 h2 h3
    go_wp2_with fail
    go_quiet (fail)
    have B2 := Lib.hid (below_drewN B1.out nq)
    generalize w1.drewN nq = w2 at B2 ⊢
    go_wp2_with fail
    refine (reckon_at _ [43] rfl _ _ _ HY.out HZ.out).mono ?_
    rintro e w' ⟨rfl, rfl⟩
    go_wp2_with fail
    refine (reckon_at _ [42] rfl _ _ _ HX.out (reckonVal_fits _ _ _)).mono ?_
    rintro e w' ⟨rfl, rfl⟩
    go_wp2_with fail
    refine (reckon_at _ [42] rfl _ _ _ HX.out HZ.out).mono ?_
    rintro e w' ⟨rfl, rfl⟩
    go_wp2_with fail
    refine (reckon_at _ [43] rfl _ _ _ FC.out (reckonVal_fits _ _ _)).mono ?_
    rintro e w' ⟨rfl, rfl⟩
    have A1 := Lib.hid (fun h => add_of (a := y) (b := z) h)
    have A2 := Lib.hid (fun h => mul_of (a := x) (b := reckonVal [43] y z) h)
    have A3 := Lib.hid (fun h => mul_of (a := x) (b := z) h)
    have A4 := Lib.hid (fun h => add_of (a := vc) (b := reckonVal [42] x z) h)
    generalize reckonErr [43] y z = k1 at A1
    generalize reckonErr [42] x (reckonVal [43] y z) = k2 at A2
    generalize reckonErr [42] x z = k3 at A3
    generalize reckonErr [43] vc (reckonVal [42] x z) = k4 at A4
    generalize reckonVal [42] x (reckonVal [43] y z) = v2 at A2
    generalize reckonVal [43] vc (reckonVal [42] x z) = v4 at A4
    generalize reckonVal [43] y z = v1 at A1 A2
    generalize reckonVal [42] x z = v3 at A3 A4
    rcases errV_or k1 with ⟨h1, g1⟩ | ⟨h1, g1⟩
    · rw [h1]
      rcases errV_or k2 with ⟨h2, g2⟩ | ⟨h2, g2⟩
      · rw [h2]
        rcases errV_or k3 with ⟨h3, g3⟩ | ⟨h3, g3⟩
        · rw [h3]
          rcases errV_or k4 with ⟨h4, g4⟩ | ⟨h4, g4⟩
          · rw [h4]
            by_cases hk : kc = 0
            · have t3 : (v2 == v4) = true := by
                have := A1.out g1; have := A2.out g2; have := A3.out g3; have := A4.out g4; have := M1.out hk
                subst v1 v2 v3 v4 vc
                rw [Int.mul_add]; simp
              clear h1 h2 h3 h4 g1 g2 g3 g4 hk
              go_wp2_with fail
              go_ret
              exact ⟨rfl, B2.out⟩
            · clear h1 h2 h3 h4 g1 g2 g3 g4
              first
                | exact absurd K3.out hk
                | (clear hk; go_wp2_with fail; go_ret; exact ⟨rfl, B2.out⟩)
          · rw [h4]; clear h1 h2 h3 h4 g1 g2 g3 g4; go_wp2_with fail; go_ret; exact ⟨rfl, B2.out⟩
        · rw [h3]; clear h1 h2 h3 g1 g2 g3; go_wp2_with fail; go_ret; exact ⟨rfl, B2.out⟩
      · rw [h2]; clear h1 h2 g1 g2; go_wp2_with fail; go_ret; exact ⟨rfl, B2.out⟩
    · rw [h1]; clear h1 g1; go_wp2_with fail; go_ret; exact ⟨rfl, B2.out⟩

set_option maxRecDepth 100000 in
theorem contract (H : Type) (enc : TypeId × Value → H) (W : World) (base : Nat) (args : Array Value) (ds gs : List (DataW H)) (before : List MemPlace)
    (hval : ∀ (j : Nat) t v, Tryd.f4.params[j]? = some t → args[j]? = some v → Value.okWide Tryd.prog W .any base t v)
    (hW : DataW.Whole enc Tryd.prog Tryd.f4.params.toList Rows.valLawsSpec.vars false W args.toList ds gs before)
    (hsz : (DataW.weightsEach Tryd.prog (Tryd.f4.params.toList ++ (OpenSpec.ofChange Rows.valLawsSpec).bare.plain.varTypes Tryd.prog) (ds ++ gs)).all (· ≤ reachBytes) = true) (hL : laidMetH Tryd.prog Rows.valLawsRow.laid W) :
    Calls Tryd.prog 4 args W fun e W' => ∃ v, e = .returned v ∧ Rows.valLawsSpec.post enc Tryd.prog Tryd.f4 false true false false W args v W' := by
  have hW' := hW
  obtain ⟨p, q, hA0, hV, rfl, hfz, hnd⟩ := hW
  have hA : DataW.TrodAll enc Tryd.prog W 0 (fun _ => true) true Tryd.f4.params.toList args.toList ds p := hA0
  rw [Tryd.params4] at hA hval
  obtain ⟨v0, vs0, d0, ds0, p0, q0, hargs, rfl, rfl, h0, r0⟩ := trodAll_cons hA
  obtain ⟨v1, vs1, d1, ds1, p1, q1, rfl, rfl, rfl, h1, r1⟩ := trodAll_cons r0
  obtain ⟨v2, vs2, d2, ds2, p2, q2, rfl, rfl, rfl, h2, r2⟩ := trodAll_cons r1
  obtain ⟨rfl, rfl, rfl⟩ := trodAll_nil r2
  obtain rfl : args = #[v0, v1, v2] := by cases args; simp_all
  obtain ⟨rfl, rfl⟩ := trodVars_none hV
  obtain ⟨a0, rfl, rfl, rfl, w0⟩ := open_int Tryd.underlying3 (hval 0 3 v0 rfl rfl) h0
  obtain ⟨a1, rfl, rfl, rfl, w1⟩ := open_int Tryd.underlying3 (hval 1 3 v1 rfl rfl) h1
  obtain ⟨a2, rfl, rfl, rfl, w2⟩ := open_int Tryd.underlying3 (hval 2 3 v2 rfl rfl) h2
  refine (walk a0 a1 a2 W (errT_of_laid hL) (fits_of w0) (fits_of w1) (fits_of w2)).mono fun e W' ⟨he, hb⟩ => ?_
  subst he
  exact ⟨_, rfl, law_post laidOut Tryd.underlying4 (by kernel_rfl) rfl (by rw [Tryd.params4]; intro t ht; simp only [List.mem_cons, List.not_mem_nil, or_false] at ht; rcases ht with rfl | rfl | rfl; all_goals exact ⟨by kernel_rfl, of_decide_eq_true (by kernel_rfl)⟩) hW' rfl hb⟩

theorem reads (os : Os) {H : Type} (enc : TypeId × Value → H) : ∃ places, DataW.whole enc Tryd.prog ((laidWorld_err os).forCall (fun _ _ => 0) ⟨#[], #[.int .i64 0, .int .i64 0, .int .i64 0], []⟩).memory Tryd.f4.params.toList Rows.valLawsSpec.vars false (#[.int .i64 0, .int .i64 0, .int .i64 0] : Array Value).toList 8 = some ([.lit (.int .i64 0), .lit (.int .i64 0), .lit (.int .i64 0)], [], places) :=
  ⟨[], by kernel_rfl⟩

set_option maxRecDepth 100000 in
theorem lifted (os : Os) (started : os.Started) (H : Type) (enc : TypeId × Value → H) (F : Stop.Interp) :
    ReturnsInHanded {} Tryd.checked os 4 .any ((OpenSpec.ofChange Rows.valLawsSpec).preRow enc Tryd.prog Tryd.f4 Rows.valLawsRow.domain false Rows.valLawsRow.laid) (((OpenSpec.ofChange Rows.valLawsSpec).at F).post enc Tryd.prog Tryd.f4 false true false false) := by
  obtain ⟨places, hx⟩ := reads os enc
  refine returnsInHanded_of_row (C := Tryd.checked) (s := OpenSpec.ofChange Rows.valLawsSpec) own started (by kernel_rfl) Tryd.func4
    (witness_row_at (enc := enc) (C := Tryd.checked) false (laidWorld_err os) #[.int .i64 0, .int .i64 0, .int .i64 0] rfl (by kernel_rfl) (by kernel_rfl) (by kernel_rfl)
      (OpenSpec.preRow_of_cond 8 hx (by kernel_rfl) (fun k hk => by cases hk) (by kernel_rfl) (laid_met_err os _))) ?_
  intro W base args ds gs before hval hW _ _ hsz hL _ _
  exact contract H enc W base args ds gs before hval hW hsz hL

theorem said : Rows.ValLawsSaid :=
  OpenClaim.holds_of_cond 4 Tryd.f4 rfl rfl rfl rfl rfl rfl rfl ⟨rfl, rfl, rfl, rfl, rfl⟩ rfl rfl rfl rfl rfl (by kernel_rfl) Tryd.func4 (by kernel_rfl)
    (of_decide_eq_true (by kernel_rfl)) (by unfold Func.isWrapper; first | (rw [if_pos (by decide +kernel)]; kernel_rfl) | (rw [if_neg (by decide +kernel)]; exact ⟨rfl, rfl⟩))
    (fun os started H enc _ F => by rw [OpenClaim.pre_eq_preRow]; exact lifted os started H enc F)

theorem plain (f : FuncId) (fn : Func) (hf : Tryd.pinned.checked.prog.funcNamed "sluicebook/sluicelaw4.ValLaws" = some f) (hfn : Tryd.pinned.checked.prog.funcs[f]? = some fn) :
    true = Tryd.pinned.checked.prog.looks [] ∧ ∀ (j : Nat) t, fn.params[j]? = some t → Tryd.pinned.checked.prog.wantsStandIn t = false := by
  obtain rfl : f = 4 := Option.some.inj ((show Tryd.prog.funcNamed "sluicebook/sluicelaw4.ValLaws" = some 4 by kernel_rfl).symm.trans hf) |>.symm
  obtain rfl : fn = Tryd.f4 := (Option.some.inj (Tryd.func4.symm.trans hfn)).symm
  refine ⟨by kernel_rfl, fun j t ht => ?_⟩
  rw [Tryd.params4] at ht
  have hm := Array.mem_of_getElem? ht
  simp only [List.mem_toArray, List.mem_cons, List.not_mem_nil, or_false] at hm
  rcases hm with rfl | rfl | rfl
  · exact (show Tryd.prog.wantsStandIn 3 = false by kernel_rfl)
  · exact (show Tryd.prog.wantsStandIn 3 = false by kernel_rfl)
  · exact (show Tryd.prog.wantsStandIn 3 = false by kernel_rfl)

theorem card : Rows.ValLawsCardSaid :=
  Claim7.holds_tied_plain_at .later [] _ _ _ _ said (fun _ h => by cases h) (by kernel_rfl) (fun _ h => by cases h) valLaws_row_tie rfl ⟨rfl, rfl⟩ (by kernel_rfl) rfl plain (by kernel_rfl)
#print axioms card
end Go.Proofs.YtjjneldijeckcaaDoor.valLaws
