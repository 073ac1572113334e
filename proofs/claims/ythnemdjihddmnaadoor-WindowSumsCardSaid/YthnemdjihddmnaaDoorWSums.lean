/- Of the law WindowSums: the card Rows.WindowSumsCardSaid, without any condition of ours: whatever the three numbers, it returns true. -/
import Derived.Test.YthnemdjihddmnaaDoorFrame
import Derived.Test.YthnemdjihddmnaaDoorWindow
import Derived.Test.YthnemdjihddmnaaDoorLaidErr
import Derived.Deep.DeepHandedRow
namespace Go.Proofs.YthnemdjihddmnaaDoor.wsums
open Go.ChangeShapes Go.WideShapes Go.ChangeAt Go.RowKit
open Win

theorem fact_list : wins 1 (fst 5 1 0) (idx 5 1 (0 + 5)) = [0] := by decide
theorem fact_ok : winOk 5 1 := by unfold winOk; omega

/-- Of a size of so many slides: how many windows hold a time. -/
theorem count_sum {a slide many : Int} (h : 1 ≤ slide) (hm : 1 ≤ many) (h0 : 0 ≤ a) :
    ((wins slide (fst (slide * many) slide a) (idx (slide * many) slide (a + slide * many))).length : Int) = if a / slide + 1 < many then a / slide + 1 else many := by
  rw [wins_length, fst_eq h]
  unfold idx
  have e1 : a + slide * many - slide * many = a := by omega
  have e2 : (a - slide * many) / slide = a / slide - many := by
    have : a - slide * many = a + slide * (-many) := by rw [Int.mul_neg]; omega
    rw [this, Int.add_mul_ediv_left _ _ (by omega)]; omega
  rw [e1, e2]
  have := Int.ediv_nonneg (a := a) (b := slide) h0 (by omega)
  split <;> omega

set_option maxHeartbeats 2000000 in
set_option maxRecDepth 100000 in
theorem walk (a slide many : Int) (w : World) (hg : ErrT w) :
    Calls Tryd.prog 3 #[.int .i64 a, .int .i64 slide, .int .i64 many] w fun e w' => e = .returned (.bool true) ∧ Below w.heap.size w w' := by
  have HG := Lib.hid hg
  clear hg
  go_enter Tryd.func3, Tryd.ntmps3
  go_wp2_with fail
  refine (wstarts_ok 0 5 1 _ fact_ok (by omega) (by omega)).mono ?_
  rintro e w1 ⟨v, rfl, hown, hb⟩
  rw [fact_list] at hown
  obtain ⟨A0, c, rfl, hsee⟩ := Sees.of_own hown
  obtain ⟨g, o, rfl, hg2, hcell⟩ := hsee.2.2.2.2 (by decide)
  have hc1 := hsee.2.1
  have hc2 := hsee.2.2.1
  have c0 : w1.cell? ⟨g, o, none⟩ = some (.int .i64 0) := hcell 0 _ rfl
  have B1 := Lib.hid hb
  clear hcell hown hb hsee
  unfold maxLen at hc2
  by_cases hin : 1 ≤ many ∧ many ≤ 10 ∧ 1 ≤ slide ∧ slide ≤ 100
  · obtain ⟨m1, m2, m3, m4⟩ := hin
    have d1 : decide (many < 1) = false := by simp; omega
    have d2 : decide (10 < many) = false := by simp; omega
    have d3 : decide (slide < 1) = false := by simp; omega
    have d4 : decide (100 < slide) = false := by simp; omega
    have hp : slide * many ≤ 100 * 10 := Int.mul_le_mul m4 m2 (by omega) (by omega)
    have hp2 : slide ≤ slide * many := by have := Int.mul_le_mul_of_nonneg_left m1 (show 0 ≤ slide by omega); omega
    have hp3 : slide * many ≤ slide * 10 := Int.mul_le_mul_of_nonneg_left m2 (by omega)
    have hok := Lib.hid (show winOk (slide * many) slide from ⟨by omega, by omega, m3, by omega, by omega⟩)
    by_cases ha : 0 ≤ a ∧ a ≤ 1000000
    · obtain ⟨a1, a2⟩ := ha
      have d5 : decide (a < 0) = false := by simp; omega
      have d6 : decide (1000000 < a) = false := by simp; omega
      have hq := Int.ediv_nonneg (a := a) (b := slide) a1 (by omega)
      have hq2 := Int.ediv_le_self slide a1
      go_wp2_with fail
      refine (wstarts_ok a (slide * many) slide _ hok.out a1 a2).mono ?_
      rintro e w2 ⟨v, rfl, hown, hb⟩
      obtain ⟨A2, c2, rfl, hsee⟩ := Sees.of_own hown
      have CS := Lib.hid (count_sum m3 m1 a1)
      have B2 := Lib.hid (below_step B1.out hb)
      clear hown hsee hb
      generalize (wins slide (fst (slide * many) slide a) (idx (slide * many) slide (a + slide * many))).length = n at CS ⊢
      by_cases hlt : a / slide + 1 < many
      · have e1 := Lib.hid (show (n : Int) = a / slide + 1 by have := CS.out; rwa [if_pos hlt] at this)
        have e2 : ((n : Int) == a / slide + 1) = true := by simp [e1.out]
        go_wp2_with fail
        go_ret
        exact ⟨rfl, B2.out⟩
      · have e1 := Lib.hid (show (n : Int) = many by have := CS.out; rwa [if_neg hlt] at this)
        have e2 : ((n : Int) == many) = true := by simp [e1.out]
        go_wp2_with fail
        go_ret
        exact ⟨rfl, B2.out⟩
    · have hbad := Lib.hid (show ¬ (winOk (slide * many) slide ∧ 0 ≤ a ∧ a ≤ 1000000) from fun h => ha h.2)
      have G1 := Lib.hid (HG.out.keep B1.out)
      have hev : ErrIs (.iface 51 (.int .i64 1)) 1 := Or.inr ⟨rfl, by decide⟩
      have HE := Lib.hid hev
      clear hev
      by_cases a1 : a < 0
      · have d5 : decide (a < 0) = true := by simpa using a1
        clear ha
        go_wp2_with fail
        refine (wstarts_bad a (slide * many) slide _ hbad.out).mono ?_
        rintro e w2 ⟨rfl, rfl⟩
        go_wp2_with fail
        refine (same_err _ 1 1 _ G1.out HE.out).mono ?_
        rintro e w2 ⟨rfl, hb⟩
        go_wp2_with fail
        go_ret
        exact ⟨rfl, below_step B1.out hb⟩
      · have d5 : decide (a < 0) = false := by simpa using a1
        have d6 : decide (1000000 < a) = true := by simp; omega
        clear ha
        go_wp2_with fail
        refine (wstarts_bad a (slide * many) slide _ hbad.out).mono ?_
        rintro e w2 ⟨rfl, rfl⟩
        go_wp2_with fail
        refine (same_err _ 1 1 _ G1.out HE.out).mono ?_
        rintro e w2 ⟨rfl, hb⟩
        go_wp2_with fail
        go_ret
        exact ⟨rfl, below_step B1.out hb⟩
  · have HI := Lib.hid hin
    clear hin
    by_cases t1 : many < 1
    · have d1 : decide (many < 1) = true := by simpa using t1
      go_wp2_with fail
      go_ret
      exact ⟨rfl, B1.out⟩
    · have d1 : decide (many < 1) = false := by simpa using t1
      by_cases t2 : 10 < many
      · have d2 : decide (10 < many) = true := by simpa using t2
        go_wp2_with fail
        go_ret
        exact ⟨rfl, B1.out⟩
      · have d2 : decide (10 < many) = false := by simpa using t2
        by_cases t3 : slide < 1
        · have d3 : decide (slide < 1) = true := by simpa using t3
          go_wp2_with fail
          go_ret
          exact ⟨rfl, B1.out⟩
        · have d3 : decide (slide < 1) = false := by simpa using t3
          have d4 : decide (100 < slide) = true := by have := HI.out; simp; omega
          go_wp2_with fail
          go_ret
          exact ⟨rfl, B1.out⟩

set_option maxRecDepth 100000 in
theorem contract (H : Type) (enc : TypeId × Value → H) (W : World) (base : Nat) (args : Array Value) (ds gs : List (DataW H)) (before : List MemPlace)
    (hval : ∀ (j : Nat) t v, Tryd.f3.params[j]? = some t → args[j]? = some v → Value.okWide Tryd.prog W .any base t v)
    (hW : DataW.Whole enc Tryd.prog Tryd.f3.params.toList Rows.windowSumsSpec.vars false W args.toList ds gs before)
    (hsz : (DataW.weightsEach Tryd.prog (Tryd.f3.params.toList ++ (OpenSpec.ofChange Rows.windowSumsSpec).bare.plain.varTypes Tryd.prog) (ds ++ gs)).all (· ≤ reachBytes) = true) (hL : laidMetH Tryd.prog Rows.windowSumsRow.laid W) :
    Calls Tryd.prog 3 args W fun e W' => ∃ v, e = .returned v ∧ Rows.windowSumsSpec.post enc Tryd.prog Tryd.f3 false true false false W args v W' := by
  have hW' := hW
  obtain ⟨p, q, hA0, hV, rfl, hfz, hnd⟩ := hW
  have hA : DataW.TrodAll enc Tryd.prog W 0 (fun _ => true) true Tryd.f3.params.toList args.toList ds p := hA0
  rw [Tryd.params3] at hA hval
  obtain ⟨v0, vs0, d0, ds0, p0, q0, hargs, rfl, rfl, h0, r0⟩ := trodAll_cons hA
  obtain ⟨v1, vs1, d1, ds1, p1, q1, rfl, rfl, rfl, h1, r1⟩ := trodAll_cons r0
  obtain ⟨v2, vs2, d2, ds2, p2, q2, rfl, rfl, rfl, h2, r2⟩ := trodAll_cons r1
  obtain ⟨rfl, rfl, rfl⟩ := trodAll_nil r2
  obtain rfl : args = #[v0, v1, v2] := by cases args; simp_all
  obtain ⟨rfl, rfl⟩ := trodVars_none hV
  obtain ⟨a0, rfl, rfl, rfl, w0⟩ := open_int Tryd.underlying3 (hval 0 3 v0 rfl rfl) h0
  obtain ⟨a1, rfl, rfl, rfl, w1⟩ := open_int Tryd.underlying3 (hval 1 3 v1 rfl rfl) h1
  obtain ⟨a2, rfl, rfl, rfl, w2⟩ := open_int Tryd.underlying3 (hval 2 3 v2 rfl rfl) h2
  refine (walk a0 a1 a2 W (errT_of_laid hL)).mono fun e W' ⟨he, hb⟩ => ?_
  subst he
  exact ⟨_, rfl, law_post laidOut Tryd.underlying4 (by kernel_rfl) rfl (by rw [Tryd.params3]; intro t ht; simp only [List.mem_cons, List.not_mem_nil, or_false] at ht; rcases ht with rfl | rfl | rfl; all_goals exact ⟨by kernel_rfl, of_decide_eq_true (by kernel_rfl)⟩) hW' rfl hb⟩

theorem reads (os : Os) {H : Type} (enc : TypeId × Value → H) : ∃ places, DataW.whole enc Tryd.prog ((laidWorld_err os).forCall (fun _ _ => 0) ⟨#[], #[.int .i64 0, .int .i64 0, .int .i64 0], []⟩).memory Tryd.f3.params.toList Rows.windowSumsSpec.vars false (#[.int .i64 0, .int .i64 0, .int .i64 0] : Array Value).toList 8 = some ([.lit (.int .i64 0), .lit (.int .i64 0), .lit (.int .i64 0)], [], places) :=
  ⟨[], by kernel_rfl⟩

set_option maxRecDepth 100000 in
theorem lifted (os : Os) (started : os.Started) (H : Type) (enc : TypeId × Value → H) (F : Stop.Interp) :
    ReturnsInHanded {} Tryd.checked os 3 .any ((OpenSpec.ofChange Rows.windowSumsSpec).preRow enc Tryd.prog Tryd.f3 Rows.windowSumsRow.domain false Rows.windowSumsRow.laid) (((OpenSpec.ofChange Rows.windowSumsSpec).at F).post enc Tryd.prog Tryd.f3 false true false false) := by
  obtain ⟨places, hx⟩ := reads os enc
  refine returnsInHanded_of_row (C := Tryd.checked) (s := OpenSpec.ofChange Rows.windowSumsSpec) own started (by kernel_rfl) Tryd.func3
    (witness_row_at (enc := enc) (C := Tryd.checked) false (laidWorld_err os) #[.int .i64 0, .int .i64 0, .int .i64 0] rfl (by kernel_rfl) (by kernel_rfl) (by kernel_rfl)
      (OpenSpec.preRow_of_cond 8 hx (by kernel_rfl) (fun k hk => by cases hk) (by kernel_rfl) (laid_met_err os _))) ?_
  intro W base args ds gs before hval hW _ _ hsz hL _ _
  exact contract H enc W base args ds gs before hval hW hsz hL

theorem said : Rows.WindowSumsSaid :=
  OpenClaim.holds_of_cond 3 Tryd.f3 rfl rfl rfl rfl rfl rfl rfl ⟨rfl, rfl, rfl, rfl, rfl⟩ rfl rfl rfl rfl rfl (by kernel_rfl) Tryd.func3 (by kernel_rfl)
    (of_decide_eq_true (by kernel_rfl)) (by unfold Func.isWrapper; first | (rw [if_pos (by decide +kernel)]; kernel_rfl) | (rw [if_neg (by decide +kernel)]; exact ⟨rfl, rfl⟩))
    (fun os started H enc _ F => by rw [OpenClaim.pre_eq_preRow]; exact lifted os started H enc F)

theorem plain (f : FuncId) (fn : Func) (hf : Tryd.pinned.checked.prog.funcNamed "sluicebook/sluicelaw4.WindowSums" = some f) (hfn : Tryd.pinned.checked.prog.funcs[f]? = some fn) :
    true = Tryd.pinned.checked.prog.looks [] ∧ ∀ (j : Nat) t, fn.params[j]? = some t → Tryd.pinned.checked.prog.wantsStandIn t = false := by
  obtain rfl : f = 3 := Option.some.inj ((show Tryd.prog.funcNamed "sluicebook/sluicelaw4.WindowSums" = some 3 by kernel_rfl).symm.trans hf) |>.symm
  obtain rfl : fn = Tryd.f3 := (Option.some.inj (Tryd.func3.symm.trans hfn)).symm
  refine ⟨by kernel_rfl, fun j t ht => ?_⟩
  rw [Tryd.params3] at ht
  have hm := Array.mem_of_getElem? ht
  simp only [List.mem_toArray, List.mem_cons, List.not_mem_nil, or_false] at hm
  rcases hm with rfl | rfl | rfl
  · exact (show Tryd.prog.wantsStandIn 3 = false by kernel_rfl)
  · exact (show Tryd.prog.wantsStandIn 3 = false by kernel_rfl)
  · exact (show Tryd.prog.wantsStandIn 3 = false by kernel_rfl)

theorem card : Rows.WindowSumsCardSaid :=
  Claim7.holds_tied_plain_at .later [] _ _ _ _ said (fun _ h => by cases h) (by kernel_rfl) (fun _ h => by cases h) windowSums_row_tie rfl ⟨rfl, rfl⟩ (by kernel_rfl) rfl plain (by kernel_rfl)
#print axioms card
end Go.Proofs.YthnemdjihddmnaaDoor.wsums
