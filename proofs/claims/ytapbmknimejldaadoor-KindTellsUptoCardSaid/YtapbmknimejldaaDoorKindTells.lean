/- Of the law KindTells: the card Rows.KindTellsUptoCardSaid: where what it reads is of bulk at most 1048576, whatever the operation, the types, the expression and the columns, it returns true. -/
import Derived.Test.YtapbmknimejldaaDoorFrame
import Derived.Test.YtapbmknimejldaaDoorRefOf
import Derived.Test.YtapbmknimejldaaDoorTold
import Derived.Test.YtapbmknimejldaaDoorLaidErr
import Derived.Test.YtapbmknimejldaaDoorCards
import Derived.Test.YtapbmknimejldaaDoorTie
import Derived.Test.YtapbmknimejldaaDoorOpenExN
import Derived.Test.YtapbmknimejldaaDoorOpenInts
import Derived.Test.YtapbmknimejldaaDoorOpenCols
import Derived.LaidLaws
import Derived.LaidMore
import Derived.LaidHandle
import Derived.Stop.Joined
import Derived.SevenTiedAt
import Derived.Deep.DeepWitnessRowRef
import Derived.Deep.DeepHandedRow
namespace Go.Proofs.YtapbmknimejldaaDoor.kindTells
open Go.ChangeShapes Go.WideShapes Go.ChangeAt Go.RowKit

theorem errIs (k : Int) : ErrIs (errV k) k := by
  by_cases h : k = 0
  · subst h; exact Or.inl ⟨rfl, rfl⟩
  · exact Or.inr ⟨errV_ne h, h⟩
theorem kops_any (w : World) (hO : OpsT w) : Calls Tryd.prog 27 #[] w fun e w' => ∃ A c, e = .returned (.slice A 17 c) ∧ Sees w' A 17 c 1 (strCells opsB) ∧ Below w.heap.size w w' := by
  have T := Lib.hid (Tryd.slices_Clone_string 0 0 17 17 opsB w (Nat.le_refl _) (by decide) (by
    intro j hj
    rw [Nat.zero_add]
    obtain ⟨g, o, hgo, hg, hc⟩ := hO.2.2.2.2 (by decide)
    cases hgo
    have := hc j (.string (opsB.getD j ByteArray.empty)) (by rw [strCells_get (List.getElem?_eq_getElem hj)]; simp [List.getD, List.getElem?_eq_getElem hj])
    rwa [Nat.zero_add] at this))
  clear hO
  go_enter Tryd.func27, Tryd.ntmps27
  go_wp2_with fail
  refine (T.out).mono ?_
  rintro e w1 ⟨v', rfl, hown, _, hb⟩
  rw [List.take_of_length_le (show opsB.length ≤ 17 from Nat.le_refl _)] at hown
  obtain ⟨A, c, rfl, hs⟩ := Sees.of_own hown
  have HS := Lib.hid hs
  have HB := Lib.hid hb
  clear hown hs hb
  go_wp2_with fail
  go_ret
  exact ⟨A, c, rfl, HS.out, HB.out⟩
theorem rops_any (w : World) : Calls Tryd.prog 28 #[] w fun e w' => ∃ A c, e = .returned (.slice A 17 c) ∧ Sees w' A 17 c 1 (strCells opsB) ∧ Below w.heap.size w w' := by
  go_enter Tryd.func28, Tryd.ntmps28
  go_wp2_with fail
  go_ret
  exact ⟨_, _, rfl, seesNew w (strCells opsB) _ 17 1 rfl (by decide), belowNew _ _⟩
set_option maxHeartbeats 1000000 in
theorem texts_same (zs : List ByteArray) (A B : Option Addr) (n c d : Nat) (w : World) (hA : Sees w A n c 1 (strCells zs)) (hB : Sees w B n d 1 (strCells zs)) :
    Calls Tryd.prog 26 #[.slice A n c, .slice B n d] w fun e w' => e = .returned (.bool true) ∧ Below w.heap.size w w' := by
  have HA := Lib.hid hA
  have HB := Lib.hid hB
  have h1 := hA.2.1
  have h2 := hA.2.2.1
  have h3 := hB.2.1
  have h4 := hB.2.2.1
  unfold maxLen at h2 h4
  clear hA hB
  go_enter Tryd.func26, Tryd.ntmps26
  go_wp2_with fail
  go_loopw [4, 5] (fun _ i wr => ∃ k : Nat, k ≤ n ∧ i = .int .i64 k ∧ Below w.heap.size w wr) (fun _ i _ => n - (intOf i).toNat)
  case atStart => exact ⟨0, by omega, rfl, Below.refl _ _⟩
  case round =>
    obtain ⟨k, hk, rfl, hb⟩ := hrel
    have HBR := Lib.hid hb
    by_cases hlk : k < n
    · obtain ⟨g, o, z, rfl, hz, c1⟩ := strs_at (HA.out.keep hb) hlk
      obtain ⟨g2, o2, z2, rfl, hz2, c2⟩ := strs_at (HB.out.keep hb) hlk
      obtain rfl : z2 = z := by have := hz2.symm.trans hz; injection this
      clear hb hz hz2
      go_wp2_with fail
      go_quiet (fail)
      have HBZ := Lib.hid (below_drewN HBR.out nq)
      generalize wr.drewN nq = wz at HBZ ⊢
      go_wp2_with fail
      go_roundw
      case rel => exact ⟨k + 1, by omega, by go_num, HBZ.out⟩
      case measure => simp [intOf]; omega
    · obtain rfl : n = k := by omega
      clear hb
      go_wp2_with fail
      go_ret
      exact ⟨rfl, HBR.out⟩

set_option maxHeartbeats 2000000 in
set_option maxRecDepth 100000 in
theorem walk (s : ByteArray) (ts : List Int) (I : Option Addr) (ni ci : Nat) (e : Ex) (C : Option Addr) (p q : Nat) (cols : List Col) (w : World) (hG : ErrT w) (hT : Tables w) (hI : Sees w I ni ci 1 (intCells ts))
    (he : SeesEx w e) (hN : exN e ≤ 1048576) (hC : SeesCols w C p q cols) (hs : ∀ x ∈ cols, x.name.size ≤ maxLen) :
    Calls Tryd.prog 7 #[.string s, .slice I ni ci, exV e, .slice C p q] w fun e w' => e = .returned (.bool true) ∧ Below w.heap.size w w' := by
  obtain ⟨op, name, v, A, c, args, pos⟩ := e
  have hb0 : Below w.heap.size w (w.alloc (.cells #[.string op, .string name, .int .i64 v.type, .int .i64 v.n, .string v.s, .slice A args.length c, .int .i64 pos] 44)) := belowNew _ _
  have HE := Lib.hid (he.keep hb0)
  have HG := Lib.hid (hG.keep hb0)
  have HT := Lib.hid (hT.keep hb0)
  have HI := Lib.hid (hI.keep hb0)
  have HCo := Lib.hid (hC.keep hb0)
  have HB := Lib.hid hb0
  have CE := Lib.hid (fun (w1 : World) (hb : Below (w.alloc (.cells #[.string op, .string name, .int .i64 v.type, .int .i64 v.n, .string v.s, .slice A args.length c, .int .i64 pos] 44)).heap.size (w.alloc (.cells #[.string op, .string name, .int .i64 v.type, .int .i64 v.n, .string v.s, .slice A args.length c, .int .i64 pos] 44)) w1) (j : Nat) (u : Value) (hu : (#[.string op, .string name, .int .i64 v.type, .int .i64 v.n, .string v.s, .slice A args.length c, .int .i64 pos] : Array Value)[j]? = some u) => (hb.cell (p := ⟨w.heap.size, j, none⟩) (by simp)).trans (show (w.alloc (.cells #[.string op, .string name, .int .i64 v.type, .int .i64 v.n, .string v.s, .slice A args.length c, .int .i64 pos] 44)).cell? ⟨w.heap.size, j, none⟩ = some u by rw [cell_of_row _ _ _ _ _ _ (heap_alloc_new w _)]; exact hu))
  have TR := Lib.hid (fun w' (hb : Below (w.alloc (.cells #[.string op, .string name, .int .i64 v.type, .int .i64 v.n, .string v.s, .slice A args.length c, .int .i64 pos] 44)).heap.size (w.alloc (.cells #[.string op, .string name, .int .i64 v.type, .int .i64 v.n, .string v.s, .slice A args.length c, .int .i64 pos] 44)) w') => show Calls Tryd.prog 29 #[.agg #[.string op, .string name, .int .i64 v.type, .int .i64 v.n, .string v.s, .slice A args.length c, .int .i64 pos], .slice C p q] w' _ from rof_any (.mk op name v A c args pos) C p q cols w' (HCo.out.keep hb) hs (HE.out.keep hb) hN)
  have TK := Lib.hid (fun w' (hb : Below (w.alloc (.cells #[.string op, .string name, .int .i64 v.type, .int .i64 v.n, .string v.s, .slice A args.length c, .int .i64 pos] 44)).heap.size (w.alloc (.cells #[.string op, .string name, .int .i64 v.type, .int .i64 v.n, .string v.s, .slice A args.length c, .int .i64 pos] 44)) w') => show Calls Tryd.prog 14 #[.agg #[.string op, .string name, .int .i64 v.type, .int .i64 v.n, .string v.s, .slice A args.length c, .int .i64 pos], .slice C p q] w' _ from typeOf_any (.mk op name v A c args pos) C p q cols w' (HT.out.keep hb) (HCo.out.keep hb) hs (HE.out.keep hb))
  clear hb0 he hG hT hI hC hs hN
  show Calls Tryd.prog 7 #[.string s, .slice I ni ci, .agg #[.string op, .string name, .int .i64 v.type, .int .i64 v.n, .string v.s, .slice A args.length c, .int .i64 pos], .slice C p q] w _
  generalize args.length = n at HE HG HT HI HCo HB CE TR TK ⊢
  generalize hw0 : w.alloc (.cells #[.string op, .string name, .int .i64 v.type, .int .i64 v.n, .string v.s, .slice A n c, .int .i64 pos] 44) = w0 at HE HG HT HI HCo HB CE TR TK
  have HW0 := Lib.hid hw0
  clear hw0
  generalize typeOf cols (.mk op name v A c args pos) = r at TR TK
  obtain ⟨rt, rh, rp⟩ := r
  have T1 := Lib.hid (rrule_any s ts I ni ci w0 HI.out)
  go_enter Tryd.func7, Tryd.ntmps7
  go_wp2_with (first | rw [HW0.out])
  refine (T1.out).mono ?_
  rintro e' w1 ⟨rfl, hb1⟩
  have HB1 := Lib.hid hb1
  have T2 := Lib.hid (rule_any s ts I ni ci w1 (HT.out.keep hb1).ops (HT.out.keep hb1).lev (HI.out.keep hb1))
  generalize ruleTy s ts = ty at T2 ⊢
  generalize ruleErr s ts = ek at T2 ⊢
  clear hb1 T1
  go_wp2_with fail
  refine (T2.out).mono ?_
  rintro e' w2 ⟨rfl, hb2⟩
  have HB2 := Lib.hid (below_step HB1.out hb2)
  have T3 := Lib.hid (same_err (errV ek) ek ek w2 (HG.out.keep HB2.out) (errIs ek))
  generalize errV ek = ev at T3 ⊢
  clear hb2 T2
  go_wp2_with fail
  refine (T3.out).mono ?_
  rintro e' w3 ⟨rfl, hb3⟩
  have HB3 := Lib.hid (below_step HB2.out hb3)
  have T4 := Lib.hid (kops_any w3 (HT.out.keep HB3.out).ops)
  clear hb3 T3
  go_wp2_with fail
  refine (T4.out).mono ?_
  rintro e' w4 ⟨A4, c4, rfl, hs4, hb4⟩
  have HB4 := Lib.hid (below_step HB3.out hb4)
  have HS4 := Lib.hid hs4
  have T5 := Lib.hid (rops_any w4)
  clear hb4 hs4 T4
  go_wp2_with fail
  refine (T5.out).mono ?_
  rintro e' w5 ⟨A5, c5, rfl, hs5, hb5⟩
  have HB5 := Lib.hid (below_step HB4.out hb5)
  have T6 := Lib.hid (texts_same opsB A4 A5 17 c4 c5 w5 (HS4.out.keep hb5) hs5)
  clear hb5 hs5 T5
  go_wp2_with fail
  refine (T6.out).mono ?_
  rintro e' w6 ⟨rfl, hb6⟩
  have HB6 := Lib.hid (below_step HB5.out hb6)
  have T7 := Lib.hid (TR.out w6 HB6.out)
  have d0 := CE.out w6 HB6.out 0 _ rfl
  have d1 := CE.out w6 HB6.out 1 _ rfl
  have d2 := CE.out w6 HB6.out 2 _ rfl
  have d3 := CE.out w6 HB6.out 3 _ rfl
  have d4 := CE.out w6 HB6.out 4 _ rfl
  have d5 := CE.out w6 HB6.out 5 _ rfl
  have d6 := CE.out w6 HB6.out 6 _ rfl
  clear hb6 T6
  go_wp2_with fail
  refine (T7.out).mono ?_
  rintro e' w7 ⟨rfl, hb7⟩
  have HB7 := Lib.hid (below_step HB6.out hb7)
  have T8 := Lib.hid (TK.out w7 HB7.out)
  clear d0 d1 d2 d3 d4 d5 d6
  have d0 := CE.out w7 HB7.out 0 _ rfl
  have d1 := CE.out w7 HB7.out 1 _ rfl
  have d2 := CE.out w7 HB7.out 2 _ rfl
  have d3 := CE.out w7 HB7.out 3 _ rfl
  have d4 := CE.out w7 HB7.out 4 _ rfl
  have d5 := CE.out w7 HB7.out 5 _ rfl
  have d6 := CE.out w7 HB7.out 6 _ rfl
  clear hb7 T7
  unfold tripV
  go_wp2_with fail
  refine (T8.out).mono ?_
  rintro e' w8 ⟨rfl, hb8⟩
  have HB8 := Lib.hid (below_step HB7.out (below_step hb8 (belowNew w8 (.cells #[.int .i64 rh, .int .i64 rp] 40))))
  clear hb8 T8
  unfold resV
  go_wp2_with fail
  go_ret
  exact ⟨by simp, below_step HB.out HB8.out⟩

set_option maxRecDepth 100000 in
theorem contract (H : Type) (enc : TypeId × Value → H) (W : World) (base : Nat) (args : Array Value) (ds gs : List (DataW H)) (before : List MemPlace)
    (hval : ∀ (j : Nat) t v, Tryd.f7.params[j]? = some t → args[j]? = some v → Value.okWide Tryd.prog W .any base t v)
    (hW : DataW.Whole enc Tryd.prog Tryd.f7.params.toList Rows.kindTellsSpec.vars false W args.toList ds gs before)
    (hsz : (DataW.weightsEach Tryd.prog (Tryd.f7.params.toList ++ (Rows.OpenSpec.upto Rows.kindTellsSpec).bare.plain.varTypes Tryd.prog) (ds ++ gs)).all (· ≤ reachBytes) = true) (hL : laidMetH Tryd.prog Rows.kindTellsUptoRow.laid W) (hk : Rows.uptoSmall H (ds ++ gs) = true) :
    Calls Tryd.prog 7 args W fun e W' => ∃ v, e = .returned v ∧ Rows.kindTellsSpec.post enc Tryd.prog Tryd.f7 false true false false W args v W' := by
  have hW' := hW
  obtain ⟨p, q, hA0, hV, rfl, hfz, hnd⟩ := hW
  have hA : DataW.TrodAll enc Tryd.prog W 0 (fun _ => true) true Tryd.f7.params.toList args.toList ds p := hA0
  rw [Tryd.params7] at hA hval
  obtain ⟨v0, vs0, d0, ds0, p0, q0, hargs, rfl, rfl, h0, r0⟩ := trodAll_cons hA
  obtain ⟨v1, vs1, d1, ds1, p1, q1, rfl, rfl, rfl, h1, r1⟩ := trodAll_cons r0
  obtain ⟨v2, vs2, d2, ds2, p2, q2, rfl, rfl, rfl, h2, r2⟩ := trodAll_cons r1
  obtain ⟨v3, vs3, d3, ds3, p3, q3, rfl, rfl, rfl, h3, r3⟩ := trodAll_cons r2
  obtain ⟨rfl, rfl, rfl⟩ := trodAll_nil r3
  obtain rfl : args = #[v0, v1, v2, v3] := by cases args; simp_all
  obtain ⟨rfl, rfl⟩ := trodVars_none hV
  obtain ⟨a0, rfl, rfl, rfl, w0⟩ := Go.ChangeMaps.open_string Tryd.underlying9 (hval 0 9 v0 rfl rfl) h0
  have hv1 := hval 1 23 v1 rfl rfl
  have hv2 := hval 2 44 v2 rfl rfl
  have hv3 := hval 3 37 v3 rfl rfl
  obtain ⟨I, ni, ci, ts, rfl, hI, _⟩ := open_ints (okWide_slice Tryd.underlying23 hv1) h1
  obtain ⟨e, rfl, he, hne⟩ := open_exn hv2 h2
  obtain ⟨C, p, q, cols, rfl, hC, hcs⟩ := open_cols (okWide_slice Tryd.underlying37 hv3) h3
  have hbk : Rows.uptoBulkAll _ ≤ 1048576 := of_decide_eq_true hk
  have hN : exN e ≤ 1048576 := by simp only [List.append_nil, Rows.uptoBulkAll] at hbk; omega
  have hL0 : laidMet Tryd.prog [("sluicebook/tree.words", Rows.laid_sluicebook_tree_words), ("sluicebook/tree.levels", Rows.laid_sluicebook_tree_levels), ("sluicebook/kind.ops", Rows.laid_sluicebook_kind_ops)] W ∧ handlesMet Tryd.prog [("errors.errorType", Rows.laid_errors_errorType)] W := hL
  refine (walk a0 ts I ni ci e C p q cols W (errT_of_laid (show laidMetH Tryd.prog [("errors.errorType", Rows.laid_errors_errorType)] W from ⟨laidMet_nil _ _, hL0.2⟩)) ⟨levelsT_of hL0.1 (.tail _ (.head _)), opsT_of hL0.1 (.tail _ (.tail _ (.head _))), wordsT_of hL0.1 (.head _)⟩ hI he hN hC (fun x hx => (hcs x hx).1)).mono fun e W' ⟨he, hb⟩ => ?_
  subst he
  exact ⟨_, rfl, law_post laidOut Tryd.underlying4 (by kernel_rfl) rfl (by rw [Tryd.params7]; intro t ht; simp only [List.mem_cons, List.not_mem_nil, or_false] at ht; rcases ht with rfl | rfl | rfl | rfl; all_goals exact ⟨by kernel_rfl, of_decide_eq_true (by kernel_rfl)⟩) hW' rfl hb⟩

theorem reads (os : Os) {H : Type} (enc : TypeId × Value → H) : ∃ places, DataW.whole enc Tryd.prog ((World.doorLaid Tryd.prog 4000 os).forCall (fun _ _ => 0) ⟨#[], #[.string .empty, .slice none 0 0, .agg #[.string .empty, .string .empty, .int .i64 0, .int .i64 0, .string .empty, .slice none 0 0, .int .i64 0], .slice none 0 0], []⟩).memory Tryd.f7.params.toList Rows.kindTellsSpec.vars false (#[.string .empty, .slice none 0 0, .agg #[.string .empty, .string .empty, .int .i64 0, .int .i64 0, .string .empty, .slice none 0 0, .int .i64 0], .slice none 0 0] : Array Value).toList 8 = some ([.lit (.string []), .nil, .agg [.lit (.string []), .lit (.string []), .agg [.lit (.int .i64 0), .lit (.int .i64 0), .lit (.string [])], .nil, .lit (.int .i64 0)], .nil], [], places) :=
  ⟨[], by kernel_rfl⟩

set_option maxRecDepth 100000 in
theorem lifted (os : Os) (started : os.Started) (H : Type) (enc : TypeId × Value → H) (F : Stop.Interp) :
    ReturnsInHanded {} Tryd.checked os 7 .any ((Rows.OpenSpec.upto Rows.kindTellsSpec).preRow enc Tryd.prog Tryd.f7 Rows.kindTellsUptoRow.domain false Rows.kindTellsUptoRow.laid) (((Rows.OpenSpec.upto Rows.kindTellsSpec).at F).post enc Tryd.prog Tryd.f7 false true false false) := by
  obtain ⟨places, hx⟩ := reads os enc
  refine returnsInHanded_of_row (C := Tryd.checked) (s := Rows.OpenSpec.upto Rows.kindTellsSpec) own started (by kernel_rfl) Tryd.func7
    (witness_row_atRef (enc := enc) (C := Tryd.checked) false (World.doorLaid Tryd.prog 4000 os) #[.string .empty, .slice none 0 0, .agg #[.string .empty, .string .empty, .int .i64 0, .int .i64 0, .string .empty, .slice none 0 0, .int .i64 0], .slice none 0 0] rfl (by kernel_rfl) (by kernel_rfl) (by kernel_rfl)
      (OpenSpec.preRow_of_cond 8 hx (by kernel_rfl) (fun k hk => by cases hk; kernel_rfl) (by kernel_rfl) (laidMetH_of_parts (laidMet_of_run' 12 (by kernel_rfl) (by kernel_rfl)) (by kernel_rfl)))) ?_
  intro W base args ds gs before hval hW _ hcond hsz hL _ _
  exact contract H enc W base args ds gs before hval hW hsz hL (hcond _ rfl)

theorem said : Rows.KindTellsUptoSaid :=
  OpenClaim.holds_of_cond 7 Tryd.f7 rfl rfl rfl rfl rfl rfl rfl ⟨rfl, rfl, rfl, rfl, rfl⟩ rfl rfl rfl rfl rfl (by kernel_rfl) Tryd.func7 (by kernel_rfl)
    (of_decide_eq_true (by kernel_rfl)) (by unfold Func.isWrapper; first | (rw [if_pos (by decide +kernel)]; kernel_rfl) | (rw [if_neg (by decide +kernel)]; exact ⟨rfl, rfl⟩))
    (fun os started H enc _ F => by rw [OpenClaim.pre_eq_preRow]; exact lifted os started H enc F)

theorem plain (f : FuncId) (fn : Func) (hf : Tryd.pinned.checked.prog.funcNamed "sluicebook/sluicelaw1.KindTells" = some f) (hfn : Tryd.pinned.checked.prog.funcs[f]? = some fn) :
    true = Tryd.pinned.checked.prog.looks [] ∧ ∀ (j : Nat) t, fn.params[j]? = some t → Tryd.pinned.checked.prog.wantsStandIn t = false := by
  obtain rfl : f = 7 := Option.some.inj ((show Tryd.prog.funcNamed "sluicebook/sluicelaw1.KindTells" = some 7 by kernel_rfl).symm.trans hf) |>.symm
  obtain rfl : fn = Tryd.f7 := (Option.some.inj (Tryd.func7.symm.trans hfn)).symm
  refine ⟨by kernel_rfl, fun j t ht => ?_⟩
  rw [Tryd.params7] at ht
  have hm := Array.mem_of_getElem? ht
  simp only [List.mem_toArray, List.mem_cons, List.not_mem_nil, or_false] at hm
  rcases hm with rfl | rfl | rfl | rfl
  · exact (show Tryd.prog.wantsStandIn 9 = false by kernel_rfl)
  · exact (show Tryd.prog.wantsStandIn 23 = false by kernel_rfl)
  · exact (show Tryd.prog.wantsStandIn 44 = false by kernel_rfl)
  · exact (show Tryd.prog.wantsStandIn 37 = false by kernel_rfl)

theorem card : Rows.KindTellsUptoCardSaid :=
  Claim7.holds_tied_plain_at .later [] _ _ _ _ said (fun _ h => by cases h) (by kernel_rfl) (fun _ h => by cases h) kindTellsUpto_row_tie rfl ⟨rfl, rfl⟩ (by kernel_rfl) rfl plain (by kernel_rfl)
#print axioms card
end Go.Proofs.YtapbmknimejldaaDoor.kindTells
