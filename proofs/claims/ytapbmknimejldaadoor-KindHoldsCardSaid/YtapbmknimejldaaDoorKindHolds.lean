/- Of the law KindHolds: the card Rows.KindHoldsCardSaid, without any condition: whatever the expression, the columns and the row, it returns true. -/
import Derived.Test.YtapbmknimejldaaDoorFrame
import Derived.Test.YtapbmknimejldaaDoorEval
import Derived.Test.YtapbmknimejldaaDoorTold
import Derived.Test.YtapbmknimejldaaDoorLaidErr
import Derived.Test.YtapbmknimejldaaDoorCards
import Derived.Test.YtapbmknimejldaaDoorTie
import Derived.Test.YtapbmknimejldaaDoorOpenEx
import Derived.Test.YtapbmknimejldaaDoorOpenCols
import Derived.LaidLaws
import Derived.LaidMore
import Derived.LaidHandle
import Derived.Stop.Joined
import Derived.SevenTiedAt
import Derived.Deep.DeepWitnessRowRef
import Derived.Deep.DeepHandedRow
namespace Go.Proofs.YtapbmknimejldaaDoor.kindHolds
open Go.ChangeShapes Go.WideShapes Go.ChangeAt Go.RowKit

theorem errIs (k : Int) : ErrIs (errV k) k := by
  by_cases h : k = 0
  · subst h; exact Or.inl ⟨rfl, rfl⟩
  · exact Or.inr ⟨errV_ne h, h⟩
theorem fact1 : ruleTy ⟨#[60]⟩ [3, 3] = 2 := by decide
theorem fact2 : ruleErr ⟨#[60]⟩ [3, 3] = 0 := by decide
/-- What comes is right, or one fault is told. -/
theorem evalR_ways {cols : List Col} {r : List Val} {e : Ex} {w : World} (he : SeesEx w e) (hw : ∀ x ∈ r, x.wf) :
    ((typeOf cols e).h ≠ 0 ∧ (evalR cols r e).k = (typeOf cols e).h) ∨
    ((typeOf cols e).h = 0 ∧ rowErr cols r ≠ 0 ∧ (evalR cols r e).k = rowErr cols r) ∨
    ((typeOf cols e).h = 0 ∧ rowErr cols r = 0 ∧ EvOk (evalR cols r e) (typeOf cols e).t) := by
  unfold evalR
  by_cases h1 : (typeOf cols e).h = 0
  · rw [if_neg (by simp [h1])]
    by_cases h2 : rowErr cols r = 0
    · rw [if_neg (by simp [h2])]
      obtain ⟨t1, t2, _, _, t5⟩ := typeOf_ok h1
      refine Or.inr (Or.inr ⟨h1, h2, ?_⟩)
      rw [t5]
      exact ev_sound (rowErr_ok h2 hw).2 _ e (Nat.le_refl _) w he t1 t2
    · rw [if_pos h2]; exact Or.inr (Or.inl ⟨h1, h2, rfl⟩)
  · rw [if_pos h1]; exact Or.inl ⟨h1, rfl⟩

set_option maxHeartbeats 2000000 in
set_option maxRecDepth 100000 in
theorem walk (e : Ex) (C R : Option Addr) (p q y s : Nat) (cols : List Col) (r : List Val) (w : World) (hG : ErrT w) (hT : Tables w) (hC : SeesCols w C p q cols) (hs : ∀ x ∈ cols, x.name.size ≤ maxLen) (hR : SeesVals w R y s r) (hw : ∀ x ∈ r, x.wf) (he : SeesEx w e) :
    Calls Tryd.prog 10 #[exV e, .slice C p q, .slice R y s] w fun e w' => e = .returned (.bool true) ∧ Below w.heap.size w w' := by
  have WAYS := Lib.hid (evalR_ways (cols := cols) he hw)
  obtain ⟨op, name, v, A, c, args, pos⟩ := e
  have hb0 : Below w.heap.size w ((w.alloc (.cells #[.string op, .string name, .int .i64 v.type, .int .i64 v.n, .string v.s, .slice A args.length c, .int .i64 pos] 44)).alloc (.cells #[.int .i64 3, .int .i64 3] 3)) := ((Below.refl _ _).alloc (Nat.le_refl _) _).alloc (by simp) _
  have HE := Lib.hid (he.keep hb0)
  have HG := Lib.hid (hG.keep hb0)
  have HT := Lib.hid (hT.keep hb0)
  have HCo := Lib.hid (hC.keep hb0)
  have HRo := Lib.hid (hR.keep hb0)
  have HB := Lib.hid hb0
  have HW := Lib.hid hw
  have HSm := Lib.hid hs
  have CE := Lib.hid (fun (w1 : World) (hb : Below ((w.alloc (.cells #[.string op, .string name, .int .i64 v.type, .int .i64 v.n, .string v.s, .slice A args.length c, .int .i64 pos] 44)).alloc (.cells #[.int .i64 3, .int .i64 3] 3)).heap.size ((w.alloc (.cells #[.string op, .string name, .int .i64 v.type, .int .i64 v.n, .string v.s, .slice A args.length c, .int .i64 pos] 44)).alloc (.cells #[.int .i64 3, .int .i64 3] 3)) w1) (j : Nat) (u : Value) (hu : (#[.string op, .string name, .int .i64 v.type, .int .i64 v.n, .string v.s, .slice A args.length c, .int .i64 pos] : Array Value)[j]? = some u) =>
    (show w1.cell? ⟨w.heap.size, j, none⟩ = some u from (hb.cell (p := ⟨w.heap.size, j, none⟩) (by simp; omega)).trans (((Below.refl (w.alloc (.cells #[.string op, .string name, .int .i64 v.type, .int .i64 v.n, .string v.s, .slice A args.length c, .int .i64 pos] 44)).heap.size _).alloc (Nat.le_refl _) _).cell (p := ⟨w.heap.size, j, none⟩) (by simp) |>.trans (by rw [cell_of_row _ _ _ _ _ _ (heap_alloc_new w _)]; exact hu))))
  have TR0 := rule_any ⟨#[60]⟩ [3, 3] (some ⟨w.heap.size + 1, 0, none⟩) 2 2 ((w.alloc (.cells #[.string op, .string name, .int .i64 v.type, .int .i64 v.n, .string v.s, .slice A args.length c, .int .i64 pos] 44)).alloc (.cells #[.int .i64 3, .int .i64 3] 3)) HT.out.ops HT.out.lev (by
    refine ⟨rfl, Nat.le_refl _, by unfold maxLen; omega, (fun e => by cases e), fun _ => ⟨_, _, rfl, by simp, fun j u hu => ?_⟩⟩
    have hh := heap_alloc_new (w.alloc (.cells #[.string op, .string name, .int .i64 v.type, .int .i64 v.n, .string v.s, .slice A args.length c, .int .i64 pos] 44)) (.cells #[.int .i64 3, .int .i64 3] 3)
    rw [show (w.alloc (.cells #[.string op, .string name, .int .i64 v.type, .int .i64 v.n, .string v.s, .slice A args.length c, .int .i64 pos] 44)).heap.size = w.heap.size + 1 by simp] at hh
    rw [Nat.zero_add, cell_of_row _ _ _ _ _ _ hh, ← Array.getElem?_toList]
    exact hu)
  rw [fact1, fact2] at TR0
  have TR := Lib.hid TR0
  have TT := Lib.hid (fun w' (hb : Below ((w.alloc (.cells #[.string op, .string name, .int .i64 v.type, .int .i64 v.n, .string v.s, .slice A args.length c, .int .i64 pos] 44)).alloc (.cells #[.int .i64 3, .int .i64 3] 3)).heap.size ((w.alloc (.cells #[.string op, .string name, .int .i64 v.type, .int .i64 v.n, .string v.s, .slice A args.length c, .int .i64 pos] 44)).alloc (.cells #[.int .i64 3, .int .i64 3] 3)) w') => show Calls Tryd.prog 14 #[.agg #[.string op, .string name, .int .i64 v.type, .int .i64 v.n, .string v.s, .slice A args.length c, .int .i64 pos], .slice C p q] w' _ from typeOf_any (.mk op name v A c args pos) C p q cols _ (HT.out.keep hb) (HCo.out.keep hb) hs (HE.out.keep hb))
  have TE := Lib.hid (fun w' (hb : Below ((w.alloc (.cells #[.string op, .string name, .int .i64 v.type, .int .i64 v.n, .string v.s, .slice A args.length c, .int .i64 pos] 44)).alloc (.cells #[.int .i64 3, .int .i64 3] 3)).heap.size ((w.alloc (.cells #[.string op, .string name, .int .i64 v.type, .int .i64 v.n, .string v.s, .slice A args.length c, .int .i64 pos] 44)).alloc (.cells #[.int .i64 3, .int .i64 3] 3)) w') => show Calls Tryd.prog 32 #[.agg #[.string op, .string name, .int .i64 v.type, .int .i64 v.n, .string v.s, .slice A args.length c, .int .i64 pos], .slice C p q, .slice R y s] w' _ from eval_any (.mk op name v A c args pos) C R p q y s cols r w' (HT.out.keep hb) (HCo.out.keep hb) hs (HRo.out.keep hb) hw (HE.out.keep hb))
  show Calls Tryd.prog 10 #[.agg #[.string op, .string name, .int .i64 v.type, .int .i64 v.n, .string v.s, .slice A args.length c, .int .i64 pos], .slice C p q, .slice R y s] w _
  clear TR0 hG hT hC hR hw he hs hb0
  generalize args.length = n at HB HG HE HT HCo HRo CE TT TE TR ⊢
  generalize hw0 : ((w.alloc (.cells #[.string op, .string name, .int .i64 v.type, .int .i64 v.n, .string v.s, .slice A n c, .int .i64 pos] 44)).alloc (.cells #[.int .i64 3, .int .i64 3] 3)) = w0 at HE HB HG HT HCo HRo CE TT TE TR
  have HW0 := Lib.hid hw0
  clear hw0
  generalize typeOf cols (.mk op name v A c args pos) = tr at TT WAYS
  generalize evalR cols r (.mk op name v A c args pos) = xr at TE WAYS
  obtain ⟨rt, rh, rp⟩ := tr
  obtain ⟨xk, xv⟩ := xr
  go_enter Tryd.func10, Tryd.ntmps10
  go_wp2_with (first | rw [HW0.out])
  refine (TR.out).mono ?_
  rintro e' w1 ⟨rfl, hb1⟩
  rw [errV_zero]
  have HB1 := Lib.hid hb1
  have T1 := Lib.hid (TT.out w1 hb1)
  have d0 := CE.out w1 hb1 0 _ rfl
  have d1 := CE.out w1 hb1 1 _ rfl
  have d2 := CE.out w1 hb1 2 _ rfl
  have d3 := CE.out w1 hb1 3 _ rfl
  have d4 := CE.out w1 hb1 4 _ rfl
  have d5 := CE.out w1 hb1 5 _ rfl
  have d6 := CE.out w1 hb1 6 _ rfl
  clear hb1
  go_wp2_with fail
  refine (T1.out).mono ?_
  rintro e' w2 ⟨rfl, hb2⟩
  obtain ⟨w3, hw3⟩ : ∃ w3, w2.alloc (.cells #[.int .i64 rh, .int .i64 rp] 40) = w3 := ⟨_, rfl⟩
  have k0 : w3.cell? ⟨w2.heap.size, 0, none⟩ = some (.int .i64 rh) := by rw [← hw3]; simp
  have hl3 : w2.heap.size < w3.heap.size := by rw [← hw3]; simp
  have hb3 : Below w0.heap.size w0 w3 := by rw [← hw3]; exact below_step HB1.out (below_step hb2 ((Below.refl _ _).alloc (Nat.le_refl _) _))
  have HW3 := Lib.hid hw3
  have HB3 := Lib.hid hb3
  have HK0 := Lib.hid k0
  have T2 := Lib.hid (TE.out w3 hb3)
  clear d0 d1 d2 d3 d4 d5 d6 k0
  have d0 := CE.out w3 hb3 0 _ rfl
  have d1 := CE.out w3 hb3 1 _ rfl
  have d2 := CE.out w3 hb3 2 _ rfl
  have d3 := CE.out w3 hb3 3 _ rfl
  have d4 := CE.out w3 hb3 4 _ rfl
  have d5 := CE.out w3 hb3 5 _ rfl
  have d6 := CE.out w3 hb3 6 _ rfl
  clear hb2 hw3 hb3
  unfold resV
  go_wp2_with (first | rw [HW3.out])
  refine (T2.out).mono ?_
  rintro e' w4 ⟨rfl, hb4⟩
  obtain ⟨w5, hw5⟩ : ∃ w5, w4.alloc (.cells #[.int .i64 xv.type, .int .i64 xv.n, .string xv.s] 33) = w5 := ⟨_, rfl⟩
  have hb45 : Below w4.heap.size w4 w5 := by rw [← hw5]; exact (Below.refl _ _).alloc (Nat.le_refl _) _
  have i0 : w5.cell? ⟨w4.heap.size, 0, none⟩ = some (.int .i64 xv.type) := by rw [← hw5]; simp
  have i1 : w5.cell? ⟨w4.heap.size, 1, none⟩ = some (.int .i64 xv.n) := by rw [← hw5]; simp
  have i2 : w5.cell? ⟨w4.heap.size, 2, none⟩ = some (.string xv.s) := by rw [← hw5]; simp
  have hl5 : w4.heap.size < w5.heap.size := by rw [← hw5]; simp
  have hb35 := below_step hb4 hb45
  have k0 : w5.cell? ⟨w2.heap.size, 0, none⟩ = some (.int .i64 rh) := (hb35.cell (p := ⟨w2.heap.size, 0, none⟩) hl3).trans HK0.out
  have hb5 : Below w0.heap.size w0 w5 := below_step HB3.out hb35
  have HW5 := Lib.hid hw5
  have HB5 := Lib.hid hb5
  have HG5 := Lib.hid (HG.out.keep hb5)
  have HI := Lib.hid (And.intro i0 (And.intro i1 i2))
  clear d0 d1 d2 d3 d4 d5 d6 hb4 hw5 hb5 hb45 hb35 TT TE TR T1 T2
  unfold valV
  rcases WAYS.out with ⟨h1, h2⟩ | ⟨h1, h2, h3⟩ | ⟨h1, h2, h3⟩
  · have e1 : (rh != 0) = true := by simpa using h1
    replace h2 : xk = rh := h2
    subst h2
    have TS := Lib.hid (same_err (errV xk) xk xk w5 HG5.out (errIs xk))
    clear h1 WAYS
    generalize errV xk = ev at TS ⊢
    go_wp2_with (first | rw [HW5.out])
    refine (TS.out).mono ?_
    rintro e' w6 ⟨rfl, hb6⟩
    have HB6 := Lib.hid (below_step HB5.out hb6)
    clear hb6
    go_wp2_with fail
    go_ret
    exact ⟨by simp, below_step HB.out HB6.out⟩
  · replace h1 : rh = 0 := h1
    subst h1
    replace h3 : xk = rowErr cols r := h3
    have hx : xk ≠ 0 := by rw [h3]; exact h2
    have e2 := errV_ne hx
    have T6 := Lib.hid (rowCheck_any cols r C R p q y s w5 (HCo.out.keep HB5.out) HSm.out (HRo.out.keep HB5.out))
    rw [← h3, e2] at T6
    clear h2 h3 hx WAYS
    rw [e2]
    clear e2
    go_wp2_with (first | rw [HW5.out])
    refine (T6.out).mono ?_
    rintro e' w6 ⟨rfl, hb6⟩
    have HB6 := Lib.hid (below_step HB5.out hb6)
    clear hb6
    go_wp2_with fail
    go_ret
    exact ⟨rfl, below_step HB.out HB6.out⟩
  · replace h1 : rh = 0 := h1
    subst h1
    have T6 := Lib.hid (rowCheck_any cols r C R p q y s w5 (HCo.out.keep HB5.out) HSm.out (HRo.out.keep HB5.out))
    rw [h2, errV_zero] at T6
    clear h2 WAYS
    rcases h3 with ⟨x1, x2, x3⟩ | ⟨x1, x2⟩
    · replace x1 : xk = 0 := x1
      subst x1
      rw [errV_zero]
      replace x3 : xv.type = rt := x3
      have X2 := Lib.hid x2.2
      have X3 := Lib.hid x3
      clear x2 x3 i0 i1 i2
      go_wp2_with (first | rw [HW5.out])
      refine (T6.out).mono ?_
      rintro e' w6 ⟨rfl, hb6⟩
      have i0 := (hb6.cell (p := ⟨w4.heap.size, 0, none⟩) hl5).trans HI.out.1
      have i1 := (hb6.cell (p := ⟨w4.heap.size, 1, none⟩) hl5).trans HI.out.2.1
      have i2 := (hb6.cell (p := ⟨w4.heap.size, 2, none⟩) hl5).trans HI.out.2.2
      have e3 : (xv.type == rt) = true := by simpa using X3.out
      have HB6 := Lib.hid (below_step HB5.out hb6)
      have TV := Lib.hid (vcheck_any xv w6)
      unfold valV at TV
      rw [X2.out, errV_zero] at TV
      clear hb6
      go_wp2_with fail
      refine (TV.out).mono ?_
      rintro e' w7 ⟨rfl, hb7⟩
      have HB7 := Lib.hid (below_step HB6.out hb7)
      clear hb7
      go_wp2_with fail
      go_ret
      exact ⟨rfl, below_step HB.out HB7.out⟩
    · replace x1 : xk = 9 := x1
      subst x1
      clear x2
      clear i0 i1 i2
      have e9 : errV 9 = .iface 38 (.int .i64 9) := errV_ne (by decide)
      rw [e9]
      clear e9
      go_wp2_with (first | rw [HW5.out])
      refine (T6.out).mono ?_
      rintro e' w6 ⟨rfl, hb6⟩
      have HB6 := Lib.hid (below_step HB5.out hb6)
      have TS := Lib.hid (same_err (.iface 38 (.int .i64 9)) 9 9 w6 (HG5.out.keep hb6) (Or.inr ⟨rfl, by decide⟩))
      clear hb6
      go_wp2_with fail
      refine (TS.out).mono ?_
      rintro e' w7 ⟨rfl, hb7⟩
      have HB7 := Lib.hid (below_step HB6.out hb7)
      clear hb7
      go_wp2_with fail
      go_ret
      exact ⟨rfl, below_step HB.out HB7.out⟩

set_option maxRecDepth 100000 in
theorem contract (H : Type) (enc : TypeId × Value → H) (W : World) (base : Nat) (args : Array Value) (ds gs : List (DataW H)) (before : List MemPlace)
    (hval : ∀ (j : Nat) t v, Tryd.f10.params[j]? = some t → args[j]? = some v → Value.okWide Tryd.prog W .any base t v)
    (hW : DataW.Whole enc Tryd.prog Tryd.f10.params.toList Rows.kindHoldsSpec.vars false W args.toList ds gs before)
    (hsz : (DataW.weightsEach Tryd.prog (Tryd.f10.params.toList ++ (OpenSpec.ofChange Rows.kindHoldsSpec).bare.plain.varTypes Tryd.prog) (ds ++ gs)).all (· ≤ reachBytes) = true) (hL : laidMetH Tryd.prog Rows.kindHoldsRow.laid W) :
    Calls Tryd.prog 10 args W fun e W' => ∃ v, e = .returned v ∧ Rows.kindHoldsSpec.post enc Tryd.prog Tryd.f10 false true false false W args v W' := by
  have hW' := hW
  obtain ⟨p, q, hA0, hV, rfl, hfz, hnd⟩ := hW
  have hA : DataW.TrodAll enc Tryd.prog W 0 (fun _ => true) true Tryd.f10.params.toList args.toList ds p := hA0
  rw [Tryd.params10] at hA hval
  obtain ⟨v0, vs0, d0, ds0, p0, q0, hargs, rfl, rfl, h0, r0⟩ := trodAll_cons hA
  obtain ⟨v1, vs1, d1, ds1, p1, q1, rfl, rfl, rfl, h1, r1⟩ := trodAll_cons r0
  obtain ⟨v2, vs2, d2, ds2, p2, q2, rfl, rfl, rfl, h2, r2⟩ := trodAll_cons r1
  obtain ⟨rfl, rfl, rfl⟩ := trodAll_nil r2
  obtain rfl : args = #[v0, v1, v2] := by cases args; simp_all
  obtain ⟨rfl, rfl⟩ := trodVars_none hV
  have hv0 := hval 0 44 v0 rfl rfl
  have hv1 := hval 1 37 v1 rfl rfl
  have hv2 := hval 2 34 v2 rfl rfl
  obtain ⟨e, rfl, he⟩ := open_ex hv0 h0
  obtain ⟨C, p, q, cols, rfl, hC, hcs⟩ := open_cols (okWide_slice Tryd.underlying37 hv1) h1
  obtain ⟨R, y, s, r, rfl, hR, hw⟩ := open_vals (okWide_slice Tryd.underlying34 hv2) h2
  have hL0 : laidMet Tryd.prog [("sluicebook/tree.words", Rows.laid_sluicebook_tree_words), ("sluicebook/tree.levels", Rows.laid_sluicebook_tree_levels), ("sluicebook/kind.ops", Rows.laid_sluicebook_kind_ops)] W ∧ handlesMet Tryd.prog [("errors.errorType", Rows.laid_errors_errorType)] W := hL
  refine (walk e C R p q y s cols r W (errT_of_laid (show laidMetH Tryd.prog [("errors.errorType", Rows.laid_errors_errorType)] W from ⟨laidMet_nil _ _, hL0.2⟩)) ⟨levelsT_of hL0.1 (.tail _ (.head _)), opsT_of hL0.1 (.tail _ (.tail _ (.head _))), wordsT_of hL0.1 (.head _)⟩ hC (fun x hx => (hcs x hx).1) hR hw he).mono fun e W' ⟨he, hb⟩ => ?_
  subst he
  exact ⟨_, rfl, law_post laidOut Tryd.underlying4 (by kernel_rfl) rfl (by rw [Tryd.params10]; intro t ht; simp only [List.mem_cons, List.not_mem_nil, or_false] at ht; rcases ht with rfl | rfl | rfl; all_goals exact ⟨by kernel_rfl, of_decide_eq_true (by kernel_rfl)⟩) hW' rfl hb⟩

theorem reads (os : Os) {H : Type} (enc : TypeId × Value → H) : ∃ places, DataW.whole enc Tryd.prog ((World.doorLaid Tryd.prog 4000 os).forCall (fun _ _ => 0) ⟨#[], #[.agg #[.string .empty, .string .empty, .int .i64 0, .int .i64 0, .string .empty, .slice none 0 0, .int .i64 0], .slice none 0 0, .slice none 0 0], []⟩).memory Tryd.f10.params.toList Rows.kindHoldsSpec.vars false (#[.agg #[.string .empty, .string .empty, .int .i64 0, .int .i64 0, .string .empty, .slice none 0 0, .int .i64 0], .slice none 0 0, .slice none 0 0] : Array Value).toList 8 = some ([.agg [.lit (.string []), .lit (.string []), .agg [.lit (.int .i64 0), .lit (.int .i64 0), .lit (.string [])], .nil, .lit (.int .i64 0)], .nil, .nil], [], places) :=
  ⟨[], by kernel_rfl⟩

set_option maxRecDepth 100000 in
theorem lifted (os : Os) (started : os.Started) (H : Type) (enc : TypeId × Value → H) (F : Stop.Interp) :
    ReturnsInHanded {} Tryd.checked os 10 .any ((OpenSpec.ofChange Rows.kindHoldsSpec).preRow enc Tryd.prog Tryd.f10 Rows.kindHoldsRow.domain false Rows.kindHoldsRow.laid) (((OpenSpec.ofChange Rows.kindHoldsSpec).at F).post enc Tryd.prog Tryd.f10 false true false false) := by
  obtain ⟨places, hx⟩ := reads os enc
  refine returnsInHanded_of_row (C := Tryd.checked) (s := OpenSpec.ofChange Rows.kindHoldsSpec) own started (by kernel_rfl) Tryd.func10
    (witness_row_atRef (enc := enc) (C := Tryd.checked) false (World.doorLaid Tryd.prog 4000 os) #[.agg #[.string .empty, .string .empty, .int .i64 0, .int .i64 0, .string .empty, .slice none 0 0, .int .i64 0], .slice none 0 0, .slice none 0 0] rfl (by kernel_rfl) (by kernel_rfl) (by kernel_rfl)
      (OpenSpec.preRow_of_cond 8 hx (by kernel_rfl) (fun k hk => by cases hk) (by kernel_rfl) (laidMetH_of_parts (laidMet_of_run' 12 (by kernel_rfl) (by kernel_rfl)) (by kernel_rfl)))) ?_
  intro W base args ds gs before hval hW _ _ hsz hL _ _
  exact contract H enc W base args ds gs before hval hW hsz hL

theorem said : Rows.KindHoldsSaid :=
  OpenClaim.holds_of_cond 10 Tryd.f10 rfl rfl rfl rfl rfl rfl rfl ⟨rfl, rfl, rfl, rfl, rfl⟩ rfl rfl rfl rfl rfl (by kernel_rfl) Tryd.func10 (by kernel_rfl)
    (of_decide_eq_true (by kernel_rfl)) (by unfold Func.isWrapper; first | (rw [if_pos (by decide +kernel)]; kernel_rfl) | (rw [if_neg (by decide +kernel)]; exact ⟨rfl, rfl⟩))
    (fun os started H enc _ F => by rw [OpenClaim.pre_eq_preRow]; exact lifted os started H enc F)

theorem plain (f : FuncId) (fn : Func) (hf : Tryd.pinned.checked.prog.funcNamed "sluicebook/sluicelaw1.KindHolds" = some f) (hfn : Tryd.pinned.checked.prog.funcs[f]? = some fn) :
    true = Tryd.pinned.checked.prog.looks [] ∧ ∀ (j : Nat) t, fn.params[j]? = some t → Tryd.pinned.checked.prog.wantsStandIn t = false := by
  obtain rfl : f = 10 := Option.some.inj ((show Tryd.prog.funcNamed "sluicebook/sluicelaw1.KindHolds" = some 10 by kernel_rfl).symm.trans hf) |>.symm
  obtain rfl : fn = Tryd.f10 := (Option.some.inj (Tryd.func10.symm.trans hfn)).symm
  refine ⟨by kernel_rfl, fun j t ht => ?_⟩
  rw [Tryd.params10] at ht
  have hm := Array.mem_of_getElem? ht
  simp only [List.mem_toArray, List.mem_cons, List.not_mem_nil, or_false] at hm
  rcases hm with rfl | rfl | rfl
  · exact (show Tryd.prog.wantsStandIn 44 = false by kernel_rfl)
  · exact (show Tryd.prog.wantsStandIn 37 = false by kernel_rfl)
  · exact (show Tryd.prog.wantsStandIn 34 = false by kernel_rfl)

theorem card : Rows.KindHoldsCardSaid :=
  Claim7.holds_tied_plain_at .later [] _ _ _ _ said (fun _ h => by cases h) (by kernel_rfl) (fun _ h => by cases h) kindHolds_row_tie rfl ⟨rfl, rfl⟩ (by kernel_rfl) rfl plain (by kernel_rfl)
#print axioms card
end Go.Proofs.YtapbmknimejldaaDoor.kindHolds
