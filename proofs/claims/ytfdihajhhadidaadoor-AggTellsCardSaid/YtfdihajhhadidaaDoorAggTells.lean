/- AggTells: what any rows come to, with any aggregates, some in one, some in another one that is joined. -/
import Derived.Test.YtfdihajhhadidaaDoorAggGood
import Derived.Deep.DeepWitnessRowRef
import Derived.Test.YtfdihajhhadidaaDoorAggMade
import Derived.Test.YtfdihajhhadidaaDoorAggJoin
import Derived.Test.YtfdihajhhadidaaDoorRefVal
import Derived.Test.YtfdihajhhadidaaDoorOpenAggs
import Derived.Test.YtfdihajhhadidaaDoorOpenRows
import Derived.Test.YtfdihajhhadidaaDoorOpenInts
import Derived.Test.YtfdihajhhadidaaDoorFrame
import Derived.Test.YtfdihajhhadidaaDoorLaidErr
namespace Go.Proofs.YtfdihajhhadidaaDoor.aggTells
open Go.ChangeShapes Go.WideShapes Go.ChangeAt Go.RowKit

set_option maxHeartbeats 8000000 in
set_option maxRecDepth 100000 in
theorem walk_bad (A0 T0 R0 : Option Addr) (n c tn tc m rc : Nat) (cut : Int) (l : List AggH) (ts : List Int) (hs : List RowH) (W : World) (hG : ErrT W) (hl : SeesAggs W A0 n c l) (ht : Sees W T0 tn tc 1 (intCells ts)) (hR : SeesRows W R0 m rc hs)
    (hw : ∀ x ∈ hs, ∀ v ∈ x.r, v.wf) (hbad : newFault l ts ≠ 0) :
    Calls Tryd.prog 3 #[.slice A0 n c, .slice T0 tn tc, .slice R0 m rc, .int .i64 cut] W fun e W' => e = .returned (.bool true) ∧ Below W.heap.size W W' := by
  have HL := Lib.hid hl
  have HT := Lib.hid ht
  have HR := Lib.hid hR
  have HWF := Lib.hid hw
  have HG := Lib.hid hG
  have hcap := hl.2.2.1
  have hmax := hl.2.2.2.1
  have htc := ht.2.1
  have htm := ht.2.2.1
  have hrc := hR.1.2.1
  have hrm := hR.1.2.2.1
  unfold maxLen at hmax htm hrm
  have HLL := Lib.hid hl.1
  have HTL := Lib.hid (intCells_len ht)
  obtain ⟨E0, hE0⟩ : ∃ E0, newFault l ts = E0 := ⟨_, rfl⟩
  have HNF := Lib.hid hE0
  rw [hE0] at hbad
  have HBAD := Lib.hid hbad
  clear hbad
  have hne : ∀ h : tn = n, (if ts.length ≠ l.length then (3 : Int) else if 6 < l.length then 4 else newAt (kdsOf l ts)) = (if 6 < n then 4 else newAt (kdsOf l ts)) := by
    intro h; rw [if_neg (by rw [HTL.out, HLL.out, h]; simp), HLL.out]
  unfold newFault at hE0
  clear hl ht hR hw hG
  by_cases htn : tn = n
  · rw [hne htn] at hE0
    clear hne
    subst htn
    have e0 : ((tn : Int) != tn) = false := by simp
    by_cases h6' : 6 < tn
    · rw [if_pos h6'] at hE0
      have d6 : decide (6 < tn) = true := decide_eq_true h6'
      have d6' : decide (6 < (tn : Int)) = true := decide_eq_true (by omega)
      subst hE0
      have hk0 : (4 : Int) ≠ 0 := by decide
      go_enter Tryd.func3, Tryd.ntmps3
      go_wp2_with fail
      go_loopw [9, 10] (fun u v wx => u = .int .i64 4 ∧ v = .int .i64 0 ∧ W = wx) (fun _ _ _ => 0)
      case atStart => exact ⟨rfl, rfl, rfl⟩
      case round =>
        obtain ⟨rfl, rfl, rfl⟩ := hrel
        have HB := Lib.hid (fun (h : (4 : Int) ≠ 0) => new_bad HL.out HT.out HNF.out h)
        have HBK := Lib.hid hk0
        clear hk0
        go_wp2_with (first | (go_at_call 11; refine (HB.out HBK.out).mono ?_; rintro e w1 ⟨rfl, hb1⟩; have HB1 := Lib.hid hb1; clear hb1) | (go_at_call 12; refine (same_err _ 4 4 _ (HG.out.keep HB1.out) (errIs 4)).mono ?_; rintro e w2 ⟨rfl, hb2⟩; have HB2 := Lib.hid (below_step HB1.out hb2); clear hb2))
        all_goals
          go_ret
          exact ⟨rfl, HB2.out⟩
    · have d6 : decide (6 < tn) = false := decide_eq_false h6'
      have d6' : decide (6 < (tn : Int)) = false := decide_eq_false (by omega)
      have h6 : tn ≤ 6 := by omega
      rw [if_neg h6'] at hE0
      clear h6'
      have HKE := Lib.hid (fun (j : Nat) (x : AggH) (t : Int) (h1 : l[j]? = some x) (h2 : ts[j]? = some t) => newAt_step (kdsOf_at h1 h2))
      have HKL := Lib.hid (show (kdsOf l ts).length = tn by rw [kdsOf_length (by rw [HTL.out, HLL.out]), HLL.out])
      have HE0 := Lib.hid hE0.symm
      clear hE0
      go_enter Tryd.func3, Tryd.ntmps3
      go_wp2_with fail
      go_loopw [9, 10] (fun u v wx => ∃ (j : Nat) (k : Int), j ≤ tn ∧ u = .int .i64 k ∧ v = .int .i64 j ∧ W = wx ∧ ((k ≠ 0 ∧ E0 = k) ∨ (k = 0 ∧ E0 = newAt ((kdsOf l ts).drop j)))) (fun _ v _ => tn - (intOf v).toNat)
      case atStart => exact ⟨0, 0, by omega, rfl, rfl, rfl, Or.inr ⟨rfl, HE0.out⟩⟩
      case round =>
        obtain ⟨j, k, hj, rfl, rfl, rfl, hk⟩ := hrel
        have HK := Lib.hid hk
        rcases hk with ⟨hk0, rfl⟩ | ⟨rfl, hE⟩
        · have d0 : (E0 == 0) = false := by simpa using hk0
          clear HK
          have HB := Lib.hid (fun (h : E0 ≠ 0) => new_bad HL.out HT.out HNF.out h)
          have d1 : ((E0 : Int) != 0) = true := by simpa using hk0
          have d2 : ((E0 : Int) == E0) = true := by simp
          go_wp2_with (first | (go_at_call 11; refine (HB.out hk0).mono ?_; rintro e w1 ⟨rfl, hb1⟩; have HB1 := Lib.hid hb1; clear hb1) | (go_at_call 12; refine (same_err _ E0 E0 _ (HG.out.keep HB1.out) (errIs E0)).mono ?_; rintro e w2 ⟨rfl, hb2⟩; have HB2 := Lib.hid (below_step HB1.out hb2); clear hb2; rw [d2]))
          all_goals
            go_ret
            exact ⟨rfl, HB2.out⟩
        · have HE0 := Lib.hid hE
          clear hE
          by_cases hlj : j < tn
          · obtain ⟨ga, oa, x, rfl, -, hx, b0, -⟩ := HL.out.at_ hlj
            obtain ⟨gt, ot, t, rfl, ht, t0⟩ := ints_at HT.out hlj
            have HSTEP := Lib.hid (HKE.out j x t hx ht)
            have HKF := Lib.hid (show kdFault ⟨x.what, t⟩ = if isCount x.what then 0 else if isSum x.what ∨ isLeast x.what = true ∨ isMost x.what = true then (if ¬ (1 ≤ t ∧ t ≤ 3) then 1 else if isSum x.what ∧ t ≠ 1 then 8 else 0) else 2 from rfl)
            by_cases hc : isCount x.what
            · have E := Lib.hid (show kdFault ⟨x.what, t⟩ = 0 from if_pos hc)
              have ec : (x.what.toList == [99, 111, 117, 110, 116]) = true := by rw [Lib.toList_data]; unfold isCount at hc; rw [hc]; rfl
              have es : (x.what.toList == [115, 117, 109]) = false := by rw [Lib.toList_data]; unfold isCount at hc; rw [hc]; rfl
              have gc : (x.what.toList != [99, 111, 117, 110, 116]) = false := by rw [bne, ec]; rfl
              clear hc
              clear hx ht HK
              go_wp2_with fail
              go_roundw
              case rel => exact ⟨j + 1, 0, by omega, rfl, by go_num, by trivial, Or.inr ⟨rfl, HE0.out.trans (HSTEP.out.trans (if_neg (fun h => h E.out)))⟩⟩
              case measure => simp [intOf]; omega
            · rw [if_neg hc] at HKF
              have ec : (x.what.toList == [99, 111, 117, 110, 116]) = false := by rw [Lib.toList_data]; exact beq_eq_false_iff_ne.2 hc
              have gc : (x.what.toList != [99, 111, 117, 110, 116]) = true := by rw [bne, ec]; rfl
              clear hc
              by_cases hs : isSum x.what
              · rw [if_pos (Or.inl hs)] at HKF
                have es : (x.what.toList == [115, 117, 109]) = true := by rw [Lib.toList_data]; unfold isSum at hs; rw [hs]; rfl
                have gs : (x.what.toList != [115, 117, 109]) = false := by rw [bne, es]; rfl
                by_cases hlo : t < 1
                · have d1 : decide (t < 1) = true := decide_eq_true hlo
                  have E := Lib.hid (HKF.out.trans (if_pos (fun h => absurd h.1 (by omega))))
                  clear hx ht HK
                  go_wp2_with fail
                  go_roundw
                  case rel => exact ⟨j + 1, 1, by omega, rfl, by go_num, by trivial, Or.inl ⟨by decide, HE0.out.trans (HSTEP.out.trans ((if_pos (by rw [E.out]; decide)).trans E.out))⟩⟩
                  case measure => simp [intOf]; omega
                · have d1 : decide (t < 1) = false := decide_eq_false hlo
                  by_cases hhi : 3 < t
                  · have d2 : decide (3 < t) = true := decide_eq_true hhi
                    have E := Lib.hid (HKF.out.trans (if_pos (fun h => absurd h.2 (by omega))))
                    clear hx ht HK
                    go_wp2_with fail
                    go_roundw
                    case rel => exact ⟨j + 1, 1, by omega, rfl, by go_num, by trivial, Or.inl ⟨by decide, HE0.out.trans (HSTEP.out.trans ((if_pos (by rw [E.out]; decide)).trans E.out))⟩⟩
                    case measure => simp [intOf]; omega
                  · have d2 : decide (3 < t) = false := decide_eq_false hhi
                    have HKG := Lib.hid (HKF.out.trans (if_neg (fun h => h ⟨by omega, by omega⟩)))
                    by_cases h1 : t = 1
                    · have E := Lib.hid (HKG.out.trans (if_neg (fun h => h.2 h1)))
                      subst h1
                      clear hx ht HK
                      go_wp2_with fail
                      go_roundw
                      case rel => exact ⟨j + 1, 0, by omega, rfl, by go_num, by trivial, Or.inr ⟨rfl, HE0.out.trans (HSTEP.out.trans (if_neg (fun h => h E.out)))⟩⟩
                      case measure => simp [intOf]; omega
                    · have d3 : (t == 1) = false := by simpa using h1
                      have E := Lib.hid (HKG.out.trans (if_pos ⟨hs, h1⟩))
                      clear h1
                      clear hx ht HK
                      go_wp2_with fail
                      go_roundw
                      case rel => exact ⟨j + 1, 8, by omega, rfl, by go_num, by trivial, Or.inl ⟨by decide, HE0.out.trans (HSTEP.out.trans ((if_pos (by rw [E.out]; decide)).trans E.out))⟩⟩
                      case measure => simp [intOf]; omega
              · have es0 := hs
                have es : (x.what.toList == [115, 117, 109]) = false := by rw [Lib.toList_data]; exact beq_eq_false_iff_ne.2 hs
                have gs : (x.what.toList != [115, 117, 109]) = true := by rw [bne, es]; rfl
                clear es0
                by_cases hl : isLeast x.what = true
                · rw [if_pos (Or.inr (Or.inl hl))] at HKF
                  have el : (x.what.toList == [108, 101, 97, 115, 116]) = true := by rw [Lib.toList_data]; exact hl
                  have gl : (x.what.toList != [108, 101, 97, 115, 116]) = false := by rw [bne, el]; rfl
                  clear hl
                  by_cases hlo : t < 1
                  · have d1 : decide (t < 1) = true := decide_eq_true hlo
                    have E := Lib.hid (HKF.out.trans (if_pos (fun h => absurd h.1 (by omega))))
                    clear hx ht HK
                    go_wp2_with fail
                    go_roundw
                    case rel => exact ⟨j + 1, 1, by omega, rfl, by go_num, by trivial, Or.inl ⟨by decide, HE0.out.trans (HSTEP.out.trans ((if_pos (by rw [E.out]; decide)).trans E.out))⟩⟩
                    case measure => simp [intOf]; omega
                  · have d1 : decide (t < 1) = false := decide_eq_false hlo
                    by_cases hhi : 3 < t
                    · have d2 : decide (3 < t) = true := decide_eq_true hhi
                      have E := Lib.hid (HKF.out.trans (if_pos (fun h => absurd h.2 (by omega))))
                      clear hx ht HK
                      go_wp2_with fail
                      go_roundw
                      case rel => exact ⟨j + 1, 1, by omega, rfl, by go_num, by trivial, Or.inl ⟨by decide, HE0.out.trans (HSTEP.out.trans ((if_pos (by rw [E.out]; decide)).trans E.out))⟩⟩
                      case measure => simp [intOf]; omega
                    · have d2 : decide (3 < t) = false := decide_eq_false hhi
                      have HKG := Lib.hid (HKF.out.trans (if_neg (fun h => h ⟨by omega, by omega⟩)))
                      have E := Lib.hid (HKG.out.trans (if_neg (fun h => hs h.1)))
                      clear hx ht HK
                      go_wp2_with fail
                      go_roundw
                      case rel => exact ⟨j + 1, 0, by omega, rfl, by go_num, by trivial, Or.inr ⟨rfl, HE0.out.trans (HSTEP.out.trans (if_neg (fun h => h E.out)))⟩⟩
                      case measure => simp [intOf]; omega
                · have el0 := hl
                  have el : (x.what.toList == [108, 101, 97, 115, 116]) = false := by rw [Lib.toList_data]; simpa [isLeast] using hl
                  have gl : (x.what.toList != [108, 101, 97, 115, 116]) = true := by rw [bne, el]; rfl
                  clear el0
                  by_cases hm : isMost x.what = true
                  · rw [if_pos (Or.inr (Or.inr hm))] at HKF
                    have em : (x.what.toList == [109, 111, 115, 116]) = true := by rw [Lib.toList_data]; exact hm
                    have gm : (x.what.toList != [109, 111, 115, 116]) = false := by rw [bne, em]; rfl
                    clear hm hl
                    by_cases hlo : t < 1
                    · have d1 : decide (t < 1) = true := decide_eq_true hlo
                      have E := Lib.hid (HKF.out.trans (if_pos (fun h => absurd h.1 (by omega))))
                      clear hx ht HK
                      go_wp2_with fail
                      go_roundw
                      case rel => exact ⟨j + 1, 1, by omega, rfl, by go_num, by trivial, Or.inl ⟨by decide, HE0.out.trans (HSTEP.out.trans ((if_pos (by rw [E.out]; decide)).trans E.out))⟩⟩
                      case measure => simp [intOf]; omega
                    · have d1 : decide (t < 1) = false := decide_eq_false hlo
                      by_cases hhi : 3 < t
                      · have d2 : decide (3 < t) = true := decide_eq_true hhi
                        have E := Lib.hid (HKF.out.trans (if_pos (fun h => absurd h.2 (by omega))))
                        clear hx ht HK
                        go_wp2_with fail
                        go_roundw
                        case rel => exact ⟨j + 1, 1, by omega, rfl, by go_num, by trivial, Or.inl ⟨by decide, HE0.out.trans (HSTEP.out.trans ((if_pos (by rw [E.out]; decide)).trans E.out))⟩⟩
                        case measure => simp [intOf]; omega
                      · have d2 : decide (3 < t) = false := decide_eq_false hhi
                        have HKG := Lib.hid (HKF.out.trans (if_neg (fun h => h ⟨by omega, by omega⟩)))
                        have E := Lib.hid (HKG.out.trans (if_neg (fun h => hs h.1)))
                        clear hx ht HK
                        go_wp2_with fail
                        go_roundw
                        case rel => exact ⟨j + 1, 0, by omega, rfl, by go_num, by trivial, Or.inr ⟨rfl, HE0.out.trans (HSTEP.out.trans (if_neg (fun h => h E.out)))⟩⟩
                        case measure => simp [intOf]; omega
                  · have E := Lib.hid (HKF.out.trans (if_neg (fun h => h.elim hs (fun h => h.elim hl hm))))
                    have em : (x.what.toList == [109, 111, 115, 116]) = false := by rw [Lib.toList_data]; simpa [isMost] using hm
                    have gm : (x.what.toList != [109, 111, 115, 116]) = true := by rw [bne, em]; rfl
                    clear hm hl hs
                    clear hx ht HK
                    go_wp2_with fail
                    go_roundw
                    case rel => exact ⟨j + 1, 2, by omega, rfl, by go_num, by trivial, Or.inl ⟨by decide, HE0.out.trans (HSTEP.out.trans ((if_pos (by rw [E.out]; decide)).trans E.out))⟩⟩
                    case measure => simp [intOf]; omega
          · exact absurd (HE0.out.trans (by rw [List.drop_of_length_le (by rw [HKL.out]; omega)]; rfl)) HBAD.out
  · have e0 : ((tn : Int) != n) = true := by simp; omega
    rw [if_pos (by rw [HTL.out, HLL.out]; exact htn)] at hE0
    subst hE0
    clear htn hne
    have hk0 : (3 : Int) ≠ 0 := by decide
    go_enter Tryd.func3, Tryd.ntmps3
    go_wp2_with fail
    go_loopw [9, 10] (fun u v wx => u = .int .i64 3 ∧ v = .int .i64 0 ∧ W = wx) (fun _ _ _ => 0)
    case atStart => exact ⟨rfl, rfl, rfl⟩
    case round =>
      obtain ⟨rfl, rfl, rfl⟩ := hrel
      have HB := Lib.hid (fun (h : (3 : Int) ≠ 0) => new_bad HL.out HT.out HNF.out h)
      have HBK := Lib.hid hk0
      clear hk0
      go_wp2_with (first | (go_at_call 11; refine (HB.out HBK.out).mono ?_; rintro e w1 ⟨rfl, hb1⟩; have HB1 := Lib.hid hb1; clear hb1) | (go_at_call 12; refine (same_err _ 3 3 _ (HG.out.keep HB1.out) (errIs 3)).mono ?_; rintro e w2 ⟨rfl, hb2⟩; have HB2 := Lib.hid (below_step HB1.out hb2); clear hb2))
      all_goals
        go_ret
        exact ⟨rfl, HB2.out⟩
theorem walk (A0 T0 R0 : Option Addr) (n c tn tc m rc : Nat) (cut : Int) (l : List AggH) (ts : List Int) (hs : List RowH) (W : World) (hG : ErrT W) (hl : SeesAggs W A0 n c l) (ht : Sees W T0 tn tc 1 (intCells ts)) (hR : SeesRows W R0 m rc hs)
    (hw : ∀ x ∈ hs, ∀ v ∈ x.r, v.wf) :
    Calls Tryd.prog 3 #[.slice A0 n c, .slice T0 tn tc, .slice R0 m rc, .int .i64 cut] W fun e W' => e = .returned (.bool true) ∧ Below W.heap.size W W' := by
  by_cases h : newFault l ts = 0
  · have h2 := h
    unfold newFault at h2
    by_cases h3 : ts.length ≠ l.length
    · rw [if_pos h3] at h2; exact absurd h2 (by decide)
    · rw [if_neg h3] at h2
      by_cases h6 : 6 < l.length
      · rw [if_pos h6] at h2; exact absurd h2 (by decide)
      · obtain rfl : tn = n := by
          have := intCells_len ht
          have := hl.1
          omega
        exact walk_good A0 T0 R0 tn c tc m rc cut l ts hs W hG hl ht hR hw h (by have := hl.1; omega)
  · exact walk_bad A0 T0 R0 n c tn tc m rc cut l ts hs W hG hl ht hR hw h

set_option maxRecDepth 100000 in
theorem contract (H : Type) (enc : TypeId × Value → H) (W : World) (base : Nat) (args : Array Value) (ds gs : List (DataW H)) (before : List MemPlace)
    (hval : ∀ (j : Nat) t v, Tryd.f3.params[j]? = some t → args[j]? = some v → Value.okWide Tryd.prog W .any base t v)
    (hW : DataW.Whole enc Tryd.prog Tryd.f3.params.toList Rows.aggTellsSpec.vars false W args.toList ds gs before)
    (hsz : (DataW.weightsEach Tryd.prog (Tryd.f3.params.toList ++ (OpenSpec.ofChange Rows.aggTellsSpec).bare.plain.varTypes Tryd.prog) (ds ++ gs)).all (· ≤ reachBytes) = true) (hL : laidMetH Tryd.prog Rows.aggTellsRow.laid W) :
    Calls Tryd.prog 3 args W fun e W' => ∃ v, e = .returned v ∧ Rows.aggTellsSpec.post enc Tryd.prog Tryd.f3 false true false false W args v W' := by
  have hW' := hW
  obtain ⟨p, q, hA0, hV, rfl, hfz, hnd⟩ := hW
  have hA : DataW.TrodAll enc Tryd.prog W 0 (fun _ => true) true Tryd.f3.params.toList args.toList ds p := hA0
  rw [Tryd.params3] at hA hval
  obtain ⟨v0, vs0, d0, ds0, p0, q0, hargs, rfl, rfl, h0, r0⟩ := trodAll_cons hA
  obtain ⟨v1, vs1, d1, ds1, p1, q1, rfl, rfl, rfl, h1, r1⟩ := trodAll_cons r0
  obtain ⟨v2, vs2, d2, ds2, p2, q2, rfl, rfl, rfl, h2, r2⟩ := trodAll_cons r1
  obtain ⟨v3, vs3, d3, ds3, p3, q3, rfl, rfl, rfl, h3, r3⟩ := trodAll_cons r2
  obtain ⟨rfl, rfl, rfl⟩ := trodAll_nil r3
  obtain rfl : args = #[v0, v1, v2, v3] := by cases args; simp_all
  obtain ⟨rfl, rfl⟩ := trodVars_none hV
  have hv0 := hval 0 22 v0 rfl rfl
  have hv1 := hval 1 23 v1 rfl rfl
  have hv2 := hval 2 24 v2 rfl rfl
  obtain ⟨a3, rfl, rfl, rfl, w3⟩ := open_int Tryd.underlying3 (hval 3 3 v3 rfl rfl) h3
  obtain ⟨A0, n, c, l, rfl, hl⟩ := open_aggs (okWide_slice Tryd.underlying22 hv0) h0
  obtain ⟨T0, tn, tc, ts, rfl, ht, _⟩ := open_ints (okWide_slice Tryd.underlying23 hv1) h1
  obtain ⟨R0, m, rc, hs, rfl, hR, hw⟩ := open_rows (okWide_slice Tryd.underlying24 hv2) h2
  refine (walk A0 T0 R0 n c tn tc m rc a3 l ts hs W (errT_of_laid hL) hl ht hR hw).mono fun e W' ⟨he, hb⟩ => ?_
  subst he
  exact ⟨_, rfl, law_post laidOut Tryd.underlying4 (by kernel_rfl) rfl (by rw [Tryd.params3]; intro t ht; simp only [List.mem_cons, List.not_mem_nil, or_false] at ht; rcases ht with rfl | rfl | rfl | rfl; all_goals exact ⟨by kernel_rfl, of_decide_eq_true (by kernel_rfl)⟩) hW' rfl hb⟩

theorem reads (os : Os) {H : Type} (enc : TypeId × Value → H) : ∃ places, DataW.whole enc Tryd.prog ((laidWorld_err os).forCall (fun _ _ => 0) ⟨#[], #[.slice none 0 0, .slice none 0 0, .slice none 0 0, .int .i64 0], []⟩).memory Tryd.f3.params.toList Rows.aggTellsSpec.vars false (#[.slice none 0 0, .slice none 0 0, .slice none 0 0, .int .i64 0] : Array Value).toList 8 = some ([.nil, .nil, .nil, .lit (.int .i64 0)], [], places) :=
  ⟨[], by kernel_rfl⟩

set_option maxRecDepth 100000 in
theorem lifted (os : Os) (started : os.Started) (H : Type) (enc : TypeId × Value → H) (F : Stop.Interp) :
    ReturnsInHanded {} Tryd.checked os 3 .any ((OpenSpec.ofChange Rows.aggTellsSpec).preRow enc Tryd.prog Tryd.f3 Rows.aggTellsRow.domain false Rows.aggTellsRow.laid) (((OpenSpec.ofChange Rows.aggTellsSpec).at F).post enc Tryd.prog Tryd.f3 false true false false) := by
  obtain ⟨places, hx⟩ := reads os enc
  refine returnsInHanded_of_row (C := Tryd.checked) (s := OpenSpec.ofChange Rows.aggTellsSpec) own started (by kernel_rfl) Tryd.func3
    (witness_row_at (enc := enc) (C := Tryd.checked) false (laidWorld_err os) #[.slice none 0 0, .slice none 0 0, .slice none 0 0, .int .i64 0] rfl (by kernel_rfl) (by kernel_rfl) (by kernel_rfl)
      (OpenSpec.preRow_of_cond 8 hx (by kernel_rfl) (fun k hk => by cases hk) (by kernel_rfl) (laid_met_err os _))) ?_
  intro W base args ds gs before hval hW _ _ hsz hL _ _
  exact contract H enc W base args ds gs before hval hW hsz hL

theorem said : Rows.AggTellsSaid :=
  OpenClaim.holds_of_cond 3 Tryd.f3 rfl rfl rfl rfl rfl rfl rfl ⟨rfl, rfl, rfl, rfl, rfl⟩ rfl rfl rfl rfl rfl (by kernel_rfl) Tryd.func3 (by kernel_rfl)
    (of_decide_eq_true (by kernel_rfl)) (by unfold Func.isWrapper; first | (rw [if_pos (by decide +kernel)]; kernel_rfl) | (rw [if_neg (by decide +kernel)]; exact ⟨rfl, rfl⟩))
    (fun os started H enc _ F => by rw [OpenClaim.pre_eq_preRow]; exact lifted os started H enc F)

theorem plain (f : FuncId) (fn : Func) (hf : Tryd.pinned.checked.prog.funcNamed "sluicebook/sluicelaw2.AggTells" = some f) (hfn : Tryd.pinned.checked.prog.funcs[f]? = some fn) :
    true = Tryd.pinned.checked.prog.looks [] ∧ ∀ (j : Nat) t, fn.params[j]? = some t → Tryd.pinned.checked.prog.wantsStandIn t = false := by
  obtain rfl : f = 3 := Option.some.inj ((show Tryd.prog.funcNamed "sluicebook/sluicelaw2.AggTells" = some 3 by kernel_rfl).symm.trans hf) |>.symm
  obtain rfl : fn = Tryd.f3 := (Option.some.inj (Tryd.func3.symm.trans hfn)).symm
  refine ⟨by kernel_rfl, fun j t ht => ?_⟩
  rw [Tryd.params3] at ht
  have hm := Array.mem_of_getElem? ht
  simp only [List.mem_toArray, List.mem_cons, List.not_mem_nil, or_false] at hm
  rcases hm with rfl | rfl | rfl | rfl
  · exact (show Tryd.prog.wantsStandIn 22 = false by kernel_rfl)
  · exact (show Tryd.prog.wantsStandIn 23 = false by kernel_rfl)
  · exact (show Tryd.prog.wantsStandIn 24 = false by kernel_rfl)
  · exact (show Tryd.prog.wantsStandIn 3 = false by kernel_rfl)

theorem card : Rows.AggTellsCardSaid :=
  Claim7.holds_tied_plain_at .later [] _ _ _ _ said (fun _ h => by cases h) (by kernel_rfl) (fun _ h => by cases h) aggTells_row_tie rfl ⟨rfl, rfl⟩ (by kernel_rfl) rfl plain (by kernel_rfl)
#print axioms card
end Go.Proofs.YtfdihajhhadidaaDoor.aggTells
