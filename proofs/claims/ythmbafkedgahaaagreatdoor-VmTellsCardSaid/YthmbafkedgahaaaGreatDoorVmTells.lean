/- VmTells: what any code comes to, of any row, with so much fuel, and which instructions are done, is what the document says. No conditions. -/
import Derived.Test.YthmbafkedgahaaaGreatDoorRefRun
import Derived.Test.YthmbafkedgahaaaGreatDoorRefDoAny
import Derived.Test.YthmbafkedgahaaaGreatDoorOpenVals
import Derived.Test.YthmbafkedgahaaaGreatDoorTold
import Derived.Deep.DeepWitnessRowRef
import Derived.Deep.DeepHandedRow
import Derived.Test.YthmbafkedgahaaaGreatDoorCards
import Derived.Test.YthmbafkedgahaaaGreatDoorTie
import Derived.LaidLaws
import Derived.LaidMore
import Derived.LaidHandle
import Derived.Stop.Joined
import Derived.SevenTiedAt
namespace Go.Proofs.YthmbafkedgahaaaGreatDoor.vmTells
open Go.ChangeShapes Go.WideShapes Go.ChangeAt Go.RowKit

theorem errIs (k : Int) : ErrIs (errV k) k := by
  by_cases h : k = 0
  · exact Or.inl ⟨by rw [h]; rfl, h⟩
  · exact Or.inr ⟨errV_ne h, h⟩
theorem seesNone (w : World) (size : Nat) : Sees w none 0 0 size (intCells (([] : List Nat).map fun k : Nat => (k : Int))) := by
  refine ⟨?_, Nat.le_refl _, Nat.zero_le _, fun _ => ⟨rfl, rfl⟩, fun h => absurd h (by omega)⟩
  simp [intCells]
theorem no_fuel (m : Nat) : (m : Int) = -1 ↔ (none : Option Nat) = some m := ⟨fun h => by omega, fun h => by cases h⟩
theorem some_fuel {f : Int} (h : 0 ≤ f) (m : Nat) : (m : Int) = f ↔ some f.toNat = some m := ⟨fun h => by congr 1; omega, fun h2 => by injection h2 with h2; omega⟩
theorem run_nil {r : VmR} (h : r.err ≠ 0) {code : List Ins} {row : List Val} {fl : Option Nat} {i : Nat} {done : List Nat} {s : List Val} (e : r = runV code row fl i done s) : r.val = noVal := by
  subst e
  revert h
  refine run_ind (code := code) (row := row) (P := fun i done s => (runV code row fl i done s).err ≠ 0 → (runV code row fl i done s).val = noVal) ?_ ?_ i done s
  · intro i done s h h0
    rw [runV_end h] at h0
    exact absurd rfl h0
  · intro i done s x hx ih h0
    rw [runV_step hx] at h0 ⊢
    by_cases h1 : fl = some done.length
    · rw [if_pos h1]
    · rw [if_neg h1] at h0 ⊢
      by_cases h2 : (doP row x s).1 ≠ 0
      · rw [if_pos h2]
      · rw [if_neg h2] at h0 ⊢
        exact ih (by simpa using h2) h0
set_option maxHeartbeats 16000000 in
set_option maxRecDepth 100000 in
theorem walk (A0 : Option Addr) (n c : Nat) (code : List Ins) (K : Option Addr) (nk ck : Nat) (cols : List Col) (AR : Option Addr) (nr cr : Nat) (row : List Val) (fuel : Int) (W : World) (hG : ErrT W) (hO : OpsT W) (hT : LevelsT W) (hC : SeesCode W A0 n c code) (hK : SeesCols W K nk ck cols) (hs : ∀ x ∈ cols, x.name.size ≤ maxLen) (hwf : ∀ x ∈ code, x.wf) (hR : SeesVals W AR nr cr row) (hwr : ∀ v ∈ row, v.wf) :
    Calls Tryz.prog 3 #[.slice A0 n c, .slice K nk ck, .slice AR nr cr, .int .i64 fuel] W fun e W' => e = .returned (.bool true) ∧ Below W.heap.size W W' := by
  have HC := Lib.hid hC
  have HR := Lib.hid hR
  have HWR := Lib.hid hwr
  have HWV := Lib.hid (show ∀ x ∈ code, x.val.wf from fun x hx => (hwf x hx).2.2)
  have TCK := Lib.hid (sck_any A0 n c code K nk ck cols W hC hK hs (fun x hx => (hwf x hx).2.2.2.2))
  have TRW := Lib.hid (fun w' hb => rrow_any cols row K AR nk ck nr cr w' (hK.keep (w' := w') hb) hs (hR.keep hb) (fun v hv => (hwr v hv).2.2))
  have TR := Lib.hid (fun w' hb => vmrun_any A0 n c code K nk ck cols AR nr cr row w' (hC.keep (w' := w') hb) (hK.keep hb) hs (hR.keep hb) (hO.keep hb) (hT.keep hb) fuel HWV.out hwr)
  have TT := Lib.hid (fun w' hb => vmtrace_any A0 n c code K nk ck cols AR nr cr row w' (hC.keep (w' := w') hb) (hK.keep hb) hs (hR.keep hb) (hO.keep hb) (hT.keep hb) HWV.out hwr)
  have TE := Lib.hid (fun k e w' hb => same_err (errV k) k e w' (hG.keep (w' := w') hb) (errIs k))
  have HQ := Lib.hid (show vmRun code cols row fuel = if readyErr code cols row ≠ 0 then (readyErr code cols row, 0, noVal) else if fuel < 0 ∨ 1000000 < fuel then (1, 0, noVal) else
    ((runV code row (some fuel.toNat) 0 [] []).err, (runV code row (some fuel.toNat) 0 [] []).done.length, (runV code row (some fuel.toNat) 0 [] []).val) from rfl)
  have HTQ := Lib.hid (show vmTrace code cols row = if readyErr code cols row ≠ 0 then (readyErr code cols row, []) else if (runV code row none 0 [] []).err ≠ 0 then ((runV code row none 0 [] []).err, []) else (0, (runV code row none 0 [] []).done) from rfl)
  have HRD := Lib.hid (show readyErr code cols row = if (verP code cols).err ≠ 0 then (verP code cols).err else rowErr cols row from rfl)
  have HSND := Lib.hid (fun h => snd_of (code := code) (cols := cols) h)
  have HROK := Lib.hid (fun h => rowOk_of (cols := cols) (r := row) h hwr)
  obtain ⟨vp, hvp⟩ : ∃ vp, vp = verP code cols := ⟨_, rfl⟩
  rw [← hvp] at TCK HRD HSND
  obtain ⟨ev, hev⟩ : ∃ ev, ev = vp.err := ⟨_, rfl⟩
  obtain ⟨er, her⟩ : ∃ er, er = rowErr cols row := ⟨_, rfl⟩
  rw [← her] at TRW HRD HROK
  unfold FourSays at TCK
  rw [← hev] at TCK HRD HSND
  have HLC := Lib.hid hC.1
  clear hC hK hs hG hO hT hR hwr hwf hev her hvp
  obtain ⟨zv, hzv⟩ : ∃ zv, zv = noVal := ⟨_, rfl⟩
  have HZ := Lib.hid hzv
  clear hzv
  by_cases hv : ev = 0
  · subst hv
    by_cases hr : er = 0
    · subst hr
      have HRDY := Lib.hid (show readyErr code cols row = 0 by rw [HRD.out]; rfl)
      obtain ⟨hlen, -, st, hS⟩ := HSND.out rfl
      obtain ⟨-, hrok⟩ := HROK.out rfl
      have hn12 : n ≤ 1200 := by have := HLC.out; omega
      have TRA := Lib.hid (fun w' hb => rrun_any A0 n c code AR nr cr row cols st _ none (-1) w' (HC.out.keep (w' := w') hb) (HR.out.keep hb) hn12 HWV.out hS hrok no_fuel)
      have TRB := Lib.hid (fun h w' hb => rrun_any A0 n c code AR nr cr row cols st _ (some fuel.toNat) fuel w' (HC.out.keep (w' := w') hb) (HR.out.keep hb) hn12 HWV.out hS hrok (some_fuel h))
      have HQ2 := Lib.hid (show vmRun code cols row fuel = if fuel < 0 ∨ 1000000 < fuel then (1, 0, noVal) else
          ((runV code row (some fuel.toNat) 0 [] []).err, (runV code row (some fuel.toNat) 0 [] []).done.length, (runV code row (some fuel.toNat) 0 [] []).val) by rw [HQ.out, HRDY.out, if_neg (by decide)])
      have HTQ2 := Lib.hid (show vmTrace code cols row = if (runV code row none 0 [] []).err ≠ 0 then ((runV code row none 0 [] []).err, []) else (0, (runV code row none 0 [] []).done) by rw [HTQ.out, HRDY.out, if_neg (by decide)])
      obtain ⟨ra, hra⟩ : ∃ ra, ra = runV code row none 0 [] [] := ⟨_, rfl⟩
      rw [← hra] at TRA HTQ2
      obtain ⟨rb, hrb⟩ : ∃ rb, rb = runV code row (some fuel.toNat) 0 [] [] := ⟨_, rfl⟩
      rw [← hrb] at TRB HQ2
      have HNB := Lib.hid (fun h => run_nil (r := rb) h hrb)
      obtain ⟨ae, al, av⟩ := ra
      obtain ⟨be, bl, bv⟩ := rb
      dsimp only at HTQ2 HQ2 HNB
      clear hra hrb hlen hS hrok HQ HTQ HRD HSND HROK
      by_cases ha : ae = 0
      · subst ha
        have HTQc := Lib.hid (show vmTrace code cols row = (0, al) by rw [HTQ2.out]; rfl)
        by_cases hf : fuel < 0
        · have f0 : decide (fuel < 0) = true := decide_eq_true hf
          have HQc := Lib.hid (show vmRun code cols row fuel = (1, 0, zv) by rw [HQ2.out, HZ.out]; exact if_pos (Or.inl hf))
          clear hf
          go_enter Tryz.func3, Tryz.ntmps3
          go_wp2_with fail
          refine (TCK.out).mono ?_
          rintro e w1 ⟨rfl, hb⟩
          have HB1 := Lib.hid hb
          clear hb
          go_wp2_with fail
          refine (TRW.out w1 HB1.out).mono ?_
          rintro e w2 ⟨rfl, hb⟩
          have HB2 := Lib.hid (below_step HB1.out hb)
          clear hb
          go_wp2_with fail
          refine (TRA.out w2 HB2.out).mono ?_
          rintro e w3 ⟨dv, rfl, hown, hb⟩
          obtain ⟨AD, cd, rfl, hsd⟩ := Sees.of_own hown
          have HSD := Lib.hid hsd
          have HB3 := Lib.hid (below_step HB2.out hb)
          have hdc := hsd.2.1
          have hdm := hsd.2.2.1
          unfold maxLen at hdm
          clear hb hown hsd
          dsimp only
          unfold valV
          obtain ⟨wT, hwT⟩ : ∃ wT, w3.alloc (.cells #[.int .i64 0, .int .i64 0, .string ⟨#[]⟩] 30) = wT := ⟨_, rfl⟩
          have hbT : Below w3.heap.size w3 wT := by rw [← hwT]; exact belowNew _ _
          have HBT := Lib.hid (below_step HB3.out hbT)
          have HOW := Lib.hid (show Own3 wT w3.heap.size zv by rw [HZ.out, ← hwT]; exact own3_new w3 noVal)
          have HAL := Lib.hid (HSD.out.keep hbT)
          have HWT := Lib.hid hwT
          clear hbT hwT
          have TRc := Lib.hid (show Calls Tryz.prog 10 #[.slice A0 n c, .slice K nk ck, .slice AR nr cr, .int .i64 fuel] wT (fun e w' => e = .returned (.tuple #[.agg #[.int .i64 (zv).type, .int .i64 (zv).n, .string (zv).s], .int .i64 0, errV 1]) ∧ Below wT.heap.size wT w') by
            have h := TR.out wT HBT.out
            unfold RunTopSays at h
            rw [HQc.out] at h
            exact h)
          go_wp2_with (first | rw [HWT.out])
          refine (TRc.out).mono ?_
          rintro e w20 ⟨rfl, hb⟩
          have HB20 := Lib.hid (below_step HBT.out hb)
          have HOW20 := Lib.hid (HOW.out.keep hb)
          have HAL20 := Lib.hid (HAL.out.keep hb)
          clear hb
          obtain ⟨w21, hw21⟩ : ∃ w21, w20.alloc (.cells #[.int .i64 (zv).type, .int .i64 (zv).n, .string (zv).s] 30) = w21 := ⟨_, rfl⟩
          have hb21 : Below w20.heap.size w20 w21 := by rw [← hw21]; exact belowNew _ _
          have HOV21 := Lib.hid (show Own3 w21 w20.heap.size (zv) by rw [← hw21]; exact own3_new w20 (zv))
          have HB21 := Lib.hid (below_step HB20.out hb21)
          have HOW21 := Lib.hid (HOW20.out.keep hb21)
          have HAL21 := Lib.hid (HAL20.out.keep hb21)
          have HW21 := Lib.hid hw21
          clear hb21 hw21
          go_wp2_with (first | rw [HW21.out])
          refine (TE.out (1) (1) w21 HB21.out).mono ?_
          rintro e w22 ⟨rfl, hb⟩
          rw [show ((1 : Int) == 1) = true from by simp]
          have HB22 := Lib.hid (below_step HB21.out hb)
          have HOW22 := Lib.hid (HOW21.out.keep hb)
          have HOV22 := Lib.hid (HOV21.out.keep hb)
          have HAL22 := Lib.hid (HAL21.out.keep hb)
          clear hb
          have TTc := Lib.hid (TT.out w22 HB22.out)
          unfold TraceTopSays at TTc
          rw [HTQc.out] at TTc
          go_wp2_with fail
          refine (TTc.out).mono ?_
          rintro e w23 ⟨AT, mm, c', rfl, hst, hml, hb⟩
          have HST23 := Lib.hid hst
          have HB23 := Lib.hid (below_step HB22.out hb)
          have HOW23 := Lib.hid (HOW22.out.keep hb)
          have HOV23 := Lib.hid (HOV22.out.keep hb)
          have HAL23 := Lib.hid (HAL22.out.keep hb)
          clear hb hst hml
          go_wp2_with fail
          refine (TE.out (0) (0) w23 HB23.out).mono ?_
          rintro e w24 ⟨rfl, hb⟩
          rw [show ((0 : Int) == 0) = true from by simp]
          have HB24 := Lib.hid (below_step HB23.out hb)
          have HOW24 := Lib.hid (HOW23.out.keep hb)
          have HOV24 := Lib.hid (HOV23.out.keep hb)
          have TS := Lib.hid (show Calls Tryz.prog 13 #[.slice AT mm c', .slice AD al.length cd] w24 (fun e w' => e = .returned (.bool true) ∧ ∃ q, w' = w24.drewN q) by
            have h := same_ints AT AD mm al.length c' cd (al.map fun k : Nat => (k : Int)) (al.map fun k : Nat => (k : Int)) w24 (HST23.out.keep hb) (HAL23.out.keep hb)
            rw [decide_eq_true (rfl : (al.map fun k : Nat => (k : Int)) = al.map fun k : Nat => (k : Int))] at h
            exact h)
          clear hb
          go_wp2_with fail
          refine (TS.out).mono ?_
          rintro e w25 ⟨rfl, q25, rfl⟩
          have HB25 := Lib.hid (below_drewN HB24.out q25)
          have HOW25 := Lib.hid (HOW24.out.keep (below_drewN (Below.refl _ _) q25))
          have HOV25 := Lib.hid (HOV24.out.keep (below_drewN (Below.refl _ _) q25))
          generalize w24.drewN q25 = w25 at HB25 HOW25 HOV25 ⊢
          obtain ⟨o0, o1, o2, -, -, -, -⟩ := HOW25.out.cells
          obtain ⟨p0, p1, p2, -, -, -, -⟩ := HOV25.out.cells
          have s1 : ((zv).type == (zv).type) = true := by simp
          have s2 : ((zv).n == (zv).n) = true := by simp
          have s3 : ((zv).s.toList == (zv).s.toList) = true := by simp
          have s4 : ((0 : Int) == (0 : Int)) = true := by simp
          go_wp2_with fail
          go_ret
          exact ⟨rfl, HB25.out⟩
        · have f0 : decide (fuel < 0) = false := decide_eq_false hf
          by_cases hg : 1000000 < fuel
          · have f1 : decide (1000000 < fuel) = true := decide_eq_true hg
            have HQc := Lib.hid (show vmRun code cols row fuel = (1, 0, zv) by rw [HQ2.out, HZ.out]; exact if_pos (Or.inr hg))
            clear hf hg
            go_enter Tryz.func3, Tryz.ntmps3
            go_wp2_with fail
            refine (TCK.out).mono ?_
            rintro e w1 ⟨rfl, hb⟩
            have HB1 := Lib.hid hb
            clear hb
            go_wp2_with fail
            refine (TRW.out w1 HB1.out).mono ?_
            rintro e w2 ⟨rfl, hb⟩
            have HB2 := Lib.hid (below_step HB1.out hb)
            clear hb
            go_wp2_with fail
            refine (TRA.out w2 HB2.out).mono ?_
            rintro e w3 ⟨dv, rfl, hown, hb⟩
            obtain ⟨AD, cd, rfl, hsd⟩ := Sees.of_own hown
            have HSD := Lib.hid hsd
            have HB3 := Lib.hid (below_step HB2.out hb)
            have hdc := hsd.2.1
            have hdm := hsd.2.2.1
            unfold maxLen at hdm
            clear hb hown hsd
            dsimp only
            unfold valV
            obtain ⟨wT, hwT⟩ : ∃ wT, w3.alloc (.cells #[.int .i64 0, .int .i64 0, .string ⟨#[]⟩] 30) = wT := ⟨_, rfl⟩
            have hbT : Below w3.heap.size w3 wT := by rw [← hwT]; exact belowNew _ _
            have HBT := Lib.hid (below_step HB3.out hbT)
            have HOW := Lib.hid (show Own3 wT w3.heap.size zv by rw [HZ.out, ← hwT]; exact own3_new w3 noVal)
            have HAL := Lib.hid (HSD.out.keep hbT)
            have HWT := Lib.hid hwT
            clear hbT hwT
            have TRc := Lib.hid (show Calls Tryz.prog 10 #[.slice A0 n c, .slice K nk ck, .slice AR nr cr, .int .i64 fuel] wT (fun e w' => e = .returned (.tuple #[.agg #[.int .i64 (zv).type, .int .i64 (zv).n, .string (zv).s], .int .i64 0, errV 1]) ∧ Below wT.heap.size wT w') by
              have h := TR.out wT HBT.out
              unfold RunTopSays at h
              rw [HQc.out] at h
              exact h)
            go_wp2_with (first | rw [HWT.out])
            refine (TRc.out).mono ?_
            rintro e w20 ⟨rfl, hb⟩
            have HB20 := Lib.hid (below_step HBT.out hb)
            have HOW20 := Lib.hid (HOW.out.keep hb)
            have HAL20 := Lib.hid (HAL.out.keep hb)
            clear hb
            obtain ⟨w21, hw21⟩ : ∃ w21, w20.alloc (.cells #[.int .i64 (zv).type, .int .i64 (zv).n, .string (zv).s] 30) = w21 := ⟨_, rfl⟩
            have hb21 : Below w20.heap.size w20 w21 := by rw [← hw21]; exact belowNew _ _
            have HOV21 := Lib.hid (show Own3 w21 w20.heap.size (zv) by rw [← hw21]; exact own3_new w20 (zv))
            have HB21 := Lib.hid (below_step HB20.out hb21)
            have HOW21 := Lib.hid (HOW20.out.keep hb21)
            have HAL21 := Lib.hid (HAL20.out.keep hb21)
            have HW21 := Lib.hid hw21
            clear hb21 hw21
            go_wp2_with (first | rw [HW21.out])
            refine (TE.out (1) (1) w21 HB21.out).mono ?_
            rintro e w22 ⟨rfl, hb⟩
            rw [show ((1 : Int) == 1) = true from by simp]
            have HB22 := Lib.hid (below_step HB21.out hb)
            have HOW22 := Lib.hid (HOW21.out.keep hb)
            have HOV22 := Lib.hid (HOV21.out.keep hb)
            have HAL22 := Lib.hid (HAL21.out.keep hb)
            clear hb
            have TTc := Lib.hid (TT.out w22 HB22.out)
            unfold TraceTopSays at TTc
            rw [HTQc.out] at TTc
            go_wp2_with fail
            refine (TTc.out).mono ?_
            rintro e w23 ⟨AT, mm, c', rfl, hst, hml, hb⟩
            have HST23 := Lib.hid hst
            have HB23 := Lib.hid (below_step HB22.out hb)
            have HOW23 := Lib.hid (HOW22.out.keep hb)
            have HOV23 := Lib.hid (HOV22.out.keep hb)
            have HAL23 := Lib.hid (HAL22.out.keep hb)
            clear hb hst hml
            go_wp2_with fail
            refine (TE.out (0) (0) w23 HB23.out).mono ?_
            rintro e w24 ⟨rfl, hb⟩
            rw [show ((0 : Int) == 0) = true from by simp]
            have HB24 := Lib.hid (below_step HB23.out hb)
            have HOW24 := Lib.hid (HOW23.out.keep hb)
            have HOV24 := Lib.hid (HOV23.out.keep hb)
            have TS := Lib.hid (show Calls Tryz.prog 13 #[.slice AT mm c', .slice AD al.length cd] w24 (fun e w' => e = .returned (.bool true) ∧ ∃ q, w' = w24.drewN q) by
              have h := same_ints AT AD mm al.length c' cd (al.map fun k : Nat => (k : Int)) (al.map fun k : Nat => (k : Int)) w24 (HST23.out.keep hb) (HAL23.out.keep hb)
              rw [decide_eq_true (rfl : (al.map fun k : Nat => (k : Int)) = al.map fun k : Nat => (k : Int))] at h
              exact h)
            clear hb
            go_wp2_with fail
            refine (TS.out).mono ?_
            rintro e w25 ⟨rfl, q25, rfl⟩
            have HB25 := Lib.hid (below_drewN HB24.out q25)
            have HOW25 := Lib.hid (HOW24.out.keep (below_drewN (Below.refl _ _) q25))
            have HOV25 := Lib.hid (HOV24.out.keep (below_drewN (Below.refl _ _) q25))
            generalize w24.drewN q25 = w25 at HB25 HOW25 HOV25 ⊢
            obtain ⟨o0, o1, o2, -, -, -, -⟩ := HOW25.out.cells
            obtain ⟨p0, p1, p2, -, -, -, -⟩ := HOV25.out.cells
            have s1 : ((zv).type == (zv).type) = true := by simp
            have s2 : ((zv).n == (zv).n) = true := by simp
            have s3 : ((zv).s.toList == (zv).s.toList) = true := by simp
            have s4 : ((0 : Int) == (0 : Int)) = true := by simp
            go_wp2_with fail
            go_ret
            exact ⟨rfl, HB25.out⟩
          · have f1 : decide (1000000 < fuel) = false := decide_eq_false hg
            have HQc0 := Lib.hid (show vmRun code cols row fuel = (be, bl.length, bv) by rw [HQ2.out]; exact if_neg (by omega))
            have TRB' := Lib.hid (TRB.out (by omega))
            clear hf hg
            go_enter Tryz.func3, Tryz.ntmps3
            go_wp2_with fail
            refine (TCK.out).mono ?_
            rintro e w1 ⟨rfl, hb⟩
            have HB1 := Lib.hid hb
            clear hb
            go_wp2_with fail
            refine (TRW.out w1 HB1.out).mono ?_
            rintro e w2 ⟨rfl, hb⟩
            have HB2 := Lib.hid (below_step HB1.out hb)
            clear hb
            go_wp2_with fail
            refine (TRA.out w2 HB2.out).mono ?_
            rintro e w3 ⟨dv, rfl, hown, hb⟩
            obtain ⟨AD, cd, rfl, hsd⟩ := Sees.of_own hown
            have HSD := Lib.hid hsd
            have HB3 := Lib.hid (below_step HB2.out hb)
            have hdc := hsd.2.1
            have hdm := hsd.2.2.1
            unfold maxLen at hdm
            clear hb hown hsd
            dsimp only
            unfold valV
            obtain ⟨wT, hwT⟩ : ∃ wT, w3.alloc (.cells #[.int .i64 0, .int .i64 0, .string ⟨#[]⟩] 30) = wT := ⟨_, rfl⟩
            have hbT : Below w3.heap.size w3 wT := by rw [← hwT]; exact belowNew _ _
            have HBT := Lib.hid (below_step HB3.out hbT)
            have HOW := Lib.hid (show Own3 wT w3.heap.size zv by rw [HZ.out, ← hwT]; exact own3_new w3 noVal)
            have HAL := Lib.hid (HSD.out.keep hbT)
            have HWT := Lib.hid hwT
            clear hbT hwT
            obtain ⟨bw, hbw⟩ : ∃ bw, bw = w3.heap.size := ⟨_, rfl⟩
            rw [← hbw] at HOW
            have HBW := Lib.hid hbw
            go_wp2_with (first | rw [HWT.out])
            rw [← hbw]
            clear hbw
            refine (TRB'.out wT HBT.out).mono ?_
            rintro e w4 ⟨dv, rfl, hown, hb⟩
            obtain ⟨AD2, cd2, rfl, hsd⟩ := Sees.of_own hown
            have HB4 := Lib.hid (below_step HBT.out hb)
            have HOW4 := Lib.hid (HOW.out.keep hb)
            have HAL4 := Lib.hid (HAL.out.keep hb)
            clear hb hown hsd HBT HOW HAL HWT
            dsimp only
            unfold valV
            obtain ⟨w5, hw5⟩ : ∃ w5, w4.alloc (.cells #[.int .i64 bv.type, .int .i64 bv.n, .string bv.s] 30) = w5 := ⟨_, rfl⟩
            have hb5 : Below w4.heap.size w4 w5 := by rw [← hw5]; exact belowNew _ _
            have HV5 := Lib.hid (show Own3 w5 w4.heap.size bv by rw [← hw5]; exact own3_new w4 bv)
            have HB5 := Lib.hid (below_step HB4.out hb5)
            have HOW5 := Lib.hid (HOW4.out.keep hb5)
            have HAL5 := Lib.hid (HAL4.out.keep hb5)
            have HW5 := Lib.hid hw5
            clear hb5 hw5
            by_cases hbe : be = 0
            · subst hbe
              have HQc := Lib.hid (show vmRun code cols row fuel = (0, bl.length, bv) from HQc0.out)
              obtain ⟨v0, v1, v2, -, -, -, -⟩ := HV5.out.cells
              obtain ⟨o0, o1, o2, z0, z1, z2, hlt⟩ := HOW5.out.cells
              have hWb : W.heap.size ≤ bw := by have h1 := HB3.out.size; have h2 := HBW.out; omega
              obtain ⟨wT, hwT⟩ : ∃ wT, ((w5.setCell ⟨bw, 0, none⟩ (.int .i64 bv.type)).setCell ⟨bw, 1, none⟩ (.int .i64 bv.n)).setCell ⟨bw, 2, none⟩ (.string bv.s) = wT := ⟨_, rfl⟩
              have HBT := Lib.hid (show Below W.heap.size W wT by rw [← hwT]; exact below_set3 HB5.out hWb _ _ _)
              have HOW := Lib.hid (show Own3 wT bw bv by rw [← hwT]; exact own3_set HOW5.out _ _ _)
              have HAL := Lib.hid (show Sees wT AD al.length cd 1 (intCells (al.map fun k : Nat => (k : Int))) by
                rw [← hwT]
                refine (only_set3 (w := w5) (b := bw) bv.type bv.n bv.s).sees_far HAL5.out (fun h0 ad e => ?_)
                obtain ⟨g, o, e2, hg, -⟩ := HSD.out.2.2.2.2 h0
                have := HBW.out
                rw [e] at e2
                injection e2 with e2
                intro e3
                have e3 : ad.block = bw := e3
                rw [e2] at e3
                have e3 : g = bw := e3
                omega)
              have HWT := Lib.hid hwT
              clear hwT hWb
              have TRc := Lib.hid (show Calls Tryz.prog 10 #[.slice A0 n c, .slice K nk ck, .slice AR nr cr, .int .i64 fuel] wT (fun e w' => e = .returned (.tuple #[.agg #[.int .i64 (bv).type, .int .i64 (bv).n, .string (bv).s], .int .i64 bl.length, errV 0]) ∧ Below wT.heap.size wT w') by
                have h := TR.out wT HBT.out
                unfold RunTopSays at h
                rw [HQc.out] at h
                exact h)
              go_wp2_with (first | rw [HW5.out] | rw [HWT.out])
              refine (TRc.out).mono ?_
              rintro e w20 ⟨rfl, hb⟩
              have HB20 := Lib.hid (below_step HBT.out hb)
              have HOW20 := Lib.hid (HOW.out.keep hb)
              have HAL20 := Lib.hid (HAL.out.keep hb)
              clear hb
              obtain ⟨w21, hw21⟩ : ∃ w21, w20.alloc (.cells #[.int .i64 (bv).type, .int .i64 (bv).n, .string (bv).s] 30) = w21 := ⟨_, rfl⟩
              have hb21 : Below w20.heap.size w20 w21 := by rw [← hw21]; exact belowNew _ _
              have HOV21 := Lib.hid (show Own3 w21 w20.heap.size (bv) by rw [← hw21]; exact own3_new w20 (bv))
              have HB21 := Lib.hid (below_step HB20.out hb21)
              have HOW21 := Lib.hid (HOW20.out.keep hb21)
              have HAL21 := Lib.hid (HAL20.out.keep hb21)
              have HW21 := Lib.hid hw21
              clear hb21 hw21
              go_wp2_with (first | rw [HW21.out])
              refine (TE.out (0) (0) w21 HB21.out).mono ?_
              rintro e w22 ⟨rfl, hb⟩
              rw [show ((0 : Int) == 0) = true from by simp]
              have HB22 := Lib.hid (below_step HB21.out hb)
              have HOW22 := Lib.hid (HOW21.out.keep hb)
              have HOV22 := Lib.hid (HOV21.out.keep hb)
              have HAL22 := Lib.hid (HAL21.out.keep hb)
              clear hb
              have TTc := Lib.hid (TT.out w22 HB22.out)
              unfold TraceTopSays at TTc
              rw [HTQc.out] at TTc
              go_wp2_with fail
              refine (TTc.out).mono ?_
              rintro e w23 ⟨AT, mm, c', rfl, hst, hml, hb⟩
              have HST23 := Lib.hid hst
              have HB23 := Lib.hid (below_step HB22.out hb)
              have HOW23 := Lib.hid (HOW22.out.keep hb)
              have HOV23 := Lib.hid (HOV22.out.keep hb)
              have HAL23 := Lib.hid (HAL22.out.keep hb)
              clear hb hst hml
              go_wp2_with fail
              refine (TE.out (0) (0) w23 HB23.out).mono ?_
              rintro e w24 ⟨rfl, hb⟩
              rw [show ((0 : Int) == 0) = true from by simp]
              have HB24 := Lib.hid (below_step HB23.out hb)
              have HOW24 := Lib.hid (HOW23.out.keep hb)
              have HOV24 := Lib.hid (HOV23.out.keep hb)
              have TS := Lib.hid (show Calls Tryz.prog 13 #[.slice AT mm c', .slice AD al.length cd] w24 (fun e w' => e = .returned (.bool true) ∧ ∃ q, w' = w24.drewN q) by
                have h := same_ints AT AD mm al.length c' cd (al.map fun k : Nat => (k : Int)) (al.map fun k : Nat => (k : Int)) w24 (HST23.out.keep hb) (HAL23.out.keep hb)
                rw [decide_eq_true (rfl : (al.map fun k : Nat => (k : Int)) = al.map fun k : Nat => (k : Int))] at h
                exact h)
              clear hb
              go_wp2_with fail
              refine (TS.out).mono ?_
              rintro e w25 ⟨rfl, q25, rfl⟩
              have HB25 := Lib.hid (below_drewN HB24.out q25)
              have HOW25 := Lib.hid (HOW24.out.keep (below_drewN (Below.refl _ _) q25))
              have HOV25 := Lib.hid (HOV24.out.keep (below_drewN (Below.refl _ _) q25))
              generalize w24.drewN q25 = w25 at HB25 HOW25 HOV25 ⊢
              obtain ⟨o0, o1, o2, -, -, -, -⟩ := HOW25.out.cells
              obtain ⟨p0, p1, p2, -, -, -, -⟩ := HOV25.out.cells
              have s1 : ((bv).type == (bv).type) = true := by simp
              have s2 : ((bv).n == (bv).n) = true := by simp
              have s3 : ((bv).s.toList == (bv).s.toList) = true := by simp
              have s4 : ((bl.length : Int) == (bl.length : Int)) = true := by simp
              go_wp2_with fail
              go_ret
              exact ⟨rfl, HB25.out⟩
            · have b0 : (be == 0) = false := beq_eq_false_iff_ne.2 hbe
              have HQc := Lib.hid (show vmRun code cols row fuel = (be, bl.length, zv) by rw [HQc0.out, HNB.out hbe, HZ.out])
              clear hbe
              obtain ⟨wT, hwT⟩ : ∃ wT, wT = w5 := ⟨_, rfl⟩
              subst hwT
              have HBT := HB5
              have HOW := HOW5
              have HAL := HAL5
              have TRc := Lib.hid (show Calls Tryz.prog 10 #[.slice A0 n c, .slice K nk ck, .slice AR nr cr, .int .i64 fuel] wT (fun e w' => e = .returned (.tuple #[.agg #[.int .i64 (zv).type, .int .i64 (zv).n, .string (zv).s], .int .i64 bl.length, errV be]) ∧ Below wT.heap.size wT w') by
                have h := TR.out wT HBT.out
                unfold RunTopSays at h
                rw [HQc.out] at h
                exact h)
              go_wp2_with (first | rw [HW5.out])
              refine (TRc.out).mono ?_
              rintro e w20 ⟨rfl, hb⟩
              have HB20 := Lib.hid (below_step HBT.out hb)
              have HOW20 := Lib.hid (HOW.out.keep hb)
              have HAL20 := Lib.hid (HAL.out.keep hb)
              clear hb
              obtain ⟨w21, hw21⟩ : ∃ w21, w20.alloc (.cells #[.int .i64 (zv).type, .int .i64 (zv).n, .string (zv).s] 30) = w21 := ⟨_, rfl⟩
              have hb21 : Below w20.heap.size w20 w21 := by rw [← hw21]; exact belowNew _ _
              have HOV21 := Lib.hid (show Own3 w21 w20.heap.size (zv) by rw [← hw21]; exact own3_new w20 (zv))
              have HB21 := Lib.hid (below_step HB20.out hb21)
              have HOW21 := Lib.hid (HOW20.out.keep hb21)
              have HAL21 := Lib.hid (HAL20.out.keep hb21)
              have HW21 := Lib.hid hw21
              clear hb21 hw21
              go_wp2_with (first | rw [HW21.out])
              refine (TE.out (be) (be) w21 HB21.out).mono ?_
              rintro e w22 ⟨rfl, hb⟩
              rw [show ((be : Int) == be) = true from by simp]
              have HB22 := Lib.hid (below_step HB21.out hb)
              have HOW22 := Lib.hid (HOW21.out.keep hb)
              have HOV22 := Lib.hid (HOV21.out.keep hb)
              have HAL22 := Lib.hid (HAL21.out.keep hb)
              clear hb
              have TTc := Lib.hid (TT.out w22 HB22.out)
              unfold TraceTopSays at TTc
              rw [HTQc.out] at TTc
              go_wp2_with fail
              refine (TTc.out).mono ?_
              rintro e w23 ⟨AT, mm, c', rfl, hst, hml, hb⟩
              have HST23 := Lib.hid hst
              have HB23 := Lib.hid (below_step HB22.out hb)
              have HOW23 := Lib.hid (HOW22.out.keep hb)
              have HOV23 := Lib.hid (HOV22.out.keep hb)
              have HAL23 := Lib.hid (HAL22.out.keep hb)
              clear hb hst hml
              go_wp2_with fail
              refine (TE.out (0) (0) w23 HB23.out).mono ?_
              rintro e w24 ⟨rfl, hb⟩
              rw [show ((0 : Int) == 0) = true from by simp]
              have HB24 := Lib.hid (below_step HB23.out hb)
              have HOW24 := Lib.hid (HOW23.out.keep hb)
              have HOV24 := Lib.hid (HOV23.out.keep hb)
              have TS := Lib.hid (show Calls Tryz.prog 13 #[.slice AT mm c', .slice AD al.length cd] w24 (fun e w' => e = .returned (.bool true) ∧ ∃ q, w' = w24.drewN q) by
                have h := same_ints AT AD mm al.length c' cd (al.map fun k : Nat => (k : Int)) (al.map fun k : Nat => (k : Int)) w24 (HST23.out.keep hb) (HAL23.out.keep hb)
                rw [decide_eq_true (rfl : (al.map fun k : Nat => (k : Int)) = al.map fun k : Nat => (k : Int))] at h
                exact h)
              clear hb
              go_wp2_with fail
              refine (TS.out).mono ?_
              rintro e w25 ⟨rfl, q25, rfl⟩
              have HB25 := Lib.hid (below_drewN HB24.out q25)
              have HOW25 := Lib.hid (HOW24.out.keep (below_drewN (Below.refl _ _) q25))
              have HOV25 := Lib.hid (HOV24.out.keep (below_drewN (Below.refl _ _) q25))
              generalize w24.drewN q25 = w25 at HB25 HOW25 HOV25 ⊢
              obtain ⟨o0, o1, o2, -, -, -, -⟩ := HOW25.out.cells
              obtain ⟨p0, p1, p2, -, -, -, -⟩ := HOV25.out.cells
              have s1 : ((zv).type == (zv).type) = true := by simp
              have s2 : ((zv).n == (zv).n) = true := by simp
              have s3 : ((zv).s.toList == (zv).s.toList) = true := by simp
              have s4 : ((bl.length : Int) == (bl.length : Int)) = true := by simp
              go_wp2_with fail
              go_ret
              exact ⟨rfl, HB25.out⟩

      · have a0 : (ae != 0) = true := by simpa using ha
        have HTQc := Lib.hid (show vmTrace code cols row = (ae, []) by rw [HTQ2.out]; exact if_pos ha)
        clear ha
        by_cases hf : fuel < 0
        · have f0 : decide (fuel < 0) = true := decide_eq_true hf
          have HQc := Lib.hid (show vmRun code cols row fuel = (1, 0, zv) by rw [HQ2.out, HZ.out]; exact if_pos (Or.inl hf))
          clear hf
          go_enter Tryz.func3, Tryz.ntmps3
          go_wp2_with fail
          refine (TCK.out).mono ?_
          rintro e w1 ⟨rfl, hb⟩
          have HB1 := Lib.hid hb
          clear hb
          go_wp2_with fail
          refine (TRW.out w1 HB1.out).mono ?_
          rintro e w2 ⟨rfl, hb⟩
          have HB2 := Lib.hid (below_step HB1.out hb)
          clear hb
          go_wp2_with fail
          refine (TRA.out w2 HB2.out).mono ?_
          rintro e w3 ⟨dv, rfl, hown, hb⟩
          obtain ⟨AD, cd, rfl, hsd⟩ := Sees.of_own hown
          have HSD := Lib.hid hsd
          have HB3 := Lib.hid (below_step HB2.out hb)
          have hdc := hsd.2.1
          have hdm := hsd.2.2.1
          unfold maxLen at hdm
          clear hb hown hsd
          dsimp only
          unfold valV
          obtain ⟨wT, hwT⟩ : ∃ wT, w3.alloc (.cells #[.int .i64 0, .int .i64 0, .string ⟨#[]⟩] 30) = wT := ⟨_, rfl⟩
          have hbT : Below w3.heap.size w3 wT := by rw [← hwT]; exact belowNew _ _
          have HBT := Lib.hid (below_step HB3.out hbT)
          have HOW := Lib.hid (show Own3 wT w3.heap.size zv by rw [HZ.out, ← hwT]; exact own3_new w3 noVal)
          have HAL := Lib.hid (seesNone wT 1)
          have HWT := Lib.hid hwT
          clear hbT hwT
          have TRc := Lib.hid (show Calls Tryz.prog 10 #[.slice A0 n c, .slice K nk ck, .slice AR nr cr, .int .i64 fuel] wT (fun e w' => e = .returned (.tuple #[.agg #[.int .i64 (zv).type, .int .i64 (zv).n, .string (zv).s], .int .i64 0, errV 1]) ∧ Below wT.heap.size wT w') by
            have h := TR.out wT HBT.out
            unfold RunTopSays at h
            rw [HQc.out] at h
            exact h)
          go_wp2_with (first | rw [HWT.out])
          refine (TRc.out).mono ?_
          rintro e w20 ⟨rfl, hb⟩
          have HB20 := Lib.hid (below_step HBT.out hb)
          have HOW20 := Lib.hid (HOW.out.keep hb)
          have HAL20 := Lib.hid (HAL.out.keep hb)
          clear hb
          obtain ⟨w21, hw21⟩ : ∃ w21, w20.alloc (.cells #[.int .i64 (zv).type, .int .i64 (zv).n, .string (zv).s] 30) = w21 := ⟨_, rfl⟩
          have hb21 : Below w20.heap.size w20 w21 := by rw [← hw21]; exact belowNew _ _
          have HOV21 := Lib.hid (show Own3 w21 w20.heap.size (zv) by rw [← hw21]; exact own3_new w20 (zv))
          have HB21 := Lib.hid (below_step HB20.out hb21)
          have HOW21 := Lib.hid (HOW20.out.keep hb21)
          have HAL21 := Lib.hid (HAL20.out.keep hb21)
          have HW21 := Lib.hid hw21
          clear hb21 hw21
          go_wp2_with (first | rw [HW21.out])
          refine (TE.out (1) (1) w21 HB21.out).mono ?_
          rintro e w22 ⟨rfl, hb⟩
          rw [show ((1 : Int) == 1) = true from by simp]
          have HB22 := Lib.hid (below_step HB21.out hb)
          have HOW22 := Lib.hid (HOW21.out.keep hb)
          have HOV22 := Lib.hid (HOV21.out.keep hb)
          have HAL22 := Lib.hid (HAL21.out.keep hb)
          clear hb
          have TTc := Lib.hid (TT.out w22 HB22.out)
          unfold TraceTopSays at TTc
          rw [HTQc.out] at TTc
          go_wp2_with fail
          refine (TTc.out).mono ?_
          rintro e w23 ⟨AT, mm, c', rfl, hst, hml, hb⟩
          have HST23 := Lib.hid hst
          have HB23 := Lib.hid (below_step HB22.out hb)
          have HOW23 := Lib.hid (HOW22.out.keep hb)
          have HOV23 := Lib.hid (HOV22.out.keep hb)
          have HAL23 := Lib.hid (HAL22.out.keep hb)
          clear hb hst hml
          go_wp2_with fail
          refine (TE.out (ae) (ae) w23 HB23.out).mono ?_
          rintro e w24 ⟨rfl, hb⟩
          rw [show ((ae : Int) == ae) = true from by simp]
          have HB24 := Lib.hid (below_step HB23.out hb)
          have HOW24 := Lib.hid (HOW23.out.keep hb)
          have HOV24 := Lib.hid (HOV23.out.keep hb)
          have TS := Lib.hid (show Calls Tryz.prog 13 #[.slice AT mm c', .slice none 0 0] w24 (fun e w' => e = .returned (.bool true) ∧ ∃ q, w' = w24.drewN q) by
            have h := same_ints AT none mm 0 c' 0 (([] : List Nat).map fun k : Nat => (k : Int)) (([] : List Nat).map fun k : Nat => (k : Int)) w24 (HST23.out.keep hb) (HAL23.out.keep hb)
            rw [decide_eq_true (rfl : (([] : List Nat).map fun k : Nat => (k : Int)) = ([] : List Nat).map fun k : Nat => (k : Int))] at h
            exact h)
          clear hb
          go_wp2_with fail
          refine (TS.out).mono ?_
          rintro e w25 ⟨rfl, q25, rfl⟩
          have HB25 := Lib.hid (below_drewN HB24.out q25)
          have HOW25 := Lib.hid (HOW24.out.keep (below_drewN (Below.refl _ _) q25))
          have HOV25 := Lib.hid (HOV24.out.keep (below_drewN (Below.refl _ _) q25))
          generalize w24.drewN q25 = w25 at HB25 HOW25 HOV25 ⊢
          obtain ⟨o0, o1, o2, -, -, -, -⟩ := HOW25.out.cells
          obtain ⟨p0, p1, p2, -, -, -, -⟩ := HOV25.out.cells
          have s1 : ((zv).type == (zv).type) = true := by simp
          have s2 : ((zv).n == (zv).n) = true := by simp
          have s3 : ((zv).s.toList == (zv).s.toList) = true := by simp
          have s4 : ((0 : Int) == (0 : Int)) = true := by simp
          go_wp2_with fail
          go_ret
          exact ⟨rfl, HB25.out⟩
        · have f0 : decide (fuel < 0) = false := decide_eq_false hf
          by_cases hg : 1000000 < fuel
          · have f1 : decide (1000000 < fuel) = true := decide_eq_true hg
            have HQc := Lib.hid (show vmRun code cols row fuel = (1, 0, zv) by rw [HQ2.out, HZ.out]; exact if_pos (Or.inr hg))
            clear hf hg
            go_enter Tryz.func3, Tryz.ntmps3
            go_wp2_with fail
            refine (TCK.out).mono ?_
            rintro e w1 ⟨rfl, hb⟩
            have HB1 := Lib.hid hb
            clear hb
            go_wp2_with fail
            refine (TRW.out w1 HB1.out).mono ?_
            rintro e w2 ⟨rfl, hb⟩
            have HB2 := Lib.hid (below_step HB1.out hb)
            clear hb
            go_wp2_with fail
            refine (TRA.out w2 HB2.out).mono ?_
            rintro e w3 ⟨dv, rfl, hown, hb⟩
            obtain ⟨AD, cd, rfl, hsd⟩ := Sees.of_own hown
            have HSD := Lib.hid hsd
            have HB3 := Lib.hid (below_step HB2.out hb)
            have hdc := hsd.2.1
            have hdm := hsd.2.2.1
            unfold maxLen at hdm
            clear hb hown hsd
            dsimp only
            unfold valV
            obtain ⟨wT, hwT⟩ : ∃ wT, w3.alloc (.cells #[.int .i64 0, .int .i64 0, .string ⟨#[]⟩] 30) = wT := ⟨_, rfl⟩
            have hbT : Below w3.heap.size w3 wT := by rw [← hwT]; exact belowNew _ _
            have HBT := Lib.hid (below_step HB3.out hbT)
            have HOW := Lib.hid (show Own3 wT w3.heap.size zv by rw [HZ.out, ← hwT]; exact own3_new w3 noVal)
            have HAL := Lib.hid (seesNone wT 1)
            have HWT := Lib.hid hwT
            clear hbT hwT
            have TRc := Lib.hid (show Calls Tryz.prog 10 #[.slice A0 n c, .slice K nk ck, .slice AR nr cr, .int .i64 fuel] wT (fun e w' => e = .returned (.tuple #[.agg #[.int .i64 (zv).type, .int .i64 (zv).n, .string (zv).s], .int .i64 0, errV 1]) ∧ Below wT.heap.size wT w') by
              have h := TR.out wT HBT.out
              unfold RunTopSays at h
              rw [HQc.out] at h
              exact h)
            go_wp2_with (first | rw [HWT.out])
            refine (TRc.out).mono ?_
            rintro e w20 ⟨rfl, hb⟩
            have HB20 := Lib.hid (below_step HBT.out hb)
            have HOW20 := Lib.hid (HOW.out.keep hb)
            have HAL20 := Lib.hid (HAL.out.keep hb)
            clear hb
            obtain ⟨w21, hw21⟩ : ∃ w21, w20.alloc (.cells #[.int .i64 (zv).type, .int .i64 (zv).n, .string (zv).s] 30) = w21 := ⟨_, rfl⟩
            have hb21 : Below w20.heap.size w20 w21 := by rw [← hw21]; exact belowNew _ _
            have HOV21 := Lib.hid (show Own3 w21 w20.heap.size (zv) by rw [← hw21]; exact own3_new w20 (zv))
            have HB21 := Lib.hid (below_step HB20.out hb21)
            have HOW21 := Lib.hid (HOW20.out.keep hb21)
            have HAL21 := Lib.hid (HAL20.out.keep hb21)
            have HW21 := Lib.hid hw21
            clear hb21 hw21
            go_wp2_with (first | rw [HW21.out])
            refine (TE.out (1) (1) w21 HB21.out).mono ?_
            rintro e w22 ⟨rfl, hb⟩
            rw [show ((1 : Int) == 1) = true from by simp]
            have HB22 := Lib.hid (below_step HB21.out hb)
            have HOW22 := Lib.hid (HOW21.out.keep hb)
            have HOV22 := Lib.hid (HOV21.out.keep hb)
            have HAL22 := Lib.hid (HAL21.out.keep hb)
            clear hb
            have TTc := Lib.hid (TT.out w22 HB22.out)
            unfold TraceTopSays at TTc
            rw [HTQc.out] at TTc
            go_wp2_with fail
            refine (TTc.out).mono ?_
            rintro e w23 ⟨AT, mm, c', rfl, hst, hml, hb⟩
            have HST23 := Lib.hid hst
            have HB23 := Lib.hid (below_step HB22.out hb)
            have HOW23 := Lib.hid (HOW22.out.keep hb)
            have HOV23 := Lib.hid (HOV22.out.keep hb)
            have HAL23 := Lib.hid (HAL22.out.keep hb)
            clear hb hst hml
            go_wp2_with fail
            refine (TE.out (ae) (ae) w23 HB23.out).mono ?_
            rintro e w24 ⟨rfl, hb⟩
            rw [show ((ae : Int) == ae) = true from by simp]
            have HB24 := Lib.hid (below_step HB23.out hb)
            have HOW24 := Lib.hid (HOW23.out.keep hb)
            have HOV24 := Lib.hid (HOV23.out.keep hb)
            have TS := Lib.hid (show Calls Tryz.prog 13 #[.slice AT mm c', .slice none 0 0] w24 (fun e w' => e = .returned (.bool true) ∧ ∃ q, w' = w24.drewN q) by
              have h := same_ints AT none mm 0 c' 0 (([] : List Nat).map fun k : Nat => (k : Int)) (([] : List Nat).map fun k : Nat => (k : Int)) w24 (HST23.out.keep hb) (HAL23.out.keep hb)
              rw [decide_eq_true (rfl : (([] : List Nat).map fun k : Nat => (k : Int)) = ([] : List Nat).map fun k : Nat => (k : Int))] at h
              exact h)
            clear hb
            go_wp2_with fail
            refine (TS.out).mono ?_
            rintro e w25 ⟨rfl, q25, rfl⟩
            have HB25 := Lib.hid (below_drewN HB24.out q25)
            have HOW25 := Lib.hid (HOW24.out.keep (below_drewN (Below.refl _ _) q25))
            have HOV25 := Lib.hid (HOV24.out.keep (below_drewN (Below.refl _ _) q25))
            generalize w24.drewN q25 = w25 at HB25 HOW25 HOV25 ⊢
            obtain ⟨o0, o1, o2, -, -, -, -⟩ := HOW25.out.cells
            obtain ⟨p0, p1, p2, -, -, -, -⟩ := HOV25.out.cells
            have s1 : ((zv).type == (zv).type) = true := by simp
            have s2 : ((zv).n == (zv).n) = true := by simp
            have s3 : ((zv).s.toList == (zv).s.toList) = true := by simp
            have s4 : ((0 : Int) == (0 : Int)) = true := by simp
            go_wp2_with fail
            go_ret
            exact ⟨rfl, HB25.out⟩
          · have f1 : decide (1000000 < fuel) = false := decide_eq_false hg
            have HQc0 := Lib.hid (show vmRun code cols row fuel = (be, bl.length, bv) by rw [HQ2.out]; exact if_neg (by omega))
            have TRB' := Lib.hid (TRB.out (by omega))
            clear hf hg
            go_enter Tryz.func3, Tryz.ntmps3
            go_wp2_with fail
            refine (TCK.out).mono ?_
            rintro e w1 ⟨rfl, hb⟩
            have HB1 := Lib.hid hb
            clear hb
            go_wp2_with fail
            refine (TRW.out w1 HB1.out).mono ?_
            rintro e w2 ⟨rfl, hb⟩
            have HB2 := Lib.hid (below_step HB1.out hb)
            clear hb
            go_wp2_with fail
            refine (TRA.out w2 HB2.out).mono ?_
            rintro e w3 ⟨dv, rfl, hown, hb⟩
            obtain ⟨AD, cd, rfl, hsd⟩ := Sees.of_own hown
            have HSD := Lib.hid hsd
            have HB3 := Lib.hid (below_step HB2.out hb)
            have hdc := hsd.2.1
            have hdm := hsd.2.2.1
            unfold maxLen at hdm
            clear hb hown hsd
            dsimp only
            unfold valV
            obtain ⟨wT, hwT⟩ : ∃ wT, w3.alloc (.cells #[.int .i64 0, .int .i64 0, .string ⟨#[]⟩] 30) = wT := ⟨_, rfl⟩
            have hbT : Below w3.heap.size w3 wT := by rw [← hwT]; exact belowNew _ _
            have HBT := Lib.hid (below_step HB3.out hbT)
            have HOW := Lib.hid (show Own3 wT w3.heap.size zv by rw [HZ.out, ← hwT]; exact own3_new w3 noVal)
            have HAL := Lib.hid (seesNone wT 1)
            have HWT := Lib.hid hwT
            clear hbT hwT
            obtain ⟨bw, hbw⟩ : ∃ bw, bw = w3.heap.size := ⟨_, rfl⟩
            rw [← hbw] at HOW
            have HBW := Lib.hid hbw
            go_wp2_with (first | rw [HWT.out])
            rw [← hbw]
            clear hbw
            refine (TRB'.out wT HBT.out).mono ?_
            rintro e w4 ⟨dv, rfl, hown, hb⟩
            obtain ⟨AD2, cd2, rfl, hsd⟩ := Sees.of_own hown
            have HB4 := Lib.hid (below_step HBT.out hb)
            have HOW4 := Lib.hid (HOW.out.keep hb)
            have HAL4 := Lib.hid (HAL.out.keep hb)
            clear hb hown hsd HBT HOW HAL HWT
            dsimp only
            unfold valV
            obtain ⟨w5, hw5⟩ : ∃ w5, w4.alloc (.cells #[.int .i64 bv.type, .int .i64 bv.n, .string bv.s] 30) = w5 := ⟨_, rfl⟩
            have hb5 : Below w4.heap.size w4 w5 := by rw [← hw5]; exact belowNew _ _
            have HV5 := Lib.hid (show Own3 w5 w4.heap.size bv by rw [← hw5]; exact own3_new w4 bv)
            have HB5 := Lib.hid (below_step HB4.out hb5)
            have HOW5 := Lib.hid (HOW4.out.keep hb5)
            have HAL5 := Lib.hid (HAL4.out.keep hb5)
            have HW5 := Lib.hid hw5
            clear hb5 hw5
            by_cases hbe : be = 0
            · subst hbe
              have HQc := Lib.hid (show vmRun code cols row fuel = (0, bl.length, bv) from HQc0.out)
              obtain ⟨v0, v1, v2, -, -, -, -⟩ := HV5.out.cells
              obtain ⟨o0, o1, o2, z0, z1, z2, hlt⟩ := HOW5.out.cells
              have hWb : W.heap.size ≤ bw := by have h1 := HB3.out.size; have h2 := HBW.out; omega
              obtain ⟨wT, hwT⟩ : ∃ wT, ((w5.setCell ⟨bw, 0, none⟩ (.int .i64 bv.type)).setCell ⟨bw, 1, none⟩ (.int .i64 bv.n)).setCell ⟨bw, 2, none⟩ (.string bv.s) = wT := ⟨_, rfl⟩
              have HBT := Lib.hid (show Below W.heap.size W wT by rw [← hwT]; exact below_set3 HB5.out hWb _ _ _)
              have HOW := Lib.hid (show Own3 wT bw bv by rw [← hwT]; exact own3_set HOW5.out _ _ _)
              have HAL := Lib.hid (show Sees wT none 0 0 1 (intCells (([] : List Nat).map fun k : Nat => (k : Int))) by
                rw [← hwT]
                refine (only_set3 (w := w5) (b := bw) bv.type bv.n bv.s).sees_far HAL5.out (fun h0 ad e => ?_)
                omega)
              have HWT := Lib.hid hwT
              clear hwT hWb
              have TRc := Lib.hid (show Calls Tryz.prog 10 #[.slice A0 n c, .slice K nk ck, .slice AR nr cr, .int .i64 fuel] wT (fun e w' => e = .returned (.tuple #[.agg #[.int .i64 (bv).type, .int .i64 (bv).n, .string (bv).s], .int .i64 bl.length, errV 0]) ∧ Below wT.heap.size wT w') by
                have h := TR.out wT HBT.out
                unfold RunTopSays at h
                rw [HQc.out] at h
                exact h)
              go_wp2_with (first | rw [HW5.out] | rw [HWT.out])
              refine (TRc.out).mono ?_
              rintro e w20 ⟨rfl, hb⟩
              have HB20 := Lib.hid (below_step HBT.out hb)
              have HOW20 := Lib.hid (HOW.out.keep hb)
              have HAL20 := Lib.hid (HAL.out.keep hb)
              clear hb
              obtain ⟨w21, hw21⟩ : ∃ w21, w20.alloc (.cells #[.int .i64 (bv).type, .int .i64 (bv).n, .string (bv).s] 30) = w21 := ⟨_, rfl⟩
              have hb21 : Below w20.heap.size w20 w21 := by rw [← hw21]; exact belowNew _ _
              have HOV21 := Lib.hid (show Own3 w21 w20.heap.size (bv) by rw [← hw21]; exact own3_new w20 (bv))
              have HB21 := Lib.hid (below_step HB20.out hb21)
              have HOW21 := Lib.hid (HOW20.out.keep hb21)
              have HAL21 := Lib.hid (HAL20.out.keep hb21)
              have HW21 := Lib.hid hw21
              clear hb21 hw21
              go_wp2_with (first | rw [HW21.out])
              refine (TE.out (0) (0) w21 HB21.out).mono ?_
              rintro e w22 ⟨rfl, hb⟩
              rw [show ((0 : Int) == 0) = true from by simp]
              have HB22 := Lib.hid (below_step HB21.out hb)
              have HOW22 := Lib.hid (HOW21.out.keep hb)
              have HOV22 := Lib.hid (HOV21.out.keep hb)
              have HAL22 := Lib.hid (HAL21.out.keep hb)
              clear hb
              have TTc := Lib.hid (TT.out w22 HB22.out)
              unfold TraceTopSays at TTc
              rw [HTQc.out] at TTc
              go_wp2_with fail
              refine (TTc.out).mono ?_
              rintro e w23 ⟨AT, mm, c', rfl, hst, hml, hb⟩
              have HST23 := Lib.hid hst
              have HB23 := Lib.hid (below_step HB22.out hb)
              have HOW23 := Lib.hid (HOW22.out.keep hb)
              have HOV23 := Lib.hid (HOV22.out.keep hb)
              have HAL23 := Lib.hid (HAL22.out.keep hb)
              clear hb hst hml
              go_wp2_with fail
              refine (TE.out (ae) (ae) w23 HB23.out).mono ?_
              rintro e w24 ⟨rfl, hb⟩
              rw [show ((ae : Int) == ae) = true from by simp]
              have HB24 := Lib.hid (below_step HB23.out hb)
              have HOW24 := Lib.hid (HOW23.out.keep hb)
              have HOV24 := Lib.hid (HOV23.out.keep hb)
              have TS := Lib.hid (show Calls Tryz.prog 13 #[.slice AT mm c', .slice none 0 0] w24 (fun e w' => e = .returned (.bool true) ∧ ∃ q, w' = w24.drewN q) by
                have h := same_ints AT none mm 0 c' 0 (([] : List Nat).map fun k : Nat => (k : Int)) (([] : List Nat).map fun k : Nat => (k : Int)) w24 (HST23.out.keep hb) (HAL23.out.keep hb)
                rw [decide_eq_true (rfl : (([] : List Nat).map fun k : Nat => (k : Int)) = ([] : List Nat).map fun k : Nat => (k : Int))] at h
                exact h)
              clear hb
              go_wp2_with fail
              refine (TS.out).mono ?_
              rintro e w25 ⟨rfl, q25, rfl⟩
              have HB25 := Lib.hid (below_drewN HB24.out q25)
              have HOW25 := Lib.hid (HOW24.out.keep (below_drewN (Below.refl _ _) q25))
              have HOV25 := Lib.hid (HOV24.out.keep (below_drewN (Below.refl _ _) q25))
              generalize w24.drewN q25 = w25 at HB25 HOW25 HOV25 ⊢
              obtain ⟨o0, o1, o2, -, -, -, -⟩ := HOW25.out.cells
              obtain ⟨p0, p1, p2, -, -, -, -⟩ := HOV25.out.cells
              have s1 : ((bv).type == (bv).type) = true := by simp
              have s2 : ((bv).n == (bv).n) = true := by simp
              have s3 : ((bv).s.toList == (bv).s.toList) = true := by simp
              have s4 : ((bl.length : Int) == (bl.length : Int)) = true := by simp
              go_wp2_with fail
              go_ret
              exact ⟨rfl, HB25.out⟩
            · have b0 : (be == 0) = false := beq_eq_false_iff_ne.2 hbe
              have HQc := Lib.hid (show vmRun code cols row fuel = (be, bl.length, zv) by rw [HQc0.out, HNB.out hbe, HZ.out])
              clear hbe
              obtain ⟨wT, hwT⟩ : ∃ wT, wT = w5 := ⟨_, rfl⟩
              subst hwT
              have HBT := HB5
              have HOW := HOW5
              have HAL := HAL5
              have TRc := Lib.hid (show Calls Tryz.prog 10 #[.slice A0 n c, .slice K nk ck, .slice AR nr cr, .int .i64 fuel] wT (fun e w' => e = .returned (.tuple #[.agg #[.int .i64 (zv).type, .int .i64 (zv).n, .string (zv).s], .int .i64 bl.length, errV be]) ∧ Below wT.heap.size wT w') by
                have h := TR.out wT HBT.out
                unfold RunTopSays at h
                rw [HQc.out] at h
                exact h)
              go_wp2_with (first | rw [HW5.out])
              refine (TRc.out).mono ?_
              rintro e w20 ⟨rfl, hb⟩
              have HB20 := Lib.hid (below_step HBT.out hb)
              have HOW20 := Lib.hid (HOW.out.keep hb)
              have HAL20 := Lib.hid (HAL.out.keep hb)
              clear hb
              obtain ⟨w21, hw21⟩ : ∃ w21, w20.alloc (.cells #[.int .i64 (zv).type, .int .i64 (zv).n, .string (zv).s] 30) = w21 := ⟨_, rfl⟩
              have hb21 : Below w20.heap.size w20 w21 := by rw [← hw21]; exact belowNew _ _
              have HOV21 := Lib.hid (show Own3 w21 w20.heap.size (zv) by rw [← hw21]; exact own3_new w20 (zv))
              have HB21 := Lib.hid (below_step HB20.out hb21)
              have HOW21 := Lib.hid (HOW20.out.keep hb21)
              have HAL21 := Lib.hid (HAL20.out.keep hb21)
              have HW21 := Lib.hid hw21
              clear hb21 hw21
              go_wp2_with (first | rw [HW21.out])
              refine (TE.out (be) (be) w21 HB21.out).mono ?_
              rintro e w22 ⟨rfl, hb⟩
              rw [show ((be : Int) == be) = true from by simp]
              have HB22 := Lib.hid (below_step HB21.out hb)
              have HOW22 := Lib.hid (HOW21.out.keep hb)
              have HOV22 := Lib.hid (HOV21.out.keep hb)
              have HAL22 := Lib.hid (HAL21.out.keep hb)
              clear hb
              have TTc := Lib.hid (TT.out w22 HB22.out)
              unfold TraceTopSays at TTc
              rw [HTQc.out] at TTc
              go_wp2_with fail
              refine (TTc.out).mono ?_
              rintro e w23 ⟨AT, mm, c', rfl, hst, hml, hb⟩
              have HST23 := Lib.hid hst
              have HB23 := Lib.hid (below_step HB22.out hb)
              have HOW23 := Lib.hid (HOW22.out.keep hb)
              have HOV23 := Lib.hid (HOV22.out.keep hb)
              have HAL23 := Lib.hid (HAL22.out.keep hb)
              clear hb hst hml
              go_wp2_with fail
              refine (TE.out (ae) (ae) w23 HB23.out).mono ?_
              rintro e w24 ⟨rfl, hb⟩
              rw [show ((ae : Int) == ae) = true from by simp]
              have HB24 := Lib.hid (below_step HB23.out hb)
              have HOW24 := Lib.hid (HOW23.out.keep hb)
              have HOV24 := Lib.hid (HOV23.out.keep hb)
              have TS := Lib.hid (show Calls Tryz.prog 13 #[.slice AT mm c', .slice none 0 0] w24 (fun e w' => e = .returned (.bool true) ∧ ∃ q, w' = w24.drewN q) by
                have h := same_ints AT none mm 0 c' 0 (([] : List Nat).map fun k : Nat => (k : Int)) (([] : List Nat).map fun k : Nat => (k : Int)) w24 (HST23.out.keep hb) (HAL23.out.keep hb)
                rw [decide_eq_true (rfl : (([] : List Nat).map fun k : Nat => (k : Int)) = ([] : List Nat).map fun k : Nat => (k : Int))] at h
                exact h)
              clear hb
              go_wp2_with fail
              refine (TS.out).mono ?_
              rintro e w25 ⟨rfl, q25, rfl⟩
              have HB25 := Lib.hid (below_drewN HB24.out q25)
              have HOW25 := Lib.hid (HOW24.out.keep (below_drewN (Below.refl _ _) q25))
              have HOV25 := Lib.hid (HOV24.out.keep (below_drewN (Below.refl _ _) q25))
              generalize w24.drewN q25 = w25 at HB25 HOW25 HOV25 ⊢
              obtain ⟨o0, o1, o2, -, -, -, -⟩ := HOW25.out.cells
              obtain ⟨p0, p1, p2, -, -, -, -⟩ := HOV25.out.cells
              have s1 : ((zv).type == (zv).type) = true := by simp
              have s2 : ((zv).n == (zv).n) = true := by simp
              have s3 : ((zv).s.toList == (zv).s.toList) = true := by simp
              have s4 : ((bl.length : Int) == (bl.length : Int)) = true := by simp
              go_wp2_with fail
              go_ret
              exact ⟨rfl, HB25.out⟩
    · have r0 : (er == 0) = false := beq_eq_false_iff_ne.2 hr
      have HRDY := Lib.hid (show readyErr code cols row = er by rw [HRD.out]; rfl)
      have hne := hr
      have HQc := Lib.hid (show vmRun code cols row fuel = (er, 0, zv) by rw [HQ.out, HRDY.out, HZ.out]; exact if_pos hne)
      have HTQc := Lib.hid (show vmTrace code cols row = (er, []) by rw [HTQ.out, HRDY.out]; exact if_pos hne)
      clear hne hr HQ HTQ HRD HSND HROK
      go_enter Tryz.func3, Tryz.ntmps3
      go_wp2_with fail
      refine (TCK.out).mono ?_
      rintro e w1 ⟨rfl, hb⟩
      have HB1 := Lib.hid hb
      clear hb
      go_wp2_with fail
      refine (TRW.out w1 HB1.out).mono ?_
      rintro e w2 ⟨rfl, hb⟩
      have HB2 := Lib.hid (below_step HB1.out hb)
      clear hb
      obtain ⟨wT, hwT⟩ : ∃ wT, w2.alloc (.cells #[.int .i64 0, .int .i64 0, .string ⟨#[]⟩] 30) = wT := ⟨_, rfl⟩
      have hbT : Below w2.heap.size w2 wT := by rw [← hwT]; exact belowNew _ _
      have HBT := Lib.hid (below_step HB2.out hbT)
      have HOW := Lib.hid (show Own3 wT w2.heap.size zv by rw [HZ.out, ← hwT]; exact own3_new w2 noVal)
      have HAL := Lib.hid (seesNone wT 1)
      have HWT := Lib.hid hwT
      clear hbT hwT
      have TRc := Lib.hid (show Calls Tryz.prog 10 #[.slice A0 n c, .slice K nk ck, .slice AR nr cr, .int .i64 fuel] wT (fun e w' => e = .returned (.tuple #[.agg #[.int .i64 (zv).type, .int .i64 (zv).n, .string (zv).s], .int .i64 0, errV er]) ∧ Below wT.heap.size wT w') by
        have h := TR.out wT HBT.out
        unfold RunTopSays at h
        rw [HQc.out] at h
        exact h)
      go_wp2_with (first | rw [HWT.out])
      refine (TRc.out).mono ?_
      rintro e w20 ⟨rfl, hb⟩
      have HB20 := Lib.hid (below_step HBT.out hb)
      have HOW20 := Lib.hid (HOW.out.keep hb)
      have HAL20 := Lib.hid (HAL.out.keep hb)
      clear hb
      obtain ⟨w21, hw21⟩ : ∃ w21, w20.alloc (.cells #[.int .i64 (zv).type, .int .i64 (zv).n, .string (zv).s] 30) = w21 := ⟨_, rfl⟩
      have hb21 : Below w20.heap.size w20 w21 := by rw [← hw21]; exact belowNew _ _
      have HOV21 := Lib.hid (show Own3 w21 w20.heap.size (zv) by rw [← hw21]; exact own3_new w20 (zv))
      have HB21 := Lib.hid (below_step HB20.out hb21)
      have HOW21 := Lib.hid (HOW20.out.keep hb21)
      have HAL21 := Lib.hid (HAL20.out.keep hb21)
      have HW21 := Lib.hid hw21
      clear hb21 hw21
      go_wp2_with (first | rw [HW21.out])
      refine (TE.out (er) (er) w21 HB21.out).mono ?_
      rintro e w22 ⟨rfl, hb⟩
      rw [show ((er : Int) == er) = true from by simp]
      have HB22 := Lib.hid (below_step HB21.out hb)
      have HOW22 := Lib.hid (HOW21.out.keep hb)
      have HOV22 := Lib.hid (HOV21.out.keep hb)
      have HAL22 := Lib.hid (HAL21.out.keep hb)
      clear hb
      have TTc := Lib.hid (TT.out w22 HB22.out)
      unfold TraceTopSays at TTc
      rw [HTQc.out] at TTc
      go_wp2_with fail
      refine (TTc.out).mono ?_
      rintro e w23 ⟨AT, mm, c', rfl, hst, hml, hb⟩
      have HST23 := Lib.hid hst
      have HB23 := Lib.hid (below_step HB22.out hb)
      have HOW23 := Lib.hid (HOW22.out.keep hb)
      have HOV23 := Lib.hid (HOV22.out.keep hb)
      have HAL23 := Lib.hid (HAL22.out.keep hb)
      clear hb hst hml
      go_wp2_with fail
      refine (TE.out (er) (er) w23 HB23.out).mono ?_
      rintro e w24 ⟨rfl, hb⟩
      rw [show ((er : Int) == er) = true from by simp]
      have HB24 := Lib.hid (below_step HB23.out hb)
      have HOW24 := Lib.hid (HOW23.out.keep hb)
      have HOV24 := Lib.hid (HOV23.out.keep hb)
      have TS := Lib.hid (show Calls Tryz.prog 13 #[.slice AT mm c', .slice none 0 0] w24 (fun e w' => e = .returned (.bool true) ∧ ∃ q, w' = w24.drewN q) by
        have h := same_ints AT none mm 0 c' 0 (([] : List Nat).map fun k : Nat => (k : Int)) (([] : List Nat).map fun k : Nat => (k : Int)) w24 (HST23.out.keep hb) (HAL23.out.keep hb)
        rw [decide_eq_true (rfl : (([] : List Nat).map fun k : Nat => (k : Int)) = ([] : List Nat).map fun k : Nat => (k : Int))] at h
        exact h)
      clear hb
      go_wp2_with fail
      refine (TS.out).mono ?_
      rintro e w25 ⟨rfl, q25, rfl⟩
      have HB25 := Lib.hid (below_drewN HB24.out q25)
      have HOW25 := Lib.hid (HOW24.out.keep (below_drewN (Below.refl _ _) q25))
      have HOV25 := Lib.hid (HOV24.out.keep (below_drewN (Below.refl _ _) q25))
      generalize w24.drewN q25 = w25 at HB25 HOW25 HOV25 ⊢
      obtain ⟨o0, o1, o2, -, -, -, -⟩ := HOW25.out.cells
      obtain ⟨p0, p1, p2, -, -, -, -⟩ := HOV25.out.cells
      have s1 : ((zv).type == (zv).type) = true := by simp
      have s2 : ((zv).n == (zv).n) = true := by simp
      have s3 : ((zv).s.toList == (zv).s.toList) = true := by simp
      have s4 : ((0 : Int) == (0 : Int)) = true := by simp
      go_wp2_with fail
      go_ret
      exact ⟨rfl, HB25.out⟩
  · have v0 : (ev == 0) = false := beq_eq_false_iff_ne.2 hv
    have HRDY := Lib.hid (show readyErr code cols row = ev by rw [HRD.out]; exact if_pos hv)
    have hne := hv
    have HQc := Lib.hid (show vmRun code cols row fuel = (ev, 0, zv) by rw [HQ.out, HRDY.out, HZ.out]; exact if_pos hne)
    have HTQc := Lib.hid (show vmTrace code cols row = (ev, []) by rw [HTQ.out, HRDY.out]; exact if_pos hne)
    clear hne hv HQ HTQ HRD HSND HROK
    go_enter Tryz.func3, Tryz.ntmps3
    go_wp2_with fail
    refine (TCK.out).mono ?_
    rintro e w1 ⟨rfl, hb⟩
    have HB1 := Lib.hid hb
    clear hb
    obtain ⟨wT, hwT⟩ : ∃ wT, w1.alloc (.cells #[.int .i64 0, .int .i64 0, .string ⟨#[]⟩] 30) = wT := ⟨_, rfl⟩
    have hbT : Below w1.heap.size w1 wT := by rw [← hwT]; exact belowNew _ _
    have HBT := Lib.hid (below_step HB1.out hbT)
    have HOW := Lib.hid (show Own3 wT w1.heap.size zv by rw [HZ.out, ← hwT]; exact own3_new w1 noVal)
    have HAL := Lib.hid (seesNone wT 1)
    have HWT := Lib.hid hwT
    clear hbT hwT
    have TRc := Lib.hid (show Calls Tryz.prog 10 #[.slice A0 n c, .slice K nk ck, .slice AR nr cr, .int .i64 fuel] wT (fun e w' => e = .returned (.tuple #[.agg #[.int .i64 (zv).type, .int .i64 (zv).n, .string (zv).s], .int .i64 0, errV ev]) ∧ Below wT.heap.size wT w') by
      have h := TR.out wT HBT.out
      unfold RunTopSays at h
      rw [HQc.out] at h
      exact h)
    go_wp2_with (first | rw [HWT.out])
    refine (TRc.out).mono ?_
    rintro e w20 ⟨rfl, hb⟩
    have HB20 := Lib.hid (below_step HBT.out hb)
    have HOW20 := Lib.hid (HOW.out.keep hb)
    have HAL20 := Lib.hid (HAL.out.keep hb)
    clear hb
    obtain ⟨w21, hw21⟩ : ∃ w21, w20.alloc (.cells #[.int .i64 (zv).type, .int .i64 (zv).n, .string (zv).s] 30) = w21 := ⟨_, rfl⟩
    have hb21 : Below w20.heap.size w20 w21 := by rw [← hw21]; exact belowNew _ _
    have HOV21 := Lib.hid (show Own3 w21 w20.heap.size (zv) by rw [← hw21]; exact own3_new w20 (zv))
    have HB21 := Lib.hid (below_step HB20.out hb21)
    have HOW21 := Lib.hid (HOW20.out.keep hb21)
    have HAL21 := Lib.hid (HAL20.out.keep hb21)
    have HW21 := Lib.hid hw21
    clear hb21 hw21
    go_wp2_with (first | rw [HW21.out])
    refine (TE.out (ev) (ev) w21 HB21.out).mono ?_
    rintro e w22 ⟨rfl, hb⟩
    rw [show ((ev : Int) == ev) = true from by simp]
    have HB22 := Lib.hid (below_step HB21.out hb)
    have HOW22 := Lib.hid (HOW21.out.keep hb)
    have HOV22 := Lib.hid (HOV21.out.keep hb)
    have HAL22 := Lib.hid (HAL21.out.keep hb)
    clear hb
    have TTc := Lib.hid (TT.out w22 HB22.out)
    unfold TraceTopSays at TTc
    rw [HTQc.out] at TTc
    go_wp2_with fail
    refine (TTc.out).mono ?_
    rintro e w23 ⟨AT, mm, c', rfl, hst, hml, hb⟩
    have HST23 := Lib.hid hst
    have HB23 := Lib.hid (below_step HB22.out hb)
    have HOW23 := Lib.hid (HOW22.out.keep hb)
    have HOV23 := Lib.hid (HOV22.out.keep hb)
    have HAL23 := Lib.hid (HAL22.out.keep hb)
    clear hb hst hml
    go_wp2_with fail
    refine (TE.out (ev) (ev) w23 HB23.out).mono ?_
    rintro e w24 ⟨rfl, hb⟩
    rw [show ((ev : Int) == ev) = true from by simp]
    have HB24 := Lib.hid (below_step HB23.out hb)
    have HOW24 := Lib.hid (HOW23.out.keep hb)
    have HOV24 := Lib.hid (HOV23.out.keep hb)
    have TS := Lib.hid (show Calls Tryz.prog 13 #[.slice AT mm c', .slice none 0 0] w24 (fun e w' => e = .returned (.bool true) ∧ ∃ q, w' = w24.drewN q) by
      have h := same_ints AT none mm 0 c' 0 (([] : List Nat).map fun k : Nat => (k : Int)) (([] : List Nat).map fun k : Nat => (k : Int)) w24 (HST23.out.keep hb) (HAL23.out.keep hb)
      rw [decide_eq_true (rfl : (([] : List Nat).map fun k : Nat => (k : Int)) = ([] : List Nat).map fun k : Nat => (k : Int))] at h
      exact h)
    clear hb
    go_wp2_with fail
    refine (TS.out).mono ?_
    rintro e w25 ⟨rfl, q25, rfl⟩
    have HB25 := Lib.hid (below_drewN HB24.out q25)
    have HOW25 := Lib.hid (HOW24.out.keep (below_drewN (Below.refl _ _) q25))
    have HOV25 := Lib.hid (HOV24.out.keep (below_drewN (Below.refl _ _) q25))
    generalize w24.drewN q25 = w25 at HB25 HOW25 HOV25 ⊢
    obtain ⟨o0, o1, o2, -, -, -, -⟩ := HOW25.out.cells
    obtain ⟨p0, p1, p2, -, -, -, -⟩ := HOV25.out.cells
    have s1 : ((zv).type == (zv).type) = true := by simp
    have s2 : ((zv).n == (zv).n) = true := by simp
    have s3 : ((zv).s.toList == (zv).s.toList) = true := by simp
    have s4 : ((0 : Int) == (0 : Int)) = true := by simp
    go_wp2_with fail
    go_ret
    exact ⟨rfl, HB25.out⟩

set_option maxRecDepth 100000 in
theorem contract (H : Type) (enc : TypeId × Value → H) (W : World) (base : Nat) (args : Array Value) (ds gs : List (DataW H)) (before : List MemPlace)
    (hval : ∀ (j : Nat) t v, Tryz.f3.params[j]? = some t → args[j]? = some v → Value.okWide Tryz.prog W .any base t v)
    (hW : DataW.Whole enc Tryz.prog Tryz.f3.params.toList Rows.vmTellsSpec.vars false W args.toList ds gs before)
    (hsz : (DataW.weightsEach Tryz.prog (Tryz.f3.params.toList ++ (OpenSpec.ofChange Rows.vmTellsSpec).bare.plain.varTypes Tryz.prog) (ds ++ gs)).all (· ≤ reachBytes) = true) (hL : laidMetH Tryz.prog Rows.vmTellsRow.laid W) :
    Calls Tryz.prog 3 args W fun e W' => ∃ v, e = .returned v ∧ Rows.vmTellsSpec.post enc Tryz.prog Tryz.f3 false true false false W args v W' := by
  have hW' := hW
  obtain ⟨p, q, hA0, hV, rfl, hfz, hnd⟩ := hW
  have hA : DataW.TrodAll enc Tryz.prog W 0 (fun _ => true) true Tryz.f3.params.toList args.toList ds p := hA0
  rw [Tryz.params3] at hA hval
  obtain ⟨v0, vs0, d0, ds0, p0, q0, hargs, rfl, rfl, h0, r0⟩ := trodAll_cons hA
  obtain ⟨v1, vs1, d1, ds1, p1, q1, rfl, rfl, rfl, h1, r1⟩ := trodAll_cons r0
  obtain ⟨v2, vs2, d2, ds2, p2, q2, rfl, rfl, rfl, h2, r2⟩ := trodAll_cons r1
  obtain ⟨v3, vs3, d3, ds3, p3, q3, rfl, rfl, rfl, h3, r3⟩ := trodAll_cons r2
  obtain ⟨rfl, rfl, rfl⟩ := trodAll_nil r3
  obtain rfl : args = #[v0, v1, v2, v3] := by cases args; simp_all
  obtain ⟨rfl, rfl⟩ := trodVars_none hV
  have hv0 := hval 0 22 v0 rfl rfl
  have hv1 := hval 1 23 v1 rfl rfl
  have hv2 := hval 2 24 v2 rfl rfl
  obtain ⟨fuel, rfl, rfl, rfl, _⟩ := open_int Tryz.underlying3 (hval 3 3 v3 rfl rfl) h3
  obtain ⟨A0, n, c, l, rfl, hC, hwf⟩ := open_code (okWide_slice Tryz.underlying22 hv0) h0
  obtain ⟨K, nk, ck, cols, rfl, hK, hcs⟩ := open_cols (okWide_slice Tryz.underlying23 hv1) h1
  obtain ⟨AR, nr, cr, row, rfl, hR, hwr⟩ := open_vals (okWide_slice Tryz.underlying24 hv2) h2
  have hL0 : laidMet Tryz.prog [("sluicebook/tree.levels", Rows.laid_sluicebook_tree_levels), ("sluicebook/kind.ops", Rows.laid_sluicebook_kind_ops)] W ∧ handlesMet Tryz.prog [("errors.errorType", Rows.laid_errors_errorType)] W := hL
  refine (walk A0 n c l K nk ck cols AR nr cr row fuel W (errT_of_laid (show laidMetH Tryz.prog [("errors.errorType", Rows.laid_errors_errorType)] W from ⟨laidMet_nil _ _, hL0.2⟩)) (opsT_of hL0.1 (.tail _ (.head _))) (levelsT_of hL0.1 (.head _)) hC hK (fun x hx => (hcs x hx).1) hwf hR hwr).mono fun e W' ⟨he, hb⟩ => ?_
  subst he
  exact ⟨_, rfl, law_post laidOut Tryz.underlying4 (by kernel_rfl) rfl (by rw [Tryz.params3]; intro t ht; simp only [List.mem_cons, List.not_mem_nil, or_false] at ht; rcases ht with rfl | rfl | rfl | rfl; all_goals exact ⟨by kernel_rfl, of_decide_eq_true (by kernel_rfl)⟩) hW' rfl hb⟩

theorem reads (os : Os) {H : Type} (enc : TypeId × Value → H) : ∃ places, DataW.whole enc Tryz.prog ((World.doorLaid Tryz.prog 4000 os).forCall (fun _ _ => 0) ⟨#[], #[.slice none 0 0, .slice none 0 0, .slice none 0 0, .int .i64 0], []⟩).memory Tryz.f3.params.toList Rows.vmTellsSpec.vars false (#[.slice none 0 0, .slice none 0 0, .slice none 0 0, .int .i64 0] : Array Value).toList 8 = some ([.nil, .nil, .nil, .lit (.int .i64 0)], [], places) :=
  ⟨[], by kernel_rfl⟩

set_option maxRecDepth 100000 in
theorem lifted (os : Os) (started : os.Started) (H : Type) (enc : TypeId × Value → H) (F : Stop.Interp) :
    ReturnsInHanded {} Tryz.checked os 3 .any ((OpenSpec.ofChange Rows.vmTellsSpec).preRow enc Tryz.prog Tryz.f3 Rows.vmTellsRow.domain false Rows.vmTellsRow.laid) (((OpenSpec.ofChange Rows.vmTellsSpec).at F).post enc Tryz.prog Tryz.f3 false true false false) := by
  obtain ⟨places, hx⟩ := reads os enc
  refine returnsInHanded_of_row (C := Tryz.checked) (s := OpenSpec.ofChange Rows.vmTellsSpec) own started (by kernel_rfl) Tryz.func3
    (witness_row_atRef (enc := enc) (C := Tryz.checked) false (World.doorLaid Tryz.prog 4000 os) #[.slice none 0 0, .slice none 0 0, .slice none 0 0, .int .i64 0] rfl (by kernel_rfl) (by kernel_rfl) (by kernel_rfl)
      (OpenSpec.preRow_of_cond 8 hx (by kernel_rfl) (fun k hk => by cases hk) (by kernel_rfl) (laidMetH_of_parts (laidMet_of_run' 12 (by kernel_rfl) (by kernel_rfl)) (by kernel_rfl)))) ?_
  intro W base args ds gs before hval hW _ _ hsz hL _ _
  exact contract H enc W base args ds gs before hval hW hsz hL

theorem said : Rows.VmTellsSaid :=
  OpenClaim.holds_of_cond 3 Tryz.f3 rfl rfl rfl rfl rfl rfl rfl ⟨rfl, rfl, rfl, rfl, rfl⟩ rfl rfl rfl rfl rfl (by kernel_rfl) Tryz.func3 (by kernel_rfl)
    (of_decide_eq_true (by kernel_rfl)) (by unfold Func.isWrapper; first | (rw [if_pos (by decide +kernel)]; kernel_rfl) | (rw [if_neg (by decide +kernel)]; exact ⟨rfl, rfl⟩))
    (fun os started H enc _ F => by rw [OpenClaim.pre_eq_preRow]; exact lifted os started H enc F)

theorem plain (f : FuncId) (fn : Func) (hf : Tryz.pinned.checked.prog.funcNamed "sluicebook/sluicelaw2.VmTells" = some f) (hfn : Tryz.pinned.checked.prog.funcs[f]? = some fn) :
    true = Tryz.pinned.checked.prog.looks [] ∧ ∀ (j : Nat) t, fn.params[j]? = some t → Tryz.pinned.checked.prog.wantsStandIn t = false := by
  obtain rfl : f = 3 := Option.some.inj ((show Tryz.prog.funcNamed "sluicebook/sluicelaw2.VmTells" = some 3 by kernel_rfl).symm.trans hf) |>.symm
  obtain rfl : fn = Tryz.f3 := (Option.some.inj (Tryz.func3.symm.trans hfn)).symm
  refine ⟨by kernel_rfl, fun j t ht => ?_⟩
  rw [Tryz.params3] at ht
  have hm := Array.mem_of_getElem? ht
  simp only [List.mem_toArray, List.mem_cons, List.not_mem_nil, or_false] at hm
  rcases hm with rfl | rfl | rfl | rfl
  · exact (show Tryz.prog.wantsStandIn 22 = false by kernel_rfl)
  · exact (show Tryz.prog.wantsStandIn 23 = false by kernel_rfl)
  · exact (show Tryz.prog.wantsStandIn 24 = false by kernel_rfl)
  · exact (show Tryz.prog.wantsStandIn 3 = false by kernel_rfl)

theorem card : Rows.VmTellsCardSaid :=
  Claim7.holds_tied_plain_at .later [] _ _ _ _ said (fun _ h => by cases h) (by kernel_rfl) (fun _ h => by cases h) vmTells_row_tie rfl ⟨rfl, rfl⟩ (by kernel_rfl) rfl plain (by kernel_rfl)
#print axioms card
end Go.Proofs.YthmbafkedgahaaaGreatDoor.vmTells
