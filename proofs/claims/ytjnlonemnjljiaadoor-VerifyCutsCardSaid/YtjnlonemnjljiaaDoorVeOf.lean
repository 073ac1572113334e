/- verify.of, Check, Type, Most: walked. -/
import Derived.Test.YtjnlonemnjljiaaDoorVeStep
import Derived.OwnWalk
import Derived.Laws.MakeOwn
import Derived.Laws.OwnMore
namespace Go.Proofs.YtjnlonemnjljiaaDoor
open Go.ChangeShapes Go.WideShapes Go.ChangeAt Go.RowKit

theorem runP_step {cols : List Col} {len i : Nat} {code : List Ins} {x : Ins} {st : Sts} {most : Nat} (hx : code[i]? = some x) :
    runP cols len i (code.drop i) st most = if (stepP cols len i x st most).1 ≠ 0 then (i, (stepP cols len i x st most).1, (stepP cols len i x st most).2) else runP cols len (i + 1) (code.drop (i + 1)) (stepP cols len i x st most).2.1 (stepP cols len i x st most).2.2 := by
  obtain ⟨h, rfl⟩ := List.getElem?_eq_some_iff.1 hx
  rw [List.drop_eq_getElem_cons h, runP]
theorem start_small (n : Nat) : Small64 (startP n) := by
  intro k l h
  rw [List.getD_eq_getElem?_getD] at h
  unfold startP at h
  cases k with
  | zero => simp at h; subst h; decide
  | succ k =>
    rw [List.getElem?_cons_succ, List.getElem?_replicate] at h
    split at h <;> simp at h
theorem CkAt.new {w : World} {B q n c nk ck : Nat} {A0 K : Option Addr} (hq : w.ownsRow B 99 1 (.slice (some ⟨q, 0, none⟩) (n + 1) (n + 1)) (n + 1) (madeCells (Value.slice none 0 0).cells ((n + 1) * 1)).toList) (hB : B ≤ w.heap.size) :
    CkAt (w.alloc (.cells #[.slice A0 n c, .slice K nk ck, .slice (some ⟨q, 0, none⟩) (n + 1) (n + 1), .int .i64 0] 102)) B w.heap.size q A0 n c K nk ck (List.replicate (n + 1) none) 0 := by
  have hql := hq.lt q rfl
  have hb : Below w.heap.size w (w.alloc (.cells #[.slice A0 n c, .slice K nk ck, .slice (some ⟨q, 0, none⟩) (n + 1) (n + 1), .int .i64 0] 102)) := (Below.refl _ _).alloc (Nat.le_refl _) _
  refine ⟨heap_alloc_new w _, ?_, by simp, ⟨hB, hql.1⟩, by omega⟩
  rcases hq.2 with ⟨e, _⟩ | ⟨g, cap, cur, e, h1, h2, h3, h4, h5, h6⟩
  · cases e
  · injection e with e1 e2 e3
    injection e1 with e1
    injection e1 with e1
    subst e1 e3
    rw [Nat.mul_one] at h5 h6
    refine ⟨cur, (hb.block q hql.2).trans h2, h5, fun k o ho => ?_⟩
    rw [List.getElem?_replicate] at ho
    split at ho
    · rename_i hk
      injection ho with ho
      subst ho
      refine ⟨.slice none 0 0, ?_, rfl⟩
      have e6 : (cur.toList.take (n + 1))[k]? = _ := congrArg (fun z : List Value => z[k]?) h6
      rw [List.getElem?_take_of_lt hk, Array.getElem?_toList, Array.getElem?_toList] at e6
      rw [e6]
      unfold madeCells
      rw [Array.getElem?_map, Array.getElem?_range]
      simp [hk, Value.cells, Nat.mod_one]
    · cases ho
theorem start_set (n : Nat) : (List.replicate (n + 1) (none : Option (List Int))).set 0 (some []) = startP n := by rw [List.replicate_succ]; rfl
theorem stsSlice : SliceTy Tryd.prog 100 99 (.slice none 0 0) 1 24 := SliceTy.of Tryd.underlying100 (by kernel_rfl) rfl (by decide) (by decide)
/-- What of says: no fault, and the checker; or the fault, and where. -/
def OfSays (A0 : Option Addr) (n c : Nat) (K : Option Addr) (nk ck : Nat) (v : Ver) (W : World) (e : Ending) (w' : World) : Prop :=
  (if v.err ≠ 0 then e = .returned (.tuple #[.pointer none, .int .i64 v.place, errV v.err])
   else ∃ p q st, e = .returned (.tuple #[.pointer (some ⟨p, 0, none⟩), .int .i64 0, .nilIface]) ∧ CkAt w' W.heap.size p q A0 n c K nk ck st v.most ∧ endP n st = [v.ty]) ∧ Below W.heap.size W w'
set_option maxHeartbeats 8000000 in
set_option maxRecDepth 100000 in
theorem vof_any (A0 : Option Addr) (n c : Nat) (code : List Ins) (K : Option Addr) (nk ck : Nat) (cols : List Col) (W : World) (hC : SeesCode W A0 n c code) (hK : SeesCols W K nk ck cols) (hs : ∀ x ∈ cols, x.name.size ≤ maxLen) (hO : OpsT W) (hT : LevelsT W) :
    Calls Tryd.prog 37 #[.slice A0 n c, .slice K nk ck] W (OfSays A0 n c K nk ck (verP code cols) W) := by
  have hl := hC.1
  have hcc := hC.2.2.1
  have hcm := hC.2.2.2.1
  unfold maxLen at hcm
  have hkc := hK.2.2.1
  have hkm := hK.2.2.2.1
  unfold maxLen at hkm
  by_cases h1200 : 1200 < n
  · have d0 : decide (1200 < n) = true := decide_eq_true h1200
    have d0' : decide (1200 < (n : Int)) = true := decide_eq_true (by omega)
    have E := Lib.hid (show verP code cols = ⟨0, 4, 0, 0⟩ by unfold verP; rw [hl]; exact if_pos h1200)
    clear hC hK hs hO hT
    go_enter Tryd.func37, Tryd.ntmps37
    go_wp2_with fail
    go_ret3
    rw [E.out]
    exact ⟨rfl, Below.refl _ _⟩
  have d0 : decide (1200 < n) = false := decide_eq_false h1200
  have d0' : decide (1200 < (n : Int)) = false := decide_eq_false (by omega)
  have TS := Lib.hid (rschema_any cols K nk ck W hK hs)
  by_cases hse : schemaErr cols = 0
  · rw [hse, errV_zero] at TS
    have EV := Lib.hid (show verP code cols = (if (runP cols n 0 code (startP n) 0).2.1 ≠ 0 then (⟨(runP cols n 0 code (startP n) 0).1, (runP cols n 0 code (startP n) 0).2.1, 0, 0⟩ : Ver) else if (endP n (runP cols n 0 code (startP n) 0).2.2.1).length ≠ 1 then ⟨n, 3, 0, 0⟩ else
      ⟨0, 0, (endP n (runP cols n 0 code (startP n) 0).2.2.1).headD 0, (runP cols n 0 code (startP n) 0).2.2.2⟩) by
      unfold verP; rw [hl, if_neg h1200, if_neg (by simpa using hse)])
    have HC := Lib.hid hC
    have HK := Lib.hid hK
    have HO := Lib.hid hO
    have HT := Lib.hid hT
    have HLL := Lib.hid hl
    clear hC hK hs hO hT hse hl
    go_enter Tryd.func37, Tryd.ntmps37
    go_wp2_with fail
    refine (TS.out).mono ?_
    rintro e w0 ⟨rfl, hb0⟩
    have HB0 := Lib.hid hb0
    clear hb0
    obtain ⟨ht, _, _, hzs, i0, hi, hz, hsz, hby⟩ := stsSlice
    obtain ⟨wq, hmk, hownq, hgq⟩ := run_makeSlice_full (P := Tryd.prog) w0 w0.heap.size 100 99 i0 (.slice none 0 0) 1 ht hi hz hsz .i64 .i64 (n + 1) (by omega) (by rw [hby]; omega) (by unfold maxLen; omega) (Nat.le_refl _)
    have hbq : Below w0.heap.size w0 wq := (Below.refl _ _).grown hgq (Nat.le_refl _) (fun k hk => by cases hk)
    rw [show ((n + 1 : Nat) : Int) = (n : Int) + 1 by omega] at hmk
    obtain ⟨q, hq⟩ : ∃ q, q = w0.heap.size := ⟨_, rfl⟩
    rw [← hq] at hmk hownq
    have hB0s := HB0.out.size
    have hck := CkAt.new (A0 := A0) (K := K) (c := c) (nk := nk) (ck := ck) (own_base hownq (show W.heap.size ≤ q by omega)) (by have := hbq.size; omega)
    obtain ⟨wp, hwp⟩ : ∃ wp, wq.alloc (.cells #[.slice A0 n c, .slice K nk ck, .slice (some ⟨q, 0, none⟩) (n + 1) (n + 1), .int .i64 0] 102) = wp := ⟨_, rfl⟩
    rw [hwp] at hck
    have hbp : Below wq.heap.size wq wp := by rw [← hwp]; exact (Below.refl _ _).alloc (Nat.le_refl _) _
    obtain ⟨we, hwe⟩ : ∃ we, wp.alloc (.cells #[] 3) = we := ⟨_, rfl⟩
    have hbe : Below wp.heap.size wp we := by rw [← hwe]; exact (Below.refl _ _).alloc (Nat.le_refl _) _
    have hce := hck.keep hbe
    obtain ⟨p, hp⟩ : ∃ p, p = wq.heap.size := ⟨_, rfl⟩
    rw [← hp] at hce hck
    obtain ⟨-, -, k2p, -⟩ := box4 hck.box
    have hpp := box_lt hce.box
    obtain ⟨-, -, k2, -⟩ := box4 hce.box
    obtain ⟨u, ku, -, kf⟩ := hce.at_ (i := 0) (by omega)
    obtain ⟨w1, hw1⟩ : ∃ w1, we.setCell ⟨q, 0, none⟩ (.slice (some ⟨wp.heap.size, 0, none⟩) 0 0) = w1 := ⟨_, rfl⟩
    have hc1 := hce.stored (i := 0) (l := []) (u := .slice (some ⟨wp.heap.size, 0, none⟩) 0 0) (by omega) ⟨_, _, rfl, ⟨rfl, Nat.le_refl _, Nat.zero_le _, (fun e => by cases e), fun h => absurd h (by decide)⟩, fun h => absurd h (by decide)⟩
    rw [start_set, hw1] at hc1
    have HC1 := Lib.hid hc1
    have HBW := Lib.hid (show Below W.heap.size W w1 by
      rw [← hw1]
      exact ((below_step (below_step (below_step HB0.out hbq) hbp) hbe)).setCell (p := ⟨q, 0, none⟩) (show W.heap.size ≤ q by omega) _)
    have HMK := Lib.hid hmk
    have HWP := Lib.hid hwp
    have HWE := Lib.hid hwe
    have HW1 := Lib.hid hw1
    have HP := Lib.hid hp
    have HQ := Lib.hid hq
    clear hownq hgq hbq hck hwp hbp hwe hbe hce hw1 hc1 ht hi hz hsz hby hzs hmk hp hq
    go_wp2_with (first | rw [HMK.out] | rw [HWP.out] | rw [← HP.out] | rw [HWE.out] | rw [HW1.out])
    clear k2 k2p ku kf hpp
    go_loopw [36] (fun u wx => ∃ (k : Nat) (st : Sts) (most : Nat), k ≤ n ∧ u = .int .i64 k ∧ CkAt wx W.heap.size p q A0 n c K nk ck st most ∧ Below W.heap.size W wx ∧ Small64 st ∧ most ≤ 64 ∧ runP cols n 0 code (startP n) 0 = runP cols n k (code.drop k) st most) (fun u _ => n - (intOf u).toNat)
    case atStart => exact ⟨0, startP n, 0, by omega, rfl, HC1.out, HBW.out, start_small n, by omega, rfl⟩
    case round =>
      obtain ⟨k, st, most, hk, rfl, hck, hlow, hsm, hmo, hrun⟩ := hrel
      have HCK := Lib.hid hck
      have HLOW := Lib.hid hlow
      have HSM := Lib.hid hsm
      have HRUN := Lib.hid hrun
      obtain ⟨-, -, k2, -⟩ := box4 hck.box
      clear hck hlow hsm hrun
      by_cases hkn : k < n
      · obtain ⟨x, hx⟩ : ∃ x, code[k]? = some x := ⟨_, List.getElem?_eq_getElem (by rw [HLL.out]; exact hkn)⟩
        have STEP := Lib.hid (step_any W p q A0 n c K nk ck st most k code x cols wr HLOW.out HCK.out HC.out HK.out HO.out HT.out hx (by omega) HSM.out hmo)
        have RS := Lib.hid (runP_step (cols := cols) (len := n) (st := st) (most := most) hx)
        have SMS := Lib.hid (stepP_small (cols := cols) (len := n) (i := k) (x := x) HSM.out hmo)
        generalize stepP cols n k x st most = r at STEP RS SMS
        clear hx k2
        go_wp2_with fail
        refine (STEP.out).mono ?_
        rintro e w2 ⟨rfl, hb2, hok⟩
        have HB2 := Lib.hid hb2
        have HOK := Lib.hid hok
        clear hb2 hok
        by_cases hr : r.1 = 0
        · have RS2 := Lib.hid (RS.out.trans (if_neg (by simpa using hr)))
          have HC2 := Lib.hid (HOK.out hr)
          rw [hr, errV_zero]
          clear hr
          go_wp2_with fail
          go_roundw
          case rel => exact ⟨k + 1, r.2.1, r.2.2, by omega, by go_num, HC2.out, HB2.out, SMS.out.1, SMS.out.2, HRUN.out.trans RS2.out⟩
          case measure => simp [intOf]; omega
        · have RS2 := Lib.hid (HRUN.out.trans (RS.out.trans (if_pos hr)))
          have HNE := Lib.hid hr
          rw [errV_ne hr]
          clear hr
          go_wp2_with fail
          go_ret3
          rw [EV.out, RS2.out, if_pos HNE.out]
          refine ⟨?_, HB2.out⟩
          rw [if_pos HNE.out, errV_ne HNE.out]
          rfl
      · obtain rfl : k = n := by omega
        have RE := Lib.hid (show runP cols k k (code.drop k) st most = (k, 0, st, most) by rw [List.drop_of_length_le (by rw [HLL.out]; exact Nat.le_refl _)]; rfl)
        have RS2 := Lib.hid (HRUN.out.trans RE.out)
        have EV2 := Lib.hid (show verP code cols = (if (endP k st).length ≠ 1 then ⟨k, 3, 0, 0⟩ else ⟨0, 0, (endP k st).headD 0, most⟩) by
          rw [EV.out, RS2.out, if_neg (show ¬ (0 : Int) ≠ 0 by decide)])
        obtain ⟨u, ku, hu, -⟩ := HCK.out.at_ (i := k) (by omega)
        have hq1 : k < k + 1 := by omega
        have hq2 : (k : Int) < (k : Int) + 1 := by omega
        cases hst : st.getD k none with
        | none =>
          rw [hst] at hu
          have hu : u = .slice none 0 0 := hu
          subst hu
          have EN := Lib.hid (show (endP k st).length ≠ 1 by unfold endP; rw [hst]; decide)
          clear hst
          go_wp2_with fail
          go_ret3
          rw [EV2.out, if_pos EN.out]
          exact ⟨by rw [if_pos (show ¬ (3 : Int) = 0 by decide)]; rfl, HLOW.out⟩
        | some l =>
          rw [hst] at hu
          obtain ⟨ad, cA, rfl, -, -⟩ := hu
          have EN := Lib.hid (show endP k st = l by unfold endP; rw [hst]; rfl)
          clear hst
          obtain ⟨ml, hml⟩ : ∃ ml, ml = l.length := ⟨_, rfl⟩
          rw [← hml] at ku
          have HML := Lib.hid hml
          clear hml
          by_cases h1 : ml = 1
          · subst h1
            obtain ⟨t, rfl⟩ : ∃ t, l = [t] := by
              have := HML.out
              match l, this with
              | [t], _ => exact ⟨t, rfl⟩
            go_wp2_with fail
            go_ret3
            rw [EV2.out, EN.out, if_neg (by simp)]
            refine ⟨?_, HLOW.out⟩
            rw [if_neg (by simp)]
            exact ⟨p, q, st, rfl, HCK.out, EN.out⟩
          · have e1 : ((ml : Int) == 1) = false := beq_eq_false_iff_ne.2 (by omega)
            have e2 : (ml == 1) = false := beq_eq_false_iff_ne.2 h1
            have HN1 := Lib.hid h1
            clear h1
            go_wp2_with fail
            go_ret3
            rw [EV2.out, EN.out, if_pos (by rw [← HML.out]; exact HN1.out)]
            exact ⟨by rw [if_pos (show ¬ (3 : Int) = 0 by decide)]; rfl, HLOW.out⟩
  · have E := Lib.hid (show verP code cols = ⟨0, schemaErr cols, 0, 0⟩ by unfold verP; rw [hl, if_neg h1200, if_pos hse])
    rw [errV_ne hse] at TS
    have HNE := Lib.hid hse
    clear hC hK hs hO hT hse
    go_enter Tryd.func37, Tryd.ntmps37
    go_wp2_with fail
    refine (TS.out).mono ?_
    rintro e w0 ⟨rfl, hb0⟩
    have HB0 := Lib.hid hb0
    clear hb0
    go_wp2_with fail
    go_ret3
    rw [E.out]
    exact ⟨by rw [if_pos HNE.out, errV_ne HNE.out]; rfl, HB0.out⟩
theorem ver_bad {code : List Ins} {cols : List Col} (h : (verP code cols).err ≠ 0) : (verP code cols).ty = 0 ∧ (verP code cols).most = 0 := by
  unfold verP at h ⊢
  repeat' split
  all_goals first | exact ⟨rfl, rfl⟩ | skip
  rename_i h1 h2 h3 h4
  rw [if_neg h1, if_neg h2, if_neg h3, if_neg h4] at h
  exact absurd rfl h
theorem ver_good {code : List Ins} {cols : List Col} (h : (verP code cols).err = 0) : (verP code cols).place = 0 := by
  unfold verP at h ⊢
  split
  · rfl
  · rename_i h1
    rw [if_neg h1] at h
    split
    · rfl
    · rename_i h2
      rw [if_neg h2] at h
      split
      · rename_i h3
        rw [if_pos h3] at h
        exact absurd h h3
      · rename_i h3
        rw [if_neg h3] at h
        split
        · rename_i h4
          rw [if_pos h4] at h
          exact absurd h (show ¬ (3 : Int) = 0 by decide)
        · rfl
theorem ver_len {code : List Ins} {cols : List Col} (h : (verP code cols).err = 0) : code.length ≤ 1200 := by
  unfold verP at h
  split at h
  · exact absurd h (show ¬ (4 : Int) = 0 by decide)
  · omega
def TwoV (a : Int) (k : Int) (W : World) (e : Ending) (w' : World) : Prop := e = .returned (.tuple #[.int .i64 a, errV k]) ∧ Below W.heap.size W w'
section
variable (A0 : Option Addr) (n c : Nat) (code : List Ins) (K : Option Addr) (nk ck : Nat) (cols : List Col) (W : World) (hC : SeesCode W A0 n c code) (hK : SeesCols W K nk ck cols) (hs : ∀ x ∈ cols, x.name.size ≤ maxLen) (hO : OpsT W) (hT : LevelsT W)
include hC hK hs hO hT
set_option maxHeartbeats 2000000 in
theorem vecheck_any : Calls Tryd.prog 15 #[.slice A0 n c, .slice K nk ck] W (TwoV (verP code cols).place (verP code cols).err W) := by
  have T := Lib.hid (vof_any A0 n c code K nk ck cols W hC hK hs hO hT)
  have VG := Lib.hid (ver_good (code := code) (cols := cols))
  clear hC hK hs hO hT
  generalize verP code cols = v at T VG
  go_enter Tryd.func15, Tryd.ntmps15
  go_wp2_with fail
  refine (T.out).mono ?_
  rintro e w1 ⟨hr, hb⟩
  have HB := Lib.hid hb
  clear hb
  by_cases hv : v.err = 0
  · rw [if_neg (by simpa using hv)] at hr
    obtain ⟨p, q, st, rfl, -, -⟩ := hr
    have E1 := Lib.hid (VG.out hv)
    have E2 := Lib.hid hv
    clear hv
    go_wp2_with fail
    go_ret2
    exact ⟨by rw [E1.out, E2.out]; rfl, HB.out⟩
  · rw [if_pos hv] at hr
    subst hr
    clear hv
    go_wp2_with fail
    go_ret2
    exact ⟨rfl, HB.out⟩
set_option maxHeartbeats 2000000 in
theorem vetype_any : Calls Tryd.prog 16 #[.slice A0 n c, .slice K nk ck] W (TwoV (verP code cols).ty (verP code cols).err W) := by
  have T := Lib.hid (vof_any A0 n c code K nk ck cols W hC hK hs hO hT)
  have VB := Lib.hid (ver_bad (code := code) (cols := cols))
  have hcc := hC.2.2.1
  have hcm := hC.2.2.2.1
  unfold maxLen at hcm
  have VL := Lib.hid (fun h => show n ≤ 1200 by rw [← hC.1]; exact ver_len (code := code) (cols := cols) h)
  clear hC hK hs hO hT
  generalize verP code cols = v at T VB VL
  go_enter Tryd.func16, Tryd.ntmps16
  go_wp2_with fail
  refine (T.out).mono ?_
  rintro e w1 ⟨hr, hb⟩
  have HB := Lib.hid hb
  clear hb
  by_cases hv : v.err = 0
  · rw [if_neg (by simpa using hv)] at hr
    obtain ⟨p, q, st, rfl, hck, hend⟩ := hr
    obtain ⟨-, -, k2, -⟩ := box4 hck.box
    obtain ⟨u, ku, hu, -⟩ := hck.at_ (i := n) (Nat.le_refl _)
    have hn := VL.out hv
    have hq1 : n < n + 1 := by omega
    have hq2 : (n : Int) < (n : Int) + 1 := by omega
    obtain ⟨g, o, c9, rfl, k9⟩ : ∃ g o c9, u = .slice (some ⟨g, o, none⟩) 1 c9 ∧ w1.cell? ⟨g, o, none⟩ = some (.int .i64 v.ty) := by
      unfold endP at hend
      cases hst : st.getD n none with
      | none => rw [hst] at hend; cases hend
      | some l =>
        rw [hst] at hu hend
        have hend : l = [v.ty] := hend
        subst hend
        obtain ⟨ad, cA, rfl, hs, -⟩ := hu
        obtain ⟨g, o, x, e, hx, hc⟩ := ints_at hs (show 0 < 1 by decide)
        injection e with e
        subst e
        have hx : v.ty = x := Option.some.inj hx
        subst hx
        exact ⟨g, o, cA, rfl, hc⟩
    have E2 := Lib.hid hv
    clear hv hck hend hu
    go_wp2_with fail
    go_ret2
    exact ⟨by rw [E2.out]; rfl, HB.out⟩
  · rw [if_pos hv] at hr
    subst hr
    have E1 := Lib.hid (VB.out hv).1
    have E2 := Lib.hid hv
    rw [errV_ne hv]
    clear hv
    go_wp2_with fail
    go_ret2
    exact ⟨by rw [E1.out, errV_ne E2.out]; rfl, HB.out⟩
set_option maxHeartbeats 2000000 in
theorem vemost_any : Calls Tryd.prog 18 #[.slice A0 n c, .slice K nk ck] W (TwoV (verP code cols).most (verP code cols).err W) := by
  have T := Lib.hid (vof_any A0 n c code K nk ck cols W hC hK hs hO hT)
  have VB := Lib.hid (ver_bad (code := code) (cols := cols))
  clear hC hK hs hO hT
  generalize verP code cols = v at T VB
  go_enter Tryd.func18, Tryd.ntmps18
  go_wp2_with fail
  refine (T.out).mono ?_
  rintro e w1 ⟨hr, hb⟩
  have HB := Lib.hid hb
  clear hb
  by_cases hv : v.err = 0
  · rw [if_neg (by simpa using hv)] at hr
    obtain ⟨p, q, st, rfl, hck, hend⟩ := hr
    obtain ⟨-, -, -, k3⟩ := box4 hck.box
    have E2 := Lib.hid hv
    clear hv hck hend
    go_wp2_with fail
    go_ret2
    exact ⟨by rw [E2.out]; rfl, HB.out⟩
  · rw [if_pos hv] at hr
    subst hr
    have E1 := Lib.hid (VB.out hv).2
    have E2 := Lib.hid hv
    rw [errV_ne hv]
    clear hv
    go_wp2_with fail
    go_ret2
    exact ⟨by rw [E1.out, errV_ne E2.out]; rfl, HB.out⟩
end
end Go.Proofs.YtjnlonemnjljiaaDoor
