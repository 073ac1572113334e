/- eval.Do, walked: an operation of any values. -/
import Derived.Test.YthmbafkedgahaaaGreatDoorApply
namespace Go.Proofs.YthmbafkedgahaaaGreatDoor
open Go.ChangeShapes Go.WideShapes Go.ChangeAt Go.RowKit

/-- The first fault of values, from the left; 0: there is none. -/
def firstBad : List Val → Int
  | [] => 0
  | v :: l => if vcheck v = 0 then firstBad l else vcheck v
theorem firstBad_hit : ∀ {l : List Val} {k : Nat} {v : Val}, firstBad (l.take k) = 0 → l[k]? = some v → vcheck v ≠ 0 → firstBad l = vcheck v
  | x :: l, 0, v, _, hk, hv => by
    simp only [List.getElem?_cons_zero, Option.some.injEq] at hk
    subst hk
    unfold firstBad; rw [if_neg hv]
  | x :: l, k + 1, v, h, hk, hv => by
    rw [List.take_succ_cons] at h
    unfold firstBad at h ⊢
    by_cases hx : vcheck x = 0
    · rw [if_pos hx] at h ⊢
      exact firstBad_hit h (by simpa using hk) hv
    · rw [if_neg hx] at h; exact absurd h hx
  | [], k, v, _, hk, _ => by simp at hk
theorem firstBad_next : ∀ {l : List Val} {k : Nat} {v : Val}, firstBad (l.take k) = 0 → l[k]? = some v → vcheck v = 0 → firstBad (l.take (k + 1)) = 0
  | x :: l, 0, v, _, hk, hv => by
    simp only [List.getElem?_cons_zero, Option.some.injEq] at hk
    subst hk
    simp [firstBad, hv]
  | x :: l, k + 1, v, h, hk, hv => by
    rw [List.take_succ_cons] at h ⊢
    unfold firstBad at h ⊢
    by_cases hx : vcheck x = 0
    · rw [if_pos hx] at h ⊢
      exact firstBad_next h (by simpa using hk) hv
    · rw [if_neg hx] at h; exact absurd h hx
  | [], k, v, _, hk, _ => by simp at hk
theorem firstBad_all : ∀ {l : List Val}, firstBad l = 0 → ∀ v ∈ l, vcheck v = 0
  | [], _, v, hv => by cases hv
  | x :: l, h, v, hv => by
    unfold firstBad at h
    by_cases hx : vcheck x = 0
    · rw [if_pos hx] at h
      rcases List.mem_cons.1 hv with rfl | hv
      · exact hx
      · exact firstBad_all h v hv
    · rw [if_neg hx] at h; exact absurd h hx
def doErr (s : ByteArray) (l : List Val) : Int := if firstBad l ≠ 0 then firstBad l else if ruleErr s (typesOf l) ≠ 0 then ruleErr s (typesOf l) else applyErr s l
def doVal (s : ByteArray) (l : List Val) : Val := if firstBad l ≠ 0 then noVal else if ruleErr s (typesOf l) ≠ 0 then noVal else applyVal s l
theorem ruleErr_ok {s : ByteArray} {ts : List Int} (h : ruleErr s ts = 0) : isOpB s = true ∧ (ts.length : Int) = arityOf s ∧ fitsGrp (grp s) ts = true := by
  unfold ruleErr at h
  split at h
  · omega
  · rename_i h1
    split at h
    · omega
    · rename_i h2
      split at h
      · rename_i h3
        refine ⟨?_, by simpa using h2, h3⟩
        cases hb : isOpB s with
        | true => rfl
        | false => exact absurd (Or.inl hb) h1
      · omega
theorem types_snoc {l : List Val} {k : Nat} {v : Val} (h : l[k]? = some v) : intCells (typesOf (l.take (k + 1))) = intCells (typesOf (l.take k)) ++ [.int .i64 v.type] := by
  rw [List.take_add_one, h]; simp [typesOf, intCells]

set_option maxHeartbeats 4000000 in
set_option maxRecDepth 100000 in
theorem do_any (s : ByteArray) (l : List Val) (A : Option Addr) (n c : Nat) (w : World) (hO : OpsT w) (hT : LevelsT w) (hl : SeesVals w A n c l) (hw : ∀ v ∈ l, v.wf) (hr : (n + 1) * 8 ≤ 140737488355328) :
    Calls Tryz.prog 17 #[.string s, .slice A n c] w (ApplySays (doVal s l) (doErr s l) w) := by
  have hb0 : Below w.heap.size w (w.alloc (.cells #[.int .i64 0, .int .i64 0, .string ⟨#[]⟩] 30)) := (Below.refl _ _).alloc (Nat.le_refl _) _
  have ho : Own3 (w.alloc (.cells #[.int .i64 0, .int .i64 0, .string ⟨#[]⟩] 30)) w.heap.size noVal := own3_new w noVal
  have HL := Lib.hid (hl.keep hb0)
  have HO := Lib.hid (hO.keep hb0)
  have HT := Lib.hid (hT.keep hb0)
  have HW := Lib.hid hw
  have HV := Lib.hid ho
  have HB := Lib.hid hb0
  have hcap := hl.2.2.1
  have hmax := hl.2.2.2.1
  have hlen := Lib.hid hl.1
  unfold maxLen at hmax
  clear hO hT hl hw ho hb0
  go_enter Tryz.func17, Tryz.ntmps17
  go_wp2_with fail
  generalize w.alloc (.cells #[.int .i64 0, .int .i64 0, .string ⟨#[]⟩] 30) = w0 at HL HO HT HV HB ⊢
  go_loopw [6, 14] (fun ts i wr => ∃ k : Nat, k ≤ n ∧ i = .int .i64 k ∧ wr.ownsRow w0.heap.size 3 1 ts k (intCells (typesOf (l.take k))) ∧ Below w0.heap.size w0 wr ∧ firstBad (l.take k) = 0) (fun _ i _ => n - (intOf i).toNat)
  case atStart => exact ⟨0, by omega, rfl, World.ownsRow_nil _ _ _ _, Below.refl _ _, rfl⟩
  case round =>
    obtain ⟨k, hk, rfl, hown, hb, hno⟩ := hrel
    have HN := Lib.hid hno
    have HBR := Lib.hid hb
    have hsz := hb.size
    clear hno
    by_cases hlk : k < n
    · obtain ⟨g, o, x, rfl, hg, hx, c0, c1, c2⟩ := (HL.out.keep hb).at_ hlk
      have HX := Lib.hid hx
      have HOW := Lib.hid hown
      clear hb hx hown
      by_cases hv : vcheck x = 0
      · have HVK := Lib.hid hv
        clear hv
        go_wp2_with fail
        refine (vcheck_any x _).mono ?_
        rintro e w1 ⟨rfl, hb1⟩
        rw [HVK.out, errV_zero]
        have cx := (hb1.cell (p := ⟨wr.heap.size, 0, none⟩) (by simp)).trans (show _ = some (.int .i64 x.type) by simp)
        have hbx := below_step ((Below.refl wr.heap.size wr).alloc (Nat.le_refl _) (.cells #[.int .i64 x.type, .int .i64 x.n, .string x.s] 30)) hb1
        have hown1 := own_keep HOW.out hbx
        have hb2 := (HBR.out).trans (hbx.mono hsz)
        clear hb1 hbx
        go_wp2_with (first
          | (at_builtin; refine wpList_append_one intSlice rfl _ _ rfl rfl rfl hown1 hb2 (Nat.le_refl _) rfl (by intro u hu; simp at hu; subst hu; rfl) (by omega) ?_; intro v1 w2 hown2 hb3 _))
        go_roundw
        case rel => exact ⟨k + 1, by omega, by go_num, by rw [types_snoc HX.out]; exact hown2, hb3, firstBad_next HN.out HX.out HVK.out⟩
        case measure => simp [intOf]; omega
      · have E := Lib.hid (show firstBad l = vcheck x from firstBad_hit HN.out HX.out hv)
        have E2 := Lib.hid (errV_ne hv)
        have HNE := Lib.hid hv
        clear hv
        go_wp2_with fail
        refine (vcheck_any x _).mono ?_
        rintro e w1 ⟨rfl, hb1⟩
        rw [E2.out]
        have hbx := below_step ((Below.refl wr.heap.size wr).alloc (Nat.le_refl _) (.cells #[.int .i64 x.type, .int .i64 x.n, .string x.s] 30)) hb1
        have HB1 := Lib.hid ((HBR.out).trans (hbx.mono hsz))
        have HV1 := Lib.hid (HV.out.keep HB1.out)
        obtain ⟨o0, o1, o2, z0, z1, z2, hlt⟩ := HV1.out.cells
        clear hb1 hbx
        go_wp2_with fail
        have HO4 := own3_set HV1.out 0 0 ⟨#[]⟩
        have HB4 := Lib.hid (below_set3 (below_step HB.out HB1.out) (Nat.le_refl _) 0 0 ⟨#[]⟩)
        generalize ((w1.setCell ⟨w.heap.size, 0, none⟩ (.int .i64 0)).setCell ⟨w.heap.size, 1, none⟩ (.int .i64 0)).setCell ⟨w.heap.size, 2, none⟩ (.string ⟨#[]⟩) = w4 at HO4 HB4 ⊢
        clear o0 o1 o2 z0 z1 z2 hlt
        obtain ⟨o0, o1, o2, z0, z1, z2, hlt⟩ := HO4.cells
        refine bodyPost_ret (v := .tuple #[valV noVal, .iface 59 (.int .i64 (vcheck x))]) (by simp [results, Tryz.results17, go_sem, o0, o1, o2, valV, noVal]) rfl ⟨?_, HB4.out⟩
        rw [show doVal s l = noVal by unfold doVal; rw [E.out, if_pos HNE.out], show doErr s l = vcheck x by unfold doErr; rw [E.out, if_pos HNE.out], E2.out]
    · obtain rfl : n = k := by omega
      have htk : l.take n = l := List.take_of_length_le (by rw [hlen.out]; exact Nat.le_refl _)
      rw [htk] at hown
      have HF := Lib.hid (show firstBad l = 0 by have := HN.out; rwa [htk] at this)
      obtain ⟨A2, c2, rfl, hs2⟩ := Sees.of_own hown
      have HS := Lib.hid hs2
      clear hb hown htk hs2
      go_wp2_with fail
      refine (rule_any s (typesOf l) _ _ _ _ (HO.out.keep HBR.out) (HT.out.keep HBR.out) HS.out).mono ?_
      rintro e w1 ⟨rfl, hb1⟩
      have HB1 := Lib.hid ((HBR.out).trans (hb1.mono hsz))
      have HV1 := Lib.hid (HV.out.keep HB1.out)
      have HL1 := Lib.hid (HL.out.keep HB1.out)
      clear hb1
      by_cases hr0 : ruleErr s (typesOf l) = 0
      · have HR := Lib.hid hr0
        rw [hr0, errV_zero]
        clear hr0
        go_wp2_with fail
        refine (apply_any s l _ _ _ _ HL1.out (ruleErr_ok HR.out).1 (by have := (ruleErr_ok HR.out).2.1; simpa [typesOf] using this) HW.out (firstBad_all HF.out) (ruleErr_ok HR.out).2.2).mono ?_
        rintro e w3 ⟨rfl, hb3⟩
        have HV3 := Lib.hid (HV1.out.keep hb3)
        have HB3 := Lib.hid (below_step HB1.out hb3)
        have E1 := Lib.hid (show doVal s l = applyVal s l by unfold doVal; rw [if_neg (by rw [HF.out]; decide), if_neg (by rw [HR.out]; decide)])
        have E2 := Lib.hid (show doErr s l = applyErr s l by unfold doErr; rw [if_neg (by rw [HF.out]; decide), if_neg (by rw [HR.out]; decide)])
        clear hb3
        obtain ⟨o0, o1, o2, z0, z1, z2, hlt⟩ := HV3.out.cells
        unfold valV
        generalize applyVal s l = v at E1 ⊢
        generalize applyErr s l = ke at E2 ⊢
        go_wp2_with fail
        have HO4 := own3_set HV3.out v.type v.n v.s
        have HB4 := Lib.hid (below_set3 (below_step HB.out HB3.out) (Nat.le_refl _) v.type v.n v.s)
        generalize ((w3.setCell ⟨w.heap.size, 0, none⟩ (.int .i64 v.type)).setCell ⟨w.heap.size, 1, none⟩ (.int .i64 v.n)).setCell ⟨w.heap.size, 2, none⟩ (.string v.s) = w4 at HO4 HB4 ⊢
        clear o0 o1 o2 z0 z1 z2 hlt
        obtain ⟨o0, o1, o2, z0, z1, z2, hlt⟩ := HO4.cells
        refine bodyPost_ret (v := .tuple #[valV v, errV ke]) (by simp [results, Tryz.results17, go_sem, o0, o1, o2, valV]) rfl ⟨?_, HB4.out⟩
        rw [E1.out, E2.out]
      · have E2 := Lib.hid (errV_ne hr0)
        have HNE := Lib.hid hr0
        generalize hk9 : ruleErr s (typesOf l) = kr at E2 HNE ⊢
        have HK9 := Lib.hid hk9
        rw [E2.out]
        clear hr0 hk9
        obtain ⟨o0, o1, o2, z0, z1, z2, hlt⟩ := HV1.out.cells
        go_wp2_with fail
        have HO4 := own3_set HV1.out 0 0 ⟨#[]⟩
        have HB4 := Lib.hid (below_set3 (below_step HB.out HB1.out) (Nat.le_refl _) 0 0 ⟨#[]⟩)
        generalize ((w1.setCell ⟨w.heap.size, 0, none⟩ (.int .i64 0)).setCell ⟨w.heap.size, 1, none⟩ (.int .i64 0)).setCell ⟨w.heap.size, 2, none⟩ (.string ⟨#[]⟩) = w4 at HO4 HB4 ⊢
        clear o0 o1 o2 z0 z1 z2 hlt
        obtain ⟨o0, o1, o2, z0, z1, z2, hlt⟩ := HO4.cells
        refine bodyPost_ret (v := .tuple #[valV noVal, .iface 59 (.int .i64 kr)]) (by simp [results, Tryz.results17, go_sem, o0, o1, o2, valV, noVal]) rfl ⟨?_, HB4.out⟩
        rw [show doVal s l = noVal by unfold doVal; rw [if_neg (by rw [HF.out]; decide), HK9.out, if_pos HNE.out], show doErr s l = kr by unfold doErr; rw [if_neg (by rw [HF.out]; decide), HK9.out, if_pos HNE.out], E2.out]
end Go.Proofs.YthmbafkedgahaaaGreatDoor
