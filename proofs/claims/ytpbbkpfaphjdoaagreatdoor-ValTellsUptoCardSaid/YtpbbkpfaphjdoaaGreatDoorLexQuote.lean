/- val.Parse at a text that begins with a quote, walked. -/
import Derived.Test.YtpbbkpfaphjdoaaGreatDoorLexNum
import Derived.Test.YtpbbkpfaphjdoaaGreatDoorOwn3
import Derived.Shelf.Strings.SplitShaped
namespace Go.Proofs.YtpbbkpfaphjdoaaGreatDoor
open Go.ChangeShapes Go.WideShapes Go.ChangeAt Go.RowKit

def ParseSays (v : Val) (k : Int) (w : World) (e : Ending) (w' : World) : Prop := e = .returned (.tuple #[valV v, errV k]) ∧ Below w.heap.size w w'
theorem idxB_mem (c : UInt8) : ∀ l : List UInt8, decide (0 ≤ Lib.indexByte l c) = decide (c ∈ l)
  | [] => by simp [Lib.indexByte]
  | b :: l => by
    have ih := idxB_mem c l
    have hge := Lib.indexByte_ge l c
    rw [Lib.indexByte]
    by_cases hb : b = c
    · subst hb; simp
    · have hbc : (b == c) = false := by simpa using hb
      have hcb : ¬ c = b := fun e => hb e.symm
      rw [hbc]
      simp only [Bool.false_eq_true, if_false, List.mem_cons, hcb, false_or]
      rw [← ih]
      by_cases hm : Lib.indexByte l c = -1
      · rw [hm]; rfl
      · rw [if_neg (by simpa using hm)]
        congr 1
        apply propext
        omega
theorem textOk_list (m : List UInt8) : textOk ⟨m.toArray⟩ = m.all plainB := rfl
theorem suffix_quote (r : List UInt8) : (∃ m, r = m ++ [39]) ∨ Lib.hasSuffix r [39] = false := by
  by_cases h : Lib.hasSuffix r [39] = true
  · unfold Lib.hasSuffix at h
    obtain ⟨m, hm⟩ := List.isSuffixOf_iff_suffix.1 h
    exact Or.inl ⟨m, hm.symm⟩
  · exact Or.inr (by simpa using h)
set_option maxHeartbeats 8000000 in
set_option maxRecDepth 100000 in
theorem parseQ_any (s : ByteArray) (r : List UInt8) (hl : s.data.toList = 39 :: r) (hs : s.size ≤ 2000000) (w : World) (hT : TextT w) :
    Calls Tryz.prog 36 #[.string s] w (ParseSays (readQ r).1 (readQ r).2 w) := by
  have hsz := size_eq s
  have hrl : r.length ≤ 1999999 := by rw [hl] at hsz; simp at hsz; omega
  obtain ⟨w0, hw0⟩ : ∃ w0, w.alloc (.cells #[.int .i64 0, .int .i64 0, .string ⟨#[]⟩] 23) = w0 := ⟨_, rfl⟩
  have HB := Lib.hid (show Below w.heap.size w w0 by rw [← hw0]; exact belowNew' _ _)
  have HV := Lib.hid (show Own3 w0 w.heap.size noVal by rw [← hw0]; exact own3_new w noVal)
  have HW := Lib.hid hw0
  have HT := Lib.hid (hT.keep HB.out)
  have e1 : (s.toList == [116, 114, 117, 101]) = false := by rw [Lib.toList_data, hl]; rfl
  have e2 : (s.toList == [102, 97, 108, 115, 101]) = false := by rw [Lib.toList_data, hl]; rfl
  have hp : Lib.hasPrefix s.data.toList [39] = true := by rw [hl]; simp [Lib.hasPrefix]
  have TCP := Lib.hid (Tryz.strings_CutPrefix s ⟨#[39]⟩ w0)
  rw [show Lib.trimPrefix s.data.toList (⟨#[39]⟩ : ByteArray).data.toList = r by unfold Lib.trimPrefix; rw [show Lib.hasPrefix s.data.toList (⟨#[39]⟩ : ByteArray).data.toList = true from hp, if_pos rfl, hl]; rfl, show Lib.hasPrefix s.data.toList (⟨#[39]⟩ : ByteArray).data.toList = true from hp] at TCP
  have TCS := Lib.hid (Tryz.strings_CutSuffix ⟨r.toArray⟩ ⟨#[39]⟩ w0 (by show r.length ≤ _; omega))
  rw [show (⟨r.toArray⟩ : ByteArray).data.toList = r from rfl, show (⟨#[39]⟩ : ByteArray).data.toList = [39] from rfl] at TCS
  clear hw0 hp hT hl hsz
  rcases suffix_quote r with ⟨m, rfl⟩ | hno
  · rw [show Lib.hasSuffix (m ++ [39]) [39] = true by unfold Lib.hasSuffix; exact List.isSuffixOf_iff_suffix.2 ⟨m, rfl⟩, show Lib.trimSuffix (m ++ [39]) [39] = m by unfold Lib.trimSuffix; rw [show Lib.hasSuffix (m ++ [39]) [39] = true by unfold Lib.hasSuffix; exact List.isSuffixOf_iff_suffix.2 ⟨m, rfl⟩, if_pos rfl]; simp] at TCS
    have hml : m.length ≤ 1999998 := by simp at hrl; omega
    have hms : (⟨m.toArray⟩ : ByteArray).size = m.length := rfl
    have TP := Lib.hid (vplain_any ⟨m.toArray⟩ w0 (by unfold maxLen; omega))
    rw [textOk_list] at TP
    have HR0 := Lib.hid (show readQ (m ++ [39]) = match undbl m with | none => (noVal, 2) | some t => if t.all plainB = true then (if 40 < t.length then (noVal, 4) else (⟨3, 0, ⟨t.toArray⟩⟩, 0)) else (noVal, 2) by unfold readQ; rw [unq_app]; rfl)
    by_cases hpl : m.all plainB = true
    · rw [hpl] at TP
      obtain ⟨mx, hm1, hm2⟩ := HT.out.maxl
      have hcb := Lib.countB_le ⟨#[39, 39]⟩ (by decide) (⟨m.toArray⟩ : ByteArray).size ⟨m.toArray⟩ (Nat.le_refl _)
      have TR0 := Lib.hid (fun (w' : World) (hb : Below w0.heap.size w0 w') => Tryz.strings_ReplaceAll ⟨m.toArray⟩ ⟨#[39, 39]⟩ ⟨#[]⟩ mx w' (by omega) ((hb.cell (p := ⟨6, 0, none⟩) hm2).trans hm1) (by decide) (by show (⟨m.toArray⟩ : ByteArray).size + Lib.countB ⟨m.toArray⟩ ⟨#[39, 39]⟩ * 0 ≤ _; omega))
      have TR1 := Lib.hid (fun (w' : World) (hb : Below w0.heap.size w0 w') => Tryz.strings_ReplaceAll ⟨m.toArray⟩ ⟨#[39, 39]⟩ ⟨#[39]⟩ mx w' (by omega) ((hb.cell (p := ⟨6, 0, none⟩) hm2).trans hm1) (by decide) (by show (⟨m.toArray⟩ : ByteArray).size + Lib.countB ⟨m.toArray⟩ ⟨#[39, 39]⟩ * 1 ≤ _; omega))
      rw [show (⟨m.toArray⟩ : ByteArray).data.toList = m from rfl, show (⟨#[39, 39]⟩ : ByteArray).data.toList = [39, 39] from rfl, show (⟨#[]⟩ : ByteArray).data.toList = [] from rfl] at TR0
      rw [show (⟨m.toArray⟩ : ByteArray).data.toList = m from rfl, show (⟨#[39, 39]⟩ : ByteArray).data.toList = [39, 39] from rfl, show (⟨#[39]⟩ : ByteArray).data.toList = [39] from rfl] at TR1
      have hrn := rep_none m
      have TC := Lib.hid (fun w' => Tryz.strings_Contains_one ⟨(Lib.replaceAll m [39, 39] []).toArray⟩ 39 w')
      rw [show (⟨(Lib.replaceAll m [39, 39] []).toArray⟩ : ByteArray).data.toList = Lib.replaceAll m [39, 39] [] from rfl, idxB_mem] at TC
      cases hu : undbl m with
      | none =>
        rw [show decide (39 ∈ Lib.replaceAll m [39, 39] []) = true from decide_eq_true (hrn.2 hu)] at TC
        rw [hu] at HR0
        have HR := Lib.hid (show readQ (m ++ [39]) = (noVal, 2) from HR0.out)
        generalize Lib.replaceAll m [39, 39] [] = R0 at TR0 TC
        clear hu hrn hm1 hm2 hcb HR0 TR1 hpl
        go_enter Tryz.func36, Tryz.ntmps36
        go_wp2_with (first | rw [HW.out])
        refine (TCP.out).mono ?_
        rintro e w1 ⟨rfl, rfl⟩
        go_wp2_with fail
        refine (TCS.out).mono ?_
        rintro e w1 ⟨rfl, rfl⟩
        go_wp2_with fail
        refine (TP.out).mono ?_
        rintro e w2 ⟨rfl, hb2⟩
        have HB2 := Lib.hid hb2
        clear hb2
        go_wp2_with fail
        refine (TR0.out w2 HB2.out).mono ?_
        rintro e w3 ⟨rfl, hb3⟩
        have HB3 := Lib.hid (below_step HB2.out hb3)
        clear hb3
        go_wp2_with fail
        refine (TC.out _).mono ?_
        rintro e w5 ⟨rfl, rfl⟩
        have HV9 := (HV.out.keep HB3.out)
        obtain ⟨o0, o1, o2, z0, z1, z2, hlt⟩ := HV9.cells
        go_wp2_with fail
        have HO4 := own3_set HV9 0 0 ⟨#[]⟩
        have HB4 := Lib.hid (below_set3 (below_step HB.out HB3.out) (Nat.le_refl _) 0 0 ⟨#[]⟩)
        generalize ((w5.setCell ⟨w.heap.size, 0, none⟩ (.int .i64 0)).setCell ⟨w.heap.size, 1, none⟩ (.int .i64 0)).setCell ⟨w.heap.size, 2, none⟩ (.string ⟨#[]⟩) = w4 at HO4 HB4 ⊢
        clear o0 o1 o2 z0 z1 z2 hlt
        obtain ⟨o0, o1, o2, z0, z1, z2, hlt⟩ := HO4.cells
        refine bodyPost_ret (v := .tuple #[valV ⟨0, 0, ⟨#[]⟩⟩, .iface 32 (.int .i64 2)]) (by simp [results, Tryz.results36, go_sem, o0, o1, o2, valV]) rfl ⟨?_, HB4.out⟩
        rw [HR.out, errV_ne (by decide)]; rfl
      | some u =>
        rw [show decide (39 ∈ Lib.replaceAll m [39, 39] []) = false from decide_eq_false (fun h => by have := hrn.1 h; rw [hu] at this; cases this)] at TC
        rw [rep_some hu] at TR1
        rw [hu] at HR0
        have hul := undbl_len m hu
        rw [undbl_all plainB (by decide) m hu] at hpl
        have HR1 := Lib.hid (show readQ (m ++ [39]) = if 40 < u.length then (noVal, 4) else (⟨3, 0, ⟨u.toArray⟩⟩, 0) by rw [HR0.out]; simp only; rw [if_pos hpl])
        generalize Lib.replaceAll m [39, 39] [] = R0 at TR0 TC
        have hus : (⟨u.toArray⟩ : ByteArray).size = u.length := rfl
        clear hu hrn hm1 hm2 hcb HR0 hpl
        by_cases h40 : 40 < u.length
        · have d40 : decide ((40 : Int) < ((⟨u.toArray⟩ : ByteArray).size : Int)) = true := decide_eq_true (by omega)
          have HR := Lib.hid (show readQ (m ++ [39]) = (noVal, 4) by rw [HR1.out, if_pos h40])
          generalize (⟨u.toArray⟩ : ByteArray) = us at TR1 d40
          clear hus HR1 h40 hul
          go_enter Tryz.func36, Tryz.ntmps36
          go_wp2_with (first | rw [HW.out])
          refine (TCP.out).mono ?_
          rintro e w1 ⟨rfl, rfl⟩
          go_wp2_with fail
          refine (TCS.out).mono ?_
          rintro e w1 ⟨rfl, rfl⟩
          go_wp2_with fail
          refine (TP.out).mono ?_
          rintro e w2 ⟨rfl, hb2⟩
          have HB2 := Lib.hid hb2
          clear hb2
          go_wp2_with fail
          refine (TR0.out w2 HB2.out).mono ?_
          rintro e w3 ⟨rfl, hb3⟩
          have HB3 := Lib.hid (below_step HB2.out hb3)
          clear hb3
          go_wp2_with fail
          refine (TC.out _).mono ?_
          rintro e w5 ⟨rfl, rfl⟩
          go_wp2_with fail
          refine (TR1.out w5 HB3.out).mono ?_
          rintro e w6 ⟨rfl, hb6⟩
          have HB6 := Lib.hid (below_step HB3.out hb6)
          clear hb6
          have HV9 := (HV.out.keep HB6.out)
          obtain ⟨o0, o1, o2, z0, z1, z2, hlt⟩ := HV9.cells
          go_wp2_with fail
          have HO4 := own3_set HV9 0 0 ⟨#[]⟩
          have HB4 := Lib.hid (below_set3 (below_step HB.out HB6.out) (Nat.le_refl _) 0 0 ⟨#[]⟩)
          generalize ((w6.setCell ⟨w.heap.size, 0, none⟩ (.int .i64 0)).setCell ⟨w.heap.size, 1, none⟩ (.int .i64 0)).setCell ⟨w.heap.size, 2, none⟩ (.string ⟨#[]⟩) = w4 at HO4 HB4 ⊢
          clear o0 o1 o2 z0 z1 z2 hlt
          obtain ⟨o0, o1, o2, z0, z1, z2, hlt⟩ := HO4.cells
          refine bodyPost_ret (v := .tuple #[valV ⟨0, 0, ⟨#[]⟩⟩, .iface 32 (.int .i64 4)]) (by simp [results, Tryz.results36, go_sem, o0, o1, o2, valV]) rfl ⟨?_, HB4.out⟩
          rw [HR.out, errV_ne (by decide)]; rfl
        · have d40 : decide ((40 : Int) < ((⟨u.toArray⟩ : ByteArray).size : Int)) = false := decide_eq_false (by omega)
          have HR := Lib.hid (show readQ (m ++ [39]) = (⟨3, 0, ⟨u.toArray⟩⟩, 0) by rw [HR1.out, if_neg h40])
          generalize (⟨u.toArray⟩ : ByteArray) = us at TR1 d40 HR
          clear hus HR1 h40 hul
          go_enter Tryz.func36, Tryz.ntmps36
          go_wp2_with (first | rw [HW.out])
          refine (TCP.out).mono ?_
          rintro e w1 ⟨rfl, rfl⟩
          go_wp2_with fail
          refine (TCS.out).mono ?_
          rintro e w1 ⟨rfl, rfl⟩
          go_wp2_with fail
          refine (TP.out).mono ?_
          rintro e w2 ⟨rfl, hb2⟩
          have HB2 := Lib.hid hb2
          clear hb2
          go_wp2_with fail
          refine (TR0.out w2 HB2.out).mono ?_
          rintro e w3 ⟨rfl, hb3⟩
          have HB3 := Lib.hid (below_step HB2.out hb3)
          clear hb3
          go_wp2_with fail
          refine (TC.out _).mono ?_
          rintro e w5 ⟨rfl, rfl⟩
          go_wp2_with fail
          refine (TR1.out w5 HB3.out).mono ?_
          rintro e w6 ⟨rfl, hb6⟩
          have HB6 := Lib.hid (below_step HB3.out hb6)
          clear hb6
          have HV9 := (HV.out.keep HB6.out)
          obtain ⟨o0, o1, o2, z0, z1, z2, hlt⟩ := HV9.cells
          go_wp2_with fail
          have HO4 := own3_set HV9 3 0 us
          have HB4 := Lib.hid (below_set3 (below_step HB.out HB6.out) (Nat.le_refl _) 3 0 us)
          generalize ((w6.setCell ⟨w.heap.size, 0, none⟩ (.int .i64 3)).setCell ⟨w.heap.size, 1, none⟩ (.int .i64 0)).setCell ⟨w.heap.size, 2, none⟩ (.string us) = w4 at HO4 HB4 ⊢
          clear o0 o1 o2 z0 z1 z2 hlt
          obtain ⟨o0, o1, o2, z0, z1, z2, hlt⟩ := HO4.cells
          refine bodyPost_ret (v := .tuple #[valV ⟨3, 0, us⟩, .nilIface]) (by simp [results, Tryz.results36, go_sem, o0, o1, o2, valV]) rfl ⟨?_, HB4.out⟩
          rw [HR.out, errV_zero]
    · have hpf : m.all plainB = false := by simpa using hpl
      rw [hpf] at TP
      have HR := Lib.hid (show readQ (m ++ [39]) = (noVal, 2) by
        rw [HR0.out]
        cases hu : undbl m with
        | none => rfl
        | some u =>
          rw [undbl_all plainB (by decide) m hu] at hpl
          simp only
          rw [if_neg hpl])
      clear HR0 hpl hpf
      go_enter Tryz.func36, Tryz.ntmps36
      go_wp2_with (first | rw [HW.out])
      refine (TCP.out).mono ?_
      rintro e w1 ⟨rfl, rfl⟩
      go_wp2_with fail
      refine (TCS.out).mono ?_
      rintro e w1 ⟨rfl, rfl⟩
      go_wp2_with fail
      refine (TP.out).mono ?_
      rintro e w2 ⟨rfl, hb2⟩
      have HB2 := Lib.hid hb2
      clear hb2
      have HV9 := (HV.out.keep HB2.out)
      obtain ⟨o0, o1, o2, z0, z1, z2, hlt⟩ := HV9.cells
      go_wp2_with fail
      have HO4 := own3_set HV9 0 0 ⟨#[]⟩
      have HB4 := Lib.hid (below_set3 (below_step HB.out HB2.out) (Nat.le_refl _) 0 0 ⟨#[]⟩)
      generalize ((w2.setCell ⟨w.heap.size, 0, none⟩ (.int .i64 0)).setCell ⟨w.heap.size, 1, none⟩ (.int .i64 0)).setCell ⟨w.heap.size, 2, none⟩ (.string ⟨#[]⟩) = w4 at HO4 HB4 ⊢
      clear o0 o1 o2 z0 z1 z2 hlt
      obtain ⟨o0, o1, o2, z0, z1, z2, hlt⟩ := HO4.cells
      refine bodyPost_ret (v := .tuple #[valV ⟨0, 0, ⟨#[]⟩⟩, .iface 32 (.int .i64 2)]) (by simp [results, Tryz.results36, go_sem, o0, o1, o2, valV]) rfl ⟨?_, HB4.out⟩
      rw [HR.out, errV_ne (by decide)]; rfl
  · have HR := Lib.hid (show readQ r = (noVal, 2) by
      unfold readQ
      cases hu : unq r with
      | none => rfl
      | some t =>
        obtain ⟨m, rfl⟩ := unq_tail r hu
        have : Lib.hasSuffix (m ++ [39]) [39] = true := by unfold Lib.hasSuffix; exact List.isSuffixOf_iff_suffix.2 ⟨m, rfl⟩
        rw [this] at hno; cases hno)
    rw [show Lib.trimSuffix r [39] = r by unfold Lib.trimSuffix; rw [hno]; rfl, hno] at TCS
    clear hno
    go_enter Tryz.func36, Tryz.ntmps36
    go_wp2_with (first | rw [HW.out])
    refine (TCP.out).mono ?_
    rintro e w1 ⟨rfl, rfl⟩
    go_wp2_with fail
    refine (TCS.out).mono ?_
    rintro e w1 ⟨rfl, rfl⟩
    have HV9 := HV.out
    obtain ⟨o0, o1, o2, z0, z1, z2, hlt⟩ := HV9.cells
    go_wp2_with fail
    have HO4 := own3_set HV9 0 0 ⟨#[]⟩
    have HB4 := Lib.hid (below_set3 HB.out (Nat.le_refl _) 0 0 ⟨#[]⟩)
    generalize ((w1.setCell ⟨w.heap.size, 0, none⟩ (.int .i64 0)).setCell ⟨w.heap.size, 1, none⟩ (.int .i64 0)).setCell ⟨w.heap.size, 2, none⟩ (.string ⟨#[]⟩) = w4 at HO4 HB4 ⊢
    clear o0 o1 o2 z0 z1 z2 hlt
    obtain ⟨o0, o1, o2, z0, z1, z2, hlt⟩ := HO4.cells
    refine bodyPost_ret (v := .tuple #[valV ⟨0, 0, ⟨#[]⟩⟩, .iface 32 (.int .i64 2)]) (by simp [results, Tryz.results36, go_sem, o0, o1, o2, valV]) rfl ⟨?_, HB4.out⟩
    rw [HR.out, errV_ne (by decide)]; rfl
end Go.Proofs.YtpbbkpfaphjdoaaGreatDoor
