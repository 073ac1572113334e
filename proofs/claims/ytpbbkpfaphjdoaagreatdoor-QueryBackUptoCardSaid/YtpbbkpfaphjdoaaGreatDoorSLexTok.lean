/- A block of the call's own that holds a value: its cells, a store into it, a result in it. val.Parse at a text that begins with a quote, walked. Errors compared with errors, as a walk meets it. Package lex: a quote, and any word, at the beginning of a text, walked. -/
import Derived.Test.YtpbbkpfaphjdoaaGreatDoorSEx
import Derived.Test.YtpbbkpfaphjdoaaGreatDoorSLexNum
import Derived.Shelf.Strings.SplitShaped
import Derived.Test.YtpbbkpfaphjdoaaGreatDoorSErr
import Derived.LaidEql
import Derived.Lib.IfaceEq
import Derived.Test.YtpbbkpfaphjdoaaGreatDoorSLexFns
namespace Go.Proofs.YtpbbkpfaphjdoaaGreatDoor
open Go.ChangeShapes Go.WideShapes Go.ChangeAt Go.RowKit
def Own3 (w : World) (b : Nat) (v : Val) : Prop := w.heap[b]? = some (.cells #[.int .i64 v.type, .int .i64 v.n, .string v.s] 23 (0, 0))
theorem Own3.keep {w w' : World} {b : Nat} {v : Val} (h : Own3 w b v) (hb : Below w.heap.size w w') : Own3 w' b v :=
 (hb.block b (Array.getElem?_eq_some_iff.1 h).1).trans h
theorem Own3.drew {w : World} {b : Nat} {v : Val} (h : Own3 w b v) : Own3 w.drew b v := h
theorem Own3.cells {w : World} {b : Nat} {v : Val} (h : Own3 w b v) :
  w.cell? ⟨b, 0, none⟩ = some (.int .i64 v.type) ∧ w.cell? ⟨b, 1, none⟩ = some (.int .i64 v.n) ∧ w.cell? ⟨b, 2, none⟩ = some (.string v.s) ∧
  w.frozen? ⟨b, 0, none⟩ = false ∧ w.frozen? ⟨b, 1, none⟩ = false ∧ w.frozen? ⟨b, 2, none⟩ = false ∧ b < w.heap.size := by
 refine ⟨?_, ?_, ?_, ?_, ?_, ?_, (Array.getElem?_eq_some_iff.1 h).1⟩
 ·rw [cell_of_row _ _ _ _ _ _ h]; rfl
 ·rw [cell_of_row _ _ _ _ _ _ h]; rfl
 ·rw [cell_of_row _ _ _ _ _ _ h]; rfl
 all_goals (unfold World.frozen?; rw [show w.heap[b]? = _ from h]; simp)
theorem own3_new (w : World) (v : Val) : Own3 (w.alloc (.cells #[.int .i64 v.type, .int .i64 v.n, .string v.s] 23)) w.heap.size v := heap_alloc_new w _
theorem own3_set {w : World} {b : Nat} {v0 : Val} (h : Own3 w b v0) (t n : Int) (s : ByteArray) :
  Own3 (((w.setCell ⟨b, 0, none⟩ (.int .i64 t)).setCell ⟨b, 1, none⟩ (.int .i64 n)).setCell ⟨b, 2, none⟩ (.string s)) b ⟨t, n, s⟩ :=
 heap_setCell_same _ _ _ _ _ _ (heap_setCell_same _ _ _ _ _ _ (heap_setCell_same _ _ _ _ _ _ h))
theorem below_set3 {B : Nat} {w0 w : World} {b : Nat} (h : Below B w0 w) (hb : B ≤ b) (t n : Int) (s : ByteArray) :
  Below B w0 (((w.setCell ⟨b, 0, none⟩ (.int .i64 t)).setCell ⟨b, 1, none⟩ (.int .i64 n)).setCell ⟨b, 2, none⟩ (.string s)) :=
 ((h.setCell (p := ⟨b, 0, none⟩) hb _).setCell (p := ⟨b, 1, none⟩) hb _).setCell (p := ⟨b, 2, none⟩) hb _
end Go.Proofs.YtpbbkpfaphjdoaaGreatDoor
namespace Go.Proofs.YtpbbkpfaphjdoaaGreatDoor
open Go.ChangeShapes Go.WideShapes Go.ChangeAt Go.RowKit
def ParseSays (v : Val) (k : Int) (w : World) (e : Ending) (w' : World) : Prop := e = .returned (.tuple #[valV v, errV k]) ∧ Below w.heap.size w w'
theorem idxB_mem (c : UInt8) : ∀ l : List UInt8, decide (0 ≤ Lib.indexByte l c) = decide (c ∈ l)
 | [] => by simp [Lib.indexByte]
 | b :: l => by
  have ih := idxB_mem c l
  have hge := Lib.indexByte_ge l c
  rw [Lib.indexByte]
  by_cases hb : b = c
  ·subst hb; simp
  ·have hbc : (b == c) = false := by simpa using hb
   have hcb : ¬ c = b := fun e => hb e.symm
   rw [hbc]
   simp only [Bool.false_eq_true, if_false, List.mem_cons, hcb, false_or]
   rw [← ih]
   by_cases hm : Lib.indexByte l c = -1
   ·rw [hm]; rfl
   ·rw [if_neg (by simpa using hm)]
    congr 1
    apply propext
    omega
theorem textOk_list (m : List UInt8) : textOk ⟨m.toArray⟩ = m.all plainB := rfl
theorem suffix_quote (r : List UInt8) : (∃ m, r = m ++ [39]) ∨ Lib.hasSuffix r [39] = false := by
 by_cases h : Lib.hasSuffix r [39] = true
 ·unfold Lib.hasSuffix at h
  obtain ⟨m, hm⟩ := List.isSuffixOf_iff_suffix.1 h
  exact Or.inl ⟨m, hm.symm⟩
 ·exact Or.inr (by simpa using h)
set_option maxHeartbeats 8000000 in
set_option maxRecDepth 100000 in
theorem parseQ_any (s : ByteArray) (r : List UInt8) (hl : s.data.toList = 39 :: r) (hs : s.size ≤ 2000000) (w : World) (hT : TextT w) :
  Calls Tryz.prog 36 #[.string s] w (ParseSays (readQ r).1 (readQ r).2 w) := by
 have hsz := size_eq s
 have hrl : r.length ≤ 1999999 := by rw [hl] at hsz; simp at hsz; omega
 obtain ⟨w0, hw0⟩ : ∃ w0, w.alloc (.cells #[.int .i64 0, .int .i64 0, .string ⟨#[]⟩] 23) = w0 := ⟨_, rfl⟩
 have HB := Lib.hid (show Below w.heap.size w w0 by rw [← hw0]; exact belowNew' _ _)
 have HV := Lib.hid (show Own3 w0 w.heap.size noVal by rw [← hw0]; exact own3_new w noVal)
 have HW := Lib.hid hw0
 have HT := Lib.hid (hT.keep HB.out)
 have e1 : (s.toList == [116, 114, 117, 101]) = false := by rw [Lib.toList_data, hl]; rfl
 have e2 : (s.toList == [102, 97, 108, 115, 101]) = false := by rw [Lib.toList_data, hl]; rfl
 have hp : Lib.hasPrefix s.data.toList [39] = true := by rw [hl]; simp [Lib.hasPrefix]
 have TCP := Lib.hid (Tryz.strings_CutPrefix s ⟨#[39]⟩ w0)
 rw [show Lib.trimPrefix s.data.toList (⟨#[39]⟩ : ByteArray).data.toList = r by unfold Lib.trimPrefix; rw [show Lib.hasPrefix s.data.toList (⟨#[39]⟩ : ByteArray).data.toList = true from hp, if_pos rfl, hl]; rfl, show Lib.hasPrefix s.data.toList (⟨#[39]⟩ : ByteArray).data.toList = true from hp] at TCP
 have TCS := Lib.hid (Tryz.strings_CutSuffix ⟨r.toArray⟩ ⟨#[39]⟩ w0 (by show r.length ≤ _; omega))
 rw [show (⟨r.toArray⟩ : ByteArray).data.toList = r from rfl, show (⟨#[39]⟩ : ByteArray).data.toList = [39] from rfl] at TCS
 clear hw0 hp hT hl hsz
 rcases suffix_quote r with ⟨m, rfl⟩ | hno
 ·rw [show Lib.hasSuffix (m ++ [39]) [39] = true by unfold Lib.hasSuffix; exact List.isSuffixOf_iff_suffix.2 ⟨m, rfl⟩, show Lib.trimSuffix (m ++ [39]) [39] = m by unfold Lib.trimSuffix; rw [show Lib.hasSuffix (m ++ [39]) [39] = true by unfold Lib.hasSuffix; exact List.isSuffixOf_iff_suffix.2 ⟨m, rfl⟩, if_pos rfl]; simp] at TCS
  have hml : m.length ≤ 1999998 := by simp at hrl; omega
  have hms : (⟨m.toArray⟩ : ByteArray).size = m.length := rfl
  have TP := Lib.hid (vplain_any ⟨m.toArray⟩ w0 (by unfold maxLen; omega))
  rw [textOk_list] at TP
  have HR0 := Lib.hid (show readQ (m ++ [39]) = match undbl m with | none => (noVal, 2) | some t => if t.all plainB = true then (if 40 < t.length then (noVal, 4) else (⟨3, 0, ⟨t.toArray⟩⟩, 0)) else (noVal, 2) by unfold readQ; rw [unq_app]; rfl)
  by_cases hpl : m.all plainB = true
  ·rw [hpl] at TP
   obtain ⟨mx, hm1, hm2⟩ := HT.out.maxl
   have hcb := Lib.countB_le ⟨#[39, 39]⟩ (by decide) (⟨m.toArray⟩ : ByteArray).size ⟨m.toArray⟩ (Nat.le_refl _)
   have TR0 := Lib.hid (fun (w' : World) (hb : Below w0.heap.size w0 w') => Tryz.strings_ReplaceAll ⟨m.toArray⟩ ⟨#[39, 39]⟩ ⟨#[]⟩ mx w' (by omega) ((hb.cell (p := ⟨6, 0, none⟩) hm2).trans hm1) (by decide) (by show (⟨m.toArray⟩ : ByteArray).size + Lib.countB ⟨m.toArray⟩ ⟨#[39, 39]⟩ * 0 ≤ _; omega))
   have TR1 := Lib.hid (fun (w' : World) (hb : Below w0.heap.size w0 w') => Tryz.strings_ReplaceAll ⟨m.toArray⟩ ⟨#[39, 39]⟩ ⟨#[39]⟩ mx w' (by omega) ((hb.cell (p := ⟨6, 0, none⟩) hm2).trans hm1) (by decide) (by show (⟨m.toArray⟩ : ByteArray).size + Lib.countB ⟨m.toArray⟩ ⟨#[39, 39]⟩ * 1 ≤ _; omega))
   rw [show (⟨m.toArray⟩ : ByteArray).data.toList = m from rfl, show (⟨#[39, 39]⟩ : ByteArray).data.toList = [39, 39] from rfl, show (⟨#[]⟩ : ByteArray).data.toList = [] from rfl] at TR0
   rw [show (⟨m.toArray⟩ : ByteArray).data.toList = m from rfl, show (⟨#[39, 39]⟩ : ByteArray).data.toList = [39, 39] from rfl, show (⟨#[39]⟩ : ByteArray).data.toList = [39] from rfl] at TR1
   have hrn := rep_none m
   have TC := Lib.hid (fun w' => Tryz.strings_Contains_one ⟨(Lib.replaceAll m [39, 39] []).toArray⟩ 39 w')
   rw [show (⟨(Lib.replaceAll m [39, 39] []).toArray⟩ : ByteArray).data.toList = Lib.replaceAll m [39, 39] [] from rfl, idxB_mem] at TC
   cases hu : undbl m with
   | none =>
    rw [show decide (39 ∈ Lib.replaceAll m [39, 39] []) = true from decide_eq_true (hrn.2 hu)] at TC
    rw [hu] at HR0
    have HR := Lib.hid (show readQ (m ++ [39]) = (noVal, 2) from HR0.out)
    generalize Lib.replaceAll m [39, 39] [] = R0 at TR0 TC
    clear hu hrn hm1 hm2 hcb HR0 TR1 hpl
    go_enter Tryz.func36, Tryz.ntmps36
    go_wp2_with (first | rw [HW.out])
    refine (TCP.out).mono ?_
    rintro e w1 ⟨rfl, rfl⟩
    go_wp2_with fail
    refine (TCS.out).mono ?_
    rintro e w1 ⟨rfl, rfl⟩
    go_wp2_with fail
    refine (TP.out).mono ?_
    rintro e w2 ⟨rfl, hb2⟩
    have HB2 := Lib.hid hb2
    clear hb2
    go_wp2_with fail
    refine (TR0.out w2 HB2.out).mono ?_
    rintro e w3 ⟨rfl, hb3⟩
    have HB3 := Lib.hid (below_step HB2.out hb3)
    clear hb3
    go_wp2_with fail
    refine (TC.out _).mono ?_
    rintro e w5 ⟨rfl, rfl⟩
    have HV9 := (HV.out.keep HB3.out)
    obtain ⟨o0, o1, o2, z0, z1, z2, hlt⟩ := HV9.cells
    go_wp2_with fail
    have HO4 := own3_set HV9 0 0 ⟨#[]⟩
    have HB4 := Lib.hid (below_set3 (below_step HB.out HB3.out) (Nat.le_refl _) 0 0 ⟨#[]⟩)
    generalize ((w5.setCell ⟨w.heap.size, 0, none⟩ (.int .i64 0)).setCell ⟨w.heap.size, 1, none⟩ (.int .i64 0)).setCell ⟨w.heap.size, 2, none⟩ (.string ⟨#[]⟩) = w4 at HO4 HB4 ⊢
    clear o0 o1 o2 z0 z1 z2 hlt
    obtain ⟨o0, o1, o2, z0, z1, z2, hlt⟩ := HO4.cells
    refine bodyPost_ret (v := .tuple #[valV ⟨0, 0, ⟨#[]⟩⟩, .iface 32 (.int .i64 2)]) (by simp [results, Tryz.results36, go_sem, o0, o1, o2, valV]) rfl ⟨?_, HB4.out⟩
    rw [HR.out, errV_ne (by decide)]; rfl
   | some u =>
    rw [show decide (39 ∈ Lib.replaceAll m [39, 39] []) = false from decide_eq_false (fun h => by have := hrn.1 h; rw [hu] at this; cases this)] at TC
    rw [rep_some hu] at TR1
    rw [hu] at HR0
    have hul := undbl_len m hu
    rw [undbl_all plainB (by decide) m hu] at hpl
    have HR1 := Lib.hid (show readQ (m ++ [39]) = if 40 < u.length then (noVal, 4) else (⟨3, 0, ⟨u.toArray⟩⟩, 0) by rw [HR0.out]; simp only; rw [if_pos hpl])
    generalize Lib.replaceAll m [39, 39] [] = R0 at TR0 TC
    have hus : (⟨u.toArray⟩ : ByteArray).size = u.length := rfl
    clear hu hrn hm1 hm2 hcb HR0 hpl
    by_cases h40 : 40 < u.length
    ·have d40 : decide ((40 : Int) < ((⟨u.toArray⟩ : ByteArray).size : Int)) = true := decide_eq_true (by omega)
     have HR := Lib.hid (show readQ (m ++ [39]) = (noVal, 4) by rw [HR1.out, if_pos h40])
     generalize (⟨u.toArray⟩ : ByteArray) = us at TR1 d40
     clear hus HR1 h40 hul
     go_enter Tryz.func36, Tryz.ntmps36
     go_wp2_with (first | rw [HW.out])
     refine (TCP.out).mono ?_
     rintro e w1 ⟨rfl, rfl⟩
     go_wp2_with fail
     refine (TCS.out).mono ?_
     rintro e w1 ⟨rfl, rfl⟩
     go_wp2_with fail
     refine (TP.out).mono ?_
     rintro e w2 ⟨rfl, hb2⟩
     have HB2 := Lib.hid hb2
     clear hb2
     go_wp2_with fail
     refine (TR0.out w2 HB2.out).mono ?_
     rintro e w3 ⟨rfl, hb3⟩
     have HB3 := Lib.hid (below_step HB2.out hb3)
     clear hb3
     go_wp2_with fail
     refine (TC.out _).mono ?_
     rintro e w5 ⟨rfl, rfl⟩
     go_wp2_with fail
     refine (TR1.out w5 HB3.out).mono ?_
     rintro e w6 ⟨rfl, hb6⟩
     have HB6 := Lib.hid (below_step HB3.out hb6)
     clear hb6
     have HV9 := (HV.out.keep HB6.out)
     obtain ⟨o0, o1, o2, z0, z1, z2, hlt⟩ := HV9.cells
     go_wp2_with fail
     have HO4 := own3_set HV9 0 0 ⟨#[]⟩
     have HB4 := Lib.hid (below_set3 (below_step HB.out HB6.out) (Nat.le_refl _) 0 0 ⟨#[]⟩)
     generalize ((w6.setCell ⟨w.heap.size, 0, none⟩ (.int .i64 0)).setCell ⟨w.heap.size, 1, none⟩ (.int .i64 0)).setCell ⟨w.heap.size, 2, none⟩ (.string ⟨#[]⟩) = w4 at HO4 HB4 ⊢
     clear o0 o1 o2 z0 z1 z2 hlt
     obtain ⟨o0, o1, o2, z0, z1, z2, hlt⟩ := HO4.cells
     refine bodyPost_ret (v := .tuple #[valV ⟨0, 0, ⟨#[]⟩⟩, .iface 32 (.int .i64 4)]) (by simp [results, Tryz.results36, go_sem, o0, o1, o2, valV]) rfl ⟨?_, HB4.out⟩
     rw [HR.out, errV_ne (by decide)]; rfl
    ·have d40 : decide ((40 : Int) < ((⟨u.toArray⟩ : ByteArray).size : Int)) = false := decide_eq_false (by omega)
     have HR := Lib.hid (show readQ (m ++ [39]) = (⟨3, 0, ⟨u.toArray⟩⟩, 0) by rw [HR1.out, if_neg h40])
     generalize (⟨u.toArray⟩ : ByteArray) = us at TR1 d40 HR
     clear hus HR1 h40 hul
     go_enter Tryz.func36, Tryz.ntmps36
     go_wp2_with (first | rw [HW.out])
     refine (TCP.out).mono ?_
     rintro e w1 ⟨rfl, rfl⟩
     go_wp2_with fail
     refine (TCS.out).mono ?_
     rintro e w1 ⟨rfl, rfl⟩
     go_wp2_with fail
     refine (TP.out).mono ?_
     rintro e w2 ⟨rfl, hb2⟩
     have HB2 := Lib.hid hb2
     clear hb2
     go_wp2_with fail
     refine (TR0.out w2 HB2.out).mono ?_
     rintro e w3 ⟨rfl, hb3⟩
     have HB3 := Lib.hid (below_step HB2.out hb3)
     clear hb3
     go_wp2_with fail
     refine (TC.out _).mono ?_
     rintro e w5 ⟨rfl, rfl⟩
     go_wp2_with fail
     refine (TR1.out w5 HB3.out).mono ?_
     rintro e w6 ⟨rfl, hb6⟩
     have HB6 := Lib.hid (below_step HB3.out hb6)
     clear hb6
     have HV9 := (HV.out.keep HB6.out)
     obtain ⟨o0, o1, o2, z0, z1, z2, hlt⟩ := HV9.cells
     go_wp2_with fail
     have HO4 := own3_set HV9 3 0 us
     have HB4 := Lib.hid (below_set3 (below_step HB.out HB6.out) (Nat.le_refl _) 3 0 us)
     generalize ((w6.setCell ⟨w.heap.size, 0, none⟩ (.int .i64 3)).setCell ⟨w.heap.size, 1, none⟩ (.int .i64 0)).setCell ⟨w.heap.size, 2, none⟩ (.string us) = w4 at HO4 HB4 ⊢
     clear o0 o1 o2 z0 z1 z2 hlt
     obtain ⟨o0, o1, o2, z0, z1, z2, hlt⟩ := HO4.cells
     refine bodyPost_ret (v := .tuple #[valV ⟨3, 0, us⟩, .nilIface]) (by simp [results, Tryz.results36, go_sem, o0, o1, o2, valV]) rfl ⟨?_, HB4.out⟩
     rw [HR.out, errV_zero]
  ·have hpf : m.all plainB = false := by simpa using hpl
   rw [hpf] at TP
   have HR := Lib.hid (show readQ (m ++ [39]) = (noVal, 2) by
    rw [HR0.out]
    cases hu : undbl m with
    | none => rfl
    | some u =>
     rw [undbl_all plainB (by decide) m hu] at hpl
     simp only
     rw [if_neg hpl])
   clear HR0 hpl hpf
   go_enter Tryz.func36, Tryz.ntmps36
   go_wp2_with (first | rw [HW.out])
   refine (TCP.out).mono ?_
   rintro e w1 ⟨rfl, rfl⟩
   go_wp2_with fail
   refine (TCS.out).mono ?_
   rintro e w1 ⟨rfl, rfl⟩
   go_wp2_with fail
   refine (TP.out).mono ?_
   rintro e w2 ⟨rfl, hb2⟩
   have HB2 := Lib.hid hb2
   clear hb2
   have HV9 := (HV.out.keep HB2.out)
   obtain ⟨o0, o1, o2, z0, z1, z2, hlt⟩ := HV9.cells
   go_wp2_with fail
   have HO4 := own3_set HV9 0 0 ⟨#[]⟩
   have HB4 := Lib.hid (below_set3 (below_step HB.out HB2.out) (Nat.le_refl _) 0 0 ⟨#[]⟩)
   generalize ((w2.setCell ⟨w.heap.size, 0, none⟩ (.int .i64 0)).setCell ⟨w.heap.size, 1, none⟩ (.int .i64 0)).setCell ⟨w.heap.size, 2, none⟩ (.string ⟨#[]⟩) = w4 at HO4 HB4 ⊢
   clear o0 o1 o2 z0 z1 z2 hlt
   obtain ⟨o0, o1, o2, z0, z1, z2, hlt⟩ := HO4.cells
   refine bodyPost_ret (v := .tuple #[valV ⟨0, 0, ⟨#[]⟩⟩, .iface 32 (.int .i64 2)]) (by simp [results, Tryz.results36, go_sem, o0, o1, o2, valV]) rfl ⟨?_, HB4.out⟩
   rw [HR.out, errV_ne (by decide)]; rfl
 ·have HR := Lib.hid (show readQ r = (noVal, 2) by
   unfold readQ
   cases hu : unq r with
   | none => rfl
   | some t =>
    obtain ⟨m, rfl⟩ := unq_tail r hu
    have : Lib.hasSuffix (m ++ [39]) [39] = true := by unfold Lib.hasSuffix; exact List.isSuffixOf_iff_suffix.2 ⟨m, rfl⟩
    rw [this] at hno; cases hno)
  rw [show Lib.trimSuffix r [39] = r by unfold Lib.trimSuffix; rw [hno]; rfl, hno] at TCS
  clear hno
  go_enter Tryz.func36, Tryz.ntmps36
  go_wp2_with (first | rw [HW.out])
  refine (TCP.out).mono ?_
  rintro e w1 ⟨rfl, rfl⟩
  go_wp2_with fail
  refine (TCS.out).mono ?_
  rintro e w1 ⟨rfl, rfl⟩
  have HV9 := HV.out
  obtain ⟨o0, o1, o2, z0, z1, z2, hlt⟩ := HV9.cells
  go_wp2_with fail
  have HO4 := own3_set HV9 0 0 ⟨#[]⟩
  have HB4 := Lib.hid (below_set3 HB.out (Nat.le_refl _) 0 0 ⟨#[]⟩)
  generalize ((w1.setCell ⟨w.heap.size, 0, none⟩ (.int .i64 0)).setCell ⟨w.heap.size, 1, none⟩ (.int .i64 0)).setCell ⟨w.heap.size, 2, none⟩ (.string ⟨#[]⟩) = w4 at HO4 HB4 ⊢
  clear o0 o1 o2 z0 z1 z2 hlt
  obtain ⟨o0, o1, o2, z0, z1, z2, hlt⟩ := HO4.cells
  refine bodyPost_ret (v := .tuple #[valV ⟨0, 0, ⟨#[]⟩⟩, .iface 32 (.int .i64 2)]) (by simp [results, Tryz.results36, go_sem, o0, o1, o2, valV]) rfl ⟨?_, HB4.out⟩
  rw [HR.out, errV_ne (by decide)]; rfl
end Go.Proofs.YtpbbkpfaphjdoaaGreatDoor
namespace Go.Proofs.YtpbbkpfaphjdoaaGreatDoor
open Go.ChangeShapes Go.WideShapes Go.ChangeAt Go.RowKit
theorem errEq (a b : Int) (w : World) : (binOp .eql 38 (.iface 32 (.int .i64 a)) (.iface 32 (.int .i64 b))).run Tryz.prog w = .ok (.bool (a == b)) w :=
 Lib.run_eql_iface_int w a b Tryz.underlying38 (by kernel_rfl) Tryz.underlying32
theorem nilEq (b : Int) (w : World) : (binOp .eql 38 .nilIface (.iface 32 (.int .i64 b))).run Tryz.prog w = .ok (.bool false) w :=
 run_eql_iface_nil_left w _ _ Tryz.underlying38
theorem errVNil (k : Int) (w : World) : (binOp .eql 38 (errV k) .nilIface).run Tryz.prog w = .ok (.bool (k == 0)) w := by
 by_cases h : k = 0
 ·subst h; kernel_rfl
 ·rw [errV_ne h, run_eql_held_nil w _ _ _ (by kernel_rfl), show (k == 0) = false from beq_eq_false_iff_ne.2 h]
theorem errVEq (a b : Int) (hb : b ≠ 0) (w : World) : (binOp .eql 38 (errV a) (.iface 32 (.int .i64 b))).run Tryz.prog w = .ok (.bool (a == b)) w := by
 by_cases h : a = 0
 ·subst h
  rw [errV_zero, nilEq, show ((0 : Int) == b) = false from beq_eq_false_iff_ne.2 (fun e => hb e.symm)]
 ·rw [errV_ne h, errEq]
theorem errVGuard (n : Nat) (k : Int) (w : World) : (eqGuard .eql 38 (.tmp n) (.const .nilIface) (errV k) .nilIface).run Tryz.prog w = .ok () w := by
 by_cases h : k = 0
 ·subst h; kernel_rfl
 ·rw [errV_ne h]; kernel_rfl
end Go.Proofs.YtpbbkpfaphjdoaaGreatDoor
namespace Go.Proofs.YtpbbkpfaphjdoaaGreatDoor
open Go.ChangeShapes Go.WideShapes Go.ChangeAt Go.RowKit
theorem qlen_skip : ∀ (a t : List UInt8), (∀ b ∈ a, b ≠ 39) → qlen (a ++ t) = (qlen t).map (· + a.length)
 | [], t, _ => by cases h : qlen t <;> simp [h]
 | x :: a, t, h => by
  rw [List.cons_append, qlen_cons (h x (by simp)), qlen_skip a t (fun b hb => h b (List.mem_cons_of_mem _ hb)), Option.map_map]
  congr 1
theorem idxB_no : ∀ {a : List UInt8}, (∀ b ∈ a, b ≠ 39) → Lib.indexByte a 39 = -1
 | [], _ => rfl
 | x :: a, h => by
  rw [Lib.indexByte, idxB_no (a := a) (fun b hb => h b (List.mem_cons_of_mem _ hb)), show (x == 39) = false by simpa using h x (by simp)]
  rfl
theorem idxB_at : ∀ {a t : List UInt8}, (∀ b ∈ a, b ≠ 39) → Lib.indexByte (a ++ 39 :: t) 39 = a.length
 | [], t, _ => rfl
 | x :: a, t, h => by
  rw [List.cons_append, Lib.indexByte, idxB_at (a := a) (fun b hb => h b (List.mem_cons_of_mem _ hb)), show (x == 39) = false by simpa using h x (by simp)]
  simp only [Bool.false_eq_true, if_false, List.length_cons]
  rw [if_neg (fun e => by have := beq_iff_eq.1 e; omega)]
  omega
def quoN (r : List UInt8) : Nat := match qlen r with | none => 0 | some m => if (readQ (r.take m)).2 = 0 then m + 1 else 0
def quoE (r : List UInt8) : Int := match qlen r with | none => 2 | some m => (readQ (r.take m)).2
set_option maxHeartbeats 1000000 in
set_option maxRecDepth 100000 in
theorem quote_any (s : ByteArray) (r : List UInt8) (hl : s.data.toList = 39 :: r) (hs : s.size ≤ 400) (w : World) (hT : TextT w) :
  Calls Tryz.prog 209 #[.string s] w fun e w' => e = .returned (.tuple #[.int .i64 (quoN r), .int .i64 (quoE r)]) ∧ Below w.heap.size w w' := by
 have hsz := size_eq s
 have HSL := Lib.hid (show s.size = r.length + 1 by rw [← hsz, hl]; rfl)
 have HL := Lib.hid hl
 have TI := Lib.hid (fun n w' => Tryz.strings_IndexByte (s.extract n s.size) 39 w')
 have HEX := Lib.hid (fun n => show (s.extract n s.size).data.toList = s.data.toList.drop n by
  rw [ext_list, List.take_of_length_le (by rw [List.length_drop, hsz]; exact Nat.le_refl _)])
 have TP := Lib.hid (fun m (hm : qlen r = some m) => parseQ_any (s.extract 0 (m + 1)) (r.take m) (by rw [ext_list, hl]; rfl) (by rw [← size_eq, ext_list, List.drop_zero, List.length_take, hsz]; omega) w hT)
 clear hT
 go_enter Tryz.func209, Tryz.ntmps209
 go_wp2_with fail
 go_loop [4] (fun i => ∃ n : Nat, 1 ≤ n ∧ n ≤ s.size ∧ i = .int .i64 n ∧ qlen r = (qlen (s.data.toList.drop n)).map (· + (n - 1))) (fun i => s.size - (intOf i).toNat)
 case atStart => exact ⟨1, Nat.le_refl _, by have := HSL.out; omega, rfl, by rw [hl]; cases h : qlen r <;> simp [h]⟩
 case round =>
  obtain ⟨n, hn1, hn, rfl, hq⟩ := hrel
  have TI1 := Lib.hid (TI.out n w)
  rw [HEX.out] at TI1
  rw [show (39 : Int).toNat.toUInt8 = 39 from rfl] at TI1
  rcases split39 (s.data.toList.drop n) with hno | ⟨a, t, hd, hna⟩
  ·rw [idxB_no hno] at TI1
   have hqd : qlen (s.data.toList.drop n) = none := by
    have := qlen_skip (s.data.toList.drop n) [] hno
    rwa [List.append_nil] at this
   have HN := Lib.hid (show quoN r = 0 ∧ quoE r = 2 by unfold quoN quoE; rw [hq, hqd]; exact ⟨rfl, rfl⟩)
   clear hqd hno hq hl
   go_wp2_with fail
   refine (TI1.out).mono ?_
   rintro e w1 ⟨rfl, rfl⟩
   go_wp2_with fail
   go_ret2
   rw [HN.out.1, HN.out.2]
   exact ⟨rfl, Below.refl _ _⟩
  ·rw [hd, idxB_at hna] at TI1
   obtain ⟨la, hla⟩ : ∃ la, la = a.length := ⟨_, rfl⟩
   have hdl : n + (la + 1) + t.length = s.size := by
    have := congrArg List.length hd
    rw [List.length_drop, hsz] at this
    simp at this
    omega
   have hqd : qlen (s.data.toList.drop n) = (qlen (39 :: t)).map (· + la) := by rw [hd, qlen_skip a _ hna, hla]
   have hdr : s.data.toList.drop (n + (la + 1)) = t := by
    rw [← List.drop_drop, hd, ← List.drop_drop, hla, List.drop_left]; rfl
   rw [← hla] at TI1
   clear hla
   by_cases hh : t.head? = some 39
   ·obtain ⟨t', rfl⟩ : ∃ t', t = 39 :: t' := by
     cases t with
     | nil => cases hh
     | cons x t' => exact ⟨t', by rw [show x = 39 by simpa using hh]⟩
    have hlt : n + (la + 1) < s.size := by simp at hdl; omega
    have hb := byte_at hlt (b := 39) (by rw [← List.head?_drop, hdr]; rfl)
    have e1 : ((n : Int) + ((la : Int) + 1) == (s.size : Int)) = false := beq_eq_false_iff_ne.2 (by omega)
    have e2 : (((s[n + (la + 1)]'hlt).toNat : Int) != 39) = false := by rw [hb]; rfl
    have HNX := Lib.hid (show qlen r = (qlen (s.data.toList.drop (n + (la + 1) + 1))).map (· + (n + (la + 1) + 1 - 1)) by
     rw [hq, hqd, qlen_two, ← List.drop_drop, hdr]
     show _ = (qlen t').map _
     cases qlen t' with
     | none => rfl
     | some z => simp; omega)
    clear hq hqd hd hdr hna hh hb hl hdl
    go_wp2_with fail
    refine (TI1.out).mono ?_
    rintro e w1 ⟨rfl, rfl⟩
    go_wp2_with fail
    go_round
    case rel => exact ⟨n + (la + 1) + 1, by omega, by omega, by go_num, HNX.out⟩
    case measure => simp [intOf]; omega
   ·have hqr : qlen r = some (n + la) := by
     rw [hq, hqd, qlen_end hh]
     simp; omega
    have TP1 := Lib.hid (TP.out (n + la) hqr)
    have HN := Lib.hid (show quoN r = (if (readQ (r.take (n + la))).2 = 0 then n + (la + 1) else 0) ∧ quoE r = (readQ (r.take (n + la))).2 by unfold quoN quoE; rw [hqr]; exact ⟨rfl, rfl⟩)
    have he := readQ_err (r.take (n + la))
    generalize (readQ (r.take (n + la))).1 = v at TP1
    generalize (readQ (r.take (n + la))).2 = k at TP1 HN he
    have hbr : (n + (la + 1) = s.size) ∨ ∃ hlt : n + (la + 1) < s.size, (((s[n + (la + 1)]'hlt).toNat : Int) != 39) = true := by
     by_cases hlt : n + (la + 1) < s.size
     ·refine Or.inr ⟨hlt, ?_⟩
      have hb := byte_at hlt (List.getElem?_eq_getElem (by rw [hsz]; exact hlt))
      rw [hb]
      refine bne_iff_ne.2 (fun e => hh ?_)
      rw [← hdr, List.head?_drop, List.getElem?_eq_getElem (by rw [hsz]; exact hlt)]
      congr 1
      apply UInt8.toNat_inj.1
      show _ = 39
      omega
     ·exact Or.inl (by omega)
    clear hq hqd hd hdr hna hh hl hqr
    rcases hbr with hme | ⟨hlt, e2⟩
    ·have e1 : ((n : Int) + ((la : Int) + 1) == (s.size : Int)) = true := by rw [← hme]; exact beq_iff_eq.2 (by omega)
     clear hme
     go_wp2_with fail
     refine (TI1.out).mono ?_
     rintro e w1 ⟨rfl, rfl⟩
     go_wp2_with fail
     refine (TP1.out).mono ?_
     rintro e w2 ⟨rfl, hb2⟩
     have HB2 := Lib.hid hb2
     clear hb2
     rcases he with rfl | rfl | rfl
     ·unfold valV
      rw [errV_zero]
      have q4 := nilEq 4
      go_wp2_with fail
      go_ret2
      rw [HN.out.1, HN.out.2]
      exact ⟨rfl, HB2.out.trans ((belowNew' _ _).mono HB2.out.size)⟩
     ·unfold valV
      rw [errV_ne (by decide)]
      have q4 := errEq 2 4
      go_wp2_with fail
      go_ret2
      rw [HN.out.1, HN.out.2]
      exact ⟨rfl, HB2.out.trans ((belowNew' _ _).mono HB2.out.size)⟩
     ·unfold valV
      rw [errV_ne (by decide)]
      have q4 := errEq 4 4
      go_wp2_with fail
      go_ret2
      rw [HN.out.1, HN.out.2]
      exact ⟨rfl, HB2.out.trans ((belowNew' _ _).mono HB2.out.size)⟩
    ·have e1 : ((n : Int) + ((la : Int) + 1) == (s.size : Int)) = false := beq_eq_false_iff_ne.2 (by omega)
     go_wp2_with fail
     refine (TI1.out).mono ?_
     rintro e w1 ⟨rfl, rfl⟩
     go_wp2_with fail
     refine (TP1.out).mono ?_
     rintro e w2 ⟨rfl, hb2⟩
     have HB2 := Lib.hid hb2
     clear hb2
     rcases he with rfl | rfl | rfl
     ·unfold valV
      rw [errV_zero]
      have q4 := nilEq 4
      go_wp2_with fail
      go_ret2
      rw [HN.out.1, HN.out.2]
      exact ⟨rfl, HB2.out.trans ((belowNew' _ _).mono HB2.out.size)⟩
     ·unfold valV
      rw [errV_ne (by decide)]
      have q4 := errEq 2 4
      go_wp2_with fail
      go_ret2
      rw [HN.out.1, HN.out.2]
      exact ⟨rfl, HB2.out.trans ((belowNew' _ _).mono HB2.out.size)⟩
     ·unfold valV
      rw [errV_ne (by decide)]
      have q4 := errEq 4 4
      go_wp2_with fail
      go_ret2
      rw [HN.out.1, HN.out.2]
      exact ⟨rfl, HB2.out.trans ((belowNew' _ _).mono HB2.out.size)⟩
end Go.Proofs.YtpbbkpfaphjdoaaGreatDoor
