/- val.Parse at any text, val.Compare, walked. -/
import Derived.Test.YtpbbkpfaphjdoaaGreatDoorLexQuote
import Derived.Test.YtpbbkpfaphjdoaaGreatDoorOrdLaw
import Derived.Test.YtpbbkpfaphjdoaaGreatDoorArity
import Derived.Test.YtpbbkpfaphjdoaaGreatDoorNumLaw
namespace Go.Proofs.YtpbbkpfaphjdoaaGreatDoor
open Go.ChangeShapes Go.WideShapes Go.ChangeAt Go.RowKit

/-- Atoi of any text, with whatever error. -/
def atoiAny (l : List UInt8) (w : World) : Ending → World → Prop := fun e w' =>
  Below w.heap.size w w' ∧ match Lib.atoiAll l with
    | .ok n => e = .returned (.tuple #[.int .i64 n, .nilIface])
    | _ => ∃ k t p, e = .returned (.tuple #[.int .i64 k, .iface t p])
theorem atoi_all (s : ByteArray) (hs : s.size ≤ 281474976710656) (w : World) (hT : NumT w) : Calls Tryz.prog 96 #[.string s] w (atoiAny s.data.toList w) := by
  unfold atoiAny
  obtain ⟨⟨te, pe, h1, h2⟩, ⟨te2, pe2, h3, h4⟩⟩ := hT
  cases ha : Lib.atoiAll s.data.toList with
  | ok n =>
    refine (Tryz.strconv_Atoi_ok s (by omega) _ ha w).mono ?_
    rintro e w' ⟨rfl, h⟩
    refine ⟨?_, rfl⟩
    rcases h with rfl | ⟨t, rfl⟩
    · exact Below.refl _ _
    · exact Lib.bytesWorld_below _ _ _
  | range =>
    refine (Tryz.strconv_Atoi_range s hs ha _ w h1 (Or.inr ⟨te, pe, rfl⟩)).mono ?_
    rintro e w' ⟨N, rfl, _, _, hb⟩
    exact ⟨hb, _, _, _, rfl⟩
  | _ =>
    refine (Tryz.strconv_Atoi_syntax s hs ha _ w h3 (Or.inr ⟨te2, pe2, rfl⟩)).mono ?_
    rintro e w' ⟨N, rfl, _, _, hb⟩
    exact ⟨hb, _, _, _, rfl⟩
set_option maxHeartbeats 2000000 in
set_option maxRecDepth 100000 in
theorem parse_num (s : ByteArray) (h1 : s.data.toList ≠ tTrue) (h2 : s.data.toList ≠ tFalse) (h3 : s.data.toList.head? ≠ some 39) (hs : s.size ≤ 2000000) (w : World) (hT : TextT w) (hN : NumT w) :
    Calls Tryz.prog 36 #[.string s] w (ParseSays (readN s.data.toList).1 (readN s.data.toList).2 w) := by
  obtain ⟨w0, hw0⟩ : ∃ w0, w.alloc (.cells #[.int .i64 0, .int .i64 0, .string ⟨#[]⟩] 23) = w0 := ⟨_, rfl⟩
  have HB := Lib.hid (show Below w.heap.size w w0 by rw [← hw0]; exact belowNew' _ _)
  have HV := Lib.hid (show Own3 w0 w.heap.size noVal by rw [← hw0]; exact own3_new w noVal)
  have HW := Lib.hid hw0
  have HT := Lib.hid (hT.keep HB.out)
  have HN := Lib.hid (hN.keep HB.out)
  have e1 := str_ne h1
  have e2 := str_ne h2
  unfold tTrue at e1
  unfold tFalse at e2
  have hp : Lib.hasPrefix s.data.toList [39] = false := by
    unfold Lib.hasPrefix
    cases hl : s.data.toList with
    | nil => rfl
    | cons c r =>
      have : ((39 : UInt8) == c) = false := beq_eq_false_iff_ne.2 (fun e => h3 (by rw [hl, ← e]; rfl))
      simp [List.isPrefixOf, this]
  have TCP := Lib.hid (Tryz.strings_CutPrefix s ⟨#[39]⟩ w0)
  rw [show Lib.hasPrefix s.data.toList (⟨#[39]⟩ : ByteArray).data.toList = false from hp] at TCP
  have TA := Lib.hid (atoi_all s (by omega) w0 HN.out)
  unfold atoiAny at TA
  have HRN := Lib.hid (show readN s.data.toList = match Lib.atoiAll s.data.toList with | .ok n => if Lib.itoa n = s.data.toList then (ofV n, 0) else (noVal, 2) | _ => (noVal, 2) from rfl)
  have hbd := fun n (h : Lib.atoiAll s.data.toList = .ok n) => Lib.atoiAll_bounds h
  generalize (⟨(Lib.trimPrefix s.data.toList (⟨#[39]⟩ : ByteArray).data.toList).toArray⟩ : ByteArray) = tp at TCP
  clear h1 h2 h3 hp hw0 hT hN
  cases ha : Lib.atoiAll s.data.toList with
  | ok n =>
    obtain ⟨b1, b2⟩ := hbd n ha
    rw [ha] at TA HRN
    have TI := Lib.hid (fun (w' : World) (hb : Below w0.heap.size w0 w') => Tryz.strconv_Itoa n b1 b2 w' (HT.out.tab w' hb))
    have TO := Lib.hid (fun w' => of_any n w')
    have hcond : (Lib.itoa n = s.data.toList ∧ ((⟨(Lib.itoa n).toArray⟩ : ByteArray).toList == s.toList) = true) ∨ (Lib.itoa n ≠ s.data.toList ∧ ((⟨(Lib.itoa n).toArray⟩ : ByteArray).toList == s.toList) = false) := by
      rw [Lib.toList_data, Lib.toList_data]
      by_cases h : Lib.itoa n = s.data.toList
      · exact Or.inl ⟨h, beq_iff_eq.2 h⟩
      · exact Or.inr ⟨h, beq_eq_false_iff_ne.2 h⟩
    generalize (⟨(Lib.itoa n).toArray⟩ : ByteArray) = it at TI hcond
    clear ha hbd
    rcases hcond with ⟨h, ei⟩ | ⟨h, ei⟩
    · have HR := Lib.hid (show readN s.data.toList = (ofV n, 0) by rw [HRN.out]; exact if_pos h)
      clear h b1 b2 HRN
      go_enter Tryz.func36, Tryz.ntmps36
      go_wp2_with (first | rw [HW.out])
      refine (TCP.out).mono ?_
      rintro e w1 ⟨rfl, rfl⟩
      go_wp2_with fail
      refine (TA.out).mono ?_
      rintro e w1 ⟨hb1, rfl⟩
      have HB1 := Lib.hid hb1
      clear hb1
      go_wp2_with fail
      refine (TI.out w1 HB1.out).mono ?_
      rintro e w2 ⟨rfl, kq, os, rfl⟩
      have HB2 := Lib.hid (below_step HB1.out (Lib.below_grow w1.heap.size w1 (Nat.le_refl _) kq os))
      generalize Sort.grow (w1.drewN kq) os = wz at HB2 ⊢
      go_wp2_with fail
      refine (TO.out _).mono ?_
      rintro e w3 ⟨rfl, hb3⟩
      have HB3 := Lib.hid (below_step HB2.out hb3)
      clear hb3
      unfold valV ofV
      have HV9 := HV.out.keep HB3.out
      obtain ⟨o0, o1, o2, z0, z1, z2, hlt⟩ := HV9.cells
      go_wp2_with fail
      have HO4 := own3_set HV9 1 n ⟨#[]⟩
      have HB4 := Lib.hid (below_set3 (below_step HB.out HB3.out) (Nat.le_refl _) 1 n ⟨#[]⟩)
      generalize ((w3.setCell ⟨w.heap.size, 0, none⟩ (.int .i64 1)).setCell ⟨w.heap.size, 1, none⟩ (.int .i64 n)).setCell ⟨w.heap.size, 2, none⟩ (.string ⟨#[]⟩) = w4 at HO4 HB4 ⊢
      clear o0 o1 o2 z0 z1 z2 hlt
      obtain ⟨o0, o1, o2, z0, z1, z2, hlt⟩ := HO4.cells
      refine bodyPost_ret (v := .tuple #[valV ⟨1, n, ⟨#[]⟩⟩, .nilIface]) (by simp [results, Tryz.results36, go_sem, o0, o1, o2, valV]) rfl ⟨?_, HB4.out⟩
      rw [HR.out]; rfl
    · have HR := Lib.hid (show readN s.data.toList = (noVal, 2) by rw [HRN.out]; exact if_neg h)
      clear h b1 b2 HRN
      go_enter Tryz.func36, Tryz.ntmps36
      go_wp2_with (first | rw [HW.out])
      refine (TCP.out).mono ?_
      rintro e w1 ⟨rfl, rfl⟩
      go_wp2_with fail
      refine (TA.out).mono ?_
      rintro e w1 ⟨hb1, rfl⟩
      have HB1 := Lib.hid hb1
      clear hb1
      go_wp2_with fail
      refine (TI.out w1 HB1.out).mono ?_
      rintro e w2 ⟨rfl, kq, os, rfl⟩
      have HB2 := Lib.hid (below_step HB1.out (Lib.below_grow w1.heap.size w1 (Nat.le_refl _) kq os))
      generalize Sort.grow (w1.drewN kq) os = w3 at HB2 ⊢
      have HV9 := HV.out.keep HB2.out
      obtain ⟨o0, o1, o2, z0, z1, z2, hlt⟩ := HV9.cells
      go_wp2_with fail
      have HO4 := own3_set HV9 0 0 ⟨#[]⟩
      have HB4 := Lib.hid (below_set3 (below_step HB.out HB2.out) (Nat.le_refl _) 0 0 ⟨#[]⟩)
      generalize ((w3.setCell ⟨w.heap.size, 0, none⟩ (.int .i64 0)).setCell ⟨w.heap.size, 1, none⟩ (.int .i64 0)).setCell ⟨w.heap.size, 2, none⟩ (.string ⟨#[]⟩) = w4 at HO4 HB4 ⊢
      clear o0 o1 o2 z0 z1 z2 hlt
      obtain ⟨o0, o1, o2, z0, z1, z2, hlt⟩ := HO4.cells
      refine bodyPost_ret (v := .tuple #[valV ⟨0, 0, ⟨#[]⟩⟩, .iface 32 (.int .i64 2)]) (by simp [results, Tryz.results36, go_sem, o0, o1, o2, valV]) rfl ⟨?_, HB4.out⟩
      rw [HR.out, errV_ne (by decide)]; rfl
  | range =>
    rw [ha] at TA HRN
    have HR := Lib.hid (show readN s.data.toList = (noVal, 2) from HRN.out)
    clear ha hbd HRN
    go_enter Tryz.func36, Tryz.ntmps36
    go_wp2_with (first | rw [HW.out])
    refine (TCP.out).mono ?_
    rintro e w1 ⟨rfl, rfl⟩
    go_wp2_with fail
    refine (TA.out).mono ?_
    rintro e w3 ⟨hb1, k, t, p, rfl⟩
    have HB1 := Lib.hid hb1
    clear hb1
    have HV9 := HV.out.keep HB1.out
    obtain ⟨o0, o1, o2, z0, z1, z2, hlt⟩ := HV9.cells
    go_wp2_with fail
    have HO4 := own3_set HV9 0 0 ⟨#[]⟩
    have HB4 := Lib.hid (below_set3 (below_step HB.out HB1.out) (Nat.le_refl _) 0 0 ⟨#[]⟩)
    generalize ((w3.setCell ⟨w.heap.size, 0, none⟩ (.int .i64 0)).setCell ⟨w.heap.size, 1, none⟩ (.int .i64 0)).setCell ⟨w.heap.size, 2, none⟩ (.string ⟨#[]⟩) = w4 at HO4 HB4 ⊢
    clear o0 o1 o2 z0 z1 z2 hlt
    obtain ⟨o0, o1, o2, z0, z1, z2, hlt⟩ := HO4.cells
    refine bodyPost_ret (v := .tuple #[valV ⟨0, 0, ⟨#[]⟩⟩, .iface 32 (.int .i64 2)]) (by simp [results, Tryz.results36, go_sem, o0, o1, o2, valV]) rfl ⟨?_, HB4.out⟩
    rw [HR.out, errV_ne (by decide)]; rfl
  | _ =>
    rw [ha] at TA HRN
    have HR := Lib.hid (show readN s.data.toList = (noVal, 2) from HRN.out)
    clear ha hbd HRN
    go_enter Tryz.func36, Tryz.ntmps36
    go_wp2_with (first | rw [HW.out])
    refine (TCP.out).mono ?_
    rintro e w1 ⟨rfl, rfl⟩
    go_wp2_with fail
    refine (TA.out).mono ?_
    rintro e w3 ⟨hb1, k, t, p, rfl⟩
    have HB1 := Lib.hid hb1
    clear hb1
    have HV9 := HV.out.keep HB1.out
    obtain ⟨o0, o1, o2, z0, z1, z2, hlt⟩ := HV9.cells
    go_wp2_with fail
    have HO4 := own3_set HV9 0 0 ⟨#[]⟩
    have HB4 := Lib.hid (below_set3 (below_step HB.out HB1.out) (Nat.le_refl _) 0 0 ⟨#[]⟩)
    generalize ((w3.setCell ⟨w.heap.size, 0, none⟩ (.int .i64 0)).setCell ⟨w.heap.size, 1, none⟩ (.int .i64 0)).setCell ⟨w.heap.size, 2, none⟩ (.string ⟨#[]⟩) = w4 at HO4 HB4 ⊢
    clear o0 o1 o2 z0 z1 z2 hlt
    obtain ⟨o0, o1, o2, z0, z1, z2, hlt⟩ := HO4.cells
    refine bodyPost_ret (v := .tuple #[valV ⟨0, 0, ⟨#[]⟩⟩, .iface 32 (.int .i64 2)]) (by simp [results, Tryz.results36, go_sem, o0, o1, o2, valV]) rfl ⟨?_, HB4.out⟩
    rw [HR.out, errV_ne (by decide)]; rfl
set_option maxHeartbeats 2000000 in
set_option maxRecDepth 100000 in
theorem parse_word (s : ByteArray) (b : Bool) (h : s.data.toList = (if b = true then tTrue else tFalse)) (w : World) :
    Calls Tryz.prog 36 #[.string s] w (ParseSays (truthV b) 0 w) := by
  obtain ⟨w0, hw0⟩ : ∃ w0, w.alloc (.cells #[.int .i64 0, .int .i64 0, .string ⟨#[]⟩] 23) = w0 := ⟨_, rfl⟩
  have HB := Lib.hid (show Below w.heap.size w w0 by rw [← hw0]; exact belowNew' _ _)
  have HV := Lib.hid (show Own3 w0 w.heap.size noVal by rw [← hw0]; exact own3_new w noVal)
  have HW := Lib.hid hw0
  have e1 : (s.toList == [116, 114, 117, 101]) = b := by rw [Lib.toList_data, h]; cases b <;> rfl
  have e2 : (s.toList == [102, 97, 108, 115, 101]) = !b := by rw [Lib.toList_data, h]; cases b <;> rfl
  have TT := Lib.hid (fun w' => truth_any b w')
  clear h hw0
  cases b
  all_goals
    go_enter Tryz.func36, Tryz.ntmps36
    go_wp2_with (first | rw [HW.out])
    refine (TT.out _).mono ?_
    rintro e w3 ⟨rfl, hb3⟩
    have HB3 := Lib.hid hb3
    clear hb3
    unfold valV truthV
    have HV9 := HV.out.keep HB3.out
    obtain ⟨o0, o1, o2, z0, z1, z2, hlt⟩ := HV9.cells
    go_wp2_with fail
  · skip
    have HO4 := own3_set HV9 2 0 ⟨#[]⟩
    have HB4 := Lib.hid (below_set3 (below_step HB.out HB3.out) (Nat.le_refl _) 2 0 ⟨#[]⟩)
    generalize ((w3.setCell ⟨w.heap.size, 0, none⟩ (.int .i64 2)).setCell ⟨w.heap.size, 1, none⟩ (.int .i64 0)).setCell ⟨w.heap.size, 2, none⟩ (.string ⟨#[]⟩) = w4 at HO4 HB4 ⊢
    clear o0 o1 o2 z0 z1 z2 hlt
    obtain ⟨o0, o1, o2, z0, z1, z2, hlt⟩ := HO4.cells
    refine bodyPost_ret (v := .tuple #[valV ⟨2, 0, ⟨#[]⟩⟩, .nilIface]) (by simp [results, Tryz.results36, go_sem, o0, o1, o2, valV]) rfl ⟨?_, HB4.out⟩
    rfl
  · skip
    have HO4 := own3_set HV9 2 1 ⟨#[]⟩
    have HB4 := Lib.hid (below_set3 (below_step HB.out HB3.out) (Nat.le_refl _) 2 1 ⟨#[]⟩)
    generalize ((w3.setCell ⟨w.heap.size, 0, none⟩ (.int .i64 2)).setCell ⟨w.heap.size, 1, none⟩ (.int .i64 1)).setCell ⟨w.heap.size, 2, none⟩ (.string ⟨#[]⟩) = w4 at HO4 HB4 ⊢
    clear o0 o1 o2 z0 z1 z2 hlt
    obtain ⟨o0, o1, o2, z0, z1, z2, hlt⟩ := HO4.cells
    refine bodyPost_ret (v := .tuple #[valV ⟨2, 1, ⟨#[]⟩⟩, .nilIface]) (by simp [results, Tryz.results36, go_sem, o0, o1, o2, valV]) rfl ⟨?_, HB4.out⟩
    rfl
/-- val.Parse of any text. -/
theorem parse_any (s : ByteArray) (hs : s.size ≤ 2000000) (w : World) (hT : TextT w) (hN : NumT w) :
    Calls Tryz.prog 36 #[.string s] w (ParseSays (readP s.data.toList).1 (readP s.data.toList).2 w) := by
  by_cases h1 : s.data.toList = tTrue
  · rw [show readP s.data.toList = (truthV true, 0) by unfold readP; rw [if_pos h1]]
    exact parse_word s true h1 w
  by_cases h2 : s.data.toList = tFalse
  · rw [show readP s.data.toList = (truthV false, 0) by unfold readP; rw [if_neg h1, if_pos h2]]
    exact parse_word s false h2 w
  by_cases h3 : s.data.toList.head? = some 39
  · obtain ⟨r, hr⟩ : ∃ r, s.data.toList = 39 :: r := by
      cases hl : s.data.toList with
      | nil => rw [hl] at h3; cases h3
      | cons c r => rw [hl] at h3; exact ⟨r, by rw [show c = 39 by simpa using h3]⟩
    rw [hr, readP_quote]
    exact parseQ_any s r hr hs w hT
  · rw [show readP s.data.toList = readN s.data.toList by unfold readP; rw [if_neg h1, if_neg h2, if_neg h3]]
    exact parse_num s h1 h2 h3 hs w hT hN
def CmpSays (a b : Val) (w : World) (e : Ending) (w' : World) : Prop := e = .returned (.tuple #[.int .i64 (if cmpErr a b = 0 then vorder a b else 0), errV (cmpErr a b)]) ∧ Below w.heap.size w w'
set_option maxHeartbeats 2000000 in
set_option maxRecDepth 100000 in
theorem compare_any (a b : Val) (w : World) :
    Calls Tryz.prog 34 #[.agg #[.int .i64 a.type, .int .i64 a.n, .string a.s], .agg #[.int .i64 b.type, .int .i64 b.n, .string b.s]] w (CmpSays a b w) := by
  obtain ⟨w0, hw0⟩ : ∃ w0, (((w.alloc (.cells #[.int .i64 a.type, .int .i64 a.n, .string a.s] 23)).alloc (.cells #[.int .i64 b.type, .int .i64 b.n, .string b.s] 23)).alloc (.cells #[.int .i64 a.type, .int .i64 a.n, .string a.s, .int .i64 b.type, .int .i64 b.n, .string b.s] 23)) = w0 := ⟨_, rfl⟩
  have hb1 := belowNew' w (.cells #[.int .i64 a.type, .int .i64 a.n, .string a.s] 23)
  have hoa := own3_new w a
  generalize hw1 : w.alloc (.cells #[.int .i64 a.type, .int .i64 a.n, .string a.s] 23) = w1 at hb1 hoa hw0
  have hs1 : w1.heap.size = w.heap.size + 1 := by rw [← hw1]; simp
  have hb2 := belowNew' w1 (.cells #[.int .i64 b.type, .int .i64 b.n, .string b.s] 23)
  have hob := own3_new w1 b
  generalize hw2 : w1.alloc (.cells #[.int .i64 b.type, .int .i64 b.n, .string b.s] 23) = w2 at hb2 hob hw0
  have hs2 : w2.heap.size = w.heap.size + 1 + 1 := by rw [← hw2]; simp [hs1]
  have hb3 := belowNew' w2 (.cells #[.int .i64 a.type, .int .i64 a.n, .string a.s, .int .i64 b.type, .int .i64 b.n, .string b.s] 23)
  have hsee := seesNew w2 [.int .i64 a.type, .int .i64 a.n, .string a.s, .int .i64 b.type, .int .i64 b.n, .string b.s] 23 2 3 rfl (by decide)
  rw [hw0] at hb3
  have HV := Lib.hid (show SeesVals w0 (some ⟨w.heap.size + 1 + 1, 0, none⟩) 2 2 [a, b] from ⟨rfl, by rw [← hs2, ← hw0]; exact hsee⟩)
  have HA := Lib.hid ((hoa.keep hb2).keep hb3)
  have HBb := Lib.hid (show Own3 w0 (w.heap.size + 1) b by rw [← hs1]; exact hob.keep hb3)
  have HB0 := Lib.hid (below_step (below_step hb1 hb2) hb3)
  have HW0 := Lib.hid (show (((w.alloc (.cells #[.int .i64 a.type, .int .i64 a.n, .string a.s] 23)).alloc (.cells #[.int .i64 b.type, .int .i64 b.n, .string b.s] 23)).alloc (.cells #[.int .i64 a.type, .int .i64 a.n, .string a.s, .int .i64 b.type, .int .i64 b.n, .string b.s] 23)) = w0 by rw [hw1, hw2, hw0])
  clear hb1 hb2 hb3 hoa hob hsee hw0 hw1 hw2 hs1 hs2
  have TC := Lib.hid (fun v w' => vcheck_any v w')
  have TO := Lib.hid (fun w' => vorder_any a b w')
  have HE := Lib.hid (show cmpErr a b = if vcheck a ≠ 0 then vcheck a else if vcheck b ≠ 0 then vcheck b else if a.type ≠ b.type then 8 else 0 from rfl)
  unfold valV at TC TO
  go_enter Tryz.func34, Tryz.ntmps34
  go_wp2_with fail
  rw [HW0.out]
  go_loopw [13] (fun iv wx => ∃ k : Nat, k ≤ 2 ∧ iv = .int .i64 k ∧ (1 ≤ k → vcheck a = 0) ∧ (2 ≤ k → vcheck b = 0) ∧ Below w0.heap.size w0 wx) (fun iv _ => 2 - (intOf iv).toNat)
  case atStart => exact ⟨0, by omega, rfl, by omega, by omega, Below.refl _ _⟩
  case round =>
    obtain ⟨k, hk, rfl, ha, hb, hbl⟩ := hrel
    have HBL := Lib.hid hbl
    have HCA := Lib.hid ha
    have HCB := Lib.hid hb
    clear ha hb
    by_cases hk2 : k < 2
    · obtain ⟨g, o, x, e1, -, hx, a0, a1, a2⟩ := (HV.out.keep hbl).at_ hk2
      injection e1 with e1
      injection e1 with e1 e2
      subst e1 e2
      obtain ⟨w3, hw3⟩ : ∃ w3, wr.alloc (.cells #[.int .i64 x.type, .int .i64 x.n, .string x.s] 23) = w3 := ⟨_, rfl⟩
      have hbx := belowNew' wr (.cells #[.int .i64 x.type, .int .i64 x.n, .string x.s] 23)
      rw [hw3] at hbx
      have HB3 := Lib.hid (HBL.out.trans (hbx.mono HBL.out.size))
      have hox := own3_new wr x
      rw [hw3] at hox
      obtain ⟨q0, q1, q2, -, -, -, -⟩ := hox.cells
      clear hox
      have TX := Lib.hid (TC.out x w3)
      unfold CheckSays at TX
      have HX := Lib.hid (show (k = 0 ∧ x = a) ∨ (k = 1 ∧ x = b) by
        rcases (show k = 0 ∨ k = 1 by omega) with rfl | rfl
        · exact Or.inl ⟨rfl, (Option.some.inj hx).symm⟩
        · exact Or.inr ⟨rfl, (Option.some.inj hx).symm⟩)
      have HW3 := Lib.hid hw3
      rw [Nat.zero_add] at a0 a1 a2
      clear hbl hbx hw3 hx
      by_cases hc : vcheck x = 0
      · rw [hc, errV_zero] at TX
        have HN := Lib.hid (show (1 ≤ k + 1 → vcheck a = 0) ∧ (2 ≤ k + 1 → vcheck b = 0) by
          rcases HX.out with ⟨h1, rfl⟩ | ⟨h1, rfl⟩
          · exact ⟨fun _ => hc, fun h => by omega⟩
          · exact ⟨fun _ => HCA.out (by omega), fun _ => hc⟩)
        clear hc
        go_wp2_with (first | rw [HW3.out])
        refine (TX.out).mono ?_
        rintro e w4 ⟨rfl, hb4⟩
        have HB4 := Lib.hid (HB3.out.trans (hb4.mono HB3.out.size))
        clear hb4
        go_wp2_with fail
        go_roundw
        case rel => exact ⟨k + 1, by omega, by go_num, HN.out.1, HN.out.2, HB4.out⟩
        case measure => simp [intOf]; omega
      · rw [errV_ne hc] at TX
        have HR := Lib.hid (show cmpErr a b = vcheck x by
          rw [HE.out]
          rcases HX.out with ⟨h1, rfl⟩ | ⟨h1, rfl⟩
          · rw [if_pos hc]
          · rw [if_neg (by simpa using HCA.out (by omega)), if_pos hc])
        have HR2 := Lib.hid (show cmpErr a b ≠ 0 by rw [HR.out]; exact hc)
        clear hc
        go_wp2_with (first | rw [HW3.out])
        refine (TX.out).mono ?_
        rintro e w4 ⟨rfl, hb4⟩
        have HB4 := Lib.hid (below_step HB0.out (HB3.out.trans (hb4.mono HB3.out.size)))
        clear hb4
        go_wp2_with fail
        go_ret2
        exact ⟨by rw [if_neg HR2.out, HR.out, errV_ne (by rw [← HR.out]; exact HR2.out)]; rfl, HB4.out⟩
    · obtain rfl : k = 2 := by omega
      obtain ⟨o0, o1, o2, -, -, -, -⟩ := (HA.out.keep hbl).cells
      obtain ⟨p0, p1, p2, -, -, -, -⟩ := (HBb.out.keep hbl).cells
      have hE := HE.out
      rw [if_neg (by simpa using HCA.out (by omega)), if_neg (by simpa using HCB.out (by omega))] at hE
      clear hbl
      by_cases ht : a.type = b.type
      · have et : (a.type == b.type) = true := beq_iff_eq.2 ht
        have HR := Lib.hid (show cmpErr a b = 0 by rw [hE, if_neg (by simpa using ht)])
        clear ht hE
        go_wp2_with fail
        refine (TO.out _).mono ?_
        rintro e w4 ⟨rfl, hb4⟩
        have HB4 := Lib.hid (below_step HB0.out (HBL.out.trans (hb4.mono HBL.out.size)))
        clear hb4
        go_wp2_with fail
        go_ret2
        exact ⟨by rw [HR.out]; rfl, HB4.out⟩
      · have et : (a.type == b.type) = false := beq_eq_false_iff_ne.2 ht
        have HR := Lib.hid (show cmpErr a b = 8 by rw [hE, if_pos ht])
        clear ht hE
        go_wp2_with fail
        go_ret2
        exact ⟨by rw [HR.out]; rfl, below_step HB0.out HBL.out⟩
end Go.Proofs.YtpbbkpfaphjdoaaGreatDoor
