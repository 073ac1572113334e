/- agg.of, agg.Total.plus, agg.Total.value, walked: numbers of 128 bits. agg.One: how one aggregate lies; (One).sort, (*Acc).Count's kind of cell: walked. Memory of an accumulator: what only some blocks may change; the row of its aggregates; sums and edges stored in it. Aggregates, plain: what adding a row, joining, telling come to. No program in sight. sluiceref1.Order, walked, of two values that are right and of one type; sluicesame.Vals over two lists that are the same. Values are in one order, plain. val.Parse at any text, val.Compare, walked. -/
import Derived.Test.YtpbbkpfaphjdoaaGreatDoorSErr
import Derived.IntWalk
import Derived.Laws.Externs
import Derived.StillTailTactics
import Derived.Deep.QuietTactic
import Derived.BigQuiet
import Derived.Deep.RegionHeld3
import Derived.Test.YtpbbkpfaphjdoaaGreatDoorSEx
import Derived.Test.YtpbbkpfaphjdoaaGreatDoorSOnly
import Derived.Test.YtpbbkpfaphjdoaaGreatDoorSLexTok
import Derived.Test.YtpbbkpfaphjdoaaGreatDoorSArity
import Derived.Test.YtpbbkpfaphjdoaaGreatDoorSNumLaw
namespace Go.Proofs.YtpbbkpfaphjdoaaGreatDoor
open Go.ChangeShapes Go.WideShapes Go.ChangeAt Go.RowKit
def fits64 (t : Int) : Prop := -9223372036854775808 ≤ t ∧ t ≤ 9223372036854775807
instance (t : Int) : Decidable (fits64 t) := inferInstanceAs (Decidable (_ ∧ _))
end Go.Proofs.YtpbbkpfaphjdoaaGreatDoor
namespace Go.Proofs.YtpbbkpfaphjdoaaGreatDoor
open Go.ChangeShapes Go.WideShapes Go.ChangeAt Go.RowKit
structure One where
 what : ByteArray
 type : Int
 sum : Int
 edge : Val
def isCount (s : ByteArray) : Prop := s.data.toList = [99, 111, 117, 110, 116]
instance (s : ByteArray) : Decidable (isCount s) := inferInstanceAs (Decidable (_ = _))
end Go.Proofs.YtpbbkpfaphjdoaaGreatDoor
namespace Go.Proofs.YtpbbkpfaphjdoaaGreatDoor
open Go.ChangeShapes Go.WideShapes Go.ChangeAt Go.RowKit
section
variable {w : World} {B g cap k : Nat} {l : List One} {o : One}
end
end Go.Proofs.YtpbbkpfaphjdoaaGreatDoor
namespace Go.Proofs.YtpbbkpfaphjdoaaGreatDoor
open Go.RowKit
structure Kd where
 what : ByteArray
 type : Int
def isSum (s : ByteArray) : Prop := s.data.toList = [115, 117, 109]
instance (s : ByteArray) : Decidable (isSum s) := inferInstanceAs (Decidable (_ = _))
section
variable {α : Type} {f : One → α → One} {l : List One} {r : List α} {j : Nat} {o : One} {x : α}
end
end Go.Proofs.YtpbbkpfaphjdoaaGreatDoor
namespace Go.Proofs.YtpbbkpfaphjdoaaGreatDoor
open Go.ChangeShapes Go.WideShapes Go.ChangeAt Go.RowKit
end Go.Proofs.YtpbbkpfaphjdoaaGreatDoor
namespace Go.Proofs.YtpbbkpfaphjdoaaGreatDoor
theorem toList_inj {s t : ByteArray} (h : s.data.toList = t.data.toList) : s = t := by
 obtain ⟨⟨a⟩⟩ := s; obtain ⟨⟨b⟩⟩ := t; simp at h; rw [h]
end Go.Proofs.YtpbbkpfaphjdoaaGreatDoor
namespace Go.Proofs.YtpbbkpfaphjdoaaGreatDoor
open Go.ChangeShapes Go.WideShapes Go.ChangeAt Go.RowKit
def atoiAny (l : List UInt8) (w : World) : Ending → World → Prop := fun e w' =>
 Below w.heap.size w w' ∧ match Lib.atoiAll l with
  | .ok n => e = .returned (.tuple #[.int .i64 n, .nilIface])
  | _ => ∃ k t p, e = .returned (.tuple #[.int .i64 k, .iface t p])
theorem atoi_all (s : ByteArray) (hs : s.size ≤ 281474976710656) (w : World) (hT : NumT w) : Calls Tryz.prog 96 #[.string s] w (atoiAny s.data.toList w) := by
 unfold atoiAny
 obtain ⟨⟨te, pe, h1, h2⟩, ⟨te2, pe2, h3, h4⟩⟩ := hT
 cases ha : Lib.atoiAll s.data.toList with
 | ok n =>
  refine (Tryz.strconv_Atoi_ok s (by omega) _ ha w).mono ?_
  rintro e w' ⟨rfl, h⟩
  refine ⟨?_, rfl⟩
  rcases h with rfl | ⟨t, rfl⟩
  ·exact Below.refl _ _
  ·exact Lib.bytesWorld_below _ _ _
 | range =>
  refine (Tryz.strconv_Atoi_range s hs ha _ w h1 (Or.inr ⟨te, pe, rfl⟩)).mono ?_
  rintro e w' ⟨N, rfl, _, _, hb⟩
  exact ⟨hb, _, _, _, rfl⟩
 | _ =>
  refine (Tryz.strconv_Atoi_syntax s hs ha _ w h3 (Or.inr ⟨te2, pe2, rfl⟩)).mono ?_
  rintro e w' ⟨N, rfl, _, _, hb⟩
  exact ⟨hb, _, _, _, rfl⟩
set_option maxHeartbeats 2000000 in
set_option maxRecDepth 100000 in
theorem parse_num (s : ByteArray) (h1 : s.data.toList ≠ tTrue) (h2 : s.data.toList ≠ tFalse) (h3 : s.data.toList.head? ≠ some 39) (hs : s.size ≤ 2000000) (w : World) (hT : TextT w) (hN : NumT w) :
  Calls Tryz.prog 36 #[.string s] w (ParseSays (readN s.data.toList).1 (readN s.data.toList).2 w) := by
 obtain ⟨w0, hw0⟩ : ∃ w0, w.alloc (.cells #[.int .i64 0, .int .i64 0, .string ⟨#[]⟩] 23) = w0 := ⟨_, rfl⟩
 have HB := Lib.hid (show Below w.heap.size w w0 by rw [← hw0]; exact belowNew' _ _)
 have HV := Lib.hid (show Own3 w0 w.heap.size noVal by rw [← hw0]; exact own3_new w noVal)
 have HW := Lib.hid hw0
 have HT := Lib.hid (hT.keep HB.out)
 have HN := Lib.hid (hN.keep HB.out)
 have e1 := str_ne h1
 have e2 := str_ne h2
 unfold tTrue at e1
 unfold tFalse at e2
 have hp : Lib.hasPrefix s.data.toList [39] = false := by
  unfold Lib.hasPrefix
  cases hl : s.data.toList with
  | nil => rfl
  | cons c r =>
   have : ((39 : UInt8) == c) = false := beq_eq_false_iff_ne.2 (fun e => h3 (by rw [hl, ← e]; rfl))
   simp [List.isPrefixOf, this]
 have TCP := Lib.hid (Tryz.strings_CutPrefix s ⟨#[39]⟩ w0)
 rw [show Lib.hasPrefix s.data.toList (⟨#[39]⟩ : ByteArray).data.toList = false from hp] at TCP
 have TA := Lib.hid (atoi_all s (by omega) w0 HN.out)
 unfold atoiAny at TA
 have HRN := Lib.hid (show readN s.data.toList = match Lib.atoiAll s.data.toList with | .ok n => if Lib.itoa n = s.data.toList then (ofV n, 0) else (noVal, 2) | _ => (noVal, 2) from rfl)
 have hbd := fun n (h : Lib.atoiAll s.data.toList = .ok n) => Lib.atoiAll_bounds h
 generalize (⟨(Lib.trimPrefix s.data.toList (⟨#[39]⟩ : ByteArray).data.toList).toArray⟩ : ByteArray) = tp at TCP
 clear h1 h2 h3 hp hw0 hT hN
 cases ha : Lib.atoiAll s.data.toList with
 | ok n =>
  obtain ⟨b1, b2⟩ := hbd n ha
  rw [ha] at TA HRN
  have TI := Lib.hid (fun (w' : World) (hb : Below w0.heap.size w0 w') => Tryz.strconv_Itoa n b1 b2 w' (HT.out.tab w' hb))
  have TO := Lib.hid (fun w' => of_any n w')
  have hcond : (Lib.itoa n = s.data.toList ∧ ((⟨(Lib.itoa n).toArray⟩ : ByteArray).toList == s.toList) = true) ∨ (Lib.itoa n ≠ s.data.toList ∧ ((⟨(Lib.itoa n).toArray⟩ : ByteArray).toList == s.toList) = false) := by
   rw [Lib.toList_data, Lib.toList_data]
   by_cases h : Lib.itoa n = s.data.toList
   ·exact Or.inl ⟨h, beq_iff_eq.2 h⟩
   ·exact Or.inr ⟨h, beq_eq_false_iff_ne.2 h⟩
  generalize (⟨(Lib.itoa n).toArray⟩ : ByteArray) = it at TI hcond
  clear ha hbd
  rcases hcond with ⟨h, ei⟩ | ⟨h, ei⟩
  ·have HR := Lib.hid (show readN s.data.toList = (ofV n, 0) by rw [HRN.out]; exact if_pos h)
   clear h b1 b2 HRN
   go_enter Tryz.func36, Tryz.ntmps36
   go_wp2_with (first | rw [HW.out])
   refine (TCP.out).mono ?_
   rintro e w1 ⟨rfl, rfl⟩
   go_wp2_with fail
   refine (TA.out).mono ?_
   rintro e w1 ⟨hb1, rfl⟩
   have HB1 := Lib.hid hb1
   clear hb1
   go_wp2_with fail
   refine (TI.out w1 HB1.out).mono ?_
   rintro e w2 ⟨rfl, kq, os, rfl⟩
   have HB2 := Lib.hid (below_step HB1.out (Lib.below_grow w1.heap.size w1 (Nat.le_refl _) kq os))
   generalize Sort.grow (w1.drewN kq) os = wz at HB2 ⊢
   go_wp2_with fail
   refine (TO.out _).mono ?_
   rintro e w3 ⟨rfl, hb3⟩
   have HB3 := Lib.hid (below_step HB2.out hb3)
   clear hb3
   unfold valV ofV
   have HV9 := HV.out.keep HB3.out
   obtain ⟨o0, o1, o2, z0, z1, z2, hlt⟩ := HV9.cells
   go_wp2_with fail
   have HO4 := own3_set HV9 1 n ⟨#[]⟩
   have HB4 := Lib.hid (below_set3 (below_step HB.out HB3.out) (Nat.le_refl _) 1 n ⟨#[]⟩)
   generalize ((w3.setCell ⟨w.heap.size, 0, none⟩ (.int .i64 1)).setCell ⟨w.heap.size, 1, none⟩ (.int .i64 n)).setCell ⟨w.heap.size, 2, none⟩ (.string ⟨#[]⟩) = w4 at HO4 HB4 ⊢
   clear o0 o1 o2 z0 z1 z2 hlt
   obtain ⟨o0, o1, o2, z0, z1, z2, hlt⟩ := HO4.cells
   refine bodyPost_ret (v := .tuple #[valV ⟨1, n, ⟨#[]⟩⟩, .nilIface]) (by simp [results, Tryz.results36, go_sem, o0, o1, o2, valV]) rfl ⟨?_, HB4.out⟩
   rw [HR.out]; rfl
  ·have HR := Lib.hid (show readN s.data.toList = (noVal, 2) by rw [HRN.out]; exact if_neg h)
   clear h b1 b2 HRN
   go_enter Tryz.func36, Tryz.ntmps36
   go_wp2_with (first | rw [HW.out])
   refine (TCP.out).mono ?_
   rintro e w1 ⟨rfl, rfl⟩
   go_wp2_with fail
   refine (TA.out).mono ?_
   rintro e w1 ⟨hb1, rfl⟩
   have HB1 := Lib.hid hb1
   clear hb1
   go_wp2_with fail
   refine (TI.out w1 HB1.out).mono ?_
   rintro e w2 ⟨rfl, kq, os, rfl⟩
   have HB2 := Lib.hid (below_step HB1.out (Lib.below_grow w1.heap.size w1 (Nat.le_refl _) kq os))
   generalize Sort.grow (w1.drewN kq) os = w3 at HB2 ⊢
   have HV9 := HV.out.keep HB2.out
   obtain ⟨o0, o1, o2, z0, z1, z2, hlt⟩ := HV9.cells
   go_wp2_with fail
   have HO4 := own3_set HV9 0 0 ⟨#[]⟩
   have HB4 := Lib.hid (below_set3 (below_step HB.out HB2.out) (Nat.le_refl _) 0 0 ⟨#[]⟩)
   generalize ((w3.setCell ⟨w.heap.size, 0, none⟩ (.int .i64 0)).setCell ⟨w.heap.size, 1, none⟩ (.int .i64 0)).setCell ⟨w.heap.size, 2, none⟩ (.string ⟨#[]⟩) = w4 at HO4 HB4 ⊢
   clear o0 o1 o2 z0 z1 z2 hlt
   obtain ⟨o0, o1, o2, z0, z1, z2, hlt⟩ := HO4.cells
   refine bodyPost_ret (v := .tuple #[valV ⟨0, 0, ⟨#[]⟩⟩, .iface 32 (.int .i64 2)]) (by simp [results, Tryz.results36, go_sem, o0, o1, o2, valV]) rfl ⟨?_, HB4.out⟩
   rw [HR.out, errV_ne (by decide)]; rfl
 | range =>
  rw [ha] at TA HRN
  have HR := Lib.hid (show readN s.data.toList = (noVal, 2) from HRN.out)
  clear ha hbd HRN
  go_enter Tryz.func36, Tryz.ntmps36
  go_wp2_with (first | rw [HW.out])
  refine (TCP.out).mono ?_
  rintro e w1 ⟨rfl, rfl⟩
  go_wp2_with fail
  refine (TA.out).mono ?_
  rintro e w3 ⟨hb1, k, t, p, rfl⟩
  have HB1 := Lib.hid hb1
  clear hb1
  have HV9 := HV.out.keep HB1.out
  obtain ⟨o0, o1, o2, z0, z1, z2, hlt⟩ := HV9.cells
  go_wp2_with fail
  have HO4 := own3_set HV9 0 0 ⟨#[]⟩
  have HB4 := Lib.hid (below_set3 (below_step HB.out HB1.out) (Nat.le_refl _) 0 0 ⟨#[]⟩)
  generalize ((w3.setCell ⟨w.heap.size, 0, none⟩ (.int .i64 0)).setCell ⟨w.heap.size, 1, none⟩ (.int .i64 0)).setCell ⟨w.heap.size, 2, none⟩ (.string ⟨#[]⟩) = w4 at HO4 HB4 ⊢
  clear o0 o1 o2 z0 z1 z2 hlt
  obtain ⟨o0, o1, o2, z0, z1, z2, hlt⟩ := HO4.cells
  refine bodyPost_ret (v := .tuple #[valV ⟨0, 0, ⟨#[]⟩⟩, .iface 32 (.int .i64 2)]) (by simp [results, Tryz.results36, go_sem, o0, o1, o2, valV]) rfl ⟨?_, HB4.out⟩
  rw [HR.out, errV_ne (by decide)]; rfl
 | _ =>
  rw [ha] at TA HRN
  have HR := Lib.hid (show readN s.data.toList = (noVal, 2) from HRN.out)
  clear ha hbd HRN
  go_enter Tryz.func36, Tryz.ntmps36
  go_wp2_with (first | rw [HW.out])
  refine (TCP.out).mono ?_
  rintro e w1 ⟨rfl, rfl⟩
  go_wp2_with fail
  refine (TA.out).mono ?_
  rintro e w3 ⟨hb1, k, t, p, rfl⟩
  have HB1 := Lib.hid hb1
  clear hb1
  have HV9 := HV.out.keep HB1.out
  obtain ⟨o0, o1, o2, z0, z1, z2, hlt⟩ := HV9.cells
  go_wp2_with fail
  have HO4 := own3_set HV9 0 0 ⟨#[]⟩
  have HB4 := Lib.hid (below_set3 (below_step HB.out HB1.out) (Nat.le_refl _) 0 0 ⟨#[]⟩)
  generalize ((w3.setCell ⟨w.heap.size, 0, none⟩ (.int .i64 0)).setCell ⟨w.heap.size, 1, none⟩ (.int .i64 0)).setCell ⟨w.heap.size, 2, none⟩ (.string ⟨#[]⟩) = w4 at HO4 HB4 ⊢
  clear o0 o1 o2 z0 z1 z2 hlt
  obtain ⟨o0, o1, o2, z0, z1, z2, hlt⟩ := HO4.cells
  refine bodyPost_ret (v := .tuple #[valV ⟨0, 0, ⟨#[]⟩⟩, .iface 32 (.int .i64 2)]) (by simp [results, Tryz.results36, go_sem, o0, o1, o2, valV]) rfl ⟨?_, HB4.out⟩
  rw [HR.out, errV_ne (by decide)]; rfl
set_option maxHeartbeats 2000000 in
set_option maxRecDepth 100000 in
theorem parse_word (s : ByteArray) (b : Bool) (h : s.data.toList = (if b = true then tTrue else tFalse)) (w : World) :
  Calls Tryz.prog 36 #[.string s] w (ParseSays (truthV b) 0 w) := by
 obtain ⟨w0, hw0⟩ : ∃ w0, w.alloc (.cells #[.int .i64 0, .int .i64 0, .string ⟨#[]⟩] 23) = w0 := ⟨_, rfl⟩
 have HB := Lib.hid (show Below w.heap.size w w0 by rw [← hw0]; exact belowNew' _ _)
 have HV := Lib.hid (show Own3 w0 w.heap.size noVal by rw [← hw0]; exact own3_new w noVal)
 have HW := Lib.hid hw0
 have e1 : (s.toList == [116, 114, 117, 101]) = b := by rw [Lib.toList_data, h]; cases b <;> rfl
 have e2 : (s.toList == [102, 97, 108, 115, 101]) = !b := by rw [Lib.toList_data, h]; cases b <;> rfl
 have TT := Lib.hid (fun w' => truth_any b w')
 clear h hw0
 cases b
 all_goals
  go_enter Tryz.func36, Tryz.ntmps36
  go_wp2_with (first | rw [HW.out])
  refine (TT.out _).mono ?_
  rintro e w3 ⟨rfl, hb3⟩
  have HB3 := Lib.hid hb3
  clear hb3
  unfold valV truthV
  have HV9 := HV.out.keep HB3.out
  obtain ⟨o0, o1, o2, z0, z1, z2, hlt⟩ := HV9.cells
  go_wp2_with fail
 ·skip
  have HO4 := own3_set HV9 2 0 ⟨#[]⟩
  have HB4 := Lib.hid (below_set3 (below_step HB.out HB3.out) (Nat.le_refl _) 2 0 ⟨#[]⟩)
  generalize ((w3.setCell ⟨w.heap.size, 0, none⟩ (.int .i64 2)).setCell ⟨w.heap.size, 1, none⟩ (.int .i64 0)).setCell ⟨w.heap.size, 2, none⟩ (.string ⟨#[]⟩) = w4 at HO4 HB4 ⊢
  clear o0 o1 o2 z0 z1 z2 hlt
  obtain ⟨o0, o1, o2, z0, z1, z2, hlt⟩ := HO4.cells
  refine bodyPost_ret (v := .tuple #[valV ⟨2, 0, ⟨#[]⟩⟩, .nilIface]) (by simp [results, Tryz.results36, go_sem, o0, o1, o2, valV]) rfl ⟨?_, HB4.out⟩
  rfl
 ·skip
  have HO4 := own3_set HV9 2 1 ⟨#[]⟩
  have HB4 := Lib.hid (below_set3 (below_step HB.out HB3.out) (Nat.le_refl _) 2 1 ⟨#[]⟩)
  generalize ((w3.setCell ⟨w.heap.size, 0, none⟩ (.int .i64 2)).setCell ⟨w.heap.size, 1, none⟩ (.int .i64 1)).setCell ⟨w.heap.size, 2, none⟩ (.string ⟨#[]⟩) = w4 at HO4 HB4 ⊢
  clear o0 o1 o2 z0 z1 z2 hlt
  obtain ⟨o0, o1, o2, z0, z1, z2, hlt⟩ := HO4.cells
  refine bodyPost_ret (v := .tuple #[valV ⟨2, 1, ⟨#[]⟩⟩, .nilIface]) (by simp [results, Tryz.results36, go_sem, o0, o1, o2, valV]) rfl ⟨?_, HB4.out⟩
  rfl
theorem parse_any (s : ByteArray) (hs : s.size ≤ 2000000) (w : World) (hT : TextT w) (hN : NumT w) :
  Calls Tryz.prog 36 #[.string s] w (ParseSays (readP s.data.toList).1 (readP s.data.toList).2 w) := by
 by_cases h1 : s.data.toList = tTrue
 ·rw [show readP s.data.toList = (truthV true, 0) by unfold readP; rw [if_pos h1]]
  exact parse_word s true h1 w
 by_cases h2 : s.data.toList = tFalse
 ·rw [show readP s.data.toList = (truthV false, 0) by unfold readP; rw [if_neg h1, if_pos h2]]
  exact parse_word s false h2 w
 by_cases h3 : s.data.toList.head? = some 39
 ·obtain ⟨r, hr⟩ : ∃ r, s.data.toList = 39 :: r := by
   cases hl : s.data.toList with
   | nil => rw [hl] at h3; cases h3
   | cons c r => rw [hl] at h3; exact ⟨r, by rw [show c = 39 by simpa using h3]⟩
  rw [hr, readP_quote]
  exact parseQ_any s r hr hs w hT
 ·rw [show readP s.data.toList = readN s.data.toList by unfold readP; rw [if_neg h1, if_neg h2, if_neg h3]]
  exact parse_num s h1 h2 h3 hs w hT hN
end Go.Proofs.YtpbbkpfaphjdoaaGreatDoor
