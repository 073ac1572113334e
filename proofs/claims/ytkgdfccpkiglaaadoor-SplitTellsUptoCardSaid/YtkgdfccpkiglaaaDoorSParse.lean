/- val.Parse at any text, val.Compare, walked. -/
import Derived.Test.YtkgdfccpkiglaaaDoorSNumLaw
import Derived.Test.YtkgdfccpkiglaaaDoorSOrdLaw
import Derived.Test.YtkgdfccpkiglaaaDoorSArity
namespace Go.Proofs.YtkgdfccpkiglaaaDoor
open Go.ChangeShapes Go.WideShapes Go.ChangeAt Go.RowKit
def CmpSays (a b : Val) (w : World) (e : Ending) (w' : World) : Prop := e = .returned (.tuple #[.int .i64 (if cmpErr a b = 0 then vorder a b else 0), errV (cmpErr a b)]) ∧ Below w.heap.size w w'
set_option maxHeartbeats 2000000 in
set_option maxRecDepth 100000 in
theorem compare_any (a b : Val) (w : World) :
  Calls Tryd.prog 20 #[.agg #[.int .i64 a.type, .int .i64 a.n, .string a.s], .agg #[.int .i64 b.type, .int .i64 b.n, .string b.s]] w (CmpSays a b w) := by
 obtain ⟨w0, hw0⟩ : ∃ w0, (((w.alloc (.cells #[.int .i64 a.type, .int .i64 a.n, .string a.s] 46)).alloc (.cells #[.int .i64 b.type, .int .i64 b.n, .string b.s] 46)).alloc (.cells #[.int .i64 a.type, .int .i64 a.n, .string a.s, .int .i64 b.type, .int .i64 b.n, .string b.s] 46)) = w0 := ⟨_, rfl⟩
 have hb1 := belowNew' w (.cells #[.int .i64 a.type, .int .i64 a.n, .string a.s] 46)
 have hoa := own3_new w a
 generalize hw1 : w.alloc (.cells #[.int .i64 a.type, .int .i64 a.n, .string a.s] 46) = w1 at hb1 hoa hw0
 have hs1 : w1.heap.size = w.heap.size + 1 := by rw [← hw1]; simp
 have hb2 := belowNew' w1 (.cells #[.int .i64 b.type, .int .i64 b.n, .string b.s] 46)
 have hob := own3_new w1 b
 generalize hw2 : w1.alloc (.cells #[.int .i64 b.type, .int .i64 b.n, .string b.s] 46) = w2 at hb2 hob hw0
 have hs2 : w2.heap.size = w.heap.size + 1 + 1 := by rw [← hw2]; simp [hs1]
 have hb3 := belowNew' w2 (.cells #[.int .i64 a.type, .int .i64 a.n, .string a.s, .int .i64 b.type, .int .i64 b.n, .string b.s] 46)
 have hsee := seesNew w2 [.int .i64 a.type, .int .i64 a.n, .string a.s, .int .i64 b.type, .int .i64 b.n, .string b.s] 46 2 3 rfl (by decide)
 rw [hw0] at hb3
 have HV := Lib.hid (show SeesVals w0 (some ⟨w.heap.size + 1 + 1, 0, none⟩) 2 2 [a, b] from ⟨rfl, by rw [← hs2, ← hw0]; exact hsee⟩)
 have HA := Lib.hid ((hoa.keep hb2).keep hb3)
 have HBb := Lib.hid (show Own3 w0 (w.heap.size + 1) b by rw [← hs1]; exact hob.keep hb3)
 have HB0 := Lib.hid (below_step (below_step hb1 hb2) hb3)
 have HW0 := Lib.hid (show (((w.alloc (.cells #[.int .i64 a.type, .int .i64 a.n, .string a.s] 46)).alloc (.cells #[.int .i64 b.type, .int .i64 b.n, .string b.s] 46)).alloc (.cells #[.int .i64 a.type, .int .i64 a.n, .string a.s, .int .i64 b.type, .int .i64 b.n, .string b.s] 46)) = w0 by rw [hw1, hw2, hw0])
 clear hb1 hb2 hb3 hoa hob hsee hw0 hw1 hw2 hs1 hs2
 have TC := Lib.hid (fun v w' => vcheck_any v w')
 have TO := Lib.hid (fun w' => vorder_any a b w')
 have HE := Lib.hid (show cmpErr a b = if vcheck a ≠ 0 then vcheck a else if vcheck b ≠ 0 then vcheck b else if a.type ≠ b.type then 8 else 0 from rfl)
 unfold valV at TC TO
 go_enter Tryd.func20, Tryd.ntmps20
 go_wp2_with fail
 rw [HW0.out]
 go_loopw [13] (fun iv wx => ∃ k : Nat, k ≤ 2 ∧ iv = .int .i64 k ∧ (1 ≤ k → vcheck a = 0) ∧ (2 ≤ k → vcheck b = 0) ∧ Below w0.heap.size w0 wx) (fun iv _ => 2 - (intOf iv).toNat)
 case atStart => exact ⟨0, by omega, rfl, by omega, by omega, Below.refl _ _⟩
 case round =>
  obtain ⟨k, hk, rfl, ha, hb, hbl⟩ := hrel
  have HBL := Lib.hid hbl
  have HCA := Lib.hid ha
  have HCB := Lib.hid hb
  clear ha hb
  by_cases hk2 : k < 2
  ·obtain ⟨g, o, x, e1, -, hx, a0, a1, a2⟩ := (HV.out.keep hbl).at_ hk2
   injection e1 with e1
   injection e1 with e1 e2
   subst e1 e2
   obtain ⟨w3, hw3⟩ : ∃ w3, wr.alloc (.cells #[.int .i64 x.type, .int .i64 x.n, .string x.s] 46) = w3 := ⟨_, rfl⟩
   have hbx := belowNew' wr (.cells #[.int .i64 x.type, .int .i64 x.n, .string x.s] 46)
   rw [hw3] at hbx
   have HB3 := Lib.hid (HBL.out.trans (hbx.mono HBL.out.size))
   have hox := own3_new wr x
   rw [hw3] at hox
   obtain ⟨q0, q1, q2, -, -, -, -⟩ := hox.cells
   clear hox
   have TX := Lib.hid (TC.out x w3)
   unfold CheckSays at TX
   have HX := Lib.hid (show (k = 0 ∧ x = a) ∨ (k = 1 ∧ x = b) by
    rcases (show k = 0 ∨ k = 1 by omega) with rfl | rfl
    ·exact Or.inl ⟨rfl, (Option.some.inj hx).symm⟩
    ·exact Or.inr ⟨rfl, (Option.some.inj hx).symm⟩)
   have HW3 := Lib.hid hw3
   rw [Nat.zero_add] at a0 a1 a2
   clear hbl hbx hw3 hx
   by_cases hc : vcheck x = 0
   ·rw [hc, errV_zero] at TX
    have HN := Lib.hid (show (1 ≤ k + 1 → vcheck a = 0) ∧ (2 ≤ k + 1 → vcheck b = 0) by
     rcases HX.out with ⟨h1, rfl⟩ | ⟨h1, rfl⟩
     ·exact ⟨fun _ => hc, fun h => by omega⟩
     ·exact ⟨fun _ => HCA.out (by omega), fun _ => hc⟩)
    clear hc
    go_wp2_with (first | rw [HW3.out])
    refine (TX.out).mono ?_
    rintro e w4 ⟨rfl, hb4⟩
    have HB4 := Lib.hid (HB3.out.trans (hb4.mono HB3.out.size))
    clear hb4
    go_wp2_with fail
    go_roundw
    case rel => exact ⟨k + 1, by omega, by go_num, HN.out.1, HN.out.2, HB4.out⟩
    case measure => simp [intOf]; omega
   ·rw [errV_ne hc] at TX
    have HR := Lib.hid (show cmpErr a b = vcheck x by
     rw [HE.out]
     rcases HX.out with ⟨h1, rfl⟩ | ⟨h1, rfl⟩
     ·rw [if_pos hc]
     ·rw [if_neg (by simpa using HCA.out (by omega)), if_pos hc])
    have HR2 := Lib.hid (show cmpErr a b ≠ 0 by rw [HR.out]; exact hc)
    clear hc
    go_wp2_with (first | rw [HW3.out])
    refine (TX.out).mono ?_
    rintro e w4 ⟨rfl, hb4⟩
    have HB4 := Lib.hid (below_step HB0.out (HB3.out.trans (hb4.mono HB3.out.size)))
    clear hb4
    go_wp2_with fail
    go_ret2
    exact ⟨by rw [if_neg HR2.out, HR.out, errV_ne (by rw [← HR.out]; exact HR2.out)]; rfl, HB4.out⟩
  ·obtain rfl : k = 2 := by omega
   obtain ⟨o0, o1, o2, -, -, -, -⟩ := (HA.out.keep hbl).cells
   obtain ⟨p0, p1, p2, -, -, -, -⟩ := (HBb.out.keep hbl).cells
   have hE := HE.out
   rw [if_neg (by simpa using HCA.out (by omega)), if_neg (by simpa using HCB.out (by omega))] at hE
   clear hbl
   by_cases ht : a.type = b.type
   ·have et : (a.type == b.type) = true := beq_iff_eq.2 ht
    have HR := Lib.hid (show cmpErr a b = 0 by rw [hE, if_neg (by simpa using ht)])
    clear ht hE
    go_wp2_with fail
    refine (TO.out _).mono ?_
    rintro e w4 ⟨rfl, hb4⟩
    have HB4 := Lib.hid (below_step HB0.out (HBL.out.trans (hb4.mono HBL.out.size)))
    clear hb4
    go_wp2_with fail
    go_ret2
    exact ⟨by rw [HR.out]; rfl, HB4.out⟩
   ·have et : (a.type == b.type) = false := beq_eq_false_iff_ne.2 ht
    have HR := Lib.hid (show cmpErr a b = 8 by rw [hE, if_pos ht])
    clear ht hE
    go_wp2_with fail
    go_ret2
    exact ⟨by rw [HR.out]; rfl, below_step HB0.out HBL.out⟩
end Go.Proofs.YtkgdfccpkiglaaaDoor
