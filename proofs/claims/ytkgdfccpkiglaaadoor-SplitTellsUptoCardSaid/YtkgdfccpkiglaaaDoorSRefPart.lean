/- sluiceref3.Number, sluiceref3.Part, walked. -/
import Derived.Test.YtkgdfccpkiglaaaDoorSSplitParts
import Derived.Test.YtkgdfccpkiglaaaDoorSRefVal
namespace Go.Proofs.YtkgdfccpkiglaaaDoor
open Go.ChangeShapes Go.WideShapes Go.ChangeAt Go.RowKit
set_option maxHeartbeats 2000000 in
theorem rnumber_any (v : Val) (w : World) (hs : v.s.size ≤ maxLen) :
  Calls Tryd.prog 12 #[.agg #[.int .i64 v.type, .int .i64 v.n, .string v.s]] w fun e w' => e = .returned (.int .i64 (numberOf v)) ∧ Below w.heap.size w w' := by
 obtain ⟨t, n, s⟩ := v
 replace hs : s.size ≤ maxLen := hs
 obtain ⟨w0, hw0⟩ : ∃ w0, w.alloc (.cells #[.int .i64 t, .int .i64 n, .string s] 46) = w0 := ⟨_, rfl⟩
 have hb0 : Below w.heap.size w w0 := by rw [← hw0]; exact (Below.refl _ _).alloc (Nat.le_refl _) _
 have k0 : w0.cell? ⟨w.heap.size, 0, none⟩ = some (.int .i64 t) := by rw [← hw0]; simp
 have k1 : w0.cell? ⟨w.heap.size, 1, none⟩ = some (.int .i64 n) := by rw [← hw0]; simp
 have k2 : w0.cell? ⟨w.heap.size, 2, none⟩ = some (.string s) := by rw [← hw0]; simp
 have HB0 := Lib.hid hb0
 have HW0 := Lib.hid hw0
 clear hb0 hw0
 by_cases ht : t = 3
 ·have E0 := Lib.hid (show numberOf ⟨t, n, s⟩ = byteNum 0 s.data.toList by unfold numberOf; rw [if_pos ht])
  have e1 : (t != 3) = false := by simpa using ht
  have hsz' := Lib.hid (size_eq s)
  unfold maxLen at hs
  clear ht
  go_enter Tryd.func12, Tryd.ntmps12
  go_wp2_with (first | rw [HW0.out])
  go_loop [4, 5] (fun a i => ∃ k : Nat, k ≤ s.size ∧ i = .int .i64 k ∧ a = .int .i64 (byteNum 0 (s.data.toList.take k))) (fun _ i => s.size - (intOf i).toNat)
  case atStart => exact ⟨0, by omega, rfl, by rw [List.take_zero, byteNum]⟩
  case round =>
   obtain ⟨k, hk, rfl, rfl⟩ := hrel
   have hbd := byteNum_bound (s.data.toList.take k) 0 ⟨by omega, by omega⟩
   by_cases hlt : k < s.size
   ·obtain ⟨b, hb⟩ : ∃ b, s.data.toList[k]? = some b := ⟨_, List.getElem?_eq_getElem (by rw [hsz'.out]; exact hlt)⟩
    have eb := byte_at hlt hb
    have hr : (b.toNat : Int) < 256 := by have := UInt8.toNat_lt b; omega
    have E := Lib.hid (show byteNum 0 (s.data.toList.take (k + 1)) = (31 * byteNum 0 (s.data.toList.take k) + (b.toNat : Int)) % 1000003 by rw [List.take_add_one, hb]; exact byteNum_snoc _ _ _)
    clear hb
    generalize byteNum 0 (s.data.toList.take k) = x at hbd E ⊢
    have em : x * 31 = 31 * x := Int.mul_comm _ _
    go_wp2_with fail
    go_round
    case rel => exact ⟨k + 1, by omega, by go_num, by rw [E.out]⟩
    case measure => simp [intOf]; omega
   ·have htk : s.data.toList.take k = s.data.toList := List.take_of_length_le (by rw [hsz'.out]; omega)
    rw [htk]
    clear htk hbd
    go_wp2_with fail
    go_ret
    exact ⟨by rw [E0.out]; rfl, HB0.out⟩
 ·have e1 : (t != 3) = true := by simpa using ht
  have hbd := tmod_bound n (m := 1000003) (by omega)
  have E0 := Lib.hid (show numberOf ⟨t, n, s⟩ = if n.tmod 1000003 < 0 then n.tmod 1000003 + 1000003 else n.tmod 1000003 by
   unfold numberOf
   rw [if_neg ht]
   generalize n.tmod 1000003 = y at hbd
   split <;> omega)
  clear ht
  generalize hx : n.tmod 1000003 = x at hbd E0
  by_cases hxn : x < 0
  ·have d1 : decide (x < 0) = true := decide_eq_true hxn
   have E1 := Lib.hid (E0.out.trans (if_pos hxn))
   clear E0 hxn
   go_enter Tryd.func12, Tryd.ntmps12
   go_wp2_with (first | rw [HW0.out])
   go_ret
   exact ⟨by rw [E1.out]; rfl, HB0.out⟩
  ·have d1 : decide (x < 0) = false := decide_eq_false hxn
   have E1 := Lib.hid (E0.out.trans (if_neg hxn))
   clear E0 hxn
   go_enter Tryd.func12, Tryd.ntmps12
   go_wp2_with (first | rw [HW0.out])
   go_ret
   exact ⟨by rw [E1.out]; rfl, HB0.out⟩
def partErr (n : Int) (m : Nat) (cols : List Int) : Int := if n < 1 ∨ 8 < n then 1 else if cols.any (badCol m) = true then 1 else 0
def RPartSays (n : Int) (m : Nat) (r : List Val) (cols : List Int) (w : World) (e : Ending) (w' : World) : Prop :=
 e = .returned (.tuple #[.int .i64 (if partErr n m cols = 0 then partOf r cols n else 0), .int .i64 (partErr n m cols)]) ∧ Below w.heap.size w w'
set_option maxHeartbeats 2000000 in
theorem rpart_any (R C : Option Addr) (m cr k ck : Nat) (n : Int) (r : List Val) (cols : List Int) (w : World) (hR : SeesVals w R m cr r) (hw : ∀ v ∈ r, v.wf) (hC : Sees w C k ck 1 (intCells cols)) :
  Calls Tryd.prog 4 #[.slice R m cr, .slice C k ck, .int .i64 n] w (RPartSays n m r cols w) := by
 by_cases hnr : n < 1 ∨ 8 < n
 ·have HE := Lib.hid (show partErr n m cols = 1 by unfold partErr; rw [if_pos hnr])
  by_cases h1 : n < 1
  ·have d1 : decide (n < 1) = true := decide_eq_true h1
   clear hnr h1
   go_enter Tryd.func4, Tryd.ntmps4
   go_wp2_with fail
   go_ret2
   exact ⟨by rw [HE.out]; rfl, Below.refl _ _⟩
  ·have d1 : decide (n < 1) = false := decide_eq_false h1
   have d2 : decide (8 < n) = true := decide_eq_true (by omega)
   clear hnr h1
   go_enter Tryd.func4, Tryd.ntmps4
   go_wp2_with fail
   go_ret2
   exact ⟨by rw [HE.out]; rfl, Below.refl _ _⟩
 have HE1 := Lib.hid (show cols.any (badCol m) = true → partErr n m cols = 1 from fun h => by unfold partErr; rw [if_neg hnr, if_pos h])
 have HE0 := Lib.hid (show cols.any (badCol m) = false → partErr n m cols = 0 from fun h => by unfold partErr; rw [if_neg hnr, if_neg (by rw [h]; decide)])
 have d1 : decide (n < 1) = false := decide_eq_false (by omega)
 have d2 : decide (8 < n) = false := decide_eq_false (by omega)
 have HR := Lib.hid hR
 have HC := Lib.hid hC
 have HWF := Lib.hid hw
 have HLn := Lib.hid (intCells_len hC)
 have hcap := hC.2.1
 have hmax := hC.2.2.1
 have hcr := hR.2.2.1
 have hcrm := hR.2.2.2.1
 unfold maxLen at hmax hcrm
 have hn1 : 1 ≤ n := by omega
 have hn8 : n ≤ 8 := by omega
 clear hR hw hC hnr
 go_enter Tryd.func4, Tryd.ntmps4
 go_wp2_with fail
 go_loopw [8, 9] (fun a i wr => ∃ j : Nat, j ≤ k ∧ i = .int .i64 j ∧ a = .int .i64 (partSum r 0 (cols.take j)) ∧ (∀ c ∈ cols.take j, badCol m c = false) ∧ Below w.heap.size w wr) (fun _ i _ => k - (intOf i).toNat)
 case atStart => exact ⟨0, by omega, rfl, by rw [List.take_zero, partSum], by simp, Below.refl _ _⟩
 case round =>
  obtain ⟨j, hj, rfl, rfl, hno, hb⟩ := hrel
  have HBR := Lib.hid hb
  have HNO := Lib.hid hno
  have hbd := partSum_bound r (cols.take j) 0 ⟨by omega, by omega⟩
  clear hno
  by_cases hlj : j < k
  ·obtain ⟨g, o, x, rfl, hx, c1⟩ := ints_at (HC.out.keep hb) hlj
   have HX := Lib.hid hx
   by_cases hxn : x < 0
   ·have q1 : decide (x < 0) = true := decide_eq_true hxn
    have HEE := Lib.hid (HE1.out (List.any_eq_true.2 ⟨x, List.mem_of_getElem? hx, by unfold badCol; rw [q1]; rfl⟩))
    clear hb hx hxn
    go_wp2_with fail
    go_ret2
    exact ⟨by rw [HEE.out]; rfl, HBR.out⟩
   ·have q1 : decide (x < 0) = false := decide_eq_false hxn
    obtain ⟨y, rfl⟩ : ∃ y : Nat, x = y := ⟨x.toNat, by omega⟩
    by_cases hym : m ≤ y
    ·have q2 : decide ((m : Int) ≤ (y : Int)) = true := decide_eq_true (by omega)
     have q2' : decide (m ≤ y) = true := decide_eq_true hym
     have HEE := Lib.hid (HE1.out (List.any_eq_true.2 ⟨(y : Int), List.mem_of_getElem? hx, by unfold badCol; rw [q2]; simp⟩))
     clear hb hx hxn hym
     go_wp2_with fail
     go_ret2
     exact ⟨by rw [HEE.out]; rfl, HBR.out⟩
    ·have q2 : decide ((m : Int) ≤ (y : Int)) = false := decide_eq_false (by omega)
     have q2' : decide (m ≤ y) = false := decide_eq_false hym
     have hy : y < m := by omega
     have HBC := Lib.hid (show badCol m (y : Int) = false by unfold badCol; rw [q1, q2]; rfl)
     obtain ⟨g2, o2, v, rfl, hg2, hv, v0, v1, v2⟩ := (HR.out.keep hb).at_ hy
     have TN := Lib.hid (rnumber_any v wr (HWF.out v (List.mem_of_getElem? hv)).2.2)
     have nb := number_bound v
     have E := Lib.hid (show partSum r 0 (cols.take (j + 1)) = (31 * partSum r 0 (cols.take j) + numberOf v) % 1000003 by
      rw [List.take_add_one, hx]
      have := partSum_snoc r (cols.take j) 0 (y : Int)
      rw [Int.toNat_natCast, List.getD_eq_getElem?_getD, hv] at this
      exact this)
     clear hb hx hv hxn hym
     generalize numberOf v = nv at TN nb E
     generalize partSum r 0 (cols.take j) = a at hbd E ⊢
     have em : a * 31 = 31 * a := Int.mul_comm _ _
     go_wp2_with fail
     refine (TN.out).mono ?_
     rintro e w2 ⟨rfl, hb2⟩
     have HB2 := Lib.hid (below_step HBR.out hb2)
     clear hb2
     go_wp2_with fail
     go_roundw
     case rel =>
      refine ⟨j + 1, by omega, by go_num, by rw [E.out], ?_, HB2.out⟩
      intro z hz
      rw [List.take_add_one, HX.out] at hz
      rcases List.mem_append.1 hz with hz | hz
      ·exact HNO.out z hz
      ·obtain rfl : z = (y : Int) := by simpa using hz
       exact HBC.out
     case measure => simp [intOf]; omega
  ·have htk : cols.take j = cols := List.take_of_length_le (by rw [HLn.out]; omega)
   have EP := Lib.hid (show partOf r cols n = partSum r 0 cols % n from rfl)
   have hno := HNO.out
   rw [htk] at hbd hno ⊢
   have HEE := Lib.hid (HE0.out (List.any_eq_false.2 (fun z hz => by rw [hno z hz]; decide)))
   clear hb htk hno
   generalize partSum r 0 cols = a at hbd EP ⊢
   have hn0 : (n == 0) = false := by simp; omega
   have hnn : n ≠ 0 := by omega
   have hmod : a.tmod n = a % n := Int.tmod_eq_emod_of_nonneg hbd.1
   have hpb := emod_pos a (m := n) (by omega)
   go_wp2_with fail
   go_ret2
   exact ⟨by rw [HEE.out, if_pos rfl, EP.out]; rfl, HBR.out⟩
end Go.Proofs.YtkgdfccpkiglaaaDoor
