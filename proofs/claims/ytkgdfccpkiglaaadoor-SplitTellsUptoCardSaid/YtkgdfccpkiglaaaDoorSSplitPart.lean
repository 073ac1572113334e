/- split.Part, walked: which part a row has. -/
import Derived.Test.YtkgdfccpkiglaaaDoorSSplit
import Derived.Test.YtkgdfccpkiglaaaDoorSShelf
namespace Go.Proofs.YtkgdfccpkiglaaaDoor
open Go.ChangeShapes Go.WideShapes Go.ChangeAt Go.RowKit
def partSum (r : List Val) : Int → List Int → Int
 | k, [] => k
 | k, c :: l => partSum r ((31 * k + numberOf (r.getD c.toNat noVal)) % 1000003) l
theorem partSum_snoc (r : List Val) : ∀ (l : List Int) (k : Int) (c : Int), partSum r k (l ++ [c]) = (31 * partSum r k l + numberOf (r.getD c.toNat noVal)) % 1000003
 | [], k, c => by simp [partSum]
 | x :: l, k, c => by rw [List.cons_append, partSum, partSum]; exact partSum_snoc r l _ c
theorem partSum_bound (r : List Val) : ∀ (l : List Int) (k : Int), 0 ≤ k ∧ k < 1000003 → 0 ≤ partSum r k l ∧ partSum r k l < 1000003
 | [], k, h => by rw [partSum]; exact h
 | c :: l, k, h => by rw [partSum]; exact partSum_bound r l _ (emod_pos _ (by omega))
def partOf (r : List Val) (cols : List Int) (n : Int) : Int := partSum r 0 cols % n
theorem partOf_bound (r : List Val) (cols : List Int) {n : Int} (hn : 1 ≤ n) : 0 ≤ partOf r cols n ∧ partOf r cols n < n := emod_pos _ (by omega)
set_option maxHeartbeats 1000000 in
theorem part_num (R C : Option Addr) (m cr k ck : Nat) (n : Int) (w : World) (h : n < 1 ∨ 8 < n) :
  Calls Tryd.prog 5 #[.slice R m cr, .slice C k ck, .int .i64 n] w fun e w' => e = .returned (.tuple #[.int .i64 0, .iface 49 (.int .i64 1)]) ∧ Below w.heap.size w w' := by
 by_cases h1 : n < 1
 ·have d1 : decide (n < 1) = true := decide_eq_true h1
  clear h h1
  go_enter Tryd.func5, Tryd.ntmps5
  go_wp2_with fail
  go_ret2
  exact ⟨rfl, (Below.refl _ _).alloc (Nat.le_refl _) _⟩
 ·have d1 : decide (n < 1) = false := decide_eq_false h1
  have d2 : decide (8 < n) = true := decide_eq_true (by omega)
  clear h h1
  go_enter Tryd.func5, Tryd.ntmps5
  go_wp2_with fail
  go_ret2
  exact ⟨rfl, (Below.refl _ _).alloc (Nat.le_refl _) _⟩
set_option maxHeartbeats 2000000 in
theorem part_any (R C : Option Addr) (m cr k ck : Nat) (n : Int) (r : List Val) (cols : List Int) (w : World) (h1 : 1 ≤ n) (h8 : n ≤ 8) (hR : SeesVals w R m cr r) (hw : ∀ v ∈ r, v.wf) (hC : Sees w C k ck 1 (intCells cols)) :
  Calls Tryd.prog 5 #[.slice R m cr, .slice C k ck, .int .i64 n] w fun e w' =>
   e = .returned (if cols.any (badCol m) = true then .tuple #[.int .i64 0, .iface 49 (.int .i64 1)] else .tuple #[.int .i64 (partOf r cols n), .nilIface]) ∧ Below w.heap.size w w' := by
 obtain ⟨w0, hw0⟩ : ∃ w0, w.alloc (.cells #[.slice R m cr] 28) = w0 := ⟨_, rfl⟩
 have hb0 : Below w.heap.size w w0 := by rw [← hw0]; exact (Below.refl _ _).alloc (Nat.le_refl _) _
 have hc0 : w0.cell? ⟨w.heap.size, 0, none⟩ = some (.slice R m cr) := by rw [← hw0]; simp
 have hlt0 : w.heap.size < w0.heap.size := by rw [← hw0]; simp
 have hm : m ≤ maxLen := Nat.le_trans hR.2.2.1 hR.2.2.2.1
 have HR := Lib.hid (hR.keep hb0)
 have HC := Lib.hid (hC.keep hb0)
 have HB := Lib.hid hb0
 have HW0 := Lib.hid hw0
 have HC0 := Lib.hid hc0
 have HWF := Lib.hid hw
 have HLn := Lib.hid (intCells_len hC)
 have hcap := hC.2.1
 have hmax := hC.2.2.1
 have hcr := hR.2.2.1
 have hcrm := hR.2.2.2.1
 unfold maxLen at hmax hcrm
 have d1 : decide (n < 1) = false := decide_eq_false (by omega)
 have d2 : decide (8 < n) = false := decide_eq_false (by omega)
 have T := Lib.hid (any_badCol cols C k ck m cr R hm w.heap.size w0 hc0 HC.out)
 clear hR hw hC hb0 hw0 hc0 hm
 generalize hbad : cols.any (badCol m) = bad at T ⊢
 have HBAD := Lib.hid hbad
 clear hbad
 cases bad with
 | true =>
  go_enter Tryd.func5, Tryd.ntmps5
  go_wp2_with (first | rw [HW0.out])
  refine (T.out).mono ?_
  rintro e w' ⟨rfl, rfl⟩
  go_wp2_with fail
  go_ret2
  exact ⟨rfl, HB.out⟩
 | false =>
  go_enter Tryd.func5, Tryd.ntmps5
  go_wp2_with (first | rw [HW0.out])
  refine (T.out).mono ?_
  rintro e w' ⟨rfl, rfl⟩
  go_wp2_with fail
  go_loopw [8, 25] (fun a i wr => ∃ j : Nat, j ≤ k ∧ i = .int .i64 j ∧ a = .int .i64 (partSum r 0 (cols.take j)) ∧ Below w0.heap.size w0 wr) (fun _ i _ => k - (intOf i).toNat)
  case atStart => exact ⟨0, by omega, rfl, by rw [List.take_zero, partSum], Below.refl _ _⟩
  case round =>
   obtain ⟨j, hj, rfl, rfl, hb⟩ := hrel
   have HBR := Lib.hid hb
   have hbd := partSum_bound r (cols.take j) 0 ⟨by omega, by omega⟩
   have c3 := (hb.cell (p := ⟨w.heap.size, 0, none⟩) hlt0).trans HC0.out
   by_cases hlj : j < k
   ·obtain ⟨g, o, x, rfl, hx, c1⟩ := ints_at (HC.out.keep hb) hlj
    have hg := (List.any_eq_false.1 HBAD.out) x (List.mem_of_getElem? hx)
    unfold badCol at hg
    simp at hg
    obtain ⟨y, rfl⟩ : ∃ y : Nat, x = y := ⟨x.toNat, by omega⟩
    have hy : y < m := by omega
    obtain ⟨g2, o2, v, rfl, hg2, hv, v0, v1, v2⟩ := (HR.out.keep hb).at_ hy
    have TN := Lib.hid (number_any v wr (HWF.out v (List.mem_of_getElem? hv)).2.2)
    have nb := number_bound v
    have E := Lib.hid (show partSum r 0 (cols.take (j + 1)) = (31 * partSum r 0 (cols.take j) + numberOf v) % 1000003 by
     rw [List.take_add_one, hx]
     have := partSum_snoc r (cols.take j) 0 (y : Int)
     rw [Int.toNat_natCast, List.getD_eq_getElem?_getD, hv] at this
     exact this)
    clear hb hx hv hg
    generalize numberOf v = nv at TN nb E
    generalize partSum r 0 (cols.take j) = a at hbd E ⊢
    go_wp2_with fail
    refine (TN.out).mono ?_
    rintro e w2 ⟨rfl, hb2⟩
    have HB2 := Lib.hid (below_step HBR.out hb2)
    clear hb2
    go_wp2_with fail
    go_roundw
    case rel => exact ⟨j + 1, by omega, by go_num, by rw [E.out], HB2.out⟩
    case measure => simp [intOf]; omega
   ·have htk : cols.take j = cols := List.take_of_length_le (by rw [HLn.out]; omega)
    have EP := Lib.hid (show partOf r cols n = partSum r 0 cols % n from rfl)
    rw [htk] at hbd ⊢
    clear hb htk
    generalize partSum r 0 cols = a at hbd EP ⊢
    have hn0 : (n == 0) = false := by simp; omega
    have hnn : n ≠ 0 := by omega
    have hmod : a.tmod n = a % n := Int.tmod_eq_emod_of_nonneg hbd.1
    have hpb := emod_pos a (m := n) (by omega)
    go_wp2_with fail
    go_ret2
    exact ⟨by rw [EP.out]; rfl, below_step HB.out HBR.out⟩
end Go.Proofs.YtkgdfccpkiglaaaDoor
