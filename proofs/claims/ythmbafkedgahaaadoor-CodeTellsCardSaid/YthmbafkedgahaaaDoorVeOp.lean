/- The list of operations: kind.Ops, and the document's. code.lazy, code.Op, walked. -/
import Derived.Test.YthmbafkedgahaaaDoorArity
import Derived.Test.YthmbafkedgahaaaDoorRefVal
import Derived.Test.YthmbafkedgahaaaDoorVeLaw
namespace Go.Proofs.YthmbafkedgahaaaDoor
open Go.ChangeShapes Go.WideShapes Go.ChangeAt Go.RowKit

theorem kops_any (w : World) (hO : OpsT w) : Calls Tryd.prog 65 #[] w fun e w' => ∃ A c, e = .returned (.slice A 17 c) ∧ Sees w' A 17 c 1 (strCells opsB) ∧ Below w.heap.size w w' := by
  have T := Lib.hid (Tryd.slices_Clone_string 0 0 17 17 opsB w (Nat.le_refl _) (by decide) (by
    intro j hj
    rw [Nat.zero_add]
    obtain ⟨g, o, hgo, hg, hc⟩ := hO.2.2.2.2 (by decide)
    cases hgo
    have := hc j (.string (opsB.getD j ByteArray.empty)) (by rw [strCells_get (List.getElem?_eq_getElem hj)]; simp [List.getD, List.getElem?_eq_getElem hj])
    rwa [Nat.zero_add] at this))
  clear hO
  go_enter Tryd.func65, Tryd.ntmps65
  go_wp2_with fail
  refine (T.out).mono ?_
  rintro e w1 ⟨v', rfl, hown, _, hb⟩
  rw [List.take_of_length_le (show opsB.length ≤ 17 from Nat.le_refl _)] at hown
  obtain ⟨A, c, rfl, hs⟩ := Sees.of_own hown
  have HS := Lib.hid hs
  have HB := Lib.hid hb
  clear hown hs hb
  go_wp2_with fail
  go_ret
  exact ⟨A, c, rfl, HS.out, HB.out⟩
theorem rops_any (w : World) : Calls Tryd.prog 64 #[] w fun e w' => ∃ A c, e = .returned (.slice A 17 c) ∧ Sees w' A 17 c 1 (strCells opsB) ∧ Below w.heap.size w w' := by
  go_enter Tryd.func64, Tryd.ntmps64
  go_wp2_with fail
  go_ret
  exact ⟨_, _, rfl, seesNew w (strCells opsB) _ 17 1 rfl (by decide), belowNew _ _⟩
end Go.Proofs.YthmbafkedgahaaaDoor
namespace Go.Proofs.YthmbafkedgahaaaDoor
open Go.ChangeShapes Go.WideShapes Go.ChangeAt Go.RowKit

def isLazy (s : ByteArray) : Bool := decide (s.data.toList = [111, 114]) || decide (s.data.toList = [97, 110, 100]) || decide (s.data.toList = [105, 102])
set_option maxHeartbeats 1000000 in
theorem lazy_any (s : ByteArray) (w : World) : Calls Tryd.prog 66 #[.string s] w fun e w' => e = .returned (.bool (isLazy s)) ∧ w = w' := by
  by_cases h1 : s.data.toList = [111, 114]
  · have e1 : (s.toList == [111, 114]) = true := by rw [Lib.toList_data, h1]; rfl
    have E := Lib.hid (show isLazy s = true by unfold isLazy; simp [h1])
    clear h1
    go_enter Tryd.func66, Tryd.ntmps66
    go_wp2_with fail
    go_ret
    exact ⟨by rw [E.out]; rfl, rfl⟩
  have e1 : (s.toList == [111, 114]) = false := by rw [Lib.toList_data]; exact beq_eq_false_iff_ne.2 h1
  by_cases h2 : s.data.toList = [97, 110, 100]
  · have e2 : (s.toList == [97, 110, 100]) = true := by rw [Lib.toList_data, h2]; rfl
    have E := Lib.hid (show isLazy s = true by unfold isLazy; simp [h2])
    clear h1 h2
    go_enter Tryd.func66, Tryd.ntmps66
    go_wp2_with fail
    go_ret
    exact ⟨by rw [E.out]; rfl, rfl⟩
  have e2 : (s.toList == [97, 110, 100]) = false := by rw [Lib.toList_data]; exact beq_eq_false_iff_ne.2 h2
  by_cases h3 : s.data.toList = [105, 102]
  · have e3 : (s.toList == [105, 102]) = true := by rw [Lib.toList_data, h3]; rfl
    have E := Lib.hid (show isLazy s = true by unfold isLazy; simp [h3])
    clear h1 h2 h3
    go_enter Tryd.func66, Tryd.ntmps66
    go_wp2_with fail
    go_ret
    exact ⟨by rw [E.out]; rfl, rfl⟩
  · have e3 : (s.toList == [105, 102]) = false := by rw [Lib.toList_data]; exact beq_eq_false_iff_ne.2 h3
    have E := Lib.hid (show isLazy s = false by unfold isLazy; simp [h1, h2, h3])
    clear h1 h2 h3
    go_enter Tryd.func66, Tryd.ntmps66
    go_wp2_with fail
    go_ret
    exact ⟨by rw [E.out]; rfl, rfl⟩
theorem ops_lazy : ∀ j, j < 17 → isLazy (opsB.getD j ⟨#[]⟩) = !decide (2 ≤ j ∧ j < 16) := by decide
theorem ops_arity : ∀ j, j < 16 → 2 ≤ j → arityOf (opsB.getD j ⟨#[]⟩) = 1 ∨ arityOf (opsB.getD j ⟨#[]⟩) = 2 := by decide
theorem opErr_nat {k : Int} (h : opErr k = 0) : ∃ j : Nat, k = j ∧ 2 ≤ j ∧ j < 16 := by
  unfold opErr at h
  split at h
  · exact ⟨k.toNat, by omega, by omega, by omega⟩
  · exact absurd h (by decide)
theorem op_arity {k : Int} (h : opErr k = 0) : arityOf (opNm k) = 1 ∨ arityOf (opNm k) = 2 := by
  obtain ⟨j, rfl, h2, h3⟩ := opErr_nat h
  unfold opNm
  rw [if_pos h, Int.toNat_natCast]
  exact ops_arity j h3 h2
theorem opErr_01 (k : Int) : opErr k = 0 ∨ opErr k = 1 := by unfold opErr; split <;> simp
set_option maxHeartbeats 1000000 in
theorem op_any (k : Int) (w : World) (hO : OpsT w) : Calls Tryd.prog 28 #[.int .i64 k] w fun e w' => e = .returned (.tuple #[.string (opNm k), errV (opErr k)]) ∧ Below w.heap.size w w' := by
  have T := Lib.hid (kops_any w hO)
  clear hO
  by_cases hk : 0 ≤ k ∧ k < 17
  · obtain ⟨j, rfl⟩ : ∃ j : Nat, k = j := ⟨k.toNat, by omega⟩
    have hj : j < 17 := by omega
    have d0 : decide ((j : Int) < 0) = false := decide_eq_false (by omega)
    have d1 : decide (17 ≤ (j : Int)) = false := decide_eq_false (by omega)
    have LZ := Lib.hid (ops_lazy j hj)
    clear hk
    go_enter Tryd.func28, Tryd.ntmps28
    go_wp2_with fail
    refine (T.out).mono ?_
    rintro e w1 ⟨A, c, rfl, hs, hb⟩
    have hc1 := hs.2.1
    have hc2 := hs.2.2.1
    unfold maxLen at hc2
    have HB := Lib.hid hb
    obtain ⟨g, o, u, rfl, hu, q⟩ := hs.at_ hj
    have hu2 : u = .string (opsB.getD j ⟨#[]⟩) := by
      have h17 : j < opsB.length := hj
      rw [strCells_get (List.getElem?_eq_getElem h17)] at hu
      rw [List.getD_eq_getElem?_getD, List.getElem?_eq_getElem h17]
      exact (Option.some.inj hu).symm
    subst hu2
    clear hs hb hu
    by_cases hjj : 2 ≤ j ∧ j < 16
    · have E1 := Lib.hid (show isLazy (opsB.getD j ⟨#[]⟩) = false by rw [LZ.out]; simp [hjj])
      have E2 := Lib.hid (show opErr j = 0 by unfold opErr; rw [if_pos (by omega)])
      have E3 := Lib.hid (show opNm j = opsB.getD j ⟨#[]⟩ by unfold opNm; rw [E2.out, if_pos rfl, Int.toNat_natCast])
      generalize opsB.getD j ⟨#[]⟩ = s at q E1 E3
      clear LZ hjj
      go_wp2_with (first | (go_at_call 66; refine (lazy_any _ _).mono ?_; rintro e w2 ⟨rfl, rfl⟩; rw [E1.out]))
      go_ret2
      exact ⟨by rw [E2.out, E3.out]; rfl, HB.out⟩
    · have E1 := Lib.hid (show isLazy (opsB.getD j ⟨#[]⟩) = true by rw [LZ.out]; simp [hjj])
      have E2 := Lib.hid (show opErr j = 1 by unfold opErr; rw [if_neg (by omega)])
      have E3 := Lib.hid (show opNm j = ⟨#[]⟩ by unfold opNm; rw [E2.out, if_neg (by decide)])
      generalize opsB.getD j ⟨#[]⟩ = s at q E1
      clear LZ hjj
      go_wp2_with (first | (go_at_call 66; refine (lazy_any _ _).mono ?_; rintro e w2 ⟨rfl, rfl⟩; rw [E1.out]))
      go_ret2
      exact ⟨by rw [E2.out, E3.out]; rfl, HB.out⟩
  · have E2 := Lib.hid (show opErr k = 1 by unfold opErr; rw [if_neg (by omega)])
    have E3 := Lib.hid (show opNm k = ⟨#[]⟩ by unfold opNm; rw [E2.out, if_neg (by decide)])
    by_cases hk0 : k < 0
    · have d0 : decide (k < 0) = true := decide_eq_true hk0
      clear hk
      go_enter Tryd.func28, Tryd.ntmps28
      go_wp2_with fail
      refine (T.out).mono ?_
      rintro e w1 ⟨A, c, rfl, -, hb⟩
      have HB := Lib.hid hb
      clear hb
      go_wp2_with fail
      go_ret2
      exact ⟨by rw [E2.out, E3.out]; rfl, HB.out⟩
    · have d0 : decide (k < 0) = false := decide_eq_false hk0
      have d1 : decide (17 ≤ k) = true := decide_eq_true (by omega)
      clear hk
      go_enter Tryd.func28, Tryd.ntmps28
      go_wp2_with fail
      refine (T.out).mono ?_
      rintro e w1 ⟨A, c, rfl, -, hb⟩
      have HB := Lib.hid hb
      clear hb
      go_wp2_with fail
      go_ret2
      exact ⟨by rw [E2.out, E3.out]; rfl, HB.out⟩
end Go.Proofs.YthmbafkedgahaaaDoor
