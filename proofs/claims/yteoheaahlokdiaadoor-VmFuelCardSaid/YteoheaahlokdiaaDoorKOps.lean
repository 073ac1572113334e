/- The list of operations: kind.Ops, and the document's. -/
import Derived.Test.YteoheaahlokdiaaDoorLevels
import Derived.Test.YteoheaahlokdiaaDoorRefVal
namespace Go.Proofs.YteoheaahlokdiaaDoor
open Go.ChangeShapes Go.WideShapes Go.ChangeAt Go.RowKit

theorem kops_any (w : World) (hO : OpsT w) : Calls Tryd.prog 70 #[] w fun e w' => ∃ A c, e = .returned (.slice A 17 c) ∧ Sees w' A 17 c 1 (strCells opsB) ∧ Below w.heap.size w w' := by
  have T := Lib.hid (Tryd.slices_Clone_string 0 0 17 17 opsB w (Nat.le_refl _) (by decide) (by
    intro j hj
    rw [Nat.zero_add]
    obtain ⟨g, o, hgo, hg, hc⟩ := hO.2.2.2.2 (by decide)
    cases hgo
    have := hc j (.string (opsB.getD j ByteArray.empty)) (by rw [strCells_get (List.getElem?_eq_getElem hj)]; simp [List.getD, List.getElem?_eq_getElem hj])
    rwa [Nat.zero_add] at this))
  clear hO
  go_enter Tryd.func70, Tryd.ntmps70
  go_wp2_with fail
  refine (T.out).mono ?_
  rintro e w1 ⟨v', rfl, hown, _, hb⟩
  rw [List.take_of_length_le (show opsB.length ≤ 17 from Nat.le_refl _)] at hown
  obtain ⟨A, c, rfl, hs⟩ := Sees.of_own hown
  have HS := Lib.hid hs
  have HB := Lib.hid hb
  clear hown hs hb
  go_wp2_with fail
  go_ret
  exact ⟨A, c, rfl, HS.out, HB.out⟩
theorem rops_any (w : World) : Calls Tryd.prog 69 #[] w fun e w' => ∃ A c, e = .returned (.slice A 17 c) ∧ Sees w' A 17 c 1 (strCells opsB) ∧ Below w.heap.size w w' := by
  go_enter Tryd.func69, Tryd.ntmps69
  go_wp2_with fail
  go_ret
  exact ⟨_, _, rfl, seesNew w (strCells opsB) _ 17 1 rfl (by decide), belowNew _ _⟩
end Go.Proofs.YteoheaahlokdiaaDoor
