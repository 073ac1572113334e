/- strings.Join at a slice of strings that is seen. -/
import Derived.Test.YtpbbkpfaphjdoaaGreatDoorArity
import Derived.Lib.Join
namespace Go.Proofs.YtpbbkpfaphjdoaaGreatDoor
open Go.ChangeShapes Go.WideShapes Go.ChangeAt Go.RowKit

theorem strSlice : SliceTy Tryz.prog 27 9 (.string ⟨#[]⟩) 1 16 := SliceTy.of Tryz.underlying27 (by kernel_rfl) rfl (by decide) (by decide)
theorem join_seen (A : Option Addr) (n c : Nat) (zs : List ByteArray) (sep : ByteArray) (w : World) (h : Sees w A n c 1 (strCells zs)) (hn : n ≤ 140737488355328) (hlen : (Lib.join (zs.map (·.data.toList)) sep.data.toList).length ≤ 140737488355328) :
    Calls Tryz.prog 114 #[.slice A n c, .string sep] w fun e w' => e = .returned (.string ⟨(Lib.join (zs.map (·.data.toList)) sep.data.toList).toArray⟩) ∧ Below w.heap.size w w' := by
  have hl : zs.length = n := by have := h.1; simpa [strCells] using this
  rcases Nat.eq_zero_or_pos n with rfl | hp
  · obtain rfl := List.eq_nil_of_length_eq_zero hl
    exact (Tryz.strings_Join_none A c sep w).mono fun _ _ ⟨h1, h2⟩ => ⟨h1, by rw [h2]; exact Below.refl _ _⟩
  · obtain ⟨g, o, rfl, hg, hc⟩ := h.2.2.2.2 hp
    subst hl
    exact Tryz.strings_Join g o c zs sep w (fun j x hx => hc j _ (strCells_get hx)) hg hn h.2.1 hlen
end Go.Proofs.YtpbbkpfaphjdoaaGreatDoor
