/- sluicesame.Cols, walked, over two lists of columns that are the same. -/
import Derived.Test.YtpbbkpfaphjdoabGreatDoorSchema
namespace Go.Proofs.YtpbbkpfaphjdoabGreatDoor
open Go.ChangeShapes Go.WideShapes Go.ChangeAt Go.RowKit

set_option maxHeartbeats 1000000 in
theorem sameCols_any (A E : Option Addr) (n c d : Nat) (l : List Col) (w : World) (hl : SeesCols w A n c l) (hm : SeesCols w E n d l) :
    Calls Tryz.prog 19 #[.slice A n c, .slice E n d] w fun e w' => e = .returned (.bool true) ∧ Below w.heap.size w w' := by
  have HL := Lib.hid hl
  have HM := Lib.hid hm
  have hcap := hl.2.2.1
  have hmax := hl.2.2.2.1
  have hcap2 := hm.2.2.1
  have hmax2 := hm.2.2.2.1
  unfold maxLen at hmax hmax2
  have e0 : ((n : Int) != n) = false := by simp
  clear hl hm
  go_enter Tryz.func19, Tryz.ntmps19
  go_wp2_with fail
  go_loopw [5] (fun i wr => ∃ k : Nat, k ≤ n ∧ i = .int .i64 k ∧ Below w.heap.size w wr) (fun i _ => n - (intOf i).toNat)
  case atStart => exact ⟨0, by omega, rfl, Below.refl _ _⟩
  case round =>
    obtain ⟨k, hk, rfl, hb⟩ := hrel
    have HB := Lib.hid hb
    by_cases hlk : k < n
    · obtain ⟨g, o, x, rfl, -, hx, a0, a1⟩ := (HL.out.keep hb).at_ hlk
      obtain ⟨g2, o2, y, rfl, -, hy, b0, b1⟩ := (HM.out.keep hb).at_ hlk
      obtain rfl : x = y := by rw [hx] at hy; exact Option.some.inj hy
      clear hb hx hy
      go_wp2_with fail
      go_quiet (fail)
      go_wp2_with fail
      go_roundw
      case rel => exact ⟨k + 1, by omega, by go_num, below_drewN HB.out nq⟩
      case measure => simp [intOf]; omega
    · clear hb
      go_wp2_with fail
      go_ret
      exact ⟨rfl, HB.out⟩
end Go.Proofs.YtpbbkpfaphjdoabGreatDoor
