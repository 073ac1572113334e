/- sluiceref1.Row, walked: what is wrong with a row, by the document's way. -/
import Derived.Test.YtpbbkpfaphjdoabGreatDoorRowCheck
import Derived.Test.YtpbbkpfaphjdoabGreatDoorRefVal
import Derived.Test.YtpbbkpfaphjdoabGreatDoorRefBase
import Derived.Test.YtpbbkpfaphjdoabGreatDoorAnyInt
import Derived.Deep.QuietTactic
import Derived.BigQuiet
namespace Go.Proofs.YtpbbkpfaphjdoabGreatDoor
open Go.ChangeShapes Go.WideShapes Go.ChangeAt Go.RowKit

set_option maxHeartbeats 2000000 in
set_option maxRecDepth 100000 in
theorem rrow_any (cols : List Col) (r : List Val) (C R : Option Addr) (p q m s : Nat) (w : World) (hC : SeesCols w C p q cols) (hs : ∀ x ∈ cols, x.name.size ≤ maxLen) (hR : SeesVals w R m s r) (hw : ∀ v ∈ r, v.s.size ≤ maxLen) :
    Calls Tryz.prog 9 #[.slice C p q, .slice R m s] w (ValSays (rowErr cols r) w) := by
  have HC := Lib.hid hC
  have HR := Lib.hid hR
  have HWF := Lib.hid hw
  have hq : p ≤ q := hC.2.2.1
  have hqm : q ≤ maxLen := hC.2.2.2.1
  have hm : m ≤ s := hR.2.2.1
  have hsm : s ≤ maxLen := hR.2.2.2.1
  have HP := Lib.hid hC.1
  have HM := Lib.hid hR.1
  unfold maxLen at hqm hsm
  have T := Lib.hid (rschemaR_any cols C p q w hC hs)
  have E := Lib.hid (show rowErr cols r = if schemaErr cols ≠ 0 then schemaErr cols else if r.length ≠ cols.length then 3 else firstErr (rowAt cols r) r.length from rfl)
  rw [HM.out, HP.out] at E
  generalize schemaErr cols = se at T E
  clear hC hs hR hw
  by_cases hse : se = 0
  · subst hse
    by_cases hl : m = p
    · subst hl
      have E2 := Lib.hid (show rowErr cols r = firstErr (rowAt cols r) m by rw [E.out, if_neg (by decide), if_neg (by simp)])
      have d0 : ((m : Int) != m) = false := by simp
      go_enter Tryz.func9, Tryz.ntmps9
      go_wp2_with fail
      refine (T.out).mono ?_
      rintro e' w1 ⟨rfl, rfl⟩
      go_wp2_with fail
      go_loopw [6] (fun i wr => ∃ k : Nat, k ≤ m ∧ i = .int .i64 k ∧ Below w.heap.size w wr ∧ firstErr (rowAt cols r) k = 0) (fun i _ => m - (intOf i).toNat)
      case atStart => exact ⟨0, by omega, rfl, Below.refl _ _, rfl⟩
      case round =>
        obtain ⟨k, hk, rfl, hb, hno⟩ := hrel
        have HN := Lib.hid hno
        have HBR := Lib.hid hb
        clear hno
        by_cases hlk : k < m
        · obtain ⟨g, o, x, rfl, hg, hx, c0, c1, c2⟩ := (HR.out.keep hb).at_ hlk
          obtain ⟨g2, o2, y, rfl, hg2, hy, y0, y1⟩ := (HC.out.keep hb).at_ hlk
          have HY := Lib.hid y1
          have HX0 := Lib.hid c0
          have HA := Lib.hid (rowAt_get hx hy)
          have TV := Lib.hid (rval_any x wr (HWF.out x (List.mem_of_getElem? hx)))
          clear hb hx hy y0 y1
          obtain ⟨vc, hvc⟩ : ∃ vc, vc = vcheck x := ⟨_, rfl⟩
          rw [← hvc] at TV HA
          clear hvc
          by_cases hv : vc = 0
          · subst hv
            by_cases ht : x.type = y.type
            · have HF := Lib.hid (firstErr_next HN.out (show rowAt cols r k = 0 by rw [HA.out, if_neg (by decide), if_neg (by simp [ht])]))
              have e1 : (x.type != y.type) = false := by simpa using ht
              clear ht
              go_wp2_with fail
              refine (TV.out).mono ?_
              rintro e' w2 ⟨rfl, hb2⟩
              have j0 : w2.cell? ⟨g, o + k * 3, none⟩ = some (.int .i64 x.type) := (hb2.cell (p := ⟨g, o + k * 3, none⟩) hg).trans HX0.out
              have j1 : w2.cell? ⟨g2, o2 + k * 2 + 1, none⟩ = some (.int .i64 y.type) := (hb2.cell (p := ⟨g2, o2 + k * 2 + 1, none⟩) hg2).trans HY.out
              have HB2 := Lib.hid (below_step HBR.out hb2)
              clear hb2 c0 c1 c2
              go_wp2_with fail
              go_quiet (fail)
              have HB3 := Lib.hid (below_drewN HB2.out nq)
              generalize w2.drewN nq = w3 at HB3 ⊢
              go_wp2_with fail
              go_roundw
              case rel => exact ⟨k + 1, by omega, by go_num, HB3.out, HF.out⟩
              case measure => simp [intOf]; omega
            · have HA2 := Lib.hid (show rowAt cols r k = 8 by rw [HA.out, if_neg (by decide), if_pos ht])
              have HF := Lib.hid (firstErr_hit HN.out (show rowAt cols r k ≠ 0 by rw [HA2.out]; decide) m hlk)
              have e1 : (x.type != y.type) = true := by simpa using ht
              clear ht
              go_wp2_with fail
              refine (TV.out).mono ?_
              rintro e' w2 ⟨rfl, hb2⟩
              have j0 : w2.cell? ⟨g, o + k * 3, none⟩ = some (.int .i64 x.type) := (hb2.cell (p := ⟨g, o + k * 3, none⟩) hg).trans HX0.out
              have j1 : w2.cell? ⟨g2, o2 + k * 2 + 1, none⟩ = some (.int .i64 y.type) := (hb2.cell (p := ⟨g2, o2 + k * 2 + 1, none⟩) hg2).trans HY.out
              have HB2 := Lib.hid (below_step HBR.out hb2)
              clear hb2 c0 c1 c2
              go_wp2_with fail
              go_quiet (fail)
              have HB3 := Lib.hid (below_drewN HB2.out nq)
              generalize w2.drewN nq = w3 at HB3 ⊢
              go_wp2_with fail
              go_ret
              exact ⟨by rw [E2.out, HF.out, HA2.out]; rfl, HB3.out⟩
          · have HA2 := Lib.hid (show rowAt cols r k = vc by rw [HA.out, if_pos hv])
            have HF := Lib.hid (firstErr_hit HN.out (show rowAt cols r k ≠ 0 by rw [HA2.out]; exact hv) m hlk)
            have e1 : (vc != 0) = true := by simpa using hv
            clear hv
            go_wp2_with fail
            refine (TV.out).mono ?_
            rintro e' w2 ⟨rfl, hb2⟩
            have HB2 := Lib.hid (below_step HBR.out hb2)
            clear hb2
            go_wp2_with fail
            go_ret
            exact ⟨by rw [E2.out, HF.out, HA2.out]; rfl, HB2.out⟩
        · obtain rfl : k = m := by omega
          go_wp2_with fail
          go_ret
          exact ⟨by rw [E2.out, HN.out]; rfl, HBR.out⟩
    · have E2 := Lib.hid (show rowErr cols r = 3 by rw [E.out, if_neg (by decide), if_pos hl])
      have d0 : ((m : Int) != p) = true := by simp; omega
      clear hl
      go_enter Tryz.func9, Tryz.ntmps9
      go_wp2_with fail
      refine (T.out).mono ?_
      rintro e' w1 ⟨rfl, rfl⟩
      go_wp2_with fail
      go_ret
      exact ⟨by rw [E2.out]; rfl, Below.refl _ _⟩
  · have E2 := Lib.hid (show rowErr cols r = se by rw [E.out, if_pos hse])
    have e1 : (se != 0) = true := by simpa using hse
    clear hse
    go_enter Tryz.func9, Tryz.ntmps9
    go_wp2_with fail
    refine (T.out).mono ?_
    rintro e' w1 ⟨rfl, rfl⟩
    go_wp2_with fail
    go_ret
    exact ⟨by rw [E2.out]; rfl, Below.refl _ _⟩
end Go.Proofs.YtpbbkpfaphjdoabGreatDoor
