/- row.Check, walked: what is wrong with a row. -/
import Derived.Test.YtpbbkpfaphjdoabGreatDoorSchema
import Derived.Test.YtpbbkpfaphjdoabGreatDoorVals
namespace Go.Proofs.YtpbbkpfaphjdoabGreatDoor
open Go.ChangeShapes Go.WideShapes Go.ChangeAt Go.RowKit

def rowAt (cols : List Col) (r : List Val) (k : Nat) : Int := match r[k]?, cols[k]? with
  | some v, some c => if vcheck v ≠ 0 then vcheck v else if v.type ≠ c.type then 8 else 0
  | _, _ => 0
/-- What is wrong with a row; 0: nothing. -/
def rowErr (cols : List Col) (r : List Val) : Int := if schemaErr cols ≠ 0 then schemaErr cols else if r.length ≠ cols.length then 3 else firstErr (rowAt cols r) r.length
theorem rowAt_get {cols : List Col} {r : List Val} {k : Nat} {v : Val} {c : Col} (h1 : r[k]? = some v) (h2 : cols[k]? = some c) : rowAt cols r k = if vcheck v ≠ 0 then vcheck v else if v.type ≠ c.type then 8 else 0 := by
  unfold rowAt; rw [h1, h2]
theorem firstErr_all {f : Nat → Int} : ∀ {n : Nat}, firstErr f n = 0 → ∀ k, k < n → f k = 0
  | 0, _, k, h => by omega
  | n + 1, h, k, hk => by
    by_cases h0 : firstErr f n = 0
    · by_cases hn : f n = 0
      · by_cases e : k = n
        · rw [e]; exact hn
        · exact firstErr_all h0 k (by omega)
      · exact absurd ((firstErr_hit h0 hn (n + 1) (by omega)).symm.trans h) hn
    · have : ∀ m, firstErr f (m + 1) = if firstErr f m = 0 then f m else firstErr f m := fun m => by rw [firstErr]
      rw [this, if_neg h0] at h; exact absurd h h0

set_option maxHeartbeats 1000000 in
set_option maxRecDepth 100000 in
theorem rowCheck_any (cols : List Col) (r : List Val) (C R : Option Addr) (p q m s : Nat) (w : World) (hC : SeesCols w C p q cols) (hs : ∀ x ∈ cols, x.name.size ≤ maxLen) (hR : SeesVals w R m s r) :
    Calls Tryz.prog 8 #[.slice C p q, .slice R m s] w fun e w' => e = .returned (errV (rowErr cols r)) ∧ Below w.heap.size w w' := by
  have HC := Lib.hid hC
  have HR := Lib.hid hR
  have hq : p ≤ q := hC.2.2.1
  have hqm : q ≤ maxLen := hC.2.2.2.1
  have hm : m ≤ s := hR.2.2.1
  have hsm : s ≤ maxLen := hR.2.2.2.1
  have HP := Lib.hid hC.1
  have HM := Lib.hid hR.1
  unfold maxLen at hqm hsm
  have T := Lib.hid (rschema_any cols C p q w hC hs)
  have E := Lib.hid (show rowErr cols r = if schemaErr cols ≠ 0 then schemaErr cols else if r.length ≠ cols.length then 3 else firstErr (rowAt cols r) r.length from rfl)
  rw [HM.out, HP.out] at E
  generalize schemaErr cols = se at T E
  clear hC hs hR
  go_enter Tryz.func8, Tryz.ntmps8
  go_wp2_with fail
  refine (T.out).mono ?_
  rintro e' w1 ⟨rfl, hb1⟩
  have HB1 := Lib.hid hb1
  have HC1 := Lib.hid (HC.out.keep hb1)
  have HR1 := Lib.hid (HR.out.keep hb1)
  clear hb1
  by_cases hse : se = 0
  · subst hse
    rw [errV_zero]
    by_cases hl : m = p
    · subst hl
      have E2 := Lib.hid (show rowErr cols r = firstErr (rowAt cols r) m by rw [E.out, if_neg (by decide), if_neg (by simp)])
      have d0 : ((m : Int) != m) = false := by simp
      go_wp2_with fail
      go_loopw [8, 22] (fun _ i wr => ∃ k : Nat, k ≤ m ∧ i = .int .i64 k ∧ Below w1.heap.size w1 wr ∧ firstErr (rowAt cols r) k = 0) (fun _ i _ => m - (intOf i).toNat)
      case atStart => exact ⟨0, by omega, rfl, Below.refl _ _, rfl⟩
      case round =>
        obtain ⟨k, hk, rfl, hb, hno⟩ := hrel
        have HN := Lib.hid hno
        have HBR := Lib.hid hb
        clear hno
        by_cases hlk : k < m
        · obtain ⟨g, o, x, rfl, hg, hx, c0, c1, c2⟩ := (HR1.out.keep hb).at_ hlk
          obtain ⟨g2, o2, y, rfl, hg2, hy, y0, y1⟩ := (HC1.out.keep hb).at_ hlk
          have HY := Lib.hid y1
          have HA := Lib.hid (rowAt_get hx hy)
          have hbx : Below wr.heap.size wr (wr.alloc (.cells #[.int .i64 x.type, .int .i64 x.n, .string x.s] 52)) := (Below.refl _ _).alloc (Nat.le_refl _) _
          have TV := Lib.hid (vcheck_any x (wr.alloc (.cells #[.int .i64 x.type, .int .i64 x.n, .string x.s] 52)))
          unfold valV at TV
          have HBX := Lib.hid hbx
          clear hb hx hy hbx y0 y1
          by_cases hv : vcheck x = 0
          · have HV := Lib.hid hv
            rw [hv, errV_zero] at TV
            clear hv
            by_cases ht : x.type = y.type
            · have HF := Lib.hid (firstErr_next HN.out (show rowAt cols r k = 0 by rw [HA.out, if_neg (by rw [HV.out]; decide), if_neg (by simp [ht])]))
              have e1 : (x.type != y.type) = false := by simpa using ht
              clear ht
              go_wp2_with fail
              refine (TV.out).mono ?_
              rintro e' w2 ⟨rfl, hb2⟩
              have j0 := (hb2.cell (p := ⟨wr.heap.size, 0, none⟩) (by simp)).trans (show _ = some (.int .i64 x.type) by simp)
              have j1 : w2.cell? ⟨g2, o2 + k * 2 + 1, none⟩ = some (.int .i64 y.type) := ((below_step HBX.out hb2).cell (p := ⟨g2, o2 + k * 2 + 1, none⟩) hg2).trans HY.out
              have HB2 := Lib.hid (below_step HBR.out (below_step HBX.out hb2))
              clear hb2
              go_wp2_with fail
              go_quiet (fail)
              have HB3 := Lib.hid (below_drewN HB2.out nq)
              generalize w2.drewN nq = w3 at HB3 ⊢
              go_wp2_with fail
              go_roundw
              case rel => exact ⟨k + 1, by omega, by go_num, HB3.out, HF.out⟩
              case measure => simp [intOf]; omega
            · have HF := Lib.hid (firstErr_hit HN.out (show rowAt cols r k ≠ 0 by rw [HA.out, if_neg (by rw [HV.out]; decide), if_pos ht]; decide) m hlk)
              have HA2 := Lib.hid (show rowAt cols r k = 8 by rw [HA.out, if_neg (by rw [HV.out]; decide), if_pos ht])
              have e1 : (x.type != y.type) = true := by simpa using ht
              clear ht
              go_wp2_with fail
              refine (TV.out).mono ?_
              rintro e' w2 ⟨rfl, hb2⟩
              have j0 := (hb2.cell (p := ⟨wr.heap.size, 0, none⟩) (by simp)).trans (show _ = some (.int .i64 x.type) by simp)
              have j1 : w2.cell? ⟨g2, o2 + k * 2 + 1, none⟩ = some (.int .i64 y.type) := ((below_step HBX.out hb2).cell (p := ⟨g2, o2 + k * 2 + 1, none⟩) hg2).trans HY.out
              have HB2 := Lib.hid (below_step HBR.out (below_step HBX.out hb2))
              clear hb2
              go_wp2_with fail
              go_quiet (fail)
              have HB3 := Lib.hid (below_drewN HB2.out nq)
              generalize w2.drewN nq = w3 at HB3 ⊢
              go_wp2_with fail
              go_ret
              exact ⟨by rw [E2.out, HF.out, HA2.out]; rfl, below_step HB1.out HB3.out⟩
          · have HF := Lib.hid (firstErr_hit HN.out (show rowAt cols r k ≠ 0 by rw [HA.out, if_pos hv]; exact hv) m hlk)
            have HA2 := Lib.hid (show rowAt cols r k = vcheck x by rw [HA.out, if_pos hv])
            have e2 := errV_ne hv
            rw [e2] at TV
            have EV := Lib.hid e2
            clear hv e2
            go_wp2_with fail
            refine (TV.out).mono ?_
            rintro e' w2 ⟨rfl, hb2⟩
            have HB2 := Lib.hid (below_step HBR.out (below_step HBX.out hb2))
            clear hb2
            go_wp2_with fail
            go_ret
            exact ⟨by rw [E2.out, HF.out, HA2.out, EV.out]; rfl, below_step HB1.out HB2.out⟩
        · obtain rfl : m = k := by omega
          clear hb
          go_wp2_with fail
          go_ret
          exact ⟨by rw [E2.out, HN.out]; rfl, below_step HB1.out HBR.out⟩
    · have d0 : ((m : Int) != p) = true := by simp; omega
      have E2 := Lib.hid (show rowErr cols r = 3 by rw [E.out, if_neg (by decide), if_pos hl])
      go_wp2_with fail
      go_ret
      exact ⟨by rw [E2.out]; rfl, HB1.out⟩
  · have E2 := Lib.hid (show rowErr cols r = se by rw [E.out, if_pos hse])
    have e2 := errV_ne hse
    rw [e2]
    have EV := Lib.hid e2
    clear hse e2
    go_wp2_with fail
    go_ret
    exact ⟨by rw [E2.out, EV.out]; rfl, HB1.out⟩
end Go.Proofs.YtpbbkpfaphjdoabGreatDoor
