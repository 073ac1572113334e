/- sluiceref3.ahead, walked: is one Out ahead of another one? -/
import Derived.Test.YtkgdfccpkiglaaaDoorSJoinLaw
namespace Go.Proofs.YtkgdfccpkiglaaaDoor
open Go.ChangeShapes Go.WideShapes Go.ChangeAt Go.RowKit
namespace SortLaw
set_option maxHeartbeats 4000000 in
set_option maxRecDepth 100000 in
theorem ahead_any (a b : OutH) (g : Nat) (w : World) (ha : SeesOut w a) (hb : SeesOut w b) {ts : Nat → Int} (hfa : Fit g ts a.o) (hfb : Fit g ts b.o) :
  Calls Tryd.prog 18 #[oV a.e, oV b.e, .int .i64 g] w fun e w' => e = .returned (.bool (ltO g a.o b.o)) ∧ Below w.heap.size w w' := by
 have h1 := hfa.1
 have h2 := hfb.1
 have HFA := Lib.hid hfa
 have HFB := Lib.hid hfb
 clear hfa hfb
 obtain ⟨p, c, ra, erra, ba⟩ := a
 obtain ⟨q, d, rb, errb, bb⟩ := b
 replace ha : SeesVals w p ra.length c ra := ha
 replace hb : SeesVals w q rb.length d rb := hb
 replace h1 : g ≤ ra.length := h1
 replace h2 : g ≤ rb.length := h2
 unfold oV OutH.e ltO ordO
 simp only
 obtain ⟨w0, hw0⟩ : ∃ w0, w.alloc (.cells #[.slice p ra.length c, .int .i64 erra, .int .i64 ba] 52) = w0 := ⟨_, rfl⟩
 obtain ⟨w1, hw1⟩ : ∃ w1, w0.alloc (.cells #[.slice q rb.length d, .int .i64 errb, .int .i64 bb] 52) = w1 := ⟨_, rfl⟩
 have hb0 : Below w.heap.size w w0 := by rw [← hw0]; exact (Below.refl _ _).alloc (Nat.le_refl _) _
 have hb1 : Below w0.heap.size w0 w1 := by rw [← hw1]; exact (Below.refl _ _).alloc (Nat.le_refl _) _
 have hsz : w0.heap.size = w.heap.size + 1 := by rw [← hw0]; simp
 have hsz1 : w1.heap.size = w0.heap.size + 1 := by rw [← hw1]; simp
 have x0 : w0.cell? ⟨w.heap.size, 0, none⟩ = some (.slice p ra.length c) := by rw [← hw0]; simp
 have x2 : w0.cell? ⟨w.heap.size, 2, none⟩ = some (.int .i64 ba) := by rw [← hw0]; simp
 have y0 : w1.cell? ⟨w0.heap.size, 0, none⟩ = some (.slice q rb.length d) := by rw [← hw1]; simp
 have y2 : w1.cell? ⟨w0.heap.size, 2, none⟩ = some (.int .i64 bb) := by rw [← hw1]; simp
 have x0 := (hb1.cell (p := ⟨w.heap.size, 0, none⟩) (by show w.heap.size < _; omega)).trans x0
 have x2 := (hb1.cell (p := ⟨w.heap.size, 2, none⟩) (by show w.heap.size < _; omega)).trans x2
 have hbb := below_step hb0 hb1
 have HA := Lib.hid (ha.keep hbb)
 have HB := Lib.hid (hb.keep hbb)
 have HBB := Lib.hid hbb
 have HW0 := Lib.hid hw0
 have HW1 := Lib.hid hw1
 have hac := ha.2.2.1
 have hamx := ha.2.2.2.1
 have hbc := hb.2.2.1
 have hbmx := hb.2.2.2.1
 unfold maxLen at hamx hbmx
 have HX0 := Lib.hid x0
 have HY0 := Lib.hid y0
 have hxl : w.heap.size < w1.heap.size := by omega
 have hyl : w0.heap.size < w1.heap.size := by omega
 generalize hra : ra.length = na at *
 generalize hrb : rb.length = nb at *
 have HRA := Lib.hid hra
 have HRB := Lib.hid hrb
 clear ha hb hb0 hb1 hbb hw0 hw1 hsz hsz1 hra hrb
 have HC0 := Lib.hid (show ba ≠ bb → decide (Lib.compareInt ba bb < 0) = decide (ba < bb) ∧ Lib.compareInt ba bb ≠ 0 by
  intro h
  unfold Lib.compareInt
  by_cases q : ba < bb
  ·rw [if_pos q, decide_eq_true q]; decide
  ·rw [if_neg q, if_pos (by omega), decide_eq_false q]; decide)
 by_cases hbe : ba = bb
 case neg =>
  have d0 : (ba != bb) = true := by simpa using hbe
  have HF := Lib.hid (show decide (ordK (Lib.compareInt ba bb) ra rb g < 0) = decide (ba < bb) by
   rw [ordK_stay (c0 := Lib.compareInt ba bb) (ra := ra) (rb := rb) (k := 0) (show ordK (Lib.compareInt ba bb) ra rb 0 ≠ 0 from (HC0.out hbe).2) g (Nat.zero_le _)]
   exact (HC0.out hbe).1)
  clear hbe
  go_enter Tryd.func18, Tryd.ntmps18
  go_wp2_with (first
   | rw [HW0.out]
   | rw [HW1.out])
  go_ret
  exact ⟨by rw [HF.out]; rfl, HBB.out⟩
 subst hbe
 have HCZ := Lib.hid (show Lib.compareInt ba ba = 0 by unfold Lib.compareInt; simp)
 rw [HCZ.out]
 have d0 : (ba != ba) = false := by simp
 go_enter Tryd.func18, Tryd.ntmps18
 go_wp2_with (first
  | rw [HW0.out]
  | rw [HW1.out])
 go_loopw [7, 8] (fun i _ wr => ∃ k : Nat, k ≤ g ∧ i = .int .i64 k ∧ ordK 0 ra rb k = 0 ∧ Below w1.heap.size w1 wr) (fun i _ _ => g - (intOf i).toNat)
 case atStart => exact ⟨0, Nat.zero_le _, rfl, rfl, Below.refl _ _⟩
 case round =>
  obtain ⟨k, hk, rfl, hr, hb⟩ := hrel
  have HBR := Lib.hid hb
  have HR := Lib.hid hr
  clear hr
  by_cases hkg : k < g
  ·have d1 : decide (k < g) = true := decide_eq_true hkg
   have d1' : decide ((k : Int) < (g : Int)) = true := decide_eq_true (by omega)
   have x0 := (hb.cell (p := ⟨w.heap.size, 0, none⟩) hxl).trans HX0.out
   have y0 := (hb.cell (p := ⟨w0.heap.size, 0, none⟩) hyl).trans HY0.out
   obtain ⟨gx, ox, x, rfl, hgx, hx, a0, a1, a2⟩ := (HA.out.keep hb).at_ (k := k) (by omega)
   obtain ⟨gy, oy, y, rfl, hgy, hy, b0, b1, b2⟩ := (HB.out.keep hb).at_ (k := k) (by omega)
   have HN := Lib.hid (show ordK 0 ra rb (k + 1) = vorder x y by
    rw [ordK, HR.out, if_pos rfl, List.getD_eq_getElem?_getD, List.getD_eq_getElem?_getD, hx, hy]; rfl)
   have hcx : vcheck x = 0 ∧ x.type = ts k := by have := HFA.out.2 k hkg; simp only at this; rwa [List.getD_eq_getElem?_getD, hx] at this
   have hcy : vcheck y = 0 ∧ y.type = ts k := by have := HFB.out.2 k hkg; simp only at this; rwa [List.getD_eq_getElem?_getD, hy] at this
   have TO := Lib.hid (fun w' => rorder_any x y w' hcx.1 hcy.1 (hcx.2.trans hcy.2.symm))
   have hlx : w.heap.size < wr.heap.size := Nat.lt_of_lt_of_le hxl hb.size
   have hly : w0.heap.size < wr.heap.size := Nat.lt_of_lt_of_le hyl hb.size
   have KP := Lib.hid (fun wq (hq : Below wr.heap.size wr wq) => show wq.cell? ⟨w.heap.size, 0, none⟩ = some (.slice (some ⟨gx, ox, none⟩) na c) ∧ wq.cell? ⟨w0.heap.size, 0, none⟩ = some (.slice (some ⟨gy, oy, none⟩) nb d) ∧
     wq.cell? ⟨gx, ox + k * 3, none⟩ = some (.int .i64 x.type) ∧ wq.cell? ⟨gx, ox + k * 3 + 1, none⟩ = some (.int .i64 x.n) ∧ wq.cell? ⟨gx, ox + k * 3 + 2, none⟩ = some (.string x.s) ∧
     wq.cell? ⟨gy, oy + k * 3, none⟩ = some (.int .i64 y.type) ∧ wq.cell? ⟨gy, oy + k * 3 + 1, none⟩ = some (.int .i64 y.n) ∧ wq.cell? ⟨gy, oy + k * 3 + 2, none⟩ = some (.string y.s) from
    ⟨(hq.cell (p := ⟨w.heap.size, 0, none⟩) hlx).trans x0, (hq.cell (p := ⟨w0.heap.size, 0, none⟩) hly).trans y0, (hq.cell (p := ⟨gx, ox + k * 3, none⟩) hgx).trans a0, (hq.cell (p := ⟨gx, ox + k * 3 + 1, none⟩) hgx).trans a1, (hq.cell (p := ⟨gx, ox + k * 3 + 2, none⟩) hgx).trans a2,
     (hq.cell (p := ⟨gy, oy + k * 3, none⟩) hgy).trans b0, (hq.cell (p := ⟨gy, oy + k * 3 + 1, none⟩) hgy).trans b1, (hq.cell (p := ⟨gy, oy + k * 3 + 2, none⟩) hgy).trans b2⟩)
   have z1 : (0 : Int) ≤ (k : Int) := by omega
   have z2 : (k : Int) < (na : Int) := by omega
   have z3 : (k : Int) < (nb : Int) := by omega
   have hbr0 : Below wr.heap.size wr wr.drew := (Below.refl _ _).drew
   have HBD := Lib.hid hbr0
   obtain ⟨v, hv⟩ : ∃ v, vorder x y = v := ⟨_, rfl⟩
   rw [hv] at TO HN
   have HFIN := Lib.hid (fun (h : v ≠ 0) => show ordK 0 ra rb g = v by
    rw [ordK_stay (k := k + 1) (by rw [HN.out]; exact h) g hkg, HN.out])
   clear hb hx hy hbr0 hcx hcy hv
   go_wp2_with fail
   go_region_held3 (fun wq => wq.cell? ⟨w.heap.size, 0, none⟩ = some (.slice (some ⟨gx, ox, none⟩) na c) ∧ wq.cell? ⟨w0.heap.size, 0, none⟩ = some (.slice (some ⟨gy, oy, none⟩) nb d) ∧
     wq.cell? ⟨gx, ox + k * 3, none⟩ = some (.int .i64 x.type) ∧ wq.cell? ⟨gx, ox + k * 3 + 1, none⟩ = some (.int .i64 x.n) ∧ wq.cell? ⟨gx, ox + k * 3 + 2, none⟩ = some (.string x.s) ∧
     wq.cell? ⟨gy, oy + k * 3, none⟩ = some (.int .i64 y.type) ∧ wq.cell? ⟨gy, oy + k * 3 + 1, none⟩ = some (.int .i64 y.n) ∧ wq.cell? ⟨gy, oy + k * 3 + 2, none⟩ = some (.string y.s)) (first | exact KP.out _ (Below.refl _ _) | exact KP.out _ HBD.out | exact KP.out _ HB3.out) (first
    | (go_at_call 29; refine (TO.out _).mono ?_; rintro e w3 ⟨rfl, hb3⟩; have HB3 := Lib.hid (below_step HBD.out hb3); clear hb3))
   clear x0 y0 a0 a1 a2 b0 b1 b2
   obtain ⟨bz, hbz⟩ : ∃ bz, (v != 0) = bz := ⟨_, rfl⟩
   cases bz with
   | true =>
    have HF := Lib.hid (HFIN.out (by simpa using hbz))
    go_wp2_with fail
    go_ret
    exact ⟨by rw [HF.out]; rfl, below_step HBB.out (below_step HBR.out HB3.out)⟩
   | false =>
    have HV0 := Lib.hid (show v = 0 by simpa using hbz)
    go_wp2_with fail
    go_roundw
    case rel => exact ⟨k + 1, by omega, by go_num, by rw [HN.out, HV0.out], below_step HBR.out HB3.out⟩
    case measure => simp [intOf]; omega
  ·obtain rfl : k = g := by omega
   have d1 : decide (k < k) = false := decide_eq_false hkg
   have d1' : decide ((k : Int) < (k : Int)) = false := decide_eq_false (by omega)
   clear hb
   go_wp2_with fail
   go_ret
   exact ⟨by rw [HR.out]; rfl, below_step HBB.out HBR.out⟩
end SortLaw
end Go.Proofs.YtkgdfccpkiglaaaDoor
