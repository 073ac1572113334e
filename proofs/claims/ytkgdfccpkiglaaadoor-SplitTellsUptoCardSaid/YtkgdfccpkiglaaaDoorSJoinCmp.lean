/- Outs as they lie, with what their rows hold; which of two comes first: the closure of split.Join, walked. -/
import Derived.Test.YtkgdfccpkiglaaaDoorSSortStable
import Derived.Test.YtkgdfccpkiglaaaDoorSOrdLaw
namespace Go.Proofs.YtkgdfccpkiglaaaDoor
open Go.ChangeShapes Go.WideShapes Go.ChangeAt Go.RowKit
namespace SortLaw
structure OutP where
 row : List Val
 err : Int
 beg : Int
structure OutH where
 p : Option Addr
 c : Nat
 o : OutP
def OutH.e (h : OutH) : OutE := ⟨h.p, h.o.row.length, h.c, h.o.err, h.o.beg⟩
def SeesOut (w : World) (h : OutH) : Prop := SeesVals w h.p h.o.row.length h.c h.o.row
theorem SeesOut.keep {w w' : World} {h : OutH} (hs : SeesOut w h) (hb : Below w.heap.size w w') : SeesOut w' h := SeesVals.keep hs hb
def ordK (c0 : Int) (ra rb : List Val) : Nat → Int
 | 0 => c0
 | k + 1 => if ordK c0 ra rb k = 0 then vorder (ra.getD k noVal) (rb.getD k noVal) else ordK c0 ra rb k
theorem ordK_stay {c0 : Int} {ra rb : List Val} {k : Nat} (h : ordK c0 ra rb k ≠ 0) : ∀ g, k ≤ g → ordK c0 ra rb g = ordK c0 ra rb k := by
 intro g hg
 induction g with
 | zero =>
  have : k = 0 := by omega
  subst this; rfl
 | succ g ih =>
  by_cases e : k = g + 1
  ·subst e; rfl
  ·have := ih (by omega)
   rw [ordK, this, if_neg h]
def ordO (g : Nat) (a b : OutP) : Int := ordK (Lib.compareInt a.beg b.beg) a.row b.row g
set_option maxHeartbeats 4000000 in
set_option maxRecDepth 100000 in
theorem cmpOut_any (a b : OutH) (g gb : Nat) (w : World) (hg : w.cell? ⟨gb, 0, none⟩ = some (.int .i64 g)) (hgl : gb < w.heap.size) (ha : SeesOut w a) (hb : SeesOut w b) (h1 : g ≤ a.o.row.length) (h2 : g ≤ b.o.row.length) :
  Calls Tryd.prog 22 #[oV a.e, oV b.e, .pointer (some ⟨gb, 0, none⟩)] w fun e w' => e = .returned (.int .i64 (ordO g a.o b.o)) ∧ Below w.heap.size w w' := by
 obtain ⟨p, c, ra, erra, ba⟩ := a
 obtain ⟨q, d, rb, errb, bb⟩ := b
 replace ha : SeesVals w p ra.length c ra := ha
 replace hb : SeesVals w q rb.length d rb := hb
 replace h1 : g ≤ ra.length := h1
 replace h2 : g ≤ rb.length := h2
 unfold oV OutH.e ordO
 simp only
 obtain ⟨w0, hw0⟩ : ∃ w0, w.alloc (.cells #[.slice p ra.length c, .int .i64 erra, .int .i64 ba] 52) = w0 := ⟨_, rfl⟩
 obtain ⟨w1, hw1⟩ : ∃ w1, w0.alloc (.cells #[.slice q rb.length d, .int .i64 errb, .int .i64 bb] 52) = w1 := ⟨_, rfl⟩
 have hb0 : Below w.heap.size w w0 := by rw [← hw0]; exact (Below.refl _ _).alloc (Nat.le_refl _) _
 have hb1 : Below w0.heap.size w0 w1 := by rw [← hw1]; exact (Below.refl _ _).alloc (Nat.le_refl _) _
 have hsz : w0.heap.size = w.heap.size + 1 := by rw [← hw0]; simp
 have hsz1 : w1.heap.size = w0.heap.size + 1 := by rw [← hw1]; simp
 have x0 : w0.cell? ⟨w.heap.size, 0, none⟩ = some (.slice p ra.length c) := by rw [← hw0]; simp
 have x2 : w0.cell? ⟨w.heap.size, 2, none⟩ = some (.int .i64 ba) := by rw [← hw0]; simp
 have y0 : w1.cell? ⟨w0.heap.size, 0, none⟩ = some (.slice q rb.length d) := by rw [← hw1]; simp
 have y2 : w1.cell? ⟨w0.heap.size, 2, none⟩ = some (.int .i64 bb) := by rw [← hw1]; simp
 have x0 := (hb1.cell (p := ⟨w.heap.size, 0, none⟩) (by show w.heap.size < _; omega)).trans x0
 have x2 := (hb1.cell (p := ⟨w.heap.size, 2, none⟩) (by show w.heap.size < _; omega)).trans x2
 have hbb := below_step hb0 hb1
 have g0 := (hbb.cell (p := ⟨gb, 0, none⟩) hgl).trans hg
 have HA := Lib.hid (ha.keep hbb)
 have HB := Lib.hid (hb.keep hbb)
 have HBB := Lib.hid hbb
 have HW0 := Lib.hid hw0
 have HW1 := Lib.hid hw1
 have hac := ha.2.2.1
 have hamx := ha.2.2.2.1
 have hbc := hb.2.2.1
 have hbmx := hb.2.2.2.1
 unfold maxLen at hamx hbmx
 have HX0 := Lib.hid x0
 have HY0 := Lib.hid y0
 have HG0 := Lib.hid g0
 have hgl1 : gb < w1.heap.size := by omega
 have hxl : w.heap.size < w1.heap.size := by omega
 have hyl : w0.heap.size < w1.heap.size := by omega
 generalize hra : ra.length = na at *
 generalize hrb : rb.length = nb at *
 have HRA := Lib.hid hra
 have HRB := Lib.hid hrb
 clear ha hb hb0 hb1 hbb hw0 hw1 hsz hsz1 g0 hg hra hrb
 go_enter Tryd.func22, Tryd.ntmps22
 go_wp2_with (first
  | rw [HW0.out]
  | rw [HW1.out]
  | (go_at_call 23; refine (Tryd.cmp_Compare_int _ _ _).mono ?_; rintro e wc ⟨rfl, hwc⟩; replace hwc := hwc.symm; subst hwc))
 go_loopw [6, 7] (fun c i wr => ∃ k : Nat, k ≤ g ∧ i = .int .i64 k ∧ c = .int .i64 (ordK (Lib.compareInt ba bb) ra rb k) ∧ Below w1.heap.size w1 wr) (fun _ i _ => g - (intOf i).toNat)
 case atStart => exact ⟨0, Nat.zero_le _, rfl, rfl, Below.refl _ _⟩
 case round =>
  obtain ⟨k, hk, rfl, rfl, hb⟩ := hrel
  have HBR := Lib.hid hb
  have g0 := (hb.cell (p := ⟨gb, 0, none⟩) hgl1).trans HG0.out
  obtain ⟨r, hr⟩ : ∃ r, ordK (Lib.compareInt ba bb) ra rb k = r := ⟨_, rfl⟩
  have HR := Lib.hid hr
  rw [hr]
  clear hr
  have HFIN := Lib.hid (fun (h : k = g ∨ r ≠ 0) => show ordK (Lib.compareInt ba bb) ra rb g = r by
   rcases h with rfl | h
   ·exact HR.out
   ·rw [ordK_stay (by rw [HR.out]; exact h) g hk, HR.out])
  by_cases hkg : k < g
  ·have d1 : decide (k < g) = true := decide_eq_true hkg
   have d1' : decide ((k : Int) < (g : Int)) = true := decide_eq_true (by omega)
   obtain ⟨bz, hbz⟩ : ∃ bz, (r == 0) = bz := ⟨_, rfl⟩
   cases bz with
   | false =>
    have HF := Lib.hid (HFIN.out (Or.inr (by intro e; rw [e] at hbz; cases hbz)))
    clear hb
    go_wp2_with fail
    go_ret
    exact ⟨by rw [HF.out]; rfl, below_step HBB.out HBR.out⟩
   | true =>
    have hr0 : r = 0 := eq_of_beq hbz
    subst hr0
    obtain ⟨x0, x2⟩ : wr.cell? ⟨w.heap.size, 0, none⟩ = some (.slice p na c) ∧ True := ⟨(hb.cell (p := ⟨w.heap.size, 0, none⟩) hxl).trans HX0.out, trivial⟩
    have y0 := (hb.cell (p := ⟨w0.heap.size, 0, none⟩) hyl).trans HY0.out
    obtain ⟨gx, ox, x, rfl, hgx, hx, a0, a1, a2⟩ := (HA.out.keep hb).at_ (k := k) (by omega)
    obtain ⟨gy, oy, y, rfl, hgy, hy, b0, b1, b2⟩ := (HB.out.keep hb).at_ (k := k) (by omega)
    have HN := Lib.hid (show ordK (Lib.compareInt ba bb) ra rb (k + 1) = vorder x y by
     rw [ordK, HR.out, if_pos rfl, List.getD_eq_getElem?_getD, List.getD_eq_getElem?_getD, hx, hy]; rfl)
    have TO := Lib.hid (fun w' => vorder_any x y w')
    have hlx : w.heap.size < wr.heap.size := Nat.lt_of_lt_of_le hxl hb.size
    have hly : w0.heap.size < wr.heap.size := Nat.lt_of_lt_of_le hyl hb.size
    have KP := Lib.hid (fun wq (hq : Below wr.heap.size wr wq) => show wq.cell? ⟨w.heap.size, 0, none⟩ = some (.slice (some ⟨gx, ox, none⟩) na c) ∧ wq.cell? ⟨w0.heap.size, 0, none⟩ = some (.slice (some ⟨gy, oy, none⟩) nb d) ∧
      wq.cell? ⟨gx, ox + k * 3, none⟩ = some (.int .i64 x.type) ∧ wq.cell? ⟨gx, ox + k * 3 + 1, none⟩ = some (.int .i64 x.n) ∧ wq.cell? ⟨gx, ox + k * 3 + 2, none⟩ = some (.string x.s) ∧
      wq.cell? ⟨gy, oy + k * 3, none⟩ = some (.int .i64 y.type) ∧ wq.cell? ⟨gy, oy + k * 3 + 1, none⟩ = some (.int .i64 y.n) ∧ wq.cell? ⟨gy, oy + k * 3 + 2, none⟩ = some (.string y.s) from
     ⟨(hq.cell (p := ⟨w.heap.size, 0, none⟩) hlx).trans x0, (hq.cell (p := ⟨w0.heap.size, 0, none⟩) hly).trans y0, (hq.cell (p := ⟨gx, ox + k * 3, none⟩) hgx).trans a0, (hq.cell (p := ⟨gx, ox + k * 3 + 1, none⟩) hgx).trans a1, (hq.cell (p := ⟨gx, ox + k * 3 + 2, none⟩) hgx).trans a2,
      (hq.cell (p := ⟨gy, oy + k * 3, none⟩) hgy).trans b0, (hq.cell (p := ⟨gy, oy + k * 3 + 1, none⟩) hgy).trans b1, (hq.cell (p := ⟨gy, oy + k * 3 + 2, none⟩) hgy).trans b2⟩)
    have z1 : (0 : Int) ≤ (k : Int) := by omega
    have z2 : (k : Int) < (na : Int) := by omega
    have z3 : (k : Int) < (nb : Int) := by omega
    have hbr0 : Below wr.heap.size wr wr.drew := (Below.refl _ _).drew
    have HBD := Lib.hid hbr0
    clear hb hx hy hbr0 x2
    go_wp2_with fail
    go_region_held3 (fun wq => wq.cell? ⟨w.heap.size, 0, none⟩ = some (.slice (some ⟨gx, ox, none⟩) na c) ∧ wq.cell? ⟨w0.heap.size, 0, none⟩ = some (.slice (some ⟨gy, oy, none⟩) nb d) ∧
      wq.cell? ⟨gx, ox + k * 3, none⟩ = some (.int .i64 x.type) ∧ wq.cell? ⟨gx, ox + k * 3 + 1, none⟩ = some (.int .i64 x.n) ∧ wq.cell? ⟨gx, ox + k * 3 + 2, none⟩ = some (.string x.s) ∧
      wq.cell? ⟨gy, oy + k * 3, none⟩ = some (.int .i64 y.type) ∧ wq.cell? ⟨gy, oy + k * 3 + 1, none⟩ = some (.int .i64 y.n) ∧ wq.cell? ⟨gy, oy + k * 3 + 2, none⟩ = some (.string y.s)) (first | exact KP.out _ (Below.refl _ _) | exact KP.out _ HBD.out | exact KP.out _ HB3.out) (first
     | (go_at_call 24; refine (TO.out _).mono ?_; rintro e w3 ⟨rfl, hb3⟩; have HB3 := Lib.hid (below_step HBD.out hb3); clear hb3))
    clear x0 y0 a0 a1 a2 b0 b1 b2
    go_wp2_with fail
    go_roundw
    case rel => exact ⟨k + 1, by omega, by go_num, by rw [HN.out], below_step HBR.out HB3.out⟩
    case measure => simp [intOf]; omega
  ·have HF := Lib.hid (HFIN.out (Or.inl (by omega)))
   have d1 : decide (k < g) = false := decide_eq_false hkg
   have d1' : decide ((k : Int) < (g : Int)) = false := decide_eq_false (by omega)
   clear hb
   go_wp2_with fail
   go_ret
   exact ⟨by rw [HF.out]; rfl, below_step HBB.out HBR.out⟩
end SortLaw
end Go.Proofs.YtkgdfccpkiglaaaDoor
