/- slices.Clone of a row of values, walked. Outs as a walk sees them; sluicesame.Outs over two lists that are the same, walked. -/
import Derived.Test.YtkgdfccpkiglaaaDoorSJoinLaw
import Derived.Test.YtkgdfccpkiglaaaDoorSSplitParts
import Derived.Deep.AppendLies
namespace Go.Proofs.YtkgdfccpkiglaaaDoor
open Go.ChangeShapes Go.WideShapes Go.ChangeAt Go.RowKit
namespace SortLaw
theorem jValSlice : SliceTy Tryd.prog 28 46 (.agg #[.int .i64 0, .int .i64 0, .string ⟨#[]⟩]) 3 32 := SliceTy.of Tryd.underlying28 (by kernel_rfl) rfl (by decide) (by decide)
theorem jval_cell : ∀ (l : List Val), ∀ u ∈ valsCells l, u.oneCell' = true
 | [], u, h => by cases h
 | x :: l, u, h => by
  have e : valsCells (x :: l) = valCells x ++ valsCells l := rfl
  rw [e] at h
  rcases List.mem_append.1 h with h | h
  ·unfold valCells at h
   simp only [List.mem_cons, List.not_mem_nil, or_false] at h
   rcases h with rfl | rfl | rfl <;> rfl
  ·exact jval_cell l u h
set_option maxHeartbeats 1000000 in
set_option maxRecDepth 100000 in
theorem clone_any (a : Addr) (c n : Nat) (l : List Val) (w : World) (hn : n ≤ 1048576) (hs : SeesVals w (some a) n c l) :
  Calls Tryd.prog 19 #[.slice (some a) n c] w fun e w' =>
   (∃ A' c', e = .returned (.slice A' n c') ∧ SeesVals w' A' n c' l ∧ ∀ ad, A' = some ad → w.heap.size ≤ ad.block) ∧ Below w.heap.size w w' := by
 have q := fun (w : World) (a : Option Addr) (n c n' c' : Nat) => Lib.run_eql_slice_nil (P := Tryd.prog) w 28 _ a n c n' c' Tryd.underlying28
 have u := fun w => run_underlying (P := Tryd.prog) (w := w) Tryd.underlying28
 have HL := Lib.hid hs.2
 have HN := Lib.hid hs.1
 clear hs
 go_enter Tryd.func19, Tryd.ntmps19
 go_wp2_with (first | (at_builtin; refine wpList_append_src jValSlice rfl _ _ rfl rfl rfl (World.ownsRow_made w #[] 0 (Nat.le_refl _) (Nat.zero_le _) rfl) (HL.out.keep ((Below.refl _ _).alloc (Nat.le_refl _) _)) ((Below.refl _ _).alloc (Nat.le_refl _) _) (Nat.le_refl _) (jval_cell l) (by omega) ?_))
 intro v' w1 hown hb _
 obtain ⟨A', c', rfl, hs⟩ := Sees.of_own hown
 have HS := Lib.hid hs
 have HB := Lib.hid hb
 have HO := Lib.hid (show ∀ ad, A' = some ad → w.heap.size ≤ ad.block from fun ad e => by
  rcases hown.2 with ⟨e2, _⟩ | ⟨g, cap, cur, e2, hg, _⟩
  ·injection e2 with e3; rw [e3] at e; cases e
  ·injection e2 with e3; rw [e3] at e; injection e with e; rw [← e]; exact hg)
 clear hown hs hb
 go_wp2_with fail
 go_ret
 exact ⟨⟨A', c', rfl, ⟨HN.out, by simpa using HS.out⟩, HO.out⟩, HB.out⟩
def outCells (hs : List OutH) : List Value := hs.flatMap fun h => oC h.e
def SeesOuts (w : World) (A : Option Addr) (n c : Nat) (hs : List OutH) : Prop := Sees w A n c 3 (outCells hs) ∧ ∀ h ∈ hs, SeesOut w h
theorem outCells_len (hs : List OutH) : (outCells hs).length = hs.length * 3 := flat_len (f := fun h => oC (OutH.e h)) (fun _ => rfl) hs
theorem SeesOuts.keep {w w' : World} {A : Option Addr} {n c : Nat} {hs : List OutH} (h : SeesOuts w A n c hs) (hb : Below w.heap.size w w') : SeesOuts w' A n c hs := ⟨h.1.keep hb, fun x hx => (h.2 x hx).keep hb⟩
theorem SeesOuts.len {w : World} {A : Option Addr} {n c : Nat} {hs : List OutH} (h : SeesOuts w A n c hs) : hs.length = n := by
 have := h.1.1; rw [outCells_len] at this; omega
theorem outCells_at {hs : List OutH} {k : Nat} {h : OutH} (hk : hs[k]? = some h) :
  (outCells hs)[k * 3]? = some (.slice h.p h.o.row.length h.c) ∧ (outCells hs)[k * 3 + 1]? = some (.int .i64 h.o.err) ∧ (outCells hs)[k * 3 + 2]? = some (.int .i64 h.o.beg) := by
 have g : ∀ j, j < 3 → (outCells hs)[k * 3 + j]? = (oC h.e)[j]? := fun j hj => flat_get (f := fun h => oC (OutH.e h)) (fun _ => rfl) hs k h j hk hj
 exact ⟨g 0 (by omega), g 1 (by omega), g 2 (by omega)⟩
theorem SeesOuts.at_ {w : World} {A : Option Addr} {n c : Nat} {hs : List OutH} (h : SeesOuts w A n c hs) {k : Nat} (hk : k < n) :
  ∃ g o x, A = some ⟨g, o, none⟩ ∧ g < w.heap.size ∧ hs[k]? = some x ∧ SeesOut w x ∧ w.cell? ⟨g, o + k * 3, none⟩ = some (.slice x.p x.o.row.length x.c) ∧ w.cell? ⟨g, o + k * 3 + 1, none⟩ = some (.int .i64 x.o.err) ∧ w.cell? ⟨g, o + k * 3 + 2, none⟩ = some (.int .i64 x.o.beg) := by
 obtain ⟨g, o, e, hg, hc⟩ := h.1.2.2.2.2 (by omega)
 have hl : hs[k]? = some (hs[k]'(by have := h.len; omega)) := List.getElem?_eq_getElem _
 obtain ⟨h1, h2, h3⟩ := outCells_at hl
 exact ⟨g, o, _, e, hg, hl, h.2 _ (List.mem_of_getElem? hl), hc _ _ h1, hc _ _ h2, hc _ _ h3⟩
set_option maxHeartbeats 2000000 in
set_option maxRecDepth 100000 in
theorem sameOuts_any (A E : Option Addr) (n c d : Nat) (hs ks : List OutH) (w : World) (hl : SeesOuts w A n c hs) (hm : SeesOuts w E n d ks) (heq : hs.map (·.o) = ks.map (·.o)) :
  Calls Tryd.prog 11 #[.slice A n c, .slice E n d] w fun e w' => e = .returned (.bool true) ∧ Below w.heap.size w w' := by
 have HL := Lib.hid hl
 have HM := Lib.hid hm
 have HEQ := Lib.hid heq
 have hcap := hl.1.2.1
 have hmax := hl.1.2.2.1
 have hcap2 := hm.1.2.1
 have hmax2 := hm.1.2.2.1
 unfold maxLen at hmax hmax2
 have e0 : ((n : Int) != n) = false := by simp
 clear hl hm heq
 go_enter Tryd.func11, Tryd.ntmps11
 go_wp2_with fail
 go_loopw [5, 6] (fun i _ wr => ∃ k : Nat, k ≤ n ∧ i = .int .i64 k ∧ Below w.heap.size w wr) (fun i _ _ => n - (intOf i).toNat)
 case atStart => exact ⟨0, by omega, rfl, Below.refl _ _⟩
 case round =>
  obtain ⟨k, hk, rfl, hb⟩ := hrel
  have HB := Lib.hid hb
  by_cases hlk : k < n
  ·obtain ⟨g, o, x, rfl, hg, hx, sx, a0, a1, a2⟩ := (HL.out.keep hb).at_ hlk
   obtain ⟨g2, o2, y, rfl, hg2, hy, sy, b0, b1, b2⟩ := (HM.out.keep hb).at_ hlk
   have hxy : x.o = y.o := by
    have := congrArg (fun l : List OutP => l[k]?) HEQ.out
    simpa [hx, hy] using this
   obtain ⟨p, c1, ox⟩ := x
   obtain ⟨q, d1, oy⟩ := y
   obtain rfl : ox = oy := hxy
   obtain ⟨row, err, beg⟩ := ox
   replace sx : SeesVals wr p row.length c1 row := sx
   replace sy : SeesVals wr q row.length d1 row := sy
   have HSX := Lib.hid sx
   have HSY := Lib.hid sy
   simp only at a0 a1 a2 b0 b1 b2
   generalize hrl : row.length = rl at *
   have KP := Lib.hid (fun wq (hq : Below wr.heap.size wr wq) => show (wq.cell? ⟨g, o + k * 3, none⟩ = some (.slice p rl c1) ∧ wq.cell? ⟨g2, o2 + k * 3, none⟩ = some (.slice q rl d1)) ∧
     wq.cell? ⟨g, o + k * 3 + 1, none⟩ = some (.int .i64 err) ∧ wq.cell? ⟨g, o + k * 3 + 2, none⟩ = some (.int .i64 beg) ∧ wq.cell? ⟨g2, o2 + k * 3 + 1, none⟩ = some (.int .i64 err) ∧ wq.cell? ⟨g2, o2 + k * 3 + 2, none⟩ = some (.int .i64 beg) from
    ⟨⟨(hq.cell (p := ⟨g, o + k * 3, none⟩) hg).trans a0, (hq.cell (p := ⟨g2, o2 + k * 3, none⟩) hg2).trans b0⟩, (hq.cell (p := ⟨g, o + k * 3 + 1, none⟩) hg).trans a1, (hq.cell (p := ⟨g, o + k * 3 + 2, none⟩) hg).trans a2,
     (hq.cell (p := ⟨g2, o2 + k * 3 + 1, none⟩) hg2).trans b1, (hq.cell (p := ⟨g2, o2 + k * 3 + 2, none⟩) hg2).trans b2⟩)
   have TV := Lib.hid (sameVals_any p q rl c1 d1 row wr.drew sx sy)
   have hbr0 : Below wr.heap.size wr wr.drew := (Below.refl _ _).drew
   have HBD := Lib.hid hbr0
   have z1 : (0 : Int) ≤ (k : Int) := by omega
   have z2 : (k : Int) < (n : Int) := by omega
   have f1 : (err != err) = false := by simp
   have f2 : (beg != beg) = false := by simp
   clear hb hx hy sx sy hrl hbr0 a1 a2 b1 b2
   go_wp2_with fail
   go_region_held3 (fun wq => wq.cell? ⟨g, o + k * 3, none⟩ = some (.slice p rl c1) ∧ wq.cell? ⟨g2, o2 + k * 3, none⟩ = some (.slice q rl d1)) (first | exact (KP.out _ (Below.refl _ _)).1 | exact (KP.out _ HBD.out).1 | exact (KP.out _ HB3.out).1) (first
    | (go_at_call 25; refine (TV.out).mono ?_; rintro e w3 ⟨rfl, hb3⟩; have HB3 := Lib.hid (below_step HBD.out hb3); clear hb3))
   clear a0 b0
   obtain ⟨-, a1, a2, b1, b2⟩ := KP.out w3 HB3.out
   go_wp2_with fail
   go_quiet (fail)
   go_wp2_with fail
   go_roundw
   case rel => exact ⟨k + 1, by omega, by go_num, below_drewN (below_step HB.out HB3.out) nq⟩
   case measure => simp [intOf]; omega
  ·clear hb
   go_wp2_with fail
   go_ret
   exact ⟨rfl, HB.out⟩
end SortLaw
end Go.Proofs.YtkgdfccpkiglaaaDoor
