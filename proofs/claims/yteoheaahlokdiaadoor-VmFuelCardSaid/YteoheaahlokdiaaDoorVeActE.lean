/- (*checker).act, walked (5 8). -/
import Derived.Test.YteoheaahlokdiaaDoorVeActB
namespace Go.Proofs.YteoheaahlokdiaaDoor
open Go.ChangeShapes Go.WideShapes Go.ChangeAt Go.RowKit

set_option maxHeartbeats 4000000 in
set_option maxRecDepth 100000 in
theorem act_5 (H p b g j c nk ck most : Nat) (K : Option Addr) (CV AV : Value) (cols : List Col) (x : Ins) (l : List Int) (w : World) (h : ActPre w H p b g (j + 1) c CV (.slice K nk ck) AV most l) (_hm : most ≤ 64) (_hj : j ≤ 64) (h5 : x.what = 5) :
    Calls Tryd.prog 122 #[.pointer (some ⟨p, 0, none⟩), insV x, .pointer (some ⟨b, 0, none⟩)] w (ActSays H p b CV (.slice K nk ck) AV most (actP cols x l) w) := by
  have hl : l.length = j + 1 := by have := (h.start x).len; exact this
  obtain ⟨w1, hw1⟩ : ∃ w1, w.alloc (.cells #[.int .i64 x.what, .int .i64 x.arg, .int .i64 x.val.type, .int .i64 x.val.n, .string x.val.s] 55) = w1 := ⟨_, rfl⟩
  have hb1 : Below w.heap.size w w1 := by rw [← hw1]; exact (Below.refl _ _).alloc (Nat.le_refl _) _
  have hA := h.start x
  rw [hw1] at hA
  obtain ⟨⟨b0, bf⟩, ⟨p1, p3, pf⟩, x0, x1, x2⟩ := hA.cells
  have hc1 := (sees_ints hA.own).2.1
  have hc2 := (sees_ints hA.own).2.2.1
  unfold maxLen at hc2
  have HW1 := Lib.hid hw1
  have HB1 := Lib.hid hb1
  have HA := Lib.hid hA
  have HH := Lib.hid (show H ≤ w.heap.size by have := h.hb; have := box_lt h.bb; omega)
  have HL := Lib.hid hl
  have h1 : x.what ≠ 1 := by omega
  have h2 : x.what ≠ 2 := by omega
  have h3 : x.what ≠ 3 := by omega
  have h4 : x.what ≠ 4 := by omega
  have h6 : x.what ≠ 6 := by omega
  have h7 : x.what ≠ 7 := by omega
  have e1 : (x.what == 1) = false := beq_eq_false_iff_ne.2 h1
  have e2 : (x.what == 2) = false := beq_eq_false_iff_ne.2 h2
  have e3 : (x.what == 3) = false := beq_eq_false_iff_ne.2 h3
  have e4 : (x.what == 4) = false := beq_eq_false_iff_ne.2 h4
  have e5 : (x.what == 5) = true := beq_iff_eq.2 h5
  have e6 : (x.what == 6) = false := beq_eq_false_iff_ne.2 h6
  have e7 : (x.what == 7) = false := beq_eq_false_iff_ne.2 h7
  have hneed : need x = 1 := by unfold need; rw [if_neg h3, if_pos (by omega)]
  have htk : (l.take j).length = j := by rw [List.length_take]; omega
  have E8 := Lib.hid (fun (hv : ¬ (l.drop j).headD 0 = 2) => show actP cols x l = (8, l) by
    unfold actP
    rw [hneed, if_neg (by omega), hl, show j + 1 - 1 = j by omega, show putTy cols x (l.drop j) = (8, []) by unfold putTy; rw [if_neg h1, if_neg h2, if_neg h3, if_pos h5, if_pos hv], if_pos (by decide)])
  have E0 := Lib.hid (fun (hv : (l.drop j).headD 0 = 2) => show actP cols x l = (0, l.take j) by
    unfold actP
    rw [hneed, if_neg (by omega), hl, show j + 1 - 1 = j by omega, show putTy cols x (l.drop j) = (0, []) by unfold putTy; rw [if_neg h1, if_neg h2, if_neg h3, if_pos h5, if_neg (by simpa using hv)], if_neg (by simp), List.append_nil, if_neg (by omega)])
  have d64 : decide (64 < (j : Int)) = false := decide_eq_false (by omega)
  clear hneed htk
  clear h hl hw1 hb1 hA h1 h2 h3 h4 h5 h6 h7
  unfold insV
  go_enter Tryd.func122, Tryd.ntmps122
  go_wp2_with (first | rw [HW1.out])
  refine (take_ok b g c j 1 l w1 HA.out.bb (sees_ints HA.out.own) (by decide)).mono ?_
  rintro e w2 ⟨⟨A', c', rfl, hs', hA'⟩, hw2⟩
  have HS2 := Lib.hid (show Sees w2 A' 1 c' 1 (intCells (l.drop j)) from by
    rw [hw2]
    refine (Only.sees ((Only.refl (fun k => k = b) _).setCell (p := ⟨b, 0, none⟩) rfl _) hs' (fun ad e => ?_))
    rw [hA' ad e]; exact fun e => HA.out.bg e.symm)
  have HA2 := Lib.hid (show ActW w2 H p b w.heap.size g j c CV (.slice K nk ck) AV most x (l.take j) from by rw [hw2]; exact ActW.took (j := j) (k := 1) HA.out)
  have HY2 := Lib.hid (show Only (fun k => k = p ∨ H ≤ k) w w2 from by rw [hw2]; exact ((Lib.hid (Only.of_below (S := fun k => k = p ∨ H ≤ k) HB1.out)).out).setCell (p := ⟨b, 0, none⟩) (Or.inr HA.out.hb) _)
  clear hs' hA' hw2 b0 bf p1 p3 pf x0 x1 x2
  obtain ⟨⟨b0, bf⟩, ⟨p1, p3, pf⟩, x0, x1, x2⟩ := HA2.out.cells
  have hbw2 := box_lt HA2.out.bb
  have hxw2 := box_lt HA2.out.xx
  have hpw2 := box_lt HA2.out.pb
  obtain ⟨ga, oa, v, rfl, hv, v0⟩ := ints_at HS2.out (show 0 < 1 by decide)
  rw [Nat.add_zero] at v0
  have hgaw := World.block_lt_of_cell? w2 _ v0
  have hca := HS2.out.2.1
  have hcb := HS2.out.2.2.1
  unfold maxLen at hcb
  have HV := Lib.hid (show (l.drop j).headD 0 = v by cases hd : l.drop j with | nil => rw [hd] at hv; cases hv | cons a r => rw [hd] at hv; exact Option.some.inj hv)
  clear hv
  by_cases hv2 : v = 2
  · have g2 : (v == 2) = true := beq_iff_eq.2 hv2
    have E := Lib.hid (E0.out (HV.out.trans hv2))
    clear hv2
    go_wp2_with fail
    go_region_law (fail)
    all_goals
      go_wp2_with fail
      go_ret
      exact ActSays.ok HA2.out HY2.out E.out rfl ⟨1, rfl⟩
  · have g2 : (v == 2) = false := beq_eq_false_iff_ne.2 hv2
    have E := Lib.hid (E8.out (fun e => hv2 (HV.out.symm.trans e)))
    clear hv2
    go_wp2_with fail
    go_ret
    exact ActSays.bad HY2.out E.out rfl (by decide)
set_option maxHeartbeats 4000000 in
set_option maxRecDepth 100000 in
theorem act_s (H p b g j c nk ck most : Nat) (K : Option Addr) (CV AV : Value) (cols : List Col) (x : Ins) (l : List Int) (w : World) (h : ActPre w H p b g (j) c CV (.slice K nk ck) AV most l) (_hm : most ≤ 64) (_hj : j ≤ 64) (h57 : x.what = 5 ∨ x.what = 6 ∨ x.what = 7) (h0 : j = 0) :
    Calls Tryd.prog 122 #[.pointer (some ⟨p, 0, none⟩), insV x, .pointer (some ⟨b, 0, none⟩)] w (ActSays H p b CV (.slice K nk ck) AV most (actP cols x l) w) := by
  have hl : l.length = j := by have := (h.start x).len; exact this
  obtain ⟨w1, hw1⟩ : ∃ w1, w.alloc (.cells #[.int .i64 x.what, .int .i64 x.arg, .int .i64 x.val.type, .int .i64 x.val.n, .string x.val.s] 55) = w1 := ⟨_, rfl⟩
  have hb1 : Below w.heap.size w w1 := by rw [← hw1]; exact (Below.refl _ _).alloc (Nat.le_refl _) _
  have hA := h.start x
  rw [hw1] at hA
  obtain ⟨⟨b0, bf⟩, ⟨p1, p3, pf⟩, x0, x1, x2⟩ := hA.cells
  have hc1 := (sees_ints hA.own).2.1
  have hc2 := (sees_ints hA.own).2.2.1
  unfold maxLen at hc2
  have HW1 := Lib.hid hw1
  have HB1 := Lib.hid hb1
  have HA := Lib.hid hA
  have HH := Lib.hid (show H ≤ w.heap.size by have := h.hb; have := box_lt h.bb; omega)
  have HL := Lib.hid hl
  subst h0
  have hneed : need x = 1 := by unfold need; rw [if_neg (by omega), if_pos h57]
  have E := Lib.hid (show actP cols x l = (6, l) by
    unfold actP
    rw [hneed, if_pos (by omega)])
  clear hneed
  have e3 : (x.what == 3) = false := beq_eq_false_iff_ne.2 (by omega)
  rcases h57 with h5 | h5 | h5
  · have e5 : (x.what == 5) = true := beq_iff_eq.2 h5
    have e6 : (x.what == 6) = false := beq_eq_false_iff_ne.2 (by omega)
    have e7 : (x.what == 7) = false := beq_eq_false_iff_ne.2 (by omega)
    clear h hl hw1 hb1 hA h5
    unfold insV
    go_enter Tryd.func122, Tryd.ntmps122
    go_wp2_with (first | rw [HW1.out])
    refine (take_short b g c 0 1 w1 HA.out.bb (by decide) (by omega) (by unfold maxLen; omega) (by decide)).mono ?_
    rintro e w2 ⟨rfl, rfl⟩
    go_wp2_with fail
    go_ret
    exact ActSays.bad (Only.of_below HB1.out) E.out rfl (by decide)
  · have e5 : (x.what == 5) = false := beq_eq_false_iff_ne.2 (by omega)
    have e6 : (x.what == 6) = true := beq_iff_eq.2 h5
    have e7 : (x.what == 7) = false := beq_eq_false_iff_ne.2 (by omega)
    clear h hl hw1 hb1 hA h5
    unfold insV
    go_enter Tryd.func122, Tryd.ntmps122
    go_wp2_with (first | rw [HW1.out])
    refine (take_short b g c 0 1 w1 HA.out.bb (by decide) (by omega) (by unfold maxLen; omega) (by decide)).mono ?_
    rintro e w2 ⟨rfl, rfl⟩
    go_wp2_with fail
    go_ret
    exact ActSays.bad (Only.of_below HB1.out) E.out rfl (by decide)
  · have e5 : (x.what == 5) = false := beq_eq_false_iff_ne.2 (by omega)
    have e6 : (x.what == 6) = false := beq_eq_false_iff_ne.2 (by omega)
    have e7 : (x.what == 7) = true := beq_iff_eq.2 h5
    clear h hl hw1 hb1 hA h5
    unfold insV
    go_enter Tryd.func122, Tryd.ntmps122
    go_wp2_with (first | rw [HW1.out])
    refine (take_short b g c 0 1 w1 HA.out.bb (by decide) (by omega) (by unfold maxLen; omega) (by decide)).mono ?_
    rintro e w2 ⟨rfl, rfl⟩
    go_wp2_with fail
    go_ret
    exact ActSays.bad (Only.of_below HB1.out) E.out rfl (by decide)
end Go.Proofs.YteoheaahlokdiaaDoor
