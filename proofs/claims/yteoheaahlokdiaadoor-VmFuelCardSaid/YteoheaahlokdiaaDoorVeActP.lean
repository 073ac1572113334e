/- (*checker).act, walked (1 4 7). -/
import Derived.Test.YteoheaahlokdiaaDoorVeActB
namespace Go.Proofs.YteoheaahlokdiaaDoor
open Go.ChangeShapes Go.WideShapes Go.ChangeAt Go.RowKit

set_option maxHeartbeats 4000000 in
set_option maxRecDepth 100000 in
theorem act_1 (H p b g j c nk ck most : Nat) (K : Option Addr) (CV AV : Value) (cols : List Col) (x : Ins) (l : List Int) (w : World) (h : ActPre w H p b g (j) c CV (.slice K nk ck) AV most l) (_hm : most ≤ 64) (_hj : j ≤ 64) (h1 : x.what = 1) :
    Calls Tryd.prog 122 #[.pointer (some ⟨p, 0, none⟩), insV x, .pointer (some ⟨b, 0, none⟩)] w (ActSays H p b CV (.slice K nk ck) AV most (actP cols x l) w) := by
  have hl : l.length = j := by have := (h.start x).len; exact this
  obtain ⟨w1, hw1⟩ : ∃ w1, w.alloc (.cells #[.int .i64 x.what, .int .i64 x.arg, .int .i64 x.val.type, .int .i64 x.val.n, .string x.val.s] 55) = w1 := ⟨_, rfl⟩
  have hb1 : Below w.heap.size w w1 := by rw [← hw1]; exact (Below.refl _ _).alloc (Nat.le_refl _) _
  have hA := h.start x
  rw [hw1] at hA
  obtain ⟨⟨b0, bf⟩, ⟨p1, p3, pf⟩, x0, x1, x2⟩ := hA.cells
  have hc1 := (sees_ints hA.own).2.1
  have hc2 := (sees_ints hA.own).2.2.1
  unfold maxLen at hc2
  have HW1 := Lib.hid hw1
  have HB1 := Lib.hid hb1
  have HA := Lib.hid hA
  have HH := Lib.hid (show H ≤ w.heap.size by have := h.hb; have := box_lt h.bb; omega)
  have HL := Lib.hid hl
  have h2 : x.what ≠ 2 := by omega
  have h3 : x.what ≠ 3 := by omega
  have h4 : x.what ≠ 4 := by omega
  have h5 : x.what ≠ 5 := by omega
  have h6 : x.what ≠ 6 := by omega
  have h7 : x.what ≠ 7 := by omega
  have e1 : (x.what == 1) = true := beq_iff_eq.2 h1
  have e2 : (x.what == 2) = false := beq_eq_false_iff_ne.2 h2
  have e3 : (x.what == 3) = false := beq_eq_false_iff_ne.2 h3
  have e4 : (x.what == 4) = false := beq_eq_false_iff_ne.2 h4
  have e5 : (x.what == 5) = false := beq_eq_false_iff_ne.2 h5
  have e6 : (x.what == 6) = false := beq_eq_false_iff_ne.2 h6
  have e7 : (x.what == 7) = false := beq_eq_false_iff_ne.2 h7
  have hneed : need x = 0 := by unfold need; rw [if_neg h3, if_neg (by omega)]
  have htk : (l.take j).length = j := by rw [List.length_take]; omega
  have hput : putTy cols x (l.drop j) = (0, [x.val.type]) := by unfold putTy; rw [if_pos h1]
  have E4 := Lib.hid (fun (h64 : 64 < j + 1) => show actP cols x l = (4, l) by
    unfold actP
    rw [hneed, if_neg (by omega), hl, show j - 0 = j from rfl, hput]
    rw [if_neg (by simp), if_pos (by rw [List.length_append, htk]; exact h64)])
  have E0 := Lib.hid (fun (h64 : ¬ 64 < j + 1) => show actP cols x l = (0, l.take j ++ [x.val.type]) by
    unfold actP
    rw [hneed, if_neg (by omega), hl, show j - 0 = j from rfl, hput]
    rw [if_neg (by simp), if_neg (by rw [List.length_append, htk]; exact h64)])
  clear hneed hput htk
  clear h hl hw1 hb1 hA h1 h2 h3 h4 h5 h6 h7
  unfold insV
  go_enter Tryd.func122, Tryd.ntmps122
  go_wp2_with (first | rw [HW1.out])
  refine (take_ok b g c j 0 l w1 HA.out.bb (sees_ints HA.out.own) (by decide)).mono ?_
  rintro e w2 ⟨⟨A', c', rfl, hs', hA'⟩, hw2⟩
  have HS2 := Lib.hid (show Sees w2 A' 0 c' 1 (intCells (l.drop j)) from by
    rw [hw2]
    refine (Only.sees ((Only.refl (fun k => k = b) _).setCell (p := ⟨b, 0, none⟩) rfl _) hs' (fun ad e => ?_))
    rw [hA' ad e]; exact fun e => HA.out.bg e.symm)
  have HA2 := Lib.hid (show ActW w2 H p b w.heap.size g j c CV (.slice K nk ck) AV most x (l.take j) from by rw [hw2]; exact ActW.took (j := j) (k := 0) HA.out)
  have HY2 := Lib.hid (show Only (fun k => k = p ∨ H ≤ k) w w2 from by rw [hw2]; exact ((Lib.hid (Only.of_below (S := fun k => k = p ∨ H ≤ k) HB1.out)).out).setCell (p := ⟨b, 0, none⟩) (Or.inr HA.out.hb) _)
  clear hs' hA' hw2 b0 bf p1 p3 pf x0 x1 x2
  obtain ⟨⟨b0, bf⟩, ⟨p1, p3, pf⟩, x0, x1, x2⟩ := HA2.out.cells
  have hbw2 := box_lt HA2.out.bb
  have hxw2 := box_lt HA2.out.xx
  have hpw2 := box_lt HA2.out.pb
  have M := Lib.hid (fun (w5 : World) (g' cap : Nat) (hown5 : w5.ownsRow H 3 1 (.slice (some ⟨g', 0, none⟩) (j + 1) cap) (j + 1) (intCells (l.take j) ++ (#[Value.int .i64 (x.val.type)] : Array Value).toList)) (hg5 : (w2.alloc (.cells #[Value.int .i64 (x.val.type)] 3)).drew.grownBy w5 (Value.slice (some ⟨g, 0, none⟩) j c).ownBlock) (hat5 : (Value.slice (some ⟨g, 0, none⟩) j c).ownBlock = some g' ∨ g' = w2.heap.size + 1) =>
    show ∃ w6, w5.setCell ⟨b, 0, none⟩ (.slice (some ⟨g', 0, none⟩) (j + 1) cap) = w6 ∧ ActW w6 H p b w.heap.size g' (j + 1) cap CV (.slice K nk ck) AV most x (l.take j ++ [x.val.type]) ∧ (∃ u, w5.cell? ⟨b, 0, none⟩ = some u) ∧ w5.frozen? ⟨b, 0, none⟩ = false ∧ Only (fun k => k = p ∨ H ≤ k) w w6 from by
      have hbw : Below w2.heap.size w2 (w2.alloc (.cells #[Value.int .i64 (x.val.type)] 3)).drew := ((Below.refl _ _).alloc (Nat.le_refl _) _).drew
      have hsz : (w2.alloc (.cells #[Value.int .i64 (x.val.type)] 3)).drew.heap.size = w2.heap.size + 1 := by show (World.alloc _ _).heap.size = _; simp
      obtain ⟨q1, q2, q3, q4⟩ := ActW.put (w := (w2.alloc (.cells #[Value.int .i64 (x.val.type)] 3)).drew) (HA2.out.keep hbw) hg5 (by rw [intCells_app] at hown5; exact hown5) (hat5.elim (fun e => Or.inl (by injection e)) (fun e => Or.inr (by rw [hsz]; omega)))
      exact ⟨_, rfl, q1, q2, q3, (HY2.out.trans (Only.of_below hbw)).trans (q4.mono fun k hk => Or.inr hk)⟩)
  have HCELL := Lib.hid (show ∀ u ∈ (#[Value.int .i64 (x.val.type)] : Array Value).toList, u.oneCell' = true by intro u hu; simp at hu; subst hu; rfl)
  have HSZ := Lib.hid (show H ≤ w2.heap.size by have := HY2.out.size; have := HH.out; omega)
  have HBYT := Lib.hid (show (j + 1) * 8 ≤ 140737488355328 by omega)
  go_wp2_with fail
  go_region_law (refine step_append_one stSlice rfl (.tmp 45) (.tmp 49) rfl (by simp [Act.eval]) (by simp [Act.eval]; rfl) HA2.out.own HSZ.out rfl HCELL.out HBYT.out ?_; intro g' cap w5 hown5 hg5 hat5; obtain ⟨w6, hw6, ha6, ⟨cu, hcu⟩, hfz, hy6⟩ := M.out w5 g' cap hown5 hg5 hat5; have HW6 := Lib.hid hw6; have HA6 := Lib.hid ha6; have HY6 := Lib.hid hy6; clear hown5 hg5 hat5 hw6 ha6 hy6)
  all_goals
    rw [HW6.out]
    clear hcu hfz b0 bf p1 p3 pf x0 x1 x2
    obtain ⟨⟨b0, bf⟩, ⟨p1, p3, pf⟩, x0, x1, x2⟩ := HA6.out.cells
    by_cases h64 : 64 < j + 1
    · have d64 : decide (64 < (j : Int) + 1) = true := decide_eq_true (by omega)
      have E := Lib.hid (E4.out h64)
      clear h64
      go_wp2_with fail
      go_ret
      exact ActSays.bad HY6.out E.out rfl (by decide)
    · have d64 : decide (64 < (j : Int) + 1) = false := decide_eq_false (by omega)
      have E := Lib.hid (E0.out h64)
      clear h64
      go_wp2_with fail
      go_region_law (fail)
      all_goals
        go_wp2_with fail
        go_ret
        exact ActSays.ok HA6.out HY6.out E.out rfl ⟨1, rfl⟩
set_option maxHeartbeats 4000000 in
set_option maxRecDepth 100000 in
theorem act_4 (H p b g j c nk ck most : Nat) (K : Option Addr) (CV AV : Value) (cols : List Col) (x : Ins) (l : List Int) (w : World) (h : ActPre w H p b g (j) c CV (.slice K nk ck) AV most l) (_hm : most ≤ 64) (_hj : j ≤ 64) (h4 : x.what = 4) :
    Calls Tryd.prog 122 #[.pointer (some ⟨p, 0, none⟩), insV x, .pointer (some ⟨b, 0, none⟩)] w (ActSays H p b CV (.slice K nk ck) AV most (actP cols x l) w) := by
  have hl : l.length = j := by have := (h.start x).len; exact this
  obtain ⟨w1, hw1⟩ : ∃ w1, w.alloc (.cells #[.int .i64 x.what, .int .i64 x.arg, .int .i64 x.val.type, .int .i64 x.val.n, .string x.val.s] 55) = w1 := ⟨_, rfl⟩
  have hb1 : Below w.heap.size w w1 := by rw [← hw1]; exact (Below.refl _ _).alloc (Nat.le_refl _) _
  have hA := h.start x
  rw [hw1] at hA
  obtain ⟨⟨b0, bf⟩, ⟨p1, p3, pf⟩, x0, x1, x2⟩ := hA.cells
  have hc1 := (sees_ints hA.own).2.1
  have hc2 := (sees_ints hA.own).2.2.1
  unfold maxLen at hc2
  have HW1 := Lib.hid hw1
  have HB1 := Lib.hid hb1
  have HA := Lib.hid hA
  have HH := Lib.hid (show H ≤ w.heap.size by have := h.hb; have := box_lt h.bb; omega)
  have HL := Lib.hid hl
  have h1 : x.what ≠ 1 := by omega
  have h2 : x.what ≠ 2 := by omega
  have h3 : x.what ≠ 3 := by omega
  have h5 : x.what ≠ 5 := by omega
  have h6 : x.what ≠ 6 := by omega
  have h7 : x.what ≠ 7 := by omega
  have e1 : (x.what == 1) = false := beq_eq_false_iff_ne.2 h1
  have e2 : (x.what == 2) = false := beq_eq_false_iff_ne.2 h2
  have e3 : (x.what == 3) = false := beq_eq_false_iff_ne.2 h3
  have e4 : (x.what == 4) = true := beq_iff_eq.2 h4
  have e5 : (x.what == 5) = false := beq_eq_false_iff_ne.2 h5
  have e6 : (x.what == 6) = false := beq_eq_false_iff_ne.2 h6
  have e7 : (x.what == 7) = false := beq_eq_false_iff_ne.2 h7
  have hneed : need x = 0 := by unfold need; rw [if_neg h3, if_neg (by omega)]
  have htk : (l.take j).length = j := by rw [List.length_take]; omega
  have hput : putTy cols x (l.drop j) = (0, []) := by unfold putTy; rw [if_neg h1, if_neg h2, if_neg h3, if_neg h5, if_neg h6]
  have E := Lib.hid (show actP cols x l = (0, l.take j) by
    unfold actP
    rw [hneed, if_neg (by omega), hl, show j - 0 = j from rfl, hput]
    rw [if_neg (by simp), List.append_nil, if_neg (by omega)])
  have d64 : decide (64 < (j : Int)) = false := decide_eq_false (by omega)
  clear hneed hput htk
  clear h hl hw1 hb1 hA h1 h2 h3 h4 h5 h6 h7
  unfold insV
  go_enter Tryd.func122, Tryd.ntmps122
  go_wp2_with (first | rw [HW1.out])
  refine (take_ok b g c j 0 l w1 HA.out.bb (sees_ints HA.out.own) (by decide)).mono ?_
  rintro e w2 ⟨⟨A', c', rfl, hs', hA'⟩, hw2⟩
  have HS2 := Lib.hid (show Sees w2 A' 0 c' 1 (intCells (l.drop j)) from by
    rw [hw2]
    refine (Only.sees ((Only.refl (fun k => k = b) _).setCell (p := ⟨b, 0, none⟩) rfl _) hs' (fun ad e => ?_))
    rw [hA' ad e]; exact fun e => HA.out.bg e.symm)
  have HA2 := Lib.hid (show ActW w2 H p b w.heap.size g j c CV (.slice K nk ck) AV most x (l.take j) from by rw [hw2]; exact ActW.took (j := j) (k := 0) HA.out)
  have HY2 := Lib.hid (show Only (fun k => k = p ∨ H ≤ k) w w2 from by rw [hw2]; exact ((Lib.hid (Only.of_below (S := fun k => k = p ∨ H ≤ k) HB1.out)).out).setCell (p := ⟨b, 0, none⟩) (Or.inr HA.out.hb) _)
  clear hs' hA' hw2 b0 bf p1 p3 pf x0 x1 x2
  obtain ⟨⟨b0, bf⟩, ⟨p1, p3, pf⟩, x0, x1, x2⟩ := HA2.out.cells
  have hbw2 := box_lt HA2.out.bb
  have hxw2 := box_lt HA2.out.xx
  have hpw2 := box_lt HA2.out.pb
  go_wp2_with fail
  go_region_law (fail)
  all_goals
    go_wp2_with fail
    go_ret
    exact ActSays.ok HA2.out HY2.out E.out rfl ⟨1, rfl⟩
set_option maxHeartbeats 4000000 in
set_option maxRecDepth 100000 in
theorem act_7 (H p b g j c nk ck most : Nat) (K : Option Addr) (CV AV : Value) (cols : List Col) (x : Ins) (l : List Int) (w : World) (h : ActPre w H p b g (j + 1) c CV (.slice K nk ck) AV most l) (_hm : most ≤ 64) (_hj : j ≤ 64) (h7 : x.what = 7) :
    Calls Tryd.prog 122 #[.pointer (some ⟨p, 0, none⟩), insV x, .pointer (some ⟨b, 0, none⟩)] w (ActSays H p b CV (.slice K nk ck) AV most (actP cols x l) w) := by
  have hl : l.length = j + 1 := by have := (h.start x).len; exact this
  obtain ⟨w1, hw1⟩ : ∃ w1, w.alloc (.cells #[.int .i64 x.what, .int .i64 x.arg, .int .i64 x.val.type, .int .i64 x.val.n, .string x.val.s] 55) = w1 := ⟨_, rfl⟩
  have hb1 : Below w.heap.size w w1 := by rw [← hw1]; exact (Below.refl _ _).alloc (Nat.le_refl _) _
  have hA := h.start x
  rw [hw1] at hA
  obtain ⟨⟨b0, bf⟩, ⟨p1, p3, pf⟩, x0, x1, x2⟩ := hA.cells
  have hc1 := (sees_ints hA.own).2.1
  have hc2 := (sees_ints hA.own).2.2.1
  unfold maxLen at hc2
  have HW1 := Lib.hid hw1
  have HB1 := Lib.hid hb1
  have HA := Lib.hid hA
  have HH := Lib.hid (show H ≤ w.heap.size by have := h.hb; have := box_lt h.bb; omega)
  have HL := Lib.hid hl
  have h1 : x.what ≠ 1 := by omega
  have h2 : x.what ≠ 2 := by omega
  have h3 : x.what ≠ 3 := by omega
  have h4 : x.what ≠ 4 := by omega
  have h5 : x.what ≠ 5 := by omega
  have h6 : x.what ≠ 6 := by omega
  have e1 : (x.what == 1) = false := beq_eq_false_iff_ne.2 h1
  have e2 : (x.what == 2) = false := beq_eq_false_iff_ne.2 h2
  have e3 : (x.what == 3) = false := beq_eq_false_iff_ne.2 h3
  have e4 : (x.what == 4) = false := beq_eq_false_iff_ne.2 h4
  have e5 : (x.what == 5) = false := beq_eq_false_iff_ne.2 h5
  have e6 : (x.what == 6) = false := beq_eq_false_iff_ne.2 h6
  have e7 : (x.what == 7) = true := beq_iff_eq.2 h7
  have hneed : need x = 1 := by unfold need; rw [if_neg h3, if_pos (by omega)]
  have htk : (l.take j).length = j := by rw [List.length_take]; omega
  have hput : putTy cols x (l.drop j) = (0, []) := by unfold putTy; rw [if_neg h1, if_neg h2, if_neg h3, if_neg h5, if_neg h6]
  have E := Lib.hid (show actP cols x l = (0, l.take j) by
    unfold actP
    rw [hneed, if_neg (by omega), hl, show j + 1 - 1 = j by omega, hput]
    rw [if_neg (by simp), List.append_nil, if_neg (by omega)])
  have d64 : decide (64 < (j : Int)) = false := decide_eq_false (by omega)
  clear hneed hput htk
  clear h hl hw1 hb1 hA h1 h2 h3 h4 h5 h6 h7
  unfold insV
  go_enter Tryd.func122, Tryd.ntmps122
  go_wp2_with (first | rw [HW1.out])
  refine (take_ok b g c j 1 l w1 HA.out.bb (sees_ints HA.out.own) (by decide)).mono ?_
  rintro e w2 ⟨⟨A', c', rfl, hs', hA'⟩, hw2⟩
  have HS2 := Lib.hid (show Sees w2 A' 1 c' 1 (intCells (l.drop j)) from by
    rw [hw2]
    refine (Only.sees ((Only.refl (fun k => k = b) _).setCell (p := ⟨b, 0, none⟩) rfl _) hs' (fun ad e => ?_))
    rw [hA' ad e]; exact fun e => HA.out.bg e.symm)
  have HA2 := Lib.hid (show ActW w2 H p b w.heap.size g j c CV (.slice K nk ck) AV most x (l.take j) from by rw [hw2]; exact ActW.took (j := j) (k := 1) HA.out)
  have HY2 := Lib.hid (show Only (fun k => k = p ∨ H ≤ k) w w2 from by rw [hw2]; exact ((Lib.hid (Only.of_below (S := fun k => k = p ∨ H ≤ k) HB1.out)).out).setCell (p := ⟨b, 0, none⟩) (Or.inr HA.out.hb) _)
  clear hs' hA' hw2 b0 bf p1 p3 pf x0 x1 x2
  obtain ⟨⟨b0, bf⟩, ⟨p1, p3, pf⟩, x0, x1, x2⟩ := HA2.out.cells
  have hbw2 := box_lt HA2.out.bb
  have hxw2 := box_lt HA2.out.xx
  have hpw2 := box_lt HA2.out.pb
  go_wp2_with fail
  go_region_law (fail)
  all_goals
    go_wp2_with fail
    go_ret
    exact ActSays.ok HA2.out HY2.out E.out rfl ⟨1, rfl⟩
end Go.Proofs.YteoheaahlokdiaaDoor
