/- (*checker).act, walked (3 9). -/
import Derived.Test.YteoheaahlokdiaaDoorVeActB
namespace Go.Proofs.YteoheaahlokdiaaDoor
open Go.ChangeShapes Go.WideShapes Go.ChangeAt Go.RowKit

set_option maxHeartbeats 4000000 in
set_option maxRecDepth 100000 in
theorem act_3 (H p b g j k c nk ck most : Nat) (K : Option Addr) (CV AV : Value) (cols : List Col) (x : Ins) (l : List Int) (w : World) (h : ActPre w H p b g (j + k) c CV (.slice K nk ck) AV most l) (_hm : most ≤ 64) (_hj : j ≤ 64) (h3 : x.what = 3) (hk : k ≤ 1000) (ho : opErr x.arg = 0) (hk2 : arityOf (opNm x.arg) = k) (hO : ∀ w', Only (fun k => k = p ∨ H ≤ k) w w' → OpsT w') (hT : ∀ w', Only (fun k => k = p ∨ H ≤ k) w w' → LevelsT w') :
    Calls Tryd.prog 122 #[.pointer (some ⟨p, 0, none⟩), insV x, .pointer (some ⟨b, 0, none⟩)] w (ActSays H p b CV (.slice K nk ck) AV most (actP cols x l) w) := by
  have hl : l.length = j + k := by have := (h.start x).len; exact this
  obtain ⟨w1, hw1⟩ : ∃ w1, w.alloc (.cells #[.int .i64 x.what, .int .i64 x.arg, .int .i64 x.val.type, .int .i64 x.val.n, .string x.val.s] 55) = w1 := ⟨_, rfl⟩
  have hb1 : Below w.heap.size w w1 := by rw [← hw1]; exact (Below.refl _ _).alloc (Nat.le_refl _) _
  have hA := h.start x
  rw [hw1] at hA
  obtain ⟨⟨b0, bf⟩, ⟨p1, p3, pf⟩, x0, x1, x2⟩ := hA.cells
  have hc1 := (sees_ints hA.own).2.1
  have hc2 := (sees_ints hA.own).2.2.1
  unfold maxLen at hc2
  have HW1 := Lib.hid hw1
  have HB1 := Lib.hid hb1
  have HA := Lib.hid hA
  have HH := Lib.hid (show H ≤ w.heap.size by have := h.hb; have := box_lt h.bb; omega)
  have HL := Lib.hid hl
  have h1 : x.what ≠ 1 := by omega
  have h2 : x.what ≠ 2 := by omega
  have h4 : x.what ≠ 4 := by omega
  have h5 : x.what ≠ 5 := by omega
  have h6 : x.what ≠ 6 := by omega
  have h7 : x.what ≠ 7 := by omega
  have e1 : (x.what == 1) = false := beq_eq_false_iff_ne.2 h1
  have e2 : (x.what == 2) = false := beq_eq_false_iff_ne.2 h2
  have e3 : (x.what == 3) = true := beq_iff_eq.2 h3
  have e4 : (x.what == 4) = false := beq_eq_false_iff_ne.2 h4
  have e5 : (x.what == 5) = false := beq_eq_false_iff_ne.2 h5
  have e6 : (x.what == 6) = false := beq_eq_false_iff_ne.2 h6
  have e7 : (x.what == 7) = false := beq_eq_false_iff_ne.2 h7
  have htk : (l.take j).length = j := by rw [List.length_take]; omega
  have hneed : need x = k := by unfold need; rw [if_pos h3, hk2, Int.toNat_natCast]
  obtain ⟨s, hs⟩ : ∃ s, opNm x.arg = s := ⟨_, rfl⟩
  have TO := Lib.hid (fun w' hy => op_any x.arg w' (hO w' hy))
  rw [hs, ho, errV_zero] at TO
  rw [hs] at hk2
  have TA := Lib.hid (fun w' hy => arity_any s w' (hT w' hy))
  rw [hk2] at TA
  have hput0 : putTy cols x (l.drop j) = (if ruleErr s (l.drop j) ≠ 0 then (8, []) else (0, [ruleTy s (l.drop j)])) := by unfold putTy; rw [if_neg h1, if_neg h2, if_pos h3, hs]
  have E8 := Lib.hid (fun (hr : ¬ ruleErr s (l.drop j) = 0) => show actP cols x l = (8, l) by
    unfold actP
    rw [hneed, if_neg (by omega), hl, show j + k - k = j by omega, hput0, if_pos hr, if_pos (by decide)])
  have hput1 : ruleErr s (l.drop j) = 0 → putTy cols x (l.drop j) = (0, [ruleTy s (l.drop j)]) := fun hr => by rw [hput0, if_neg (fun h => h hr)]
  have E4' := Lib.hid (fun (hr : ruleErr s (l.drop j) = 0) (h64 : 64 < j + 1) => show actP cols x l = (4, l) by
    unfold actP
    rw [hneed, if_neg (by omega), hl, show j + k - k = j by omega, hput1 hr, if_neg (by simp), if_pos (by rw [List.length_append, htk]; exact h64)])
  have E0' := Lib.hid (fun (hr : ruleErr s (l.drop j) = 0) (h64 : ¬ 64 < j + 1) => show actP cols x l = (0, l.take j ++ [ruleTy s (l.drop j)]) by
    unfold actP
    rw [hneed, if_neg (by omega), hl, show j + k - k = j by omega, hput1 hr, if_neg (by simp), if_neg (by rw [List.length_append, htk]; exact h64)])
  have HO := Lib.hid hO
  have HT := Lib.hid hT
  clear hneed hput0 hput1 htk ho hk2 hs hO hT
  clear h hl hw1 hb1 hA h1 h2 h3 h4 h5 h6 h7
  unfold insV
  go_enter Tryd.func122, Tryd.ntmps122
  go_wp2_with (first | rw [HW1.out])
  refine (TO.out w1 (Only.of_below HB1.out)).mono ?_
  rintro e wa ⟨rfl, hb⟩
  have HBA := Lib.hid (below_step HB1.out hb)
  have HAA := Lib.hid (HA.out.keep hb)
  clear hb b0 bf p1 p3 pf x0 x1 x2
  obtain ⟨⟨b0, bf⟩, ⟨p1, p3, pf⟩, x0, x1, x2⟩ := HAA.out.cells
  go_wp2_with fail
  refine (TA.out wa (Only.of_below HBA.out)).mono ?_
  rintro e wb ⟨rfl, rfl⟩
  go_wp2_with fail
  refine (take_ok b g c j k l wa HAA.out.bb (sees_ints HAA.out.own) hk).mono ?_
  rintro e w2 ⟨⟨A', c', rfl, hs', hA'⟩, hw2⟩
  have HS2 := Lib.hid (show Sees w2 A' k c' 1 (intCells (l.drop j)) from by
    rw [hw2]
    refine (Only.sees ((Only.refl (fun k => k = b) _).setCell (p := ⟨b, 0, none⟩) rfl _) hs' (fun ad e => ?_))
    rw [hA' ad e]; exact fun e => HAA.out.bg e.symm)
  have HA2 := Lib.hid (show ActW w2 H p b w.heap.size g j c CV (.slice K nk ck) AV most x (l.take j) from by rw [hw2]; exact ActW.took (j := j) (k := k) HAA.out)
  have HY2 := Lib.hid (show Only (fun k => k = p ∨ H ≤ k) w w2 from by rw [hw2]; exact ((Lib.hid (Only.of_below (S := fun k => k = p ∨ H ≤ k) HBA.out)).out).setCell (p := ⟨b, 0, none⟩) (Or.inr HAA.out.hb) _)
  clear hs' hA' hw2 b0 bf p1 p3 pf x0 x1 x2
  obtain ⟨⟨b0, bf⟩, ⟨p1, p3, pf⟩, x0, x1, x2⟩ := HA2.out.cells
  have hbw2 := box_lt HA2.out.bb
  have hxw2 := box_lt HA2.out.xx
  have hpw2 := box_lt HA2.out.pb
  have TR := Lib.hid (rule_any s (l.drop j) A' k c' w2 (HO.out w2 HY2.out) (HT.out w2 HY2.out) HS2.out)
  generalize ruleErr s (l.drop j) = re at E8 E4' E0' TR
  generalize ruleTy s (l.drop j) = rt at E4' E0' TR
  go_wp2_with fail
  refine (TR.out).mono ?_
  rintro e w3 ⟨rfl, hb3⟩
  have HA3 := Lib.hid (HA2.out.keep hb3)
  have HY3 := Lib.hid (HY2.out.trans (Only.of_below hb3))
  clear hb3 b0 bf p1 p3 pf x0 x1 x2 hbw2 hxw2 hpw2
  obtain ⟨⟨b0, bf⟩, ⟨p1, p3, pf⟩, x0, x1, x2⟩ := HA3.out.cells
  have hbw3 := box_lt HA3.out.bb
  by_cases hre : re = 0
  · subst hre
    rw [errV_zero]
    have E4 := Lib.hid (E4'.out rfl)
    have E0 := Lib.hid (E0'.out rfl)
    clear E4' E0' E8
    have M := Lib.hid (fun (w5 : World) (g' cap : Nat) (hown5 : w5.ownsRow H 3 1 (.slice (some ⟨g', 0, none⟩) (j + 1) cap) (j + 1) (intCells (l.take j) ++ (#[Value.int .i64 (rt)] : Array Value).toList)) (hg5 : (w3.alloc (.cells #[Value.int .i64 (rt)] 3)).grownBy w5 (Value.slice (some ⟨g, 0, none⟩) j c).ownBlock) (hat5 : (Value.slice (some ⟨g, 0, none⟩) j c).ownBlock = some g' ∨ g' = w3.heap.size + 1) =>
      show ∃ w6, w5.setCell ⟨b, 0, none⟩ (.slice (some ⟨g', 0, none⟩) (j + 1) cap) = w6 ∧ ActW w6 H p b w.heap.size g' (j + 1) cap CV (.slice K nk ck) AV most x (l.take j ++ [rt]) ∧ (∃ u, w5.cell? ⟨b, 0, none⟩ = some u) ∧ w5.frozen? ⟨b, 0, none⟩ = false ∧ Only (fun k => k = p ∨ H ≤ k) w w6 from by
        have hbw : Below w3.heap.size w3 (w3.alloc (.cells #[Value.int .i64 (rt)] 3)) := ((Below.refl _ _).alloc (Nat.le_refl _) _)
        have hsz : (w3.alloc (.cells #[Value.int .i64 (rt)] 3)).heap.size = w3.heap.size + 1 := by simp
        obtain ⟨q1, q2, q3, q4⟩ := ActW.put (w := (w3.alloc (.cells #[Value.int .i64 (rt)] 3))) (HA3.out.keep hbw) hg5 (by rw [intCells_app] at hown5; exact hown5) (hat5.elim (fun e => Or.inl (by injection e)) (fun e => Or.inr (by rw [hsz]; omega)))
        exact ⟨_, rfl, q1, q2, q3, (HY3.out.trans (Only.of_below hbw)).trans (q4.mono fun k hk => Or.inr hk)⟩)
    have HCELL := Lib.hid (show ∀ u ∈ (#[Value.int .i64 (rt)] : Array Value).toList, u.oneCell' = true by intro u hu; simp at hu; subst hu; rfl)
    have HSZ := Lib.hid (show H ≤ w3.heap.size by have := HY3.out.size; have := HH.out; omega)
    have HBYT := Lib.hid (show (j + 1) * 8 ≤ 140737488355328 by omega)
    by_cases h64 : 64 < j + 1
    · have d64 : decide (64 < (j : Int) + 1) = true := decide_eq_true (by omega)
      have E := Lib.hid (E4.out h64)
      clear h64 E4 E0
      go_wp2_with (first | rw [HW6.out] | (at_builtin; refine list_append_one stSlice rfl _ _ rfl rfl rfl HA3.out.own HSZ.out rfl HCELL.out HBYT.out ?_; intro g' cap w5 hown5 hg5 hat5; obtain ⟨w6, hw6, ha6, ⟨cu, hcu⟩, hfz, hy6⟩ := M.out w5 g' cap hown5 hg5 hat5; have HW6 := Lib.hid hw6; have HA6 := Lib.hid ha6; have HY6 := Lib.hid hy6; clear hown5 hg5 hat5 hw6 ha6 hy6; clear b0 bf p1 p3 pf x0 x1 x2; obtain ⟨⟨b0, bf⟩, ⟨p1, p3, pf⟩, x0, x1, x2⟩ := HA6.out.cells))
      go_ret
      exact ActSays.bad HY6.out E.out rfl (by decide)
    · have d64 : decide (64 < (j : Int) + 1) = false := decide_eq_false (by omega)
      have E := Lib.hid (E0.out h64)
      clear h64 E4 E0
      go_wp2_with (first | rw [HW6.out] | (at_builtin; refine list_append_one stSlice rfl _ _ rfl rfl rfl HA3.out.own HSZ.out rfl HCELL.out HBYT.out ?_; intro g' cap w5 hown5 hg5 hat5; obtain ⟨w6, hw6, ha6, ⟨cu, hcu⟩, hfz, hy6⟩ := M.out w5 g' cap hown5 hg5 hat5; have HW6 := Lib.hid hw6; have HA6 := Lib.hid ha6; have HY6 := Lib.hid hy6; clear hown5 hg5 hat5 hw6 ha6 hy6; clear b0 bf p1 p3 pf x0 x1 x2; obtain ⟨⟨b0, bf⟩, ⟨p1, p3, pf⟩, x0, x1, x2⟩ := HA6.out.cells))
      go_region_law (fail)
      all_goals
        go_wp2_with fail
        go_ret
        exact ActSays.ok HA6.out HY6.out E.out rfl ⟨1, rfl⟩
  · rw [errV_ne hre]
    have E := Lib.hid (E8.out hre)
    clear hre E4' E0' E8
    go_wp2_with fail
    go_ret
    exact ActSays.bad HY3.out E.out rfl (by decide)
set_option maxHeartbeats 4000000 in
set_option maxRecDepth 100000 in
theorem act_s3 (H p b g j k c nk ck most : Nat) (K : Option Addr) (CV AV : Value) (cols : List Col) (x : Ins) (l : List Int) (w : World) (h : ActPre w H p b g (j) c CV (.slice K nk ck) AV most l) (_hm : most ≤ 64) (_hj : j ≤ 64) (h3 : x.what = 3) (hk : k ≤ 1000) (ho : opErr x.arg = 0) (hk2 : arityOf (opNm x.arg) = k) (hO : ∀ w', Only (fun k => k = p ∨ H ≤ k) w w' → OpsT w') (hT : ∀ w', Only (fun k => k = p ∨ H ≤ k) w w' → LevelsT w') (hjk : j < k) :
    Calls Tryd.prog 122 #[.pointer (some ⟨p, 0, none⟩), insV x, .pointer (some ⟨b, 0, none⟩)] w (ActSays H p b CV (.slice K nk ck) AV most (actP cols x l) w) := by
  have hl : l.length = j := by have := (h.start x).len; exact this
  obtain ⟨w1, hw1⟩ : ∃ w1, w.alloc (.cells #[.int .i64 x.what, .int .i64 x.arg, .int .i64 x.val.type, .int .i64 x.val.n, .string x.val.s] 55) = w1 := ⟨_, rfl⟩
  have hb1 : Below w.heap.size w w1 := by rw [← hw1]; exact (Below.refl _ _).alloc (Nat.le_refl _) _
  have hA := h.start x
  rw [hw1] at hA
  obtain ⟨⟨b0, bf⟩, ⟨p1, p3, pf⟩, x0, x1, x2⟩ := hA.cells
  have hc1 := (sees_ints hA.own).2.1
  have hc2 := (sees_ints hA.own).2.2.1
  unfold maxLen at hc2
  have HW1 := Lib.hid hw1
  have HB1 := Lib.hid hb1
  have HA := Lib.hid hA
  have HH := Lib.hid (show H ≤ w.heap.size by have := h.hb; have := box_lt h.bb; omega)
  have HL := Lib.hid hl
  have h1 : x.what ≠ 1 := by omega
  have h2 : x.what ≠ 2 := by omega
  have h4 : x.what ≠ 4 := by omega
  have h5 : x.what ≠ 5 := by omega
  have h6 : x.what ≠ 6 := by omega
  have h7 : x.what ≠ 7 := by omega
  have e1 : (x.what == 1) = false := beq_eq_false_iff_ne.2 h1
  have e2 : (x.what == 2) = false := beq_eq_false_iff_ne.2 h2
  have e3 : (x.what == 3) = true := beq_iff_eq.2 h3
  have e4 : (x.what == 4) = false := beq_eq_false_iff_ne.2 h4
  have e5 : (x.what == 5) = false := beq_eq_false_iff_ne.2 h5
  have e6 : (x.what == 6) = false := beq_eq_false_iff_ne.2 h6
  have e7 : (x.what == 7) = false := beq_eq_false_iff_ne.2 h7
  have E := Lib.hid (show actP cols x l = (6, l) by
    unfold actP need
    rw [if_pos h3, hk2, Int.toNat_natCast, if_pos (by omega)])
  obtain ⟨s, hs⟩ : ∃ s, opNm x.arg = s := ⟨_, rfl⟩
  have TO := Lib.hid (fun w' hy => op_any x.arg w' (hO w' hy))
  rw [hs, ho, errV_zero] at TO
  rw [hs] at hk2
  have TA := Lib.hid (fun w' hy => arity_any s w' (hT w' hy))
  rw [hk2] at TA
  clear ho hk2 hs hO hT
  clear h hl hw1 hb1 hA h1 h2 h3 h4 h5 h6 h7
  unfold insV
  go_enter Tryd.func122, Tryd.ntmps122
  go_wp2_with (first | rw [HW1.out])
  refine (TO.out w1 (Only.of_below HB1.out)).mono ?_
  rintro e wa ⟨rfl, hb⟩
  have HBA := Lib.hid (below_step HB1.out hb)
  have HAA := Lib.hid (HA.out.keep hb)
  clear hb b0 bf p1 p3 pf x0 x1 x2
  obtain ⟨⟨b0, bf⟩, ⟨p1, p3, pf⟩, x0, x1, x2⟩ := HAA.out.cells
  go_wp2_with fail
  refine (TA.out wa (Only.of_below HBA.out)).mono ?_
  rintro e wb ⟨rfl, rfl⟩
  go_wp2_with fail
  refine (take_short b g c j k wa HAA.out.bb hjk (by omega) (by unfold maxLen; omega) hk).mono ?_
  rintro e w2 ⟨rfl, rfl⟩
  go_wp2_with fail
  go_ret
  exact ActSays.bad (Only.of_below HBA.out) E.out rfl (by decide)
end Go.Proofs.YteoheaahlokdiaaDoor
