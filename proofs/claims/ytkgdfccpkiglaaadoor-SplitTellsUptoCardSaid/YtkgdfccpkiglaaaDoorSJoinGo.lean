/- split.Join, walked: what any Outs come to together. -/
import Derived.Test.YtkgdfccpkiglaaaDoorSJoinSort
import Derived.Test.YtkgdfccpkiglaaaDoorSParse
namespace Go.Proofs.YtkgdfccpkiglaaaDoor
open Go.ChangeShapes Go.WideShapes Go.ChangeAt Go.RowKit
namespace SortLaw
set_option maxHeartbeats 2000000 in
theorem join_range (A : Option Addr) (m c : Nat) (l : List OutP) (gI : Int) (w : World) (h : gI < 0 ∨ 6 < gI) :
  Calls Tryd.prog 10 #[.slice A m c, .int .i64 gI] w (JoinPost gI l w errV) := by
 have HE := Lib.hid (show joinErr gI l = 1 by unfold joinErr; rw [if_pos h])
 by_cases h1 : gI < 0
 ·have d1 : decide (gI < 0) = true := decide_eq_true h1
  clear h h1
  go_enter Tryd.func10, Tryd.ntmps10
  go_wp2_with fail
  go_ret2
  exact ⟨Or.inl ⟨by rw [HE.out]; decide, by rw [HE.out]; rfl⟩, (Below.refl _ _).alloc (Nat.le_refl _) _⟩
 ·have d1 : decide (gI < 0) = false := decide_eq_false h1
  have d2 : decide (6 < gI) = true := decide_eq_true (by omega)
  clear h h1
  go_enter Tryd.func10, Tryd.ntmps10
  go_wp2_with fail
  go_ret2
  exact ⟨Or.inl ⟨by rw [HE.out]; decide, by rw [HE.out]; rfl⟩, (Below.refl _ _).alloc (Nat.le_refl _) _⟩
theorem short_all {G : Nat} {ls : List ListH} {i j : Nat} {x : ListH} {h : OutH} (hx : ls[i]? = some x) (hh : x.hs[j]? = some h) (h0 : h.o.row.length ≠ 0) (h1 : h.o.row.length < G) (hG : G ≤ 6) : joinErr (G : Int) (outsOf ls) = 3 := by
 unfold joinErr
 rw [if_neg (by omega), if_pos]
 rw [List.any_eq_true]
 refine ⟨h.o, List.mem_map_of_mem (done_mem hx hh), ?_⟩
 unfold short
 rw [Int.toNat_natCast]
 simp [h0, h1]
set_option maxHeartbeats 8000000 in
set_option maxRecDepth 100000 in
theorem join_go (A : Option Addr) (m c : Nat) (ls : List ListH) (G : Nat) (w : World) (hG : G ≤ 6) (hS : SeesLists w A m c ls) (hm : m ≤ 1048576) (hl : ∀ l ∈ ls, l.hs.length ≤ 1048576) (hr : ∀ h ∈ flat ls, h.o.row.length ≤ 1048576) :
  Calls Tryd.prog 10 #[.slice A m c, .int .i64 (G : Nat)] w (JoinPost (G : Nat) (outsOf ls) w errV) := by
 obtain ⟨w0, hw0⟩ : ∃ w0, w.alloc (.cells #[.int .i64 (G : Nat)] 3) = w0 := ⟨_, rfl⟩
 have hb0 : Below w.heap.size w w0 := by rw [← hw0]; exact (Below.refl _ _).alloc (Nat.le_refl _) _
 have hc0 : w0.cell? ⟨w.heap.size, 0, none⟩ = some (.int .i64 (G : Nat)) := by rw [← hw0]; simp
 have hlt0 : w.heap.size < w0.heap.size := by rw [← hw0]; simp
 have HS := Lib.hid (hS.keep hb0)
 have HW0 := Lib.hid hw0
 have HB0 := Lib.hid hb0
 have HC0 := Lib.hid hc0
 have HLS := Lib.hid hl
 have HRS := Lib.hid hr
 have HLN := Lib.hid hS.len
 have HFL := Lib.hid (show (flat ls).length ≤ 1099511627776 by
  have h1 := flat_len_le hl
  rw [hS.len] at h1
  have := Nat.mul_le_mul_right 1048576 hm
  omega)
 have d1 : decide ((G : Int) < 0) = false := decide_eq_false (by omega)
 have d2 : decide (6 < (G : Int)) = false := decide_eq_false (by omega)
 have d2' : decide (6 < G) = false := decide_eq_false (by omega)
 have hmc := hS.1.2.1
 have hcm := hS.1.2.2.1
 unfold maxLen at hcm
 have HG6 := Lib.hid hG
 clear hS hw0 hb0 hl hr hG
 go_enter Tryd.func10, Tryd.ntmps10
 go_wp2_with (first | rw [HW0.out])
 clear hc0
 go_loopw [4, 6, 25] (fun v4 v6 i wr => ∃ (k : Nat) (cl bd : List OutH), k ≤ m ∧ i = .int .i64 k ∧ JSt w0.heap.size w0 wr v4 v6 cl bd ∧ (∀ y ∈ cl, ∀ ad, y.p = some ad → ad.block < wr.heap.size) ∧
   cl.map (·.o) = goods (doneOf ls k 0) ∧ bd.map (·.o) = bads (doneOf ls k 0) ∧ ∀ o ∈ doneOf ls k 0, short G o = false) (fun _ _ i _ => m - (intOf i).toNat)
 case atStart => exact ⟨0, [], [], Nat.zero_le _, rfl, JSt.start _ _, by simp, by rw [done_zero]; rfl, by rw [done_zero]; rfl, by rw [done_zero]; simp⟩
 case round =>
  obtain ⟨k, cl, bd, hk, rfl, hj, hlt, hgo, hba, hsh⟩ := hrel
  have HJ := Lib.hid hj
  have HLT := Lib.hid hlt
  have HGO := Lib.hid hgo
  have HBA := Lib.hid hba
  have HSH := Lib.hid hsh
  have hb := hj.below
  clear hj hlt hgo hba hsh
  by_cases hlk : k < m
  ·obtain ⟨g, o, x, rfl, hg, hx, hsx, c1⟩ := (HS.out.keep hb).at_ hlk
   have HX := Lib.hid hx
   have HSX := Lib.hid (show ∀ w', Below w0.heap.size w0 w' → SeesOuts w' x.R x.hs.length x.c x.hs from fun w' hb' => (HS.out.keep hb').2 x (List.mem_of_getElem? hx))
   have HXL := Lib.hid (HLS.out x (List.mem_of_getElem? hx))
   have hxc := hsx.1.2.1
   have hxm := hsx.1.2.2.1
   unfold maxLen at hxm
   have HXN := Lib.hid (show ∀ j, j ≤ x.hs.length → (doneOf ls k j).length ≤ 1099511627776 from fun j _ => Nat.le_trans done_sub HFL.out)
   obtain ⟨R, xc, xs⟩ := x
   simp only at *
   generalize hxn : xs.length = xn at *
   have HXX := Lib.hid hxn
   clear hb hx hsx hxn
   go_wp2_with fail
   go_loopw [4, 6, 31] (fun v4 v6 i wr => ∃ (j : Nat) (cl bd : List OutH), j ≤ xn ∧ i = .int .i64 j ∧ JSt w0.heap.size w0 wr v4 v6 cl bd ∧ (∀ y ∈ cl, ∀ ad, y.p = some ad → ad.block < wr.heap.size) ∧
     cl.map (·.o) = goods (doneOf ls k j) ∧ bd.map (·.o) = bads (doneOf ls k j) ∧ ∀ o ∈ doneOf ls k j, short G o = false) (fun _ _ i _ => xn - (intOf i).toNat)
   case atStart => exact ⟨0, cl, bd, Nat.zero_le _, rfl, HJ.out, HLT.out, HGO.out, HBA.out, HSH.out⟩
   case round =>
    obtain ⟨j, cl, bd, hj, rfl, hjs, hlt, hgo, hba, hsh⟩ := hrel
    have HJ2 := Lib.hid hjs
    have HLT2 := Lib.hid hlt
    have HGO2 := Lib.hid hgo
    have HBA2 := Lib.hid hba
    have HSH2 := Lib.hid hsh
    have hb := hjs.below
    clear hjs hlt hgo hba hsh
    by_cases hlj : j < xn
    ·obtain ⟨g2, o2, h, rfl, hg2, hh, hsh, a0, a1, a2⟩ := (HSX.out wr hb).at_ hlj
     have HRL := Lib.hid (HRS.out h (done_mem HX.out hh))
     have HDS := Lib.hid (done_step HX.out hh)
     have HSHORT := Lib.hid (fun h0 h1 => short_all HX.out hh h0 h1 HG6.out)
     have HN4 := Lib.hid (show cl.length ≤ 1099511627776 ∧ bd.length ≤ 1099511627776 by
      have h1 := congrArg List.length HGO2.out
      have h2 := congrArg List.length HBA2.out
      rw [List.length_map] at h1 h2
      have h3 : (goods (doneOf ls k j)).length ≤ (doneOf ls k j).length := List.length_filter_le _ _
      have h4 : (bads (doneOf ls k j)).length ≤ (doneOf ls k j).length := List.length_filter_le _ _
      have := HXN.out j hj
      omega)
     have hBw : w0.heap.size ≤ wr.heap.size := hb.size
     obtain ⟨p, pc, row, err, beg⟩ := h
     simp only at *
     obtain ⟨w1, hw1⟩ : ∃ w1, wr.alloc (.cells #[.slice p row.length pc, .int .i64 err, .int .i64 beg] 52) = w1 := ⟨_, rfl⟩
     have hb1 : Below wr.heap.size wr w1 := by rw [← hw1]; exact (Below.refl _ _).alloc (Nat.le_refl _) _
     have hrow1 : w1.heap[wr.heap.size]? = some (.cells #[.slice p row.length pc, .int .i64 err, .int .i64 beg] 52 (0, 0)) := by rw [← hw1]; exact heap_alloc_new wr _
     have hlt1 : wr.heap.size < w1.heap.size := by rw [← hw1]; simp
     have J1 := HJ2.out.keep hBw hb1
     have HSH1 := Lib.hid (hsh.keep hb1)
     have HLT1 : ∀ y ∈ cl, ∀ ad, y.p = some ad → ad.block < w1.heap.size := fun y hy ad e => Nat.lt_trans (HLT2.out y hy ad e) hlt1
     have HSTB := Lib.hid (fun (h0 : row.length = 0) v' w4 => J1.stepB (x := ⟨p, pc, row, err, beg⟩) (w1 := w4) (v' := v') (Nat.le_trans hBw hb1.size) HSH1.out h0 HLT1)
     have HW1 := Lib.hid hw1
     have HR1 := Lib.hid hrow1
     have HB1 := Lib.hid hb1
     have HJ1 := Lib.hid J1
     have HLT1' := Lib.hid HLT1
     have HHB := Lib.hid hb
     obtain ⟨y0, y1, y2⟩ := box3 hrow1
     have hw1s : w0.heap.size ≤ w1.heap.size := Nat.le_trans hBw hb1.size
     simp only at HSTB
     generalize hrn : row.length = rn at *
     have HRN := Lib.hid hrn
     clear hb hh hsh hw1 hrow1 hb1 J1 HLT1 hrn
     by_cases hr0 : rn = 0
     ·have q0 : ((rn : Int) == 0) = true := by rw [hr0]; rfl
      have HR0 := Lib.hid hr0
      clear hr0
      go_wp2_with (first
       | rw [HW1.out]
       | (at_builtin; refine wpList_append_one_at outSlice rfl _ _ rfl rfl rfl HJ1.out.own6 hw1s rfl (out_cell' p rn pc err beg) (by have := HN4.out.2; omega) ?_; intro v1 w4 hown4 hg4 hat4; have HST4 := Lib.hid (HSTB.out HR0.out v1 w4 hown4 hg4 hat4); clear hown4 hg4 hat4))
      go_roundw
      case rel =>
       have hd := HDS.out
       have h0 : row.length = 0 := HRN.out.trans HR0.out
       refine ⟨j + 1, cl, bd ++ [⟨p, pc, ⟨row, err, beg⟩⟩], by omega, by go_num, HST4.out.1, HST4.out.2, ?_, ?_, ?_⟩
       ·rw [hd, goods_snoc, if_pos h0]; exact HGO2.out
       ·rw [hd, bads_snoc, if_pos h0, List.map_append, HBA2.out]; rfl
       ·intro o ho
        rw [hd] at ho
        rcases List.mem_append.1 ho with ho | ho
        ·exact HSH2.out o ho
        ·obtain rfl : o = ⟨row, err, beg⟩ := by simpa using ho
         unfold short; simp [h0]
      case measure => simp [intOf]; omega
     ·have q0 : ((rn : Int) == 0) = false := by simp; omega
      have g0 := (HHB.out.cell (p := ⟨w.heap.size, 0, none⟩) hlt0).trans HC0.out
      have g1 := (HB1.out.cell (p := ⟨w.heap.size, 0, none⟩) (Nat.lt_of_lt_of_le hlt0 HHB.out.size)).trans g0
      have HR0 := Lib.hid hr0
      by_cases hrg : rn < G
      ·have q1 : decide (rn < G) = true := decide_eq_true hrg
       have q1' : decide ((rn : Int) < (G : Int)) = true := decide_eq_true (by omega)
       have HE := Lib.hid (HSHORT.out hr0 hrg)
       clear hr0
       go_wp2_with (first
        | rw [HW1.out])
       go_ret2
       exact ⟨Or.inl ⟨by rw [HE.out]; decide, by rw [HE.out]; rfl⟩, below_step HB0.out (HHB.out.trans (HB1.out.mono hBw))⟩
      ·have q1 : decide (rn < G) = false := decide_eq_false hrg
       have q1' : decide ((rn : Int) < (G : Int)) = false := decide_eq_false (by omega)
       obtain ⟨ga, oa, rfl⟩ : ∃ ga oa, p = some ⟨ga, oa, none⟩ := by
        have h1 := HSH1.out
        unfold SeesOut at h1
        obtain ⟨ga, oa, e, -⟩ := h1.2.2.2.2.2 (by show 0 < row.length; rw [HRN.out]; omega)
        exact ⟨ga, oa, e⟩
       have TC := Lib.hid (clone_any ⟨ga, oa, none⟩ pc rn row w1 (by have := HRL.out; omega) (by have := HSH1.out; unfold SeesOut at this; simp only at this; rwa [HRN.out] at this))
       have hRG := hrg
       have HRG := Lib.hid hRG
       clear hr0 hrg hRG g0
       go_wp2_with (first
        | rw [HW1.out])
       refine (TC.out).mono ?_
       rintro e w2 ⟨⟨A', c', rfl, hsv, hfar⟩, hb2⟩
       have J2 := HJ1.out.keep hw1s hb2
       have hrow2 := (hb2.block wr.heap.size hlt1).trans HR1.out
       obtain ⟨z0, z1, z2⟩ := box3 hrow2
       have zf := frozen_of_row w2 wr.heap.size 0 _ _ hrow2
       have zl : wr.heap.size < w2.heap.size := Nat.lt_of_lt_of_le hlt1 hb2.size
       obtain ⟨w3, hw3⟩ : ∃ w3, w2.setCell ⟨wr.heap.size, 0, none⟩ (.slice A' rn c') = w3 := ⟨_, rfl⟩
       have hrow3 : w3.heap[wr.heap.size]? = some (.cells #[.slice A' rn c', .int .i64 err, .int .i64 beg] 52 (0, 0)) := by rw [← hw3]; exact heap_setCell_same _ _ _ _ _ _ hrow2
       have hb23 : Below wr.heap.size wr w3 := by
        rw [← hw3]
        exact (HB1.out.trans (hb2.mono HB1.out.size)).setCell (p := ⟨wr.heap.size, 0, none⟩) (Nat.le_refl _) _
       have hon : Only (fun k => k = wr.heap.size) w2 w3 := by rw [← hw3]; exact (Only.refl (fun k => k = wr.heap.size) w2).setCell (p := ⟨wr.heap.size, 0, none⟩) rfl _
       have J3 := HJ2.out.keep hBw hb23
       have hsv3 : SeesVals w3 A' rn c' row := hon.vals_far hsv (fun _ ad e => by have := hfar ad e; omega)
       have hszw : w3.heap.size = w2.heap.size := by rw [← hw3]; simp [World.setCell]
       have hAlt : ∀ ad, A' = some ad → ad.block < w3.heap.size := fun ad e => by
        obtain ⟨g9, o9, e9, hg9, -⟩ := hsv3.2.2.2.2.2 (by have := HR0.out; omega)
        rw [e] at e9; injection e9 with e9; rw [e9]; exact hg9
       have hoff : ∀ v, (∀ kk, v.ownBlock = some kk → kk < wr.heap.size) → Off v ⟨A', c', ⟨row, err, beg⟩⟩ := fun v hv ad e e2 => by
        have := hv _ e2
        have := hfar ad e
        omega
       have HSTG := Lib.hid (fun v' w4 => J3.step (x := ⟨A', c', ⟨row, err, beg⟩⟩) (w1 := w4) (v' := v') (by rw [hszw]; exact Nat.le_trans hw1s hb2.size) (by show SeesVals w3 A' row.length c' row; rw [HRN.out]; exact hsv3)
        ⟨hoff _ fun kk e => (HJ2.out.own4.lt kk e).2, hoff _ fun kk e => (HJ2.out.own6.lt kk e).2⟩ hAlt (fun y hy ad e => by have := HLT2.out y hy ad e; omega))
       have HRNN := HRN.out
       simp only at HSTG
       rw [HRNN] at HSTG
       have HJ3 := Lib.hid J3
       have HW3 := Lib.hid hw3
       have hw3s : w0.heap.size ≤ w3.heap.size := by rw [hszw]; exact Nat.le_trans hw1s hb2.size
       clear J2 hrow2 hsv hfar hb2 hon hsv3 hszw hAlt hoff HRNN J3 TC hb23 hw3
       obtain ⟨x0, x1, x2⟩ := box3 hrow3
       clear hrow3 y0 y1 y2
       go_wp2_with (first
        | rw [HW3.out]
        | (at_builtin; refine wpList_append_one_at outSlice rfl _ _ rfl rfl rfl HJ3.out.own4 hw3s rfl (out_cell' A' rn c' err beg) (by have := HN4.out.1; omega) ?_; intro v1 w4 hown4 hg4 hat4; have HST4 := Lib.hid (HSTG.out v1 w4 hown4 hg4 hat4); clear hown4 hg4 hat4))
       go_roundw
       case rel =>
        have hd := HDS.out
        have h0 : ¬ row.length = 0 := by rw [HRN.out]; exact HR0.out
        refine ⟨j + 1, cl ++ [⟨A', c', ⟨row, err, beg⟩⟩], bd, by omega, by go_num, HST4.out.1, HST4.out.2, ?_, ?_, ?_⟩
        ·rw [hd, goods_snoc, if_neg h0, List.map_append, HGO2.out]; rfl
        ·rw [hd, bads_snoc, if_neg h0]; exact HBA2.out
        ·intro o ho
         rw [hd] at ho
         rcases List.mem_append.1 ho with ho | ho
         ·exact HSH2.out o ho
         ·obtain rfl : o = ⟨row, err, beg⟩ := by simpa using ho
          unfold short
          have := HRG.out
          have := HRN.out
          simp only [Bool.and_eq_false_iff]
          exact Or.inr (decide_eq_false (by omega))
       case measure => simp [intOf]; omega
    ·obtain rfl : j = xn := by omega
     have hd := done_next HX.out
     simp only at hd
     rw [HXX.out] at hd
     have HD := Lib.hid hd
     clear hb hd
     go_wp2_with fail
     go_roundw
     case rel => exact ⟨k + 1, cl, bd, by omega, by go_num, HJ2.out, HLT2.out, by rw [← HD.out]; exact HGO2.out, by rw [← HD.out]; exact HBA2.out, by rw [← HD.out]; exact HSH2.out⟩
     case measure => simp [intOf]; omega
  ·obtain rfl : k = m := by omega
   obtain ⟨wE, hwE⟩ : ∃ wE, wE = wr := ⟨_, rfl⟩
   subst hwE
   have hdl : doneOf ls k 0 = outsOf ls := by rw [← HLN.out]; exact done_all
   have hgo := HGO.out
   have hba := HBA.out
   have hsh := HSH.out
   rw [hdl] at hgo hba hsh
   have HGL := Lib.hid hgo
   have HBL := Lib.hid hba
   have HSL := Lib.hid hsh
   have hn4b : cl.length ≤ 1099511627776 := by
    have h1 := congrArg List.length hgo
    rw [List.length_map] at h1
    have h3 : (goods (outsOf ls)).length ≤ (outsOf ls).length := List.length_filter_le _ _
    have h4 : (outsOf ls).length = (flat ls).length := by unfold outsOf; rw [List.length_map]
    have := HFL.out
    omega
   have hn6b : bd.length ≤ 1099511627776 := by
    have h1 := congrArg List.length hba
    rw [List.length_map] at h1
    have h3 : (bads (outsOf ls)).length ≤ (outsOf ls).length := List.length_filter_le _ _
    have h4 : (outsOf ls).length = (flat ls).length := by unfold outsOf; rw [List.length_map]
    have := HFL.out
    omega
   have HN6 := Lib.hid hn6b
   obtain ⟨VA, VC, rfl⟩ := own_shape HJ.out.own4
   have hss := Sees.of_own HJ.out.own4
   obtain ⟨VA', VC', hv', hse⟩ := hss
   injection hv' with e1 e2 e3
   subst e1 e3
   clear e2
   generalize hn4 : cl.length = n4 at *
   have HN4 := Lib.hid hn4
   have HSO := Lib.hid (show SeesOuts wE VA n4 VC cl from ⟨hse, fun h hh => (HJ.out.rows h hh).1⟩)
   have hvc := hse.2.1
   have hvm := hse.2.2.1
   unfold maxLen at hvm
   have HLONG := Lib.hid (show ∀ h ∈ cl, G ≤ h.o.row.length by
    intro h hh
    have h1 : h.o ∈ goods (outsOf ls) := by rw [← hgo]; exact List.mem_map_of_mem hh
    unfold goods at h1
    obtain ⟨h2, h3⟩ := List.mem_filter.1 h1
    have h4 := hsh _ h2
    unfold short at h4
    simp at h3
    simp [h3] at h4
    exact h4)
   have HERR := Lib.hid (show ∀ (q : Nat) (x : OutH), cl[q]? = some x → (∀ y ∈ (goods (outsOf ls)).take q, rowErr (firstOf (goods (outsOf ls))) y.row G = 0) → rowErr (firstOf (goods (outsOf ls))) x.o.row G ≠ 0 →
     joinErr (G : Int) (outsOf ls) = rowErr (firstOf (goods (outsOf ls))) x.o.row G by
    intro q x hx hp hn
    have hg6 := HG6.out
    unfold joinErr
    rw [if_neg (by omega), if_neg, Int.toNat_natCast]
    ·refine allErr_at hp ?_ hn
     rw [← hgo, List.getElem?_map, hx]; rfl
    ·rw [Int.toNat_natCast, List.any_eq_true]
     rintro ⟨o, ho, hs⟩
     rw [hsh o ho] at hs; cases hs)
   have hb := HJ.out.below
   have HHB := Lib.hid hb
   have hBw : w0.heap.size ≤ wE.heap.size := hb.size
   clear hb hse hdl hgo hba hsh hn4 hn6b
   go_wp2_with fail
   go_loopw [4, 63] (fun v4 i wx => ∃ q : Nat, q ≤ n4 ∧ i = .int .i64 q ∧ v4 = .slice VA n4 VC ∧ Below wE.heap.size wE wx ∧ ∀ y ∈ (goods (outsOf ls)).take q, rowErr (firstOf (goods (outsOf ls))) y.row G = 0) (fun _ i _ => n4 - (intOf i).toNat)
   case atStart => exact ⟨0, Nat.zero_le _, rfl, rfl, Below.refl _ _, by simp⟩
   case round =>
    obtain ⟨q, hq, rfl, rfl, hbx, hzero⟩ := hrel
    have HZE := Lib.hid hzero
    have HBX := Lib.hid hbx
    clear hzero
    by_cases hqn : q < n4
    ·obtain ⟨g, o, x, rfl, hg, hx, hsx, a0, a1, a2⟩ := (HSO.out.keep hbx).at_ hqn
     have HX := Lib.hid hx
     obtain ⟨p, pc, row, err, beg⟩ := x
     simp only at *
     have HLX := Lib.hid (HLONG.out _ (List.mem_of_getElem? hx))
     obtain ⟨w1, hw1⟩ : ∃ w1, wr.alloc (.cells #[.slice p row.length pc, .int .i64 err, .int .i64 beg] 52) = w1 := ⟨_, rfl⟩
     have hb1 : Below wr.heap.size wr w1 := by rw [← hw1]; exact (Below.refl _ _).alloc (Nat.le_refl _) _
     have hrow1 : w1.heap[wr.heap.size]? = some (.cells #[.slice p row.length pc, .int .i64 err, .int .i64 beg] 52 (0, 0)) := by rw [← hw1]; exact heap_alloc_new wr _
     have hlt1 : wr.heap.size < w1.heap.size := by rw [← hw1]; simp
     obtain ⟨y0, y1, y2⟩ := box3 hrow1
     have HY0 := Lib.hid y0
     have g0 := ((HHB.out.trans (hbx.mono hBw)).cell (p := ⟨w.heap.size, 0, none⟩) hlt0).trans HC0.out
     have g1 := (hb1.cell (p := ⟨w.heap.size, 0, none⟩) (by have := HHB.out.size; have := hbx.size; show w.heap.size < _; omega)).trans g0
     have HW1 := Lib.hid hw1
     have HBE := Lib.hid (hbx.trans (hb1.mono hbx.size))
     obtain ⟨first, hf0⟩ : ∃ first, cl[0]? = some first := ⟨_, List.getElem?_eq_getElem (by rw [HN4.out]; omega)⟩
     have HF0 := Lib.hid hf0
     have HFR := Lib.hid (show firstOf (goods (outsOf ls)) = first.o.row by
      rw [← HGL.out]
      unfold firstOf
      cases cl with
      | nil => simp at hf0
      | cons a l =>
       obtain rfl : a = first := by simpa using hf0
       rfl)
     have HLF := Lib.hid (HLONG.out _ (List.mem_of_getElem? hf0))
     have HSF := Lib.hid ((HSO.out.2 _ (List.mem_of_getElem? hf0)).keep HBE.out)
     have HSXX := Lib.hid (hsx.keep hb1)
     have HXM := Lib.hid (show (goods (outsOf ls))[q]? = some ⟨row, err, beg⟩ by rw [← HGL.out, List.getElem?_map, hx]; rfl)
     have HSC := Lib.hid (HSO.out.keep HBE.out)
     clear hb1 hrow1 hw1 hx hsx hf0 hg hbx
     go_wp2_with (first | rw [HW1.out])
     clear g0 g1 y0 y1 y2
     obtain ⟨wA, hwA⟩ : ∃ wA, wA = wr := ⟨_, rfl⟩
     subst hwA
     obtain ⟨fp, fc, frow, ferr, fbeg⟩ := first
     simp only at *
     generalize hrl : row.length = rl at *
     generalize hfl : frow.length = fl at *
     have HRL := Lib.hid hrl
     have HFLN := Lib.hid hfl
     have hlx := HLX.out
     have hlf := HLF.out
     go_loopw [4, 68] (fun v4 i wx => ∃ r : Nat, r ≤ G ∧ i = .int .i64 r ∧ v4 = .slice (some ⟨g, o, none⟩) n4 VC ∧ rowErr frow row r = 0 ∧ Below w1.heap.size w1 wx) (fun _ i _ => G - (intOf i).toNat)
     case atStart => exact ⟨0, Nat.zero_le _, rfl, rfl, rfl, Below.refl _ _⟩
     case round =>
      obtain ⟨r, hr, rfl, rfl, hre, hbr⟩ := hrel
      have HRE := Lib.hid hre
      have HBR := Lib.hid hbr
      clear hre
      by_cases hrG : r < G
      ·obtain ⟨g9, o9, x9, e9, hg9, hx9, -, f0, -, -⟩ := (HSC.out.keep hbr).at_ (k := 0) (by omega)
       cases e9
       obtain rfl : x9 = ⟨fp, fc, ⟨frow, ferr, fbeg⟩⟩ := by rw [HF0.out] at hx9; exact (Option.some.inj hx9).symm
       simp only [Nat.zero_mul, Nat.add_zero] at f0
       rw [hfl] at f0
       have hsf := HSF.out.keep hbr
       have hsx := HSXX.out.keep hbr
       unfold SeesOut at hsf hsx
       simp only at hsf hsx
       rw [hfl] at hsf
       rw [hrl] at hsx
       have hfm := hsf.2.2.2.1
       have hfc := hsf.2.2.1
       have hxm := hsx.2.2.2.1
       have hxc := hsx.2.2.1
       unfold maxLen at hfm hxm
       obtain ⟨gx, ox, xv, rfl, hgx, hxv, p0, p1, p2⟩ := hsf.at_ (k := r) (by omega)
       obtain ⟨gy, oy, yv, rfl, hgy, hyv, q0, q1, q2⟩ := hsx.at_ (k := r) (by omega)
       have b0 := (hbr.cell (p := ⟨wA.heap.size, 0, none⟩) hlt1).trans HY0.out
       have hbl : wA.heap.size < wr.heap.size := Nat.lt_of_lt_of_le hlt1 hbr.size
       have HNX := Lib.hid (show rowErr frow row (r + 1) = cmpErr xv yv by
        rw [rowErr, HRE.out, if_pos rfl, List.getD_eq_getElem?_getD, List.getD_eq_getElem?_getD, hxv, hyv]; rfl)
       have KP := Lib.hid (fun wq (hq : Below wr.heap.size wr wq) => show wq.cell? ⟨g, o, none⟩ = some (.slice (some ⟨gx, ox, none⟩) fl fc) ∧ wq.cell? ⟨wA.heap.size, 0, none⟩ = some (.slice (some ⟨gy, oy, none⟩) rl pc) ∧
         wq.cell? ⟨gx, ox + r * 3, none⟩ = some (.int .i64 xv.type) ∧ wq.cell? ⟨gx, ox + r * 3 + 1, none⟩ = some (.int .i64 xv.n) ∧ wq.cell? ⟨gx, ox + r * 3 + 2, none⟩ = some (.string xv.s) ∧
         wq.cell? ⟨gy, oy + r * 3, none⟩ = some (.int .i64 yv.type) ∧ wq.cell? ⟨gy, oy + r * 3 + 1, none⟩ = some (.int .i64 yv.n) ∧ wq.cell? ⟨gy, oy + r * 3 + 2, none⟩ = some (.string yv.s) from
        ⟨(hq.cell (p := ⟨g, o, none⟩) hg9).trans f0, (hq.cell (p := ⟨wA.heap.size, 0, none⟩) hbl).trans b0, (hq.cell (p := ⟨gx, ox + r * 3, none⟩) hgx).trans p0, (hq.cell (p := ⟨gx, ox + r * 3 + 1, none⟩) hgx).trans p1, (hq.cell (p := ⟨gx, ox + r * 3 + 2, none⟩) hgx).trans p2,
         (hq.cell (p := ⟨gy, oy + r * 3, none⟩) hgy).trans q0, (hq.cell (p := ⟨gy, oy + r * 3 + 1, none⟩) hgy).trans q1, (hq.cell (p := ⟨gy, oy + r * 3 + 2, none⟩) hgy).trans q2⟩)
       have z1 : (0 : Int) ≤ (r : Int) := by omega
       have z2 : (r : Int) < (fl : Int) := by omega
       have z3 : (r : Int) < (rl : Int) := by omega
       have z4 : (0 : Int) < (n4 : Int) := by omega
       have z5 : 0 < n4 := by omega
       have z6 : ¬ n4 = 0 := by omega
       have hbr0 : Below wr.heap.size wr wr.drew := (Below.refl _ _).drew
       have HBD := Lib.hid hbr0
       obtain ⟨ce, hce⟩ : ∃ ce, cmpErr xv yv = ce := ⟨_, rfl⟩
       have HCE := Lib.hid hce
       have TCM := Lib.hid (fun w' => (compare_any xv yv w').mono (fun e w3 h => show ∃ z : Int, e = .returned (.tuple #[.int .i64 z, errV ce]) ∧ Below w'.heap.size w' w3 from ⟨_, by rw [← hce]; exact h.1, h.2⟩))
       clear hbr hxv hyv hsf hsx hbr0 hx9 hce
       go_wp2_with fail
       go_region_held3 (fun wq => wq.cell? ⟨g, o, none⟩ = some (.slice (some ⟨gx, ox, none⟩) fl fc) ∧ wq.cell? ⟨wA.heap.size, 0, none⟩ = some (.slice (some ⟨gy, oy, none⟩) rl pc) ∧
         wq.cell? ⟨gx, ox + r * 3, none⟩ = some (.int .i64 xv.type) ∧ wq.cell? ⟨gx, ox + r * 3 + 1, none⟩ = some (.int .i64 xv.n) ∧ wq.cell? ⟨gx, ox + r * 3 + 2, none⟩ = some (.string xv.s) ∧
         wq.cell? ⟨gy, oy + r * 3, none⟩ = some (.int .i64 yv.type) ∧ wq.cell? ⟨gy, oy + r * 3 + 1, none⟩ = some (.int .i64 yv.n) ∧ wq.cell? ⟨gy, oy + r * 3 + 2, none⟩ = some (.string yv.s)) (first | exact KP.out _ (Below.refl _ _) | exact KP.out _ HBD.out | exact KP.out _ HB3.out) (first
        | (go_at_call 20; refine (TCM.out _).mono ?_; rintro e w3 ⟨cz, rfl, hb3⟩; have HB3 := Lib.hid (below_step HBD.out hb3); clear hb3))
       by_cases hc : ce = 0
       ·have HC0' := Lib.hid hc
        subst hc
        rw [errV_zero]
        clear f0 b0 p0 p1 p2 q0 q1 q2
        go_wp2_with fail
        go_roundw
        case rel => exact ⟨r + 1, by omega, by go_num, rfl, by rw [HNX.out, HCE.out], below_step HBR.out HB3.out⟩
        case measure => simp [intOf]; omega
       ·have HEJ := Lib.hid (show joinErr (G : Int) (outsOf ls) = ce by
         have h1 : rowErr frow row G = ce := by rw [rowErr_stay (k := r + 1) (by rw [HNX.out, HCE.out]; exact hc) G (by omega), HNX.out, HCE.out]
         have h2 := HERR.out q _ HX.out HZE.out (by rw [HFR.out]; simp only; rw [h1]; exact hc)
         rw [h2, HFR.out]
         exact h1)
        have HCN := Lib.hid hc
        rw [errV_ne hc]
        clear f0 b0 p0 p1 p2 q0 q1 q2 hc
        go_wp2_with fail
        go_ret2
        exact ⟨Or.inl ⟨by rw [HEJ.out]; exact HCN.out, by rw [HEJ.out, errV_ne HCN.out]; rfl⟩, below_step HB0.out (HHB.out.trans ((below_step (below_step HBE.out HBR.out) HB3.out).mono hBw))⟩
      ·obtain rfl : r = G := by omega
       clear hbr
       go_wp2_with fail
       go_roundw
       case rel =>
        refine ⟨q + 1, by omega, by go_num, rfl, below_step HBE.out HBR.out, ?_⟩
        intro y hy
        rw [List.take_add_one, HXM.out] at hy
        rcases List.mem_append.1 hy with hy | hy
        ·exact HZE.out y hy
        ·obtain rfl : y = ⟨row, err, beg⟩ := by simpa using hy
         rw [HFR.out]; exact HRE.out
       case measure => simp [intOf]; omega
    ·obtain rfl : q = n4 := by omega
     have hz := HZE.out
     rw [List.take_of_length_le (by rw [← HGL.out, List.length_map, HN4.out]; exact Nat.le_refl _)] at hz
     have HFIT := Lib.hid (fits_all (l := goods (outsOf ls)) (g := G) (fun y hy => by
      rw [← HGL.out] at hy
      obtain ⟨h, h1, h2⟩ := List.mem_map.1 hy
      rw [← h2]; exact HLONG.out h h1) hz)
     have HJ0 := Lib.hid (show joinErr (G : Int) (outsOf ls) = 0 by
      have hg6 := HG6.out
      unfold joinErr
      rw [if_neg (by omega), if_neg, Int.toNat_natCast]
      ·exact allErr_none hz
      ·rw [Int.toNat_natCast, List.any_eq_true]
       rintro ⟨o, ho, hs⟩
       rw [HSL.out o ho] at hs; cases hs)
     have hJ1 := HJ.out.keep hBw hbx
     have hg0 := ((HHB.out.trans (hbx.mono hBw)).cell (p := ⟨w.heap.size, 0, none⟩) hlt0).trans HC0.out
     have hbw2 : w0.heap.size ≤ wr.heap.size := Nat.le_trans hBw hbx.size
     have TS := Lib.hid (join_sort hJ1 HN4.out HGL.out hg0 hlt0 hbw2 HFIT.out hn4b)
     clear hz hJ1 hg0 hbx
     go_wp2_with fail
     refine (TS.out).mono ?_
     rintro e w5 ⟨rfl, E, hs5, hp5, hs5', hm5, hl5, hj5, hz5⟩
     obtain ⟨VB, VD, hv6⟩ := own_shape hj5.own6
     have hss6 := Sees.of_own hj5.own6
     obtain ⟨VB', VD', hv', hse6⟩ := hss6
     rw [hv6] at hv'
     injection hv' with e1 e2 e3
     subst e1 e3
     clear e2
     have hown4 := hj5.own4
     rw [hl5] at hown4
     have HJ5 := Lib.hid hj5
     have HP5 := Lib.hid hp5
     have HS5 := Lib.hid hs5'
     have HM5 := Lib.hid hm5
     have HSE6 := Lib.hid hse6
     have HOW4 := Lib.hid hown4
     have HBW5 := Lib.hid (show w0.heap.size ≤ w5.heap.size from Nat.le_trans hbw2 hz5)
     have HL5 := Lib.hid hl5
     clear hj5 hp5 hs5' hm5 hse6 hown4 hz5 TS hl5
     subst hv6
     have hn6 := HN6.out
     generalize hb6 : bd.length = n6 at *
     have HB6 := Lib.hid hb6
     clear hb6
     go_wp2_with (first
      | (at_builtin; refine wpList_append_src outSlice rfl _ _ rfl rfl rfl HOW4.out HSE6.out HJ5.out.below (Nat.le_refl _) (outs_cell' bd) (by omega) ?_; intro v1 w6 hown6 hb6 hg6; have HOW6 := Lib.hid hown6; have HB7 := Lib.hid hb6; have HG7 := Lib.hid hg6; clear hown6 hb6 hg6))
     go_ret2
     obtain ⟨A', c', hv1, hsee⟩ := Sees.of_own HOW6.out
     refine ⟨Or.inr ⟨HJ0.out, A', q + n6, c', hs5 ++ bd, by rw [hv1]; rfl, ⟨?_, ?_⟩, E, HP5.out, HS5.out, ?_⟩, below_step HB0.out HB7.out⟩
     ·have : outCells (hs5 ++ bd) = outCells hs5 ++ outCells bd := by unfold outCells; rw [List.flatMap_append]
      rw [this]; exact hsee
     ·intro h hh
      rcases List.mem_append.1 hh with hh | hh
      ·obtain ⟨r1, r2, -⟩ := HJ5.out.rows h hh
       exact only_out (grown_only HG7.out) r1 (fun ad e e2 => r2 ad e e2.symm)
      ·have := HJ5.out.empty h hh
       exact sees_none this.1 this.2
     ·rw [List.map_append, HM5.out, HBL.out]
theorem join_any (A : Option Addr) (m c : Nat) (ls : List ListH) (gI : Int) (w : World) (hS : SeesLists w A m c ls) (hm : m ≤ 1048576) (hl : ∀ l ∈ ls, l.hs.length ≤ 1048576) (hr : ∀ h ∈ flat ls, h.o.row.length ≤ 1048576) :
  Calls Tryd.prog 10 #[.slice A m c, .int .i64 gI] w (JoinPost gI (outsOf ls) w errV) := by
 by_cases h : gI < 0 ∨ 6 < gI
 ·exact join_range A m c _ gI w h
 ·obtain ⟨G, rfl⟩ : ∃ G : Nat, gI = G := ⟨gI.toNat, by omega⟩
  exact join_go A m c ls G w (by omega) hS hm hl hr
end SortLaw
end Go.Proofs.YtkgdfccpkiglaaaDoor
