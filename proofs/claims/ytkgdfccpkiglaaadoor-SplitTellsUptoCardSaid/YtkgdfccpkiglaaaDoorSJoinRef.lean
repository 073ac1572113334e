/- sluiceref3.Join, walked: the first half: which Outs have a row, which have none, and what is wrong with them. -/
import Derived.Test.YtkgdfccpkiglaaaDoorSJoinSort
import Derived.Test.YtkgdfccpkiglaaaDoorSJoinAhead
namespace Go.Proofs.YtkgdfccpkiglaaaDoor
open Go.ChangeShapes Go.WideShapes Go.ChangeAt Go.RowKit
namespace SortLaw
def intV (k : Int) : Value := .int .i64 k
set_option maxHeartbeats 2000000 in
theorem rjoin_range (A : Option Addr) (m c : Nat) (l : List OutP) (gI : Int) (w : World) (h : gI < 0 ∨ 6 < gI) :
  Calls Tryd.prog 9 #[.slice A m c, .int .i64 gI] w (JoinPost gI l w intV) := by
 have HE := Lib.hid (show joinErr gI l = 1 by unfold joinErr; rw [if_pos h])
 by_cases h1 : gI < 0
 ·have d1 : decide (gI < 0) = true := decide_eq_true h1
  clear h h1
  go_enter Tryd.func9, Tryd.ntmps9
  go_wp2_with fail
  go_ret2
  exact ⟨Or.inl ⟨by rw [HE.out]; decide, by rw [HE.out]; rfl⟩, Below.refl _ _⟩
 ·have d1 : decide (gI < 0) = false := decide_eq_false h1
  have d2 : decide (6 < gI) = true := decide_eq_true (by omega)
  clear h h1
  go_enter Tryd.func9, Tryd.ntmps9
  go_wp2_with fail
  go_ret2
  exact ⟨Or.inl ⟨by rw [HE.out]; decide, by rw [HE.out]; rfl⟩, Below.refl _ _⟩
theorem rshort_all {G : Nat} {ls : List ListH} {i j : Nat} {x : ListH} {h : OutH} (hx : ls[i]? = some x) (hh : x.hs[j]? = some h) (h0 : h.o.row.length ≠ 0) (h1 : h.o.row.length < G) (hG : G ≤ 6) : joinErr (G : Int) (outsOf ls) = 3 := by
 unfold joinErr
 rw [if_neg (by omega), if_pos]
 rw [List.any_eq_true]
 refine ⟨h.o, List.mem_map_of_mem (done_mem hx hh), ?_⟩
 unfold short
 rw [Int.toNat_natCast]
 simp [h0, h1]
def InArgs (w : World) (ls : List ListH) : Prop := ∀ h ∈ flat ls, h.o.row.length ≠ 0 → ∀ ad, h.p = some ad → ad.block < w.heap.size
theorem inArgs_of {w : World} {A : Option Addr} {m c : Nat} {ls : List ListH} (hS : SeesLists w A m c ls) : InArgs w ls := by
 intro h hh h0 ad e
 obtain ⟨x, hx, hm⟩ := List.mem_flatMap.1 hh
 have hs := (hS.2 x hx).2 h hm
 obtain ⟨g, o, e2, hg, -⟩ := hs.2.2.2.2.2 (by omega)
 rw [e] at e2; injection e2 with e2; rw [e2]; exact hg
set_option maxHeartbeats 8000000 in
set_option maxRecDepth 100000 in
theorem rjoin_go (A : Option Addr) (m c : Nat) (ls : List ListH) (G : Nat) (w : World) (hG : G ≤ 6) (hS : SeesLists w A m c ls) (hm : m ≤ 1048576) (hl : ∀ l ∈ ls, l.hs.length ≤ 1048576) (hwf : ∀ h ∈ flat ls, ∀ v ∈ h.o.row, v.wf) :
  Calls Tryd.prog 9 #[.slice A m c, .int .i64 (G : Nat)] w (JoinPost (G : Nat) (outsOf ls) w intV) := by
 have HS := Lib.hid hS
 have HIN := Lib.hid (inArgs_of hS)
 have HLS := Lib.hid hl
 have HWF := Lib.hid hwf
 have HLN := Lib.hid hS.len
 have HFL := Lib.hid (show (flat ls).length ≤ 1099511627776 by
  have h1 := flat_len_le hl
  rw [hS.len] at h1
  have := Nat.mul_le_mul_right 1048576 hm
  omega)
 have d1 : decide ((G : Int) < 0) = false := decide_eq_false (by omega)
 have d2 : decide (6 < (G : Int)) = false := decide_eq_false (by omega)
 have d2' : decide (6 < G) = false := decide_eq_false (by omega)
 have hmc := hS.1.2.1
 have hcm := hS.1.2.2.1
 unfold maxLen at hcm
 have HG6 := Lib.hid hG
 clear hS hl hG hwf
 go_enter Tryd.func9, Tryd.ntmps9
 go_wp2_with fail
 go_loopw [6, 7, 8] (fun v4 v6 i wr => ∃ (k : Nat) (cl bd : List OutH), k ≤ m ∧ i = .int .i64 k ∧ JSt w.heap.size w wr v4 v6 cl bd ∧ (∀ y ∈ cl, y ∈ flat ls) ∧
   cl.map (·.o) = goods (doneOf ls k 0) ∧ bd.map (·.o) = bads (doneOf ls k 0) ∧ ∀ o ∈ doneOf ls k 0, short G o = false) (fun _ _ i _ => m - (intOf i).toNat)
 case atStart => exact ⟨0, [], [], Nat.zero_le _, rfl, JSt.start _ _, by simp, by rw [done_zero]; rfl, by rw [done_zero]; rfl, by rw [done_zero]; simp⟩
 case round =>
  obtain ⟨k, cl, bd, hk, rfl, hj, hlt, hgo, hba, hsh⟩ := hrel
  have HJ := Lib.hid hj
  have HLT := Lib.hid hlt
  have HGO := Lib.hid hgo
  have HBA := Lib.hid hba
  have HSH := Lib.hid hsh
  have hb := hj.below
  clear hj hlt hgo hba hsh
  by_cases hlk : k < m
  ·obtain ⟨g, o, x, rfl, hg, hx, hsx, c1⟩ := HS.out.at_ hlk
   have HX := Lib.hid hx
   have HSX := Lib.hid (show ∀ w', Below w.heap.size w w' → SeesOuts w' x.R x.hs.length x.c x.hs from fun w' hb' => (HS.out.keep hb').2 x (List.mem_of_getElem? hx))
   have HC1 := Lib.hid (show ∀ w', Below w.heap.size w w' → w'.cell? ⟨g, o + k, none⟩ = some (.slice x.R x.hs.length x.c) from fun w' hb' => (hb'.cell (p := ⟨g, o + k, none⟩) hg).trans c1)
   have hxc := hsx.1.2.1
   have hxm := hsx.1.2.2.1
   unfold maxLen at hxm
   have HXN := Lib.hid (show ∀ j, j ≤ x.hs.length → (doneOf ls k j).length ≤ 1099511627776 from fun j _ => Nat.le_trans done_sub HFL.out)
   obtain ⟨R, xc, xs⟩ := x
   simp only at *
   generalize hxn : xs.length = xn at *
   have HXX := Lib.hid hxn
   clear hb hx hsx hxn c1
   go_wp2_with fail
   go_loopw [6, 7, 9] (fun v4 v6 i wr => ∃ (j : Nat) (cl bd : List OutH), j ≤ xn ∧ i = .int .i64 j ∧ JSt w.heap.size w wr v4 v6 cl bd ∧ (∀ y ∈ cl, y ∈ flat ls) ∧
     cl.map (·.o) = goods (doneOf ls k j) ∧ bd.map (·.o) = bads (doneOf ls k j) ∧ ∀ o ∈ doneOf ls k j, short G o = false) (fun _ _ i _ => xn - (intOf i).toNat)
   case atStart => exact ⟨0, cl, bd, Nat.zero_le _, rfl, HJ.out, HLT.out, HGO.out, HBA.out, HSH.out⟩
   case round =>
    obtain ⟨j, cl, bd, hj, rfl, hjs, hlt, hgo, hba, hsh⟩ := hrel
    have HJ2 := Lib.hid hjs
    have HLT2 := Lib.hid hlt
    have HGO2 := Lib.hid hgo
    have HBA2 := Lib.hid hba
    have HSH2 := Lib.hid hsh
    have hb := hjs.below
    have c1 := HC1.out wr hb
    clear hjs hlt hgo hba hsh
    by_cases hlj : j < xn
    ·obtain ⟨g2, o2, h, rfl, hg2, hh, hsh, a0, a1, a2⟩ := (HSX.out wr hb).at_ hlj
     have HFM := Lib.hid (done_mem HX.out hh)
     have HINX := Lib.hid (HIN.out h (done_mem HX.out hh))
     have HDS := Lib.hid (done_step HX.out hh)
     have HSHORT := Lib.hid (fun h0 h1 => rshort_all HX.out hh h0 h1 HG6.out)
     have HN4 := Lib.hid (show cl.length ≤ 1099511627776 ∧ bd.length ≤ 1099511627776 by
      have h1 := congrArg List.length HGO2.out
      have h2 := congrArg List.length HBA2.out
      rw [List.length_map] at h1 h2
      have h3 : (goods (doneOf ls k j)).length ≤ (doneOf ls k j).length := List.length_filter_le _ _
      have h4 : (bads (doneOf ls k j)).length ≤ (doneOf ls k j).length := List.length_filter_le _ _
      have := HXN.out j hj
      omega)
     have hBw : w.heap.size ≤ wr.heap.size := hb.size
     obtain ⟨p, pc, row, err, beg⟩ := h
     simp only at *
     obtain ⟨w1, hw1⟩ : ∃ w1, wr.alloc (.cells #[.slice p row.length pc, .int .i64 err, .int .i64 beg] 52) = w1 := ⟨_, rfl⟩
     have hb1 : Below wr.heap.size wr w1 := by rw [← hw1]; exact (Below.refl _ _).alloc (Nat.le_refl _) _
     have hrow1 : w1.heap[wr.heap.size]? = some (.cells #[.slice p row.length pc, .int .i64 err, .int .i64 beg] 52 (0, 0)) := by rw [← hw1]; exact heap_alloc_new wr _
     have hlt1 : wr.heap.size < w1.heap.size := by rw [← hw1]; simp
     have J1 := HJ2.out.keep hBw hb1
     have HSH1 := Lib.hid (hsh.keep hb1)
     have HLT0 : ∀ y ∈ cl, ∀ ad, y.p = some ad → ad.block < w1.heap.size := fun y hy ad e => by
      by_cases q : y.o.row.length = 0
      ·have h1 : y.o ∈ goods (doneOf ls k j) := by rw [← HGO2.out]; exact List.mem_map_of_mem hy
       unfold goods at h1
       have := (List.mem_filter.1 h1).2
       rw [q] at this; cases this
      ·have := HIN.out y (HLT2.out y hy) q ad e; omega
     have hw1s : w.heap.size ≤ w1.heap.size := Nat.le_trans hBw hb1.size
     have HSTB := Lib.hid (fun (h0 : row.length = 0) v' w4 => J1.stepB (x := ⟨p, pc, row, err, beg⟩) (w1 := w4) (v' := v') hw1s HSH1.out h0 HLT0)
     have HSTG := Lib.hid (fun (h0 : row.length ≠ 0) v' w4 => J1.step (x := ⟨p, pc, row, err, beg⟩) (w1 := w4) (v' := v') hw1s HSH1.out
      ⟨fun ad e e2 => by have h1 := HINX.out h0 ad e; have h2 := HJ2.out.own4.lt _ e2; omega, fun ad e e2 => by have h1 := HINX.out h0 ad e; have h2 := HJ2.out.own6.lt _ e2; omega⟩
      (fun ad e => by have h1 := HINX.out h0 ad e; omega) HLT0)
     have HW1 := Lib.hid hw1
     have HR1 := Lib.hid hrow1
     have HB1 := Lib.hid hb1
     have HJ1 := Lib.hid J1
     have HHB := Lib.hid hb
     obtain ⟨y0, y1, y2⟩ := box3 hrow1
     simp only at HSTB HSTG
     generalize hrn : row.length = rn at *
     have HRN := Lib.hid hrn
     clear hb hh hsh hw1 hrow1 hb1 J1 HLT0 hrn
     by_cases hr0 : rn = 0
     ·have q0 : ((rn : Int) == 0) = true := by rw [hr0]; rfl
      have HR0 := Lib.hid hr0
      clear hr0
      go_wp2_with (first
       | rw [HW1.out]
       | (at_builtin; refine wpList_append_one_at outSlice rfl _ _ rfl rfl rfl HJ1.out.own6 hw1s rfl (out_cell' p rn pc err beg) (by have := HN4.out.2; omega) ?_; intro v1 w4 hown4 hg4 hat4; have HST4 := Lib.hid (HSTB.out HR0.out v1 w4 hown4 hg4 hat4); clear hown4 hg4 hat4))
      go_roundw
      case rel =>
       have hd := HDS.out
       have h0 : row.length = 0 := HRN.out.trans HR0.out
       refine ⟨j + 1, cl, bd ++ [⟨p, pc, ⟨row, err, beg⟩⟩], by omega, by go_num, HST4.out.1, HLT2.out, ?_, ?_, ?_⟩
       ·rw [hd, goods_snoc, if_pos h0]; exact HGO2.out
       ·rw [hd, bads_snoc, if_pos h0, List.map_append, HBA2.out]; rfl
       ·intro o ho
        rw [hd] at ho
        rcases List.mem_append.1 ho with ho | ho
        ·exact HSH2.out o ho
        ·obtain rfl : o = ⟨row, err, beg⟩ := by simpa using ho
         unfold short; simp [h0]
      case measure => simp [intOf]; omega
     ·have q0 : ((rn : Int) == 0) = false := by simp; omega
      have HR0 := Lib.hid hr0
      by_cases hrg : rn < G
      ·have q1 : decide (rn < G) = true := decide_eq_true hrg
       have q1' : decide ((rn : Int) < (G : Int)) = true := decide_eq_true (by omega)
       have HE := Lib.hid (HSHORT.out hr0 hrg)
       clear hr0
       go_wp2_with (first
        | rw [HW1.out])
       go_ret2
       exact ⟨Or.inl ⟨by rw [HE.out]; decide, by rw [HE.out]; rfl⟩, HHB.out.trans (HB1.out.mono hBw)⟩
      ·have q1 : decide (rn < G) = false := decide_eq_false hrg
       have q1' : decide ((rn : Int) < (G : Int)) = false := decide_eq_false (by omega)
       have HRG := Lib.hid hrg
       clear hr0 hrg
       go_wp2_with (first
        | rw [HW1.out]
        | (at_builtin; refine wpList_append_one_at outSlice rfl _ _ rfl rfl rfl HJ1.out.own4 hw1s rfl (out_cell' p rn pc err beg) (by have := HN4.out.1; omega) ?_; intro v1 w4 hown4 hg4 hat4; have HST4 := Lib.hid (HSTG.out HR0.out v1 w4 hown4 hg4 hat4); clear hown4 hg4 hat4))
       go_roundw
       case rel =>
        have hd := HDS.out
        have h0 : ¬ row.length = 0 := by rw [HRN.out]; exact HR0.out
        refine ⟨j + 1, cl ++ [⟨p, pc, ⟨row, err, beg⟩⟩], bd, by omega, by go_num, HST4.out.1, ?_, ?_, ?_, ?_⟩
        ·intro y hy
         rcases List.mem_append.1 hy with hy | hy
         ·exact HLT2.out y hy
         ·obtain rfl : y = ⟨p, pc, ⟨row, err, beg⟩⟩ := by simpa using hy
          exact HFM.out
        ·rw [hd, goods_snoc, if_neg h0, List.map_append, HGO2.out]; rfl
        ·rw [hd, bads_snoc, if_neg h0]; exact HBA2.out
        ·intro o ho
         rw [hd] at ho
         rcases List.mem_append.1 ho with ho | ho
         ·exact HSH2.out o ho
         ·obtain rfl : o = ⟨row, err, beg⟩ := by simpa using ho
          unfold short
          have := HRG.out
          have := HRN.out
          simp only [Bool.and_eq_false_iff]
          exact Or.inr (decide_eq_false (by omega))
       case measure => simp [intOf]; omega
    ·obtain rfl : j = xn := by omega
     have hd := done_next HX.out
     simp only at hd
     rw [HXX.out] at hd
     have HD := Lib.hid hd
     clear hb hd
     go_wp2_with fail
     go_roundw
     case rel => exact ⟨k + 1, cl, bd, by omega, by go_num, HJ2.out, HLT2.out, by rw [← HD.out]; exact HGO2.out, by rw [← HD.out]; exact HBA2.out, by rw [← HD.out]; exact HSH2.out⟩
     case measure => simp [intOf]; omega
  ·obtain rfl : k = m := by omega
   obtain ⟨wE, hwE⟩ : ∃ wE, wE = wr := ⟨_, rfl⟩
   subst hwE
   have hdl : doneOf ls k 0 = outsOf ls := by rw [← HLN.out]; exact done_all
   have hgo := HGO.out
   have hba := HBA.out
   have hsh := HSH.out
   rw [hdl] at hgo hba hsh
   have HGL := Lib.hid hgo
   have HBL := Lib.hid hba
   have HSL := Lib.hid hsh
   have hn4b : cl.length ≤ 1099511627776 := by
    have h1 := congrArg List.length hgo
    rw [List.length_map] at h1
    have h3 : (goods (outsOf ls)).length ≤ (outsOf ls).length := List.length_filter_le _ _
    have h4 : (outsOf ls).length = (flat ls).length := by unfold outsOf; rw [List.length_map]
    have := HFL.out
    omega
   have hn6b : bd.length ≤ 1099511627776 := by
    have h1 := congrArg List.length hba
    rw [List.length_map] at h1
    have h3 : (bads (outsOf ls)).length ≤ (outsOf ls).length := List.length_filter_le _ _
    have h4 : (outsOf ls).length = (flat ls).length := by unfold outsOf; rw [List.length_map]
    have := HFL.out
    omega
   have HN6 := Lib.hid hn6b
   obtain ⟨VA, VC, rfl⟩ := own_shape HJ.out.own4
   have hss := Sees.of_own HJ.out.own4
   obtain ⟨VA', VC', hv', hse⟩ := hss
   injection hv' with e1 e2 e3
   subst e1 e3
   clear e2
   generalize hn4 : cl.length = n4 at *
   have HN4 := Lib.hid hn4
   have HSO := Lib.hid (show SeesOuts wE VA n4 VC cl from ⟨hse, fun h hh => (HJ.out.rows h hh).1⟩)
   have hvc := hse.2.1
   have hvm := hse.2.2.1
   unfold maxLen at hvm
   have HLONG := Lib.hid (show ∀ h ∈ cl, G ≤ h.o.row.length by
    intro h hh
    have h1 : h.o ∈ goods (outsOf ls) := by rw [← hgo]; exact List.mem_map_of_mem hh
    unfold goods at h1
    obtain ⟨h2, h3⟩ := List.mem_filter.1 h1
    have h4 := hsh _ h2
    unfold short at h4
    simp at h3
    simp [h3] at h4
    exact h4)
   have HERR := Lib.hid (show ∀ (q : Nat) (x : OutH), cl[q]? = some x → (∀ y ∈ (goods (outsOf ls)).take q, rowErr (firstOf (goods (outsOf ls))) y.row G = 0) → rowErr (firstOf (goods (outsOf ls))) x.o.row G ≠ 0 →
     joinErr (G : Int) (outsOf ls) = rowErr (firstOf (goods (outsOf ls))) x.o.row G by
    intro q x hx hp hn
    have hg6 := HG6.out
    unfold joinErr
    rw [if_neg (by omega), if_neg, Int.toNat_natCast]
    ·refine allErr_at hp ?_ hn
     rw [← hgo, List.getElem?_map, hx]; rfl
    ·rw [Int.toNat_natCast, List.any_eq_true]
     rintro ⟨o, ho, hs⟩
     rw [hsh o ho] at hs; cases hs)
   have hb := HJ.out.below
   have HHB := Lib.hid hb
   have hBw : w.heap.size ≤ wE.heap.size := hb.size
   have HWG := Lib.hid (show ∀ h ∈ cl, ∀ v ∈ h.o.row, v.wf from fun h hh => HWF.out h (HLT.out h hh))
   clear hb hse hdl hgo hba hsh hn4 hn6b
   go_wp2_with fail
   go_loopw [11] (fun i wx => ∃ q : Nat, q ≤ n4 ∧ i = .int .i64 q ∧ Below wE.heap.size wE wx ∧ ∀ y ∈ (goods (outsOf ls)).take q, rowErr (firstOf (goods (outsOf ls))) y.row G = 0) (fun i _ => n4 - (intOf i).toNat)
   case atStart => exact ⟨0, Nat.zero_le _, rfl, Below.refl _ _, by simp⟩
   case round =>
    obtain ⟨q, hq, rfl, hbx, hzero⟩ := hrel
    have HZE := Lib.hid hzero
    have HBX := Lib.hid hbx
    clear hzero
    by_cases hqn : q < n4
    ·obtain ⟨g, o, x, rfl, hg, hx, hsx, a0, a1, a2⟩ := (HSO.out.keep hbx).at_ hqn
     have HX := Lib.hid hx
     obtain ⟨p, pc, row, err, beg⟩ := x
     simp only at *
     have HLX := Lib.hid (HLONG.out _ (List.mem_of_getElem? hx))
     have HWX := Lib.hid (HWG.out _ (List.mem_of_getElem? hx))
     obtain ⟨first, hf0⟩ : ∃ first, cl[0]? = some first := ⟨_, List.getElem?_eq_getElem (by rw [HN4.out]; omega)⟩
     have HF0 := Lib.hid hf0
     have HFR := Lib.hid (show firstOf (goods (outsOf ls)) = first.o.row by
      rw [← HGL.out]
      unfold firstOf
      cases cl with
      | nil => simp at hf0
      | cons a l =>
       obtain rfl : a = first := by simpa using hf0
       rfl)
     have HLF := Lib.hid (HLONG.out _ (List.mem_of_getElem? hf0))
     have HWFF := Lib.hid (HWG.out _ (List.mem_of_getElem? hf0))
     have HSF := Lib.hid ((HSO.out.2 _ (List.mem_of_getElem? hf0)).keep hbx)
     have HSXX := Lib.hid hsx
     have HXM := Lib.hid (show (goods (outsOf ls))[q]? = some ⟨row, err, beg⟩ by rw [← HGL.out, List.getElem?_map, hx]; rfl)
     have HSC := Lib.hid (HSO.out.keep hbx)
     clear hx hsx hf0 hg hbx a0 a1 a2
     go_wp2_with fail
     obtain ⟨wA, hwA⟩ : ∃ wA, wA = wr := ⟨_, rfl⟩
     subst hwA
     obtain ⟨fp, fc, frow, ferr, fbeg⟩ := first
     simp only at *
     generalize hrl : row.length = rl at *
     generalize hfl : frow.length = fl at *
     have HRL := Lib.hid hrl
     have HFLN := Lib.hid hfl
     have hlx := HLX.out
     have hlf := HLF.out
     go_loopw [12] (fun i wx => ∃ r : Nat, r ≤ G ∧ i = .int .i64 r ∧ rowErr frow row r = 0 ∧ Below wA.heap.size wA wx) (fun i _ => G - (intOf i).toNat)
     case atStart => exact ⟨0, Nat.zero_le _, rfl, rfl, Below.refl _ _⟩
     case round =>
      obtain ⟨r, hr, rfl, hre, hbr⟩ := hrel
      have HRE := Lib.hid hre
      have HBR := Lib.hid hbr
      clear hre
      by_cases hrG : r < G
      ·obtain ⟨g9, o9, x9, e9, hg9, hx9, -, f0, -, -⟩ := (HSC.out.keep hbr).at_ (k := 0) (by omega)
       cases e9
       obtain rfl : x9 = ⟨fp, fc, ⟨frow, ferr, fbeg⟩⟩ := by rw [HF0.out] at hx9; exact (Option.some.inj hx9).symm
       obtain ⟨g8, o8, x8, e8, hg8, hx8, -, b0, -, -⟩ := (HSC.out.keep hbr).at_ (k := q) hqn
       cases e8
       obtain rfl : x8 = ⟨p, pc, ⟨row, err, beg⟩⟩ := by rw [HX.out] at hx8; exact (Option.some.inj hx8).symm
       simp only [Nat.zero_mul, Nat.add_zero] at f0 b0
       rw [hfl] at f0
       rw [hrl] at b0
       have hsf := HSF.out.keep hbr
       have hsx := HSXX.out.keep hbr
       unfold SeesOut at hsf hsx
       simp only at hsf hsx
       rw [hfl] at hsf
       rw [hrl] at hsx
       have hfm := hsf.2.2.2.1
       have hfc := hsf.2.2.1
       have hxm := hsx.2.2.2.1
       have hxc := hsx.2.2.1
       unfold maxLen at hfm hxm
       obtain ⟨gx, ox, xv, rfl, hgx, hxv, p0, p1, p2⟩ := hsf.at_ (k := r) (by omega)
       obtain ⟨gy, oy, yv, rfl, hgy, hyv, q0, q1, q2⟩ := hsx.at_ (k := r) (by omega)
       have hwx := (HWFF.out xv (List.mem_of_getElem? hxv)).2.2
       have hwy := (HWX.out yv (List.mem_of_getElem? hyv)).2.2
       have HNX := Lib.hid (show rowErr frow row (r + 1) = cmpErr xv yv by
        rw [rowErr, HRE.out, if_pos rfl, List.getD_eq_getElem?_getD, List.getD_eq_getElem?_getD, hxv, hyv]; rfl)
       obtain ⟨w1, hw1⟩ : ∃ w1, wr.alloc (.cells #[.int .i64 xv.type, .int .i64 xv.n, .string xv.s] 46) = w1 := ⟨_, rfl⟩
       have hb1 : Below wr.heap.size wr w1 := by rw [← hw1]; exact (Below.refl _ _).alloc (Nat.le_refl _) _
       have hs1 : w1.heap.size = wr.heap.size + 1 := by rw [← hw1]; simp
       obtain ⟨w2, hw2⟩ : ∃ w2, w1.alloc (.cells #[.int .i64 yv.type, .int .i64 yv.n, .string yv.s] 46) = w2 := ⟨_, rfl⟩
       have hb2 : Below w1.heap.size w1 w2 := by rw [← hw2]; exact (Below.refl _ _).alloc (Nat.le_refl _) _
       have hs2 : w2.heap.size = w1.heap.size + 1 := by rw [← hw2]; simp
       have ha : w1.heap[wr.heap.size]? = some (.cells #[.int .i64 xv.type, .int .i64 xv.n, .string xv.s] 46 (0, 0)) := by rw [← hw1]; exact heap_alloc_new wr _
       have ha2 := (hb2.block wr.heap.size (by omega)).trans ha
       have hb' : w2.heap[w1.heap.size]? = some (.cells #[.int .i64 yv.type, .int .i64 yv.n, .string yv.s] 46 (0, 0)) := by rw [← hw2]; exact heap_alloc_new w1 _
       have HBOX := Lib.hid (fun w3 (hq : Below w2.heap.size w2 w3) => And.intro (box3 ((hq.block wr.heap.size (by omega)).trans ha2)) (box3 ((hq.block w1.heap.size (by omega)).trans hb')))
       have TA := Lib.hid (fun w' => rval_any xv w' hwx)
       have TB := Lib.hid (fun w' => rval_any yv w' hwy)
       have HW1 := Lib.hid hw1
       have HW2 := Lib.hid hw2
       have HB2 := Lib.hid (below_step hb1 hb2)
       obtain ⟨⟨u0, u1, u2⟩, v0, v1, v2⟩ := HBOX.out w2 (Below.refl _ _)
       have s0 := (hb1.cell (p := ⟨g, o + q * 3, none⟩) hg8).trans b0
       have s1 := (hb1.cell (p := ⟨gy, oy + r * 3, none⟩) hgy).trans q0
       have s2 := (hb1.cell (p := ⟨gy, oy + r * 3 + 1, none⟩) hgy).trans q1
       have s3 := (hb1.cell (p := ⟨gy, oy + r * 3 + 2, none⟩) hgy).trans q2
       have z5 : 0 < n4 := by omega
       obtain ⟨ce, hce⟩ : ∃ ce, cmpErr xv yv = ce := ⟨_, rfl⟩
       have HCE := Lib.hid hce
       have HEJ := Lib.hid (fun (hc : ce ≠ 0) => show joinErr (G : Int) (outsOf ls) = ce by
        have h1 : rowErr frow row G = ce := by rw [rowErr_stay (k := r + 1) (by rw [HNX.out, HCE.out]; exact hc) G (by omega), HNX.out, HCE.out]
        have h2 := HERR.out q _ HX.out HZE.out (by rw [HFR.out]; simp only; rw [h1]; exact hc)
        rw [h2, HFR.out]
        exact h1)
       unfold cmpErr at hce
       clear hbr hxv hyv hsf hsx hx9 hx8 hw1 hw2 hb1 hb2 hs1 hs2 ha ha2 hb' hwx hwy
       generalize vcheck xv = va at hce TA
       generalize vcheck yv = vb at hce TB
       by_cases hva : va = 0
       ·subst hva
        rw [if_neg (by simp)] at hce
        by_cases hvb : vb = 0
        ·subst hvb
         rw [if_neg (by simp)] at hce
         by_cases hty : xv.type = yv.type
         ·rw [if_neg (by simpa using hty)] at hce
          subst hce
          have t0 : (xv.type != yv.type) = false := by simpa using hty
          clear hty
          go_wp2_with (first | rw [HW1.out] | rw [HW2.out])
          clear u0 u1 u2 v0 v1 v2
          refine (TA.out _).mono ?_
          rintro e' w3 ⟨rfl, hb3⟩
          have HB3 := Lib.hid (hb3)
          clear hb3
          obtain ⟨⟨u0, u1, u2⟩, v0, v1, v2⟩ := HBOX.out w3 HB3.out
          go_wp2_with fail
          clear u0 u1 u2 v0 v1 v2
          refine (TB.out _).mono ?_
          rintro e' w4 ⟨rfl, hb4⟩
          have HB4 := Lib.hid (below_step HB3.out hb4)
          clear hb4
          obtain ⟨⟨u0, u1, u2⟩, v0, v1, v2⟩ := HBOX.out w4 HB4.out
          go_wp2_with fail
          go_roundw
          case rel => exact ⟨r + 1, by omega, by go_num, by rw [HNX.out, HCE.out], below_step (below_step HBR.out HB2.out) HB4.out⟩
          case measure => simp [intOf]; omega
         ·rw [if_pos (by simpa using hty)] at hce
          subst hce
          have t0 : (xv.type != yv.type) = true := by simpa using hty
          have HEJ0 := Lib.hid (HEJ.out (by decide))
          have HCN := Lib.hid (show (8 : Int) ≠ 0 by decide)
          clear hty
          go_wp2_with (first | rw [HW1.out] | rw [HW2.out])
          clear u0 u1 u2 v0 v1 v2
          refine (TA.out _).mono ?_
          rintro e' w3 ⟨rfl, hb3⟩
          have HB3 := Lib.hid (hb3)
          clear hb3
          obtain ⟨⟨u0, u1, u2⟩, v0, v1, v2⟩ := HBOX.out w3 HB3.out
          go_wp2_with fail
          clear u0 u1 u2 v0 v1 v2
          refine (TB.out _).mono ?_
          rintro e' w4 ⟨rfl, hb4⟩
          have HB4 := Lib.hid (below_step HB3.out hb4)
          clear hb4
          obtain ⟨⟨u0, u1, u2⟩, v0, v1, v2⟩ := HBOX.out w4 HB4.out
          go_wp2_with fail
          go_ret2
          exact ⟨Or.inl ⟨by rw [HEJ0.out]; exact HCN.out, by rw [HEJ0.out]; rfl⟩, HHB.out.trans ((below_step HBX.out (below_step (below_step HBR.out HB2.out) HB4.out)).mono hBw)⟩
        ·rw [if_pos (by simpa using hvb)] at hce
         subst hce
         have HEJ0 := Lib.hid (HEJ.out hvb)
         have HCN := Lib.hid hvb
         have t1 : (vb == 0) = false := by simpa using hvb
         have t2 : (vb != 0) = true := by simpa using hvb
         clear hvb
         go_wp2_with (first | rw [HW1.out] | rw [HW2.out])
         clear u0 u1 u2 v0 v1 v2
         refine (TA.out _).mono ?_
         rintro e' w3 ⟨rfl, hb3⟩
         have HB3 := Lib.hid (hb3)
         clear hb3
         obtain ⟨⟨u0, u1, u2⟩, v0, v1, v2⟩ := HBOX.out w3 HB3.out
         go_wp2_with fail
         clear u0 u1 u2 v0 v1 v2
         refine (TB.out _).mono ?_
         rintro e' w4 ⟨rfl, hb4⟩
         have HB4 := Lib.hid (below_step HB3.out hb4)
         clear hb4
         obtain ⟨⟨u0, u1, u2⟩, v0, v1, v2⟩ := HBOX.out w4 HB4.out
         go_wp2_with fail
         go_ret2
         exact ⟨Or.inl ⟨by rw [HEJ0.out]; exact HCN.out, by rw [HEJ0.out]; rfl⟩, HHB.out.trans ((below_step HBX.out (below_step (below_step HBR.out HB2.out) HB4.out)).mono hBw)⟩
       ·rw [if_pos (by simpa using hva)] at hce
        subst hce
        have HEJ0 := Lib.hid (HEJ.out hva)
        have HCN := Lib.hid hva
        have t1 : (va == 0) = false := by simpa using hva
        have t2 : (va != 0) = true := by simpa using hva
        clear hva
        go_wp2_with (first | rw [HW1.out] | rw [HW2.out])
        clear u0 u1 u2 v0 v1 v2
        refine (TA.out _).mono ?_
        rintro e' w3 ⟨rfl, hb3⟩
        have HB3 := Lib.hid (hb3)
        clear hb3
        obtain ⟨⟨u0, u1, u2⟩, v0, v1, v2⟩ := HBOX.out w3 HB3.out
        go_wp2_with fail
        go_ret2
        exact ⟨Or.inl ⟨by rw [HEJ0.out]; exact HCN.out, by rw [HEJ0.out]; rfl⟩, HHB.out.trans ((below_step HBX.out (below_step (below_step HBR.out HB2.out) HB3.out)).mono hBw)⟩
      ·obtain rfl : r = G := by omega
       clear hbr
       go_wp2_with fail
       go_roundw
       case rel =>
        refine ⟨q + 1, by omega, by go_num, below_step HBX.out HBR.out, ?_⟩
        intro y hy
        rw [List.take_add_one, HXM.out] at hy
        rcases List.mem_append.1 hy with hy | hy
        ·exact HZE.out y hy
        ·obtain rfl : y = ⟨row, err, beg⟩ := by simpa using hy
         rw [HFR.out]; exact HRE.out
       case measure => simp [intOf]; omega
    ·obtain rfl : q = n4 := by omega
     obtain ⟨wF, hwF⟩ : ∃ wF, wF = wr := ⟨_, rfl⟩
     subst hwF
     have hz := HZE.out
     rw [List.take_of_length_le (by rw [← HGL.out, List.length_map, HN4.out]; exact Nat.le_refl _)] at hz
     obtain ⟨ts, hts⟩ : ∃ ts, tsOf (goods (outsOf ls)) = ts := ⟨_, rfl⟩
     have HFIT := Lib.hid (show ∀ y ∈ goods (outsOf ls), Fit G ts y by
      rw [← hts]
      refine fits_all (l := goods (outsOf ls)) (g := G) (fun y hy => ?_) hz
      rw [← HGL.out] at hy
      obtain ⟨h, h1, h2⟩ := List.mem_map.1 hy
      rw [← h2]; exact HLONG.out h h1)
     have HTS := Lib.hid hts
     have HJ0 := Lib.hid (show joinErr (G : Int) (outsOf ls) = 0 by
      have hg6 := HG6.out
      unfold joinErr
      rw [if_neg (by omega), if_neg, Int.toNat_natCast]
      ·exact allErr_none hz
      ·rw [Int.toNat_natCast, List.any_eq_true]
       rintro ⟨o, ho, hs⟩
       rw [HSL.out o ho] at hs; cases hs)
     have HJ1 := Lib.hid (HJ.out.keep hBw hbx)
     have hbw2 : w.heap.size ≤ wF.heap.size := Nat.le_trans hBw hbx.size
     have HSO1 := Lib.hid (HSO.out.keep hbx)
     obtain ⟨gs, hgs⟩ : ∃ gs, goods (outsOf ls) = gs := ⟨_, rfl⟩
     rw [hgs] at HFIT HGL HTS
     have HGS := Lib.hid hgs
     have HZL := Lib.hid (show gs.zipIdx.length = q by rw [List.length_zipIdx, ← HGL.out, List.length_map, HN4.out])
     have HASY := Lib.hid (ahead_trans (weakO G ts))
     clear hz hbx hts hgs
     go_wp2_with fail
     go_loopw [16, 17] (fun vO i wx => ∃ (k : Nat) (E : List (OutP × Nat)) (hs : List OutH), k ≤ q ∧ i = .int .i64 k ∧ E.Perm (gs.zipIdx.take k) ∧ E.Pairwise (Ahead (ltO G) (Fit G ts)) ∧ hs.map (·.o) = E.map (·.1) ∧ (∀ h ∈ hs, h ∈ cl) ∧
       wx.ownsRow w.heap.size 52 3 vO hs.length (outCells hs) ∧ Below wF.heap.size wF wx) (fun _ i _ => q - (intOf i).toNat)
     case atStart => exact ⟨0, [], [], Nat.zero_le _, rfl, by simp, List.Pairwise.nil, rfl, by simp, World.ownsRow_nil _ _ _ _, Below.refl _ _⟩
     case round =>
      obtain ⟨k', E, hs, hk', rfl, hp, hso, hmo, hin, hown, hbF⟩ := hrel
      have HP := Lib.hid hp
      have HSO5 := Lib.hid hso
      have HMO := Lib.hid hmo
      have HIN5 := Lib.hid hin
      have HOW := Lib.hid hown
      have HBF := Lib.hid hbF
      have HEL := Lib.hid (show E.length = k' by rw [hp.length_eq, List.length_take, HZL.out]; omega)
      have HHL := Lib.hid (show hs.length = k' by have := congrArg List.length hmo; rw [List.length_map, List.length_map] at this; have := HEL.out; omega)
      clear hp hso hmo hin
      by_cases hkq : k' < q
      ·obtain ⟨h, hh⟩ : ∃ h, cl[k']? = some h := ⟨_, List.getElem?_eq_getElem (by rw [HN4.out]; exact hkq)⟩
       have HH := Lib.hid hh
       have HX5 := Lib.hid (show gs.zipIdx[k']? = some (h.o, k') by rw [List.getElem?_zipIdx, ← HGL.out, List.getElem?_map, hh]; simp)
       have HTG := Lib.hid (show ∀ y ∈ E, y.2 < k' ∧ Fit G ts y.1 by
        intro y hy
        have h1 := HP.out.mem_iff.1 hy
        obtain ⟨i, hi⟩ := List.mem_iff_getElem?.1 h1
        rw [List.getElem?_take] at hi
        split at hi
        ·rename_i hik
         rw [List.getElem?_zipIdx] at hi
         obtain ⟨z, hz1, hz2⟩ := Option.map_eq_some_iff.1 hi
         rw [← hz2]
         exact ⟨by simpa using hik, HFIT.out _ (List.mem_of_getElem? hz1)⟩
        ·cases hi)
       have HFX := Lib.hid (show Fit G ts h.o from HFIT.out _ (by rw [← HGL.out]; exact List.mem_map_of_mem (List.mem_of_getElem? hh)))
       have HNEW := Lib.hid (show ∀ r, r ≤ k' → (r = 0 ∨ ∃ y, E[r - 1]? = some y ∧ Ahead (ltO G) (Fit G ts) y (h.o, k')) → (r = E.length ∨ ∃ y, E[r]? = some y ∧ Ahead (ltO G) (Fit G ts) (h.o, k') y) →
         (E.take r ++ (h.o, k') :: E.drop r).Perm (gs.zipIdx.take (k' + 1)) ∧ (E.take r ++ (h.o, k') :: E.drop r).Pairwise (Ahead (ltO G) (Fit G ts)) ∧
         (hs.take r ++ h :: hs.drop r).map (·.o) = (E.take r ++ (h.o, k') :: E.drop r).map (·.1) ∧ ∀ z ∈ hs.take r ++ h :: hs.drop r, z ∈ cl by
        intro r hr g1 g2
        refine ⟨?_, ins_at HASY.out HSO5.out (by rw [HEL.out]; exact hr) g1 g2, ?_, ?_⟩
        ·rw [List.take_add_one, HX5.out]
         have e1 := List.perm_middle (a := (h.o, k')) (l₁ := E.take r) (l₂ := E.drop r)
         rw [List.take_append_drop] at e1
         exact e1.trans ((List.perm_append_comm (l₁ := [(h.o, k')]) (l₂ := E)).trans (HP.out.append_right _))
        ·rw [List.map_append, List.map_cons, List.map_take, List.map_drop, List.map_append, List.map_cons, List.map_take, List.map_drop, HMO.out]
        ·intro z hz
         rcases List.mem_append.1 hz with hz | hz
         ·exact HIN5.out z (List.mem_of_mem_take hz)
         ·rcases List.mem_cons.1 hz with rfl | hz
          ·exact List.mem_of_getElem? HH.out
          ·exact HIN5.out z (List.mem_of_mem_drop hz))
       obtain ⟨wG, hwG⟩ : ∃ wG, wG = wr := ⟨_, rfl⟩
       subst hwG
       have HBFG := Lib.hid hbF
       obtain ⟨g8, o8, x8, e8, hg8, hx8, hsx8, b0, b1, b2⟩ := (HSO1.out.keep hbF).at_ (k := k') hkq
       obtain rfl : x8 = h := by rw [HH.out] at hx8; exact (Option.some.inj hx8).symm
       have HSX8 := Lib.hid hsx8
       have hszF : wF.heap.size ≤ wG.heap.size := hbF.size
       rcases hown.2 with ⟨rfl, hz0⟩ | ⟨go, cap, cur, rfl, hgo, hcur, hncap, hcapm, -⟩
       ·obtain rfl : hs = [] := List.eq_nil_of_length_eq_zero hz0
        have hk0 : k' = 0 := by rw [← HHL.out]; rfl
        have HE0 := Lib.hid (HNEW.out 0 (Nat.zero_le _) (Or.inl rfl) (Or.inl (by rw [HEL.out]; exact hk0.symm)))
        have HK0 := Lib.hid hk0
        clear hown hx8 hsx8 hbF hh hk0 hz0
        cases e8
        go_wp2_with fail
        go_loopw [18] (fun i wx => i = .int .i64 0 ∧ Below wG.heap.size wG wx) (fun _ _ => 0)
        case atStart => exact ⟨rfl, Below.refl _ _⟩
        case round =>
         obtain ⟨rfl, hbr⟩ := hrel
         have HBR := Lib.hid hbr
         clear hbr
         go_wp2_with fail
         go_quiet (fail)
         have HBQ := Lib.hid (show Below wG.heap.size wG (wr.drewN nq) from below_drewN HBR.out nq)
         generalize wr.drewN nq = wq at HBQ ⊢
         have q0 := (HBQ.out.cell (p := ⟨g8, o8 + k' * 3, none⟩) hg8).trans b0
         have q1 := (HBQ.out.cell (p := ⟨g8, o8 + k' * 3 + 1, none⟩) hg8).trans b1
         have q2 := (HBQ.out.cell (p := ⟨g8, o8 + k' * 3 + 2, none⟩) hg8).trans b2
         go_wp2_with (first
          | (at_builtin; refine wpList_append_one outSlice rfl _ _ rfl rfl rfl (World.ownsRow_nil wq wq.heap.size 52 3) (Below.refl _ _) (Nat.le_refl _) rfl (out_cell' _ _ _ _ _) (by omega) ?_; intro v2 w2 hown2 hb2 hv2; have HOW2 := Lib.hid hown2; have HB2 := Lib.hid hb2; clear hown2 hb2 hv2)
          | (at_builtin; refine wpList_append_src outSlice rfl _ _ rfl rfl rfl HOW2.out (Sees.nil _ 3) HB2.out (Nat.le_refl _) (by simp) (by omega) ?_; intro v3 w3 hown3 hb3 hg3; have HOW3 := Lib.hid hown3; have HB3 := Lib.hid hb3; clear hown3 hb3 hg3))
         go_roundw
         case rel =>
          obtain ⟨i1, i2, i3, i4⟩ := HE0.out
          refine ⟨k' + 1, _, [x8], by omega, by go_num, i1, i2, i3, i4, ?_, HBF.out.trans ((below_step HBQ.out HB3.out).mono hszF)⟩
          have hw3 := own_mono HOW3.out (show w.heap.size ≤ wq.heap.size by have := HBQ.out.size; omega)
          have ec : outCells [x8] = [] ++ (#[Value.slice x8.p x8.o.row.length x8.c, .int .i64 x8.o.err, .int .i64 x8.o.beg] : Array Value).toList ++ [] := by simp [outCells, oC, OutH.e]
          rw [ec]
          exact hw3
         case measure => simp [intOf]; omega
       ·have hown2 := HOW.out
        have HSEE := Lib.hid (show SeesOuts wG (some ⟨go, 0, none⟩) k' cap hs by
         obtain ⟨A', c', e, hs'⟩ := Sees.of_own hown2
         injection e with e1 e2 e3
         subst e1 e3
         rw [HHL.out] at hs'
         exact ⟨hs', fun z hz => ((HSO1.out.keep hbF).2 z (HIN5.out z hz))⟩)
        rw [HHL.out] at hncap ⊢
        have hgoF : go < wG.heap.size := (Array.getElem?_eq_some_iff.1 hcur).1
        unfold maxLen at hcapm
        clear hown hcur hown2 hx8 hsx8 hbF hh
        cases e8
        go_wp2_with fail
        go_loopw [18] (fun i wx => ∃ r : Nat, i = .int .i64 r ∧ r ≤ k' ∧ (∀ y ∈ E.drop r, Ahead (ltO G) (Fit G ts) (x8.o, k') y) ∧ Below wG.heap.size wG wx) (fun i _ => (intOf i).toNat)
        case atStart => exact ⟨k', rfl, Nat.le_refl _, by rw [List.drop_of_length_le (by rw [HEL.out]; exact Nat.le_refl _)]; simp, Below.refl _ _⟩
        case round =>
         obtain ⟨r, rfl, hr, hdr, hbr⟩ := hrel
         have HDR := Lib.hid hdr
         have HBR := Lib.hid hbr
         clear hdr
         have HEND := Lib.hid (show (r = 0 ∨ ∃ y, E[r - 1]? = some y ∧ Ahead (ltO G) (Fit G ts) y (x8.o, k')) → _ from fun g1 => HNEW.out r hr g1 (by
          by_cases hrl : r = k'
          ·exact Or.inl (by rw [HEL.out]; exact hrl)
          ·have hlt : r < E.length := by rw [HEL.out]; omega
           refine Or.inr ⟨E[r], List.getElem?_eq_getElem hlt, HDR.out _ ?_⟩
           rw [List.drop_eq_getElem_cons hlt]; exact List.mem_cons_self))
         by_cases hr0 : r = 0
         ·have HE0 := Lib.hid (HEND.out (Or.inl hr0))
          have dd : decide (0 < r) = false := decide_eq_false (by omega)
          have dd' : decide ((0 : Int) < (r : Int)) = false := decide_eq_false (by omega)
          clear hbr hr0
          go_wp2_with fail
          go_quiet (fail)
          clear dd dd'
          have HBQ := Lib.hid (show Below wG.heap.size wG (wr.drewN nq) from below_drewN HBR.out nq)
          generalize wr.drewN nq = wq at HBQ ⊢
          have HTK := Lib.hid (show Sees wq (some ⟨go, 0, none⟩) (r) cap 3 (outCells (hs.take (r))) by
           rw [← outCells_take]
           exact osees_take (HSEE.out.keep HBQ.out).1 (by omega))
          have q0 := (HBQ.out.cell (p := ⟨g8, o8 + k' * 3, none⟩) hg8).trans b0
          have q1 := (HBQ.out.cell (p := ⟨g8, o8 + k' * 3 + 1, none⟩) hg8).trans b1
          have q2 := (HBQ.out.cell (p := ⟨g8, o8 + k' * 3 + 2, none⟩) hg8).trans b2
          have HDC := Lib.hid (fun w2 (hb : Below wq.heap.size wq w2) => show Sees w2 (if cap = r then some ⟨go, 0, none⟩ else some ⟨go, (r) * 3, none⟩) (k' - (r)) (cap - (r)) 3 (outCells (hs.drop (r))) by
           rw [← outCells_drop]
           exact osees_drop (HSEE.out.keep (below_step HBQ.out hb)).1 (by omega))
          have hq8 : g8 < wq.heap.size := Nat.lt_of_lt_of_le hg8 HBQ.out.size
          go_wp2_with (first
           | (at_builtin; refine wpList_append_src outSlice rfl _ _ rfl rfl rfl (World.ownsRow_nil wq wq.heap.size 52 3) HTK.out (Below.refl _ _) (Nat.le_refl _) (outs_cell' _) (by omega) ?_; intro v1 w1 hown1 hb1 hg1; have t0 := (hb1.cell (p := ⟨g8, o8 + k' * 3, none⟩) hq8).trans q0; have t1 := (hb1.cell (p := ⟨g8, o8 + k' * 3 + 1, none⟩) hq8).trans q1; have t2 := (hb1.cell (p := ⟨g8, o8 + k' * 3 + 2, none⟩) hq8).trans q2; have HOW1 := Lib.hid hown1; have HB1 := Lib.hid hb1; clear hown1 hb1 hg1)
           | (at_builtin; refine wpList_append_one outSlice rfl _ _ rfl rfl rfl HOW1.out HB1.out (Nat.le_refl _) rfl (out_cell' _ _ _ _ _) (by omega) ?_; intro v2 w2 hown2 hb2 hv2; have hdc := HDC.out w2 hb2; have HOW2 := Lib.hid hown2; have HB2 := Lib.hid hb2; clear hown2 hb2 hv2)
           | (generalize (if cap = r then (some ⟨go, 0, none⟩ : Option Addr) else some ⟨go, (r) * 3, none⟩) = A5 at hdc ⊢; at_builtin; refine wpList_append_src outSlice rfl _ _ rfl rfl rfl HOW2.out hdc HB2.out (Nat.le_refl _) (outs_cell' _) (by omega) ?_; intro v3 w3 hown3 hb3 hg3; have HOW3 := Lib.hid hown3; have HB3 := Lib.hid hb3; clear hown3 hb3 hg3 hdc))
          go_roundw
          case rel =>
           obtain ⟨i1, i2, i3, i4⟩ := HE0.out
           refine ⟨k' + 1, _, hs.take (r) ++ x8 :: hs.drop (r), by omega, by go_num, i1, i2, i3, i4, ?_, HBF.out.trans ((below_step HBQ.out HB3.out).mono hszF)⟩
           have hw3 := own_mono HOW3.out (show w.heap.size ≤ wq.heap.size by have := HBQ.out.size; omega)
           have el : (hs.take (r) ++ x8 :: hs.drop (r)).length = 0 + (r) + 1 + (k' - (r)) := by rw [List.length_append, List.length_cons, List.length_take, List.length_drop, HHL.out]; omega
           have ec : outCells (hs.take (r) ++ x8 :: hs.drop (r)) = [] ++ outCells (hs.take (r)) ++ (#[Value.slice x8.p x8.o.row.length x8.c, .int .i64 x8.o.err, .int .i64 x8.o.beg] : Array Value).toList ++ outCells (hs.drop (r)) := by
            unfold outCells; rw [List.flatMap_append, List.flatMap_cons]; simp [oC, OutH.e]
           rw [el, ec]
           exact hw3
          case measure => simp [intOf]; omega
         ·obtain ⟨r', hr1⟩ : ∃ r', r = r' + 1 := ⟨r - 1, by omega⟩
          have hrk : r' < k' := by omega
          have HRLE := Lib.hid hr
          obtain ⟨y, hy⟩ : ∃ y, E[r']? = some y := ⟨_, List.getElem?_eq_getElem (by rw [HEL.out]; exact hrk)⟩
          obtain ⟨g9, o9, x9, e9, hg9, hx9, hsx9, u0, u1, u2⟩ := (HSEE.out.keep hbr).at_ (k := r') hrk
          cases e9
          rw [Nat.zero_add] at u0 u1 u2
          have hyo : x9.o = y.1 := by
           have := congrArg (fun l : List OutP => l[r']?) HMO.out
           simpa [hy, hx9] using this
          have hty := HTG.out y (List.mem_of_getElem? hy)
          have HAO := Lib.hid (ahead_of (lt := ltO G) (P := Fit G ts) (x := y) (y := (x8.o, k')) hty.2 HFX.out hty.1)
          have HED := Lib.hid (show E.drop r' = y :: E.drop r by
           obtain ⟨g1, g2⟩ := List.getElem?_eq_some_iff.1 hy
           rw [List.drop_eq_getElem_cons g1, g2, hr1])
          have HE1 := Lib.hid (show E[r - 1]? = some y by rw [hr1]; exact hy)
          have TA := Lib.hid (ahead_any x8 x9 G wr.drew ((HSX8.out.keep hbr).keep ((Below.refl _ _).drew)) (hsx9.keep ((Below.refl _ _).drew)) HFX.out (by rw [hyo]; exact hty.2))
          rw [hyo] at TA
          have b0' := (hbr.cell (p := ⟨g8, o8 + k' * 3, none⟩) hg8).trans b0
          have b1' := (hbr.cell (p := ⟨g8, o8 + k' * 3 + 1, none⟩) hg8).trans b1
          have b2' := (hbr.cell (p := ⟨g8, o8 + k' * 3 + 2, none⟩) hg8).trans b2
          have hg8r : g8 < wr.heap.size := Nat.lt_of_lt_of_le hg8 hbr.size
          have KP := Lib.hid (fun wq (hq : Below wr.heap.size wr wq) => show wq.cell? ⟨g8, o8 + k' * 3, none⟩ = some (.slice x8.p x8.o.row.length x8.c) ∧ wq.cell? ⟨g8, o8 + k' * 3 + 1, none⟩ = some (.int .i64 x8.o.err) ∧ wq.cell? ⟨g8, o8 + k' * 3 + 2, none⟩ = some (.int .i64 x8.o.beg) ∧
            wq.cell? ⟨go, r' * 3, none⟩ = some (.slice x9.p x9.o.row.length x9.c) ∧ wq.cell? ⟨go, r' * 3 + 1, none⟩ = some (.int .i64 x9.o.err) ∧ wq.cell? ⟨go, r' * 3 + 2, none⟩ = some (.int .i64 x9.o.beg) from
           ⟨(hq.cell (p := ⟨g8, o8 + k' * 3, none⟩) hg8r).trans b0', (hq.cell (p := ⟨g8, o8 + k' * 3 + 1, none⟩) hg8r).trans b1', (hq.cell (p := ⟨g8, o8 + k' * 3 + 2, none⟩) hg8r).trans b2',
            (hq.cell (p := ⟨go, r' * 3, none⟩) hg9).trans u0, (hq.cell (p := ⟨go, r' * 3 + 1, none⟩) hg9).trans u1, (hq.cell (p := ⟨go, r' * 3 + 2, none⟩) hg9).trans u2⟩)
          have dd : decide (0 < r) = true := decide_eq_true (by omega)
          have dd' : decide ((0 : Int) < (r : Int)) = true := decide_eq_true (by omega)
          have z1 : (0 : Int) ≤ (r' : Int) := by omega
          have z2 : (r' : Int) < (k' : Int) := by omega
          have z3 : (0 : Int) ≤ (k' : Int) := by omega
          have z4 : (k' : Int) < (q : Int) := by omega
          have z6 : (r : Int) - 1 = (r' : Int) := by omega
          have z7 : IntKind.i64.wrap (r' : Int) = (r' : Int) := IntWalk.i64_in _ (by omega)
          have z8 : IntKind.i64.wrap ((r : Int) - 1) = (r' : Int) := by rw [z6]; exact z7
          have hrr : r' < r := by omega
          have hbr0 : Below wr.heap.size wr wr.drew := (Below.refl _ _).drew
          have HBD := Lib.hid hbr0
          obtain ⟨bb, hbb⟩ : ∃ bb, ltO G x8.o y.1 = bb := ⟨_, rfl⟩
          rw [hbb] at TA
          have HBB := Lib.hid hbb
          clear hbr hy hx9 hsx9 hyo hty hbr0 hr0 hbb hr1
          go_wp2_with fail
          go_region_held3 (fun wq => wq.cell? ⟨g8, o8 + k' * 3, none⟩ = some (.slice x8.p x8.o.row.length x8.c) ∧ wq.cell? ⟨g8, o8 + k' * 3 + 1, none⟩ = some (.int .i64 x8.o.err) ∧ wq.cell? ⟨g8, o8 + k' * 3 + 2, none⟩ = some (.int .i64 x8.o.beg) ∧
            wq.cell? ⟨go, r' * 3, none⟩ = some (.slice x9.p x9.o.row.length x9.c) ∧ wq.cell? ⟨go, r' * 3 + 1, none⟩ = some (.int .i64 x9.o.err) ∧ wq.cell? ⟨go, r' * 3 + 2, none⟩ = some (.int .i64 x9.o.beg)) (first | exact KP.out _ (Below.refl _ _) | exact KP.out _ HBD.out | exact KP.out _ HB3.out) (first
           | (go_at_call 18; refine (TA.out).mono ?_; rintro e' w3 ⟨rfl, hb3⟩; have HB3 := Lib.hid (below_step HBD.out hb3); clear hb3))
          clear z8 z7 u0 u1 u2 b0' b1' b2' dd dd'
          cases bb with
          | true =>
           go_wp2_with fail
           go_roundw
           case rel =>
            refine ⟨r', rfl, by omega, ?_, below_step HBR.out HB3.out⟩
            rw [HED.out]
            intro z hz
            rcases List.mem_cons.1 hz with rfl | hz
            ·exact HAO.out.1 HBB.out
            ·exact HDR.out z hz
           case measure => simp [intOf]; omega
          | false =>
           have HE0 := Lib.hid (HEND.out (Or.inr ⟨y, HE1.out, HAO.out.2 HBB.out⟩))
           clear z6 z1 z2 hrr hrk
           have HBQ := Lib.hid (show Below wG.heap.size wG w3 from below_step HBR.out HB3.out)
           generalize w3 = wq at HBQ ⊢
           have HTK := Lib.hid (show Sees wq (some ⟨go, 0, none⟩) (r) cap 3 (outCells (hs.take (r))) by
            rw [← outCells_take]
            exact osees_take (HSEE.out.keep HBQ.out).1 (by omega))
           have q0 := (HBQ.out.cell (p := ⟨g8, o8 + k' * 3, none⟩) hg8).trans b0
           have q1 := (HBQ.out.cell (p := ⟨g8, o8 + k' * 3 + 1, none⟩) hg8).trans b1
           have q2 := (HBQ.out.cell (p := ⟨g8, o8 + k' * 3 + 2, none⟩) hg8).trans b2
           have HDC := Lib.hid (fun w2 (hb : Below wq.heap.size wq w2) => show Sees w2 (if cap = r then some ⟨go, 0, none⟩ else some ⟨go, (r) * 3, none⟩) (k' - (r)) (cap - (r)) 3 (outCells (hs.drop (r))) by
            rw [← outCells_drop]
            exact osees_drop (HSEE.out.keep (below_step HBQ.out hb)).1 (by omega))
           have hq8 : g8 < wq.heap.size := Nat.lt_of_lt_of_le hg8 HBQ.out.size
           go_wp2_with (first
            | (at_builtin; refine wpList_append_src outSlice rfl _ _ rfl rfl rfl (World.ownsRow_nil wq wq.heap.size 52 3) HTK.out (Below.refl _ _) (Nat.le_refl _) (outs_cell' _) (by omega) ?_; intro v1 w1 hown1 hb1 hg1; have t0 := (hb1.cell (p := ⟨g8, o8 + k' * 3, none⟩) hq8).trans q0; have t1 := (hb1.cell (p := ⟨g8, o8 + k' * 3 + 1, none⟩) hq8).trans q1; have t2 := (hb1.cell (p := ⟨g8, o8 + k' * 3 + 2, none⟩) hq8).trans q2; have HOW1 := Lib.hid hown1; have HB1 := Lib.hid hb1; clear hown1 hb1 hg1)
            | (at_builtin; refine wpList_append_one outSlice rfl _ _ rfl rfl rfl HOW1.out HB1.out (Nat.le_refl _) rfl (out_cell' _ _ _ _ _) (by omega) ?_; intro v2 w2 hown2 hb2 hv2; have hdc := HDC.out w2 hb2; have HOW2 := Lib.hid hown2; have HB2 := Lib.hid hb2; clear hown2 hb2 hv2)
            | (generalize (if cap = r then (some ⟨go, 0, none⟩ : Option Addr) else some ⟨go, (r) * 3, none⟩) = A5 at hdc ⊢; at_builtin; refine wpList_append_src outSlice rfl _ _ rfl rfl rfl HOW2.out hdc HB2.out (Nat.le_refl _) (outs_cell' _) (by omega) ?_; intro v3 w3 hown3 hb3 hg3; have HOW3 := Lib.hid hown3; have HB3 := Lib.hid hb3; clear hown3 hb3 hg3 hdc))
           go_roundw
           case rel =>
            obtain ⟨i1, i2, i3, i4⟩ := HE0.out
            refine ⟨k' + 1, _, hs.take (r) ++ x8 :: hs.drop (r), by omega, by go_num, i1, i2, i3, i4, ?_, HBF.out.trans ((below_step HBQ.out HB3.out).mono hszF)⟩
            have hw3 := own_mono HOW3.out (show w.heap.size ≤ wq.heap.size by have := HBQ.out.size; omega)
            have el : (hs.take (r) ++ x8 :: hs.drop (r)).length = 0 + (r) + 1 + (k' - (r)) := by rw [List.length_append, List.length_cons, List.length_take, List.length_drop, HHL.out]; omega
            have ec : outCells (hs.take (r) ++ x8 :: hs.drop (r)) = [] ++ outCells (hs.take (r)) ++ (#[Value.slice x8.p x8.o.row.length x8.c, .int .i64 x8.o.err, .int .i64 x8.o.beg] : Array Value).toList ++ outCells (hs.drop (r)) := by
             unfold outCells; rw [List.flatMap_append, List.flatMap_cons]; simp [oC, OutH.e]
            rw [el, ec]
            exact hw3
           case measure => simp [intOf]; omega
      ·obtain rfl : k' = q := by omega
       have hss6 := Sees.of_own HOW.out
       obtain ⟨OA, OC, hv', hse⟩ := hss6
       subst hv'
       have hb7 := HJ1.out.own6
       obtain ⟨VB, VD, hv6⟩ := own_shape hb7
       have hss7 := Sees.of_own (HJ1.out.keep hbw2 hbF).own6
       obtain ⟨VB', VD', hv7, hse7⟩ := hss7
       rw [hv6] at hv7
       injection hv7 with e1 e2 e3
       subst e1 e3
       clear e2
       have HSE7 := Lib.hid hse7
       have hp5 := HP.out
       rw [List.take_of_length_le (by rw [HZL.out]; exact Nat.le_refl _)] at hp5
       have HP5 := Lib.hid hp5
       have HBW := Lib.hid (show Below w.heap.size w wr from HHB.out.trans (HBX.out.mono hBw |>.trans (hbF.mono hbw2)))
       have HROWS := Lib.hid (show ∀ z ∈ hs, SeesOut wr z ∧ ∀ ad, z.p = some ad → ad.block < w.heap.size by
        intro z hz
        refine ⟨(HSO1.out.keep hbF).2 z (HIN5.out z hz), fun ad e => ?_⟩
        refine HIN.out z (HLT.out z (HIN5.out z hz)) ?_ ad e
        intro h0
        have h1 : z.o ∈ gs := by rw [← HGL.out]; exact List.mem_map_of_mem (HIN5.out z hz)
        rw [← HGS.out] at h1
        unfold goods at h1
        have := (List.mem_filter.1 h1).2
        rw [h0] at this; cases this)
       have HEMP := Lib.hid HJ1.out.empty
       have hown := HOW.out
       rw [HHL.out] at hown ⊢
       have HOW9 := Lib.hid hown
       have hn6 := HN6.out
       subst hv6
       generalize hb6 : bd.length = n6 at *
       clear hb7 hse hse7 hp5 hbF hb6 hown
       go_wp2_with (first
        | (at_builtin; refine wpList_append_src outSlice rfl _ _ rfl rfl rfl HOW9.out HSE7.out HBW.out (Nat.le_refl _) (outs_cell' bd) (by omega) ?_; intro v1 w6 hown6 hb6 hg6; have HOW6 := Lib.hid hown6; have HB7 := Lib.hid hb6; have HG7 := Lib.hid hg6; clear hown6 hb6 hg6))
       go_ret2
       obtain ⟨A', c', hv1, hsee⟩ := Sees.of_own HOW6.out
       refine ⟨Or.inr ⟨HJ0.out, A', k' + n6, c', hs ++ bd, by rw [hv1]; rfl, ⟨?_, ?_⟩, E, by rw [HGS.out]; exact HP5.out, by rw [HGS.out, HTS.out]; exact HSO5.out, ?_⟩, HB7.out⟩
       ·have : outCells (hs ++ bd) = outCells hs ++ outCells bd := by unfold outCells; rw [List.flatMap_append]
        rw [this]; exact hsee
       ·intro h hh
        rcases List.mem_append.1 hh with hh | hh
        ·obtain ⟨r1, r2⟩ := HROWS.out h hh
         refine only_out (grown_only HG7.out) r1 (fun ad e e2 => ?_)
         have h3 := HOW9.out.lt ad.block e2.symm
         have := r2 ad e
         omega
        ·have := HEMP.out h hh
         exact sees_none this.1 this.2
       ·rw [List.map_append, HMO.out, HBL.out]
theorem rjoin_any (A : Option Addr) (m c : Nat) (ls : List ListH) (gI : Int) (w : World) (hS : SeesLists w A m c ls) (hm : m ≤ 1048576) (hl : ∀ l ∈ ls, l.hs.length ≤ 1048576) (hwf : ∀ h ∈ flat ls, ∀ v ∈ h.o.row, v.wf) :
  Calls Tryd.prog 9 #[.slice A m c, .int .i64 gI] w (JoinPost gI (outsOf ls) w intV) := by
 by_cases h : gI < 0 ∨ 6 < gI
 ·exact rjoin_range A m c _ gI w h
 ·obtain ⟨G, rfl⟩ : ∃ G : Nat, gI = G := ⟨gI.toNat, by omega⟩
  exact rjoin_go A m c ls G w (by omega) hS hm hl hwf
end SortLaw
end Go.Proofs.YtkgdfccpkiglaaaDoor
