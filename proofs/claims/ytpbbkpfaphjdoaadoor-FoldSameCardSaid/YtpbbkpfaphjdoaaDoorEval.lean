/- eval.Of and eval.Eval, walked: what an expression comes to, of a row. -/
import Derived.Test.YtpbbkpfaphjdoaaDoorEvFn
import Derived.Test.YtpbbkpfaphjdoaaDoorRowCheck
import Derived.RegionTactic
import Derived.BigRegion
namespace Go.Proofs.YtpbbkpfaphjdoaaDoor
open Go.ChangeShapes Go.WideShapes Go.ChangeAt Go.RowKit

theorem valSlice : SliceTy Tryd.prog 28 54 (.agg #[.int .i64 0, .int .i64 0, .string ⟨#[]⟩]) 3 32 := SliceTy.of Tryd.underlying28 (by kernel_rfl) rfl (by decide) (by decide)
theorem valsCells_snoc (l : List Val) (v : Val) : valsCells (l ++ [v]) = valsCells l ++ (#[Value.int .i64 v.type, .int .i64 v.n, .string v.s] : Array Value).toList := by simp [valsCells, valCells]
def EvSays (x : EvR) (w : World) (e : Ending) (w' : World) : Prop := e = .returned (.tuple #[valV x.v, errV x.k]) ∧ Below w.heap.size w w'
theorem evLoop_end {cols : List Col} {r : List Val} {op : ByteArray} {acc : List Val} {args : List Ex} {n : Nat} (h : args.length = n) : evLoop cols r op (args.drop n) acc = ⟨applyErr op acc, applyVal op acc⟩ := by
  rw [List.drop_of_length_le (by omega), evLoop]
theorem rowErr_ok {cols : List Col} {r : List Val} (h : rowErr cols r = 0) (hw : ∀ v ∈ r, v.wf) : schemaErr cols = 0 ∧ RowOk cols r := by
  unfold rowErr at h
  by_cases h1 : schemaErr cols = 0
  · rw [if_neg (by simp [h1])] at h
    by_cases h2 : r.length = cols.length
    · rw [if_neg (by simp [h2])] at h
      have key : ∀ (i : Nat) (c : Col) (v : Val), cols[i]? = some c → r[i]? = some v → vcheck v = 0 ∧ v.type = c.type := by
        intro i c v hc hv
        have := firstErr_all h i (List.getElem?_eq_some_iff.1 hv).1
        rw [rowAt_get hv hc] at this
        by_cases h3 : vcheck v = 0
        · rw [if_neg (by simp [h3])] at this
          by_cases h4 : v.type = c.type
          · exact ⟨h3, h4⟩
          · rw [if_pos h4] at this; omega
        · rw [if_pos h3] at this; exact absurd this h3
      refine ⟨h1, h2, ?_, fun i c v hc hv => (key i c v hc hv).2⟩
      intro v hv
      obtain ⟨i, hi⟩ := List.mem_iff_getElem?.1 hv
      have hl := (List.getElem?_eq_some_iff.1 hi).1
      exact ⟨hw v hv, (key i _ v (List.getElem?_eq_getElem (by omega)) hi).1⟩
    · rw [if_pos h2] at h; omega
  · rw [if_pos h1] at h; exact absurd h h1
def EvAt (m : Nat) : Prop := ∀ e : Ex, SizeOf.sizeOf e ≤ m → ∀ (C R : Option Addr) (p q y s : Nat) (cols : List Col) (r : List Val) (w : World), SeesCols w C p q cols → SeesVals w R y s r → RowOk cols r → SeesEx w e → nodesErr e = 0 → (ofE cols e).h = 0 →
    Calls Tryd.prog 61 #[exV e, .slice C p q, .slice R y s] w (EvSays (evE cols r e) w)

set_option maxHeartbeats 2000000 in
set_option maxRecDepth 100000 in
theorem ev_step (m : Nat) (ih : EvAt m) (op name : ByteArray) (v : Val) (A : Option Addr) (c : Nat) (args : List Ex) (pos : Int) (hm : SizeOf.sizeOf (Ex.mk op name v A c args pos) ≤ m + 1)
    (C R : Option Addr) (p q y s : Nat) (cols : List Col) (r : List Val) (w : World) (hC : SeesCols w C p q cols) (hR : SeesVals w R y s r) (hr : RowOk cols r) (he : SeesEx w (.mk op name v A c args pos)) (hne : nodesErr (.mk op name v A c args pos) = 0) (hh : (ofE cols (.mk op name v A c args pos)).h = 0) :
    Calls Tryd.prog 61 #[exV (.mk op name v A c args pos), .slice C p q, .slice R y s] w (EvSays (evE cols r (.mk op name v A c args pos)) w) := by
  have IH := Lib.hid ih
  have HM := Lib.hid (fun a (ha : a ∈ args) => show SizeOf.sizeOf a ≤ m by have := ex_lt (e := .mk op name v A c args pos) ha; omega)
  have hb0 : Below w.heap.size w ((w.alloc (.cells #[.string op, .string name, .int .i64 v.type, .int .i64 v.n, .string v.s, .slice A args.length c, .int .i64 pos] 57)).alloc (.cells #[.int .i64 0, .int .i64 0, .string ⟨#[]⟩] 54)) := ((Below.refl _ _).alloc (Nat.le_refl _) _).alloc (by simp) _
  have ho : Own3 ((w.alloc (.cells #[.string op, .string name, .int .i64 v.type, .int .i64 v.n, .string v.s, .slice A args.length c, .int .i64 pos] 57)).alloc (.cells #[.int .i64 0, .int .i64 0, .string ⟨#[]⟩] 54)) (w.heap.size + 1) noVal := by
    have := own3_new (w.alloc (.cells #[.string op, .string name, .int .i64 v.type, .int .i64 v.n, .string v.s, .slice A args.length c, .int .i64 pos] 57)) noVal
    rw [show (w.alloc (.cells #[.string op, .string name, .int .i64 v.type, .int .i64 v.n, .string v.s, .slice A args.length c, .int .i64 pos] 57)).heap.size = w.heap.size + 1 by simp] at this
    exact this
  have HE := Lib.hid (he.keep hb0)
  have HCo := Lib.hid (hC.keep hb0)
  have HRo := Lib.hid (hR.keep hb0)
  have HV := Lib.hid ho
  have HB := Lib.hid hb0
  have HNE := Lib.hid (nodesErr_parts hne)
  have HP := Lib.hid (ofE_parts hh)
  have HRK := Lib.hid hr
  have HSD := Lib.hid (fun a (ha : a ∈ args) => ev_sound hr _ a (Nat.le_refl _) w (he.parts.2.2.2.2.2 a ha) (nodesErrs_all HNE.out.2 a ha) (HP.out.1 a ha))
  have hn3 := (nodeErr_len HNE.out.1).2.2
  have hcap : args.length ≤ c := he.parts.1.2.1
  have hmax : c ≤ maxLen := he.parts.1.2.2.1
  unfold maxLen at hmax
  have hq : p ≤ q := hC.2.2.1
  have hqm : q ≤ maxLen := hC.2.2.2.1
  have hys : y ≤ s := hR.2.2.1
  have hsm : s ≤ maxLen := hR.2.2.2.1
  unfold maxLen at hqm hsm
  have HS := Lib.hid (evE_mk cols r op name v A c args pos)
  have CE := Lib.hid (fun (w1 : World) (hb : Below ((w.alloc (.cells #[.string op, .string name, .int .i64 v.type, .int .i64 v.n, .string v.s, .slice A args.length c, .int .i64 pos] 57)).alloc (.cells #[.int .i64 0, .int .i64 0, .string ⟨#[]⟩] 54)).heap.size ((w.alloc (.cells #[.string op, .string name, .int .i64 v.type, .int .i64 v.n, .string v.s, .slice A args.length c, .int .i64 pos] 57)).alloc (.cells #[.int .i64 0, .int .i64 0, .string ⟨#[]⟩] 54)) w1) (j : Nat) (u : Value) (hu : (#[.string op, .string name, .int .i64 v.type, .int .i64 v.n, .string v.s, .slice A args.length c, .int .i64 pos] : Array Value)[j]? = some u) =>
    (show w1.cell? ⟨w.heap.size, j, none⟩ = some u from (hb.cell (p := ⟨w.heap.size, j, none⟩) (by simp; omega)).trans (((Below.refl (w.alloc (.cells #[.string op, .string name, .int .i64 v.type, .int .i64 v.n, .string v.s, .slice A args.length c, .int .i64 pos] 57)).heap.size _).alloc (Nat.le_refl _) _).cell (p := ⟨w.heap.size, j, none⟩) (by simp) |>.trans (by rw [cell_of_row _ _ _ _ _ _ (heap_alloc_new w _)]; exact hu))))
  show Calls Tryd.prog 61 #[.agg #[.string op, .string name, .int .i64 v.type, .int .i64 v.n, .string v.s, .slice A args.length c, .int .i64 pos], .slice C p q, .slice R y s] w _
  clear ih hm hC hR hr he hne hb0 ho hh
  generalize hn : args.length = n at hcap HE HB HCo HRo HV HNE hn3 CE ⊢
  have HLn := Lib.hid hn
  clear hn
  have e0 : ∀ l, op.data.toList = l → (op.toList == l) = true := fun l h => str_is h
  have EQ := Lib.hid e0
  clear e0
  generalize hw0 : ((w.alloc (.cells #[.string op, .string name, .int .i64 v.type, .int .i64 v.n, .string v.s, .slice A n c, .int .i64 pos] 57)).alloc (.cells #[.int .i64 0, .int .i64 0, .string ⟨#[]⟩] 54)) = w0 at HE HB HCo HRo HV CE
  have HW0 := Lib.hid hw0
  clear hw0
  have HSZ0 := Lib.hid HB.out.size
  by_cases hv : isVal op
  · have E := Lib.hid (show evE cols r (.mk op name v A c args pos) = ⟨0, v⟩ by rw [HS.out, if_pos hv])
    have e1 := str_is hv
    have d0 := CE.out w0 (Below.refl _ _) 0 _ rfl
    have d2 := CE.out w0 (Below.refl _ _) 2 _ rfl
    have d3 := CE.out w0 (Below.refl _ _) 3 _ rfl
    have d4 := CE.out w0 (Below.refl _ _) 4 _ rfl
    obtain ⟨o0, o1, o2, z0, z1, z2, hlt⟩ := HV.out.cells
    have HBR := Lib.hid (Below.refl w0.heap.size w0)
    clear hv
    go_enter Tryd.func61, Tryd.ntmps61
    go_wp2_with (first | rw [HW0.out])
    have HO4 := own3_set HV.out v.type v.n v.s
    have HB4 := Lib.hid (below_set3 (below_step HB.out HBR.out) (Nat.le_succ _) v.type v.n v.s)
    generalize ((w0.setCell ⟨w.heap.size + 1, 0, none⟩ (.int .i64 v.type)).setCell ⟨w.heap.size + 1, 1, none⟩ (.int .i64 v.n)).setCell ⟨w.heap.size + 1, 2, none⟩ (.string v.s) = w9 at HO4 HB4 ⊢
    clear o0 o1 o2 z0 z1 z2 hlt
    obtain ⟨o0, o1, o2, z0, z1, z2, hlt⟩ := HO4.cells
    refine bodyPost_ret (v := .tuple #[valV v, .nilIface]) (by simp [results, Tryd.results61, go_sem, o0, o1, o2, valV]) rfl ⟨?_, HB4.out⟩
    rw [E.out]
    try rfl
  · have e1 := str_ne hv
    by_cases hc : isCol op
    · have e2 := str_is hc
      have hpp := HP.out.2.2
      unfold ofNode at hpp
      rw [if_neg hv, if_pos hc] at hpp
      have hf : ¬ findCol cols name < 0 := fun hf => by
        rw [if_pos hf] at hpp; exact absurd (show (5 : Int) = 0 from hpp) (by omega)
      obtain ⟨j, x, hj, hx, _⟩ := findCol_get (Int.not_lt.1 hf)
      have hjp : j < y := by
        have h1 := (List.getElem?_eq_some_iff.1 hx).1
        have h2 := HRK.out.len
        have h3 := HRo.out.1
        omega
      have T := Lib.hid (rFind_some cols name C p q w0 HCo.out (Int.not_lt.1 hf))
      have HJ := Lib.hid hj
      have E := Lib.hid (show ∀ z, r[j]? = some z → evE cols r (.mk op name v A c args pos) = ⟨0, z⟩ by
        intro z hz
        rw [HS.out, if_neg hv, if_pos hc, if_neg hf, hj, Int.toNat_natCast, List.getD_eq_getElem?_getD, hz]; rfl)
      have d0 := CE.out w0 (Below.refl _ _) 0 _ rfl
      have d1 := CE.out w0 (Below.refl _ _) 1 _ rfl
      clear hv hc hf hj hx hpp
      go_enter Tryd.func61, Tryd.ntmps61
      go_wp2_with (first | rw [HW0.out])
      refine (T.out).mono ?_
      rintro e' w2 ⟨rfl, hb1⟩
      rw [HJ.out]
      have HB2 := Lib.hid hb1
      have HV2 := Lib.hid (HV.out.keep hb1)
      obtain ⟨o0, o1, o2, z0, z1, z2, hlt⟩ := HV2.out.cells
      obtain ⟨g2, ob, x2, rfl, hg2, hx2, k0, k1, k2⟩ := (HRo.out.keep hb1).at_ hjp
      have E2 := Lib.hid (E.out x2 hx2)
      clear hb1 hx2 E d0 d1
      go_wp2_with fail
      have HO4 := own3_set HV2.out x2.type x2.n x2.s
      have HB4 := Lib.hid (below_set3 (below_step HB.out HB2.out) (Nat.le_succ _) x2.type x2.n x2.s)
      generalize ((w2.setCell ⟨w.heap.size + 1, 0, none⟩ (.int .i64 x2.type)).setCell ⟨w.heap.size + 1, 1, none⟩ (.int .i64 x2.n)).setCell ⟨w.heap.size + 1, 2, none⟩ (.string x2.s) = w9 at HO4 HB4 ⊢
      clear o0 o1 o2 z0 z1 z2 hlt
      obtain ⟨o0, o1, o2, z0, z1, z2, hlt⟩ := HO4.cells
      refine bodyPost_ret (v := .tuple #[valV x2, .nilIface]) (by simp [results, Tryd.results61, go_sem, o0, o1, o2, valV]) rfl ⟨?_, HB4.out⟩
      rw [E2.out]
      try rfl
    · have e2 := str_ne hc
      obtain ⟨q1, q2⟩ := ofNode_op hv hc HP.out.2.2
      have HRP := Lib.hid (ruleErr_parts q1)
      clear q1 q2
      by_cases hi : isIf op
      · have e3 := str_is hi
        have hl3 : n = 3 := by
          have h1 := HRP.out.2.1
          rw [ofTypes_length, (if_grp hi).2, HLn.out] at h1
          omega
        subst hl3
        obtain ⟨g, o, x, (rfl : A = _), hg, hx, hsx, c0, c1, c2, c3, c4, c5, c6⟩ := HE.out.at_ (k := 0) (by show 0 < args.length; rw [HLn.out]; omega)
        simp only [Nat.zero_mul, Nat.add_zero] at c0 c1 c2 c3 c4 c5 c6
        have HX := Lib.hid (show args[0]? = some x from hx)
        have hmx := List.mem_of_getElem? HX.out
        have T := Lib.hid (IH.out x (HM.out x hmx) C R p q y s cols r w0 HCo.out HRo.out HRK.out hsx (nodesErrs_all HNE.out.2 x hmx) (HP.out.1 x hmx))
        unfold exV at T
        have SX := Lib.hid (HSD.out x hmx)
        have HT0 := Lib.hid (show (ofE cols x).t = 2 by
          have h1 := HRP.out.2.2
          rw [(if_grp hi).1] at h1
          have h2 : (((ofTypes cols args).getD 0 0 == 2) && ((ofTypes cols args).getD 1 0 == (ofTypes cols args).getD 2 0)) = true := h1
          simp at h2
          have h3 := h2.1
          rw [ofTypes_map, List.getElem?_map, HX.out] at h3
          simpa using h3)
        have EI := Lib.hid (show evE cols r (.mk op name v (some ⟨g, o, none⟩) c args pos) = if (evE cols r x).k ≠ 0 then ⟨(evE cols r x).k, noVal⟩ else evAt cols r args (2 - (evE cols r x).v.n).toNat by
          rw [HS.out, if_neg hv, if_neg hc, if_pos hi, evAt_get HX.out])
        have d0 := CE.out w0 (Below.refl _ _) 0 _ rfl
        have d5 := CE.out w0 (Below.refl _ _) 5 _ rfl
        clear hv hc hi hx hsx hmx
        generalize evE cols r x = xr at T SX EI
        obtain ⟨xk, xv⟩ := xr
        go_enter Tryd.func61, Tryd.ntmps61
        go_wp2_with (first | rw [HW0.out])
        refine (T.out).mono ?_
        rintro e' w2 ⟨rfl, hb1⟩
        by_cases hk : xk = 0
        · have HXR : right xv ∧ xv.type = (ofE cols x).t := by
            rcases SX.out with h | h
            · exact h.2
            · exact absurd (hk.symm.trans h.1) (by omega)
          have hbn := bool_of HXR.1.2 (HXR.2.trans HT0.out)
          subst hk
          obtain ⟨w3, hw3⟩ : ∃ w3, w2.alloc (.cells #[.int .i64 xv.type, .int .i64 xv.n, .string xv.s] 54) = w3 := ⟨_, rfl⟩
          have hb3 : Below w0.heap.size w0 w3 := by rw [← hw3]; exact below_step hb1 ((Below.refl _ _).alloc (Nat.le_refl _) _)
          have k1 : w3.cell? ⟨w2.heap.size, 1, none⟩ = some (.int .i64 xv.n) := by rw [← hw3]; simp
          have HW3 := Lib.hid hw3
          have HB3 := Lib.hid hb3
          obtain ⟨jx, hjx, hj2⟩ : ∃ jx : Nat, (jx = 1 ∨ jx = 2) ∧ 2 - xv.n = jx := by
            rcases hbn with h | h
            · exact ⟨2, Or.inr rfl, by omega⟩
            · exact ⟨1, Or.inl rfl, by omega⟩
          obtain ⟨g', o', x', e', hg', hx', hsx', c0', c1', c2', c3', c4', c5', c6'⟩ := (HE.out.keep hb3).at_ (k := jx) (by show jx < args.length; rw [HLn.out]; omega)
          cases (show some _ = some _ from e')
          have HX' := Lib.hid (show args[jx]? = some x' from hx')
          have hmx' := List.mem_of_getElem? HX'.out
          have T' := Lib.hid (IH.out x' (HM.out x' hmx') C R p q y s cols r w3 (HCo.out.keep hb3) (HRo.out.keep hb3) HRK.out hsx' (nodesErrs_all HNE.out.2 x' hmx') (HP.out.1 x' hmx'))
          unfold exV at T'
          have EI2 := Lib.hid (show evE cols r (.mk op name v (some ⟨g, o, none⟩) c args pos) = evE cols r x' by
            rw [EI.out, if_neg (by simp), hj2, Int.toNat_natCast, evAt_get HX'.out])
          have d5' := CE.out w3 hb3 5 _ rfl
          have HV3 := Lib.hid (HV.out.keep hb3)
          clear hb1 hw3 hb3 hx' hsx' hmx' EI HXR c0 c1 c2 c3 c4 c5 c6 d0 d5
          generalize evE cols r x' = xr' at T' EI2
          obtain ⟨xk', xv'⟩ := xr'
          unfold valV
          rw [errV_zero]
          rcases hjx with rfl | rfl
          · obtain hn1 : xv.n = 1 := by omega
            rw [hn1] at k1
            clear hj2 hbn hn1
            simp only [Nat.reduceMul] at c0' c1' c2' c3' c4' c5' c6'
            go_wp2_with (first | rw [HW3.out])
            refine (T'.out).mono ?_
            rintro e' w4 ⟨rfl, hb4⟩
            have HB4' := Lib.hid (below_step HB3.out hb4)
            have HV4 := Lib.hid (HV3.out.keep hb4)
            clear hb4
            obtain ⟨o0, o1, o2, z0, z1, z2, hlt⟩ := HV4.out.cells
            unfold valV
            go_wp2_with fail
            have HO4 := own3_set HV4.out xv'.type xv'.n xv'.s
            have HB4 := Lib.hid (below_set3 (below_step HB.out HB4'.out) (Nat.le_succ _) xv'.type xv'.n xv'.s)
            generalize ((w4.setCell ⟨w.heap.size + 1, 0, none⟩ (.int .i64 xv'.type)).setCell ⟨w.heap.size + 1, 1, none⟩ (.int .i64 xv'.n)).setCell ⟨w.heap.size + 1, 2, none⟩ (.string xv'.s) = w9 at HO4 HB4 ⊢
            clear o0 o1 o2 z0 z1 z2 hlt
            obtain ⟨o0, o1, o2, z0, z1, z2, hlt⟩ := HO4.cells
            refine bodyPost_ret (v := .tuple #[valV xv', errV xk']) (by simp [results, Tryd.results61, go_sem, o0, o1, o2, valV]) rfl ⟨?_, HB4.out⟩
            rw [EI2.out]
            try rfl
          · obtain hn1 : xv.n = 0 := by omega
            rw [hn1] at k1
            clear hj2 hbn hn1
            simp only [Nat.reduceMul] at c0' c1' c2' c3' c4' c5' c6'
            go_wp2_with (first | rw [HW3.out])
            refine (T'.out).mono ?_
            rintro e' w4 ⟨rfl, hb4⟩
            have HB4' := Lib.hid (below_step HB3.out hb4)
            have HV4 := Lib.hid (HV3.out.keep hb4)
            clear hb4
            obtain ⟨o0, o1, o2, z0, z1, z2, hlt⟩ := HV4.out.cells
            unfold valV
            go_wp2_with fail
            have HO4 := own3_set HV4.out xv'.type xv'.n xv'.s
            have HB4 := Lib.hid (below_set3 (below_step HB.out HB4'.out) (Nat.le_succ _) xv'.type xv'.n xv'.s)
            generalize ((w4.setCell ⟨w.heap.size + 1, 0, none⟩ (.int .i64 xv'.type)).setCell ⟨w.heap.size + 1, 1, none⟩ (.int .i64 xv'.n)).setCell ⟨w.heap.size + 1, 2, none⟩ (.string xv'.s) = w9 at HO4 HB4 ⊢
            clear o0 o1 o2 z0 z1 z2 hlt
            obtain ⟨o0, o1, o2, z0, z1, z2, hlt⟩ := HO4.cells
            refine bodyPost_ret (v := .tuple #[valV xv', errV xk']) (by simp [results, Tryd.results61, go_sem, o0, o1, o2, valV]) rfl ⟨?_, HB4.out⟩
            rw [EI2.out]
            try rfl
        · have HK := Lib.hid hk
          have EI2 := Lib.hid (show evE cols r (.mk op name v (some ⟨g, o, none⟩) c args pos) = ⟨xk, noVal⟩ by rw [EI.out, if_pos hk])
          have EV := Lib.hid (errV_ne hk)
          obtain ⟨w3, hw3⟩ : ∃ w3, w2.alloc (.cells #[.int .i64 xv.type, .int .i64 xv.n, .string xv.s] 54) = w3 := ⟨_, rfl⟩
          have hb3 : Below w0.heap.size w0 w3 := by rw [← hw3]; exact below_step hb1 ((Below.refl _ _).alloc (Nat.le_refl _) _)
          have HW3 := Lib.hid hw3
          have HB3 := Lib.hid hb3
          have HV3 := Lib.hid (HV.out.keep hb3)
          obtain ⟨o0, o1, o2, z0, z1, z2, hlt⟩ := HV3.out.cells
          clear hb1 hw3 hb3 hk c0 c1 c2 c3 c4 c5 c6 d0 d5
          unfold valV
          rw [EV.out]
          go_wp2_with (first | rw [HW3.out])
          have HO4 := own3_set HV3.out 0 0 ⟨#[]⟩
          have HB4 := Lib.hid (below_set3 (below_step HB.out HB3.out) (Nat.le_succ _) 0 0 ⟨#[]⟩)
          generalize ((w3.setCell ⟨w.heap.size + 1, 0, none⟩ (.int .i64 0)).setCell ⟨w.heap.size + 1, 1, none⟩ (.int .i64 0)).setCell ⟨w.heap.size + 1, 2, none⟩ (.string ⟨#[]⟩) = w9 at HO4 HB4 ⊢
          clear o0 o1 o2 z0 z1 z2 hlt
          obtain ⟨o0, o1, o2, z0, z1, z2, hlt⟩ := HO4.cells
          refine bodyPost_ret (v := .tuple #[valV noVal, .iface 45 (.int .i64 xk)]) (by simp [results, Tryd.results61, go_sem, o0, o1, o2, valV, noVal]) rfl ⟨?_, HB4.out⟩
          rw [EI2.out, ← EV.out]
          try rfl
      · have e3 := str_ne hi
        have EL := Lib.hid (show evE cols r (.mk op name v A c args pos) = evLoop cols r op args [] by rw [HS.out, if_neg hv, if_neg hc, if_neg hi])
        have d0 := CE.out w0 (Below.refl _ _) 0 _ rfl
        have d5 := CE.out w0 (Below.refl _ _) 5 _ rfl
        clear hv hc hi
        go_enter Tryd.func61, Tryd.ntmps61
        go_wp2_with (first | rw [HW0.out])
        clear d0 d5
        go_loopw [12, 71] (fun ts i wr => ∃ (k : Nat) (acc : List Val), k ≤ n ∧ i = .int .i64 k ∧ wr.ownsRow w0.heap.size 54 3 ts k (valsCells acc) ∧ acc.length = k ∧ typesOf acc = ofTypes cols (args.take k) ∧ (∀ z ∈ acc, right z) ∧ Below w0.heap.size w0 wr ∧ evLoop cols r op args [] = evLoop cols r op (args.drop k) acc) (fun _ i _ => n - (intOf i).toNat)
        case atStart => exact ⟨0, [], by omega, rfl, World.ownsRow_nil _ _ _ _, rfl, by rw [List.take_zero, ofTypes]; rfl, by simp, Below.refl _ _, rfl⟩
        case round =>
          obtain ⟨k, acc, hk, rfl, hown, hal, hty, hri, hb, hlp⟩ := hrel
          have HAL := Lib.hid hal
          have HTY := Lib.hid hty
          have HRI := Lib.hid hri
          have HLP := Lib.hid hlp
          have HBR := Lib.hid hb
          have HSZ := Lib.hid hb.size
          clear hal hty hri hlp
          by_cases hlk : k < n
          · obtain ⟨g, o, x, (rfl : A = _), hg, hx, hsx, c0, c1, c2, c3, c4, c5, c6⟩ := (HE.out.keep hb).at_ (k := k) (by show k < args.length; rw [HLn.out]; exact hlk)
            have HX := Lib.hid (show args[k]? = some x from hx)
            have hmx := List.mem_of_getElem? HX.out
            have hbx : Below wr.heap.size wr (wr.alloc (.cells #[.string x.op, .string x.name, .int .i64 x.val.type, .int .i64 x.val.n, .string x.val.s, .slice x.A x.args.length x.c, .int .i64 x.pos] 57)) := (Below.refl _ _).alloc (Nat.le_refl _) _
            have T := Lib.hid (IH.out x (HM.out x hmx) C R p q y s cols r _ ((HCo.out.keep hb).keep hbx) ((HRo.out.keep hb).keep hbx) HRK.out (hsx.keep hbx) (nodesErrs_all HNE.out.2 x hmx) (HP.out.1 x hmx))
            unfold exV at T
            have SX := Lib.hid (HSD.out x hmx)
            have L1 := Lib.hid (fun h => evLoop_err (cols := cols) (r := r) (op := op) (acc := acc) HX.out h)
            have L2 := Lib.hid (fun h1 h2 => evLoop_stop (cols := cols) (r := r) (op := op) (acc := acc) HX.out h1 h2)
            have L3 := Lib.hid (fun h1 h2 => evLoop_next (cols := cols) (r := r) (op := op) (acc := acc) HX.out h1 h2)
            have TY := Lib.hid (show ∀ z : Val, z.type = (ofE cols x).t → typesOf (acc ++ [z]) = ofTypes cols (args.take (k + 1)) by
              intro z hz
              rw [ofTypes_map, List.take_add_one, HX.out]
              have := HTY.out
              rw [ofTypes_map] at this
              simp [typesOf, hz] at this ⊢
              exact this)
            have HBX := Lib.hid hbx
            have HOW := Lib.hid hown
            clear hb hx hsx hmx hbx hown
            generalize evE cols r x = xr at T SX L1 L2 L3
            obtain ⟨xk, xv⟩ := xr
            go_wp2_with fail
            refine (T.out).mono ?_
            rintro e' w2 ⟨rfl, hb1⟩
            obtain ⟨w3, hw3⟩ : ∃ w3, w2.alloc (.cells #[.int .i64 xv.type, .int .i64 xv.n, .string xv.s] 54) = w3 := ⟨_, rfl⟩
            have hbr3 : Below wr.heap.size wr w3 := by rw [← hw3]; exact below_step (below_step HBX.out hb1) ((Below.refl _ _).alloc (Nat.le_refl _) _)
            have hb3 : Below w0.heap.size w0 w3 := HBR.out.trans (hbr3.mono HSZ.out)
            have k0 : w3.cell? ⟨w2.heap.size, 0, none⟩ = some (.int .i64 xv.type) := by rw [← hw3]; simp
            have k1 : w3.cell? ⟨w2.heap.size, 1, none⟩ = some (.int .i64 xv.n) := by rw [← hw3]; simp
            have k2 : w3.cell? ⟨w2.heap.size, 2, none⟩ = some (.string xv.s) := by rw [← hw3]; simp
            have HW3 := Lib.hid hw3
            have HB3 := Lib.hid hb3
            have HV3 := Lib.hid (HV.out.keep hb3)
            have d0 := CE.out w3 hb3 0 _ rfl
            have hown3 := own_keep HOW.out hbr3
            by_cases hk0 : xk = 0
            · have HXR := Lib.hid (show right xv ∧ xv.type = (ofE cols x).t by
                rcases SX.out with h | h
                · exact h.2
                · exact absurd (hk0.symm.trans h.1) (by omega))
              have HXK := Lib.hid hk0
              subst hk0
              unfold valV
              rw [errV_zero]
              by_cases ha : isAnd op
              · have a1 := str_is ha
                have a2 : (op.toList == [111, 114]) = false := str_ne (fun h => by rw [show op.data.toList = _ from ha] at h; exact absurd h (by decide))
                by_cases h0 : xv.n = 0
                · have HST := Lib.hid (L2.out rfl (Or.inl ⟨ha, h0⟩))
                  have b1 : (xv.n == 0) = true := by simpa using h0
                  clear hb1 hw3 hbr3 hb3 hown3 ha h0
                  obtain ⟨o0, o1, o2, z0, z1, z2, hlt⟩ := HV3.out.cells
                  go_wp2_with (first | rw [HW3.out])
                  have HO4 := own3_set HV3.out xv.type xv.n xv.s
                  have HB4 := Lib.hid (below_set3 (below_step HB.out HB3.out) (Nat.le_succ _) xv.type xv.n xv.s)
                  generalize ((w3.setCell ⟨w.heap.size + 1, 0, none⟩ (.int .i64 xv.type)).setCell ⟨w.heap.size + 1, 1, none⟩ (.int .i64 xv.n)).setCell ⟨w.heap.size + 1, 2, none⟩ (.string xv.s) = w9 at HO4 HB4 ⊢
                  clear o0 o1 o2 z0 z1 z2 hlt
                  obtain ⟨o0, o1, o2, z0, z1, z2, hlt⟩ := HO4.cells
                  refine bodyPost_ret (v := .tuple #[valV xv, .nilIface]) (by simp [results, Tryd.results61, go_sem, o0, o1, o2, valV]) rfl ⟨?_, HB4.out⟩
                  rw [EL.out, HLP.out, HST.out]
                  try rfl
                · have HST := Lib.hid (L3.out rfl (fun h => h.elim (fun h => h0 h.2) (fun h => by have := ha.symm.trans h.1; exact absurd this (by decide))))
                  have b1 : (xv.n == 0) = false := by simpa using h0
                  have hc3 := hb3
                  clear hb1 hw3 hbr3 hb3 ha h0
                  go_wp2_with (first
                    | rw [HW3.out]
                    | (at_builtin; refine wpList_append_one valSlice rfl _ _ rfl rfl rfl hown3 hc3 (Nat.le_refl _) rfl (by intro u hu; simp at hu; rcases hu with rfl | rfl | rfl <;> rfl) (by omega) ?_; intro v1 w4 hown4 hb5 _))
                  go_roundw
                  case rel => exact ⟨k + 1, acc ++ [xv], by omega, by go_num, by rw [valsCells_snoc]; exact hown4, by simp [HAL.out], TY.out xv HXR.out.2, by
                    intro z hz
                    rcases List.mem_append.1 hz with hz | hz
                    · exact HRI.out z hz
                    · simp at hz; subst hz; exact HXR.out.1, hb5, by rw [HLP.out, HST.out]⟩
                  case measure => simp [intOf]; omega
              · have a1 := str_ne ha
                by_cases hor : isOr op
                · have a2 := str_is hor
                  by_cases h0 : xv.n = 1
                  · have HST := Lib.hid (L2.out rfl (Or.inr ⟨hor, h0⟩))
                    have b1 : (xv.n == 1) = true := by simpa using h0
                    clear hb1 hw3 hbr3 hb3 hown3 ha h0 hor
                    obtain ⟨o0, o1, o2, z0, z1, z2, hlt⟩ := HV3.out.cells
                    go_wp2_with (first | rw [HW3.out])
                    have HO4 := own3_set HV3.out xv.type xv.n xv.s
                    have HB4 := Lib.hid (below_set3 (below_step HB.out HB3.out) (Nat.le_succ _) xv.type xv.n xv.s)
                    generalize ((w3.setCell ⟨w.heap.size + 1, 0, none⟩ (.int .i64 xv.type)).setCell ⟨w.heap.size + 1, 1, none⟩ (.int .i64 xv.n)).setCell ⟨w.heap.size + 1, 2, none⟩ (.string xv.s) = w9 at HO4 HB4 ⊢
                    clear o0 o1 o2 z0 z1 z2 hlt
                    obtain ⟨o0, o1, o2, z0, z1, z2, hlt⟩ := HO4.cells
                    refine bodyPost_ret (v := .tuple #[valV xv, .nilIface]) (by simp [results, Tryd.results61, go_sem, o0, o1, o2, valV]) rfl ⟨?_, HB4.out⟩
                    rw [EL.out, HLP.out, HST.out]
                    try rfl
                  · have HST := Lib.hid (L3.out rfl (fun h => h.elim (fun h => ha h.1) (fun h => h0 h.2)))
                    have b1 : (xv.n == 1) = false := by simpa using h0
                    have hc3 := hb3
                    clear hb1 hw3 hbr3 hb3 ha h0 hor
                    go_wp2_with (first
                      | rw [HW3.out]
                      | (at_builtin; refine wpList_append_one valSlice rfl _ _ rfl rfl rfl hown3 hc3 (Nat.le_refl _) rfl (by intro u hu; simp at hu; rcases hu with rfl | rfl | rfl <;> rfl) (by omega) ?_; intro v1 w4 hown4 hb5 _))
                    go_roundw
                    case rel => exact ⟨k + 1, acc ++ [xv], by omega, by go_num, by rw [valsCells_snoc]; exact hown4, by simp [HAL.out], TY.out xv HXR.out.2, by
                      intro z hz
                      rcases List.mem_append.1 hz with hz | hz
                      · exact HRI.out z hz
                      · simp at hz; subst hz; exact HXR.out.1, hb5, by rw [HLP.out, HST.out]⟩
                    case measure => simp [intOf]; omega
                · have a2 := str_ne hor
                  have HST := Lib.hid (L3.out rfl (fun h => h.elim (fun h => ha h.1) (fun h => hor h.1)))
                  have hc3 := hb3
                  clear hb1 hw3 hbr3 hb3 ha hor
                  go_wp2_with (first
                    | rw [HW3.out]
                    | (at_builtin; refine wpList_append_one valSlice rfl _ _ rfl rfl rfl hown3 hc3 (Nat.le_refl _) rfl (by intro u hu; simp at hu; rcases hu with rfl | rfl | rfl <;> rfl) (by omega) ?_; intro v1 w4 hown4 hb5 _))
                  go_roundw
                  case rel => exact ⟨k + 1, acc ++ [xv], by omega, by go_num, by rw [valsCells_snoc]; exact hown4, by simp [HAL.out], TY.out xv HXR.out.2, by
                    intro z hz
                    rcases List.mem_append.1 hz with hz | hz
                    · exact HRI.out z hz
                    · simp at hz; subst hz; exact HXR.out.1, hb5, by rw [HLP.out, HST.out]⟩
                  case measure => simp [intOf]; omega
            · have HST := Lib.hid (L1.out hk0)
              have EV := Lib.hid (errV_ne hk0)
              obtain ⟨o0, o1, o2, z0, z1, z2, hlt⟩ := HV3.out.cells
              clear hb1 hw3 hbr3 hb3 hown3 hk0
              unfold valV
              rw [EV.out]
              go_wp2_with (first | rw [HW3.out])
              have HO4 := own3_set HV3.out 0 0 ⟨#[]⟩
              have HB4 := Lib.hid (below_set3 (below_step HB.out HB3.out) (Nat.le_succ _) 0 0 ⟨#[]⟩)
              generalize ((w3.setCell ⟨w.heap.size + 1, 0, none⟩ (.int .i64 0)).setCell ⟨w.heap.size + 1, 1, none⟩ (.int .i64 0)).setCell ⟨w.heap.size + 1, 2, none⟩ (.string ⟨#[]⟩) = w9 at HO4 HB4 ⊢
              clear o0 o1 o2 z0 z1 z2 hlt
              obtain ⟨o0, o1, o2, z0, z1, z2, hlt⟩ := HO4.cells
              refine bodyPost_ret (v := .tuple #[valV noVal, .iface 45 (.int .i64 xk)]) (by simp [results, Tryd.results61, go_sem, o0, o1, o2, valV, noVal]) rfl ⟨?_, HB4.out⟩
              rw [EL.out, HLP.out, HST.out, ← EV.out]
              try rfl
          · obtain rfl : n = k := by omega
            have htk : args.take n = args := List.take_of_length_le (by rw [HLn.out]; exact Nat.le_refl _)
            have HF := Lib.hid (show typesOf acc = ofTypes cols args by have := HTY.out; rwa [htk] at this)
            have E := Lib.hid (show evE cols r (.mk op name v A c args pos) = ⟨applyErr op acc, applyVal op acc⟩ by rw [EL.out, HLP.out, evLoop_end HLn.out])
            obtain ⟨A2, c2, rfl, hs2⟩ := Sees.of_own hown
            have T := Lib.hid (apply_any op acc A2 n c2 wr ⟨HAL.out, hs2⟩ HRP.out.1 (by have h1 := HRP.out.2.1; rw [← HF.out] at h1; simpa [typesOf] using h1) (fun z hz => (HRI.out z hz).1) (fun z hz => (HRI.out z hz).2) (by rw [HF.out]; exact HRP.out.2.2))
            have d0 := CE.out wr hb 0 _ rfl
            clear hown hb htk hs2
            generalize applyErr op acc = ak at T E
            generalize applyVal op acc = av at T E
            go_wp2_with fail
            refine (T.out).mono ?_
            rintro e' w4 ⟨rfl, hb4⟩
            have HB4' := Lib.hid (HBR.out.trans (hb4.mono HSZ.out))
            have HV4 := Lib.hid (HV.out.keep HB4'.out)
            clear hb4
            obtain ⟨o0, o1, o2, z0, z1, z2, hlt⟩ := HV4.out.cells
            unfold valV
            go_wp2_with fail
            have HO4 := own3_set HV4.out av.type av.n av.s
            have HB4 := Lib.hid (below_set3 (below_step HB.out HB4'.out) (Nat.le_succ _) av.type av.n av.s)
            generalize ((w4.setCell ⟨w.heap.size + 1, 0, none⟩ (.int .i64 av.type)).setCell ⟨w.heap.size + 1, 1, none⟩ (.int .i64 av.n)).setCell ⟨w.heap.size + 1, 2, none⟩ (.string av.s) = w9 at HO4 HB4 ⊢
            clear o0 o1 o2 z0 z1 z2 hlt
            obtain ⟨o0, o1, o2, z0, z1, z2, hlt⟩ := HO4.cells
            refine bodyPost_ret (v := .tuple #[valV av, errV ak]) (by simp [results, Tryd.results61, go_sem, o0, o1, o2, valV]) rfl ⟨?_, HB4.out⟩
            rw [E.out]
            try rfl
theorem ev_any : ∀ m : Nat, EvAt m
  | 0 => fun e hm _ _ _ _ _ _ _ _ _ _ _ _ _ _ _ => by cases e; simp at hm
  | m + 1 => fun e hm C R p q y s cols r w hC hR hr he hne hh => by
    obtain ⟨op, name, v, A, c, args, pos⟩ := e
    exact ev_step m (ev_any m) op name v A c args pos hm C R p q y s cols r w hC hR hr he hne hh

/-- What an expression comes to, of a row: the value, or the fault. -/
def evalR (cols : List Col) (r : List Val) (e : Ex) : EvR := if (typeOf cols e).h ≠ 0 then ⟨(typeOf cols e).h, noVal⟩ else if rowErr cols r ≠ 0 then ⟨rowErr cols r, noVal⟩ else evE cols r e
theorem typeOf_ok {cols : List Col} {e : Ex} (h : (typeOf cols e).h = 0) : nodesErr e = 0 ∧ (ofE cols e).h = 0 ∧ checkErr e = 0 ∧ schemaErr cols = 0 ∧ typeOf cols e = ofE cols e := by
  unfold typeOf at h ⊢
  by_cases h1 : checkErr e = 0
  · rw [if_neg (by simp [h1])] at h ⊢
    by_cases h2 : schemaErr cols = 0
    · rw [if_neg (by simp [h2])] at h ⊢
      exact ⟨checkErr_nodes h1, h, h1, h2, rfl⟩
    · rw [if_pos h2] at h; exact absurd h h2
  · rw [if_pos h1] at h; exact absurd h h1

set_option maxHeartbeats 1000000 in
set_option maxRecDepth 100000 in
theorem eval_any (e : Ex) (C R : Option Addr) (p q y s : Nat) (cols : List Col) (r : List Val) (w : World) (hT : Tables w) (hC : SeesCols w C p q cols) (hs : ∀ x ∈ cols, x.name.size ≤ maxLen) (hR : SeesVals w R y s r) (hw : ∀ x ∈ r, x.wf) (he : SeesEx w e) :
    Calls Tryd.prog 24 #[exV e, .slice C p q, .slice R y s] w (EvSays (evalR cols r e) w) := by
  obtain ⟨op, name, v, A, c, args, pos⟩ := e
  have hb0 : Below w.heap.size w ((w.alloc (.cells #[.string op, .string name, .int .i64 v.type, .int .i64 v.n, .string v.s, .slice A args.length c, .int .i64 pos] 57)).alloc (.cells #[.int .i64 0, .int .i64 0, .string ⟨#[]⟩] 54)) := ((Below.refl _ _).alloc (Nat.le_refl _) _).alloc (by simp) _
  have ho : Own3 ((w.alloc (.cells #[.string op, .string name, .int .i64 v.type, .int .i64 v.n, .string v.s, .slice A args.length c, .int .i64 pos] 57)).alloc (.cells #[.int .i64 0, .int .i64 0, .string ⟨#[]⟩] 54)) (w.heap.size + 1) noVal := by
    have := own3_new (w.alloc (.cells #[.string op, .string name, .int .i64 v.type, .int .i64 v.n, .string v.s, .slice A args.length c, .int .i64 pos] 57)) noVal
    rw [show (w.alloc (.cells #[.string op, .string name, .int .i64 v.type, .int .i64 v.n, .string v.s, .slice A args.length c, .int .i64 pos] 57)).heap.size = w.heap.size + 1 by simp] at this
    exact this
  have HE := Lib.hid (he.keep hb0)
  have HT := Lib.hid (hT.keep hb0)
  have HCo := Lib.hid (hC.keep hb0)
  have HRo := Lib.hid (hR.keep hb0)
  have HV := Lib.hid ho
  have HB := Lib.hid hb0
  have HW := Lib.hid hw
  have HSm := Lib.hid hs
  have CE := Lib.hid (fun (w1 : World) (hb : Below ((w.alloc (.cells #[.string op, .string name, .int .i64 v.type, .int .i64 v.n, .string v.s, .slice A args.length c, .int .i64 pos] 57)).alloc (.cells #[.int .i64 0, .int .i64 0, .string ⟨#[]⟩] 54)).heap.size ((w.alloc (.cells #[.string op, .string name, .int .i64 v.type, .int .i64 v.n, .string v.s, .slice A args.length c, .int .i64 pos] 57)).alloc (.cells #[.int .i64 0, .int .i64 0, .string ⟨#[]⟩] 54)) w1) (j : Nat) (u : Value) (hu : (#[.string op, .string name, .int .i64 v.type, .int .i64 v.n, .string v.s, .slice A args.length c, .int .i64 pos] : Array Value)[j]? = some u) =>
    (show w1.cell? ⟨w.heap.size, j, none⟩ = some u from (hb.cell (p := ⟨w.heap.size, j, none⟩) (by simp; omega)).trans (((Below.refl (w.alloc (.cells #[.string op, .string name, .int .i64 v.type, .int .i64 v.n, .string v.s, .slice A args.length c, .int .i64 pos] 57)).heap.size _).alloc (Nat.le_refl _) _).cell (p := ⟨w.heap.size, j, none⟩) (by simp) |>.trans (by rw [cell_of_row _ _ _ _ _ _ (heap_alloc_new w _)]; exact hu))))
  have TT0 : Calls Tryd.prog 51 #[.agg #[.string op, .string name, .int .i64 v.type, .int .i64 v.n, .string v.s, .slice A args.length c, .int .i64 pos], .slice C p q] ((w.alloc (.cells #[.string op, .string name, .int .i64 v.type, .int .i64 v.n, .string v.s, .slice A args.length c, .int .i64 pos] 57)).alloc (.cells #[.int .i64 0, .int .i64 0, .string ⟨#[]⟩] 54)) _ := typeOf_any (.mk op name v A c args pos) C p q cols _ HT.out HCo.out hs HE.out
  have TT := Lib.hid TT0
  have TO := Lib.hid (fun w' (hb : Below ((w.alloc (.cells #[.string op, .string name, .int .i64 v.type, .int .i64 v.n, .string v.s, .slice A args.length c, .int .i64 pos] 57)).alloc (.cells #[.int .i64 0, .int .i64 0, .string ⟨#[]⟩] 54)).heap.size ((w.alloc (.cells #[.string op, .string name, .int .i64 v.type, .int .i64 v.n, .string v.s, .slice A args.length c, .int .i64 pos] 57)).alloc (.cells #[.int .i64 0, .int .i64 0, .string ⟨#[]⟩] 54)) w') hr h1 h2 => show Calls Tryd.prog 61 #[.agg #[.string op, .string name, .int .i64 v.type, .int .i64 v.n, .string v.s, .slice A args.length c, .int .i64 pos], .slice C p q, .slice R y s] w' _ from ev_any _ (.mk op name v A c args pos) (Nat.le_refl _) C R p q y s cols r w' (HCo.out.keep hb) (HRo.out.keep hb) hr (HE.out.keep hb) h1 h2)
  have OK := Lib.hid (fun h => typeOf_ok (cols := cols) (e := .mk op name v A c args pos) h)
  have ES := Lib.hid (show evalR cols r (.mk op name v A c args pos) = if (typeOf cols (.mk op name v A c args pos)).h ≠ 0 then ⟨(typeOf cols (.mk op name v A c args pos)).h, noVal⟩ else if rowErr cols r ≠ 0 then ⟨rowErr cols r, noVal⟩ else evE cols r (.mk op name v A c args pos) from rfl)
  show Calls Tryd.prog 24 #[.agg #[.string op, .string name, .int .i64 v.type, .int .i64 v.n, .string v.s, .slice A args.length c, .int .i64 pos], .slice C p q, .slice R y s] w _
  generalize args.length = n at HB HV HE HT HCo HRo CE TT TO TT0 hb0 ho ⊢
  clear TT0 hT hC hR hw he hs hb0 ho
  generalize hw0 : ((w.alloc (.cells #[.string op, .string name, .int .i64 v.type, .int .i64 v.n, .string v.s, .slice A n c, .int .i64 pos] 57)).alloc (.cells #[.int .i64 0, .int .i64 0, .string ⟨#[]⟩] 54)) = w0 at HE HB HT HCo HRo HV CE TT TO
  have HW0 := Lib.hid hw0
  clear hw0
  generalize evE cols r (.mk op name v A c args pos) = er at TO ES
  generalize typeOf cols (.mk op name v A c args pos) = tr at TT OK ES
  obtain ⟨rt, rh, rp⟩ := tr
  have d0 := CE.out w0 (Below.refl _ _) 0 _ rfl
  have d1 := CE.out w0 (Below.refl _ _) 1 _ rfl
  have d2 := CE.out w0 (Below.refl _ _) 2 _ rfl
  have d3 := CE.out w0 (Below.refl _ _) 3 _ rfl
  have d4 := CE.out w0 (Below.refl _ _) 4 _ rfl
  have d5 := CE.out w0 (Below.refl _ _) 5 _ rfl
  have d6 := CE.out w0 (Below.refl _ _) 6 _ rfl
  go_enter Tryd.func24, Tryd.ntmps24
  go_wp2_with (first | rw [HW0.out])
  refine (TT.out).mono ?_
  rintro e' w1 ⟨rfl, hb1⟩
  obtain ⟨w2, hw2⟩ : ∃ w2, w1.alloc (.cells #[.int .i64 rh, .int .i64 rp] 47) = w2 := ⟨_, rfl⟩
  have k0 : w2.cell? ⟨w1.heap.size, 0, none⟩ = some (.int .i64 rh) := by rw [← hw2]; simp
  have hne : w1.heap.size ≠ w.heap.size + 1 := by have h1 := HV.out.cells.2.2.2.2.2.2; have h2 := hb1.size; omega
  have HK0 := Lib.hid k0
  have hb2 : Below w0.heap.size w0 w2 := by rw [← hw2]; exact below_step hb1 ((Below.refl _ _).alloc (Nat.le_refl _) _)
  have HW2 := Lib.hid hw2
  have HB2 := Lib.hid hb2
  have HV2 := Lib.hid (HV.out.keep hb2)
  have HC2 := Lib.hid (HCo.out.keep hb2)
  have HR2 := Lib.hid (HRo.out.keep hb2)
  clear d0 d1 d2 d3 d4 d5 d6 hb1 hw2 hb2
  unfold resV
  by_cases hrh : rh = 0
  · have HOK := Lib.hid (OK.out hrh)
    subst hrh
    go_wp2_with (first | rw [HW2.out])
    refine (rowCheck_any cols r C R p q y s w2 HC2.out HSm.out HR2.out).mono ?_
    rintro e' w3 ⟨rfl, hb3⟩
    have HB3 := Lib.hid (below_step HB2.out hb3)
    have HV3 := Lib.hid (HV2.out.keep hb3)
    clear hb3 k0
    by_cases hre : rowErr cols r = 0
    · have HRE := Lib.hid (rowErr_ok hre HW.out)
      have E := Lib.hid (show evalR cols r (.mk op name v A c args pos) = er by rw [ES.out, if_neg (by simp), if_neg (by simp [hre])])
      have T := Lib.hid (TO.out w3 HB3.out HRE.out.2 HOK.out.1 HOK.out.2.1)
      rw [hre, errV_zero]
      have d0 := CE.out w3 HB3.out 0 _ rfl
      have d1 := CE.out w3 HB3.out 1 _ rfl
      have d2 := CE.out w3 HB3.out 2 _ rfl
      have d3 := CE.out w3 HB3.out 3 _ rfl
      have d4 := CE.out w3 HB3.out 4 _ rfl
      have d5 := CE.out w3 HB3.out 5 _ rfl
      have d6 := CE.out w3 HB3.out 6 _ rfl
      clear hre
      obtain ⟨ak, av⟩ := er
      go_wp2_with fail
      refine (T.out).mono ?_
      rintro e' w4 ⟨rfl, hb4⟩
      have HB4' := Lib.hid (below_step HB3.out hb4)
      have HV4 := Lib.hid (HV3.out.keep hb4)
      clear hb4
      obtain ⟨o0, o1, o2, z0, z1, z2, hlt⟩ := HV4.out.cells
      unfold valV
      go_wp2_with fail
      have HO4 := own3_set HV4.out av.type av.n av.s
      have HB4 := Lib.hid (below_set3 (below_step HB.out HB4'.out) (Nat.le_succ _) av.type av.n av.s)
      generalize ((w4.setCell ⟨w.heap.size + 1, 0, none⟩ (.int .i64 av.type)).setCell ⟨w.heap.size + 1, 1, none⟩ (.int .i64 av.n)).setCell ⟨w.heap.size + 1, 2, none⟩ (.string av.s) = w9 at HO4 HB4 ⊢
      clear o0 o1 o2 z0 z1 z2 hlt
      obtain ⟨o0, o1, o2, z0, z1, z2, hlt⟩ := HO4.cells
      refine bodyPost_ret (v := .tuple #[valV av, errV ak]) (by simp [results, Tryd.results24, go_sem, o0, o1, o2, valV]) rfl ⟨?_, HB4.out⟩
      rw [E.out]
      try rfl
    · have E := Lib.hid (show evalR cols r (.mk op name v A c args pos) = ⟨rowErr cols r, noVal⟩ by rw [ES.out, if_neg (by simp), if_pos hre])
      have EV := Lib.hid (errV_ne hre)
      generalize rowErr cols r = ek at E EV ⊢
      obtain ⟨o0, o1, o2, z0, z1, z2, hlt⟩ := HV3.out.cells
      rw [EV.out]
      go_wp2_with fail
      have HO4 := own3_set HV3.out 0 0 ⟨#[]⟩
      have HB4 := Lib.hid (below_set3 (below_step HB.out HB3.out) (Nat.le_succ _) 0 0 ⟨#[]⟩)
      generalize ((w3.setCell ⟨w.heap.size + 1, 0, none⟩ (.int .i64 0)).setCell ⟨w.heap.size + 1, 1, none⟩ (.int .i64 0)).setCell ⟨w.heap.size + 1, 2, none⟩ (.string ⟨#[]⟩) = w9 at HO4 HB4 ⊢
      clear o0 o1 o2 z0 z1 z2 hlt
      obtain ⟨o0, o1, o2, z0, z1, z2, hlt⟩ := HO4.cells
      refine bodyPost_ret (v := .tuple #[valV noVal, .iface 45 (.int .i64 ek)]) (by simp [results, Tryd.results24, go_sem, o0, o1, o2, valV, noVal]) rfl ⟨?_, HB4.out⟩
      rw [E.out, ← EV.out]
      try rfl
  · have E := Lib.hid (show evalR cols r (.mk op name v A c args pos) = ⟨rh, noVal⟩ by rw [ES.out, if_pos hrh])
    have EV := Lib.hid (errV_ne hrh)
    have e1 : (rh != 0) = true := by simpa using hrh
    clear hrh
    obtain ⟨o0, o1, o2, z0, z1, z2, hlt⟩ := HV2.out.cells
    go_wp2_with (first | rw [HW2.out])
    have q0 := (cell_set3_drew hne (.int .i64 0) (.int .i64 0) (.string ⟨#[]⟩) 0).trans HK0.out
    have q1 := (cell_set3 hne (.int .i64 0) (.int .i64 0) (.string ⟨#[]⟩) 0).trans HK0.out
    go_region
    go_wp2_with fail
    have HO4 : Own3 (((w2.setCell ⟨w.heap.size + 1, 0, none⟩ (.int .i64 0)).setCell ⟨w.heap.size + 1, 1, none⟩ (.int .i64 0)).setCell ⟨w.heap.size + 1, 2, none⟩ (.string ⟨#[]⟩)).drew (w.heap.size + 1) noVal := own3_set HV2.out 0 0 ⟨#[]⟩
    have HB4 := Lib.hid (below_set3 (below_step HB.out HB2.out) (Nat.le_succ _) 0 0 ⟨#[]⟩).drew
    generalize (((w2.setCell ⟨w.heap.size + 1, 0, none⟩ (.int .i64 0)).setCell ⟨w.heap.size + 1, 1, none⟩ (.int .i64 0)).setCell ⟨w.heap.size + 1, 2, none⟩ (.string ⟨#[]⟩)).drew = w9 at HO4 HB4 ⊢
    clear o0 o1 o2 z0 z1 z2 hlt
    obtain ⟨o0, o1, o2, z0, z1, z2, hlt⟩ := HO4.cells
    refine bodyPost_ret (v := .tuple #[valV noVal, .iface 45 (.int .i64 rh)]) (by simp [results, Tryd.results24, go_sem, o0, o1, o2, valV, noVal]) rfl ⟨?_, HB4.out⟩
    rw [E.out, ← EV.out]
end Go.Proofs.YtpbbkpfaphjdoaaDoor
