/- sluiceref1.Eval, walked: what an expression comes to, of a row. -/
import Derived.Test.YthmbafkedgahaaaGreatDoorEval
import Derived.Test.YthmbafkedgahaaaGreatDoorRefDoAny
import Derived.Test.YthmbafkedgahaaaGreatDoorRefBase
namespace Go.Proofs.YthmbafkedgahaaaGreatDoor
open Go.ChangeShapes Go.WideShapes Go.ChangeAt Go.RowKit

theorem op_ar {s : ByteArray} (h : isOpB s = true) : 1 ≤ arityOf s := by
  rcases ops_cases h with rfl | rfl | rfl | rfl | rfl | rfl | rfl | rfl | rfl | rfl | rfl | rfl | rfl | rfl | rfl | rfl | rfl <;> decide
/-- Of the arguments from one on, with what came of those ahead: none is left out. -/
def rLoop (cols : List Col) (r : List Val) (op : ByteArray) : List Ex → List Val → EvR
  | [], acc => ⟨applyErr op acc, applyVal op acc⟩
  | a :: l, acc => if (evE cols r a).k ≠ 0 then ⟨(evE cols r a).k, noVal⟩ else rLoop cols r op l (acc ++ [(evE cols r a).v])
theorem rLoop_err {cols : List Col} {r : List Val} {op : ByteArray} {l : List Ex} {k : Nat} {a : Ex} {acc : List Val} (h : l[k]? = some a) (hk : (evE cols r a).k ≠ 0) : rLoop cols r op (l.drop k) acc = ⟨(evE cols r a).k, noVal⟩ := by
  obtain ⟨hl, rfl⟩ := List.getElem?_eq_some_iff.1 h
  rw [List.drop_eq_getElem_cons hl, rLoop, if_pos hk]
theorem rLoop_next {cols : List Col} {r : List Val} {op : ByteArray} {l : List Ex} {k : Nat} {a : Ex} {acc : List Val} (h : l[k]? = some a) (hk : (evE cols r a).k = 0) : rLoop cols r op (l.drop k) acc = rLoop cols r op (l.drop (k + 1)) (acc ++ [(evE cols r a).v]) := by
  obtain ⟨hl, rfl⟩ := List.getElem?_eq_some_iff.1 h
  rw [List.drop_eq_getElem_cons hl, rLoop, if_neg (by simp [hk])]
theorem rLoop_end {cols : List Col} {r : List Val} {op : ByteArray} {acc : List Val} {args : List Ex} {n : Nat} (h : args.length = n) : rLoop cols r op (args.drop n) acc = ⟨applyErr op acc, applyVal op acc⟩ := by
  rw [List.drop_of_length_le (by omega), rLoop]
theorem rLoop_plain {cols : List Col} {r : List Val} {op : ByteArray} (h : ∀ v, ¬ stops op v) : ∀ (l : List Ex) (acc : List Val), evLoop cols r op l acc = rLoop cols r op l acc
  | [], acc => by rw [evLoop, rLoop]
  | a :: l, acc => by
    rw [evLoop, rLoop, if_neg (h _), rLoop_plain h l]
theorem bool_is {v : Val} (hc : vcheck v = 0) (ht : v.type = 2) : v = truthV (decide (v.n = 1)) := by
  have hb := bool_of hc ht
  have hs : v.s.data.toList = [] := by
    unfold vcheck at hc
    rw [ht] at hc
    by_cases h : v.s.data.toList = []
    · exact h
    · simp [h] at hc
      split at hc <;> omega
  obtain ⟨t, n, s⟩ := v
  dsimp only at ht hb hs
  subst ht
  have hs : s = ⟨#[]⟩ := bytes_of hs
  subst hs
  rcases hb with h | h
  · subst h; rfl
  · subst h; rfl
/-- Where the first does not stop it, the document's way comes to the same. -/
theorem rLoop_ev {cols : List Col} {r : List Val} {op : ByteArray} {args : List Ex} {x : Ex} (hX : args[0]? = some x) (hlen : ((ofTypes cols args).length : Int) = arityOf op) (hf : fitsGrp (grp op) (ofTypes cols args) = true)
    (hok : ∀ a ∈ args, EvOk (evE cols r a) (ofE cols a).t) (hk : (evE cols r x).k = 0) (hs : ¬ stops op (evE cols r x).v) : evLoop cols r op args [] = rLoop cols r op (args.drop 1) [(evE cols r x).v] := by
  have h0 := evLoop_next (cols := cols) (r := r) (op := op) (acc := []) hX hk hs
  rw [List.drop_zero, List.nil_append, Nat.zero_add] at h0
  rw [h0]
  by_cases hao : isAnd op ∨ isOr op
  · have hg : grp op = 0 := hao.elim (fun h => stops_grp (v := noVal) (Or.inl ⟨h, rfl⟩)) (fun h => stops_grp (v := truthV true) (Or.inr ⟨h, rfl⟩))
    have har : arityOf op = 2 := by
      rcases hao with h | h
      · rw [bytes_of (show op.data.toList = _ from h)]; decide
      · rw [bytes_of (show op.data.toList = _ from h)]; decide
    rw [har, ofTypes_length] at hlen
    match args, hlen, hX, hok with
    | [a, b], _, hX, hok =>
      obtain rfl : a = x := by simpa using hX
      have e : ofTypes cols [a, b] = [(ofE cols a).t, (ofE cols b).t] := by rw [ofTypes_map]; rfl
      rw [hg, e] at hf
      have ta : (ofE cols a).t = 2 := allThe_at (ts := [(ofE cols a).t, (ofE cols b).t]) hf (by simp)
      have tb : (ofE cols b).t = 2 := allThe_at (ts := [(ofE cols a).t, (ofE cols b).t]) hf (by simp)
      have oa := hok a (by simp)
      have ob := hok b (by simp)
      rw [ta] at oa
      rw [tb] at ob
      generalize evE cols r a = ra at oa hk hs ⊢
      generalize hB : evE cols r b = rb at ob ⊢
      rw [show [a, b].drop 1 = [b] from rfl, evLoop, rLoop, hB]
      by_cases hbk : rb.k = 0
      · have hbk' : ¬ rb.k ≠ 0 := by simp [hbk]
        rw [if_neg hbk', if_neg hbk']
        by_cases hst : stops op rb.v
        · rw [if_pos hst, rLoop]
          rcases oa with ⟨-, ra1, ra2⟩ | ⟨h1, -⟩
          · rcases ob with ⟨-, rb1, rb2⟩ | ⟨h1, -⟩
            · obtain ⟨ak, av⟩ := ra
              obtain ⟨bk, bv⟩ := rb
              dsimp only at *
              have eA := bool_is ra1.2 ra2
              have eB := bool_is rb1.2 rb2
              rcases hao with h | h
              · have h1 : bv.n = 0 := by
                  rcases hst with h2 | h2
                  · exact h2.2
                  · have := (show op.data.toList = _ from h).symm.trans h2.1; exact absurd this (by decide)
                have h2 : av.n ≠ 0 := fun h3 => hs (Or.inl ⟨h, h3⟩)
                have h3 : av.n = 1 := (bool_of ra1.2 ra2).resolve_left h2
                rw [eA, eB, h1, h3, bytes_of (show op.data.toList = _ from h)]
                rfl
              · have h1 : bv.n = 1 := by
                  rcases hst with h2 | h2
                  · have := (show op.data.toList = _ from h).symm.trans h2.1; exact absurd this (by decide)
                  · exact h2.2
                have h2 : av.n ≠ 1 := fun h3 => hs (Or.inr ⟨h, h3⟩)
                have h3 : av.n = 0 := (bool_of ra1.2 ra2).resolve_right h2
                rw [eA, eB, h1, h3, bytes_of (show op.data.toList = _ from h)]
                rfl
            · rw [hbk] at h1; exact absurd h1 (by decide)
          · rw [hk] at h1; exact absurd h1 (by decide)
        · rw [if_neg hst, evLoop, rLoop]
      · rw [if_pos hbk, if_pos hbk]
  · exact rLoop_plain (fun v h => hao (h.elim (fun h => Or.inl h.1) (fun h => Or.inr h.1))) _ _
theorem own_new1 (w : World) (v : Val) (B : Nat) (hB : B ≤ w.heap.size) : (w.alloc (.cells #[.int .i64 v.type, .int .i64 v.n, .string v.s] 30)).ownsRow B 30 3 (.slice (some ⟨w.heap.size, 0, none⟩) 1 1) 1 (valsCells [v]) :=
  ⟨rfl, Or.inr ⟨w.heap.size, 1, _, rfl, hB, heap_alloc_new w _, Nat.le_refl _, by unfold maxLen; decide, rfl, rfl⟩⟩
def REvSays (x : EvR) (w : World) (e : Ending) (w' : World) : Prop := e = .returned (.tuple #[valV x.v, .int .i64 x.k]) ∧ Below w.heap.size w w'
def REvAt (m : Nat) : Prop := ∀ e : Ex, SizeOf.sizeOf e ≤ m → ∀ (C R : Option Addr) (p q y s : Nat) (cols : List Col) (r : List Val) (w : World), SeesCols w C p q cols → SeesVals w R y s r → RowOk cols r → SeesEx w e → nodesErr e = 0 → (ofE cols e).h = 0 →
    Calls Tryz.prog 19 #[exV e, .slice C p q, .slice R y s] w (REvSays (evE cols r e) w)

set_option maxHeartbeats 4000000 in
set_option maxRecDepth 100000 in
theorem rev_step (m : Nat) (ih : REvAt m) (op name : ByteArray) (v : Val) (A : Option Addr) (c : Nat) (args : List Ex) (pos : Int) (hm : SizeOf.sizeOf (Ex.mk op name v A c args pos) ≤ m + 1)
    (C R : Option Addr) (p q y s : Nat) (cols : List Col) (r : List Val) (w : World) (hC : SeesCols w C p q cols) (hR : SeesVals w R y s r) (hr : RowOk cols r) (he : SeesEx w (.mk op name v A c args pos)) (hne : nodesErr (.mk op name v A c args pos) = 0) (hh : (ofE cols (.mk op name v A c args pos)).h = 0) :
    Calls Tryz.prog 19 #[exV (.mk op name v A c args pos), .slice C p q, .slice R y s] w (REvSays (evE cols r (.mk op name v A c args pos)) w) := by
  have IH := Lib.hid ih
  have HM := Lib.hid (fun a (ha : a ∈ args) => show SizeOf.sizeOf a ≤ m by have := ex_lt (e := .mk op name v A c args pos) ha; omega)
  have hb0 : Below w.heap.size w ((w.alloc (.cells #[.string op, .string name, .int .i64 v.type, .int .i64 v.n, .string v.s, .slice A args.length c, .int .i64 pos] 44)).alloc (.cells #[.int .i64 0, .int .i64 0, .string ⟨#[]⟩] 30)) := ((Below.refl _ _).alloc (Nat.le_refl _) _).alloc (by simp) _
  have ho : Own3 ((w.alloc (.cells #[.string op, .string name, .int .i64 v.type, .int .i64 v.n, .string v.s, .slice A args.length c, .int .i64 pos] 44)).alloc (.cells #[.int .i64 0, .int .i64 0, .string ⟨#[]⟩] 30)) (w.heap.size + 1) noVal := by
    have := own3_new (w.alloc (.cells #[.string op, .string name, .int .i64 v.type, .int .i64 v.n, .string v.s, .slice A args.length c, .int .i64 pos] 44)) noVal
    rw [show (w.alloc (.cells #[.string op, .string name, .int .i64 v.type, .int .i64 v.n, .string v.s, .slice A args.length c, .int .i64 pos] 44)).heap.size = w.heap.size + 1 by simp] at this
    exact this
  have HE := Lib.hid (he.keep hb0)
  have HCo := Lib.hid (hC.keep hb0)
  have HRo := Lib.hid (hR.keep hb0)
  have HV := Lib.hid ho
  have HB := Lib.hid hb0
  have HNE := Lib.hid (nodesErr_parts hne)
  have HP := Lib.hid (ofE_parts hh)
  have HRK := Lib.hid hr
  have HSD := Lib.hid (fun a (ha : a ∈ args) => ev_sound hr _ a (Nat.le_refl _) w (he.parts.2.2.2.2.2 a ha) (nodesErrs_all HNE.out.2 a ha) (HP.out.1 a ha))
  have hn3 := (nodeErr_len HNE.out.1).2.2
  have hcap : args.length ≤ c := he.parts.1.2.1
  have hmax : c ≤ maxLen := he.parts.1.2.2.1
  unfold maxLen at hmax
  have hq : p ≤ q := hC.2.2.1
  have hqm : q ≤ maxLen := hC.2.2.2.1
  have hys : y ≤ s := hR.2.2.1
  have hsm : s ≤ maxLen := hR.2.2.2.1
  unfold maxLen at hqm hsm
  have HS := Lib.hid (evE_mk cols r op name v A c args pos)
  have CE := Lib.hid (fun (w1 : World) (hb : Below ((w.alloc (.cells #[.string op, .string name, .int .i64 v.type, .int .i64 v.n, .string v.s, .slice A args.length c, .int .i64 pos] 44)).alloc (.cells #[.int .i64 0, .int .i64 0, .string ⟨#[]⟩] 30)).heap.size ((w.alloc (.cells #[.string op, .string name, .int .i64 v.type, .int .i64 v.n, .string v.s, .slice A args.length c, .int .i64 pos] 44)).alloc (.cells #[.int .i64 0, .int .i64 0, .string ⟨#[]⟩] 30)) w1) (j : Nat) (u : Value) (hu : (#[.string op, .string name, .int .i64 v.type, .int .i64 v.n, .string v.s, .slice A args.length c, .int .i64 pos] : Array Value)[j]? = some u) =>
    (show w1.cell? ⟨w.heap.size, j, none⟩ = some u from (hb.cell (p := ⟨w.heap.size, j, none⟩) (by simp; omega)).trans (((Below.refl (w.alloc (.cells #[.string op, .string name, .int .i64 v.type, .int .i64 v.n, .string v.s, .slice A args.length c, .int .i64 pos] 44)).heap.size _).alloc (Nat.le_refl _) _).cell (p := ⟨w.heap.size, j, none⟩) (by simp) |>.trans (by rw [cell_of_row _ _ _ _ _ _ (heap_alloc_new w _)]; exact hu))))
  show Calls Tryz.prog 19 #[.agg #[.string op, .string name, .int .i64 v.type, .int .i64 v.n, .string v.s, .slice A args.length c, .int .i64 pos], .slice C p q, .slice R y s] w _
  clear ih hm hC hR hr he hne hb0 ho hh
  generalize hn : args.length = n at hcap HE HB HCo HRo HV HNE hn3 CE ⊢
  have HLn := Lib.hid hn
  clear hn
  have e0 : ∀ l, op.data.toList = l → (op.toList == l) = true := fun l h => str_is h
  have EQ := Lib.hid e0
  clear e0
  generalize hw0 : ((w.alloc (.cells #[.string op, .string name, .int .i64 v.type, .int .i64 v.n, .string v.s, .slice A n c, .int .i64 pos] 44)).alloc (.cells #[.int .i64 0, .int .i64 0, .string ⟨#[]⟩] 30)) = w0 at HE HB HCo HRo HV CE
  have HW0 := Lib.hid hw0
  clear hw0
  have HSZ0 := Lib.hid HB.out.size
  by_cases hv : isVal op
  · as_aux_lemma =>
    have E := Lib.hid (show evE cols r (.mk op name v A c args pos) = ⟨0, v⟩ by rw [HS.out, if_pos hv])
    have e1 := str_is hv
    have d0 := CE.out w0 (Below.refl _ _) 0 _ rfl
    have d2 := CE.out w0 (Below.refl _ _) 2 _ rfl
    have d3 := CE.out w0 (Below.refl _ _) 3 _ rfl
    have d4 := CE.out w0 (Below.refl _ _) 4 _ rfl
    obtain ⟨o0, o1, o2, z0, z1, z2, hlt⟩ := HV.out.cells
    clear hv
    go_enter Tryz.func19, Tryz.ntmps19
    go_wp2_with (first | rw [HW0.out])
    have HO4 := own3_set HV.out v.type v.n v.s
    have HB4 := Lib.hid (below_set3 HB.out (Nat.le_succ _) v.type v.n v.s)
    generalize ((w0.setCell ⟨w.heap.size + 1, 0, none⟩ (.int .i64 v.type)).setCell ⟨w.heap.size + 1, 1, none⟩ (.int .i64 v.n)).setCell ⟨w.heap.size + 1, 2, none⟩ (.string v.s) = w9 at HO4 HB4 ⊢
    clear o0 o1 o2 z0 z1 z2 hlt
    obtain ⟨o0, o1, o2, z0, z1, z2, hlt⟩ := HO4.cells
    refine bodyPost_ret (v := .tuple #[valV v, .int .i64 0]) (by simp [results, Tryz.results19, go_sem, o0, o1, o2, valV]) rfl ⟨?_, HB4.out⟩
    rw [E.out]
    try rfl
  · have e1 := str_ne hv
    by_cases hc : isCol op
    · as_aux_lemma =>
      have e2 := str_is hc
      have hpp := HP.out.2.2
      unfold ofNode at hpp
      rw [if_neg hv, if_pos hc] at hpp
      have hf : ¬ findCol cols name < 0 := fun hf => by
        rw [if_pos hf] at hpp; exact absurd (show (5 : Int) = 0 from hpp) (by omega)
      obtain ⟨j, x, hj, hx, _⟩ := findCol_get (Int.not_lt.1 hf)
      have hjp : j < y := by
        have h1 := (List.getElem?_eq_some_iff.1 hx).1
        have h2 := HRK.out.len
        have h3 := HRo.out.1
        omega
      have T := Lib.hid (rfindR_any cols name C p q w0 HCo.out)
      rw [hj] at T
      have E := Lib.hid (show ∀ z, r[j]? = some z → evE cols r (.mk op name v A c args pos) = ⟨0, z⟩ by
        intro z hz
        rw [HS.out, if_neg hv, if_pos hc, if_neg hf, hj, Int.toNat_natCast, List.getD_eq_getElem?_getD, hz]; rfl)
      have d0 := CE.out w0 (Below.refl _ _) 0 _ rfl
      have d1 := CE.out w0 (Below.refl _ _) 1 _ rfl
      obtain ⟨o0, o1, o2, z0, z1, z2, hlt⟩ := HV.out.cells
      obtain ⟨g2, ob, x2, rfl, hg2, hx2, k0, k1, k2⟩ := HRo.out.at_ hjp
      have E2 := Lib.hid (E.out x2 hx2)
      clear hv hc hf hj hx hpp hx2 E
      go_enter Tryz.func19, Tryz.ntmps19
      go_wp2_with (first | rw [HW0.out])
      refine (T.out).mono ?_
      rintro e' w2 ⟨rfl, rfl⟩
      go_wp2_with fail
      have HO4 := own3_set HV.out x2.type x2.n x2.s
      have HB4 := Lib.hid (below_set3 HB.out (Nat.le_succ _) x2.type x2.n x2.s)
      generalize ((w0.setCell ⟨w.heap.size + 1, 0, none⟩ (.int .i64 x2.type)).setCell ⟨w.heap.size + 1, 1, none⟩ (.int .i64 x2.n)).setCell ⟨w.heap.size + 1, 2, none⟩ (.string x2.s) = w9 at HO4 HB4 ⊢
      clear o0 o1 o2 z0 z1 z2 hlt
      obtain ⟨o0, o1, o2, z0, z1, z2, hlt⟩ := HO4.cells
      refine bodyPost_ret (v := .tuple #[valV x2, .int .i64 0]) (by simp [results, Tryz.results19, go_sem, o0, o1, o2, valV]) rfl ⟨?_, HB4.out⟩
      rw [E2.out]
      try rfl
    · have e2 := str_ne hc
      obtain ⟨q1, q2⟩ := ofNode_op hv hc HP.out.2.2
      have HRP := Lib.hid (ruleErr_parts q1)
      clear q1 q2
      have hn1 : 1 ≤ n := by
        have h1 := HRP.out.2.1
        rw [ofTypes_length, HLn.out] at h1
        have h2 := op_ar HRP.out.1
        omega
      obtain ⟨g, o, x, (rfl : A = _), hg, hx, hsx, c0, c1, c2, c3, c4, c5, c6⟩ := HE.out.at_ (k := 0) (by show 0 < args.length; rw [HLn.out]; omega)
      simp only [Nat.zero_mul, Nat.add_zero] at c0 c1 c2 c3 c4 c5 c6
      have HX := Lib.hid (show args[0]? = some x from hx)
      have hmx := List.mem_of_getElem? HX.out
      have T := Lib.hid (IH.out x (HM.out x hmx) C R p q y s cols r w0 HCo.out HRo.out HRK.out hsx (nodesErrs_all HNE.out.2 x hmx) (HP.out.1 x hmx))
      unfold exV at T
      have SX := Lib.hid (HSD.out x hmx)
      have HEV := Lib.hid (fun hk hs => rLoop_ev (cols := cols) (r := r) (op := op) HX.out HRP.out.2.1 HRP.out.2.2 HSD.out hk hs)
      have HL1 := Lib.hid (fun hk => evLoop_err (cols := cols) (r := r) (op := op) (acc := []) HX.out hk)
      have HL2 := Lib.hid (fun h1 h2 => evLoop_stop (cols := cols) (r := r) (op := op) (acc := []) HX.out h1 h2)
      have EI := Lib.hid (show evE cols r (.mk op name v (some ⟨g, o, none⟩) c args pos) = if isIf op then (if (evE cols r x).k ≠ 0 then ⟨(evE cols r x).k, noVal⟩ else evAt cols r args (2 - (evE cols r x).v.n).toNat) else evLoop cols r op args [] by
        rw [HS.out, if_neg hv, if_neg hc, evAt_get HX.out])
      have d0 := CE.out w0 (Below.refl _ _) 0 _ rfl
      have d5 := CE.out w0 (Below.refl _ _) 5 _ rfl
      clear hv hc hx hsx hmx
      generalize evE cols r x = xr at T SX EI HEV HL1 HL2
      obtain ⟨xk, xv⟩ := xr
      dsimp only at EI HEV HL1 HL2
      by_cases hk : xk = 0
      · subst hk
        have HXR := Lib.hid (show right xv ∧ xv.type = (ofE cols x).t by
          rcases SX.out with h | h
          · exact h.2
          · exact absurd h.1 (show ¬ (0 : Int) = 9 by decide))
        by_cases hi : isIf op
        · as_aux_lemma =>
          have e3 := str_is hi
          have hl3 : n = 3 := by
            have h1 := HRP.out.2.1
            rw [ofTypes_length, (if_grp hi).2, HLn.out] at h1
            omega
          subst hl3
          have HT0 := Lib.hid (show (ofE cols x).t = 2 by
            have h1 := HRP.out.2.2
            rw [(if_grp hi).1] at h1
            have h2 : (((ofTypes cols args).getD 0 0 == 2) && ((ofTypes cols args).getD 1 0 == (ofTypes cols args).getD 2 0)) = true := h1
            simp at h2
            have h3 := h2.1
            rw [ofTypes_map, List.getElem?_map, HX.out] at h3
            simpa using h3)
          have hbn := bool_of HXR.out.1.2 (HXR.out.2.trans HT0.out)
          rw [if_pos hi] at EI
          clear hi
          obtain ⟨jx, hjx, hj2⟩ : ∃ jx : Nat, (jx = 1 ∨ jx = 2) ∧ 2 - xv.n = jx := by
            rcases hbn with h | h
            · exact ⟨2, Or.inr rfl, by omega⟩
            · exact ⟨1, Or.inl rfl, by omega⟩
          go_enter Tryz.func19, Tryz.ntmps19
          go_wp2_with (first | rw [HW0.out])
          refine (T.out).mono ?_
          rintro e' w2 ⟨rfl, hb1⟩
          obtain ⟨w3, hw3⟩ : ∃ w3, w2.alloc (.cells #[.int .i64 xv.type, .int .i64 xv.n, .string xv.s] 30) = w3 := ⟨_, rfl⟩
          have hb3 : Below w0.heap.size w0 w3 := by rw [← hw3]; exact below_step hb1 (belowNew _ _)
          have k0 : w3.cell? ⟨w2.heap.size, 0, none⟩ = some (.int .i64 xv.type) := by rw [← hw3]; simp
          have k1 : w3.cell? ⟨w2.heap.size, 1, none⟩ = some (.int .i64 xv.n) := by rw [← hw3]; simp
          have k2 : w3.cell? ⟨w2.heap.size, 2, none⟩ = some (.string xv.s) := by rw [← hw3]; simp
          have HW3 := Lib.hid hw3
          have HB3 := Lib.hid hb3
          have HV3 := Lib.hid (HV.out.keep hb3)
          have f0 := CE.out w3 hb3 0 _ rfl
          have f5 := CE.out w3 hb3 5 _ rfl
          obtain ⟨g', o', x', e', hg', hx', hsx', c0', c1', c2', c3', c4', c5', c6'⟩ := (HE.out.keep hb3).at_ (k := jx) (by show jx < args.length; rw [HLn.out]; omega)
          cases (show some _ = some _ from e')
          have HX' := Lib.hid (show args[jx]? = some x' from hx')
          have hmx' := List.mem_of_getElem? HX'.out
          have T' := Lib.hid (IH.out x' (HM.out x' hmx') C R p q y s cols r w3 (HCo.out.keep hb3) (HRo.out.keep hb3) HRK.out hsx' (nodesErrs_all HNE.out.2 x' hmx') (HP.out.1 x' hmx'))
          unfold exV at T'
          have EI2 := Lib.hid (show evE cols r (.mk op name v (some ⟨g, o, none⟩) c args pos) = evE cols r x' by
            rw [EI.out, if_neg (by simp), hj2, Int.toNat_natCast, evAt_get HX'.out])
          clear hb1 hw3 hb3 hx' hsx' hmx' EI c0 c1 c2 c3 c4 c5 c6 d0 d5
          generalize evE cols r x' = xr' at T' EI2
          obtain ⟨xk', xv'⟩ := xr'
          unfold valV
          rcases hjx with rfl | rfl
          · obtain hn1 : xv.n = 1 := by omega
            rw [hn1] at k1
            clear hj2 hbn hn1
            simp only [Nat.reduceMul] at c0' c1' c2' c3' c4' c5' c6'
            go_wp2_with (first | rw [HW3.out])
            refine (T'.out).mono ?_
            rintro e' w4 ⟨rfl, hb4⟩
            have HB4' := Lib.hid (below_step HB3.out hb4)
            have HV4 := Lib.hid (HV3.out.keep hb4)
            clear hb4
            obtain ⟨o0, o1, o2, z0, z1, z2, hlt⟩ := HV4.out.cells
            unfold valV
            go_wp2_with fail
            have HO4 := own3_set HV4.out xv'.type xv'.n xv'.s
            have HB4 := Lib.hid (below_set3 (below_step HB.out HB4'.out) (Nat.le_succ _) xv'.type xv'.n xv'.s)
            generalize ((w4.setCell ⟨w.heap.size + 1, 0, none⟩ (.int .i64 xv'.type)).setCell ⟨w.heap.size + 1, 1, none⟩ (.int .i64 xv'.n)).setCell ⟨w.heap.size + 1, 2, none⟩ (.string xv'.s) = w9 at HO4 HB4 ⊢
            clear o0 o1 o2 z0 z1 z2 hlt
            obtain ⟨o0, o1, o2, z0, z1, z2, hlt⟩ := HO4.cells
            refine bodyPost_ret (v := .tuple #[valV xv', .int .i64 xk']) (by simp [results, Tryz.results19, go_sem, o0, o1, o2, valV]) rfl ⟨?_, HB4.out⟩
            rw [EI2.out]
            try rfl
          · obtain hn1 : xv.n = 0 := by omega
            rw [hn1] at k1
            clear hj2 hbn hn1
            simp only [Nat.reduceMul] at c0' c1' c2' c3' c4' c5' c6'
            go_wp2_with (first | rw [HW3.out])
            refine (T'.out).mono ?_
            rintro e' w4 ⟨rfl, hb4⟩
            have HB4' := Lib.hid (below_step HB3.out hb4)
            have HV4 := Lib.hid (HV3.out.keep hb4)
            clear hb4
            obtain ⟨o0, o1, o2, z0, z1, z2, hlt⟩ := HV4.out.cells
            unfold valV
            go_wp2_with fail
            have HO4 := own3_set HV4.out xv'.type xv'.n xv'.s
            have HB4 := Lib.hid (below_set3 (below_step HB.out HB4'.out) (Nat.le_succ _) xv'.type xv'.n xv'.s)
            generalize ((w4.setCell ⟨w.heap.size + 1, 0, none⟩ (.int .i64 xv'.type)).setCell ⟨w.heap.size + 1, 1, none⟩ (.int .i64 xv'.n)).setCell ⟨w.heap.size + 1, 2, none⟩ (.string xv'.s) = w9 at HO4 HB4 ⊢
            clear o0 o1 o2 z0 z1 z2 hlt
            obtain ⟨o0, o1, o2, z0, z1, z2, hlt⟩ := HO4.cells
            refine bodyPost_ret (v := .tuple #[valV xv', .int .i64 xk']) (by simp [results, Tryz.results19, go_sem, o0, o1, o2, valV]) rfl ⟨?_, HB4.out⟩
            rw [EI2.out]
            try rfl
        · have e3 := str_ne hi
          rw [if_neg hi] at EI
          clear hi
          by_cases hst : stops op xv
          · as_aux_lemma =>
            have E := Lib.hid (show evE cols r (.mk op name v (some ⟨g, o, none⟩) c args pos) = ⟨0, xv⟩ by
              have h := HL2.out rfl hst
              rw [List.drop_zero] at h
              rw [EI.out, h])
            rcases hst with ⟨ha, hb⟩ | ⟨ha, hb⟩
            · have a1 := str_is ha
              have b1 : (xv.n == 0) = true := by simpa using hb
              clear ha hb HL1 HL2 HEV EI
              go_enter Tryz.func19, Tryz.ntmps19
              go_wp2_with (first | rw [HW0.out])
              refine (T.out).mono ?_
              rintro e' w2 ⟨rfl, hb1⟩
              obtain ⟨w3, hw3⟩ : ∃ w3, w2.alloc (.cells #[.int .i64 xv.type, .int .i64 xv.n, .string xv.s] 30) = w3 := ⟨_, rfl⟩
              have hb3 : Below w0.heap.size w0 w3 := by rw [← hw3]; exact below_step hb1 (belowNew _ _)
              have k0 : w3.cell? ⟨w2.heap.size, 0, none⟩ = some (.int .i64 xv.type) := by rw [← hw3]; simp
              have k1 : w3.cell? ⟨w2.heap.size, 1, none⟩ = some (.int .i64 xv.n) := by rw [← hw3]; simp
              have k2 : w3.cell? ⟨w2.heap.size, 2, none⟩ = some (.string xv.s) := by rw [← hw3]; simp
              have HW3 := Lib.hid hw3
              have HB3 := Lib.hid hb3
              have HV3 := Lib.hid (HV.out.keep hb3)
              have f0 := CE.out w3 hb3 0 _ rfl
              have f5 := CE.out w3 hb3 5 _ rfl
              obtain ⟨o0, o1, o2, z0, z1, z2, hlt⟩ := HV3.out.cells
              clear hb1 hw3 hb3 c0 c1 c2 c3 c4 c5 c6 d0 d5
              unfold valV
              go_wp2_with (first | rw [HW3.out])
              have HO4 := own3_set HV3.out xv.type xv.n xv.s
              have HB4 := Lib.hid (below_set3 (below_step HB.out HB3.out) (Nat.le_succ _) xv.type xv.n xv.s)
              generalize ((w3.setCell ⟨w.heap.size + 1, 0, none⟩ (.int .i64 xv.type)).setCell ⟨w.heap.size + 1, 1, none⟩ (.int .i64 xv.n)).setCell ⟨w.heap.size + 1, 2, none⟩ (.string xv.s) = w9 at HO4 HB4 ⊢
              clear o0 o1 o2 z0 z1 z2 hlt
              obtain ⟨o0, o1, o2, z0, z1, z2, hlt⟩ := HO4.cells
              refine bodyPost_ret (v := .tuple #[valV xv, .int .i64 0]) (by simp [results, Tryz.results19, go_sem, o0, o1, o2, valV]) rfl ⟨?_, HB4.out⟩
              rw [E.out]
              try rfl
            · have a1 := str_is ha
              have a2 : (op.toList == [97, 110, 100]) = false := str_ne (fun h => by rw [show op.data.toList = _ from ha] at h; exact absurd h (by decide))
              have b1 : (xv.n == 1) = true := by simpa using hb
              clear ha hb HL1 HL2 HEV EI
              go_enter Tryz.func19, Tryz.ntmps19
              go_wp2_with (first | rw [HW0.out])
              refine (T.out).mono ?_
              rintro e' w2 ⟨rfl, hb1⟩
              obtain ⟨w3, hw3⟩ : ∃ w3, w2.alloc (.cells #[.int .i64 xv.type, .int .i64 xv.n, .string xv.s] 30) = w3 := ⟨_, rfl⟩
              have hb3 : Below w0.heap.size w0 w3 := by rw [← hw3]; exact below_step hb1 (belowNew _ _)
              have k0 : w3.cell? ⟨w2.heap.size, 0, none⟩ = some (.int .i64 xv.type) := by rw [← hw3]; simp
              have k1 : w3.cell? ⟨w2.heap.size, 1, none⟩ = some (.int .i64 xv.n) := by rw [← hw3]; simp
              have k2 : w3.cell? ⟨w2.heap.size, 2, none⟩ = some (.string xv.s) := by rw [← hw3]; simp
              have HW3 := Lib.hid hw3
              have HB3 := Lib.hid hb3
              have HV3 := Lib.hid (HV.out.keep hb3)
              have f0 := CE.out w3 hb3 0 _ rfl
              have f5 := CE.out w3 hb3 5 _ rfl
              obtain ⟨o0, o1, o2, z0, z1, z2, hlt⟩ := HV3.out.cells
              clear hb1 hw3 hb3 c0 c1 c2 c3 c4 c5 c6 d0 d5
              unfold valV
              go_wp2_with (first | rw [HW3.out])
              have HO4 := own3_set HV3.out xv.type xv.n xv.s
              have HB4 := Lib.hid (below_set3 (below_step HB.out HB3.out) (Nat.le_succ _) xv.type xv.n xv.s)
              generalize ((w3.setCell ⟨w.heap.size + 1, 0, none⟩ (.int .i64 xv.type)).setCell ⟨w.heap.size + 1, 1, none⟩ (.int .i64 xv.n)).setCell ⟨w.heap.size + 1, 2, none⟩ (.string xv.s) = w9 at HO4 HB4 ⊢
              clear o0 o1 o2 z0 z1 z2 hlt
              obtain ⟨o0, o1, o2, z0, z1, z2, hlt⟩ := HO4.cells
              refine bodyPost_ret (v := .tuple #[valV xv, .int .i64 0]) (by simp [results, Tryz.results19, go_sem, o0, o1, o2, valV]) rfl ⟨?_, HB4.out⟩
              rw [E.out]
              try rfl
          · have EL := Lib.hid (show evE cols r (.mk op name v (some ⟨g, o, none⟩) c args pos) = rLoop cols r op (args.drop 1) [xv] by rw [EI.out, HEV.out rfl hst])
            clear EI HEV HL1 HL2
            by_cases ha : isAnd op
            · as_aux_lemma =>
              have a1 := str_is ha
              have b1 : (xv.n == 0) = false := beq_eq_false_iff_ne.2 (fun h => hst (Or.inl ⟨ha, h⟩))
              have a2 : (op.toList == [111, 114]) = false := str_ne (fun h => by rw [show op.data.toList = _ from ha] at h; exact absurd h (by decide))
              clear ha hst
              go_enter Tryz.func19, Tryz.ntmps19
              go_wp2_with (first | rw [HW0.out])
              refine (T.out).mono ?_
              rintro e' w2 ⟨rfl, hb1⟩
              obtain ⟨w3, hw3⟩ : ∃ w3, w2.alloc (.cells #[.int .i64 xv.type, .int .i64 xv.n, .string xv.s] 30) = w3 := ⟨_, rfl⟩
              have hb3 : Below w0.heap.size w0 w3 := by rw [← hw3]; exact below_step hb1 (belowNew _ _)
              have k0 : w3.cell? ⟨w2.heap.size, 0, none⟩ = some (.int .i64 xv.type) := by rw [← hw3]; simp
              have k1 : w3.cell? ⟨w2.heap.size, 1, none⟩ = some (.int .i64 xv.n) := by rw [← hw3]; simp
              have k2 : w3.cell? ⟨w2.heap.size, 2, none⟩ = some (.string xv.s) := by rw [← hw3]; simp
              have HW3 := Lib.hid hw3
              have HB3 := Lib.hid hb3
              have HV3 := Lib.hid (HV.out.keep hb3)
              have f0 := CE.out w3 hb3 0 _ rfl
              have f5 := CE.out w3 hb3 5 _ rfl
              obtain ⟨w4, hw4⟩ : ∃ w4, w3.alloc (.cells #[.int .i64 xv.type, .int .i64 xv.n, .string xv.s] 30) = w4 := ⟨_, rfl⟩
              have hb4 : Below w0.heap.size w0 w4 := by rw [← hw4]; exact hb3.trans ((belowNew w3 _).mono hb3.size)
              have hown4 : w4.ownsRow w0.heap.size 30 3 (.slice (some ⟨w3.heap.size, 0, none⟩) 1 1) 1 (valsCells [xv]) := by rw [← hw4]; exact own_new1 w3 xv _ hb3.size
              have HW4 := Lib.hid hw4
              have HB4 := Lib.hid hb4
              have HOWN4 := Lib.hid hown4
              have HTX := Lib.hid (show typesOf [xv] = ofTypes cols (args.take 1) by
                rw [ofTypes_map, show args.take 1 = [x] by rw [show (1 : Nat) = 0 + 1 from rfl, List.take_add_one, HX.out]; rfl]
                simp [typesOf, HXR.out.2])
              clear hb1 hw3 hb3 hw4 hb4 hown4 c0 c1 c2 c3 c4 c5 c6 d0 d5
              unfold valV
              go_wp2_with (first | rw [HW3.out] | rw [HW4.out])
              clear f0 f5 k0 k1 k2
              go_loopw [11, 12] (fun ts i wr => ∃ (k : Nat) (acc : List Val), 1 ≤ k ∧ k ≤ n ∧ i = .int .i64 k ∧ wr.ownsRow w0.heap.size 30 3 ts k (valsCells acc) ∧ acc.length = k ∧ typesOf acc = ofTypes cols (args.take k) ∧ (∀ z ∈ acc, right z) ∧ Below w0.heap.size w0 wr ∧ rLoop cols r op (args.drop 1) [xv] = rLoop cols r op (args.drop k) acc) (fun _ i _ => n - (intOf i).toNat)
              case atStart => exact ⟨1, [xv], by omega, hn1, rfl, HOWN4.out, rfl, HTX.out, (by intro z hz; rw [List.mem_singleton.1 hz]; exact HXR.out.1), HB4.out, rfl⟩
              case round =>
                obtain ⟨k, acc, hk1, hk, rfl, hown, hal, hty, hri, hb, hlp⟩ := hrel
                have HAL := Lib.hid hal
                have HTY := Lib.hid hty
                have HRI := Lib.hid hri
                have HLP := Lib.hid hlp
                have HBR := Lib.hid hb
                have HSZ := Lib.hid hb.size
                have d0 := CE.out wr hb 0 _ rfl
                have d5 := CE.out wr hb 5 _ rfl
                clear hal hty hri hlp
                by_cases hlk : k < n
                · obtain ⟨g', o', x', e', hg, hx, hsx, c0, c1, c2, c3, c4, c5, c6⟩ := (HE.out.keep hb).at_ (k := k) (by show k < args.length; rw [HLn.out]; exact hlk)
                  cases (show some _ = some _ from e')
                  have HX' := Lib.hid (show args[k]? = some x' from hx)
                  have hmx := List.mem_of_getElem? HX'.out
                  have T' := Lib.hid (IH.out x' (HM.out x' hmx) C R p q y s cols r wr (HCo.out.keep hb) (HRo.out.keep hb) HRK.out hsx (nodesErrs_all HNE.out.2 x' hmx) (HP.out.1 x' hmx))
                  unfold exV at T'
                  have SX' := Lib.hid (HSD.out x' hmx)
                  have L1 := Lib.hid (fun h => rLoop_err (cols := cols) (r := r) (op := op) (acc := acc) HX'.out h)
                  have L3 := Lib.hid (fun h1 => rLoop_next (cols := cols) (r := r) (op := op) (acc := acc) HX'.out h1)
                  have TY := Lib.hid (show ∀ z : Val, z.type = (ofE cols x').t → typesOf (acc ++ [z]) = ofTypes cols (args.take (k + 1)) by
                    intro z hz
                    rw [ofTypes_map, List.take_add_one, HX'.out]
                    have := HTY.out
                    rw [ofTypes_map] at this
                    simp [typesOf, hz] at this ⊢
                    exact this)
                  have HOW := Lib.hid hown
                  clear hb hx hsx hmx hown
                  generalize evE cols r x' = xr' at T' SX' L1 L3
                  obtain ⟨xk', xv'⟩ := xr'
                  dsimp only at L1 L3
                  go_wp2_with fail
                  refine (T'.out).mono ?_
                  rintro e' w5 ⟨rfl, hb1⟩
                  obtain ⟨w6, hw6⟩ : ∃ w6, w5.alloc (.cells #[.int .i64 xv'.type, .int .i64 xv'.n, .string xv'.s] 30) = w6 := ⟨_, rfl⟩
                  have hbr6 : Below wr.heap.size wr w6 := by rw [← hw6]; exact below_step hb1 (belowNew _ _)
                  have hb6 : Below w0.heap.size w0 w6 := HBR.out.trans (hbr6.mono HSZ.out)
                  have k0 : w6.cell? ⟨w5.heap.size, 0, none⟩ = some (.int .i64 xv'.type) := by rw [← hw6]; simp
                  have k1 : w6.cell? ⟨w5.heap.size, 1, none⟩ = some (.int .i64 xv'.n) := by rw [← hw6]; simp
                  have k2 : w6.cell? ⟨w5.heap.size, 2, none⟩ = some (.string xv'.s) := by rw [← hw6]; simp
                  have HW6 := Lib.hid hw6
                  have HB6 := Lib.hid hb6
                  have HV6 := Lib.hid (HV.out.keep hb6)
                  have HOWN6 := Lib.hid (own_keep HOW.out hbr6)
                  unfold valV
                  by_cases hk0 : xk' = 0
                  · have HXR' := Lib.hid (show right xv' ∧ xv'.type = (ofE cols x').t by
                      rcases SX'.out with h | h
                      · exact h.2
                      · exact absurd (hk0.symm.trans h.1) (by decide))
                    have HST := Lib.hid (L3.out hk0)
                    subst hk0
                    have HC6 := Lib.hid HB6.out.size
                    clear hb1 hw6 hbr6 hb6
                    go_wp2_with (first
                      | rw [HW6.out]
                      | (at_builtin; refine wpList_append_one valSlice rfl _ _ rfl rfl rfl HOWN6.out HB6.out (Nat.le_refl _) rfl (by intro u hu; simp at hu; rcases hu with rfl | rfl | rfl <;> rfl) (by omega) ?_; intro v1 w7 hown7 hb7 _))
                    go_roundw
                    case rel => exact ⟨k + 1, acc ++ [xv'], by omega, by omega, by go_num, by rw [valsCells_snoc]; exact hown7, by simp [HAL.out], TY.out xv' HXR'.out.2, by
                      intro z hz
                      rcases List.mem_append.1 hz with hz | hz
                      · exact HRI.out z hz
                      · simp at hz; subst hz; exact HXR'.out.1, hb7, by rw [HLP.out, HST.out]⟩
                    case measure => simp [intOf]; omega
                  · have HST := Lib.hid (L1.out hk0)
                    have b5 : (xk' != 0) = true := by simpa using hk0
                    obtain ⟨o0, o1, o2, z0, z1, z2, hlt⟩ := HV6.out.cells
                    clear hb1 hw6 hbr6 hb6 hk0
                    go_wp2_with (first | rw [HW6.out])
                    have HO4 := own3_set HV6.out 0 0 ⟨#[]⟩
                    have HB4 := Lib.hid (below_set3 (below_step HB.out HB6.out) (Nat.le_succ _) 0 0 ⟨#[]⟩)
                    generalize ((w6.setCell ⟨w.heap.size + 1, 0, none⟩ (.int .i64 0)).setCell ⟨w.heap.size + 1, 1, none⟩ (.int .i64 0)).setCell ⟨w.heap.size + 1, 2, none⟩ (.string ⟨#[]⟩) = w9 at HO4 HB4 ⊢
                    clear o0 o1 o2 z0 z1 z2 hlt
                    obtain ⟨o0, o1, o2, z0, z1, z2, hlt⟩ := HO4.cells
                    refine bodyPost_ret (v := .tuple #[valV noVal, .int .i64 xk']) (by simp [results, Tryz.results19, go_sem, o0, o1, o2, valV, noVal]) rfl ⟨?_, HB4.out⟩
                    rw [EL.out, HLP.out, HST.out]
                    try rfl
                · obtain rfl : n = k := by omega
                  have htk : args.take n = args := List.take_of_length_le (by rw [HLn.out]; exact Nat.le_refl _)
                  have HF := Lib.hid (show typesOf acc = ofTypes cols args by have := HTY.out; rwa [htk] at this)
                  have E := Lib.hid (show evE cols r (.mk op name v (some ⟨g, o, none⟩) c args pos) = ⟨applyErr op acc, applyVal op acc⟩ by rw [EL.out, HLP.out, rLoop_end HLn.out])
                  obtain ⟨A2, c2, rfl, hs2⟩ := Sees.of_own hown
                  have T' := Lib.hid (rdo_any op acc A2 n c2 wr ⟨HAL.out, hs2⟩ HRP.out.1 (by have h1 := HRP.out.2.1; rw [← HF.out] at h1; simpa [typesOf] using h1) (fun z hz => (HRI.out z hz).1) (fun z hz => (HRI.out z hz).2) (by rw [HF.out]; exact HRP.out.2.2))
                  clear hown hb htk hs2
                  generalize applyErr op acc = ak at T' E
                  generalize applyVal op acc = av at T' E
                  go_wp2_with fail
                  refine (T'.out).mono ?_
                  rintro e' w5 ⟨rfl, hb5⟩
                  have HB5 := Lib.hid (HBR.out.trans (hb5.mono HSZ.out))
                  have HV5 := Lib.hid (HV.out.keep HB5.out)
                  clear hb5
                  obtain ⟨o0, o1, o2, z0, z1, z2, hlt⟩ := HV5.out.cells
                  unfold valV
                  go_wp2_with fail
                  have HO4 := own3_set HV5.out av.type av.n av.s
                  have HB4 := Lib.hid (below_set3 (below_step HB.out HB5.out) (Nat.le_succ _) av.type av.n av.s)
                  generalize ((w5.setCell ⟨w.heap.size + 1, 0, none⟩ (.int .i64 av.type)).setCell ⟨w.heap.size + 1, 1, none⟩ (.int .i64 av.n)).setCell ⟨w.heap.size + 1, 2, none⟩ (.string av.s) = w9 at HO4 HB4 ⊢
                  clear o0 o1 o2 z0 z1 z2 hlt
                  obtain ⟨o0, o1, o2, z0, z1, z2, hlt⟩ := HO4.cells
                  refine bodyPost_ret (v := .tuple #[valV av, .int .i64 ak]) (by simp [results, Tryz.results19, go_sem, o0, o1, o2, valV]) rfl ⟨?_, HB4.out⟩
                  rw [E.out]
                  try rfl
            · by_cases hor : isOr op
              · as_aux_lemma =>
                have a1 := str_ne ha
                have a2 := str_is hor
                have b1 : (xv.n == 1) = false := beq_eq_false_iff_ne.2 (fun h => hst (Or.inr ⟨hor, h⟩))
                clear ha hst hor
                go_enter Tryz.func19, Tryz.ntmps19
                go_wp2_with (first | rw [HW0.out])
                refine (T.out).mono ?_
                rintro e' w2 ⟨rfl, hb1⟩
                obtain ⟨w3, hw3⟩ : ∃ w3, w2.alloc (.cells #[.int .i64 xv.type, .int .i64 xv.n, .string xv.s] 30) = w3 := ⟨_, rfl⟩
                have hb3 : Below w0.heap.size w0 w3 := by rw [← hw3]; exact below_step hb1 (belowNew _ _)
                have k0 : w3.cell? ⟨w2.heap.size, 0, none⟩ = some (.int .i64 xv.type) := by rw [← hw3]; simp
                have k1 : w3.cell? ⟨w2.heap.size, 1, none⟩ = some (.int .i64 xv.n) := by rw [← hw3]; simp
                have k2 : w3.cell? ⟨w2.heap.size, 2, none⟩ = some (.string xv.s) := by rw [← hw3]; simp
                have HW3 := Lib.hid hw3
                have HB3 := Lib.hid hb3
                have HV3 := Lib.hid (HV.out.keep hb3)
                have f0 := CE.out w3 hb3 0 _ rfl
                have f5 := CE.out w3 hb3 5 _ rfl
                obtain ⟨w4, hw4⟩ : ∃ w4, w3.alloc (.cells #[.int .i64 xv.type, .int .i64 xv.n, .string xv.s] 30) = w4 := ⟨_, rfl⟩
                have hb4 : Below w0.heap.size w0 w4 := by rw [← hw4]; exact hb3.trans ((belowNew w3 _).mono hb3.size)
                have hown4 : w4.ownsRow w0.heap.size 30 3 (.slice (some ⟨w3.heap.size, 0, none⟩) 1 1) 1 (valsCells [xv]) := by rw [← hw4]; exact own_new1 w3 xv _ hb3.size
                have HW4 := Lib.hid hw4
                have HB4 := Lib.hid hb4
                have HOWN4 := Lib.hid hown4
                have HTX := Lib.hid (show typesOf [xv] = ofTypes cols (args.take 1) by
                  rw [ofTypes_map, show args.take 1 = [x] by rw [show (1 : Nat) = 0 + 1 from rfl, List.take_add_one, HX.out]; rfl]
                  simp [typesOf, HXR.out.2])
                clear hb1 hw3 hb3 hw4 hb4 hown4 c0 c1 c2 c3 c4 c5 c6 d0 d5
                unfold valV
                go_wp2_with (first | rw [HW3.out] | rw [HW4.out])
                clear f0 f5 k0 k1 k2
                go_loopw [11, 12] (fun ts i wr => ∃ (k : Nat) (acc : List Val), 1 ≤ k ∧ k ≤ n ∧ i = .int .i64 k ∧ wr.ownsRow w0.heap.size 30 3 ts k (valsCells acc) ∧ acc.length = k ∧ typesOf acc = ofTypes cols (args.take k) ∧ (∀ z ∈ acc, right z) ∧ Below w0.heap.size w0 wr ∧ rLoop cols r op (args.drop 1) [xv] = rLoop cols r op (args.drop k) acc) (fun _ i _ => n - (intOf i).toNat)
                case atStart => exact ⟨1, [xv], by omega, hn1, rfl, HOWN4.out, rfl, HTX.out, (by intro z hz; rw [List.mem_singleton.1 hz]; exact HXR.out.1), HB4.out, rfl⟩
                case round =>
                  obtain ⟨k, acc, hk1, hk, rfl, hown, hal, hty, hri, hb, hlp⟩ := hrel
                  have HAL := Lib.hid hal
                  have HTY := Lib.hid hty
                  have HRI := Lib.hid hri
                  have HLP := Lib.hid hlp
                  have HBR := Lib.hid hb
                  have HSZ := Lib.hid hb.size
                  have d0 := CE.out wr hb 0 _ rfl
                  have d5 := CE.out wr hb 5 _ rfl
                  clear hal hty hri hlp
                  by_cases hlk : k < n
                  · obtain ⟨g', o', x', e', hg, hx, hsx, c0, c1, c2, c3, c4, c5, c6⟩ := (HE.out.keep hb).at_ (k := k) (by show k < args.length; rw [HLn.out]; exact hlk)
                    cases (show some _ = some _ from e')
                    have HX' := Lib.hid (show args[k]? = some x' from hx)
                    have hmx := List.mem_of_getElem? HX'.out
                    have T' := Lib.hid (IH.out x' (HM.out x' hmx) C R p q y s cols r wr (HCo.out.keep hb) (HRo.out.keep hb) HRK.out hsx (nodesErrs_all HNE.out.2 x' hmx) (HP.out.1 x' hmx))
                    unfold exV at T'
                    have SX' := Lib.hid (HSD.out x' hmx)
                    have L1 := Lib.hid (fun h => rLoop_err (cols := cols) (r := r) (op := op) (acc := acc) HX'.out h)
                    have L3 := Lib.hid (fun h1 => rLoop_next (cols := cols) (r := r) (op := op) (acc := acc) HX'.out h1)
                    have TY := Lib.hid (show ∀ z : Val, z.type = (ofE cols x').t → typesOf (acc ++ [z]) = ofTypes cols (args.take (k + 1)) by
                      intro z hz
                      rw [ofTypes_map, List.take_add_one, HX'.out]
                      have := HTY.out
                      rw [ofTypes_map] at this
                      simp [typesOf, hz] at this ⊢
                      exact this)
                    have HOW := Lib.hid hown
                    clear hb hx hsx hmx hown
                    generalize evE cols r x' = xr' at T' SX' L1 L3
                    obtain ⟨xk', xv'⟩ := xr'
                    dsimp only at L1 L3
                    go_wp2_with fail
                    refine (T'.out).mono ?_
                    rintro e' w5 ⟨rfl, hb1⟩
                    obtain ⟨w6, hw6⟩ : ∃ w6, w5.alloc (.cells #[.int .i64 xv'.type, .int .i64 xv'.n, .string xv'.s] 30) = w6 := ⟨_, rfl⟩
                    have hbr6 : Below wr.heap.size wr w6 := by rw [← hw6]; exact below_step hb1 (belowNew _ _)
                    have hb6 : Below w0.heap.size w0 w6 := HBR.out.trans (hbr6.mono HSZ.out)
                    have k0 : w6.cell? ⟨w5.heap.size, 0, none⟩ = some (.int .i64 xv'.type) := by rw [← hw6]; simp
                    have k1 : w6.cell? ⟨w5.heap.size, 1, none⟩ = some (.int .i64 xv'.n) := by rw [← hw6]; simp
                    have k2 : w6.cell? ⟨w5.heap.size, 2, none⟩ = some (.string xv'.s) := by rw [← hw6]; simp
                    have HW6 := Lib.hid hw6
                    have HB6 := Lib.hid hb6
                    have HV6 := Lib.hid (HV.out.keep hb6)
                    have HOWN6 := Lib.hid (own_keep HOW.out hbr6)
                    unfold valV
                    by_cases hk0 : xk' = 0
                    · have HXR' := Lib.hid (show right xv' ∧ xv'.type = (ofE cols x').t by
                        rcases SX'.out with h | h
                        · exact h.2
                        · exact absurd (hk0.symm.trans h.1) (by decide))
                      have HST := Lib.hid (L3.out hk0)
                      subst hk0
                      have HC6 := Lib.hid HB6.out.size
                      clear hb1 hw6 hbr6 hb6
                      go_wp2_with (first
                        | rw [HW6.out]
                        | (at_builtin; refine wpList_append_one valSlice rfl _ _ rfl rfl rfl HOWN6.out HB6.out (Nat.le_refl _) rfl (by intro u hu; simp at hu; rcases hu with rfl | rfl | rfl <;> rfl) (by omega) ?_; intro v1 w7 hown7 hb7 _))
                      go_roundw
                      case rel => exact ⟨k + 1, acc ++ [xv'], by omega, by omega, by go_num, by rw [valsCells_snoc]; exact hown7, by simp [HAL.out], TY.out xv' HXR'.out.2, by
                        intro z hz
                        rcases List.mem_append.1 hz with hz | hz
                        · exact HRI.out z hz
                        · simp at hz; subst hz; exact HXR'.out.1, hb7, by rw [HLP.out, HST.out]⟩
                      case measure => simp [intOf]; omega
                    · have HST := Lib.hid (L1.out hk0)
                      have b5 : (xk' != 0) = true := by simpa using hk0
                      obtain ⟨o0, o1, o2, z0, z1, z2, hlt⟩ := HV6.out.cells
                      clear hb1 hw6 hbr6 hb6 hk0
                      go_wp2_with (first | rw [HW6.out])
                      have HO4 := own3_set HV6.out 0 0 ⟨#[]⟩
                      have HB4 := Lib.hid (below_set3 (below_step HB.out HB6.out) (Nat.le_succ _) 0 0 ⟨#[]⟩)
                      generalize ((w6.setCell ⟨w.heap.size + 1, 0, none⟩ (.int .i64 0)).setCell ⟨w.heap.size + 1, 1, none⟩ (.int .i64 0)).setCell ⟨w.heap.size + 1, 2, none⟩ (.string ⟨#[]⟩) = w9 at HO4 HB4 ⊢
                      clear o0 o1 o2 z0 z1 z2 hlt
                      obtain ⟨o0, o1, o2, z0, z1, z2, hlt⟩ := HO4.cells
                      refine bodyPost_ret (v := .tuple #[valV noVal, .int .i64 xk']) (by simp [results, Tryz.results19, go_sem, o0, o1, o2, valV, noVal]) rfl ⟨?_, HB4.out⟩
                      rw [EL.out, HLP.out, HST.out]
                      try rfl
                  · obtain rfl : n = k := by omega
                    have htk : args.take n = args := List.take_of_length_le (by rw [HLn.out]; exact Nat.le_refl _)
                    have HF := Lib.hid (show typesOf acc = ofTypes cols args by have := HTY.out; rwa [htk] at this)
                    have E := Lib.hid (show evE cols r (.mk op name v (some ⟨g, o, none⟩) c args pos) = ⟨applyErr op acc, applyVal op acc⟩ by rw [EL.out, HLP.out, rLoop_end HLn.out])
                    obtain ⟨A2, c2, rfl, hs2⟩ := Sees.of_own hown
                    have T' := Lib.hid (rdo_any op acc A2 n c2 wr ⟨HAL.out, hs2⟩ HRP.out.1 (by have h1 := HRP.out.2.1; rw [← HF.out] at h1; simpa [typesOf] using h1) (fun z hz => (HRI.out z hz).1) (fun z hz => (HRI.out z hz).2) (by rw [HF.out]; exact HRP.out.2.2))
                    clear hown hb htk hs2
                    generalize applyErr op acc = ak at T' E
                    generalize applyVal op acc = av at T' E
                    go_wp2_with fail
                    refine (T'.out).mono ?_
                    rintro e' w5 ⟨rfl, hb5⟩
                    have HB5 := Lib.hid (HBR.out.trans (hb5.mono HSZ.out))
                    have HV5 := Lib.hid (HV.out.keep HB5.out)
                    clear hb5
                    obtain ⟨o0, o1, o2, z0, z1, z2, hlt⟩ := HV5.out.cells
                    unfold valV
                    go_wp2_with fail
                    have HO4 := own3_set HV5.out av.type av.n av.s
                    have HB4 := Lib.hid (below_set3 (below_step HB.out HB5.out) (Nat.le_succ _) av.type av.n av.s)
                    generalize ((w5.setCell ⟨w.heap.size + 1, 0, none⟩ (.int .i64 av.type)).setCell ⟨w.heap.size + 1, 1, none⟩ (.int .i64 av.n)).setCell ⟨w.heap.size + 1, 2, none⟩ (.string av.s) = w9 at HO4 HB4 ⊢
                    clear o0 o1 o2 z0 z1 z2 hlt
                    obtain ⟨o0, o1, o2, z0, z1, z2, hlt⟩ := HO4.cells
                    refine bodyPost_ret (v := .tuple #[valV av, .int .i64 ak]) (by simp [results, Tryz.results19, go_sem, o0, o1, o2, valV]) rfl ⟨?_, HB4.out⟩
                    rw [E.out]
                    try rfl
              · as_aux_lemma =>
                have a1 := str_ne ha
                have a2 := str_ne hor
                clear ha hst hor
                go_enter Tryz.func19, Tryz.ntmps19
                go_wp2_with (first | rw [HW0.out])
                refine (T.out).mono ?_
                rintro e' w2 ⟨rfl, hb1⟩
                obtain ⟨w3, hw3⟩ : ∃ w3, w2.alloc (.cells #[.int .i64 xv.type, .int .i64 xv.n, .string xv.s] 30) = w3 := ⟨_, rfl⟩
                have hb3 : Below w0.heap.size w0 w3 := by rw [← hw3]; exact below_step hb1 (belowNew _ _)
                have k0 : w3.cell? ⟨w2.heap.size, 0, none⟩ = some (.int .i64 xv.type) := by rw [← hw3]; simp
                have k1 : w3.cell? ⟨w2.heap.size, 1, none⟩ = some (.int .i64 xv.n) := by rw [← hw3]; simp
                have k2 : w3.cell? ⟨w2.heap.size, 2, none⟩ = some (.string xv.s) := by rw [← hw3]; simp
                have HW3 := Lib.hid hw3
                have HB3 := Lib.hid hb3
                have HV3 := Lib.hid (HV.out.keep hb3)
                have f0 := CE.out w3 hb3 0 _ rfl
                have f5 := CE.out w3 hb3 5 _ rfl
                obtain ⟨w4, hw4⟩ : ∃ w4, w3.alloc (.cells #[.int .i64 xv.type, .int .i64 xv.n, .string xv.s] 30) = w4 := ⟨_, rfl⟩
                have hb4 : Below w0.heap.size w0 w4 := by rw [← hw4]; exact hb3.trans ((belowNew w3 _).mono hb3.size)
                have hown4 : w4.ownsRow w0.heap.size 30 3 (.slice (some ⟨w3.heap.size, 0, none⟩) 1 1) 1 (valsCells [xv]) := by rw [← hw4]; exact own_new1 w3 xv _ hb3.size
                have HW4 := Lib.hid hw4
                have HB4 := Lib.hid hb4
                have HOWN4 := Lib.hid hown4
                have HTX := Lib.hid (show typesOf [xv] = ofTypes cols (args.take 1) by
                  rw [ofTypes_map, show args.take 1 = [x] by rw [show (1 : Nat) = 0 + 1 from rfl, List.take_add_one, HX.out]; rfl]
                  simp [typesOf, HXR.out.2])
                clear hb1 hw3 hb3 hw4 hb4 hown4 c0 c1 c2 c3 c4 c5 c6 d0 d5
                unfold valV
                go_wp2_with (first | rw [HW3.out] | rw [HW4.out])
                clear f0 f5 k0 k1 k2
                go_loopw [11, 12] (fun ts i wr => ∃ (k : Nat) (acc : List Val), 1 ≤ k ∧ k ≤ n ∧ i = .int .i64 k ∧ wr.ownsRow w0.heap.size 30 3 ts k (valsCells acc) ∧ acc.length = k ∧ typesOf acc = ofTypes cols (args.take k) ∧ (∀ z ∈ acc, right z) ∧ Below w0.heap.size w0 wr ∧ rLoop cols r op (args.drop 1) [xv] = rLoop cols r op (args.drop k) acc) (fun _ i _ => n - (intOf i).toNat)
                case atStart => exact ⟨1, [xv], by omega, hn1, rfl, HOWN4.out, rfl, HTX.out, (by intro z hz; rw [List.mem_singleton.1 hz]; exact HXR.out.1), HB4.out, rfl⟩
                case round =>
                  obtain ⟨k, acc, hk1, hk, rfl, hown, hal, hty, hri, hb, hlp⟩ := hrel
                  have HAL := Lib.hid hal
                  have HTY := Lib.hid hty
                  have HRI := Lib.hid hri
                  have HLP := Lib.hid hlp
                  have HBR := Lib.hid hb
                  have HSZ := Lib.hid hb.size
                  have d0 := CE.out wr hb 0 _ rfl
                  have d5 := CE.out wr hb 5 _ rfl
                  clear hal hty hri hlp
                  by_cases hlk : k < n
                  · obtain ⟨g', o', x', e', hg, hx, hsx, c0, c1, c2, c3, c4, c5, c6⟩ := (HE.out.keep hb).at_ (k := k) (by show k < args.length; rw [HLn.out]; exact hlk)
                    cases (show some _ = some _ from e')
                    have HX' := Lib.hid (show args[k]? = some x' from hx)
                    have hmx := List.mem_of_getElem? HX'.out
                    have T' := Lib.hid (IH.out x' (HM.out x' hmx) C R p q y s cols r wr (HCo.out.keep hb) (HRo.out.keep hb) HRK.out hsx (nodesErrs_all HNE.out.2 x' hmx) (HP.out.1 x' hmx))
                    unfold exV at T'
                    have SX' := Lib.hid (HSD.out x' hmx)
                    have L1 := Lib.hid (fun h => rLoop_err (cols := cols) (r := r) (op := op) (acc := acc) HX'.out h)
                    have L3 := Lib.hid (fun h1 => rLoop_next (cols := cols) (r := r) (op := op) (acc := acc) HX'.out h1)
                    have TY := Lib.hid (show ∀ z : Val, z.type = (ofE cols x').t → typesOf (acc ++ [z]) = ofTypes cols (args.take (k + 1)) by
                      intro z hz
                      rw [ofTypes_map, List.take_add_one, HX'.out]
                      have := HTY.out
                      rw [ofTypes_map] at this
                      simp [typesOf, hz] at this ⊢
                      exact this)
                    have HOW := Lib.hid hown
                    clear hb hx hsx hmx hown
                    generalize evE cols r x' = xr' at T' SX' L1 L3
                    obtain ⟨xk', xv'⟩ := xr'
                    dsimp only at L1 L3
                    go_wp2_with fail
                    refine (T'.out).mono ?_
                    rintro e' w5 ⟨rfl, hb1⟩
                    obtain ⟨w6, hw6⟩ : ∃ w6, w5.alloc (.cells #[.int .i64 xv'.type, .int .i64 xv'.n, .string xv'.s] 30) = w6 := ⟨_, rfl⟩
                    have hbr6 : Below wr.heap.size wr w6 := by rw [← hw6]; exact below_step hb1 (belowNew _ _)
                    have hb6 : Below w0.heap.size w0 w6 := HBR.out.trans (hbr6.mono HSZ.out)
                    have k0 : w6.cell? ⟨w5.heap.size, 0, none⟩ = some (.int .i64 xv'.type) := by rw [← hw6]; simp
                    have k1 : w6.cell? ⟨w5.heap.size, 1, none⟩ = some (.int .i64 xv'.n) := by rw [← hw6]; simp
                    have k2 : w6.cell? ⟨w5.heap.size, 2, none⟩ = some (.string xv'.s) := by rw [← hw6]; simp
                    have HW6 := Lib.hid hw6
                    have HB6 := Lib.hid hb6
                    have HV6 := Lib.hid (HV.out.keep hb6)
                    have HOWN6 := Lib.hid (own_keep HOW.out hbr6)
                    unfold valV
                    by_cases hk0 : xk' = 0
                    · have HXR' := Lib.hid (show right xv' ∧ xv'.type = (ofE cols x').t by
                        rcases SX'.out with h | h
                        · exact h.2
                        · exact absurd (hk0.symm.trans h.1) (by decide))
                      have HST := Lib.hid (L3.out hk0)
                      subst hk0
                      have HC6 := Lib.hid HB6.out.size
                      clear hb1 hw6 hbr6 hb6
                      go_wp2_with (first
                        | rw [HW6.out]
                        | (at_builtin; refine wpList_append_one valSlice rfl _ _ rfl rfl rfl HOWN6.out HB6.out (Nat.le_refl _) rfl (by intro u hu; simp at hu; rcases hu with rfl | rfl | rfl <;> rfl) (by omega) ?_; intro v1 w7 hown7 hb7 _))
                      go_roundw
                      case rel => exact ⟨k + 1, acc ++ [xv'], by omega, by omega, by go_num, by rw [valsCells_snoc]; exact hown7, by simp [HAL.out], TY.out xv' HXR'.out.2, by
                        intro z hz
                        rcases List.mem_append.1 hz with hz | hz
                        · exact HRI.out z hz
                        · simp at hz; subst hz; exact HXR'.out.1, hb7, by rw [HLP.out, HST.out]⟩
                      case measure => simp [intOf]; omega
                    · have HST := Lib.hid (L1.out hk0)
                      have b5 : (xk' != 0) = true := by simpa using hk0
                      obtain ⟨o0, o1, o2, z0, z1, z2, hlt⟩ := HV6.out.cells
                      clear hb1 hw6 hbr6 hb6 hk0
                      go_wp2_with (first | rw [HW6.out])
                      have HO4 := own3_set HV6.out 0 0 ⟨#[]⟩
                      have HB4 := Lib.hid (below_set3 (below_step HB.out HB6.out) (Nat.le_succ _) 0 0 ⟨#[]⟩)
                      generalize ((w6.setCell ⟨w.heap.size + 1, 0, none⟩ (.int .i64 0)).setCell ⟨w.heap.size + 1, 1, none⟩ (.int .i64 0)).setCell ⟨w.heap.size + 1, 2, none⟩ (.string ⟨#[]⟩) = w9 at HO4 HB4 ⊢
                      clear o0 o1 o2 z0 z1 z2 hlt
                      obtain ⟨o0, o1, o2, z0, z1, z2, hlt⟩ := HO4.cells
                      refine bodyPost_ret (v := .tuple #[valV noVal, .int .i64 xk']) (by simp [results, Tryz.results19, go_sem, o0, o1, o2, valV, noVal]) rfl ⟨?_, HB4.out⟩
                      rw [EL.out, HLP.out, HST.out]
                      try rfl
                  · obtain rfl : n = k := by omega
                    have htk : args.take n = args := List.take_of_length_le (by rw [HLn.out]; exact Nat.le_refl _)
                    have HF := Lib.hid (show typesOf acc = ofTypes cols args by have := HTY.out; rwa [htk] at this)
                    have E := Lib.hid (show evE cols r (.mk op name v (some ⟨g, o, none⟩) c args pos) = ⟨applyErr op acc, applyVal op acc⟩ by rw [EL.out, HLP.out, rLoop_end HLn.out])
                    obtain ⟨A2, c2, rfl, hs2⟩ := Sees.of_own hown
                    have T' := Lib.hid (rdo_any op acc A2 n c2 wr ⟨HAL.out, hs2⟩ HRP.out.1 (by have h1 := HRP.out.2.1; rw [← HF.out] at h1; simpa [typesOf] using h1) (fun z hz => (HRI.out z hz).1) (fun z hz => (HRI.out z hz).2) (by rw [HF.out]; exact HRP.out.2.2))
                    clear hown hb htk hs2
                    generalize applyErr op acc = ak at T' E
                    generalize applyVal op acc = av at T' E
                    go_wp2_with fail
                    refine (T'.out).mono ?_
                    rintro e' w5 ⟨rfl, hb5⟩
                    have HB5 := Lib.hid (HBR.out.trans (hb5.mono HSZ.out))
                    have HV5 := Lib.hid (HV.out.keep HB5.out)
                    clear hb5
                    obtain ⟨o0, o1, o2, z0, z1, z2, hlt⟩ := HV5.out.cells
                    unfold valV
                    go_wp2_with fail
                    have HO4 := own3_set HV5.out av.type av.n av.s
                    have HB4 := Lib.hid (below_set3 (below_step HB.out HB5.out) (Nat.le_succ _) av.type av.n av.s)
                    generalize ((w5.setCell ⟨w.heap.size + 1, 0, none⟩ (.int .i64 av.type)).setCell ⟨w.heap.size + 1, 1, none⟩ (.int .i64 av.n)).setCell ⟨w.heap.size + 1, 2, none⟩ (.string av.s) = w9 at HO4 HB4 ⊢
                    clear o0 o1 o2 z0 z1 z2 hlt
                    obtain ⟨o0, o1, o2, z0, z1, z2, hlt⟩ := HO4.cells
                    refine bodyPost_ret (v := .tuple #[valV av, .int .i64 ak]) (by simp [results, Tryz.results19, go_sem, o0, o1, o2, valV]) rfl ⟨?_, HB4.out⟩
                    rw [E.out]
                    try rfl
      · as_aux_lemma =>
        have b5 : (xk != 0) = true := by simpa using hk
        have E := Lib.hid (show evE cols r (.mk op name v (some ⟨g, o, none⟩) c args pos) = ⟨xk, noVal⟩ by
          have h := HL1.out hk
          rw [List.drop_zero] at h
          rw [EI.out, if_pos hk, h]
          split <;> rfl)
        clear EI HEV HL1 HL2 hk
        go_enter Tryz.func19, Tryz.ntmps19
        go_wp2_with (first | rw [HW0.out])
        refine (T.out).mono ?_
        rintro e' w2 ⟨rfl, hb1⟩
        obtain ⟨w3, hw3⟩ : ∃ w3, w2.alloc (.cells #[.int .i64 xv.type, .int .i64 xv.n, .string xv.s] 30) = w3 := ⟨_, rfl⟩
        have hb3 : Below w0.heap.size w0 w3 := by rw [← hw3]; exact below_step hb1 (belowNew _ _)
        have k0 : w3.cell? ⟨w2.heap.size, 0, none⟩ = some (.int .i64 xv.type) := by rw [← hw3]; simp
        have k1 : w3.cell? ⟨w2.heap.size, 1, none⟩ = some (.int .i64 xv.n) := by rw [← hw3]; simp
        have k2 : w3.cell? ⟨w2.heap.size, 2, none⟩ = some (.string xv.s) := by rw [← hw3]; simp
        have HW3 := Lib.hid hw3
        have HB3 := Lib.hid hb3
        have HV3 := Lib.hid (HV.out.keep hb3)
        have f0 := CE.out w3 hb3 0 _ rfl
        have f5 := CE.out w3 hb3 5 _ rfl
        obtain ⟨o0, o1, o2, z0, z1, z2, hlt⟩ := HV3.out.cells
        clear hb1 hw3 hb3 c0 c1 c2 c3 c4 c5 c6 d0 d5
        unfold valV
        go_wp2_with (first | rw [HW3.out])
        have HO4 := own3_set HV3.out 0 0 ⟨#[]⟩
        have HB4 := Lib.hid (below_set3 (below_step HB.out HB3.out) (Nat.le_succ _) 0 0 ⟨#[]⟩)
        generalize ((w3.setCell ⟨w.heap.size + 1, 0, none⟩ (.int .i64 0)).setCell ⟨w.heap.size + 1, 1, none⟩ (.int .i64 0)).setCell ⟨w.heap.size + 1, 2, none⟩ (.string ⟨#[]⟩) = w9 at HO4 HB4 ⊢
        clear o0 o1 o2 z0 z1 z2 hlt
        obtain ⟨o0, o1, o2, z0, z1, z2, hlt⟩ := HO4.cells
        refine bodyPost_ret (v := .tuple #[valV noVal, .int .i64 xk]) (by simp [results, Tryz.results19, go_sem, o0, o1, o2, valV, noVal]) rfl ⟨?_, HB4.out⟩
        rw [E.out]
        try rfl
theorem rev_any : ∀ m : Nat, REvAt m
  | 0 => fun e hm _ _ _ _ _ _ _ _ _ _ _ _ _ _ _ => by cases e; simp at hm
  | m + 1 => fun e hm C R p q y s cols r w hC hR hr he hne hh => by
    obtain ⟨op, name, v, A, c, args, pos⟩ := e
    exact rev_step m (rev_any m) op name v A c args pos hm C R p q y s cols r w hC hR hr he hne hh
end Go.Proofs.YthmbafkedgahaaaGreatDoor
