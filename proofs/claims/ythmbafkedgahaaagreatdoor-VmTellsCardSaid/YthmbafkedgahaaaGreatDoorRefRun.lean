/- The document's machine as it lies: its stack and what is done, two rows of the call's own: plain. sluiceref2.Run, walked: what the document's machine does with sound code. -/
import Derived.Test.YthmbafkedgahaaaGreatDoorVmTop
import Derived.Test.YthmbafkedgahaaaGreatDoorRefDoAny
import Derived.Test.YthmbafkedgahaaaGreatDoorSeCk
namespace Go.Proofs.YthmbafkedgahaaaGreatDoor
open Go.ChangeShapes Go.WideShapes Go.ChangeAt Go.RowKit

structure RefAt (w : World) (H : Nat) (sv dv : Value) (s : List Val) (done : List Nat) : Prop where
  stk : w.ownsRow H 30 3 sv s.length (valsCells s)
  dn : w.ownsRow H 3 1 dv done.length (intCells (done.map fun k : Nat => (k : Int)))
  far : ∀ k, sv.ownBlock = some k → dv.ownBlock ≠ some k
theorem RefAt.keep {w w' : World} {H : Nat} {sv dv : Value} {s : List Val} {done : List Nat} (h : RefAt w H sv dv s done) (hb : Below w.heap.size w w') : RefAt w' H sv dv s done :=
  ⟨own_keep h.stk hb, own_keep h.dn hb, h.far⟩
theorem ref_push {w w1 w' : World} {H g n cap : Nat} {sv dv : Value} {s s' : List Val} {done : List Nat} (h : RefAt w H sv dv s done) (hb : Below w.heap.size w w1)
    (hown : w'.ownsRow H 30 3 (.slice (some ⟨g, 0, none⟩) n cap) n (valsCells s')) (hn : s'.length = n) (hg : w1.grownBy w' sv.ownBlock) (hat : sv.ownBlock = some g ∨ w.heap.size ≤ g) (hH : H ≤ w.heap.size) :
    RefAt w' H (.slice (some ⟨g, 0, none⟩) n cap) dv s' done ∧ Below H w w' ∧ Only (fun k => sv.ownBlock = some k) w w' := by
  subst hn
  have hy : Only (fun k => sv.ownBlock = some k) w w' := (Only.of_below hb).trans (Only.of_grown hg (fun k hk => hk.symm))
  refine ⟨⟨hown, hy.own h.dn (fun k hk hs => h.far k hs hk), fun k hk => ?_⟩, hy.below hH (fun k hk => (h.stk.lt k hk).1), hy⟩
  injection hk with hk
  have hk : g = k := hk
  subst hk
  rcases hat with e | e
  · exact h.far g e
  · intro e2; have := (h.dn.lt g e2).2; omega
theorem ref_add {w w1 w' : World} {H g n cap k : Nat} {sv dv : Value} {s : List Val} {done : List Nat} (h : RefAt w H sv dv s done) (hb : Below w.heap.size w w1)
    (hown : w'.ownsRow H 3 1 (.slice (some ⟨g, 0, none⟩) n cap) n (intCells (done.map fun k : Nat => (k : Int)) ++ (#[Value.int .i64 (k : Int)] : Array Value).toList)) (hn : n = done.length + 1) (hg : w1.grownBy w' dv.ownBlock) (hat : dv.ownBlock = some g ∨ w.heap.size ≤ g) (hH : H ≤ w.heap.size) :
    RefAt w' H sv (.slice (some ⟨g, 0, none⟩) n cap) s (done ++ [k]) ∧ Below H w w' ∧ Only (fun k => dv.ownBlock = some k) w w' := by
  subst hn
  have hy : Only (fun k => dv.ownBlock = some k) w w' := (Only.of_below hb).trans (Only.of_grown hg (fun k hk => hk.symm))
  refine ⟨⟨hy.own h.stk (fun k hk hs => h.far k hk hs), ?_, fun k hk => ?_⟩, hy.below hH (fun k hk => (h.dn.lt k hk).1), hy⟩
  · rw [intCells_app] at hown
    rw [List.length_append, List.map_append]
    exact hown
  · intro e
    injection e with e
    have e : g = k := e
    subst e
    rcases hat with e | e
    · exact h.far g hk e
    · have := (h.stk.lt g hk).2; omega
theorem ref_shape {w : World} {H k : Nat} {sv dv : Value} {s : List Val} {done : List Nat} (h : RefAt w H sv dv s done) (h1 : k ≤ s.length) (hk : 1 ≤ k) : ∃ g c j, sv = .slice (some ⟨g, 0, none⟩) (j + k) c ∧ s.length = j + k ∧ j + k ≤ c ∧ c ≤ 9223372036854775807 := by
  obtain ⟨A, c2, e, hs⟩ := Sees.of_own h.stk
  have h2 := hs.2.1
  have h3 := hs.2.2.1
  unfold maxLen at h3
  rcases h.stk.2 with ⟨e1, e2⟩ | ⟨g, cap, cur, e1, -⟩
  · omega
  · obtain ⟨j, hj⟩ : ∃ j, s.length = j + k := ⟨s.length - k, by omega⟩
    rw [e1] at e
    injection e with _ _ e3
    subst e3
    rw [hj] at e1 h2
    exact ⟨g, cap, j, e1, hj, h2, by omega⟩
theorem ref_drop {w : World} {H g c j k m : Nat} {dv : Value} {s : List Val} {done : List Nat} (h : RefAt w H (.slice (some ⟨g, 0, none⟩) m c) dv s done) (hm : j + k = m) (hl : s.length = m) : SeesVals w (some ⟨g, j * 3, none⟩) k (c - j) (s.drop j) := by
  subst hm
  have ho := h.stk
  rw [hl] at ho
  obtain ⟨A, c2, e, hs⟩ := Sees.of_own ho
  injection e with e1 e2 e3
  subst e1 e3
  have h1 := hs.2.1
  have h2 := hs.2.2.1
  refine ⟨by rw [List.length_drop]; omega, by rw [valsCells_length, List.length_drop]; omega, by omega, by omega, (fun e => by cases e), fun hk => ?_⟩
  obtain ⟨g', o, e, hg, hc⟩ := hs.2.2.2.2 (by omega)
  injection e with e
  injection e with e1 e2
  subst e1 e2
  refine ⟨g, j * 3, rfl, hg, fun i u hu => ?_⟩
  have := hc (j * 3 + i) u (by rw [valsCells_drop, List.getElem?_drop] at hu; exact hu)
  rwa [Nat.zero_add] at this
theorem ref_top {w : World} {H g c j m : Nat} {dv : Value} {s : List Val} {done : List Nat} (h : RefAt w H (.slice (some ⟨g, 0, none⟩) m c) dv s done) (hm : j + 1 = m) (hl : s.length = m) :
    g < w.heap.size ∧ w.cell? ⟨g, j * 3, none⟩ = some (.int .i64 (topV s).type) ∧ w.cell? ⟨g, j * 3 + 1, none⟩ = some (.int .i64 (topV s).n) ∧ w.cell? ⟨g, j * 3 + 2, none⟩ = some (.string (topV s).s) := by
  obtain ⟨g', o', v, eA, hg', hv, z0, z1, z2⟩ := (ref_drop h hm hl).at_ (show 0 < 1 by decide)
  injection eA with eA
  injection eA with e1 e2
  subst e1 e2
  rw [Nat.zero_mul, Nat.add_zero] at z0 z1 z2
  have hj : s.length - 1 = j := by omega
  have hv2 : topV s = v := by unfold topV; rw [hj]; cases hd : s.drop j with | nil => rw [hd] at hv; cases hv | cons b r => rw [hd] at hv; exact Option.some.inj hv
  rw [hv2]
  exact ⟨hg', z0, z1, z2⟩
theorem ref_cut {w : World} {H g c j k m : Nat} {dv : Value} {s : List Val} {done : List Nat} (h : RefAt w H (.slice (some ⟨g, 0, none⟩) m c) dv s done) (hm : j + k = m) (hl : s.length = m) : RefAt w H (.slice (some ⟨g, 0, none⟩) j c) dv (s.take j) done := by
  subst hm
  refine ⟨?_, h.dn, fun q hq => h.far q hq⟩
  have ho := h.stk
  rw [hl] at ho
  have := own_pre ho
  rw [← valsCells_take] at this
  rwa [show (s.take j).length = j by rw [List.length_take]; omega]
theorem valsCells_one_more (s : List Val) (v : Val) : valsCells s ++ (#[Value.int .i64 v.type, .int .i64 v.n, .string v.s] : Array Value).toList = valsCells (s ++ [v]) := by simp [valsCells, valCells]
/-- An instruction that goes right: what comes next. -/
theorem ref_next {code : List Ins} {cols : List Col} {row : List Val} {st : Sts} {t : Int} {fl : Option Nat} {R0 : VmR} (hS : Snd code cols st t) (hr : RowOk cols row) (hx : ∀ x ∈ code, x.val.wf) {k : Nat} {x : Ins} {s s' : List Val} {l : List Int} {j : Nat} {done : List Nat}
    (hrun : R0 = runV code row fl k done s) (hk : code[k]? = some x) (hl : st.getD k none = some l) (hs : StkOk s l) (hf : fl ≠ some done.length) (E : doP row x s = (0, s', j)) :
    R0 = runV code row fl (k + 1 + j) (done ++ [k]) s' ∧ ∃ l', st.getD (k + 1 + j) none = some l' ∧ StkOk s' l' ∧ k + 1 + j ≤ code.length := by
  have h0 : (doP row x s).1 = 0 := by rw [E]
  have h1 := snd_next hS hr hx hk hl hs h0
  have h2 := hrun.trans (runV_go hk hf h0)
  rw [E] at h1 h2
  exact ⟨h2, h1⟩
/-- What an operation of sound code finds. -/
theorem snd_op {cols : List Col} {x : Ins} {s : List Val} {l : List Int} {len i : Nat} (hw : x.what = 3) (hs : StkOk s l) (ha : argErr len i cols.length x = 0) (hc : (actP cols x l).1 = 0) :
    opErr x.arg = 0 ∧ need x ≤ s.length ∧ fitsGrp (grp (opNm x.arg)) (typesOf (s.drop (s.length - need x))) = true := by
  obtain ⟨p1, p2, p3, -⟩ := actP_parts hc
  have hlen := hs.len
  unfold argErr at ha
  rw [if_neg (by omega), if_neg (by omega), if_pos hw] at ha
  refine ⟨ha, by omega, ?_⟩
  unfold putTy at p2
  rw [if_neg (by omega), if_neg (by omega), if_pos hw] at p2
  by_cases hre : ruleErr (opNm x.arg) (l.drop (l.length - need x)) ≠ 0
  · rw [if_pos hre] at p2; exact absurd p2 (show ¬ (8 : Int) = 0 by decide)
  · have := (ruleErr_parts (show ruleErr (opNm x.arg) (l.drop (l.length - need x)) = 0 by simpa using hre)).2.2
    rw [← (hs.drop (l.length - need x)).2] at this
    rw [hlen]; exact this
/-- What sluiceref2.Run says. -/
def RunRef (r : VmR) (W : World) (e : Ending) (w' : World) : Prop :=
  ∃ dv, e = .returned (.tuple #[valV r.val, dv, .int .i64 r.err]) ∧ w'.ownsRow W.heap.size 3 1 dv r.done.length (intCells (r.done.map fun k : Nat => (k : Int))) ∧ Below W.heap.size W w'
end Go.Proofs.YthmbafkedgahaaaGreatDoor
namespace Go.Proofs.YthmbafkedgahaaaGreatDoor
open Go.ChangeShapes Go.WideShapes Go.ChangeAt Go.RowKit

theorem own_less {w : World} {B C e size n : Nat} {v : Value} {xs : List Value} (h : w.ownsRow B e size v n xs) (hC : C ≤ B) : w.ownsRow C e size v n xs := by
  refine ⟨h.1, ?_⟩
  rcases h.2 with hn | ⟨g, cap, cur, e1, hb, rest⟩
  · exact .inl hn
  · exact .inr ⟨g, cap, cur, e1, Nat.le_trans hC hb, rest⟩
theorem ref_out {W w : World} {H br : Nat} {sv dv : Value} {s : List Val} {done : List Nat} (h : RefAt w H sv dv s done) (hb : Below W.heap.size W w) (hbr : br = W.heap.size) (hH : br < H) (t n : Int) (u : ByteArray) :
    (((w.setCell ⟨br, 0, none⟩ (.int .i64 t)).setCell ⟨br, 1, none⟩ (.int .i64 n)).setCell ⟨br, 2, none⟩ (.string u)).ownsRow W.heap.size 3 1 dv done.length (intCells (done.map fun k : Nat => (k : Int))) ∧ Below W.heap.size W (((w.setCell ⟨br, 0, none⟩ (.int .i64 t)).setCell ⟨br, 1, none⟩ (.int .i64 n)).setCell ⟨br, 2, none⟩ (.string u)) := by
  have hy := only_set3 (w := w) (b := br) t n u
  refine ⟨own_less (hy.own h.dn (fun k hk e => ?_)) (by omega), below_set3 hb (by omega) t n u⟩
  have := (h.dn.lt k hk).1
  have e : k = br := e
  omega
set_option maxHeartbeats 16000000 in
set_option maxRecDepth 100000 in
theorem rrun_any (A0 : Option Addr) (n c : Nat) (code : List Ins) (AR : Option Addr) (nr cr : Nat) (row : List Val) (cols : List Col) (st : Sts) (t : Int) (fl : Option Nat) (F : Int) (W : World)
    (hC : SeesCode W A0 n c code) (hR : SeesVals W AR nr cr row) (hn : n ≤ 1200) (hwf : ∀ x ∈ code, x.val.wf) (hS : Snd code cols st t) (hr : RowOk cols row) (hF : ∀ m : Nat, (m : Int) = F ↔ fl = some m) :
    Calls Tryz.prog 9 #[.slice A0 n c, .slice AR nr cr, .int .i64 F] W (RunRef (runV code row fl 0 [] []) W) := by
  have hcc := hC.2.2.1
  have hcm := hC.2.2.2.1
  unfold maxLen at hcm
  have hrc := hR.2.2.1
  have hrm := hR.2.2.2.1
  unfold maxLen at hrm
  have HLC := Lib.hid hC.1
  have HLR := Lib.hid (show nr = cols.length by rw [← hr.len, hR.1])
  obtain ⟨w0, hw0⟩ : ∃ w0, W.alloc (.cells #[.int .i64 0, .int .i64 0, .string ⟨#[]⟩] 30) = w0 := ⟨_, rfl⟩
  have hb0 : Below W.heap.size W w0 := by rw [← hw0]; exact belowNew _ _
  have ho0 : Own3 w0 W.heap.size noVal := by rw [← hw0]; exact own3_new W noVal
  have hs0 : w0.heap.size = W.heap.size + 1 := by rw [← hw0]; simp
  obtain ⟨br, hbr⟩ : ∃ br, br = W.heap.size := ⟨_, rfl⟩
  rw [← hbr] at ho0
  obtain ⟨H, hH⟩ : ∃ H, H = w0.heap.size := ⟨_, rfl⟩
  obtain ⟨R0, hR0⟩ : ∃ R0, R0 = runV code row fl 0 [] [] := ⟨_, rfl⟩
  rw [← hR0]
  have HRA0 := Lib.hid (show RefAt w0 H (.slice none 0 0) (.slice none 0 0) [] [] from ⟨World.ownsRow_nil _ _ _ _, World.ownsRow_nil _ _ _ _, fun k e => by cases e⟩)
  have HRUN0 := Lib.hid hR0
  have HC := Lib.hid hC
  have HR := Lib.hid hR
  have HWF := Lib.hid hwf
  have HS := Lib.hid hS
  have HRO := Lib.hid hr
  have HFU := Lib.hid hF
  have HB0 := Lib.hid hb0
  have HO0 := Lib.hid ho0
  have HW0 := Lib.hid hw0
  have HBR := Lib.hid hbr
  have HHW := Lib.hid hH
  have HBH := Lib.hid (show br < H by omega)
  clear hC hR hwf hS hr hF hb0 ho0 hw0 hR0 hH hs0
  go_enter Tryz.func9, Tryz.ntmps9
  go_wp2_with (first | rw [HW0.out])
  rw [← HBR.out]
  clear hbr
  go_loopw [9, 10, 11] (fun su du iu wx => ∃ (k : Nat) (done : List Nat) (s : List Val) (l : List Int), k ≤ n ∧ iu = .int .i64 k ∧ R0 = runV code row fl k done s ∧ done.length ≤ k ∧ st.getD k none = some l ∧ StkOk s l ∧ RefAt wx H su du s done ∧ Below H w0 wx) (fun _ _ iu _ => n - (intOf iu).toNat)
  case atStart => exact ⟨0, [], [], [], by omega, rfl, HRUN0.out, by simp, HS.out.start, ⟨by simp, rfl⟩, HRA0.out, Below.refl _ _⟩
  case round =>
    obtain ⟨k, done, s, l, hk, rfl, hrun, hdk, hst, hsk, hra, hbe⟩ := hrel
    obtain ⟨AD, cd, rfl, hsd⟩ := Sees.of_own hra.dn
    obtain ⟨AS, cs, rfl, hss⟩ := Sees.of_own hra.stk
    have hdc := hsd.2.1
    have hdm := hsd.2.2.1
    unfold maxLen at hdm
    have HRUN := Lib.hid hrun
    have HST := Lib.hid hst
    have HSK := Lib.hid hsk
    have HRA := Lib.hid hra
    have HBE := Lib.hid hbe
    have HHR := Lib.hid (show H ≤ wr.heap.size by rw [HHW.out]; exact hbe.size)
    have HBW := Lib.hid (show Below W.heap.size W wr by have h := hbe; rw [HHW.out] at h; exact below_step HB0.out h)
    have HFD := Lib.hid (show ¬ (Value.slice AD done.length cd).ownBlock = some wr.heap.size from fun e => by have := (hra.dn.lt _ e).2; omega)
    have HFS := Lib.hid (show ¬ (Value.slice AS s.length cs).ownBlock = some wr.heap.size from fun e => by have := (hra.stk.lt _ e).2; omega)
    clear hrun hst hsk hra hbe hsd hss
    by_cases hkn : k < n
    · obtain ⟨gC, oC, x, rfl, hg, hx, c0, c1, c2, c3, c4⟩ := (HC.out.keep HBW.out).at_ hkn
      have HX := Lib.hid hx
      obtain ⟨ha, hc', h64⟩ := snd_here HS.out hx HST.out
      have hs64 : s.length ≤ 64 := by have := HSK.out.len; omega
      by_cases hf : (done.length : Int) = F
      · as_aux_lemma =>
        have E := Lib.hid (HRUN.out.trans (runV_out HX.out ((HFU.out _).1 hf)))
        have d0 : ((done.length : Int) == F) = true := beq_iff_eq.2 hf
        have HOR := Lib.hid (HO0.out.keep (show Below w0.heap.size w0 wr by have h := HBE.out; rw [HHW.out] at h; exact h))
        obtain ⟨o0, o1, o2, z0, z1, z2, hlt⟩ := HOR.out.cells
        clear hf hx ha hc' h64
        go_wp2_with fail
        have HOUT := ref_out HRA.out HBW.out HBR.out HBH.out 0 0 ⟨#[]⟩
        have HW4 := own3_set HOR.out 0 0 ⟨#[]⟩
        generalize ((wr.setCell ⟨br, 0, none⟩ (.int .i64 0)).setCell ⟨br, 1, none⟩ (.int .i64 0)).setCell ⟨br, 2, none⟩ (.string ⟨#[]⟩) = w9 at HW4 HOUT ⊢
        clear o0 o1 o2 z0 z1 z2 hlt
        obtain ⟨o0, o1, o2, z0, z1, z2, hlt⟩ := HW4.cells
        unfold RunRef
        rw [E.out]
        exact bodyPost_ret (v := .tuple #[valV noVal, .slice AD done.length cd, .int .i64 10]) (by simp [results, Tryz.results9, go_sem, o0, o1, o2, valV, noVal]) rfl ⟨_, rfl, HOUT.1, HOUT.2⟩
      · have d0 : ((done.length : Int) == F) = false := beq_eq_false_iff_ne.2 hf
        have HNF := Lib.hid (show fl ≠ some done.length from fun e => hf ((HFU.out _).2 e))
        obtain ⟨w1, hw1⟩ : ∃ w1, wr.alloc (.cells #[.int .i64 x.what, .int .i64 x.arg, .int .i64 x.val.type, .int .i64 x.val.n, .string x.val.s] 86) = w1 := ⟨_, rfl⟩
        have hb1 : Below wr.heap.size wr w1 := by rw [← hw1]; exact belowNew _ _
        have hsz1 : wr.heap.size < w1.heap.size := by rw [← hw1]; simp
        have hbi : w1.heap[wr.heap.size]? = some (.cells #[.int .i64 x.what, .int .i64 x.arg, .int .i64 x.val.type, .int .i64 x.val.n, .string x.val.s] 86 (0, 0)) := by have := insBox wr x; rw [hw1] at this; exact this
        have HR1 := Lib.hid (HRA.out.keep hb1)
        have HH1 := Lib.hid (show H ≤ w1.heap.size by have := HHR.out; omega)
        have HBE1 := Lib.hid (HBE.out.trans (hb1.mono HHR.out))
        have HBW1 := Lib.hid (below_step HBW.out hb1)
        have HO1 := Lib.hid (HO0.out.keep (show Below w0.heap.size w0 w1 by have h := HBE1.out; rw [HHW.out] at h; exact h))
        have HONED := Lib.hid (show ∀ u ∈ (#[Value.int .i64 (k : Int)] : Array Value).toList, u.oneCell' = true by intro u hu; simp at hu; subst hu; rfl)
        have HBYD := Lib.hid (show (done.length + 1) * 8 ≤ 140737488355328 by omega)
        have HNX := Lib.hid (fun s' j E => ref_next (s' := s') (j := j) HS.out HRO.out HWF.out HRUN.out HX.out HST.out HSK.out HNF.out E)
        clear hf
        by_cases hw : x.what = 1
        · as_aux_lemma =>
          have q1 : (x.what == 1) = true := beq_iff_eq.2 hw
          have q2 : (x.what == 2) = false := beq_eq_false_iff_ne.2 (by rw [hw]; decide)
          have q3 : (x.what == 3) = false := beq_eq_false_iff_ne.2 (by rw [hw]; decide)
          have q6 : (x.what == 6) = false := beq_eq_false_iff_ne.2 (by rw [hw]; decide)
          have q7 : (x.what == 7) = false := beq_eq_false_iff_ne.2 (by rw [hw]; decide)
          have q5 : (x.what == 5) = false := beq_eq_false_iff_ne.2 (by rw [hw]; decide)
          have q4 : (x.what == 4) = false := beq_eq_false_iff_ne.2 (by rw [hw]; decide)
          have E := Lib.hid (show doP row x s = (0, s ++ [x.val], 0) by unfold doP; rw [if_pos hw])
          obtain ⟨x0, x1, x2, x3, x4⟩ := box5 hbi
          have HONE := Lib.hid (show ∀ u ∈ (#[Value.int .i64 (x.val).type, Value.int .i64 (x.val).n, Value.string (x.val).s] : Array Value).toList, u.oneCell' = true by intro u hu; simp at hu; rcases hu with rfl | rfl | rfl <;> rfl)
          have HBY := Lib.hid (show (s.length + 1) * 32 ≤ 140737488355328 by omega)
          have HV := Lib.hid (valsCells_one_more s x.val)
          have HBI := Lib.hid hbi
          have HSZ1 := Lib.hid hsz1
          have HW1 := Lib.hid hw1
          clear hb1 hbi hw1 ha hc' h64 hx hw
          go_wp2_with (first | rw [HW1.out] | (at_builtin; refine list_append_one stkSlice rfl _ _ rfl rfl rfl HR1.out.stk HH1.out rfl HONE.out HBY.out ?_; intro g cap w5 hown hgr hat; obtain ⟨hra5, hbe5, hy5⟩ := ref_push (s' := s ++ [x.val]) HR1.out (belowNew _ _) (by rw [HV.out] at hown; exact hown) (by simp) hgr (hat.elim Or.inl (fun e => Or.inr (by omega))) HH1.out; have HR5 := Lib.hid hra5; have HBE5 := Lib.hid (HBE1.out.trans hbe5); have HH5 := Lib.hid (Nat.le_trans HH1.out hy5.size); have HLT5 := Lib.hid (Nat.lt_of_lt_of_le HSZ1.out hy5.size); have HBI5 := Lib.hid ((hy5.block wr.heap.size HSZ1.out HFS.out).trans HBI.out); clear hown hgr hat hra5 hbe5 hy5) | (at_builtin; refine list_append_one intSlice rfl _ _ rfl rfl rfl HR5.out.dn HH5.out rfl HONED.out HBYD.out ?_; intro g2 cap2 w6 hown2 hg2 hat2; obtain ⟨hra6, hbe6, hy6⟩ := ref_add HR5.out (belowNew _ _) hown2 rfl hg2 (hat2.elim Or.inl (fun e => Or.inr (by omega))) HH5.out; have HR6 := Lib.hid hra6; have HBE6 := Lib.hid (HBE5.out.trans hbe6); have hbi6 := (hy6.block wr.heap.size HLT5.out HFD.out).trans HBI5.out; obtain ⟨y0, y1, y2, y3, y4⟩ := box5 hbi6; clear hown2 hg2 hat2 hra6 hbe6 hy6 hbi6))
          go_roundw
          case rel =>
            obtain ⟨n1, l', n2, n3, n4⟩ := HNX.out _ _ E.out
            rw [HLC.out] at n4
            exact ⟨k + 1 + 0, done ++ [k], _, l', n4, int_eq (by omega), n1, by rw [List.length_append]; show done.length + 1 ≤ _; omega, n2, n3, HR6.out, HBE6.out⟩
          case measure => simp [intOf]; omega
        have hw1_ := hw
        clear hw
        by_cases hw : x.what = 2
        · as_aux_lemma =>
          have q1 : (x.what == 1) = false := beq_eq_false_iff_ne.2 (by rw [hw]; decide)
          have q2 : (x.what == 2) = true := beq_iff_eq.2 hw
          have q3 : (x.what == 3) = false := beq_eq_false_iff_ne.2 (by rw [hw]; decide)
          have q6 : (x.what == 6) = false := beq_eq_false_iff_ne.2 (by rw [hw]; decide)
          have q7 : (x.what == 7) = false := beq_eq_false_iff_ne.2 (by rw [hw]; decide)
          have q5 : (x.what == 5) = false := beq_eq_false_iff_ne.2 (by rw [hw]; decide)
          have q4 : (x.what == 4) = false := beq_eq_false_iff_ne.2 (by rw [hw]; decide)
          have E := Lib.hid (show doP row x s = (0, s ++ [row.getD x.arg.toNat noVal], 0) by unfold doP; rw [if_neg (by rw [hw]; decide), if_pos hw])
          obtain ⟨x0, x1, x2, x3, x4⟩ := box5 hbi
          have harg : 0 ≤ x.arg ∧ x.arg < nr := by
            have := HLR.out
            unfold argErr at ha
            rw [if_neg (by rw [hw]; decide), if_pos hw] at ha
            by_cases hh : 0 ≤ x.arg ∧ x.arg < cols.length
            · omega
            · rw [if_neg hh] at ha; exact absurd ha (by decide)
          obtain ⟨a, ea⟩ : ∃ a : Nat, x.arg = a := ⟨x.arg.toNat, by omega⟩
          rw [ea, Int.toNat_natCast] at E
          have han : a < nr := by omega
          have han2 : (a : Int) < (nr : Int) := by omega
          obtain ⟨g, o, v, rfl, hg3, hv, z0, z1, z2⟩ := (HR.out.keep HBW1.out).at_ han
          have HV2 := Lib.hid (show row.getD a noVal = v by rw [List.getD_eq_getElem?_getD, hv]; rfl)
          rw [HV2.out] at E
          have HONE := Lib.hid (show ∀ u ∈ (#[Value.int .i64 (v).type, Value.int .i64 (v).n, Value.string (v).s] : Array Value).toList, u.oneCell' = true by intro u hu; simp at hu; rcases hu with rfl | rfl | rfl <;> rfl)
          have HBY := Lib.hid (show (s.length + 1) * 32 ≤ 140737488355328 by omega)
          have HV := Lib.hid (valsCells_one_more s v)
          rw [ea] at x1 c1 hbi hw1
          have HBI := Lib.hid hbi
          have HSZ1 := Lib.hid hsz1
          have HW1 := Lib.hid hw1
          clear hb1 hbi hw1 ha hc' h64 hx hw
          clear ea harg hv
          go_wp2_with (first | rw [HW1.out] | (at_builtin; refine list_append_one stkSlice rfl _ _ rfl rfl rfl HR1.out.stk HH1.out rfl HONE.out HBY.out ?_; intro g cap w5 hown hgr hat; obtain ⟨hra5, hbe5, hy5⟩ := ref_push (s' := s ++ [v]) HR1.out (belowNew _ _) (by rw [HV.out] at hown; exact hown) (by simp) hgr (hat.elim Or.inl (fun e => Or.inr (by omega))) HH1.out; have HR5 := Lib.hid hra5; have HBE5 := Lib.hid (HBE1.out.trans hbe5); have HH5 := Lib.hid (Nat.le_trans HH1.out hy5.size); have HLT5 := Lib.hid (Nat.lt_of_lt_of_le HSZ1.out hy5.size); have HBI5 := Lib.hid ((hy5.block wr.heap.size HSZ1.out HFS.out).trans HBI.out); clear hown hgr hat hra5 hbe5 hy5) | (at_builtin; refine list_append_one intSlice rfl _ _ rfl rfl rfl HR5.out.dn HH5.out rfl HONED.out HBYD.out ?_; intro g2 cap2 w6 hown2 hg2 hat2; obtain ⟨hra6, hbe6, hy6⟩ := ref_add HR5.out (belowNew _ _) hown2 rfl hg2 (hat2.elim Or.inl (fun e => Or.inr (by omega))) HH5.out; have HR6 := Lib.hid hra6; have HBE6 := Lib.hid (HBE5.out.trans hbe6); have hbi6 := (hy6.block wr.heap.size HLT5.out HFD.out).trans HBI5.out; obtain ⟨y0, y1, y2, y3, y4⟩ := box5 hbi6; clear hown2 hg2 hat2 hra6 hbe6 hy6 hbi6))
          go_roundw
          case rel =>
            obtain ⟨n1, l', n2, n3, n4⟩ := HNX.out _ _ E.out
            rw [HLC.out] at n4
            exact ⟨k + 1 + 0, done ++ [k], _, l', n4, int_eq (by omega), n1, by rw [List.length_append]; show done.length + 1 ≤ _; omega, n2, n3, HR6.out, HBE6.out⟩
          case measure => simp [intOf]; omega
        have hw2_ := hw
        clear hw
        by_cases hw : x.what = 3
        · as_aux_lemma =>
          have q1 : (x.what == 1) = false := beq_eq_false_iff_ne.2 (by rw [hw]; decide)
          have q2 : (x.what == 2) = false := beq_eq_false_iff_ne.2 (by rw [hw]; decide)
          have q3 : (x.what == 3) = true := beq_iff_eq.2 hw
          have q6 : (x.what == 6) = false := beq_eq_false_iff_ne.2 (by rw [hw]; decide)
          have q7 : (x.what == 7) = false := beq_eq_false_iff_ne.2 (by rw [hw]; decide)
          have q5 : (x.what == 5) = false := beq_eq_false_iff_ne.2 (by rw [hw]; decide)
          have q4 : (x.what == 4) = false := beq_eq_false_iff_ne.2 (by rw [hw]; decide)
          obtain ⟨x0, x1, x2, x3, x4⟩ := box5 hbi
          obtain ⟨ho, hne, hfit⟩ := snd_op hw HSK.out ha hc'
          obtain ⟨kk, hk1, hk2⟩ : ∃ kk : Nat, (kk = 1 ∨ kk = 2) ∧ arityOf (opNm x.arg) = kk := by
            rcases op_arity ho with e | e
            · exact ⟨1, Or.inl rfl, e⟩
            · exact ⟨2, Or.inr rfl, e⟩
          have hkk : need x = kk := by unfold need; rw [if_pos hw, hk2]; exact Int.toNat_natCast kk
          have hisop := opNm_isOp ho
          have E0 := Lib.hid (fun h0 => show doP row x s = (0, s.take (s.length - need x) ++ [applyVal (opNm x.arg) (s.drop (s.length - need x))], 0) by
            unfold doP; rw [if_neg (by rw [hw]; decide), if_neg (by rw [hw]; decide), if_pos hw, if_neg (show ¬ applyErr (opNm x.arg) (s.drop (s.length - need x)) ≠ 0 from fun h => h h0)])
          have E1 := Lib.hid (fun h0 => show doP row x s = (applyErr (opNm x.arg) (s.drop (s.length - need x)), s, 0) by
            unfold doP; rw [if_neg (by rw [hw]; decide), if_neg (by rw [hw]; decide), if_pos hw, if_pos h0])
          have hr := HSK.out.1
          obtain ⟨g, cc, j, eS, hl, hmc, hcx⟩ := ref_shape (k := kk) HR1.out (by omega) (by omega)
          obtain ⟨m, hm⟩ : ∃ m, j + kk = m := ⟨_, rfl⟩
          rw [hm] at eS hl hmc
          injection eS with e1 e2 e3
          subst e1 e3
          rw [hl] at HR1 HRA HFS ⊢
          have hj : s.length - need x = j := by omega
          rw [hj] at E0 E1 hfit
          have HM := Lib.hid hm
          have HL := Lib.hid hl
          have TO := Lib.hid (rop_any x.arg w1)
          have TA := Lib.hid (fun w' => rarity_any (opNm x.arg) w')
          rw [hk2] at TA
          have TD := Lib.hid (fun w' (hb : Below w1.heap.size w1 w') => rdo_any (opNm x.arg) (s.drop j) (some ⟨g, j * 3, none⟩) kk (cs - j) w' ((ref_drop HR1.out HM.out HL.out).keep hb) hisop (by rw [hk2, List.length_drop]; omega) (fun v hv => (hr v (List.mem_of_mem_drop hv)).1) (fun v hv => (hr v (List.mem_of_mem_drop hv)).2) hfit)
          have HBAD := Lib.hid (runV_bad (row := row) (s := s) HX.out HNF.out)
          obtain ⟨nm, hnm⟩ : ∃ nm, opNm x.arg = nm := ⟨_, rfl⟩
          rw [hnm] at E0 E1 TO TA TD
          obtain ⟨av, hav⟩ : ∃ av, applyVal nm (s.drop j) = av := ⟨_, rfl⟩
          obtain ⟨ae, hae⟩ : ∃ ae, applyErr nm (s.drop j) = ae := ⟨_, rfl⟩
          rw [hav, hae] at TD
          rw [hae] at E1
          rw [hav, hae] at E0
          have HRC := Lib.hid (ref_cut HR1.out hm hl)
          have ej : (m : Int) - kk = j := by omega
          have ejk : m - j = kk := by omega
          have hjm : j ≤ m := by omega
          have hjc : ¬ cs = j := by omega
          have hjc2 : ¬ j = cs := by omega
          have hjc3 : j ≤ cs := by omega
          have hwr1 : IntKind.i64.wrap ((m : Int) - kk) = (j : Int) := by rw [ej]; exact IntWalk.i64_in (j : Int) (by omega)
          have hwr2 : IntKind.i64.wrap (j : Int) = (j : Int) := IntWalk.i64_in (j : Int) (by omega)
          have hj0 : (j : Int) ≤ (cs : Int) := by omega
          have HTL := Lib.hid (show (s.take j).length = j by rw [List.length_take]; omega)
          have HBY := Lib.hid (show ((s.take j).length + 1) * 32 ≤ 140737488355328 by rw [HTL.out]; omega)
          have HBI := Lib.hid hbi
          have HSZ1 := Lib.hid hsz1
          have HW1 := Lib.hid hw1
          clear hb1 hbi hw1 ha hc' h64 hx hw
          clear hm hl ho hne hfit hk1 hk2 hkk hisop hr hj hnm hav hae
          go_wp2_with (first | rw [HW1.out])
          refine (TO.out).mono ?_
          rintro e w2 ⟨rfl, hb2⟩
          have HB2 := Lib.hid hb2
          clear hb2 x0 x1 x2 x3 x4
          go_wp2_with fail
          refine (TA.out w2).mono ?_
          rintro e w3 ⟨rfl, hb3⟩
          have HB3 := Lib.hid (below_step HB2.out hb3)
          clear hb3
          go_wp2_with fail
          refine (TD.out w3 HB3.out).mono ?_
          rintro e w4 ⟨rfl, hb4⟩
          have HB4 := Lib.hid (below_step HB3.out hb4)
          clear hb4
          unfold valV
          obtain ⟨w5, hw5⟩ : ∃ w5, w4.alloc (.cells #[.int .i64 av.type, .int .i64 av.n, .string av.s] 30) = w5 := ⟨_, rfl⟩
          have hb5 : Below w1.heap.size w1 w5 := by rw [← hw5]; exact below_step HB4.out (belowNew _ _)
          have hbx5 := heap_alloc_new w4 (.cells #[.int .i64 av.type, .int .i64 av.n, .string av.s] 30)
          rw [hw5] at hbx5
          obtain ⟨v0, v1, v2⟩ := box3 hbx5
          have HBI5 := Lib.hid ((hb5.block wr.heap.size HSZ1.out).trans HBI.out)
          obtain ⟨x0, x1, x2, x3, x4⟩ := box5 HBI5.out
          have HSZ5 := Lib.hid (show wr.heap.size < w5.heap.size from Nat.lt_of_lt_of_le HSZ1.out hb5.size)
          have HH5 := Lib.hid (Nat.le_trans HH1.out hb5.size)
          have HR5 := Lib.hid (HRC.out.keep hb5)
          have HRA5 := Lib.hid (HR1.out.keep hb5)
          have HBE5 := Lib.hid (HBE1.out.trans (hb5.mono HH1.out))
          have HBW5 := Lib.hid (below_step HBW1.out hb5)
          have HO5 := Lib.hid (HO1.out.keep hb5)
          have HW5 := Lib.hid hw5
          clear hw5 hb5 hbx5
          by_cases h0 : ae = 0
          · have E := Lib.hid (E0.out h0)
            rw [h0]
            clear E0 E1 h0
            have HONE := Lib.hid (show ∀ u ∈ (#[Value.int .i64 av.type, Value.int .i64 av.n, Value.string av.s] : Array Value).toList, u.oneCell' = true by intro u hu; simp at hu; rcases hu with rfl | rfl | rfl <;> rfl)
            have HV := Lib.hid (valsCells_one_more (s.take j) av)
            go_wp2_with (first | rw [HW5.out])
            go_region_law (refine step_append_one stkSlice rfl (.tmp 87) (.tmp 89) rfl (by simp [Act.eval]) (by simp [Act.eval]; rfl) HR5.out.stk HH5.out rfl HONE.out HBY.out ?_; intro g7 cap w7 hown hgr hat; obtain ⟨hra7, hbe7, hy7⟩ := ref_push (s' := s.take j ++ [av]) HR5.out ((belowNew _ _).drew) (by rw [HV.out] at hown; exact hown) (by simp) hgr (hat.elim Or.inl (fun e => Or.inr (by omega))) HH5.out; have HR7 := Lib.hid hra7; have HBE7 := Lib.hid (HBE5.out.trans hbe7); have HH7 := Lib.hid (Nat.le_trans HH5.out hy7.size); have HLT7 := Lib.hid (Nat.lt_of_lt_of_le HSZ5.out hy7.size); have HBI7 := Lib.hid ((hy7.block wr.heap.size HSZ5.out HFS.out).trans HBI5.out); clear hown hgr hat hra7 hbe7 hy7)
            all_goals
              go_wp2_with (first | (at_builtin; refine list_append_one intSlice rfl _ _ rfl rfl rfl HR7.out.dn HH7.out rfl HONED.out HBYD.out ?_; intro g2 cap2 w6 hown2 hg2 hat2; obtain ⟨hra6, hbe6, hy6⟩ := ref_add HR7.out (belowNew _ _) hown2 rfl hg2 (hat2.elim Or.inl (fun e => Or.inr (by omega))) HH7.out; have HR6 := Lib.hid hra6; have HBE6 := Lib.hid (HBE7.out.trans hbe6); have hbi6 := (hy6.block wr.heap.size HLT7.out HFD.out).trans HBI7.out; obtain ⟨y0, y1, y2, y3, y4⟩ := box5 hbi6; clear hown2 hg2 hat2 hra6 hbe6 hy6 hbi6))
              go_roundw
              case rel =>
                obtain ⟨n1, l', n2, n3, n4⟩ := HNX.out _ _ E.out
                rw [HLC.out] at n4
                exact ⟨k + 1 + 0, done ++ [k], _, l', n4, int_eq (by omega), n1, by rw [List.length_append]; show done.length + 1 ≤ _; omega, n2, n3, (by have h := HR6.out; rw [HTL.out] at h; exact h), HBE6.out⟩
              case measure => simp [intOf]; omega
          · have E := Lib.hid (show R0 = ⟨ae, done, noVal⟩ by
              have h1 := E1.out h0
              rw [HRUN.out, HBAD.out (by rw [h1]; exact h0), h1])
            have e1 : (ae != 0) = true := by simpa using h0
            clear E0 E1 h0 x0 x1 x2 x3 x4
            obtain ⟨o0, o1, o2, z0, z1, z2, hlt⟩ := HO5.out.cells
            go_wp2_with (first | rw [HW5.out])
            have HOUT := ref_out HRA5.out HBW5.out HBR.out HBH.out 0 0 ⟨#[]⟩
            have HW4 := own3_set HO5.out 0 0 ⟨#[]⟩
            generalize ((w5.setCell ⟨br, 0, none⟩ (.int .i64 0)).setCell ⟨br, 1, none⟩ (.int .i64 0)).setCell ⟨br, 2, none⟩ (.string ⟨#[]⟩) = w9 at HW4 HOUT ⊢
            clear o0 o1 o2 z0 z1 z2 hlt
            obtain ⟨o0, o1, o2, z0, z1, z2, hlt⟩ := HW4.cells
            unfold RunRef
            rw [E.out]
            exact bodyPost_ret (v := .tuple #[valV noVal, .slice AD done.length cd, .int .i64 ae]) (by simp [results, Tryz.results9, go_sem, o0, o1, o2, valV, noVal]) rfl ⟨_, rfl, HOUT.1, HOUT.2⟩
        have hw3_ := hw
        clear hw
        by_cases hw : x.what = 4
        · as_aux_lemma =>
          have q1 : (x.what == 1) = false := beq_eq_false_iff_ne.2 (by rw [hw]; decide)
          have q2 : (x.what == 2) = false := beq_eq_false_iff_ne.2 (by rw [hw]; decide)
          have q3 : (x.what == 3) = false := beq_eq_false_iff_ne.2 (by rw [hw]; decide)
          have q6 : (x.what == 6) = false := beq_eq_false_iff_ne.2 (by rw [hw]; decide)
          have q7 : (x.what == 7) = false := beq_eq_false_iff_ne.2 (by rw [hw]; decide)
          have q5 : (x.what == 5) = false := beq_eq_false_iff_ne.2 (by rw [hw]; decide)
          have q4 : (x.what == 4) = true := beq_iff_eq.2 hw
          have E := Lib.hid (show doP row x s = (0, s, x.arg.toNat) by unfold doP; rw [if_neg (by rw [hw]; decide), if_neg (by rw [hw]; decide), if_neg (by rw [hw]; decide), if_pos hw])
          obtain ⟨x0, x1, x2, x3, x4⟩ := box5 hbi
          obtain ⟨a, ea, hia⟩ := arg_jump ha (Or.inl hw)
          rw [ea, Int.toNat_natCast] at E
          have hia2 : k + 1 + a ≤ n := by have := HLC.out; omega
          rw [ea] at x1 c1 hbi hw1
          have HBI := Lib.hid hbi
          have HSZ1 := Lib.hid hsz1
          have HW1 := Lib.hid hw1
          clear hb1 hbi hw1 ha hc' h64 hx hw
          clear ea hia
          go_wp2_with (first | rw [HW1.out] | (at_builtin; refine list_append_one intSlice rfl _ _ rfl rfl rfl HR1.out.dn HH1.out rfl HONED.out HBYD.out ?_; intro g2 cap2 w6 hown2 hg2 hat2; obtain ⟨hra6, hbe6, hy6⟩ := ref_add HR1.out (belowNew _ _) hown2 rfl hg2 (hat2.elim Or.inl (fun e => Or.inr (by omega))) HH1.out; have HR6 := Lib.hid hra6; have HBE6 := Lib.hid (HBE1.out.trans hbe6); have hbi6 := (hy6.block wr.heap.size HSZ1.out HFD.out).trans HBI.out; obtain ⟨y0, y1, y2, y3, y4⟩ := box5 hbi6; clear hown2 hg2 hat2 hra6 hbe6 hy6 hbi6))
          go_roundw
          case rel =>
            obtain ⟨n1, l', n2, n3, n4⟩ := HNX.out _ _ E.out
            rw [HLC.out] at n4
            exact ⟨k + 1 + a, done ++ [k], _, l', n4, int_eq (by omega), n1, by rw [List.length_append]; show done.length + 1 ≤ _; omega, n2, n3, HR6.out, HBE6.out⟩
          case measure => simp [intOf]; omega
        have hw4_ := hw
        clear hw
        by_cases hw : x.what = 5
        · as_aux_lemma =>
          have q1 : (x.what == 1) = false := beq_eq_false_iff_ne.2 (by rw [hw]; decide)
          have q2 : (x.what == 2) = false := beq_eq_false_iff_ne.2 (by rw [hw]; decide)
          have q3 : (x.what == 3) = false := beq_eq_false_iff_ne.2 (by rw [hw]; decide)
          have q6 : (x.what == 6) = false := beq_eq_false_iff_ne.2 (by rw [hw]; decide)
          have q7 : (x.what == 7) = false := beq_eq_false_iff_ne.2 (by rw [hw]; decide)
          have q5 : (x.what == 5) = true := beq_iff_eq.2 hw
          have q4 : (x.what == 4) = false := beq_eq_false_iff_ne.2 (by rw [hw]; decide)
          have E := Lib.hid (show doP row x s = (0, s.take (s.length - 1), if (topV s).n = 0 then x.arg.toNat else 0) by unfold doP; rw [if_neg (by rw [hw]; decide), if_neg (by rw [hw]; decide), if_neg (by rw [hw]; decide), if_neg (by rw [hw]; decide), if_pos hw])
          obtain ⟨x0, x1, x2, x3, x4⟩ := box5 hbi
          have h1 : 1 ≤ s.length := by
            have h2 := (actP_parts hc').1
            have h3 : need x = 1 := by unfold need; rw [if_neg (by rw [hw]; decide), if_pos (Or.inl hw)]
            have := HSK.out.len
            omega
          obtain ⟨g, cc, j, eS, hl, hmc, hcx⟩ := ref_shape (k := 1) HR1.out h1 (by decide)
          obtain ⟨m, hm⟩ : ∃ m, j + 1 = m := ⟨_, rfl⟩
          rw [hm] at eS hl hmc
          injection eS with e1 e2 e3
          subst e1 e3
          rw [hl] at HR1 HRA HFS ⊢
          have hj : s.length - 1 = j := by omega
          obtain ⟨a, ea, hia⟩ := arg_jump ha (Or.inr hw)
          rw [ea, Int.toNat_natCast, hj] at E
          have hia2 : k + 1 + a ≤ n := by have := HLC.out; omega
          rw [ea] at x1 c1 hbi hw1
          have HM := Lib.hid hm
          have HL := Lib.hid hl
          have ej : (m : Int) - 1 = j := by omega
          have hjm : j ≤ m := by omega
          have hj1 : j < m := by omega
          have hj2 : (j : Int) < (m : Int) := by omega
          have hjc3 : j ≤ cs := by omega
          have hwr1 : IntKind.i64.wrap ((m : Int) - 1) = (j : Int) := by rw [ej]; exact IntWalk.i64_in (j : Int) (by omega)
          have HBI := Lib.hid hbi
          have HSZ1 := Lib.hid hsz1
          have HW1 := Lib.hid hw1
          clear hb1 hbi hw1 ha hc' h64 hx hw
          clear ea hia h1 hm hl hj
          by_cases hz : (topV s).n = 0
          · have e0 : ((topV s).n == 0) = true := beq_iff_eq.2 hz
            rw [if_pos hz] at E
            clear hz
            go_wp2_with (first | rw [HW1.out] | rw [HW7.out] | (at_builtin; refine list_append_one intSlice rfl _ _ rfl rfl rfl HR1.out.dn HH1.out rfl HONED.out HBYD.out ?_; intro g2 cap2 w6 hown2 hg2 hat2; obtain ⟨hra6, hbe6, hy6⟩ := ref_add HR1.out (belowNew _ _) hown2 rfl hg2 (hat2.elim Or.inl (fun e => Or.inr (by omega))) HH1.out; have HR6 := Lib.hid hra6; have HBE6 := Lib.hid (HBE1.out.trans hbe6); have hbi6 := (hy6.block wr.heap.size HSZ1.out HFD.out).trans HBI.out; obtain ⟨y0, y1, y2, y3, y4⟩ := box5 hbi6; obtain ⟨hgt, z0, z1, z2⟩ := ref_top HR6.out HM.out HL.out; obtain ⟨w7, hw7⟩ : ∃ w7, w6.alloc (.cells #[.int .i64 (topV s).type, .int .i64 (topV s).n, .string (topV s).s] 30) = w7 := ⟨_, rfl⟩; have hb7 : Below w6.heap.size w6 w7 := (by rw [← hw7]; exact belowNew _ _); have hbx7 := heap_alloc_new w6 (.cells #[.int .i64 (topV s).type, .int .i64 (topV s).n, .string (topV s).s] 30); rw [hw7] at hbx7; obtain ⟨v0, v1, v2⟩ := box3 hbx7; have HR8 := Lib.hid (ref_cut (HR6.out.keep hb7) HM.out HL.out); have HBE8 := Lib.hid (HBE6.out.trans (hb7.mono (show H ≤ w6.heap.size from Nat.le_trans HH1.out hy6.size))); obtain ⟨u0, u1, u2, u3, u4⟩ := box5 ((hb7.block wr.heap.size (Nat.lt_of_lt_of_le HSZ1.out hy6.size)).trans hbi6); have HW7 := Lib.hid hw7; clear hb7 hbx7 hw7; clear hown2 hg2 hat2 hra6 hbe6 hy6 hbi6))
            go_roundw
            case rel =>
              obtain ⟨n1, l', n2, n3, n4⟩ := HNX.out _ _ E.out
              rw [HLC.out] at n4
              exact ⟨k + 1 + a, done ++ [k], _, l', n4, int_eq (by omega), n1, by rw [List.length_append]; show done.length + 1 ≤ _; omega, n2, n3, HR8.out, HBE8.out⟩
            case measure => simp [intOf]; omega
          · have e0 : ((topV s).n == 0) = false := beq_eq_false_iff_ne.2 hz
            rw [if_neg hz] at E
            clear hz
            go_wp2_with (first | rw [HW1.out] | rw [HW7.out] | (at_builtin; refine list_append_one intSlice rfl _ _ rfl rfl rfl HR1.out.dn HH1.out rfl HONED.out HBYD.out ?_; intro g2 cap2 w6 hown2 hg2 hat2; obtain ⟨hra6, hbe6, hy6⟩ := ref_add HR1.out (belowNew _ _) hown2 rfl hg2 (hat2.elim Or.inl (fun e => Or.inr (by omega))) HH1.out; have HR6 := Lib.hid hra6; have HBE6 := Lib.hid (HBE1.out.trans hbe6); have hbi6 := (hy6.block wr.heap.size HSZ1.out HFD.out).trans HBI.out; obtain ⟨y0, y1, y2, y3, y4⟩ := box5 hbi6; obtain ⟨hgt, z0, z1, z2⟩ := ref_top HR6.out HM.out HL.out; obtain ⟨w7, hw7⟩ : ∃ w7, w6.alloc (.cells #[.int .i64 (topV s).type, .int .i64 (topV s).n, .string (topV s).s] 30) = w7 := ⟨_, rfl⟩; have hb7 : Below w6.heap.size w6 w7 := (by rw [← hw7]; exact belowNew _ _); have hbx7 := heap_alloc_new w6 (.cells #[.int .i64 (topV s).type, .int .i64 (topV s).n, .string (topV s).s] 30); rw [hw7] at hbx7; obtain ⟨v0, v1, v2⟩ := box3 hbx7; have HR8 := Lib.hid (ref_cut (HR6.out.keep hb7) HM.out HL.out); have HBE8 := Lib.hid (HBE6.out.trans (hb7.mono (show H ≤ w6.heap.size from Nat.le_trans HH1.out hy6.size))); obtain ⟨u0, u1, u2, u3, u4⟩ := box5 ((hb7.block wr.heap.size (Nat.lt_of_lt_of_le HSZ1.out hy6.size)).trans hbi6); have HW7 := Lib.hid hw7; clear hb7 hbx7 hw7; clear hown2 hg2 hat2 hra6 hbe6 hy6 hbi6))
            go_roundw
            case rel =>
              obtain ⟨n1, l', n2, n3, n4⟩ := HNX.out _ _ E.out
              rw [HLC.out] at n4
              exact ⟨k + 1 + 0, done ++ [k], _, l', n4, int_eq (by omega), n1, by rw [List.length_append]; show done.length + 1 ≤ _; omega, n2, n3, HR8.out, HBE8.out⟩
            case measure => simp [intOf]; omega
        have hw5_ := hw
        clear hw
        by_cases hw : x.what = 6
        · as_aux_lemma =>
          have q1 : (x.what == 1) = false := beq_eq_false_iff_ne.2 (by rw [hw]; decide)
          have q2 : (x.what == 2) = false := beq_eq_false_iff_ne.2 (by rw [hw]; decide)
          have q3 : (x.what == 3) = false := beq_eq_false_iff_ne.2 (by rw [hw]; decide)
          have q6 : (x.what == 6) = true := beq_iff_eq.2 hw
          have q7 : (x.what == 7) = false := beq_eq_false_iff_ne.2 (by rw [hw]; decide)
          have q5 : (x.what == 5) = false := beq_eq_false_iff_ne.2 (by rw [hw]; decide)
          have q4 : (x.what == 4) = false := beq_eq_false_iff_ne.2 (by rw [hw]; decide)
          have E := Lib.hid (show doP row x s = (0, s ++ [topV s], 0) by unfold doP; rw [if_neg (by rw [hw]; decide), if_neg (by rw [hw]; decide), if_neg (by rw [hw]; decide), if_neg (by rw [hw]; decide), if_neg (by rw [hw]; decide), if_pos hw])
          obtain ⟨x0, x1, x2, x3, x4⟩ := box5 hbi
          have h1 : 1 ≤ s.length := by
            have h2 := (actP_parts hc').1
            have h3 : need x = 1 := by unfold need; rw [if_neg (by rw [hw]; decide), if_pos (Or.inr (Or.inl hw))]
            have := HSK.out.len
            omega
          obtain ⟨g, cc, j, eS, hl, hmc, hcx⟩ := ref_shape (k := 1) HR1.out h1 (by decide)
          obtain ⟨m, hm⟩ : ∃ m, j + 1 = m := ⟨_, rfl⟩
          rw [hm] at eS hl hmc
          injection eS with e1 e2 e3
          subst e1 e3
          rw [hl] at HR1 HRA HFS ⊢
          have HM := Lib.hid hm
          have HL := Lib.hid hl
          have ej : (m : Int) - 1 = j := by omega
          have hjm : j ≤ m := by omega
          have hj1 : j < m := by omega
          have hj2 : (j : Int) < (m : Int) := by omega
          have hjc3 : j ≤ cs := by omega
          have hwr1 : IntKind.i64.wrap ((m : Int) - 1) = (j : Int) := by rw [ej]; exact IntWalk.i64_in (j : Int) (by omega)
          obtain ⟨hgt, z0, z1, z2⟩ := ref_top HR1.out HM.out HL.out
          obtain ⟨w7, hw7⟩ : ∃ w7, w1.alloc (.cells #[.int .i64 (topV s).type, .int .i64 (topV s).n, .string (topV s).s] 30) = w7 := ⟨_, rfl⟩
          have hb7 : Below w1.heap.size w1 w7 := (by rw [← hw7]; exact belowNew _ _)
          have hbx7 := heap_alloc_new w1 (.cells #[.int .i64 (topV s).type, .int .i64 (topV s).n, .string (topV s).s] 30)
          rw [hw7] at hbx7
          obtain ⟨v0, v1, v2⟩ := box3 hbx7

          have HR7 := Lib.hid (HR1.out.keep hb7)
          have HH7 := Lib.hid (Nat.le_trans HH1.out hb7.size)
          have HBE7 := Lib.hid (HBE1.out.trans (hb7.mono HH1.out))
          have HBI7 := Lib.hid ((hb7.block wr.heap.size hsz1).trans hbi)
          have HSZ7 := Lib.hid (Nat.lt_of_lt_of_le hsz1 hb7.size)
          have HW7 := Lib.hid hw7
          obtain ⟨u0, u1, u2, u3, u4⟩ := box5 HBI7.out
          have HONE := Lib.hid (show ∀ u ∈ (#[Value.int .i64 (topV s).type, Value.int .i64 (topV s).n, Value.string (topV s).s] : Array Value).toList, u.oneCell' = true by intro u hu; simp at hu; rcases hu with rfl | rfl | rfl <;> rfl)
          have HBY := Lib.hid (show (m + 1) * 32 ≤ 140737488355328 by omega)
          have HV := Lib.hid (valsCells_one_more s (topV s))
          have HSL := Lib.hid (show RefAt w7 H (.slice (some ⟨g, 0, none⟩) m cs) (.slice AD done.length cd) s done from HR7.out)
          have HSTK := Lib.hid (show w7.ownsRow H 30 3 (.slice (some ⟨g, 0, none⟩) m cs) m (valsCells s) by have := HR7.out.stk; rwa [hl] at this)
          have HBI := Lib.hid hbi
          have HSZ1 := Lib.hid hsz1
          have HW1 := Lib.hid hw1
          clear hb1 hbi hw1 ha hc' h64 hx hw
          clear h1 hm hl hbx7 hw7 hb7
          go_wp2_with (first | rw [HW1.out] | rw [HW7.out] | (at_builtin; refine list_append_one stkSlice rfl _ _ rfl rfl rfl HSTK.out HH7.out rfl HONE.out HBY.out ?_; intro g cap w5 hown hgr hat; obtain ⟨hra5, hbe5, hy5⟩ := ref_push (s' := s ++ [topV s]) HR7.out (belowNew _ _) (by rw [HV.out] at hown; exact hown) (by simp [HL.out]) hgr (hat.elim Or.inl (fun e => Or.inr (by omega))) HH7.out; have HR5 := Lib.hid hra5; have HBE5 := Lib.hid (HBE7.out.trans hbe5); have HH5 := Lib.hid (Nat.le_trans HH7.out hy5.size); have HLT5 := Lib.hid (Nat.lt_of_lt_of_le HSZ7.out hy5.size); have HBI5 := Lib.hid ((hy5.block wr.heap.size HSZ7.out HFS.out).trans HBI7.out); clear hown hgr hat hra5 hbe5 hy5) | (at_builtin; refine list_append_one intSlice rfl _ _ rfl rfl rfl HR5.out.dn HH5.out rfl HONED.out HBYD.out ?_; intro g2 cap2 w6 hown2 hg2 hat2; obtain ⟨hra6, hbe6, hy6⟩ := ref_add HR5.out (belowNew _ _) hown2 rfl hg2 (hat2.elim Or.inl (fun e => Or.inr (by omega))) HH5.out; have HR6 := Lib.hid hra6; have HBE6 := Lib.hid (HBE5.out.trans hbe6); have hbi6 := (hy6.block wr.heap.size HLT5.out HFD.out).trans HBI5.out; obtain ⟨y0, y1, y2, y3, y4⟩ := box5 hbi6; clear hown2 hg2 hat2 hra6 hbe6 hy6 hbi6))
          go_roundw
          case rel =>
            obtain ⟨n1, l', n2, n3, n4⟩ := HNX.out _ _ E.out
            rw [HLC.out] at n4
            exact ⟨k + 1 + 0, done ++ [k], _, l', n4, int_eq (by omega), n1, by rw [List.length_append]; show done.length + 1 ≤ _; omega, n2, n3, HR6.out, HBE6.out⟩
          case measure => simp [intOf]; omega
        have hw6_ := hw
        clear hw
        by_cases hw : x.what = 7
        · as_aux_lemma =>
          have q1 : (x.what == 1) = false := beq_eq_false_iff_ne.2 (by rw [hw]; decide)
          have q2 : (x.what == 2) = false := beq_eq_false_iff_ne.2 (by rw [hw]; decide)
          have q3 : (x.what == 3) = false := beq_eq_false_iff_ne.2 (by rw [hw]; decide)
          have q6 : (x.what == 6) = false := beq_eq_false_iff_ne.2 (by rw [hw]; decide)
          have q7 : (x.what == 7) = true := beq_iff_eq.2 hw
          have q5 : (x.what == 5) = false := beq_eq_false_iff_ne.2 (by rw [hw]; decide)
          have q4 : (x.what == 4) = false := beq_eq_false_iff_ne.2 (by rw [hw]; decide)
          have E := Lib.hid (show doP row x s = (0, s.take (s.length - 1), 0) by unfold doP; rw [if_neg (by rw [hw]; decide), if_neg (by rw [hw]; decide), if_neg (by rw [hw]; decide), if_neg (by rw [hw]; decide), if_neg (by rw [hw]; decide), if_neg (by rw [hw]; decide), if_pos hw])
          obtain ⟨x0, x1, x2, x3, x4⟩ := box5 hbi
          have h1 : 1 ≤ s.length := by
            have h2 := (actP_parts hc').1
            have h3 : need x = 1 := by unfold need; rw [if_neg (by rw [hw]; decide), if_pos (Or.inr (Or.inr hw))]
            have := HSK.out.len
            omega
          obtain ⟨g, cc, j, eS, hl, hmc, hcx⟩ := ref_shape (k := 1) HR1.out h1 (by decide)
          obtain ⟨m, hm⟩ : ∃ m, j + 1 = m := ⟨_, rfl⟩
          rw [hm] at eS hl hmc
          injection eS with e1 e2 e3
          subst e1 e3
          rw [hl] at HR1 HRA HFS ⊢
          have hj : s.length - 1 = j := by omega
          rw [hj] at E
          have HM := Lib.hid hm
          have HL := Lib.hid hl
          have ej : (m : Int) - 1 = j := by omega
          have hjm : j ≤ m := by omega
          have hj1 : j < m := by omega
          have hj2 : (j : Int) < (m : Int) := by omega
          have hjc3 : j ≤ cs := by omega
          have hwr1 : IntKind.i64.wrap ((m : Int) - 1) = (j : Int) := by rw [ej]; exact IntWalk.i64_in (j : Int) (by omega)
          have HRC := Lib.hid (ref_cut HR1.out hm hl)
          have HBI := Lib.hid hbi
          have HSZ1 := Lib.hid hsz1
          have HW1 := Lib.hid hw1
          clear hb1 hbi hw1 ha hc' h64 hx hw
          clear h1 hm hl hj
          go_wp2_with (first | rw [HW1.out] | (at_builtin; refine list_append_one intSlice rfl _ _ rfl rfl rfl HRC.out.dn HH1.out rfl HONED.out HBYD.out ?_; intro g2 cap2 w6 hown2 hg2 hat2; obtain ⟨hra6, hbe6, hy6⟩ := ref_add HRC.out (belowNew _ _) hown2 rfl hg2 (hat2.elim Or.inl (fun e => Or.inr (by omega))) HH1.out; have HR6 := Lib.hid hra6; have HBE6 := Lib.hid (HBE1.out.trans hbe6); have hbi6 := (hy6.block wr.heap.size HSZ1.out HFD.out).trans HBI.out; obtain ⟨y0, y1, y2, y3, y4⟩ := box5 hbi6; clear hown2 hg2 hat2 hra6 hbe6 hy6 hbi6))
          go_roundw
          case rel =>
            obtain ⟨n1, l', n2, n3, n4⟩ := HNX.out _ _ E.out
            rw [HLC.out] at n4
            exact ⟨k + 1 + 0, done ++ [k], _, l', n4, int_eq (by omega), n1, by rw [List.length_append]; show done.length + 1 ≤ _; omega, n2, n3, HR6.out, HBE6.out⟩
          case measure => simp [intOf]; omega
        have hw7_ := hw
        clear hw
        exfalso
        unfold argErr at ha
        rw [if_neg hw1_, if_neg hw2_, if_neg hw3_, if_neg (by omega), if_neg (by omega)] at ha
        exact absurd ha (by decide)
    · obtain rfl : k = n := by omega
      have E := Lib.hid (HRUN.out.trans (runV_end (by rw [HLC.out]; exact Nat.le_refl _)))
      have hsl : s.length = 1 := by
        have h1 := HSK.out.len
        have h2 := HS.out.stop
        rw [HLC.out, HST.out] at h2
        injection h2 with h2
        rw [h1, h2]; rfl
      obtain ⟨v, rfl⟩ : ∃ v, s = [v] := by
        match s, hsl with
        | [v], _ => exact ⟨v, rfl⟩
      obtain ⟨g, cc, j, eS, hl, hmc, hcx⟩ := ref_shape (k := 1) HRA.out (by simp) (by decide)
      obtain rfl : j = 0 := by simp at hl; omega
      injection eS with e1 e2 e3
      subst e1 e3
      obtain ⟨hgt, y0, y1, y2⟩ := ref_top (j := 0) HRA.out rfl rfl
      simp only [Nat.zero_mul, Nat.zero_add, show topV [v] = v from rfl] at y0 y1 y2
      have HOR := Lib.hid (HO0.out.keep (show Below w0.heap.size w0 wr by have h := HBE.out; rw [HHW.out] at h; exact h))
      have hgb : g ≠ br := by have := (HRA.out.stk.lt g rfl).1; have := HBH.out; omega
      obtain ⟨o0, o1, o2, z0, z1, z2, hlt⟩ := HOR.out.cells
      clear hsl hl e2
      go_wp2_with fail
      have HOUT := ref_out HRA.out HBW.out HBR.out HBH.out v.type v.n v.s
      have HW4 := own3_set HOR.out v.type v.n v.s
      generalize ((wr.setCell ⟨br, 0, none⟩ (.int .i64 v.type)).setCell ⟨br, 1, none⟩ (.int .i64 v.n)).setCell ⟨br, 2, none⟩ (.string v.s) = w9 at HW4 HOUT ⊢
      clear o0 o1 o2 z0 z1 z2 hlt
      obtain ⟨o0, o1, o2, z0, z1, z2, hlt⟩ := HW4.cells
      unfold RunRef
      rw [E.out]
      exact bodyPost_ret (v := .tuple #[valV v, .slice AD done.length cd, .int .i64 0]) (by simp [results, Tryz.results9, go_sem, o0, o1, o2, valV]) rfl ⟨_, rfl, HOUT.1, HOUT.2⟩
end Go.Proofs.YthmbafkedgahaaaGreatDoor
