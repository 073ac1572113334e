/- (*checker).step, walked. verify.of, Check, Type, Most: walked. -/
import Derived.Test.YthmbafkedgahaaaDoorVeActB
import Derived.OwnWalk
import Derived.Laws.MakeOwn
import Derived.Laws.OwnMore
namespace Go.Proofs.YthmbafkedgahaaaDoor
open Go.ChangeShapes Go.WideShapes Go.ChangeAt Go.RowKit

theorem act_any (H p b g m c nk ck most len i : Nat) (K : Option Addr) (CV AV : Value) (cols : List Col) (x : Ins) (l : List Int) (w : World) (h : ActPre w H p b g m c CV (.slice K nk ck) AV most l) (hm : most ≤ 64) (hj : m ≤ 64) (ha : argErr len i nk x = 0)
    (hK : ∀ w', Only (fun k => k = p ∨ H ≤ k) w w' → SeesCols w' K nk ck cols) (hO : ∀ w', Only (fun k => k = p ∨ H ≤ k) w w' → OpsT w') (hT : ∀ w', Only (fun k => k = p ∨ H ≤ k) w w' → LevelsT w') :
    Calls Tryd.prog 109 #[.pointer (some ⟨p, 0, none⟩), insV x, .pointer (some ⟨b, 0, none⟩)] w (ActSays H p b CV (.slice K nk ck) AV most (actP cols x l) w) := by
  unfold argErr at ha
  by_cases h1 : x.what = 1
  · exact act_1 H p b g m c nk ck most K CV AV cols x l w h hm hj h1
  rw [if_neg h1] at ha
  by_cases h2 : x.what = 2
  · rw [if_pos h2] at ha
    have ha2 : 0 ≤ x.arg ∧ x.arg < nk := by
      by_cases hh : 0 ≤ x.arg ∧ x.arg < nk
      · exact hh
      · rw [if_neg hh] at ha; exact absurd ha (by decide)
    exact act_2 H p b g m c nk ck most K CV AV cols x l w h hm hj h2 ha2 hK
  rw [if_neg h2] at ha
  by_cases h3 : x.what = 3
  · rw [if_pos h3] at ha
    obtain ⟨k, hk1, hk2⟩ : ∃ k : Nat, k ≤ 1000 ∧ arityOf (opNm x.arg) = k := by
      rcases op_arity ha with e | e
      · exact ⟨1, by decide, e⟩
      · exact ⟨2, by decide, e⟩
    by_cases hmk : m < k
    · exact act_s3 H p b g m k c nk ck most K CV AV cols x l w h hm hj h3 hk1 ha hk2 hO hT hmk
    · obtain ⟨j, rfl⟩ : ∃ j, m = j + k := ⟨m - k, by omega⟩
      exact act_3 H p b g j k c nk ck most K CV AV cols x l w h hm (by omega) h3 hk1 ha hk2 hO hT
  rw [if_neg h3] at ha
  by_cases h4 : x.what = 4
  · exact act_4 H p b g m c nk ck most K CV AV cols x l w h hm hj h4
  by_cases h57 : x.what = 5 ∨ x.what = 6 ∨ x.what = 7
  · by_cases h0 : m = 0
    · exact act_s H p b g m c nk ck most K CV AV cols x l w h hm hj h57 h0
    · obtain ⟨j, rfl⟩ : ∃ j, m = j + 1 := ⟨m - 1, by omega⟩
      rcases h57 with h5 | h6 | h7
      · exact act_5 H p b g j c nk ck most K CV AV cols x l w h hm (by omega) h5
      · exact act_6 H p b g j c nk ck most K CV AV cols x l w h hm (by omega) h6
      · exact act_7 H p b g j c nk ck most K CV AV cols x l w h hm (by omega) h7
  · rw [if_neg (by omega), if_neg (by omega)] at ha
    exact absurd ha (by decide)
theorem actP_len {cols : List Col} {x : Ins} {l : List Int} (h : (actP cols x l).1 = 0) : (actP cols x l).2.length ≤ 64 := by
  unfold actP at h ⊢
  split at h
  · exact absurd h (show ¬ (6 : Int) = 0 by decide)
  · rename_i h1
    rw [if_neg h1]
    split at h
    · rename_i h2; exact absurd h h2
    · rename_i h2
      rw [if_neg h2]
      split at h
      · exact absurd h (show ¬ (4 : Int) = 0 by decide)
      · rename_i h3
        rw [if_neg h3]
        exact Nat.le_of_not_lt h3
def Small64 (st : Sts) : Prop := ∀ (k : Nat) (l : List Int), st.getD k none = some l → l.length ≤ 64
theorem reachP_small {st : Sts} (h : Small64 st) (i : Nat) {l : List Int} (hl : l.length ≤ 64) : Small64 (reachP st i l).2 := by
  unfold reachP
  split
  · intro k m hm
    rw [List.getD_eq_getElem?_getD, List.getElem?_set] at hm
    split at hm
    · split at hm
      · injection hm with hm; subst hm; exact hl
      · cases hm
    · rw [← List.getD_eq_getElem?_getD] at hm
      exact h k m hm
  · exact h
theorem stepP_small {cols : List Col} {len i : Nat} {x : Ins} {st : Sts} {most : Nat} (h : Small64 st) (hm : most ≤ 64) : Small64 (stepP cols len i x st most).2.1 ∧ (stepP cols len i x st most).2.2 ≤ 64 := by
  unfold stepP
  split
  · exact ⟨h, hm⟩
  · rename_i l hl
    split
    · exact ⟨h, hm⟩
    · split
      · exact ⟨h, hm⟩
      · rename_i h3
        have hl64 : (actP cols x l).2.length ≤ 64 := actP_len (by simpa using h3)
        have hmm : max most (actP cols x l).2.length ≤ 64 := by omega
        split
        · exact ⟨reachP_small h _ hl64, hmm⟩
        · split
          · split
            · exact ⟨reachP_small h _ hl64, hmm⟩
            · exact ⟨reachP_small (reachP_small h _ hl64) _ hl64, hmm⟩
          · exact ⟨reachP_small h _ hl64, hmm⟩
theorem own_base {w : World} {B B' e size n : Nat} {v : Value} {xs : List Value} (h : w.ownsRow B e size v n xs) (hB : B' ≤ B) : w.ownsRow B' e size v n xs := by
  refine ⟨h.1, ?_⟩
  rcases h.2 with ⟨rfl, rfl⟩ | ⟨q, cap, cur, rfl, h1, h2, h3⟩
  · exact Or.inl ⟨rfl, rfl⟩
  · exact Or.inr ⟨q, cap, cur, rfl, by omega, h2, h3⟩
section
variable {cols : List Col} {len i : Nat} {x : Ins} {st : Sts} {most : Nat} {l : List Int}
theorem stepP_arg (h : st.getD i none = some l) (ha : argErr len i cols.length x ≠ 0) : stepP cols len i x st most = (argErr len i cols.length x, st, most) := by
  unfold stepP; rw [h]; exact if_pos ha
theorem stepP_act (h : st.getD i none = some l) (ha : argErr len i cols.length x = 0) (hc : (actP cols x l).1 ≠ 0) : stepP cols len i x st most = ((actP cols x l).1, st, most) := by
  unfold stepP; rw [h]; dsimp only; rw [if_neg (by simpa using ha), if_pos hc]
theorem stepP_jump (h : st.getD i none = some l) (ha : argErr len i cols.length x = 0) (hc : (actP cols x l).1 = 0) (hw : x.what = 4) {a : Nat} (e : x.arg = a) :
    stepP cols len i x st most = ((reachP st (i + 1 + a) (actP cols x l).2).1, (reachP st (i + 1 + a) (actP cols x l).2).2, max most (actP cols x l).2.length) := by
  unfold stepP; rw [h]; dsimp only; rw [if_neg (by simpa using ha), if_neg (by simpa using hc), if_pos hw, e, Int.toNat_natCast]
theorem stepP_else1 (h : st.getD i none = some l) (ha : argErr len i cols.length x = 0) (hc : (actP cols x l).1 = 0) (hw : x.what = 5) {a : Nat} (e : x.arg = a) (hr : (reachP st (i + 1 + a) (actP cols x l).2).1 ≠ 0) :
    stepP cols len i x st most = ((reachP st (i + 1 + a) (actP cols x l).2).1, (reachP st (i + 1 + a) (actP cols x l).2).2, max most (actP cols x l).2.length) := by
  unfold stepP; rw [h]; dsimp only; rw [if_neg (by simpa using ha), if_neg (by simpa using hc), if_neg (by omega), if_pos hw, e, Int.toNat_natCast, if_pos hr]
theorem stepP_else2 (h : st.getD i none = some l) (ha : argErr len i cols.length x = 0) (hc : (actP cols x l).1 = 0) (hw : x.what = 5) {a : Nat} (e : x.arg = a) (hr : (reachP st (i + 1 + a) (actP cols x l).2).1 = 0) :
    stepP cols len i x st most = ((reachP (reachP st (i + 1 + a) (actP cols x l).2).2 (i + 1) (actP cols x l).2).1, (reachP (reachP st (i + 1 + a) (actP cols x l).2).2 (i + 1) (actP cols x l).2).2, max most (actP cols x l).2.length) := by
  unfold stepP; rw [h]; dsimp only; rw [if_neg (by simpa using ha), if_neg (by simpa using hc), if_neg (by omega), if_pos hw, e, Int.toNat_natCast, if_neg (by simpa using hr)]
theorem stepP_next (h : st.getD i none = some l) (ha : argErr len i cols.length x = 0) (hc : (actP cols x l).1 = 0) (h4 : x.what ≠ 4) (h5 : x.what ≠ 5) :
    stepP cols len i x st most = ((reachP st (i + 1) (actP cols x l).2).1, (reachP st (i + 1) (actP cols x l).2).2, max most (actP cols x l).2.length) := by
  unfold stepP; rw [h]; dsimp only; rw [if_neg (by simpa using ha), if_neg (by simpa using hc), if_neg h4, if_neg h5]
theorem arg_jump {nc : Nat} (h : argErr len i nc x = 0) (hw : x.what = 4 ∨ x.what = 5) : ∃ a : Nat, x.arg = a ∧ i + 1 + a ≤ len := by
  unfold argErr at h
  rw [if_neg (by omega), if_neg (by omega), if_neg (by omega), if_pos hw] at h
  by_cases hh : 0 ≤ x.arg ∧ x.arg < (len : Int) - i
  · exact ⟨x.arg.toNat, by omega, by omega⟩
  · rw [if_neg hh] at h; exact absurd h (by decide)
end
def StepSays (W0 : World) (p q : Nat) (C : Option Addr) (n cc : Nat) (K : Option Addr) (nk ck : Nat) (r : Int × Sts × Nat) (e : Ending) (w' : World) : Prop :=
  e = .returned (errV r.1) ∧ Below W0.heap.size W0 w' ∧ (r.1 = 0 → CkAt w' W0.heap.size p q C n cc K nk ck r.2.1 r.2.2)
set_option maxHeartbeats 8000000 in
set_option maxRecDepth 100000 in
theorem step_any (W0 : World) (p q : Nat) (C : Option Addr) (n cc : Nat) (K : Option Addr) (nk ck : Nat) (st : Sts) (most i : Nat) (code : List Ins) (x : Ins) (cols : List Col) (w : World) (hW : Below W0.heap.size W0 w) (h : CkAt w W0.heap.size p q C n cc K nk ck st most) (hC : SeesCode W0 C n cc code) (hK : SeesCols W0 K nk ck cols) (hO : OpsT W0) (hT : LevelsT W0)
    (hx : code[i]? = some x) (hn : n ≤ 100000) (hs : Small64 st) (hm : most ≤ 64) :
    Calls Tryd.prog 77 #[.pointer (some ⟨p, 0, none⟩), .int .i64 i] w (StepSays W0 p q C n cc K nk ck (stepP cols n i x st most)) := by
  have hi : i < n := by rw [← hC.1]; exact (List.getElem?_eq_some_iff.1 hx).1
  have hCw := hC.keep hW
  have qn := fun (w : World) (a : Option Addr) (n c n' c' : Nat) => Lib.run_eql_slice_nil (P := Tryd.prog) w 89 _ a n c n' c' Tryd.underlying89
  obtain ⟨gC, oC, y, rfl, hg, hy, c0, c1, c2, c3, c4⟩ := hCw.at_ hi
  obtain rfl : x = y := by rw [hx] at hy; injection hy
  have hcc := hC.2.2.1
  have hcm := hC.2.2.2.1
  unfold maxLen at hcm
  have hi2 : (i : Int) < (n : Int) + 1 := by omega
  have hi3 : i < n + 1 := by omega
  have hnk : cols.length = nk := hK.1
  obtain ⟨w1, hw1⟩ : ∃ w1, w.alloc (.cells #[.int .i64 x.what, .int .i64 x.arg, .int .i64 x.val.type, .int .i64 x.val.n, .string x.val.s] 39) = w1 := ⟨_, rfl⟩
  have hb1 : Below w.heap.size w w1 := by rw [← hw1]; exact (Below.refl _ _).alloc (Nat.le_refl _) _
  have hx0 := heap_alloc_new w (.cells #[.int .i64 x.what, .int .i64 x.arg, .int .i64 x.val.type, .int .i64 x.val.n, .string x.val.s] 39)
  rw [hw1] at hx0
  have h1 := h.keep hb1
  obtain ⟨j0, j1, j2, j3⟩ := box4 h.box
  obtain ⟨k0, k1, k2, k3⟩ := box4 h1.box
  obtain ⟨u, ku, hu, -⟩ := h1.at_ (i := i) (by omega)
  have HW1 := Lib.hid hw1
  have HB1 := Lib.hid hb1
  have HXB := Lib.hid hx0
  have HC1 := Lib.hid h1
  have HCD := Lib.hid hC
  have HX := Lib.hid hx
  have HWW := Lib.hid (below_step hW hb1)
  have HO := Lib.hid hO
  have HT := Lib.hid hT
  have HK := Lib.hid hK
  have HS := Lib.hid hs
  cases hst : st.getD i none with
  | none =>
    have E : stepP cols n i x st most = (5, st, most) := by unfold stepP; rw [hst]
    rw [E]
    rw [hst] at hu
    have hu : u = .slice none 0 0 := hu
    subst hu
    clear h hC hK hO hT hx hs hW hCw hy hw1 hb1 hx0 h1 hst E j1 j2 j3
    go_enter Tryd.func77, Tryd.ntmps77
    go_wp2_with (first | rw [HW1.out])
    go_ret
    exact ⟨rfl, HWW.out, fun h => absurd h (show ¬ (5 : Int) = 0 by decide)⟩
  | some l =>
    have hl64 : l.length ≤ 64 := hs i l hst
    rw [hst] at hu
    obtain ⟨ad, cA, rfl, hsA, hfA⟩ := hu
    have TA := Lib.hid (arg_any W0.heap.size p q (some ⟨gC, oC, none⟩) n cc K nk ck st most i code x w1 h1 (hC.keep (below_step hW hb1)) hx hn (Nat.le_trans hK.2.2.1 hK.2.2.2.1) (hO.keep (below_step hW hb1)))
    have HSA := Lib.hid hsA
    obtain ⟨ml, hml⟩ : ∃ ml, ml = l.length := ⟨_, rfl⟩
    rw [← hml] at ku hl64
    have HML := Lib.hid hml
    obtain ⟨ea, hea⟩ : ∃ ea, ea = argErr n i nk x := ⟨_, rfl⟩
    rw [← hea] at TA
    have HEA := Lib.hid hea
    have HST := Lib.hid hst
    have HNK := Lib.hid hnk
    have hqw : q < w1.heap.size := World.block_lt_of_cell? w1 _ ku
    have hpw : p < w1.heap.size := box_lt h1.box
    have hpq := h.off
    have hpw0 : p < w.heap.size := box_lt h.box
    have hqw0 : q < w.heap.size := by obtain ⟨us, hh, -⟩ := h.row; exact box_lt hh
    have hWp : W0.heap.size ≤ p := h.low.1
    have hWq : W0.heap.size ≤ q := h.low.2
    have h01 := HB1.out.size
    have hsz1 : w.heap.size < w1.heap.size := box_lt hx0
    have hW0 := hW.size
    clear h hC hK hO hT hx hs hW hCw hy hw1 hb1 hx0 h1 hst hsA hfA hml j1 j2 j3 hea hnk
    go_enter Tryd.func77, Tryd.ntmps77
    go_wp2_with (first | rw [HW1.out])
    refine (TA.out).mono ?_
    rintro e w2 ⟨rfl, hb2⟩
    have HXB2 := Lib.hid ((hb2.block w.heap.size (box_lt HXB.out)).trans HXB.out)
    have HC2 := Lib.hid (HC1.out.keep hb2)
    have HW2 := Lib.hid (below_step HWW.out hb2)
    have ku2 := (hb2.cell (p := ⟨q, i, none⟩) hqw).trans ku
    have k22 := (hb2.cell (p := ⟨p, 2, none⟩) hpw).trans k2
    have HSA2 := Lib.hid (HSA.out.keep hb2)
    have h12 := hb2.size
    clear hb2 ku k0 k1 k2 k3 j0 c0 c1 c2 c3 c4
    by_cases hea0 : ea = 0
    · subst hea0
      rw [errV_zero]
      rw [← HML.out] at HSA2
      go_wp2_with fail
      refine (cloneSt ad ml cA l w2 HSA2.out (by omega)).mono ?_
      rintro e w3 ⟨⟨g, c', rfl, hown⟩, hb3⟩
      obtain ⟨w4, hw4⟩ : ∃ w4, w3.alloc (.cells #[.slice (some ⟨g, 0, none⟩) ml c'] 89) = w4 := ⟨_, rfl⟩
      have hb4 : Below w3.heap.size w3 w4 := by rw [← hw4]; exact (Below.refl _ _).alloc (Nat.le_refl _) _
      have hbb4 := heap_alloc_new w3 (.cells #[.slice (some ⟨g, 0, none⟩) ml c'] 89)
      rw [hw4] at hbb4
      have hb24 : Below w2.heap.size w2 w4 := below_step hb3 hb4
      have HX4 := Lib.hid ((hb24.block w.heap.size (box_lt HXB2.out)).trans HXB2.out)
      have hgl := hown.lt g rfl
      have h3 := hb3.size
      have HPRE := Lib.hid (show ActPre w4 w2.heap.size p w3.heap.size g ml c' (.slice (some ⟨gC, oC, none⟩) n cc) (.slice K nk ck) (.slice (some ⟨q, 0, none⟩) (n + 1) (n + 1)) most l from
        ⟨(hb24.block p (box_lt HC2.out.box)).trans HC2.out.box, hbb4, own_keep hown hb4, by omega, by omega, h3⟩)
      have H24 := Lib.hid hb24
      have FAR := Lib.hid (fun (w' : World) (hy : Only (fun k => k = p ∨ w2.heap.size ≤ k) w4 w') => show Below W0.heap.size W0 w' from (below_step HW2.out hb24).trans (hy.below (below_step HW2.out hb24).size (fun k hk => hk.elim (fun e => by omega) (fun e => by omega))))
      have TACT := Lib.hid (act_any w2.heap.size p w3.heap.size g ml c' nk ck most n i K (.slice (some ⟨gC, oC, none⟩) n cc) (.slice (some ⟨q, 0, none⟩) (n + 1) (n + 1)) cols x l w4 HPRE.out hm hl64 HEA.out.symm (fun w' hy => HK.out.keep (FAR.out w' hy)) (fun w' hy => HO.out.keep (FAR.out w' hy)) (fun w' hy => HT.out.keep (FAR.out w' hy)))
      unfold insV at TACT
      have HW4 := Lib.hid hw4
      have HACL := Lib.hid (actP_len (cols := cols) (x := x) (l := l))
      obtain ⟨ac, hac⟩ : ∃ ac, ac = actP cols x l := ⟨_, rfl⟩
      rw [← hac] at TACT HACL
      have HAC := Lib.hid hac
      obtain ⟨x0, x1, x2, x3, x4⟩ := box5 HX4.out
      clear hown hb3 hw4 hb4 hbb4 hb24 hac ku2 k22
      go_wp2_with (first | rw [HW4.out])
      refine (TACT.out).mono ?_
      rintro e w5 ⟨rfl, hy5, hok⟩
      have HW5 := Lib.hid (FAR.out w5 hy5)
      have HX5 := Lib.hid ((hy5.block w.heap.size (box_lt HX4.out) (fun e => e.elim (fun e => by omega) (fun e => by omega))).trans HX4.out)
      have HY25 := Lib.hid ((Only.of_below (S := fun k => k = p ∨ w2.heap.size ≤ k) H24.out).trans hy5)
      clear hy5 x0 x1 x2 x3 x4
      by_cases hac0 : ac.1 = 0
      · obtain ⟨g5, c5, hbg, hbb5, hown5, hpb5⟩ := hok hac0
        have HC5 := Lib.hid (HC2.out.acted HY25.out hpb5)
        have hgl5 := hown5.lt g5 rfl
        have hs5 := sees_ints hown5
        have HS5 := Lib.hid hs5
        have HBB5 := Lib.hid hbb5
        have hm5 : ac.2.length ≤ 64 := HACL.out hac0
        have hb0 := box1 hbb5
        have hbs : w3.heap.size < w5.heap.size := box_lt hbb5
        have HAC0 := Lib.hid hac0
        obtain ⟨x0, x1, -, -, -⟩ := box5 HX5.out
        have HFAR := Lib.hid (show 0 < ac.2.length → g5 ≠ p ∧ g5 ≠ q from fun _ => ⟨by omega, by omega⟩)
        rw [hac0, errV_zero]
        clear hok hbb5 hown5 hpb5 hs5 hac0
        by_cases h4 : x.what = 4
        · have hwh := h4
          clear h4
          obtain ⟨a, ea2, hia⟩ := arg_jump (i := i) (len := n) (nc := nk) (x := x) HEA.out.symm (by omega)
          have HE := Lib.hid ea2
          rw [ea2] at x1
          have t4 : (x.what == 4) = true := beq_iff_eq.2 hwh
          have t5 : (x.what == 5) = false := beq_eq_false_iff_ne.2 (by omega)
          have HWH := Lib.hid hwh
          have TR := Lib.hid (reach_any W0.heap.size p q (some ⟨gC, oC, none⟩) n cc K nk ck st (max most ac.2.length) (i + 1 + a) c5 ⟨g5, 0, none⟩ ac.2 w5 HC5.out (by omega) hn HS5.out (by omega) HFAR.out)
          rw [show (((i + 1 + a : Nat) : Int)) = (i : Int) + 1 + (a : Int) by omega] at TR
          obtain ⟨rr, hrr⟩ : ∃ rr, rr = reachP st (i + 1 + a) ac.2 := ⟨_, rfl⟩
          rw [← hrr] at TR
          have HRR := Lib.hid hrr
          obtain ⟨m5, hm5'⟩ : ∃ m5, m5 = ac.2.length := ⟨_, rfl⟩
          rw [← hm5'] at TR hb0
          have HM5 := Lib.hid hm5'
          clear hwh hrr hm5' ea2
          go_wp2_with fail
          refine (TR.out).mono ?_
          rintro e w6 ⟨rfl, hck6, hon6⟩
          have HC6 := Lib.hid hck6
          have HW6 := Lib.hid (HW5.out.trans (hon6.below HW5.out.size (fun k hk => by have hk : k = q := hk; omega)))
          have HX6 := Lib.hid ((hon6.block w.heap.size (box_lt HX5.out) (by omega)).trans HX5.out)
          have HB6 := Lib.hid ((hon6.block w3.heap.size hbs (by omega)).trans HBB5.out)
          have HS6 := Lib.hid (hon6.sees HS5.out (fun ad e => by injection e with e; rw [← e]; show ¬ g5 = q; omega))
          clear hck6 hon6 x0 x1 hb0
          obtain ⟨x0, x1, -, -, -⟩ := box5 HX6.out
          have hb0 := box1 HB6.out
          rw [← HM5.out] at hb0
          by_cases hr0 : rr.1 = 0
          · rw [hr0, errV_zero]
            have HR0 := Lib.hid hr0
            clear hr0
            have E := Lib.hid (show stepP cols n i x st most = (rr.1, rr.2, max most m5) from (stepP_jump (cols := cols) (len := n) (i := i) (x := x) (most := most) HST.out (by rw [HNK.out]; exact HEA.out.symm) (by rw [← HAC.out]; exact HAC0.out) HWH.out HE.out).trans (by rw [← HAC.out, ← HRR.out, ← HM5.out]))
            go_wp2_with fail
            go_ret
            rw [E.out]
            exact ⟨congrArg (fun k => Ending.returned (errV k)) HR0.out.symm, HW6.out, fun _ => HC6.out⟩
          · have HNE := Lib.hid hr0
            rw [errV_ne hr0]
            have E := Lib.hid (show stepP cols n i x st most = (rr.1, rr.2, max most m5) from (stepP_jump (cols := cols) (len := n) (i := i) (x := x) (most := most) HST.out (by rw [HNK.out]; exact HEA.out.symm) (by rw [← HAC.out]; exact HAC0.out) HWH.out HE.out).trans (by rw [← HAC.out, ← HRR.out, ← HM5.out]))
            clear hr0
            go_wp2_with fail
            go_ret
            rw [E.out]
            exact ⟨congrArg Ending.returned (errV_ne HNE.out).symm, HW6.out, fun h => absurd h HNE.out⟩
        by_cases h5 : x.what = 5
        · have hwh := h5
          clear h4 h5
          obtain ⟨a, ea2, hia⟩ := arg_jump (i := i) (len := n) (nc := nk) (x := x) HEA.out.symm (by omega)
          have HE := Lib.hid ea2
          rw [ea2] at x1
          have t4 : (x.what == 4) = false := beq_eq_false_iff_ne.2 (by omega)
          have t5 : (x.what == 5) = true := beq_iff_eq.2 hwh
          have HWH := Lib.hid hwh
          have TR := Lib.hid (reach_any W0.heap.size p q (some ⟨gC, oC, none⟩) n cc K nk ck st (max most ac.2.length) (i + 1 + a) c5 ⟨g5, 0, none⟩ ac.2 w5 HC5.out (by omega) hn HS5.out (by omega) HFAR.out)
          rw [show (((i + 1 + a : Nat) : Int)) = (i : Int) + 1 + (a : Int) by omega] at TR
          obtain ⟨rr, hrr⟩ : ∃ rr, rr = reachP st (i + 1 + a) ac.2 := ⟨_, rfl⟩
          rw [← hrr] at TR
          have HRR := Lib.hid hrr
          obtain ⟨m5, hm5'⟩ : ∃ m5, m5 = ac.2.length := ⟨_, rfl⟩
          rw [← hm5'] at TR hb0
          have HM5 := Lib.hid hm5'
          clear hwh hrr hm5' ea2
          go_wp2_with fail
          refine (TR.out).mono ?_
          rintro e w6 ⟨rfl, hck6, hon6⟩
          have HC6 := Lib.hid hck6
          have HW6 := Lib.hid (HW5.out.trans (hon6.below HW5.out.size (fun k hk => by have hk : k = q := hk; omega)))
          have HX6 := Lib.hid ((hon6.block w.heap.size (box_lt HX5.out) (by omega)).trans HX5.out)
          have HB6 := Lib.hid ((hon6.block w3.heap.size hbs (by omega)).trans HBB5.out)
          have HS6 := Lib.hid (hon6.sees HS5.out (fun ad e => by injection e with e; rw [← e]; show ¬ g5 = q; omega))
          clear hck6 hon6 x0 x1 hb0
          obtain ⟨x0, x1, -, -, -⟩ := box5 HX6.out
          have hb0 := box1 HB6.out
          rw [← HM5.out] at hb0
          by_cases hr0 : rr.1 = 0
          · rw [hr0, errV_zero]
            have HR0 := Lib.hid hr0
            clear hr0
            have TR2 := Lib.hid (reach_any W0.heap.size p q (some ⟨gC, oC, none⟩) n cc K nk ck rr.2 (max most m5) (i + 1) c5 ⟨g5, 0, none⟩ ac.2 w6 HC6.out (by omega) hn HS6.out (by omega) HFAR.out)
            rw [show (((i + 1 : Nat) : Int)) = (i : Int) + 1 by omega] at TR2
            obtain ⟨r2, hr2⟩ : ∃ r2, r2 = reachP rr.2 (i + 1) ac.2 := ⟨_, rfl⟩
            rw [← hr2] at TR2
            have HR2 := Lib.hid hr2
            rw [← HM5.out] at TR2
            have E := Lib.hid (show stepP cols n i x st most = (r2.1, r2.2, max most m5) from (stepP_else2 (cols := cols) (len := n) (i := i) (x := x) (most := most) HST.out (by rw [HNK.out]; exact HEA.out.symm) (by rw [← HAC.out]; exact HAC0.out) HWH.out HE.out (by rw [← HAC.out, ← HRR.out]; exact HR0.out)).trans (by rw [← HAC.out, ← HRR.out, ← HM5.out, ← HR2.out]))
            clear hr2
            go_wp2_with fail
            refine (TR2.out).mono ?_
            rintro e w7 ⟨rfl, hck7, hon7⟩
            have HC7 := Lib.hid hck7
            have HW7 := Lib.hid (HW6.out.trans (hon7.below HW6.out.size (fun k hk => by have hk : k = q := hk; omega)))
            clear hck7 hon7
            go_wp2_with fail
            go_ret
            rw [E.out]
            exact ⟨rfl, HW7.out, fun _ => HC7.out⟩
          · have HNE := Lib.hid hr0
            rw [errV_ne hr0]
            have E := Lib.hid (show stepP cols n i x st most = (rr.1, rr.2, max most m5) from (stepP_else1 (cols := cols) (len := n) (i := i) (x := x) (most := most) HST.out (by rw [HNK.out]; exact HEA.out.symm) (by rw [← HAC.out]; exact HAC0.out) HWH.out HE.out (by rw [← HAC.out, ← HRR.out]; exact HNE.out)).trans (by rw [← HAC.out, ← HRR.out, ← HM5.out]))
            clear hr0
            go_wp2_with fail
            go_ret
            rw [E.out]
            exact ⟨congrArg Ending.returned (errV_ne HNE.out).symm, HW6.out, fun h => absurd h HNE.out⟩
        have t4 : (x.what == 4) = false := beq_eq_false_iff_ne.2 h4
        have t5 : (x.what == 5) = false := beq_eq_false_iff_ne.2 h5
        have HW4N := Lib.hid h4
        have HW5N := Lib.hid h5
        obtain ⟨m5, hm5'⟩ : ∃ m5, m5 = ac.2.length := ⟨_, rfl⟩
        rw [← hm5'] at hb0
        have HM5 := Lib.hid hm5'
        clear h4 h5 hm5'
        have TR2 := Lib.hid (reach_any W0.heap.size p q (some ⟨gC, oC, none⟩) n cc K nk ck st (max most ac.2.length) (i + 1) c5 ⟨g5, 0, none⟩ ac.2 w5 HC5.out (by omega) hn HS5.out (by omega) HFAR.out)
        rw [show (((i + 1 : Nat) : Int)) = (i : Int) + 1 by omega] at TR2
        obtain ⟨r2, hr2⟩ : ∃ r2, r2 = reachP st (i + 1) ac.2 := ⟨_, rfl⟩
        rw [← hr2] at TR2
        have HR2 := Lib.hid hr2
        rw [← HM5.out] at TR2
        have E := Lib.hid (show stepP cols n i x st most = (r2.1, r2.2, max most m5) from (stepP_next (cols := cols) (len := n) (i := i) (x := x) (most := most) HST.out (by rw [HNK.out]; exact HEA.out.symm) (by rw [← HAC.out]; exact HAC0.out) HW4N.out HW5N.out).trans (by rw [← HAC.out, ← HR2.out, ← HM5.out]))
        clear hr2
        go_wp2_with fail
        refine (TR2.out).mono ?_
        rintro e w7 ⟨rfl, hck7, hon7⟩
        have HC7 := Lib.hid hck7
        have HW7 := Lib.hid (HW5.out.trans (hon7.below HW5.out.size (fun k hk => by have hk : k = q := hk; omega)))
        clear hck7 hon7
        go_wp2_with fail
        go_ret
        rw [E.out]
        exact ⟨rfl, HW7.out, fun _ => HC7.out⟩
      · rw [errV_ne hac0]
        have E := Lib.hid (stepP_act (cols := cols) (len := n) (i := i) (x := x) (most := most) HST.out (by rw [HNK.out]; exact HEA.out.symm) (by rw [← HAC.out]; exact hac0))
        clear hok
        have HNE := Lib.hid hac0
        clear hac0
        go_wp2_with fail
        go_ret
        rw [E.out, ← HAC.out]
        exact ⟨congrArg Ending.returned (errV_ne HNE.out).symm, HW5.out, fun h => absurd h HNE.out⟩
    · rw [errV_ne hea0]
      have E := Lib.hid (stepP_arg (cols := cols) (len := n) (i := i) (x := x) (most := most) HST.out (by rw [HNK.out, ← HEA.out]; exact hea0))
      have HNE := Lib.hid hea0
      clear hea0
      go_wp2_with fail
      go_ret
      rw [E.out, HNK.out, ← HEA.out]
      exact ⟨congrArg Ending.returned (errV_ne HNE.out).symm, HW2.out, fun h => absurd h HNE.out⟩
end Go.Proofs.YthmbafkedgahaaaDoor
namespace Go.Proofs.YthmbafkedgahaaaDoor
open Go.ChangeShapes Go.WideShapes Go.ChangeAt Go.RowKit

theorem runP_step {cols : List Col} {len i : Nat} {code : List Ins} {x : Ins} {st : Sts} {most : Nat} (hx : code[i]? = some x) :
    runP cols len i (code.drop i) st most = if (stepP cols len i x st most).1 ≠ 0 then (i, (stepP cols len i x st most).1, (stepP cols len i x st most).2) else runP cols len (i + 1) (code.drop (i + 1)) (stepP cols len i x st most).2.1 (stepP cols len i x st most).2.2 := by
  obtain ⟨h, rfl⟩ := List.getElem?_eq_some_iff.1 hx
  rw [List.drop_eq_getElem_cons h, runP]
theorem start_small (n : Nat) : Small64 (startP n) := by
  intro k l h
  rw [List.getD_eq_getElem?_getD] at h
  unfold startP at h
  cases k with
  | zero => simp at h; subst h; decide
  | succ k =>
    rw [List.getElem?_cons_succ, List.getElem?_replicate] at h
    split at h <;> simp at h
theorem CkAt.new {w : World} {B q n c nk ck : Nat} {A0 K : Option Addr} (hq : w.ownsRow B 89 1 (.slice (some ⟨q, 0, none⟩) (n + 1) (n + 1)) (n + 1) (madeCells (Value.slice none 0 0).cells ((n + 1) * 1)).toList) (hB : B ≤ w.heap.size) :
    CkAt (w.alloc (.cells #[.slice A0 n c, .slice K nk ck, .slice (some ⟨q, 0, none⟩) (n + 1) (n + 1), .int .i64 0] 92)) B w.heap.size q A0 n c K nk ck (List.replicate (n + 1) none) 0 := by
  have hql := hq.lt q rfl
  have hb : Below w.heap.size w (w.alloc (.cells #[.slice A0 n c, .slice K nk ck, .slice (some ⟨q, 0, none⟩) (n + 1) (n + 1), .int .i64 0] 92)) := (Below.refl _ _).alloc (Nat.le_refl _) _
  refine ⟨heap_alloc_new w _, ?_, by simp, ⟨hB, hql.1⟩, by omega⟩
  rcases hq.2 with ⟨e, _⟩ | ⟨g, cap, cur, e, h1, h2, h3, h4, h5, h6⟩
  · cases e
  · injection e with e1 e2 e3
    injection e1 with e1
    injection e1 with e1
    subst e1 e3
    rw [Nat.mul_one] at h5 h6
    refine ⟨cur, (hb.block q hql.2).trans h2, h5, fun k o ho => ?_⟩
    rw [List.getElem?_replicate] at ho
    split at ho
    · rename_i hk
      injection ho with ho
      subst ho
      refine ⟨.slice none 0 0, ?_, rfl⟩
      have e6 : (cur.toList.take (n + 1))[k]? = _ := congrArg (fun z : List Value => z[k]?) h6
      rw [List.getElem?_take_of_lt hk, Array.getElem?_toList, Array.getElem?_toList] at e6
      rw [e6]
      unfold madeCells
      rw [Array.getElem?_map, Array.getElem?_range]
      simp [hk, Value.cells, Nat.mod_one]
    · cases ho
theorem start_set (n : Nat) : (List.replicate (n + 1) (none : Option (List Int))).set 0 (some []) = startP n := by rw [List.replicate_succ]; rfl
theorem stsSlice : SliceTy Tryd.prog 90 89 (.slice none 0 0) 1 24 := SliceTy.of Tryd.underlying90 (by kernel_rfl) rfl (by decide) (by decide)
/-- What of says: no fault, and the checker; or the fault, and where. -/
def OfSays (A0 : Option Addr) (n c : Nat) (K : Option Addr) (nk ck : Nat) (v : Ver) (W : World) (e : Ending) (w' : World) : Prop :=
  (if v.err ≠ 0 then e = .returned (.tuple #[.pointer none, .int .i64 v.place, errV v.err])
   else ∃ p q st, e = .returned (.tuple #[.pointer (some ⟨p, 0, none⟩), .int .i64 0, .nilIface]) ∧ CkAt w' W.heap.size p q A0 n c K nk ck st v.most ∧ endP n st = [v.ty]) ∧ Below W.heap.size W w'
set_option maxHeartbeats 8000000 in
set_option maxRecDepth 100000 in
theorem vof_any (A0 : Option Addr) (n c : Nat) (code : List Ins) (K : Option Addr) (nk ck : Nat) (cols : List Col) (W : World) (hC : SeesCode W A0 n c code) (hK : SeesCols W K nk ck cols) (hs : ∀ x ∈ cols, x.name.size ≤ maxLen) (hO : OpsT W) (hT : LevelsT W) :
    Calls Tryd.prog 31 #[.slice A0 n c, .slice K nk ck] W (OfSays A0 n c K nk ck (verP code cols) W) := by
  have hl := hC.1
  have hcc := hC.2.2.1
  have hcm := hC.2.2.2.1
  unfold maxLen at hcm
  have hkc := hK.2.2.1
  have hkm := hK.2.2.2.1
  unfold maxLen at hkm
  by_cases h1200 : 1200 < n
  · have d0 : decide (1200 < n) = true := decide_eq_true h1200
    have d0' : decide (1200 < (n : Int)) = true := decide_eq_true (by omega)
    have E := Lib.hid (show verP code cols = ⟨0, 4, 0, 0⟩ by unfold verP; rw [hl]; exact if_pos h1200)
    clear hC hK hs hO hT
    go_enter Tryd.func31, Tryd.ntmps31
    go_wp2_with fail
    go_ret3
    rw [E.out]
    exact ⟨rfl, Below.refl _ _⟩
  have d0 : decide (1200 < n) = false := decide_eq_false h1200
  have d0' : decide (1200 < (n : Int)) = false := decide_eq_false (by omega)
  have TS := Lib.hid (rschema_any cols K nk ck W hK hs)
  by_cases hse : schemaErr cols = 0
  · rw [hse, errV_zero] at TS
    have EV := Lib.hid (show verP code cols = (if (runP cols n 0 code (startP n) 0).2.1 ≠ 0 then (⟨(runP cols n 0 code (startP n) 0).1, (runP cols n 0 code (startP n) 0).2.1, 0, 0⟩ : Ver) else if (endP n (runP cols n 0 code (startP n) 0).2.2.1).length ≠ 1 then ⟨n, 3, 0, 0⟩ else
      ⟨0, 0, (endP n (runP cols n 0 code (startP n) 0).2.2.1).headD 0, (runP cols n 0 code (startP n) 0).2.2.2⟩) by
      unfold verP; rw [hl, if_neg h1200, if_neg (by simpa using hse)])
    have HC := Lib.hid hC
    have HK := Lib.hid hK
    have HO := Lib.hid hO
    have HT := Lib.hid hT
    have HLL := Lib.hid hl
    clear hC hK hs hO hT hse hl
    go_enter Tryd.func31, Tryd.ntmps31
    go_wp2_with fail
    refine (TS.out).mono ?_
    rintro e w0 ⟨rfl, hb0⟩
    have HB0 := Lib.hid hb0
    clear hb0
    obtain ⟨ht, _, _, hzs, i0, hi, hz, hsz, hby⟩ := stsSlice
    obtain ⟨wq, hmk, hownq, hgq⟩ := run_makeSlice_full (P := Tryd.prog) w0 w0.heap.size 90 89 i0 (.slice none 0 0) 1 ht hi hz hsz .i64 .i64 (n + 1) (by omega) (by rw [hby]; omega) (by unfold maxLen; omega) (Nat.le_refl _)
    have hbq : Below w0.heap.size w0 wq := (Below.refl _ _).grown hgq (Nat.le_refl _) (fun k hk => by cases hk)
    rw [show ((n + 1 : Nat) : Int) = (n : Int) + 1 by omega] at hmk
    obtain ⟨q, hq⟩ : ∃ q, q = w0.heap.size := ⟨_, rfl⟩
    rw [← hq] at hmk hownq
    have hB0s := HB0.out.size
    have hck := CkAt.new (A0 := A0) (K := K) (c := c) (nk := nk) (ck := ck) (own_base hownq (show W.heap.size ≤ q by omega)) (by have := hbq.size; omega)
    obtain ⟨wp, hwp⟩ : ∃ wp, wq.alloc (.cells #[.slice A0 n c, .slice K nk ck, .slice (some ⟨q, 0, none⟩) (n + 1) (n + 1), .int .i64 0] 92) = wp := ⟨_, rfl⟩
    rw [hwp] at hck
    have hbp : Below wq.heap.size wq wp := by rw [← hwp]; exact (Below.refl _ _).alloc (Nat.le_refl _) _
    obtain ⟨we, hwe⟩ : ∃ we, wp.alloc (.cells #[] 3) = we := ⟨_, rfl⟩
    have hbe : Below wp.heap.size wp we := by rw [← hwe]; exact (Below.refl _ _).alloc (Nat.le_refl _) _
    have hce := hck.keep hbe
    obtain ⟨p, hp⟩ : ∃ p, p = wq.heap.size := ⟨_, rfl⟩
    rw [← hp] at hce hck
    obtain ⟨-, -, k2p, -⟩ := box4 hck.box
    have hpp := box_lt hce.box
    obtain ⟨-, -, k2, -⟩ := box4 hce.box
    obtain ⟨u, ku, -, kf⟩ := hce.at_ (i := 0) (by omega)
    obtain ⟨w1, hw1⟩ : ∃ w1, we.setCell ⟨q, 0, none⟩ (.slice (some ⟨wp.heap.size, 0, none⟩) 0 0) = w1 := ⟨_, rfl⟩
    have hc1 := hce.stored (i := 0) (l := []) (u := .slice (some ⟨wp.heap.size, 0, none⟩) 0 0) (by omega) ⟨_, _, rfl, ⟨rfl, Nat.le_refl _, Nat.zero_le _, (fun e => by cases e), fun h => absurd h (by decide)⟩, fun h => absurd h (by decide)⟩
    rw [start_set, hw1] at hc1
    have HC1 := Lib.hid hc1
    have HBW := Lib.hid (show Below W.heap.size W w1 by
      rw [← hw1]
      exact ((below_step (below_step (below_step HB0.out hbq) hbp) hbe)).setCell (p := ⟨q, 0, none⟩) (show W.heap.size ≤ q by omega) _)
    have HMK := Lib.hid hmk
    have HWP := Lib.hid hwp
    have HWE := Lib.hid hwe
    have HW1 := Lib.hid hw1
    have HP := Lib.hid hp
    have HQ := Lib.hid hq
    clear hownq hgq hbq hck hwp hbp hwe hbe hce hw1 hc1 ht hi hz hsz hby hzs hmk hp hq
    go_wp2_with (first | rw [HMK.out] | rw [HWP.out] | rw [← HP.out] | rw [HWE.out] | rw [HW1.out])
    clear k2 k2p ku kf hpp
    go_loopw [36] (fun u wx => ∃ (k : Nat) (st : Sts) (most : Nat), k ≤ n ∧ u = .int .i64 k ∧ CkAt wx W.heap.size p q A0 n c K nk ck st most ∧ Below W.heap.size W wx ∧ Small64 st ∧ most ≤ 64 ∧ runP cols n 0 code (startP n) 0 = runP cols n k (code.drop k) st most) (fun u _ => n - (intOf u).toNat)
    case atStart => exact ⟨0, startP n, 0, by omega, rfl, HC1.out, HBW.out, start_small n, by omega, rfl⟩
    case round =>
      obtain ⟨k, st, most, hk, rfl, hck, hlow, hsm, hmo, hrun⟩ := hrel
      have HCK := Lib.hid hck
      have HLOW := Lib.hid hlow
      have HSM := Lib.hid hsm
      have HRUN := Lib.hid hrun
      obtain ⟨-, -, k2, -⟩ := box4 hck.box
      clear hck hlow hsm hrun
      by_cases hkn : k < n
      · obtain ⟨x, hx⟩ : ∃ x, code[k]? = some x := ⟨_, List.getElem?_eq_getElem (by rw [HLL.out]; exact hkn)⟩
        have STEP := Lib.hid (step_any W p q A0 n c K nk ck st most k code x cols wr HLOW.out HCK.out HC.out HK.out HO.out HT.out hx (by omega) HSM.out hmo)
        have RS := Lib.hid (runP_step (cols := cols) (len := n) (st := st) (most := most) hx)
        have SMS := Lib.hid (stepP_small (cols := cols) (len := n) (i := k) (x := x) HSM.out hmo)
        generalize stepP cols n k x st most = r at STEP RS SMS
        clear hx k2
        go_wp2_with fail
        refine (STEP.out).mono ?_
        rintro e w2 ⟨rfl, hb2, hok⟩
        have HB2 := Lib.hid hb2
        have HOK := Lib.hid hok
        clear hb2 hok
        by_cases hr : r.1 = 0
        · have RS2 := Lib.hid (RS.out.trans (if_neg (by simpa using hr)))
          have HC2 := Lib.hid (HOK.out hr)
          rw [hr, errV_zero]
          clear hr
          go_wp2_with fail
          go_roundw
          case rel => exact ⟨k + 1, r.2.1, r.2.2, by omega, by go_num, HC2.out, HB2.out, SMS.out.1, SMS.out.2, HRUN.out.trans RS2.out⟩
          case measure => simp [intOf]; omega
        · have RS2 := Lib.hid (HRUN.out.trans (RS.out.trans (if_pos hr)))
          have HNE := Lib.hid hr
          rw [errV_ne hr]
          clear hr
          go_wp2_with fail
          go_ret3
          rw [EV.out, RS2.out, if_pos HNE.out]
          refine ⟨?_, HB2.out⟩
          rw [if_pos HNE.out, errV_ne HNE.out]
          rfl
      · obtain rfl : k = n := by omega
        have RE := Lib.hid (show runP cols k k (code.drop k) st most = (k, 0, st, most) by rw [List.drop_of_length_le (by rw [HLL.out]; exact Nat.le_refl _)]; rfl)
        have RS2 := Lib.hid (HRUN.out.trans RE.out)
        have EV2 := Lib.hid (show verP code cols = (if (endP k st).length ≠ 1 then ⟨k, 3, 0, 0⟩ else ⟨0, 0, (endP k st).headD 0, most⟩) by
          rw [EV.out, RS2.out, if_neg (show ¬ (0 : Int) ≠ 0 by decide)])
        obtain ⟨u, ku, hu, -⟩ := HCK.out.at_ (i := k) (by omega)
        have hq1 : k < k + 1 := by omega
        have hq2 : (k : Int) < (k : Int) + 1 := by omega
        cases hst : st.getD k none with
        | none =>
          rw [hst] at hu
          have hu : u = .slice none 0 0 := hu
          subst hu
          have EN := Lib.hid (show (endP k st).length ≠ 1 by unfold endP; rw [hst]; decide)
          clear hst
          go_wp2_with fail
          go_ret3
          rw [EV2.out, if_pos EN.out]
          exact ⟨by rw [if_pos (show ¬ (3 : Int) = 0 by decide)]; rfl, HLOW.out⟩
        | some l =>
          rw [hst] at hu
          obtain ⟨ad, cA, rfl, -, -⟩ := hu
          have EN := Lib.hid (show endP k st = l by unfold endP; rw [hst]; rfl)
          clear hst
          obtain ⟨ml, hml⟩ : ∃ ml, ml = l.length := ⟨_, rfl⟩
          rw [← hml] at ku
          have HML := Lib.hid hml
          clear hml
          by_cases h1 : ml = 1
          · subst h1
            obtain ⟨t, rfl⟩ : ∃ t, l = [t] := by
              have := HML.out
              match l, this with
              | [t], _ => exact ⟨t, rfl⟩
            go_wp2_with fail
            go_ret3
            rw [EV2.out, EN.out, if_neg (by simp)]
            refine ⟨?_, HLOW.out⟩
            rw [if_neg (by simp)]
            exact ⟨p, q, st, rfl, HCK.out, EN.out⟩
          · have e1 : ((ml : Int) == 1) = false := beq_eq_false_iff_ne.2 (by omega)
            have e2 : (ml == 1) = false := beq_eq_false_iff_ne.2 h1
            have HN1 := Lib.hid h1
            clear h1
            go_wp2_with fail
            go_ret3
            rw [EV2.out, EN.out, if_pos (by rw [← HML.out]; exact HN1.out)]
            exact ⟨by rw [if_pos (show ¬ (3 : Int) = 0 by decide)]; rfl, HLOW.out⟩
  · have E := Lib.hid (show verP code cols = ⟨0, schemaErr cols, 0, 0⟩ by unfold verP; rw [hl, if_neg h1200, if_pos hse])
    rw [errV_ne hse] at TS
    have HNE := Lib.hid hse
    clear hC hK hs hO hT hse
    go_enter Tryd.func31, Tryd.ntmps31
    go_wp2_with fail
    refine (TS.out).mono ?_
    rintro e w0 ⟨rfl, hb0⟩
    have HB0 := Lib.hid hb0
    clear hb0
    go_wp2_with fail
    go_ret3
    rw [E.out]
    exact ⟨by rw [if_pos HNE.out, errV_ne HNE.out]; rfl, HB0.out⟩
theorem ver_bad {code : List Ins} {cols : List Col} (h : (verP code cols).err ≠ 0) : (verP code cols).ty = 0 ∧ (verP code cols).most = 0 := by
  unfold verP at h ⊢
  repeat' split
  all_goals first | exact ⟨rfl, rfl⟩ | skip
  rename_i h1 h2 h3 h4
  rw [if_neg h1, if_neg h2, if_neg h3, if_neg h4] at h
  exact absurd rfl h
theorem ver_good {code : List Ins} {cols : List Col} (h : (verP code cols).err = 0) : (verP code cols).place = 0 := by
  unfold verP at h ⊢
  split
  · rfl
  · rename_i h1
    rw [if_neg h1] at h
    split
    · rfl
    · rename_i h2
      rw [if_neg h2] at h
      split
      · rename_i h3
        rw [if_pos h3] at h
        exact absurd h h3
      · rename_i h3
        rw [if_neg h3] at h
        split
        · rename_i h4
          rw [if_pos h4] at h
          exact absurd h (show ¬ (3 : Int) = 0 by decide)
        · rfl
theorem ver_len {code : List Ins} {cols : List Col} (h : (verP code cols).err = 0) : code.length ≤ 1200 := by
  unfold verP at h
  split at h
  · exact absurd h (show ¬ (4 : Int) = 0 by decide)
  · omega
def TwoV (a : Int) (k : Int) (W : World) (e : Ending) (w' : World) : Prop := e = .returned (.tuple #[.int .i64 a, errV k]) ∧ Below W.heap.size W w'
section
variable (A0 : Option Addr) (n c : Nat) (code : List Ins) (K : Option Addr) (nk ck : Nat) (cols : List Col) (W : World) (hC : SeesCode W A0 n c code) (hK : SeesCols W K nk ck cols) (hs : ∀ x ∈ cols, x.name.size ≤ maxLen) (hO : OpsT W) (hT : LevelsT W)
include hC hK hs hO hT
set_option maxHeartbeats 2000000 in
theorem vecheck_any : Calls Tryd.prog 80 #[.slice A0 n c, .slice K nk ck] W (TwoV (verP code cols).place (verP code cols).err W) := by
  have T := Lib.hid (vof_any A0 n c code K nk ck cols W hC hK hs hO hT)
  have VG := Lib.hid (ver_good (code := code) (cols := cols))
  clear hC hK hs hO hT
  generalize verP code cols = v at T VG
  go_enter Tryd.func80, Tryd.ntmps80
  go_wp2_with fail
  refine (T.out).mono ?_
  rintro e w1 ⟨hr, hb⟩
  have HB := Lib.hid hb
  clear hb
  by_cases hv : v.err = 0
  · rw [if_neg (by simpa using hv)] at hr
    obtain ⟨p, q, st, rfl, -, -⟩ := hr
    have E1 := Lib.hid (VG.out hv)
    have E2 := Lib.hid hv
    clear hv
    go_wp2_with fail
    go_ret2
    exact ⟨by rw [E1.out, E2.out]; rfl, HB.out⟩
  · rw [if_pos hv] at hr
    subst hr
    clear hv
    go_wp2_with fail
    go_ret2
    exact ⟨rfl, HB.out⟩
set_option maxHeartbeats 2000000 in
theorem vetype_any : Calls Tryd.prog 9 #[.slice A0 n c, .slice K nk ck] W (TwoV (verP code cols).ty (verP code cols).err W) := by
  have T := Lib.hid (vof_any A0 n c code K nk ck cols W hC hK hs hO hT)
  have VB := Lib.hid (ver_bad (code := code) (cols := cols))
  have hcc := hC.2.2.1
  have hcm := hC.2.2.2.1
  unfold maxLen at hcm
  have VL := Lib.hid (fun h => show n ≤ 1200 by rw [← hC.1]; exact ver_len (code := code) (cols := cols) h)
  clear hC hK hs hO hT
  generalize verP code cols = v at T VB VL
  go_enter Tryd.func9, Tryd.ntmps9
  go_wp2_with fail
  refine (T.out).mono ?_
  rintro e w1 ⟨hr, hb⟩
  have HB := Lib.hid hb
  clear hb
  by_cases hv : v.err = 0
  · rw [if_neg (by simpa using hv)] at hr
    obtain ⟨p, q, st, rfl, hck, hend⟩ := hr
    obtain ⟨-, -, k2, -⟩ := box4 hck.box
    obtain ⟨u, ku, hu, -⟩ := hck.at_ (i := n) (Nat.le_refl _)
    have hn := VL.out hv
    have hq1 : n < n + 1 := by omega
    have hq2 : (n : Int) < (n : Int) + 1 := by omega
    obtain ⟨g, o, c9, rfl, k9⟩ : ∃ g o c9, u = .slice (some ⟨g, o, none⟩) 1 c9 ∧ w1.cell? ⟨g, o, none⟩ = some (.int .i64 v.ty) := by
      unfold endP at hend
      cases hst : st.getD n none with
      | none => rw [hst] at hend; cases hend
      | some l =>
        rw [hst] at hu hend
        have hend : l = [v.ty] := hend
        subst hend
        obtain ⟨ad, cA, rfl, hs, -⟩ := hu
        obtain ⟨g, o, x, e, hx, hc⟩ := ints_at hs (show 0 < 1 by decide)
        injection e with e
        subst e
        have hx : v.ty = x := Option.some.inj hx
        subst hx
        exact ⟨g, o, cA, rfl, hc⟩
    have E2 := Lib.hid hv
    clear hv hck hend hu
    go_wp2_with fail
    go_ret2
    exact ⟨by rw [E2.out]; rfl, HB.out⟩
  · rw [if_pos hv] at hr
    subst hr
    have E1 := Lib.hid (VB.out hv).1
    have E2 := Lib.hid hv
    rw [errV_ne hv]
    clear hv
    go_wp2_with fail
    go_ret2
    exact ⟨by rw [E1.out, errV_ne E2.out]; rfl, HB.out⟩
end
end Go.Proofs.YthmbafkedgahaaaDoor
