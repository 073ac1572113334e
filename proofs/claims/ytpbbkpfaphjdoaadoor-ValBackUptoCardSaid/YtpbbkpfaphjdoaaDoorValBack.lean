/- ValBack, where what it reads is of bulk at most 1048576: what is shown is read as it was; what is read is shown as it was; numbers go back; values are in one order. -/
import Derived.Test.YtpbbkpfaphjdoaaDoorOpenEx
import Derived.Test.YtpbbkpfaphjdoaaDoorParse
import Derived.Test.YtpbbkpfaphjdoaaDoorPrint
import Derived.Test.YtpbbkpfaphjdoaaDoorReckon
import Derived.Test.YtpbbkpfaphjdoaaDoorTold
import Derived.Test.YtpbbkpfaphjdoaaDoorOpenExN
import Derived.Test.YtpbbkpfaphjdoaaDoorErrEq
import Derived.Deep.Cut
import Derived.Deep.CutRange
import Derived.Test.YtpbbkpfaphjdoaaDoorCards
import Derived.Test.YtpbbkpfaphjdoaaDoorTie
import Derived.Stop.Joined
import Derived.SevenTiedAt
import Derived.Deep.DeepWitnessRowRef
import Derived.Deep.DeepHandedRow
namespace Go.Proofs.YtpbbkpfaphjdoaaDoor.valBack
open Go.ChangeShapes Go.WideShapes Go.ChangeAt Go.RowKit

theorem add_back {x y : Int} (hx : fits x) (h : reckonErr [43] x y = 0) : reckonErr [45] (reckonVal [43] x y) y = 0 ∧ reckonVal [45] (reckonVal [43] x y) y = x := by
  unfold reckonErr isOp exact_ at h
  have hf : fits (x + y) := by by_cases hf : fits (x + y) <;> simp [hf] at h ⊢
  have hv : reckonVal [43] x y = x + y := by unfold reckonVal exact_; simp [hf]
  rw [hv]
  have e : x + y - y = x := by omega
  unfold reckonErr reckonVal isOp exact_
  simp [e, hx]
theorem div_back {x y : Int} (hx : fits x) (h : reckonErr [47] x y = 0) :
    reckonErr [37] x y = 0 ∧ reckonErr [42] (reckonVal [47] x y) y = 0 ∧ reckonErr [43] (reckonVal [42] (reckonVal [47] x y) y) (reckonVal [37] x y) = 0 ∧ reckonVal [43] (reckonVal [42] (reckonVal [47] x y) y) (reckonVal [37] x y) = x := by
  unfold reckonErr isOp exact_ at h
  by_cases hy : y = 0
  · simp [hy] at h
  have hf : fits (x.tdiv y) := by by_cases hf : fits (x.tdiv y) <;> simp [hf, hy] at h ⊢
  have hq : reckonVal [47] x y = x.tdiv y := by unfold reckonVal exact_; simp [hf, hy]
  have hsum : x.tdiv y * y + x.tmod y = x := by rw [Int.mul_comm]; exact Int.mul_tdiv_add_tmod x y
  have hm : fits (x.tmod y) ∧ fits (x.tdiv y * y) := by
    unfold fits lo63 hi63 at hx ⊢
    rcases Int.le_total 0 x with h0 | h0
    · have h1 := Int.tmod_nonneg y h0
      have h2 : 0 ≤ x.tdiv y * y := by
        rcases Int.le_total 0 y with h3 | h3
        · exact Int.mul_nonneg (Int.tdiv_nonneg h0 h3) h3
        · exact Int.mul_nonneg_of_nonpos_of_nonpos (Int.tdiv_nonpos_of_nonneg_of_nonpos h0 h3) h3
      omega
    · have e1 : x.tmod y = -((-x).tmod y) := by rw [Int.neg_tmod]; omega
      have h1 := Int.tmod_nonneg y (show 0 ≤ -x by omega)
      have e2 : x.tdiv y * y = -((-x).tdiv y * y) := by rw [Int.neg_tdiv, Int.neg_mul, Int.neg_neg]
      have h2 : 0 ≤ (-x).tdiv y * y := by
        rcases Int.le_total 0 y with h3 | h3
        · exact Int.mul_nonneg (Int.tdiv_nonneg (by omega) h3) h3
        · exact Int.mul_nonneg_of_nonpos_of_nonpos (Int.tdiv_nonpos_of_nonneg_of_nonpos (by omega) h3) h3
      have h4 : (-x).tdiv y * y + (-x).tmod y = -x := by rw [Int.mul_comm]; exact Int.mul_tdiv_add_tmod (-x) y
      omega
  have hr : reckonVal [37] x y = x.tmod y := by unfold reckonVal exact_; simp [hm.1, hy]
  have hp : reckonVal [42] (x.tdiv y) y = x.tdiv y * y := by unfold reckonVal exact_; simp [hm.2]
  rw [hq, hr, hp]
  refine ⟨by unfold reckonErr isOp exact_; simp [hm.1, hy], by unfold reckonErr isOp exact_; simp [hm.2], ?_, ?_⟩
  · unfold reckonErr isOp exact_; simp [hsum, hx]
  · unfold reckonVal exact_; simp [hsum, hx]
/-! ### the walk -/
theorem cmp_sym {a b : Val} (h : cmpErr a b = 0) : cmpErr b a = 0 := by
  obtain ⟨h1, h2, h3⟩ := cmpErr_zero h
  exact cmpErr_ok h2 h1 h3.symm
theorem ord_three (a b : Val) : vorder a b = -1 ∨ vorder a b = 0 ∨ vorder a b = 1 := by
  unfold vorder
  split
  · exact ob_vals _ _
  · unfold Lib.compareInt; split
    · exact Or.inl rfl
    · split
      · exact Or.inr (Or.inr rfl)
      · exact Or.inr (Or.inl rfl)
theorem vals_differ {a b : Val} (h : a ≠ b) (ht : a.type = b.type) : (a.n == b.n) = false ∨ ((a.n == b.n) = true ∧ (a.s.toList == b.s.toList) = false) := by
  obtain ⟨t, n, s⟩ := a
  obtain ⟨t2, n2, s2⟩ := b
  obtain rfl : t = t2 := ht
  by_cases h1 : n = n2
  · subst h1
    refine Or.inr ⟨by simp, ?_⟩
    rw [Lib.toList_data, Lib.toList_data]
    exact beq_eq_false_iff_ne.2 (fun e => h (by have e2 : s = s2 := toList_inj e; rw [e2]))
  · exact Or.inl (beq_eq_false_iff_ne.2 h1)
set_option maxHeartbeats 16000000 in
set_option maxRecDepth 100000 in
theorem walk (a b c : Val) (s : ByteArray) (x y : Int) (W : World) (ha : a.wf) (_hb : b.wf) (_hc : c.wf) (hs : s.size ≤ 2000000) (hx : fits x) (hy : fits y) (hT : TextT W) (hN : NumT W) :
    Calls Tryd.prog 8 #[.agg #[.int .i64 a.type, .int .i64 a.n, .string a.s], .agg #[.int .i64 b.type, .int .i64 b.n, .string b.s], .agg #[.int .i64 c.type, .int .i64 c.n, .string c.s], .string s, .int .i64 x, .int .i64 y] W
      fun e W' => e = .returned (.bool true) ∧ Below W.heap.size W W' := by
  obtain ⟨W0, hW0⟩ : ∃ W0, (((W.alloc (.cells #[.int .i64 a.type, .int .i64 a.n, .string a.s] 54)).alloc (.cells #[.int .i64 b.type, .int .i64 b.n, .string b.s] 54)).alloc (.cells #[.int .i64 c.type, .int .i64 c.n, .string c.s] 54)) = W0 := ⟨_, rfl⟩
  have HW0 := Lib.hid hW0
  have hb1 := belowNew' W (.cells #[.int .i64 a.type, .int .i64 a.n, .string a.s] 54)
  have hoa := own3_new W a
  generalize hw1 : W.alloc (.cells #[.int .i64 a.type, .int .i64 a.n, .string a.s] 54) = w1 at hb1 hoa hW0
  have hs1 : w1.heap.size = W.heap.size + 1 := by rw [← hw1]; simp
  have hb2 := belowNew' w1 (.cells #[.int .i64 b.type, .int .i64 b.n, .string b.s] 54)
  have hob := own3_new w1 b
  generalize hw2 : w1.alloc (.cells #[.int .i64 b.type, .int .i64 b.n, .string b.s] 54) = w2 at hb2 hob hW0
  have hs2 : w2.heap.size = W.heap.size + 1 + 1 := by rw [← hw2]; simp [hs1]
  have hb3 := belowNew' w2 (.cells #[.int .i64 c.type, .int .i64 c.n, .string c.s] 54)
  have hoc := own3_new w2 c
  rw [hW0] at hb3 hoc
  have HA := Lib.hid ((hoa.keep hb2).keep hb3)
  have HBb := Lib.hid (show Own3 W0 (W.heap.size + 1) b by rw [← hs1]; exact hob.keep hb3)
  have HCc := Lib.hid (show Own3 W0 (W.heap.size + 1 + 1) c by rw [← hs2]; exact hoc)
  have HB0 := Lib.hid (below_step (below_step hb1 hb2) hb3)
  have HT := Lib.hid (hT.keep HB0.out)
  have HN := Lib.hid (hN.keep HB0.out)
  clear hb1 hb2 hb3 hoa hob hoc hW0 hw1 hw2 hs1 hs2 hT hN
  have HCE := Lib.hid (fun (w' : World) (h : Below W0.heap.size W0 w') => And.intro (HA.out.keep h).cells (And.intro (HBb.out.keep h).cells (HCc.out.keep h).cells))
  have TP := Lib.hid (fun (v : Val) (hv : v.wf) (w' : World) (h : Below W0.heap.size W0 w') => print_any v hv w' (HT.out.keep h))
  have TQ := Lib.hid (fun (q : ByteArray) (hq : q.size ≤ 2000000) (w' : World) (h : Below W0.heap.size W0 w') => parse_any q hq w' (HT.out.keep h) (HN.out.keep h))
  have HX := Lib.hid hx
  have HY := Lib.hid hy
  have HAW := Lib.hid ha
  have HS := Lib.hid hs
  clear ha _hb _hc hx hy hs
  unfold PrintSays at TP
  unfold ParseSays at TQ
  -- the stages' facts
  have F0 := Lib.hid (TP.out ⟨3, 0, ⟨#[105, 116, 39, 115]⟩⟩ ⟨by decide, by decide, by decide⟩ W0 (Below.refl _ _))
  rw [show vcheck ⟨3, 0, ⟨#[105, 116, 39, 115]⟩⟩ = 0 by decide, errV_zero, if_pos rfl, show valText ⟨3, 0, ⟨#[105, 116, 39, 115]⟩⟩ = [39, 105, 116, 39, 39, 115, 39] by decide] at F0
  have FA := Lib.hid (TP.out a HAW.out)
  have FA2 := Lib.hid (fun h : vcheck a = 0 => TQ.out ⟨(valText a).toArray⟩ (by show (valText a).length ≤ _; have := valText_len HAW.out.2.1 h; omega))
  have FS := Lib.hid (TQ.out s HS.out)
  have HSR := Lib.hid (fun (h : (readP s.data.toList).2 = 0) => show_read (l := s.data.toList) (v := (readP s.data.toList).1) (by rw [← h]))
  generalize (readP s.data.toList).1 = v at FS HSR
  generalize (readP s.data.toList).2 = ks at FS HSR
  go_enter Tryd.func8, Tryd.ntmps8
  go_wp2_with fail
  rw [HW0.out]
  refine (F0.out).mono ?_
  rintro e w1 ⟨rfl, hb1⟩
  have HB1 := Lib.hid hb1
  clear hb1 F0
  obtain ⟨⟨a0, a1, a2, -, -, -, -⟩, -⟩ := HCE.out w1 HB1.out
  have FA1 := Lib.hid (FA.out w1 HB1.out)
  have QA := errVNil (vcheck a)
  have QA2 := errVGuard 57 (vcheck a)
  generalize hst : (if vcheck a = 0 then (⟨(valText a).toArray⟩ : ByteArray) else ⟨#[]⟩) = st at FA1
  have HST := Lib.hid hst
  clear hst FA
  go_wp2_with fail
  refine (FA1.out).mono ?_
  rintro e w2 ⟨rfl, hb_⟩
  have HB2 := Lib.hid (HB1.out.trans (hb_.mono HB1.out.size))
  clear hb_
  clear FA1
  go_upto_if 58 with fail
  clear QA QA2 a0 a1 a2
  go_cut [12] from 17 to 70 (fun s12 wx => s12 = .bool false ∧ Below W0.heap.size W0 wx)
  case first =>
    by_cases hca : vcheck a = 0
    · have QB : (vcheck a == 0) = true := beq_iff_eq.2 hca
      have HS2 := Lib.hid (HST.out.symm.trans (if_pos hca))
      have FA3 := Lib.hid (FA2.out hca)
      rw [read_show (by have := HAW.out.2.1; unfold fits lo63 hi63 at this; exact this) hca] at FA3
      obtain rfl := HS2.out
      clear hca FA2 HST HS2
      unfold valV at FA3
      rw [errV_zero] at FA3
      go_wp2_with fail
      refine (FA3.out w2 HB2.out).mono ?_
      rintro e w3 ⟨rfl, hb_⟩
      have HB3 := Lib.hid (HB2.out.trans (hb_.mono HB2.out.size))
      clear hb_
      obtain ⟨w4, hww4⟩ : ∃ w4, w3.alloc (.cells #[.int .i64 a.type, .int .i64 a.n, .string a.s] 54) = w4 := ⟨_, rfl⟩
      have hxw4 := belowNew' w3 (.cells #[.int .i64 a.type, .int .i64 a.n, .string a.s] 54)
      have how4 := own3_new w3 a
      rw [hww4] at hxw4 how4
      have HB4 := Lib.hid (HB3.out.trans (hxw4.mono HB3.out.size))
      obtain ⟨q0, q1, q2, -, -, -, -⟩ := how4.cells
      have HWw4 := Lib.hid hww4
      clear hww4 hxw4 how4
      obtain ⟨⟨a0, a1, a2, -, -, -, -⟩, -⟩ := HCE.out w4 HB4.out
      clear FA3
      go_wp2_with (first | rw [HWw4.out])
      go_meet
      exact ⟨rfl, HB4.out⟩
    · have QB : (vcheck a == 0) = false := beq_eq_false_iff_ne.2 hca
      clear hca FA2 HST
      go_wp2_with fail
      go_meet
      exact ⟨rfl, HB2.out⟩
  case rest =>
    obtain ⟨rfl, hbl⟩ := hcut
    have HB4 := Lib.hid hbl
    clear hbl HST FA2
    go_wp2_with fail
    refine (FS.out wc HB4.out).mono ?_
    rintro e w5 ⟨rfl, hb_⟩
    have HB5 := Lib.hid (HB4.out.trans (hb_.mono HB4.out.size))
    clear hb_
    unfold valV
    obtain ⟨w6, hww6⟩ : ∃ w6, w5.alloc (.cells #[.int .i64 v.type, .int .i64 v.n, .string v.s] 54) = w6 := ⟨_, rfl⟩
    have hxw6 := belowNew' w5 (.cells #[.int .i64 v.type, .int .i64 v.n, .string v.s] 54)
    have how6 := own3_new w5 v
    rw [hww6] at hxw6 how6
    have HB6 := Lib.hid (HB5.out.trans (hxw6.mono HB5.out.size))
    obtain ⟨q0, q1, q2, -, -, -, -⟩ := how6.cells
    have HWw6 := Lib.hid hww6
    clear hww6 hxw6 how6
    have QS := errVNil ks
    have QS2 := errVGuard 76 ks
    clear FS
    go_upto_if 77 with (first | rw [HWw6.out])
    clear QS QS2
    go_cut [12] from 20 to 89 (fun s12 wx => s12 = .bool false ∧ Below W0.heap.size W0 wx)
    case first =>
      by_cases hks : ks = 0
      · have QB : (ks == 0) = true := beq_iff_eq.2 hks
        obtain ⟨r1, r2, r3, r4⟩ := HSR.out hks
        have FV := Lib.hid (TP.out v ⟨by unfold fitsN at r4; unfold fits lo63 hi63; exact r4, by unfold fitsN at r3; unfold fits lo63 hi63; exact r3, by have := vcheck_size r1; unfold maxLen; omega⟩ w6 HB6.out)
        rw [r1, errV_zero, if_pos rfl, r2, mk_toList] at FV
        clear r1 r2 r3 r4 HSR hks
        go_wp2_with fail
        refine (FV.out).mono ?_
        rintro e w7 ⟨rfl, hb_⟩
        have HB7 := Lib.hid (HB6.out.trans (hb_.mono HB6.out.size))
        clear hb_
        clear FV
        go_wp2_with fail
        go_meet
        exact ⟨rfl, HB7.out⟩
      · have QB : (ks == 0) = false := beq_eq_false_iff_ne.2 hks
        clear hks HSR
        go_wp2_with fail
        go_meet
        exact ⟨rfl, HB6.out⟩
    case rest =>
      obtain ⟨rfl, hbl⟩ := hcut
      have HB7 := Lib.hid hbl
      clear hbl HSR q0 q1 q2
      go_wp2_with fail
      refine (reckon_at _ [43] rfl x y _ HX.out HY.out).mono ?_
      rintro e w' ⟨rfl, rfl⟩
      have AB := Lib.hid (fun h => add_back (x := x) (y := y) HX.out h)
      have FVA := Lib.hid (reckonVal_fits [43] x y)
      generalize reckonVal [43] x y = va at AB FVA ⊢
      generalize reckonErr [43] x y = ka at AB ⊢
      have QK := errVNil ka
      have QK2 := errVGuard 96 ka
      go_upto_if 97 with fail
      clear QK QK2
      go_cut [12] from 24 to 110 (fun s12 wx => s12 = .bool false ∧ Below W0.heap.size W0 wx)
      case first =>
        by_cases hka : ka = 0
        · have QB : (ka == 0) = true := beq_iff_eq.2 hka
          obtain ⟨r1, r2⟩ := AB.out hka
          clear hka AB
          go_wp2_with fail
          refine (reckon_at _ [45] rfl va y _ FVA.out HY.out).mono ?_
          rintro e w' ⟨rfl, rfl⟩
          rw [r1, r2, errV_zero]
          clear r1 r2 FVA
          go_wp2_with fail
          go_meet
          exact ⟨rfl, HB7.out⟩
        · have QB : (ka == 0) = false := beq_eq_false_iff_ne.2 hka
          clear hka AB FVA
          go_wp2_with fail
          go_meet
          exact ⟨rfl, HB7.out⟩
      case rest =>
        obtain ⟨rfl, hbl⟩ := hcut
        have HB8 := Lib.hid hbl
        clear hbl AB FVA
        go_wp2_with fail
        refine (reckon_at _ [47] rfl x y _ HX.out HY.out).mono ?_
        rintro e w' ⟨rfl, rfl⟩
        have DB := Lib.hid (fun h => div_back (x := x) (y := y) HX.out h)
        have FQ := Lib.hid (reckonVal_fits [47] x y)
        have FR := Lib.hid (reckonVal_fits [37] x y)
        generalize reckonErr [47] x y = kd at DB ⊢
        generalize reckonVal [47] x y = q at DB FQ ⊢
        go_wp2_with fail
        refine (reckon_at _ [37] rfl x y _ HX.out HY.out).mono ?_
        rintro e w' ⟨rfl, rfl⟩
        generalize reckonVal [37] x y = r at DB FR ⊢
        generalize reckonErr [37] x y = kr at DB ⊢
        have QK := errVNil kd
        have QK2 := errVGuard 123 kd
        go_upto_if 124 with fail
        clear QK QK2
        go_cut [12] from 29 to 151 (fun s12 wx => s12 = .bool false ∧ Below W0.heap.size W0 wx)
        case first =>
          by_cases hkd : kd = 0
          · have QB : (kd == 0) = true := beq_iff_eq.2 hkd
            obtain ⟨rfl, r2, r3, r4⟩ := DB.out hkd
            rw [errV_zero]
            have FM := Lib.hid (reckonVal_fits [42] q y)
            clear hkd DB
            go_wp2_with fail
            refine (reckon_at _ [42] rfl q y _ FQ.out HY.out).mono ?_
            rintro e w' ⟨rfl, rfl⟩
            rw [r2, errV_zero]
            generalize reckonVal [42] q y = mm at r3 r4 FM ⊢
            clear r2
            go_wp2_with fail
            refine (reckon_at _ [43] rfl mm r _ FM.out FR.out).mono ?_
            rintro e w' ⟨rfl, rfl⟩
            rw [r3, r4, errV_zero]
            clear r3 r4 FM FQ FR
            go_wp2_with fail
            go_meet
            exact ⟨rfl, HB8.out⟩
          · have QB : (kd == 0) = false := beq_eq_false_iff_ne.2 hkd
            clear hkd DB FQ FR
            go_wp2_with fail
            go_meet
            exact ⟨rfl, HB8.out⟩
        case rest =>
          obtain ⟨rfl, hbl⟩ := hcut
          have HB9 := Lib.hid hbl
          clear hbl DB FQ FR
          obtain ⟨⟨a0, a1, a2, -, -, -, -⟩, ⟨b0, b1, b2, -, -, -, -⟩, ⟨c0, c1, c2, -, -, -, -⟩⟩ := HCE.out _ HB9.out
          go_wp2_with fail
          have TC := Lib.hid (fun u v w' => compare_any u v w')
          unfold CmpSays at TC
          have T3 := Lib.hid (TC.out b c)
          have T4 := Lib.hid (TC.out a c)
          by_cases h1 : cmpErr a b = 0
          · have T1 := Lib.hid (TC.out a b)
            have T2 := Lib.hid (TC.out b a)
            obtain ⟨va, vb, ht⟩ := cmpErr_zero h1
            rw [h1, errV_zero, if_pos rfl] at T1
            rw [cmp_sym h1, errV_zero, if_pos rfl, ord_neg ht] at T2
            have hz := ord_zero va vb ht
            have et : (a.type == b.type) = true := beq_iff_eq.2 ht
            have TRN := Lib.hid (fun (g1 : vorder a b ≤ 0) (g3 : vorder b c ≤ 0) => ord_trans ht g1 g3)
            clear TC h1 va vb
            rcases ord_three a b with hI | hI | hI
            · as_aux_lemma =>
              rw [hI] at T1 T2
              rw [show (-(-1) : Int) = 1 from rfl] at T2
              have TRN := Lib.hid (TRN.out (by omega))
              have hne : a ≠ b := fun e => by have := hz.2 e; omega
              rcases vals_differ hne ht with en | ⟨en, es⟩
              · clear hI hz ht hne
                by_cases k3 : cmpErr b c = 0
                · rw [k3, errV_zero, if_pos rfl] at T3
                  by_cases k4 : cmpErr a c = 0
                  · rw [k4, errV_zero, if_pos rfl] at T4
                    by_cases g3 : 0 < vorder b c
                    · have d3 : decide (0 < vorder b c) = true := decide_eq_true g3
                      clear k3 k4 TRN g3
                      generalize vorder b c = I3 at T3 d3
                      generalize vorder a c = I4 at T4
                      refine (T1.out _).mono ?_
                      rintro e x1 ⟨rfl, hb_⟩
                      have HZ1 := Lib.hid (HB9.out.trans (hb_.mono HB9.out.size))
                      clear hb_ a0 a1 a2 b0 b1 b2 c0 c1 c2
                      obtain ⟨⟨a0, a1, a2, -, -, -, -⟩, ⟨b0, b1, b2, -, -, -, -⟩, ⟨c0, c1, c2, -, -, -, -⟩⟩ := HCE.out _ HZ1.out
                      go_wp2_with fail
                      refine (T2.out _).mono ?_
                      rintro e x2 ⟨rfl, hb_⟩
                      have HZ2 := Lib.hid (HZ1.out.trans (hb_.mono HZ1.out.size))
                      clear hb_ a0 a1 a2 b0 b1 b2 c0 c1 c2
                      obtain ⟨⟨a0, a1, a2, -, -, -, -⟩, ⟨b0, b1, b2, -, -, -, -⟩, ⟨c0, c1, c2, -, -, -, -⟩⟩ := HCE.out _ HZ2.out
                      go_wp2_with fail
                      refine (T3.out _).mono ?_
                      rintro e x3 ⟨rfl, hb_⟩
                      have HZ3 := Lib.hid (HZ2.out.trans (hb_.mono HZ2.out.size))
                      clear hb_ a0 a1 a2 b0 b1 b2 c0 c1 c2
                      obtain ⟨⟨a0, a1, a2, -, -, -, -⟩, ⟨b0, b1, b2, -, -, -, -⟩, ⟨c0, c1, c2, -, -, -, -⟩⟩ := HCE.out _ HZ3.out
                      go_wp2_with fail
                      refine (T4.out _).mono ?_
                      rintro e x4 ⟨rfl, hb_⟩
                      have HZ4 := Lib.hid (HZ3.out.trans (hb_.mono HZ3.out.size))
                      clear hb_ a0 a1 a2 b0 b1 b2 c0 c1 c2
                      obtain ⟨⟨a0, a1, a2, -, -, -, -⟩, ⟨b0, b1, b2, -, -, -, -⟩, ⟨c0, c1, c2, -, -, -, -⟩⟩ := HCE.out _ HZ4.out
                      go_wp2_with fail
                      go_ret
                      exact ⟨rfl, below_step HB0.out HZ4.out⟩
                    · have d3 : decide (0 < vorder b c) = false := decide_eq_false g3
                      have d4 : decide (vorder a c ≤ 0) = true := decide_eq_true (TRN.out (by omega))
                      clear k3 k4 TRN g3
                      generalize vorder b c = I3 at T3 d3
                      generalize vorder a c = I4 at T4 d4
                      refine (T1.out _).mono ?_
                      rintro e x1 ⟨rfl, hb_⟩
                      have HZ1 := Lib.hid (HB9.out.trans (hb_.mono HB9.out.size))
                      clear hb_ a0 a1 a2 b0 b1 b2 c0 c1 c2
                      obtain ⟨⟨a0, a1, a2, -, -, -, -⟩, ⟨b0, b1, b2, -, -, -, -⟩, ⟨c0, c1, c2, -, -, -, -⟩⟩ := HCE.out _ HZ1.out
                      go_wp2_with fail
                      refine (T2.out _).mono ?_
                      rintro e x2 ⟨rfl, hb_⟩
                      have HZ2 := Lib.hid (HZ1.out.trans (hb_.mono HZ1.out.size))
                      clear hb_ a0 a1 a2 b0 b1 b2 c0 c1 c2
                      obtain ⟨⟨a0, a1, a2, -, -, -, -⟩, ⟨b0, b1, b2, -, -, -, -⟩, ⟨c0, c1, c2, -, -, -, -⟩⟩ := HCE.out _ HZ2.out
                      go_wp2_with fail
                      refine (T3.out _).mono ?_
                      rintro e x3 ⟨rfl, hb_⟩
                      have HZ3 := Lib.hid (HZ2.out.trans (hb_.mono HZ2.out.size))
                      clear hb_ a0 a1 a2 b0 b1 b2 c0 c1 c2
                      obtain ⟨⟨a0, a1, a2, -, -, -, -⟩, ⟨b0, b1, b2, -, -, -, -⟩, ⟨c0, c1, c2, -, -, -, -⟩⟩ := HCE.out _ HZ3.out
                      go_wp2_with fail
                      refine (T4.out _).mono ?_
                      rintro e x4 ⟨rfl, hb_⟩
                      have HZ4 := Lib.hid (HZ3.out.trans (hb_.mono HZ3.out.size))
                      clear hb_ a0 a1 a2 b0 b1 b2 c0 c1 c2
                      obtain ⟨⟨a0, a1, a2, -, -, -, -⟩, ⟨b0, b1, b2, -, -, -, -⟩, ⟨c0, c1, c2, -, -, -, -⟩⟩ := HCE.out _ HZ4.out
                      go_wp2_with fail
                      go_ret
                      exact ⟨rfl, below_step HB0.out HZ4.out⟩
                  · rw [errV_ne k4, if_neg k4] at T4
                    clear k3 k4 TRN
                    generalize vorder b c = I3 at T3
                    generalize cmpErr a c = e4 at T4
                    refine (T1.out _).mono ?_
                    rintro e x1 ⟨rfl, hb_⟩
                    have HZ1 := Lib.hid (HB9.out.trans (hb_.mono HB9.out.size))
                    clear hb_ a0 a1 a2 b0 b1 b2 c0 c1 c2
                    obtain ⟨⟨a0, a1, a2, -, -, -, -⟩, ⟨b0, b1, b2, -, -, -, -⟩, ⟨c0, c1, c2, -, -, -, -⟩⟩ := HCE.out _ HZ1.out
                    go_wp2_with fail
                    refine (T2.out _).mono ?_
                    rintro e x2 ⟨rfl, hb_⟩
                    have HZ2 := Lib.hid (HZ1.out.trans (hb_.mono HZ1.out.size))
                    clear hb_ a0 a1 a2 b0 b1 b2 c0 c1 c2
                    obtain ⟨⟨a0, a1, a2, -, -, -, -⟩, ⟨b0, b1, b2, -, -, -, -⟩, ⟨c0, c1, c2, -, -, -, -⟩⟩ := HCE.out _ HZ2.out
                    go_wp2_with fail
                    refine (T3.out _).mono ?_
                    rintro e x3 ⟨rfl, hb_⟩
                    have HZ3 := Lib.hid (HZ2.out.trans (hb_.mono HZ2.out.size))
                    clear hb_ a0 a1 a2 b0 b1 b2 c0 c1 c2
                    obtain ⟨⟨a0, a1, a2, -, -, -, -⟩, ⟨b0, b1, b2, -, -, -, -⟩, ⟨c0, c1, c2, -, -, -, -⟩⟩ := HCE.out _ HZ3.out
                    go_wp2_with fail
                    refine (T4.out _).mono ?_
                    rintro e x4 ⟨rfl, hb_⟩
                    have HZ4 := Lib.hid (HZ3.out.trans (hb_.mono HZ3.out.size))
                    clear hb_ a0 a1 a2 b0 b1 b2 c0 c1 c2
                    obtain ⟨⟨a0, a1, a2, -, -, -, -⟩, ⟨b0, b1, b2, -, -, -, -⟩, ⟨c0, c1, c2, -, -, -, -⟩⟩ := HCE.out _ HZ4.out
                    go_wp2_with fail
                    go_ret
                    exact ⟨rfl, below_step HB0.out HZ4.out⟩
                · rw [errV_ne k3, if_neg k3] at T3
                  clear k3 TRN
                  generalize errV (cmpErr a c) = e4 at T4
                  generalize (if cmpErr a c = 0 then vorder a c else 0) = I4 at T4
                  generalize cmpErr b c = e3 at T3
                  refine (T1.out _).mono ?_
                  rintro e x1 ⟨rfl, hb_⟩
                  have HZ1 := Lib.hid (HB9.out.trans (hb_.mono HB9.out.size))
                  clear hb_ a0 a1 a2 b0 b1 b2 c0 c1 c2
                  obtain ⟨⟨a0, a1, a2, -, -, -, -⟩, ⟨b0, b1, b2, -, -, -, -⟩, ⟨c0, c1, c2, -, -, -, -⟩⟩ := HCE.out _ HZ1.out
                  go_wp2_with fail
                  refine (T2.out _).mono ?_
                  rintro e x2 ⟨rfl, hb_⟩
                  have HZ2 := Lib.hid (HZ1.out.trans (hb_.mono HZ1.out.size))
                  clear hb_ a0 a1 a2 b0 b1 b2 c0 c1 c2
                  obtain ⟨⟨a0, a1, a2, -, -, -, -⟩, ⟨b0, b1, b2, -, -, -, -⟩, ⟨c0, c1, c2, -, -, -, -⟩⟩ := HCE.out _ HZ2.out
                  go_wp2_with fail
                  refine (T3.out _).mono ?_
                  rintro e x3 ⟨rfl, hb_⟩
                  have HZ3 := Lib.hid (HZ2.out.trans (hb_.mono HZ2.out.size))
                  clear hb_ a0 a1 a2 b0 b1 b2 c0 c1 c2
                  obtain ⟨⟨a0, a1, a2, -, -, -, -⟩, ⟨b0, b1, b2, -, -, -, -⟩, ⟨c0, c1, c2, -, -, -, -⟩⟩ := HCE.out _ HZ3.out
                  go_wp2_with fail
                  refine (T4.out _).mono ?_
                  rintro e x4 ⟨rfl, hb_⟩
                  have HZ4 := Lib.hid (HZ3.out.trans (hb_.mono HZ3.out.size))
                  clear hb_ a0 a1 a2 b0 b1 b2 c0 c1 c2
                  obtain ⟨⟨a0, a1, a2, -, -, -, -⟩, ⟨b0, b1, b2, -, -, -, -⟩, ⟨c0, c1, c2, -, -, -, -⟩⟩ := HCE.out _ HZ4.out
                  go_wp2_with fail
                  go_ret
                  exact ⟨rfl, below_step HB0.out HZ4.out⟩
              · clear hI hz ht hne
                by_cases k3 : cmpErr b c = 0
                · rw [k3, errV_zero, if_pos rfl] at T3
                  by_cases k4 : cmpErr a c = 0
                  · rw [k4, errV_zero, if_pos rfl] at T4
                    by_cases g3 : 0 < vorder b c
                    · have d3 : decide (0 < vorder b c) = true := decide_eq_true g3
                      clear k3 k4 TRN g3
                      generalize vorder b c = I3 at T3 d3
                      generalize vorder a c = I4 at T4
                      refine (T1.out _).mono ?_
                      rintro e x1 ⟨rfl, hb_⟩
                      have HZ1 := Lib.hid (HB9.out.trans (hb_.mono HB9.out.size))
                      clear hb_ a0 a1 a2 b0 b1 b2 c0 c1 c2
                      obtain ⟨⟨a0, a1, a2, -, -, -, -⟩, ⟨b0, b1, b2, -, -, -, -⟩, ⟨c0, c1, c2, -, -, -, -⟩⟩ := HCE.out _ HZ1.out
                      go_wp2_with fail
                      refine (T2.out _).mono ?_
                      rintro e x2 ⟨rfl, hb_⟩
                      have HZ2 := Lib.hid (HZ1.out.trans (hb_.mono HZ1.out.size))
                      clear hb_ a0 a1 a2 b0 b1 b2 c0 c1 c2
                      obtain ⟨⟨a0, a1, a2, -, -, -, -⟩, ⟨b0, b1, b2, -, -, -, -⟩, ⟨c0, c1, c2, -, -, -, -⟩⟩ := HCE.out _ HZ2.out
                      go_wp2_with fail
                      refine (T3.out _).mono ?_
                      rintro e x3 ⟨rfl, hb_⟩
                      have HZ3 := Lib.hid (HZ2.out.trans (hb_.mono HZ2.out.size))
                      clear hb_ a0 a1 a2 b0 b1 b2 c0 c1 c2
                      obtain ⟨⟨a0, a1, a2, -, -, -, -⟩, ⟨b0, b1, b2, -, -, -, -⟩, ⟨c0, c1, c2, -, -, -, -⟩⟩ := HCE.out _ HZ3.out
                      go_wp2_with fail
                      refine (T4.out _).mono ?_
                      rintro e x4 ⟨rfl, hb_⟩
                      have HZ4 := Lib.hid (HZ3.out.trans (hb_.mono HZ3.out.size))
                      clear hb_ a0 a1 a2 b0 b1 b2 c0 c1 c2
                      obtain ⟨⟨a0, a1, a2, -, -, -, -⟩, ⟨b0, b1, b2, -, -, -, -⟩, ⟨c0, c1, c2, -, -, -, -⟩⟩ := HCE.out _ HZ4.out
                      go_wp2_with fail
                      go_ret
                      exact ⟨rfl, below_step HB0.out HZ4.out⟩
                    · have d3 : decide (0 < vorder b c) = false := decide_eq_false g3
                      have d4 : decide (vorder a c ≤ 0) = true := decide_eq_true (TRN.out (by omega))
                      clear k3 k4 TRN g3
                      generalize vorder b c = I3 at T3 d3
                      generalize vorder a c = I4 at T4 d4
                      refine (T1.out _).mono ?_
                      rintro e x1 ⟨rfl, hb_⟩
                      have HZ1 := Lib.hid (HB9.out.trans (hb_.mono HB9.out.size))
                      clear hb_ a0 a1 a2 b0 b1 b2 c0 c1 c2
                      obtain ⟨⟨a0, a1, a2, -, -, -, -⟩, ⟨b0, b1, b2, -, -, -, -⟩, ⟨c0, c1, c2, -, -, -, -⟩⟩ := HCE.out _ HZ1.out
                      go_wp2_with fail
                      refine (T2.out _).mono ?_
                      rintro e x2 ⟨rfl, hb_⟩
                      have HZ2 := Lib.hid (HZ1.out.trans (hb_.mono HZ1.out.size))
                      clear hb_ a0 a1 a2 b0 b1 b2 c0 c1 c2
                      obtain ⟨⟨a0, a1, a2, -, -, -, -⟩, ⟨b0, b1, b2, -, -, -, -⟩, ⟨c0, c1, c2, -, -, -, -⟩⟩ := HCE.out _ HZ2.out
                      go_wp2_with fail
                      refine (T3.out _).mono ?_
                      rintro e x3 ⟨rfl, hb_⟩
                      have HZ3 := Lib.hid (HZ2.out.trans (hb_.mono HZ2.out.size))
                      clear hb_ a0 a1 a2 b0 b1 b2 c0 c1 c2
                      obtain ⟨⟨a0, a1, a2, -, -, -, -⟩, ⟨b0, b1, b2, -, -, -, -⟩, ⟨c0, c1, c2, -, -, -, -⟩⟩ := HCE.out _ HZ3.out
                      go_wp2_with fail
                      refine (T4.out _).mono ?_
                      rintro e x4 ⟨rfl, hb_⟩
                      have HZ4 := Lib.hid (HZ3.out.trans (hb_.mono HZ3.out.size))
                      clear hb_ a0 a1 a2 b0 b1 b2 c0 c1 c2
                      obtain ⟨⟨a0, a1, a2, -, -, -, -⟩, ⟨b0, b1, b2, -, -, -, -⟩, ⟨c0, c1, c2, -, -, -, -⟩⟩ := HCE.out _ HZ4.out
                      go_wp2_with fail
                      go_ret
                      exact ⟨rfl, below_step HB0.out HZ4.out⟩
                  · rw [errV_ne k4, if_neg k4] at T4
                    clear k3 k4 TRN
                    generalize vorder b c = I3 at T3
                    generalize cmpErr a c = e4 at T4
                    refine (T1.out _).mono ?_
                    rintro e x1 ⟨rfl, hb_⟩
                    have HZ1 := Lib.hid (HB9.out.trans (hb_.mono HB9.out.size))
                    clear hb_ a0 a1 a2 b0 b1 b2 c0 c1 c2
                    obtain ⟨⟨a0, a1, a2, -, -, -, -⟩, ⟨b0, b1, b2, -, -, -, -⟩, ⟨c0, c1, c2, -, -, -, -⟩⟩ := HCE.out _ HZ1.out
                    go_wp2_with fail
                    refine (T2.out _).mono ?_
                    rintro e x2 ⟨rfl, hb_⟩
                    have HZ2 := Lib.hid (HZ1.out.trans (hb_.mono HZ1.out.size))
                    clear hb_ a0 a1 a2 b0 b1 b2 c0 c1 c2
                    obtain ⟨⟨a0, a1, a2, -, -, -, -⟩, ⟨b0, b1, b2, -, -, -, -⟩, ⟨c0, c1, c2, -, -, -, -⟩⟩ := HCE.out _ HZ2.out
                    go_wp2_with fail
                    refine (T3.out _).mono ?_
                    rintro e x3 ⟨rfl, hb_⟩
                    have HZ3 := Lib.hid (HZ2.out.trans (hb_.mono HZ2.out.size))
                    clear hb_ a0 a1 a2 b0 b1 b2 c0 c1 c2
                    obtain ⟨⟨a0, a1, a2, -, -, -, -⟩, ⟨b0, b1, b2, -, -, -, -⟩, ⟨c0, c1, c2, -, -, -, -⟩⟩ := HCE.out _ HZ3.out
                    go_wp2_with fail
                    refine (T4.out _).mono ?_
                    rintro e x4 ⟨rfl, hb_⟩
                    have HZ4 := Lib.hid (HZ3.out.trans (hb_.mono HZ3.out.size))
                    clear hb_ a0 a1 a2 b0 b1 b2 c0 c1 c2
                    obtain ⟨⟨a0, a1, a2, -, -, -, -⟩, ⟨b0, b1, b2, -, -, -, -⟩, ⟨c0, c1, c2, -, -, -, -⟩⟩ := HCE.out _ HZ4.out
                    go_wp2_with fail
                    go_ret
                    exact ⟨rfl, below_step HB0.out HZ4.out⟩
                · rw [errV_ne k3, if_neg k3] at T3
                  clear k3 TRN
                  generalize errV (cmpErr a c) = e4 at T4
                  generalize (if cmpErr a c = 0 then vorder a c else 0) = I4 at T4
                  generalize cmpErr b c = e3 at T3
                  refine (T1.out _).mono ?_
                  rintro e x1 ⟨rfl, hb_⟩
                  have HZ1 := Lib.hid (HB9.out.trans (hb_.mono HB9.out.size))
                  clear hb_ a0 a1 a2 b0 b1 b2 c0 c1 c2
                  obtain ⟨⟨a0, a1, a2, -, -, -, -⟩, ⟨b0, b1, b2, -, -, -, -⟩, ⟨c0, c1, c2, -, -, -, -⟩⟩ := HCE.out _ HZ1.out
                  go_wp2_with fail
                  refine (T2.out _).mono ?_
                  rintro e x2 ⟨rfl, hb_⟩
                  have HZ2 := Lib.hid (HZ1.out.trans (hb_.mono HZ1.out.size))
                  clear hb_ a0 a1 a2 b0 b1 b2 c0 c1 c2
                  obtain ⟨⟨a0, a1, a2, -, -, -, -⟩, ⟨b0, b1, b2, -, -, -, -⟩, ⟨c0, c1, c2, -, -, -, -⟩⟩ := HCE.out _ HZ2.out
                  go_wp2_with fail
                  refine (T3.out _).mono ?_
                  rintro e x3 ⟨rfl, hb_⟩
                  have HZ3 := Lib.hid (HZ2.out.trans (hb_.mono HZ2.out.size))
                  clear hb_ a0 a1 a2 b0 b1 b2 c0 c1 c2
                  obtain ⟨⟨a0, a1, a2, -, -, -, -⟩, ⟨b0, b1, b2, -, -, -, -⟩, ⟨c0, c1, c2, -, -, -, -⟩⟩ := HCE.out _ HZ3.out
                  go_wp2_with fail
                  refine (T4.out _).mono ?_
                  rintro e x4 ⟨rfl, hb_⟩
                  have HZ4 := Lib.hid (HZ3.out.trans (hb_.mono HZ3.out.size))
                  clear hb_ a0 a1 a2 b0 b1 b2 c0 c1 c2
                  obtain ⟨⟨a0, a1, a2, -, -, -, -⟩, ⟨b0, b1, b2, -, -, -, -⟩, ⟨c0, c1, c2, -, -, -, -⟩⟩ := HCE.out _ HZ4.out
                  go_wp2_with fail
                  go_ret
                  exact ⟨rfl, below_step HB0.out HZ4.out⟩
            · as_aux_lemma =>
              rw [hI] at T1 T2
              rw [show (-(0) : Int) = 0 from rfl] at T2
              have TRN := Lib.hid (TRN.out (by omega))
              obtain rfl := hz.1 hI
              clear hI hz ht
              by_cases k3 : cmpErr a c = 0
              · rw [k3, errV_zero, if_pos rfl] at T3
                by_cases k4 : cmpErr a c = 0
                · rw [k4, errV_zero, if_pos rfl] at T4
                  by_cases g3 : 0 < vorder a c
                  · have d3 : decide (0 < vorder a c) = true := decide_eq_true g3
                    clear k3 k4 TRN g3
                    generalize vorder a c = I3 at T3 d3
                    generalize vorder a c = I4 at T4
                    refine (T1.out _).mono ?_
                    rintro e x1 ⟨rfl, hb_⟩
                    have HZ1 := Lib.hid (HB9.out.trans (hb_.mono HB9.out.size))
                    clear hb_ a0 a1 a2 b0 b1 b2 c0 c1 c2
                    obtain ⟨⟨a0, a1, a2, -, -, -, -⟩, ⟨b0, b1, b2, -, -, -, -⟩, ⟨c0, c1, c2, -, -, -, -⟩⟩ := HCE.out _ HZ1.out
                    go_wp2_with fail
                    refine (T2.out _).mono ?_
                    rintro e x2 ⟨rfl, hb_⟩
                    have HZ2 := Lib.hid (HZ1.out.trans (hb_.mono HZ1.out.size))
                    clear hb_ a0 a1 a2 b0 b1 b2 c0 c1 c2
                    obtain ⟨⟨a0, a1, a2, -, -, -, -⟩, ⟨b0, b1, b2, -, -, -, -⟩, ⟨c0, c1, c2, -, -, -, -⟩⟩ := HCE.out _ HZ2.out
                    go_wp2_with fail
                    refine (T3.out _).mono ?_
                    rintro e x3 ⟨rfl, hb_⟩
                    have HZ3 := Lib.hid (HZ2.out.trans (hb_.mono HZ2.out.size))
                    clear hb_ a0 a1 a2 b0 b1 b2 c0 c1 c2
                    obtain ⟨⟨a0, a1, a2, -, -, -, -⟩, ⟨b0, b1, b2, -, -, -, -⟩, ⟨c0, c1, c2, -, -, -, -⟩⟩ := HCE.out _ HZ3.out
                    go_wp2_with fail
                    refine (T4.out _).mono ?_
                    rintro e x4 ⟨rfl, hb_⟩
                    have HZ4 := Lib.hid (HZ3.out.trans (hb_.mono HZ3.out.size))
                    clear hb_ a0 a1 a2 b0 b1 b2 c0 c1 c2
                    obtain ⟨⟨a0, a1, a2, -, -, -, -⟩, ⟨b0, b1, b2, -, -, -, -⟩, ⟨c0, c1, c2, -, -, -, -⟩⟩ := HCE.out _ HZ4.out
                    go_wp2_with fail
                    go_ret
                    exact ⟨rfl, below_step HB0.out HZ4.out⟩
                  · have d3 : decide (0 < vorder a c) = false := decide_eq_false g3
                    have d4 : decide (vorder a c ≤ 0) = true := decide_eq_true (TRN.out (by omega))
                    clear k3 k4 TRN g3
                    generalize vorder a c = I3 at T3 d3
                    generalize vorder a c = I4 at T4 d4
                    refine (T1.out _).mono ?_
                    rintro e x1 ⟨rfl, hb_⟩
                    have HZ1 := Lib.hid (HB9.out.trans (hb_.mono HB9.out.size))
                    clear hb_ a0 a1 a2 b0 b1 b2 c0 c1 c2
                    obtain ⟨⟨a0, a1, a2, -, -, -, -⟩, ⟨b0, b1, b2, -, -, -, -⟩, ⟨c0, c1, c2, -, -, -, -⟩⟩ := HCE.out _ HZ1.out
                    go_wp2_with fail
                    refine (T2.out _).mono ?_
                    rintro e x2 ⟨rfl, hb_⟩
                    have HZ2 := Lib.hid (HZ1.out.trans (hb_.mono HZ1.out.size))
                    clear hb_ a0 a1 a2 b0 b1 b2 c0 c1 c2
                    obtain ⟨⟨a0, a1, a2, -, -, -, -⟩, ⟨b0, b1, b2, -, -, -, -⟩, ⟨c0, c1, c2, -, -, -, -⟩⟩ := HCE.out _ HZ2.out
                    go_wp2_with fail
                    refine (T3.out _).mono ?_
                    rintro e x3 ⟨rfl, hb_⟩
                    have HZ3 := Lib.hid (HZ2.out.trans (hb_.mono HZ2.out.size))
                    clear hb_ a0 a1 a2 b0 b1 b2 c0 c1 c2
                    obtain ⟨⟨a0, a1, a2, -, -, -, -⟩, ⟨b0, b1, b2, -, -, -, -⟩, ⟨c0, c1, c2, -, -, -, -⟩⟩ := HCE.out _ HZ3.out
                    go_wp2_with fail
                    refine (T4.out _).mono ?_
                    rintro e x4 ⟨rfl, hb_⟩
                    have HZ4 := Lib.hid (HZ3.out.trans (hb_.mono HZ3.out.size))
                    clear hb_ a0 a1 a2 b0 b1 b2 c0 c1 c2
                    obtain ⟨⟨a0, a1, a2, -, -, -, -⟩, ⟨b0, b1, b2, -, -, -, -⟩, ⟨c0, c1, c2, -, -, -, -⟩⟩ := HCE.out _ HZ4.out
                    go_wp2_with fail
                    go_ret
                    exact ⟨rfl, below_step HB0.out HZ4.out⟩
                · rw [errV_ne k4, if_neg k4] at T4
                  clear k3 k4 TRN
                  generalize vorder a c = I3 at T3
                  generalize cmpErr a c = e4 at T4
                  refine (T1.out _).mono ?_
                  rintro e x1 ⟨rfl, hb_⟩
                  have HZ1 := Lib.hid (HB9.out.trans (hb_.mono HB9.out.size))
                  clear hb_ a0 a1 a2 b0 b1 b2 c0 c1 c2
                  obtain ⟨⟨a0, a1, a2, -, -, -, -⟩, ⟨b0, b1, b2, -, -, -, -⟩, ⟨c0, c1, c2, -, -, -, -⟩⟩ := HCE.out _ HZ1.out
                  go_wp2_with fail
                  refine (T2.out _).mono ?_
                  rintro e x2 ⟨rfl, hb_⟩
                  have HZ2 := Lib.hid (HZ1.out.trans (hb_.mono HZ1.out.size))
                  clear hb_ a0 a1 a2 b0 b1 b2 c0 c1 c2
                  obtain ⟨⟨a0, a1, a2, -, -, -, -⟩, ⟨b0, b1, b2, -, -, -, -⟩, ⟨c0, c1, c2, -, -, -, -⟩⟩ := HCE.out _ HZ2.out
                  go_wp2_with fail
                  refine (T3.out _).mono ?_
                  rintro e x3 ⟨rfl, hb_⟩
                  have HZ3 := Lib.hid (HZ2.out.trans (hb_.mono HZ2.out.size))
                  clear hb_ a0 a1 a2 b0 b1 b2 c0 c1 c2
                  obtain ⟨⟨a0, a1, a2, -, -, -, -⟩, ⟨b0, b1, b2, -, -, -, -⟩, ⟨c0, c1, c2, -, -, -, -⟩⟩ := HCE.out _ HZ3.out
                  go_wp2_with fail
                  refine (T4.out _).mono ?_
                  rintro e x4 ⟨rfl, hb_⟩
                  have HZ4 := Lib.hid (HZ3.out.trans (hb_.mono HZ3.out.size))
                  clear hb_ a0 a1 a2 b0 b1 b2 c0 c1 c2
                  obtain ⟨⟨a0, a1, a2, -, -, -, -⟩, ⟨b0, b1, b2, -, -, -, -⟩, ⟨c0, c1, c2, -, -, -, -⟩⟩ := HCE.out _ HZ4.out
                  go_wp2_with fail
                  go_ret
                  exact ⟨rfl, below_step HB0.out HZ4.out⟩
              · rw [errV_ne k3, if_neg k3] at T3
                clear k3 TRN
                generalize errV (cmpErr a c) = e4 at T4
                generalize (if cmpErr a c = 0 then vorder a c else 0) = I4 at T4
                generalize cmpErr a c = e3 at T3
                refine (T1.out _).mono ?_
                rintro e x1 ⟨rfl, hb_⟩
                have HZ1 := Lib.hid (HB9.out.trans (hb_.mono HB9.out.size))
                clear hb_ a0 a1 a2 b0 b1 b2 c0 c1 c2
                obtain ⟨⟨a0, a1, a2, -, -, -, -⟩, ⟨b0, b1, b2, -, -, -, -⟩, ⟨c0, c1, c2, -, -, -, -⟩⟩ := HCE.out _ HZ1.out
                go_wp2_with fail
                refine (T2.out _).mono ?_
                rintro e x2 ⟨rfl, hb_⟩
                have HZ2 := Lib.hid (HZ1.out.trans (hb_.mono HZ1.out.size))
                clear hb_ a0 a1 a2 b0 b1 b2 c0 c1 c2
                obtain ⟨⟨a0, a1, a2, -, -, -, -⟩, ⟨b0, b1, b2, -, -, -, -⟩, ⟨c0, c1, c2, -, -, -, -⟩⟩ := HCE.out _ HZ2.out
                go_wp2_with fail
                refine (T3.out _).mono ?_
                rintro e x3 ⟨rfl, hb_⟩
                have HZ3 := Lib.hid (HZ2.out.trans (hb_.mono HZ2.out.size))
                clear hb_ a0 a1 a2 b0 b1 b2 c0 c1 c2
                obtain ⟨⟨a0, a1, a2, -, -, -, -⟩, ⟨b0, b1, b2, -, -, -, -⟩, ⟨c0, c1, c2, -, -, -, -⟩⟩ := HCE.out _ HZ3.out
                go_wp2_with fail
                refine (T4.out _).mono ?_
                rintro e x4 ⟨rfl, hb_⟩
                have HZ4 := Lib.hid (HZ3.out.trans (hb_.mono HZ3.out.size))
                clear hb_ a0 a1 a2 b0 b1 b2 c0 c1 c2
                obtain ⟨⟨a0, a1, a2, -, -, -, -⟩, ⟨b0, b1, b2, -, -, -, -⟩, ⟨c0, c1, c2, -, -, -, -⟩⟩ := HCE.out _ HZ4.out
                go_wp2_with fail
                go_ret
                exact ⟨rfl, below_step HB0.out HZ4.out⟩
            · as_aux_lemma =>
              rw [hI] at T1 T2
              rw [show (-(1) : Int) = -1 from rfl] at T2
              have hne : a ≠ b := fun e => by have := hz.2 e; omega
              rcases vals_differ hne ht with en | ⟨en, es⟩
              · clear hI hz ht hne
                by_cases k3 : cmpErr b c = 0
                · rw [k3, errV_zero, if_pos rfl] at T3
                  by_cases k4 : cmpErr a c = 0
                  · rw [k4, errV_zero, if_pos rfl] at T4
                    clear k3 k4 TRN
                    generalize vorder b c = I3 at T3
                    generalize vorder a c = I4 at T4
                    refine (T1.out _).mono ?_
                    rintro e x1 ⟨rfl, hb_⟩
                    have HZ1 := Lib.hid (HB9.out.trans (hb_.mono HB9.out.size))
                    clear hb_ a0 a1 a2 b0 b1 b2 c0 c1 c2
                    obtain ⟨⟨a0, a1, a2, -, -, -, -⟩, ⟨b0, b1, b2, -, -, -, -⟩, ⟨c0, c1, c2, -, -, -, -⟩⟩ := HCE.out _ HZ1.out
                    go_wp2_with fail
                    refine (T2.out _).mono ?_
                    rintro e x2 ⟨rfl, hb_⟩
                    have HZ2 := Lib.hid (HZ1.out.trans (hb_.mono HZ1.out.size))
                    clear hb_ a0 a1 a2 b0 b1 b2 c0 c1 c2
                    obtain ⟨⟨a0, a1, a2, -, -, -, -⟩, ⟨b0, b1, b2, -, -, -, -⟩, ⟨c0, c1, c2, -, -, -, -⟩⟩ := HCE.out _ HZ2.out
                    go_wp2_with fail
                    refine (T3.out _).mono ?_
                    rintro e x3 ⟨rfl, hb_⟩
                    have HZ3 := Lib.hid (HZ2.out.trans (hb_.mono HZ2.out.size))
                    clear hb_ a0 a1 a2 b0 b1 b2 c0 c1 c2
                    obtain ⟨⟨a0, a1, a2, -, -, -, -⟩, ⟨b0, b1, b2, -, -, -, -⟩, ⟨c0, c1, c2, -, -, -, -⟩⟩ := HCE.out _ HZ3.out
                    go_wp2_with fail
                    refine (T4.out _).mono ?_
                    rintro e x4 ⟨rfl, hb_⟩
                    have HZ4 := Lib.hid (HZ3.out.trans (hb_.mono HZ3.out.size))
                    clear hb_ a0 a1 a2 b0 b1 b2 c0 c1 c2
                    obtain ⟨⟨a0, a1, a2, -, -, -, -⟩, ⟨b0, b1, b2, -, -, -, -⟩, ⟨c0, c1, c2, -, -, -, -⟩⟩ := HCE.out _ HZ4.out
                    go_wp2_with fail
                    go_ret
                    exact ⟨rfl, below_step HB0.out HZ4.out⟩
                  · rw [errV_ne k4, if_neg k4] at T4
                    clear k3 k4 TRN
                    generalize vorder b c = I3 at T3
                    generalize cmpErr a c = e4 at T4
                    refine (T1.out _).mono ?_
                    rintro e x1 ⟨rfl, hb_⟩
                    have HZ1 := Lib.hid (HB9.out.trans (hb_.mono HB9.out.size))
                    clear hb_ a0 a1 a2 b0 b1 b2 c0 c1 c2
                    obtain ⟨⟨a0, a1, a2, -, -, -, -⟩, ⟨b0, b1, b2, -, -, -, -⟩, ⟨c0, c1, c2, -, -, -, -⟩⟩ := HCE.out _ HZ1.out
                    go_wp2_with fail
                    refine (T2.out _).mono ?_
                    rintro e x2 ⟨rfl, hb_⟩
                    have HZ2 := Lib.hid (HZ1.out.trans (hb_.mono HZ1.out.size))
                    clear hb_ a0 a1 a2 b0 b1 b2 c0 c1 c2
                    obtain ⟨⟨a0, a1, a2, -, -, -, -⟩, ⟨b0, b1, b2, -, -, -, -⟩, ⟨c0, c1, c2, -, -, -, -⟩⟩ := HCE.out _ HZ2.out
                    go_wp2_with fail
                    refine (T3.out _).mono ?_
                    rintro e x3 ⟨rfl, hb_⟩
                    have HZ3 := Lib.hid (HZ2.out.trans (hb_.mono HZ2.out.size))
                    clear hb_ a0 a1 a2 b0 b1 b2 c0 c1 c2
                    obtain ⟨⟨a0, a1, a2, -, -, -, -⟩, ⟨b0, b1, b2, -, -, -, -⟩, ⟨c0, c1, c2, -, -, -, -⟩⟩ := HCE.out _ HZ3.out
                    go_wp2_with fail
                    refine (T4.out _).mono ?_
                    rintro e x4 ⟨rfl, hb_⟩
                    have HZ4 := Lib.hid (HZ3.out.trans (hb_.mono HZ3.out.size))
                    clear hb_ a0 a1 a2 b0 b1 b2 c0 c1 c2
                    obtain ⟨⟨a0, a1, a2, -, -, -, -⟩, ⟨b0, b1, b2, -, -, -, -⟩, ⟨c0, c1, c2, -, -, -, -⟩⟩ := HCE.out _ HZ4.out
                    go_wp2_with fail
                    go_ret
                    exact ⟨rfl, below_step HB0.out HZ4.out⟩
                · rw [errV_ne k3, if_neg k3] at T3
                  clear k3 TRN
                  generalize errV (cmpErr a c) = e4 at T4
                  generalize (if cmpErr a c = 0 then vorder a c else 0) = I4 at T4
                  generalize cmpErr b c = e3 at T3
                  refine (T1.out _).mono ?_
                  rintro e x1 ⟨rfl, hb_⟩
                  have HZ1 := Lib.hid (HB9.out.trans (hb_.mono HB9.out.size))
                  clear hb_ a0 a1 a2 b0 b1 b2 c0 c1 c2
                  obtain ⟨⟨a0, a1, a2, -, -, -, -⟩, ⟨b0, b1, b2, -, -, -, -⟩, ⟨c0, c1, c2, -, -, -, -⟩⟩ := HCE.out _ HZ1.out
                  go_wp2_with fail
                  refine (T2.out _).mono ?_
                  rintro e x2 ⟨rfl, hb_⟩
                  have HZ2 := Lib.hid (HZ1.out.trans (hb_.mono HZ1.out.size))
                  clear hb_ a0 a1 a2 b0 b1 b2 c0 c1 c2
                  obtain ⟨⟨a0, a1, a2, -, -, -, -⟩, ⟨b0, b1, b2, -, -, -, -⟩, ⟨c0, c1, c2, -, -, -, -⟩⟩ := HCE.out _ HZ2.out
                  go_wp2_with fail
                  refine (T3.out _).mono ?_
                  rintro e x3 ⟨rfl, hb_⟩
                  have HZ3 := Lib.hid (HZ2.out.trans (hb_.mono HZ2.out.size))
                  clear hb_ a0 a1 a2 b0 b1 b2 c0 c1 c2
                  obtain ⟨⟨a0, a1, a2, -, -, -, -⟩, ⟨b0, b1, b2, -, -, -, -⟩, ⟨c0, c1, c2, -, -, -, -⟩⟩ := HCE.out _ HZ3.out
                  go_wp2_with fail
                  refine (T4.out _).mono ?_
                  rintro e x4 ⟨rfl, hb_⟩
                  have HZ4 := Lib.hid (HZ3.out.trans (hb_.mono HZ3.out.size))
                  clear hb_ a0 a1 a2 b0 b1 b2 c0 c1 c2
                  obtain ⟨⟨a0, a1, a2, -, -, -, -⟩, ⟨b0, b1, b2, -, -, -, -⟩, ⟨c0, c1, c2, -, -, -, -⟩⟩ := HCE.out _ HZ4.out
                  go_wp2_with fail
                  go_ret
                  exact ⟨rfl, below_step HB0.out HZ4.out⟩
              · clear hI hz ht hne
                by_cases k3 : cmpErr b c = 0
                · rw [k3, errV_zero, if_pos rfl] at T3
                  by_cases k4 : cmpErr a c = 0
                  · rw [k4, errV_zero, if_pos rfl] at T4
                    clear k3 k4 TRN
                    generalize vorder b c = I3 at T3
                    generalize vorder a c = I4 at T4
                    refine (T1.out _).mono ?_
                    rintro e x1 ⟨rfl, hb_⟩
                    have HZ1 := Lib.hid (HB9.out.trans (hb_.mono HB9.out.size))
                    clear hb_ a0 a1 a2 b0 b1 b2 c0 c1 c2
                    obtain ⟨⟨a0, a1, a2, -, -, -, -⟩, ⟨b0, b1, b2, -, -, -, -⟩, ⟨c0, c1, c2, -, -, -, -⟩⟩ := HCE.out _ HZ1.out
                    go_wp2_with fail
                    refine (T2.out _).mono ?_
                    rintro e x2 ⟨rfl, hb_⟩
                    have HZ2 := Lib.hid (HZ1.out.trans (hb_.mono HZ1.out.size))
                    clear hb_ a0 a1 a2 b0 b1 b2 c0 c1 c2
                    obtain ⟨⟨a0, a1, a2, -, -, -, -⟩, ⟨b0, b1, b2, -, -, -, -⟩, ⟨c0, c1, c2, -, -, -, -⟩⟩ := HCE.out _ HZ2.out
                    go_wp2_with fail
                    refine (T3.out _).mono ?_
                    rintro e x3 ⟨rfl, hb_⟩
                    have HZ3 := Lib.hid (HZ2.out.trans (hb_.mono HZ2.out.size))
                    clear hb_ a0 a1 a2 b0 b1 b2 c0 c1 c2
                    obtain ⟨⟨a0, a1, a2, -, -, -, -⟩, ⟨b0, b1, b2, -, -, -, -⟩, ⟨c0, c1, c2, -, -, -, -⟩⟩ := HCE.out _ HZ3.out
                    go_wp2_with fail
                    refine (T4.out _).mono ?_
                    rintro e x4 ⟨rfl, hb_⟩
                    have HZ4 := Lib.hid (HZ3.out.trans (hb_.mono HZ3.out.size))
                    clear hb_ a0 a1 a2 b0 b1 b2 c0 c1 c2
                    obtain ⟨⟨a0, a1, a2, -, -, -, -⟩, ⟨b0, b1, b2, -, -, -, -⟩, ⟨c0, c1, c2, -, -, -, -⟩⟩ := HCE.out _ HZ4.out
                    go_wp2_with fail
                    go_ret
                    exact ⟨rfl, below_step HB0.out HZ4.out⟩
                  · rw [errV_ne k4, if_neg k4] at T4
                    clear k3 k4 TRN
                    generalize vorder b c = I3 at T3
                    generalize cmpErr a c = e4 at T4
                    refine (T1.out _).mono ?_
                    rintro e x1 ⟨rfl, hb_⟩
                    have HZ1 := Lib.hid (HB9.out.trans (hb_.mono HB9.out.size))
                    clear hb_ a0 a1 a2 b0 b1 b2 c0 c1 c2
                    obtain ⟨⟨a0, a1, a2, -, -, -, -⟩, ⟨b0, b1, b2, -, -, -, -⟩, ⟨c0, c1, c2, -, -, -, -⟩⟩ := HCE.out _ HZ1.out
                    go_wp2_with fail
                    refine (T2.out _).mono ?_
                    rintro e x2 ⟨rfl, hb_⟩
                    have HZ2 := Lib.hid (HZ1.out.trans (hb_.mono HZ1.out.size))
                    clear hb_ a0 a1 a2 b0 b1 b2 c0 c1 c2
                    obtain ⟨⟨a0, a1, a2, -, -, -, -⟩, ⟨b0, b1, b2, -, -, -, -⟩, ⟨c0, c1, c2, -, -, -, -⟩⟩ := HCE.out _ HZ2.out
                    go_wp2_with fail
                    refine (T3.out _).mono ?_
                    rintro e x3 ⟨rfl, hb_⟩
                    have HZ3 := Lib.hid (HZ2.out.trans (hb_.mono HZ2.out.size))
                    clear hb_ a0 a1 a2 b0 b1 b2 c0 c1 c2
                    obtain ⟨⟨a0, a1, a2, -, -, -, -⟩, ⟨b0, b1, b2, -, -, -, -⟩, ⟨c0, c1, c2, -, -, -, -⟩⟩ := HCE.out _ HZ3.out
                    go_wp2_with fail
                    refine (T4.out _).mono ?_
                    rintro e x4 ⟨rfl, hb_⟩
                    have HZ4 := Lib.hid (HZ3.out.trans (hb_.mono HZ3.out.size))
                    clear hb_ a0 a1 a2 b0 b1 b2 c0 c1 c2
                    obtain ⟨⟨a0, a1, a2, -, -, -, -⟩, ⟨b0, b1, b2, -, -, -, -⟩, ⟨c0, c1, c2, -, -, -, -⟩⟩ := HCE.out _ HZ4.out
                    go_wp2_with fail
                    go_ret
                    exact ⟨rfl, below_step HB0.out HZ4.out⟩
                · rw [errV_ne k3, if_neg k3] at T3
                  clear k3 TRN
                  generalize errV (cmpErr a c) = e4 at T4
                  generalize (if cmpErr a c = 0 then vorder a c else 0) = I4 at T4
                  generalize cmpErr b c = e3 at T3
                  refine (T1.out _).mono ?_
                  rintro e x1 ⟨rfl, hb_⟩
                  have HZ1 := Lib.hid (HB9.out.trans (hb_.mono HB9.out.size))
                  clear hb_ a0 a1 a2 b0 b1 b2 c0 c1 c2
                  obtain ⟨⟨a0, a1, a2, -, -, -, -⟩, ⟨b0, b1, b2, -, -, -, -⟩, ⟨c0, c1, c2, -, -, -, -⟩⟩ := HCE.out _ HZ1.out
                  go_wp2_with fail
                  refine (T2.out _).mono ?_
                  rintro e x2 ⟨rfl, hb_⟩
                  have HZ2 := Lib.hid (HZ1.out.trans (hb_.mono HZ1.out.size))
                  clear hb_ a0 a1 a2 b0 b1 b2 c0 c1 c2
                  obtain ⟨⟨a0, a1, a2, -, -, -, -⟩, ⟨b0, b1, b2, -, -, -, -⟩, ⟨c0, c1, c2, -, -, -, -⟩⟩ := HCE.out _ HZ2.out
                  go_wp2_with fail
                  refine (T3.out _).mono ?_
                  rintro e x3 ⟨rfl, hb_⟩
                  have HZ3 := Lib.hid (HZ2.out.trans (hb_.mono HZ2.out.size))
                  clear hb_ a0 a1 a2 b0 b1 b2 c0 c1 c2
                  obtain ⟨⟨a0, a1, a2, -, -, -, -⟩, ⟨b0, b1, b2, -, -, -, -⟩, ⟨c0, c1, c2, -, -, -, -⟩⟩ := HCE.out _ HZ3.out
                  go_wp2_with fail
                  refine (T4.out _).mono ?_
                  rintro e x4 ⟨rfl, hb_⟩
                  have HZ4 := Lib.hid (HZ3.out.trans (hb_.mono HZ3.out.size))
                  clear hb_ a0 a1 a2 b0 b1 b2 c0 c1 c2
                  obtain ⟨⟨a0, a1, a2, -, -, -, -⟩, ⟨b0, b1, b2, -, -, -, -⟩, ⟨c0, c1, c2, -, -, -, -⟩⟩ := HCE.out _ HZ4.out
                  go_wp2_with fail
                  go_ret
                  exact ⟨rfl, below_step HB0.out HZ4.out⟩
          · as_aux_lemma =>
            have T1 := Lib.hid (TC.out a b)
            have T2 := Lib.hid (TC.out b a)
            rw [errV_ne h1, if_neg h1] at T1
            clear h1 TC
            generalize errV (cmpErr b a) = e2 at T2
            generalize (if cmpErr b a = 0 then vorder b a else 0) = I2 at T2
            generalize errV (cmpErr b c) = e3 at T3
            generalize (if cmpErr b c = 0 then vorder b c else 0) = I3 at T3
            generalize errV (cmpErr a c) = e4 at T4
            generalize (if cmpErr a c = 0 then vorder a c else 0) = I4 at T4
            generalize cmpErr a b = e1 at T1
            refine (T1.out _).mono ?_
            rintro e x1 ⟨rfl, hb_⟩
            have HZ1 := Lib.hid (HB9.out.trans (hb_.mono HB9.out.size))
            clear hb_ a0 a1 a2 b0 b1 b2 c0 c1 c2
            obtain ⟨⟨a0, a1, a2, -, -, -, -⟩, ⟨b0, b1, b2, -, -, -, -⟩, ⟨c0, c1, c2, -, -, -, -⟩⟩ := HCE.out _ HZ1.out
            go_wp2_with fail
            refine (T2.out _).mono ?_
            rintro e x2 ⟨rfl, hb_⟩
            have HZ2 := Lib.hid (HZ1.out.trans (hb_.mono HZ1.out.size))
            clear hb_ a0 a1 a2 b0 b1 b2 c0 c1 c2
            obtain ⟨⟨a0, a1, a2, -, -, -, -⟩, ⟨b0, b1, b2, -, -, -, -⟩, ⟨c0, c1, c2, -, -, -, -⟩⟩ := HCE.out _ HZ2.out
            go_wp2_with fail
            refine (T3.out _).mono ?_
            rintro e x3 ⟨rfl, hb_⟩
            have HZ3 := Lib.hid (HZ2.out.trans (hb_.mono HZ2.out.size))
            clear hb_ a0 a1 a2 b0 b1 b2 c0 c1 c2
            obtain ⟨⟨a0, a1, a2, -, -, -, -⟩, ⟨b0, b1, b2, -, -, -, -⟩, ⟨c0, c1, c2, -, -, -, -⟩⟩ := HCE.out _ HZ3.out
            go_wp2_with fail
            refine (T4.out _).mono ?_
            rintro e x4 ⟨rfl, hb_⟩
            have HZ4 := Lib.hid (HZ3.out.trans (hb_.mono HZ3.out.size))
            clear hb_ a0 a1 a2 b0 b1 b2 c0 c1 c2
            obtain ⟨⟨a0, a1, a2, -, -, -, -⟩, ⟨b0, b1, b2, -, -, -, -⟩, ⟨c0, c1, c2, -, -, -, -⟩⟩ := HCE.out _ HZ4.out
            go_wp2_with fail
            go_ret
            exact ⟨rfl, below_step HB0.out HZ4.out⟩
/-- The world of the witness: the door's, the row's tables laid over it. -/
noncomputable def theWorld (os : Os) : World := (World.doorLaid Tryd.prog 4000 os).layVars Tryd.prog (Rows.valBackUptoRow.laid.filter fun x => x.2.handleName?.isNone)

set_option maxRecDepth 100000 in
theorem contract (H : Type) (enc : TypeId × Value → H) (W : World) (base : Nat) (args : Array Value) (ds gs : List (DataW H)) (before : List MemPlace)
    (hval : ∀ (j : Nat) t v, Tryd.f8.params[j]? = some t → args[j]? = some v → Value.okWide Tryd.prog W .any base t v)
    (hW : DataW.Whole enc Tryd.prog Tryd.f8.params.toList Rows.valBackSpec.vars false W args.toList ds gs before)
    (hsz : (DataW.weightsEach Tryd.prog (Tryd.f8.params.toList ++ (Rows.OpenSpec.upto Rows.valBackSpec).bare.plain.varTypes Tryd.prog) (ds ++ gs)).all (· ≤ reachBytes) = true) (hL : laidMetH Tryd.prog Rows.valBackUptoRow.laid W) (hsh : W.ShapedOpen Tryd.prog) (hk : Rows.uptoSmall H (ds ++ gs) = true) :
    Calls Tryd.prog 8 args W fun e W' => ∃ v, e = .returned v ∧ Rows.valBackSpec.post enc Tryd.prog Tryd.f8 false true false false W args v W' := by
  have hW' := hW
  obtain ⟨p, q, hA0, hV, rfl, hfz, hnd⟩ := hW
  have hA : DataW.TrodAll enc Tryd.prog W 0 (fun _ => true) true Tryd.f8.params.toList args.toList ds p := hA0
  rw [Tryd.params8] at hA hval
  obtain ⟨v0, vs0, d0, ds0, p0, q0, hargs, rfl, rfl, h0, r0⟩ := trodAll_cons hA
  obtain ⟨v1, vs1, d1, ds1, p1, q1, rfl, rfl, rfl, h1, r1⟩ := trodAll_cons r0
  obtain ⟨v2, vs2, d2, ds2, p2, q2, rfl, rfl, rfl, h2, r2⟩ := trodAll_cons r1
  obtain ⟨v3, vs3, d3, ds3, p3, q3, rfl, rfl, rfl, h3, r3⟩ := trodAll_cons r2
  obtain ⟨v4, vs4, d4, ds4, p4, q4, rfl, rfl, rfl, h4, r4⟩ := trodAll_cons r3
  obtain ⟨v5, vs5, d5, ds5, p5, q5, rfl, rfl, rfl, h5, r5⟩ := trodAll_cons r4
  obtain ⟨rfl, rfl, rfl⟩ := trodAll_nil r5
  obtain rfl : args = #[v0, v1, v2, v3, v4, v5] := by cases args; simp_all
  obtain ⟨rfl, rfl⟩ := trodVars_none hV
  have hv0 := hval 0 54 v0 rfl rfl
  have hv1 := hval 1 54 v1 rfl rfl
  have hv2 := hval 2 54 v2 rfl rfl
  obtain ⟨a3, rfl, rfl, rfl, w3⟩ := Go.ChangeMaps.open_string Tryd.underlying9 (hval 3 9 v3 rfl rfl) h3
  obtain ⟨a4, rfl, rfl, rfl, w4⟩ := open_int Tryd.underlying3 (hval 4 3 v4 rfl rfl) h4
  obtain ⟨a5, rfl, rfl, rfl, w5⟩ := open_int Tryd.underlying3 (hval 5 3 v5 rfl rfl) h5
  obtain ⟨x0, rfl, f0⟩ := open_val hv0 h0
  obtain ⟨x1, rfl, f1⟩ := open_val hv1 h1
  obtain ⟨x2, rfl, f2⟩ := open_val hv2 h2
  have hL0 : laidMet Tryd.prog [("math/bits.deBruijn32tab", Rows.laid_math_bits_deBruijn32tab), ("math/bits.deBruijn64tab", Rows.laid_math_bits_deBruijn64tab), ("internal/strconv.uint64pow10", Rows.laid_internal_strconv_uint64pow10), ("unicode/utf8.acceptRanges", Rows.laid_unicode_utf8_acceptRanges), ("strconv.ErrRange", Rows.laid_strconv_ErrRange), ("strconv.ErrSyntax", Rows.laid_strconv_ErrSyntax), ("unicode/utf8.first", Rows.laid_unicode_utf8_first)] W := hL
  have hbk : Rows.uptoBulkAll _ ≤ 1048576 := of_decide_eq_true hk
  have hN : a3.size ≤ 2000000 := by simp only [List.append_nil, Rows.uptoBulkAll, Rows.uptoBulk] at hbk; rw [← size_eq]; omega
  refine (walk x0 x1 x2 a3 a4 a5 W f0 f1 f2 hN (fits_of w4) (fits_of w5) (textT_of hL0 (.tail _ (.tail _ (.head _))) hsh) (numT_of hL0.tail.tail.tail.tail)).mono fun e W' ⟨he, hb⟩ => ?_
  subst he
  exact ⟨_, rfl, law_post laidOut Tryd.underlying4 (by kernel_rfl) rfl (by rw [Tryd.params8]; intro t ht; simp only [List.mem_cons, List.not_mem_nil, or_false] at ht; rcases ht with rfl | rfl | rfl | rfl | rfl | rfl; all_goals exact ⟨by kernel_rfl, of_decide_eq_true (by kernel_rfl)⟩) hW' rfl hb⟩

theorem reads (os : Os) {H : Type} (enc : TypeId × Value → H) : ∃ places, DataW.whole enc Tryd.prog ((theWorld os).forCall (fun _ _ => 0) ⟨#[], #[.agg #[.int .i64 0, .int .i64 0, .string .empty], .agg #[.int .i64 0, .int .i64 0, .string .empty], .agg #[.int .i64 0, .int .i64 0, .string .empty], .string .empty, .int .i64 0, .int .i64 0], []⟩).memory Tryd.f8.params.toList Rows.valBackSpec.vars false (#[.agg #[.int .i64 0, .int .i64 0, .string .empty], .agg #[.int .i64 0, .int .i64 0, .string .empty], .agg #[.int .i64 0, .int .i64 0, .string .empty], .string .empty, .int .i64 0, .int .i64 0] : Array Value).toList 8 = some ([.agg [.lit (.int .i64 0), .lit (.int .i64 0), .lit (.string [])], .agg [.lit (.int .i64 0), .lit (.int .i64 0), .lit (.string [])], .agg [.lit (.int .i64 0), .lit (.int .i64 0), .lit (.string [])], .lit (.string []), .lit (.int .i64 0), .lit (.int .i64 0)], [], places) :=
  ⟨[], by kernel_rfl⟩

set_option maxRecDepth 100000 in
theorem lifted (os : Os) (started : os.Started) (H : Type) (enc : TypeId × Value → H) (F : Stop.Interp) :
    ReturnsInHanded {} Tryd.checked os 8 .any ((Rows.OpenSpec.upto Rows.valBackSpec).preRow enc Tryd.prog Tryd.f8 Rows.valBackUptoRow.domain false Rows.valBackUptoRow.laid) (((Rows.OpenSpec.upto Rows.valBackSpec).at F).post enc Tryd.prog Tryd.f8 false true false false) := by
  obtain ⟨places, hx⟩ := reads os enc
  refine returnsInHanded_of_row (C := Tryd.checked) (s := Rows.OpenSpec.upto Rows.valBackSpec) own started (by kernel_rfl) Tryd.func8
    (witness_row_atRef (enc := enc) (C := Tryd.checked) false (theWorld os) #[.agg #[.int .i64 0, .int .i64 0, .string .empty], .agg #[.int .i64 0, .int .i64 0, .string .empty], .agg #[.int .i64 0, .int .i64 0, .string .empty], .string .empty, .int .i64 0, .int .i64 0] (World.layVars_os _ _ _) (by kernel_rfl) (by kernel_rfl) (by kernel_rfl)
      (OpenSpec.preRow_of_cond 8 hx (by kernel_rfl) (fun k hk => by cases hk; kernel_rfl) (by kernel_rfl) (laidMetH_of_parts (laidMet_over (w0 := World.doorLaid Tryd.prog 4000 os) rfl (by kernel_rfl) (by kernel_rfl)) (by kernel_rfl)))) ?_
  intro W base args ds gs before hval hW _ hcond hsz hL hsh _
  exact contract H enc W base args ds gs before hval hW hsz hL hsh (hcond _ rfl)

theorem said : Rows.ValBackUptoSaid :=
  OpenClaim.holds_of_cond 8 Tryd.f8 rfl rfl rfl rfl rfl rfl rfl ⟨rfl, rfl, rfl, rfl, rfl⟩ rfl rfl rfl rfl rfl (by kernel_rfl) Tryd.func8 (by kernel_rfl)
    (of_decide_eq_true (by kernel_rfl)) (by unfold Func.isWrapper; first | (rw [if_pos (by decide +kernel)]; kernel_rfl) | (rw [if_neg (by decide +kernel)]; exact ⟨rfl, rfl⟩))
    (fun os started H enc _ F => by rw [OpenClaim.pre_eq_preRow]; exact lifted os started H enc F)

theorem plain (f : FuncId) (fn : Func) (hf : Tryd.pinned.checked.prog.funcNamed "sluicebook/sluicelaw1.ValBack" = some f) (hfn : Tryd.pinned.checked.prog.funcs[f]? = some fn) :
    true = Tryd.pinned.checked.prog.looks [] ∧ ∀ (j : Nat) t, fn.params[j]? = some t → Tryd.pinned.checked.prog.wantsStandIn t = false := by
  obtain rfl : f = 8 := Option.some.inj ((show Tryd.prog.funcNamed "sluicebook/sluicelaw1.ValBack" = some 8 by kernel_rfl).symm.trans hf) |>.symm
  obtain rfl : fn = Tryd.f8 := (Option.some.inj (Tryd.func8.symm.trans hfn)).symm
  refine ⟨by kernel_rfl, fun j t ht => ?_⟩
  rw [Tryd.params8] at ht
  have hm := Array.mem_of_getElem? ht
  simp only [List.mem_toArray, List.mem_cons, List.not_mem_nil, or_false] at hm
  rcases hm with rfl | rfl | rfl | rfl | rfl | rfl
  · exact (show Tryd.prog.wantsStandIn 54 = false by kernel_rfl)
  · exact (show Tryd.prog.wantsStandIn 54 = false by kernel_rfl)
  · exact (show Tryd.prog.wantsStandIn 54 = false by kernel_rfl)
  · exact (show Tryd.prog.wantsStandIn 9 = false by kernel_rfl)
  · exact (show Tryd.prog.wantsStandIn 3 = false by kernel_rfl)
  · exact (show Tryd.prog.wantsStandIn 3 = false by kernel_rfl)

theorem card : Rows.ValBackUptoCardSaid :=
  Claim7.holds_tied_plain_at .later [] _ _ _ _ said (fun _ h => by cases h) (by kernel_rfl) (fun _ h => by cases h) valBackUpto_row_tie rfl ⟨rfl, rfl⟩ (by kernel_rfl) rfl plain (by kernel_rfl)
#print axioms card
end Go.Proofs.YtpbbkpfaphjdoaaDoor.valBack
