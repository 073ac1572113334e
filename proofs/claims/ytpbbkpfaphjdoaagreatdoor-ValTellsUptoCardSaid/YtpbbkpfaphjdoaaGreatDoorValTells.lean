/- ValTells, where what it reads is of bulk at most 1048576: what is wrong with any value, which of any two is ahead, any as text, any text as one, and what any two numbers come to. -/
import Derived.Test.YtpbbkpfaphjdoaaGreatDoorOpenEx
import Derived.Test.YtpbbkpfaphjdoaaGreatDoorParse
import Derived.Test.YtpbbkpfaphjdoaaGreatDoorPrint
import Derived.Test.YtpbbkpfaphjdoaaGreatDoorShow
import Derived.Test.YtpbbkpfaphjdoaaGreatDoorRefQuote
import Derived.Test.YtpbbkpfaphjdoaaGreatDoorOrdLaw
import Derived.Test.YtpbbkpfaphjdoaaGreatDoorReckon
import Derived.Test.YtpbbkpfaphjdoaaGreatDoorRefRec2
import Derived.Test.YtpbbkpfaphjdoaaGreatDoorTold
import Derived.Test.YtpbbkpfaphjdoaaGreatDoorOpenExN
import Derived.Test.YtpbbkpfaphjdoaaGreatDoorErrEq
import Derived.Test.YtpbbkpfaphjdoaaGreatDoorCards
import Derived.Test.YtpbbkpfaphjdoaaGreatDoorTie
import Derived.Stop.Joined
import Derived.SevenTiedAt
import Derived.Deep.DeepWitnessRowRef
import Derived.Deep.DeepHandedRow
namespace Go.Proofs.YtpbbkpfaphjdoaaGreatDoor.valTells
open Go.ChangeShapes Go.WideShapes Go.ChangeAt Go.RowKit

theorem errIs (k : Int) : ErrIs (errV k) k := by
  by_cases h : k = 0
  · subst h; exact Or.inl ⟨rfl, rfl⟩
  · exact Or.inr ⟨errV_ne h, h⟩
theorem sameV (k : Int) (w : World) (hg : ErrT w) : Calls Tryz.prog 15 #[errV k, .int .i64 k] w fun ev w' => ev = .returned (.bool true) ∧ Below w.heap.size w w' := by
  have := same_err (errV k) k k w hg (errIs k)
  rw [beq_self_eq_true] at this
  exact this
set_option maxHeartbeats 16000000 in
set_option maxRecDepth 100000 in
theorem walk (a b : Val) (s op : ByteArray) (x y : Int) (W : World) (ha : a.wf) (hb : b.wf) (hs : s.size ≤ 2000000) (hx : fits x) (hy : fits y) (hT : TextT W) (hN : NumT W) (hE : ErrT W) :
    Calls Tryz.prog 7 #[.agg #[.int .i64 a.type, .int .i64 a.n, .string a.s], .agg #[.int .i64 b.type, .int .i64 b.n, .string b.s], .string s, .string op, .int .i64 x, .int .i64 y] W
      fun e W' => e = .returned (.bool true) ∧ Below W.heap.size W W' := by
  obtain ⟨W0, hW0⟩ : ∃ W0, ((W.alloc (.cells #[.int .i64 a.type, .int .i64 a.n, .string a.s] 23)).alloc (.cells #[.int .i64 b.type, .int .i64 b.n, .string b.s] 23)) = W0 := ⟨_, rfl⟩
  have HW0 := Lib.hid hW0
  have hb1 := belowNew' W (.cells #[.int .i64 a.type, .int .i64 a.n, .string a.s] 23)
  have hoa := own3_new W a
  generalize hw1 : W.alloc (.cells #[.int .i64 a.type, .int .i64 a.n, .string a.s] 23) = w1 at hb1 hoa hW0
  have hs1 : w1.heap.size = W.heap.size + 1 := by rw [← hw1]; simp
  have hb2 := belowNew' w1 (.cells #[.int .i64 b.type, .int .i64 b.n, .string b.s] 23)
  have hob := own3_new w1 b
  rw [hW0] at hb2 hob
  have HA := Lib.hid (hoa.keep hb2)
  have HBb := Lib.hid (show Own3 W0 (W.heap.size + 1) b by rw [← hs1]; exact hob)
  have HB0 := Lib.hid (below_step hb1 hb2)
  have HT := Lib.hid (hT.keep HB0.out)
  have HN := Lib.hid (hN.keep HB0.out)
  have HE := Lib.hid (hE.keep HB0.out)
  clear hb1 hb2 hoa hob hW0 hw1 hs1 hT hN hE
  have HCE := Lib.hid (fun (w' : World) (h : Below W0.heap.size W0 w') => And.intro (HA.out.keep h).cells (HBb.out.keep h).cells)
  have TSAME := Lib.hid (fun (k : Int) (w' : World) (h : Below W0.heap.size W0 w') => sameV k w' (HE.out.keep h))
  have TVA := Lib.hid (fun (w' : World) => rval_any a w' ha.2.2)
  have TVB := Lib.hid (fun (w' : World) => rval_any b w' hb.2.2)
  have TCA := Lib.hid (fun (w' : World) => vcheck_any a w')
  have TPA := Lib.hid (fun (w' : World) (h : Below W0.heap.size W0 w') => print_any a ha w' (HT.out.keep h))
  have TSH := Lib.hid (fun (h : vcheck a = 0) (w' : World) => show_any a ha.2.1 (Nat.le_trans (vcheck_size h) (by decide)) w')
  have TOR := Lib.hid (fun (h1 : vcheck a = 0) (h2 : vcheck b = 0) (h3 : a.type = b.type) (w' : World) => rorder_any a b w' h1 h2 h3)
  have TCM := Lib.hid (fun (w' : World) => compare_any a b w')
  have TRD := Lib.hid (fun (w' : World) => rread_any s (Nat.le_trans hs (by decide)) w')
  have TPS := Lib.hid (fun (w' : World) (h : Below W0.heap.size W0 w') => parse_any s hs w' (HT.out.keep h) (HN.out.keep h))
  have TRR := Lib.hid (fun (w' : World) => rreckon_any op x y w' hx hy)
  have TRK := Lib.hid (fun (w' : World) => reckon_any op x y w' hx hy)
  unfold ValSays at TVA TVB
  unfold valV at TCA
  unfold PrintSays at TPA
  unfold CmpSays at TCM
  unfold readSays valV at TRD
  unfold ParseSays valV at TPS
  unfold RRecSays at TRR
  unfold RecSays at TRK
  have HCMP := Lib.hid (show cmpErr a b = if vcheck a ≠ 0 then vcheck a else if vcheck b ≠ 0 then vcheck b else if a.type ≠ b.type then 8 else 0 from rfl)
  generalize (readP s.data.toList).1 = v at TRD TPS
  generalize (readP s.data.toList).2 = kr at TRD TPS
  generalize reckonVal op.data.toList x y = rv at TRR TRK
  generalize reckonErr op.data.toList x y = rk at TRR TRK
  generalize cmpErr a b = kc at TCM HCMP
  generalize vorder a b = vo at TCM TOR
  generalize valText a = ta at TPA TSH
  generalize vcheck a = ka at TVA TCA TPA TSH TOR HCMP
  generalize vcheck b = kb at TVB TOR HCMP
  clear ha hb hs hx hy
  by_cases h1 : ka = 0
  · by_cases h2 : kb = 0
    · obtain rfl := h1
      obtain rfl := h2
      by_cases h3 : a.type = b.type
      · as_aux_lemma =>
        have QT : (a.type == b.type) = true := beq_iff_eq.2 h3
        have HTT := Lib.hid h3
        have HKC := Lib.hid (show kc = 0 by rw [HCMP.out]; simp [h3])
        obtain rfl := HKC.out
        rw [if_pos rfl] at TCM TPA
        clear h3 HCMP HKC
        go_enter Tryz.func7, Tryz.ntmps7
        obtain ⟨⟨a0, a1, a2, -, -, -, -⟩, ⟨b0, b1, b2, -, -, -, -⟩⟩ := HCE.out W0 (Below.refl _ _)
        go_wp2_with (first | rw [HW0.out])
        refine (TVA.out _).mono ?_
        rintro e w1 ⟨rfl, hb_⟩
        have HB1 := Lib.hid (hb_)
        clear hb_
        clear a0 a1 a2 b0 b1 b2
        obtain ⟨⟨a0, a1, a2, -, -, -, -⟩, ⟨b0, b1, b2, -, -, -, -⟩⟩ := HCE.out w1 HB1.out
        go_wp2_with fail
        refine (TCA.out _).mono ?_
        rintro e w2 ⟨rfl, hb_⟩
        have HB2 := Lib.hid (HB1.out.trans (hb_.mono HB1.out.size))
        clear hb_
        go_wp2_with fail
        refine (TSAME.out _ _ HB2.out).mono ?_
        rintro e w3 ⟨rfl, hb_⟩
        have HB3 := Lib.hid (HB2.out.trans (hb_.mono HB2.out.size))
        clear hb_
        clear a0 a1 a2 b0 b1 b2
        obtain ⟨⟨a0, a1, a2, -, -, -, -⟩, ⟨b0, b1, b2, -, -, -, -⟩⟩ := HCE.out w3 HB3.out
        go_wp2_with fail
        refine (TSH.out (by simp) _).mono ?_
        rintro e w4 ⟨rfl, hb_⟩
        have HB4 := Lib.hid (HB3.out.trans (hb_.mono HB3.out.size))
        clear hb_
        clear a0 a1 a2 b0 b1 b2
        obtain ⟨⟨a0, a1, a2, -, -, -, -⟩, ⟨b0, b1, b2, -, -, -, -⟩⟩ := HCE.out w4 HB4.out
        go_wp2_with fail
        refine (TPA.out _ HB4.out).mono ?_
        rintro e w5 ⟨rfl, hb_⟩
        have HB5 := Lib.hid (HB4.out.trans (hb_.mono HB4.out.size))
        clear hb_
        go_wp2_with fail
        refine (TSAME.out _ _ HB5.out).mono ?_
        rintro e w6 ⟨rfl, hb_⟩
        have HB6 := Lib.hid (HB5.out.trans (hb_.mono HB5.out.size))
        clear hb_
        clear a0 a1 a2 b0 b1 b2
        obtain ⟨⟨a0, a1, a2, -, -, -, -⟩, ⟨b0, b1, b2, -, -, -, -⟩⟩ := HCE.out w6 HB6.out
        go_wp2_with fail
        refine (TVB.out _).mono ?_
        rintro e w7 ⟨rfl, hb_⟩
        have HB7 := Lib.hid (HB6.out.trans (hb_.mono HB6.out.size))
        clear hb_
        clear a0 a1 a2 b0 b1 b2
        obtain ⟨⟨a0, a1, a2, -, -, -, -⟩, ⟨b0, b1, b2, -, -, -, -⟩⟩ := HCE.out w7 HB7.out
        go_wp2_with fail
        refine (TOR.out (by simp) (by simp) (by simp [HTT.out]) _).mono ?_
        rintro e w8 ⟨rfl, hb_⟩
        have HB8 := Lib.hid (HB7.out.trans (hb_.mono HB7.out.size))
        clear hb_
        clear a0 a1 a2 b0 b1 b2
        obtain ⟨⟨a0, a1, a2, -, -, -, -⟩, ⟨b0, b1, b2, -, -, -, -⟩⟩ := HCE.out w8 HB8.out
        go_wp2_with fail
        refine (TCM.out _).mono ?_
        rintro e w9 ⟨rfl, hb_⟩
        have HB9 := Lib.hid (HB8.out.trans (hb_.mono HB8.out.size))
        clear hb_
        go_wp2_with fail
        refine (TSAME.out _ _ HB9.out).mono ?_
        rintro e w10 ⟨rfl, hb_⟩
        have HB10 := Lib.hid (HB9.out.trans (hb_.mono HB9.out.size))
        clear hb_
        go_wp2_with fail
        refine (TRD.out _).mono ?_
        rintro e w11 ⟨rfl, hb_⟩
        have HB11 := Lib.hid (HB10.out.trans (hb_.mono HB10.out.size))
        clear hb_
        obtain ⟨w12, hww⟩ : ∃ w12, w11.alloc (.cells #[.int .i64 v.type, .int .i64 v.n, .string v.s] 23) = w12 := ⟨_, rfl⟩
        have hxw := belowNew' w11 (.cells #[.int .i64 v.type, .int .i64 v.n, .string v.s] 23)
        have how := own3_new w11 v
        rw [hww] at hxw how
        have HB12 := Lib.hid (HB11.out.trans (hxw.mono HB11.out.size))
        have HO12 := Lib.hid how
        have HX12 := Lib.hid hxw
        have HW12 := Lib.hid hww
        clear hww hxw how
        go_wp2_with (first | rw [HW12.out])
        refine (TPS.out _ HB12.out).mono ?_
        rintro e w13 ⟨rfl, hb_⟩
        have HC13 := Lib.hid hb_
        have HB13 := Lib.hid (HB12.out.trans (hb_.mono HB12.out.size))
        clear hb_
        obtain ⟨w14, hww⟩ : ∃ w14, w13.alloc (.cells #[.int .i64 v.type, .int .i64 v.n, .string v.s] 23) = w14 := ⟨_, rfl⟩
        have hxw := belowNew' w13 (.cells #[.int .i64 v.type, .int .i64 v.n, .string v.s] 23)
        have how := own3_new w13 v
        rw [hww] at hxw how
        have HB14 := Lib.hid (HB13.out.trans (hxw.mono HB13.out.size))
        have HO14 := Lib.hid how
        have HX14 := Lib.hid hxw
        have HW14 := Lib.hid hww
        clear hww hxw how
        have HC14 := Lib.hid (HC13.out.trans (HX14.out.mono HC13.out.size))
        go_wp2_with (first | rw [HW14.out])
        refine (TSAME.out _ _ HB14.out).mono ?_
        rintro e w15 ⟨rfl, hb_⟩
        have HD15 := Lib.hid hb_
        have HC15 := Lib.hid (HC14.out.trans (hb_.mono HC14.out.size))
        have HB15 := Lib.hid (HB14.out.trans (hb_.mono HB14.out.size))
        clear hb_ a0 a1 a2 b0 b1 b2
        go_wp2_with fail
        refine (TRR.out _).mono ?_
        rintro e w' ⟨rfl, rfl⟩
        go_wp2_with fail
        refine (TRK.out _).mono ?_
        rintro e w' ⟨rfl, rfl⟩
        go_wp2_with fail
        refine (TSAME.out _ _ HB15.out).mono ?_
        rintro e w16 ⟨rfl, hb_⟩
        have HD16 := Lib.hid (HD15.out.trans (hb_.mono HD15.out.size))
        have HC16 := Lib.hid (HC15.out.trans (hb_.mono HC15.out.size))
        have HB16 := Lib.hid (HB15.out.trans (hb_.mono HB15.out.size))
        clear hb_
        obtain ⟨q0, q1, q2, -, -, -, -⟩ := (HO12.out.keep HC16.out).cells
        obtain ⟨r0, r1, r2, -, -, -, -⟩ := (HO14.out.keep HD16.out).cells
        go_wp2_with fail
        go_ret
        exact ⟨rfl, below_step HB0.out HB16.out⟩
      · as_aux_lemma =>
        have QT : (a.type == b.type) = false := beq_eq_false_iff_ne.2 h3
        have HKC := Lib.hid (show kc = 8 by rw [HCMP.out]; simp [h3])
        obtain rfl := HKC.out
        rw [if_neg (by decide)] at TCM
        rw [if_pos rfl] at TPA
        clear h3 HCMP HKC TOR
        go_enter Tryz.func7, Tryz.ntmps7
        obtain ⟨⟨a0, a1, a2, -, -, -, -⟩, ⟨b0, b1, b2, -, -, -, -⟩⟩ := HCE.out W0 (Below.refl _ _)
        go_wp2_with (first | rw [HW0.out])
        refine (TVA.out _).mono ?_
        rintro e w1 ⟨rfl, hb_⟩
        have HB1 := Lib.hid (hb_)
        clear hb_
        clear a0 a1 a2 b0 b1 b2
        obtain ⟨⟨a0, a1, a2, -, -, -, -⟩, ⟨b0, b1, b2, -, -, -, -⟩⟩ := HCE.out w1 HB1.out
        go_wp2_with fail
        refine (TCA.out _).mono ?_
        rintro e w2 ⟨rfl, hb_⟩
        have HB2 := Lib.hid (HB1.out.trans (hb_.mono HB1.out.size))
        clear hb_
        go_wp2_with fail
        refine (TSAME.out _ _ HB2.out).mono ?_
        rintro e w3 ⟨rfl, hb_⟩
        have HB3 := Lib.hid (HB2.out.trans (hb_.mono HB2.out.size))
        clear hb_
        clear a0 a1 a2 b0 b1 b2
        obtain ⟨⟨a0, a1, a2, -, -, -, -⟩, ⟨b0, b1, b2, -, -, -, -⟩⟩ := HCE.out w3 HB3.out
        go_wp2_with fail
        refine (TSH.out (by simp) _).mono ?_
        rintro e w4 ⟨rfl, hb_⟩
        have HB4 := Lib.hid (HB3.out.trans (hb_.mono HB3.out.size))
        clear hb_
        clear a0 a1 a2 b0 b1 b2
        obtain ⟨⟨a0, a1, a2, -, -, -, -⟩, ⟨b0, b1, b2, -, -, -, -⟩⟩ := HCE.out w4 HB4.out
        go_wp2_with fail
        refine (TPA.out _ HB4.out).mono ?_
        rintro e w5 ⟨rfl, hb_⟩
        have HB5 := Lib.hid (HB4.out.trans (hb_.mono HB4.out.size))
        clear hb_
        go_wp2_with fail
        refine (TSAME.out _ _ HB5.out).mono ?_
        rintro e w6 ⟨rfl, hb_⟩
        have HB6 := Lib.hid (HB5.out.trans (hb_.mono HB5.out.size))
        clear hb_
        clear a0 a1 a2 b0 b1 b2
        obtain ⟨⟨a0, a1, a2, -, -, -, -⟩, ⟨b0, b1, b2, -, -, -, -⟩⟩ := HCE.out w6 HB6.out
        go_wp2_with fail
        refine (TVB.out _).mono ?_
        rintro e w7 ⟨rfl, hb_⟩
        have HB7 := Lib.hid (HB6.out.trans (hb_.mono HB6.out.size))
        clear hb_
        clear a0 a1 a2 b0 b1 b2
        obtain ⟨⟨a0, a1, a2, -, -, -, -⟩, ⟨b0, b1, b2, -, -, -, -⟩⟩ := HCE.out w7 HB7.out
        go_wp2_with fail
        refine (TCM.out _).mono ?_
        rintro e w8 ⟨rfl, hb_⟩
        have HB8 := Lib.hid (HB7.out.trans (hb_.mono HB7.out.size))
        clear hb_
        go_wp2_with fail
        refine (TSAME.out _ _ HB8.out).mono ?_
        rintro e w9 ⟨rfl, hb_⟩
        have HB9 := Lib.hid (HB8.out.trans (hb_.mono HB8.out.size))
        clear hb_
        go_wp2_with fail
        refine (TRD.out _).mono ?_
        rintro e w10 ⟨rfl, hb_⟩
        have HB10 := Lib.hid (HB9.out.trans (hb_.mono HB9.out.size))
        clear hb_
        obtain ⟨w11, hww⟩ : ∃ w11, w10.alloc (.cells #[.int .i64 v.type, .int .i64 v.n, .string v.s] 23) = w11 := ⟨_, rfl⟩
        have hxw := belowNew' w10 (.cells #[.int .i64 v.type, .int .i64 v.n, .string v.s] 23)
        have how := own3_new w10 v
        rw [hww] at hxw how
        have HB11 := Lib.hid (HB10.out.trans (hxw.mono HB10.out.size))
        have HO11 := Lib.hid how
        have HX11 := Lib.hid hxw
        have HW11 := Lib.hid hww
        clear hww hxw how
        go_wp2_with (first | rw [HW11.out])
        refine (TPS.out _ HB11.out).mono ?_
        rintro e w12 ⟨rfl, hb_⟩
        have HC12 := Lib.hid hb_
        have HB12 := Lib.hid (HB11.out.trans (hb_.mono HB11.out.size))
        clear hb_
        obtain ⟨w13, hww⟩ : ∃ w13, w12.alloc (.cells #[.int .i64 v.type, .int .i64 v.n, .string v.s] 23) = w13 := ⟨_, rfl⟩
        have hxw := belowNew' w12 (.cells #[.int .i64 v.type, .int .i64 v.n, .string v.s] 23)
        have how := own3_new w12 v
        rw [hww] at hxw how
        have HB13 := Lib.hid (HB12.out.trans (hxw.mono HB12.out.size))
        have HO13 := Lib.hid how
        have HX13 := Lib.hid hxw
        have HW13 := Lib.hid hww
        clear hww hxw how
        have HC13 := Lib.hid (HC12.out.trans (HX13.out.mono HC12.out.size))
        go_wp2_with (first | rw [HW13.out])
        refine (TSAME.out _ _ HB13.out).mono ?_
        rintro e w14 ⟨rfl, hb_⟩
        have HD14 := Lib.hid hb_
        have HC14 := Lib.hid (HC13.out.trans (hb_.mono HC13.out.size))
        have HB14 := Lib.hid (HB13.out.trans (hb_.mono HB13.out.size))
        clear hb_ a0 a1 a2 b0 b1 b2
        go_wp2_with fail
        refine (TRR.out _).mono ?_
        rintro e w' ⟨rfl, rfl⟩
        go_wp2_with fail
        refine (TRK.out _).mono ?_
        rintro e w' ⟨rfl, rfl⟩
        go_wp2_with fail
        refine (TSAME.out _ _ HB14.out).mono ?_
        rintro e w15 ⟨rfl, hb_⟩
        have HD15 := Lib.hid (HD14.out.trans (hb_.mono HD14.out.size))
        have HC15 := Lib.hid (HC14.out.trans (hb_.mono HC14.out.size))
        have HB15 := Lib.hid (HB14.out.trans (hb_.mono HB14.out.size))
        clear hb_
        obtain ⟨q0, q1, q2, -, -, -, -⟩ := (HO11.out.keep HC15.out).cells
        obtain ⟨r0, r1, r2, -, -, -, -⟩ := (HO13.out.keep HD15.out).cells
        go_wp2_with fail
        go_ret
        exact ⟨rfl, below_step HB0.out HB15.out⟩
    · obtain rfl := h1
      as_aux_lemma =>
        have QB : (kb == 0) = false := beq_eq_false_iff_ne.2 h2
        have HKC := Lib.hid (show kc = kb by rw [HCMP.out]; simp [h2])
        obtain rfl := HKC.out
        rw [if_neg h2] at TCM
        rw [if_pos rfl] at TPA
        clear h2 HCMP HKC TOR
        go_enter Tryz.func7, Tryz.ntmps7
        obtain ⟨⟨a0, a1, a2, -, -, -, -⟩, ⟨b0, b1, b2, -, -, -, -⟩⟩ := HCE.out W0 (Below.refl _ _)
        go_wp2_with (first | rw [HW0.out])
        refine (TVA.out _).mono ?_
        rintro e w1 ⟨rfl, hb_⟩
        have HB1 := Lib.hid (hb_)
        clear hb_
        clear a0 a1 a2 b0 b1 b2
        obtain ⟨⟨a0, a1, a2, -, -, -, -⟩, ⟨b0, b1, b2, -, -, -, -⟩⟩ := HCE.out w1 HB1.out
        go_wp2_with fail
        refine (TCA.out _).mono ?_
        rintro e w2 ⟨rfl, hb_⟩
        have HB2 := Lib.hid (HB1.out.trans (hb_.mono HB1.out.size))
        clear hb_
        go_wp2_with fail
        refine (TSAME.out _ _ HB2.out).mono ?_
        rintro e w3 ⟨rfl, hb_⟩
        have HB3 := Lib.hid (HB2.out.trans (hb_.mono HB2.out.size))
        clear hb_
        clear a0 a1 a2 b0 b1 b2
        obtain ⟨⟨a0, a1, a2, -, -, -, -⟩, ⟨b0, b1, b2, -, -, -, -⟩⟩ := HCE.out w3 HB3.out
        go_wp2_with fail
        refine (TSH.out (by simp) _).mono ?_
        rintro e w4 ⟨rfl, hb_⟩
        have HB4 := Lib.hid (HB3.out.trans (hb_.mono HB3.out.size))
        clear hb_
        clear a0 a1 a2 b0 b1 b2
        obtain ⟨⟨a0, a1, a2, -, -, -, -⟩, ⟨b0, b1, b2, -, -, -, -⟩⟩ := HCE.out w4 HB4.out
        go_wp2_with fail
        refine (TPA.out _ HB4.out).mono ?_
        rintro e w5 ⟨rfl, hb_⟩
        have HB5 := Lib.hid (HB4.out.trans (hb_.mono HB4.out.size))
        clear hb_
        go_wp2_with fail
        refine (TSAME.out _ _ HB5.out).mono ?_
        rintro e w6 ⟨rfl, hb_⟩
        have HB6 := Lib.hid (HB5.out.trans (hb_.mono HB5.out.size))
        clear hb_
        clear a0 a1 a2 b0 b1 b2
        obtain ⟨⟨a0, a1, a2, -, -, -, -⟩, ⟨b0, b1, b2, -, -, -, -⟩⟩ := HCE.out w6 HB6.out
        go_wp2_with fail
        refine (TVB.out _).mono ?_
        rintro e w7 ⟨rfl, hb_⟩
        have HB7 := Lib.hid (HB6.out.trans (hb_.mono HB6.out.size))
        clear hb_
        clear a0 a1 a2 b0 b1 b2
        obtain ⟨⟨a0, a1, a2, -, -, -, -⟩, ⟨b0, b1, b2, -, -, -, -⟩⟩ := HCE.out w7 HB7.out
        go_wp2_with fail
        refine (TCM.out _).mono ?_
        rintro e w8 ⟨rfl, hb_⟩
        have HB8 := Lib.hid (HB7.out.trans (hb_.mono HB7.out.size))
        clear hb_
        go_wp2_with fail
        refine (TSAME.out _ _ HB8.out).mono ?_
        rintro e w9 ⟨rfl, hb_⟩
        have HB9 := Lib.hid (HB8.out.trans (hb_.mono HB8.out.size))
        clear hb_
        go_wp2_with fail
        refine (TRD.out _).mono ?_
        rintro e w10 ⟨rfl, hb_⟩
        have HB10 := Lib.hid (HB9.out.trans (hb_.mono HB9.out.size))
        clear hb_
        obtain ⟨w11, hww⟩ : ∃ w11, w10.alloc (.cells #[.int .i64 v.type, .int .i64 v.n, .string v.s] 23) = w11 := ⟨_, rfl⟩
        have hxw := belowNew' w10 (.cells #[.int .i64 v.type, .int .i64 v.n, .string v.s] 23)
        have how := own3_new w10 v
        rw [hww] at hxw how
        have HB11 := Lib.hid (HB10.out.trans (hxw.mono HB10.out.size))
        have HO11 := Lib.hid how
        have HX11 := Lib.hid hxw
        have HW11 := Lib.hid hww
        clear hww hxw how
        go_wp2_with (first | rw [HW11.out])
        refine (TPS.out _ HB11.out).mono ?_
        rintro e w12 ⟨rfl, hb_⟩
        have HC12 := Lib.hid hb_
        have HB12 := Lib.hid (HB11.out.trans (hb_.mono HB11.out.size))
        clear hb_
        obtain ⟨w13, hww⟩ : ∃ w13, w12.alloc (.cells #[.int .i64 v.type, .int .i64 v.n, .string v.s] 23) = w13 := ⟨_, rfl⟩
        have hxw := belowNew' w12 (.cells #[.int .i64 v.type, .int .i64 v.n, .string v.s] 23)
        have how := own3_new w12 v
        rw [hww] at hxw how
        have HB13 := Lib.hid (HB12.out.trans (hxw.mono HB12.out.size))
        have HO13 := Lib.hid how
        have HX13 := Lib.hid hxw
        have HW13 := Lib.hid hww
        clear hww hxw how
        have HC13 := Lib.hid (HC12.out.trans (HX13.out.mono HC12.out.size))
        go_wp2_with (first | rw [HW13.out])
        refine (TSAME.out _ _ HB13.out).mono ?_
        rintro e w14 ⟨rfl, hb_⟩
        have HD14 := Lib.hid hb_
        have HC14 := Lib.hid (HC13.out.trans (hb_.mono HC13.out.size))
        have HB14 := Lib.hid (HB13.out.trans (hb_.mono HB13.out.size))
        clear hb_ a0 a1 a2 b0 b1 b2
        go_wp2_with fail
        refine (TRR.out _).mono ?_
        rintro e w' ⟨rfl, rfl⟩
        go_wp2_with fail
        refine (TRK.out _).mono ?_
        rintro e w' ⟨rfl, rfl⟩
        go_wp2_with fail
        refine (TSAME.out _ _ HB14.out).mono ?_
        rintro e w15 ⟨rfl, hb_⟩
        have HD15 := Lib.hid (HD14.out.trans (hb_.mono HD14.out.size))
        have HC15 := Lib.hid (HC14.out.trans (hb_.mono HC14.out.size))
        have HB15 := Lib.hid (HB14.out.trans (hb_.mono HB14.out.size))
        clear hb_
        obtain ⟨q0, q1, q2, -, -, -, -⟩ := (HO11.out.keep HC15.out).cells
        obtain ⟨r0, r1, r2, -, -, -, -⟩ := (HO13.out.keep HD15.out).cells
        go_wp2_with fail
        go_ret
        exact ⟨rfl, below_step HB0.out HB15.out⟩
  · as_aux_lemma =>
      have QA : (ka == 0) = false := beq_eq_false_iff_ne.2 h1
      have HKC := Lib.hid (show kc = ka by rw [HCMP.out]; simp [h1])
      obtain rfl := HKC.out
      rw [if_neg h1] at TCM TPA
      clear h1 HCMP HKC TOR TSH TVB
      go_enter Tryz.func7, Tryz.ntmps7
      obtain ⟨⟨a0, a1, a2, -, -, -, -⟩, ⟨b0, b1, b2, -, -, -, -⟩⟩ := HCE.out W0 (Below.refl _ _)
      go_wp2_with (first | rw [HW0.out])
      refine (TVA.out _).mono ?_
      rintro e w1 ⟨rfl, hb_⟩
      have HB1 := Lib.hid (hb_)
      clear hb_
      clear a0 a1 a2 b0 b1 b2
      obtain ⟨⟨a0, a1, a2, -, -, -, -⟩, ⟨b0, b1, b2, -, -, -, -⟩⟩ := HCE.out w1 HB1.out
      go_wp2_with fail
      refine (TCA.out _).mono ?_
      rintro e w2 ⟨rfl, hb_⟩
      have HB2 := Lib.hid (HB1.out.trans (hb_.mono HB1.out.size))
      clear hb_
      go_wp2_with fail
      refine (TSAME.out _ _ HB2.out).mono ?_
      rintro e w3 ⟨rfl, hb_⟩
      have HB3 := Lib.hid (HB2.out.trans (hb_.mono HB2.out.size))
      clear hb_
      clear a0 a1 a2 b0 b1 b2
      obtain ⟨⟨a0, a1, a2, -, -, -, -⟩, ⟨b0, b1, b2, -, -, -, -⟩⟩ := HCE.out w3 HB3.out
      go_wp2_with fail
      refine (TPA.out _ HB3.out).mono ?_
      rintro e w4 ⟨rfl, hb_⟩
      have HB4 := Lib.hid (HB3.out.trans (hb_.mono HB3.out.size))
      clear hb_
      go_wp2_with fail
      refine (TSAME.out _ _ HB4.out).mono ?_
      rintro e w5 ⟨rfl, hb_⟩
      have HB5 := Lib.hid (HB4.out.trans (hb_.mono HB4.out.size))
      clear hb_
      clear a0 a1 a2 b0 b1 b2
      obtain ⟨⟨a0, a1, a2, -, -, -, -⟩, ⟨b0, b1, b2, -, -, -, -⟩⟩ := HCE.out w5 HB5.out
      go_wp2_with fail
      refine (TCM.out _).mono ?_
      rintro e w6 ⟨rfl, hb_⟩
      have HB6 := Lib.hid (HB5.out.trans (hb_.mono HB5.out.size))
      clear hb_
      go_wp2_with fail
      refine (TSAME.out _ _ HB6.out).mono ?_
      rintro e w7 ⟨rfl, hb_⟩
      have HB7 := Lib.hid (HB6.out.trans (hb_.mono HB6.out.size))
      clear hb_
      go_wp2_with fail
      refine (TRD.out _).mono ?_
      rintro e w8 ⟨rfl, hb_⟩
      have HB8 := Lib.hid (HB7.out.trans (hb_.mono HB7.out.size))
      clear hb_
      obtain ⟨w9, hww⟩ : ∃ w9, w8.alloc (.cells #[.int .i64 v.type, .int .i64 v.n, .string v.s] 23) = w9 := ⟨_, rfl⟩
      have hxw := belowNew' w8 (.cells #[.int .i64 v.type, .int .i64 v.n, .string v.s] 23)
      have how := own3_new w8 v
      rw [hww] at hxw how
      have HB9 := Lib.hid (HB8.out.trans (hxw.mono HB8.out.size))
      have HO9 := Lib.hid how
      have HX9 := Lib.hid hxw
      have HW9 := Lib.hid hww
      clear hww hxw how
      go_wp2_with (first | rw [HW9.out])
      refine (TPS.out _ HB9.out).mono ?_
      rintro e w10 ⟨rfl, hb_⟩
      have HC10 := Lib.hid hb_
      have HB10 := Lib.hid (HB9.out.trans (hb_.mono HB9.out.size))
      clear hb_
      obtain ⟨w11, hww⟩ : ∃ w11, w10.alloc (.cells #[.int .i64 v.type, .int .i64 v.n, .string v.s] 23) = w11 := ⟨_, rfl⟩
      have hxw := belowNew' w10 (.cells #[.int .i64 v.type, .int .i64 v.n, .string v.s] 23)
      have how := own3_new w10 v
      rw [hww] at hxw how
      have HB11 := Lib.hid (HB10.out.trans (hxw.mono HB10.out.size))
      have HO11 := Lib.hid how
      have HX11 := Lib.hid hxw
      have HW11 := Lib.hid hww
      clear hww hxw how
      have HC11 := Lib.hid (HC10.out.trans (HX11.out.mono HC10.out.size))
      go_wp2_with (first | rw [HW11.out])
      refine (TSAME.out _ _ HB11.out).mono ?_
      rintro e w12 ⟨rfl, hb_⟩
      have HD12 := Lib.hid hb_
      have HC12 := Lib.hid (HC11.out.trans (hb_.mono HC11.out.size))
      have HB12 := Lib.hid (HB11.out.trans (hb_.mono HB11.out.size))
      clear hb_ a0 a1 a2 b0 b1 b2
      go_wp2_with fail
      refine (TRR.out _).mono ?_
      rintro e w' ⟨rfl, rfl⟩
      go_wp2_with fail
      refine (TRK.out _).mono ?_
      rintro e w' ⟨rfl, rfl⟩
      go_wp2_with fail
      refine (TSAME.out _ _ HB12.out).mono ?_
      rintro e w13 ⟨rfl, hb_⟩
      have HD13 := Lib.hid (HD12.out.trans (hb_.mono HD12.out.size))
      have HC13 := Lib.hid (HC12.out.trans (hb_.mono HC12.out.size))
      have HB13 := Lib.hid (HB12.out.trans (hb_.mono HB12.out.size))
      clear hb_
      obtain ⟨q0, q1, q2, -, -, -, -⟩ := (HO9.out.keep HC13.out).cells
      obtain ⟨r0, r1, r2, -, -, -, -⟩ := (HO11.out.keep HD13.out).cells
      go_wp2_with fail
      go_ret
      exact ⟨rfl, below_step HB0.out HB13.out⟩
/-- The world of the witness: the door's, the row's tables laid over it. -/
noncomputable def theWorld (os : Os) : World := (World.doorLaid Tryz.prog 4000 os).layVars Tryz.prog (Rows.valTellsUptoRow.laid.filter fun x => x.2.handleName?.isNone)

set_option maxRecDepth 100000 in
theorem contract (H : Type) (enc : TypeId × Value → H) (W : World) (base : Nat) (args : Array Value) (ds gs : List (DataW H)) (before : List MemPlace)
    (hval : ∀ (j : Nat) t v, Tryz.f7.params[j]? = some t → args[j]? = some v → Value.okWide Tryz.prog W .any base t v)
    (hW : DataW.Whole enc Tryz.prog Tryz.f7.params.toList Rows.valTellsSpec.vars false W args.toList ds gs before)
    (hsz : (DataW.weightsEach Tryz.prog (Tryz.f7.params.toList ++ (Rows.OpenSpec.upto Rows.valTellsSpec).bare.plain.varTypes Tryz.prog) (ds ++ gs)).all (· ≤ reachBytes) = true) (hL : laidMetH Tryz.prog Rows.valTellsUptoRow.laid W) (hsh : W.ShapedOpen Tryz.prog) (hk : Rows.uptoSmall H (ds ++ gs) = true) :
    Calls Tryz.prog 7 args W fun e W' => ∃ v, e = .returned v ∧ Rows.valTellsSpec.post enc Tryz.prog Tryz.f7 false true false false W args v W' := by
  have hW' := hW
  obtain ⟨p, q, hA0, hV, rfl, hfz, hnd⟩ := hW
  have hA : DataW.TrodAll enc Tryz.prog W 0 (fun _ => true) true Tryz.f7.params.toList args.toList ds p := hA0
  rw [Tryz.params7] at hA hval
  obtain ⟨v0, vs0, d0, ds0, p0, q0, hargs, rfl, rfl, h0, r0⟩ := trodAll_cons hA
  obtain ⟨v1, vs1, d1, ds1, p1, q1, rfl, rfl, rfl, h1, r1⟩ := trodAll_cons r0
  obtain ⟨v2, vs2, d2, ds2, p2, q2, rfl, rfl, rfl, h2, r2⟩ := trodAll_cons r1
  obtain ⟨v3, vs3, d3, ds3, p3, q3, rfl, rfl, rfl, h3, r3⟩ := trodAll_cons r2
  obtain ⟨v4, vs4, d4, ds4, p4, q4, rfl, rfl, rfl, h4, r4⟩ := trodAll_cons r3
  obtain ⟨v5, vs5, d5, ds5, p5, q5, rfl, rfl, rfl, h5, r5⟩ := trodAll_cons r4
  obtain ⟨rfl, rfl, rfl⟩ := trodAll_nil r5
  obtain rfl : args = #[v0, v1, v2, v3, v4, v5] := by cases args; simp_all
  obtain ⟨rfl, rfl⟩ := trodVars_none hV
  have hv0 := hval 0 23 v0 rfl rfl
  have hv1 := hval 1 23 v1 rfl rfl
  obtain ⟨a2, rfl, rfl, rfl, w2⟩ := Go.ChangeMaps.open_string Tryz.underlying9 (hval 2 9 v2 rfl rfl) h2
  obtain ⟨a3, rfl, rfl, rfl, w3⟩ := Go.ChangeMaps.open_string Tryz.underlying9 (hval 3 9 v3 rfl rfl) h3
  obtain ⟨a4, rfl, rfl, rfl, w4⟩ := open_int Tryz.underlying3 (hval 4 3 v4 rfl rfl) h4
  obtain ⟨a5, rfl, rfl, rfl, w5⟩ := open_int Tryz.underlying3 (hval 5 3 v5 rfl rfl) h5
  obtain ⟨x0, rfl, f0⟩ := open_val hv0 h0
  obtain ⟨x1, rfl, f1⟩ := open_val hv1 h1
  have hL1 : laidMet Tryz.prog [("math/bits.deBruijn32tab", Rows.laid_math_bits_deBruijn32tab), ("math/bits.deBruijn64tab", Rows.laid_math_bits_deBruijn64tab), ("internal/strconv.uint64pow10", Rows.laid_internal_strconv_uint64pow10), ("unicode/utf8.acceptRanges", Rows.laid_unicode_utf8_acceptRanges), ("strconv.ErrRange", Rows.laid_strconv_ErrRange), ("strconv.ErrSyntax", Rows.laid_strconv_ErrSyntax), ("unicode/utf8.first", Rows.laid_unicode_utf8_first)] W ∧ handlesMet Tryz.prog [("errors.errorType", Rows.laid_errors_errorType)] W := hL
  have hL0 := hL1.1
  have hbk : Rows.uptoBulkAll _ ≤ 1048576 := of_decide_eq_true hk
  have hN : a2.size ≤ 2000000 := by simp only [List.append_nil, Rows.uptoBulkAll, Rows.uptoBulk] at hbk; rw [← size_eq]; omega
  refine (walk x0 x1 a2 a3 a4 a5 W f0 f1 hN (fits_of w4) (fits_of w5) (textT_of hL0 (.tail _ (.tail _ (.head _))) hsh) (numT_of hL0.tail.tail.tail.tail) (errT_of_laid (show laidMetH Tryz.prog [("errors.errorType", Rows.laid_errors_errorType)] W from ⟨laidMet_nil _ _, hL1.2⟩))).mono fun e W' ⟨he, hb⟩ => ?_
  subst he
  exact ⟨_, rfl, law_post laidOut Tryz.underlying4 (by kernel_rfl) rfl (by rw [Tryz.params7]; intro t ht; simp only [List.mem_cons, List.not_mem_nil, or_false] at ht; rcases ht with rfl | rfl | rfl | rfl | rfl | rfl; all_goals exact ⟨by kernel_rfl, of_decide_eq_true (by kernel_rfl)⟩) hW' rfl hb⟩

theorem reads (os : Os) {H : Type} (enc : TypeId × Value → H) : ∃ places, DataW.whole enc Tryz.prog ((theWorld os).forCall (fun _ _ => 0) ⟨#[], #[.agg #[.int .i64 0, .int .i64 0, .string .empty], .agg #[.int .i64 0, .int .i64 0, .string .empty], .string .empty, .string .empty, .int .i64 0, .int .i64 0], []⟩).memory Tryz.f7.params.toList Rows.valTellsSpec.vars false (#[.agg #[.int .i64 0, .int .i64 0, .string .empty], .agg #[.int .i64 0, .int .i64 0, .string .empty], .string .empty, .string .empty, .int .i64 0, .int .i64 0] : Array Value).toList 8 = some ([.agg [.lit (.int .i64 0), .lit (.int .i64 0), .lit (.string [])], .agg [.lit (.int .i64 0), .lit (.int .i64 0), .lit (.string [])], .lit (.string []), .lit (.string []), .lit (.int .i64 0), .lit (.int .i64 0)], [], places) :=
  ⟨[], by kernel_rfl⟩

set_option maxRecDepth 100000 in
theorem lifted (os : Os) (started : os.Started) (H : Type) (enc : TypeId × Value → H) (F : Stop.Interp) :
    ReturnsInHanded {} Tryz.checked os 7 .any ((Rows.OpenSpec.upto Rows.valTellsSpec).preRow enc Tryz.prog Tryz.f7 Rows.valTellsUptoRow.domain false Rows.valTellsUptoRow.laid) (((Rows.OpenSpec.upto Rows.valTellsSpec).at F).post enc Tryz.prog Tryz.f7 false true false false) := by
  obtain ⟨places, hx⟩ := reads os enc
  refine returnsInHanded_of_row (C := Tryz.checked) (s := Rows.OpenSpec.upto Rows.valTellsSpec) own started (by kernel_rfl) Tryz.func7
    (witness_row_atRef (enc := enc) (C := Tryz.checked) false (theWorld os) #[.agg #[.int .i64 0, .int .i64 0, .string .empty], .agg #[.int .i64 0, .int .i64 0, .string .empty], .string .empty, .string .empty, .int .i64 0, .int .i64 0] (World.layVars_os _ _ _) (by kernel_rfl) (by kernel_rfl) (by kernel_rfl)
      (OpenSpec.preRow_of_cond 8 hx (by kernel_rfl) (fun k hk => by cases hk; kernel_rfl) (by kernel_rfl) (laidMetH_of_parts (laidMet_over (w0 := World.doorLaid Tryz.prog 4000 os) rfl (by kernel_rfl) (by kernel_rfl)) (by kernel_rfl)))) ?_
  intro W base args ds gs before hval hW _ hcond hsz hL hsh _
  exact contract H enc W base args ds gs before hval hW hsz hL hsh (hcond _ rfl)

theorem said : Rows.ValTellsUptoSaid :=
  OpenClaim.holds_of_cond 7 Tryz.f7 rfl rfl rfl rfl rfl rfl rfl ⟨rfl, rfl, rfl, rfl, rfl⟩ rfl rfl rfl rfl rfl (by kernel_rfl) Tryz.func7 (by kernel_rfl)
    (of_decide_eq_true (by kernel_rfl)) (by unfold Func.isWrapper; first | (rw [if_pos (by decide +kernel)]; kernel_rfl) | (rw [if_neg (by decide +kernel)]; exact ⟨rfl, rfl⟩))
    (fun os started H enc _ F => by rw [OpenClaim.pre_eq_preRow]; exact lifted os started H enc F)

theorem plain (f : FuncId) (fn : Func) (hf : Tryz.pinned.checked.prog.funcNamed "sluicebook/sluicelaw1.ValTells" = some f) (hfn : Tryz.pinned.checked.prog.funcs[f]? = some fn) :
    true = Tryz.pinned.checked.prog.looks [] ∧ ∀ (j : Nat) t, fn.params[j]? = some t → Tryz.pinned.checked.prog.wantsStandIn t = false := by
  obtain rfl : f = 7 := Option.some.inj ((show Tryz.prog.funcNamed "sluicebook/sluicelaw1.ValTells" = some 7 by kernel_rfl).symm.trans hf) |>.symm
  obtain rfl : fn = Tryz.f7 := (Option.some.inj (Tryz.func7.symm.trans hfn)).symm
  refine ⟨by kernel_rfl, fun j t ht => ?_⟩
  rw [Tryz.params7] at ht
  have hm := Array.mem_of_getElem? ht
  simp only [List.mem_toArray, List.mem_cons, List.not_mem_nil, or_false] at hm
  rcases hm with rfl | rfl | rfl | rfl | rfl | rfl
  · exact (show Tryz.prog.wantsStandIn 23 = false by kernel_rfl)
  · exact (show Tryz.prog.wantsStandIn 23 = false by kernel_rfl)
  · exact (show Tryz.prog.wantsStandIn 9 = false by kernel_rfl)
  · exact (show Tryz.prog.wantsStandIn 9 = false by kernel_rfl)
  · exact (show Tryz.prog.wantsStandIn 3 = false by kernel_rfl)
  · exact (show Tryz.prog.wantsStandIn 3 = false by kernel_rfl)

theorem card : Rows.ValTellsUptoCardSaid :=
  Claim7.holds_tied_plain_at .later [] _ _ _ _ said (fun _ h => by cases h) (by kernel_rfl) (fun _ h => by cases h) valTellsUpto_row_tie rfl ⟨rfl, rfl⟩ (by kernel_rfl) rfl plain (by kernel_rfl)
#print axioms card
end Go.Proofs.YtpbbkpfaphjdoaaGreatDoor.valTells
