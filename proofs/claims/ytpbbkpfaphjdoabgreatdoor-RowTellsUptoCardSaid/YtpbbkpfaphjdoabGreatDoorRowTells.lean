/- RowTells, where what it reads is of bulk at most 1048576: what is wrong with any schema, and any row of it; any as text, and any text as one; where a name is. -/
import Derived.Test.YtpbbkpfaphjdoabGreatDoorRefSch
import Derived.Test.YtpbbkpfaphjdoabGreatDoorRefRow
import Derived.Test.YtpbbkpfaphjdoabGreatDoorRefRowRead
import Derived.Test.YtpbbkpfaphjdoabGreatDoorRefRowShow
import Derived.Test.YtpbbkpfaphjdoabGreatDoorOrdLaw
import Derived.Test.YtpbbkpfaphjdoabGreatDoorSameCols
import Derived.Test.YtpbbkpfaphjdoabGreatDoorTold
import Derived.Test.YtpbbkpfaphjdoabGreatDoorOpenExN
import Derived.Test.YtpbbkpfaphjdoabGreatDoorCards
import Derived.Test.YtpbbkpfaphjdoabGreatDoorTie
import Derived.Stop.Joined
import Derived.SevenTiedAt
import Derived.Deep.DeepWitnessRowRef
import Derived.Deep.DeepHandedRow
namespace Go.Proofs.YtpbbkpfaphjdoabGreatDoor.rowTells
open Go.ChangeShapes Go.WideShapes Go.ChangeAt Go.RowKit

theorem errIs (k : Int) : ErrIs (errV k) k := by
  by_cases h : k = 0
  · subst h; exact Or.inl ⟨rfl, rfl⟩
  · exact Or.inr ⟨errV_ne h, h⟩
theorem sameV (k : Int) (w : World) (hg : ErrT w) : Calls Tryz.prog 5 #[errV k, .int .i64 k] w fun ev w' => ev = .returned (.bool true) ∧ Below w.heap.size w w' := by
  have := same_err (errV k) k k w hg (errIs k)
  rw [beq_self_eq_true] at this
  exact this
def FindSays (fc : Int) (w : World) (e : Ending) (w' : World) : Prop := e = .returned (.tuple #[.int .i64 (if 0 ≤ fc then fc else 0), errV (if 0 ≤ fc then 0 else 5)]) ∧ Below w.heap.size w w'
theorem find_says (l : List Col) (s : ByteArray) (A : Option Addr) (n c : Nat) (w : World) (hl : SeesCols w A n c l) :
    Calls Tryz.prog 21 #[.slice A n c, .string s] w (FindSays (findCol l s) w) := by
  unfold FindSays
  by_cases h : 0 ≤ findCol l s
  · rw [if_pos h, if_pos h]; exact rFind_some l s A n c w hl h
  · rw [if_neg h, if_neg h]; exact rFind_none l s A n c w hl (by omega)
set_option maxHeartbeats 16000000 in
set_option maxRecDepth 100000 in
theorem walk (C R : Option Addr) (p q m c : Nat) (l : List Col) (r : List Val) (s t name : ByteArray) (W : World) (hC : SeesCols W C p q l) (hs : ∀ x ∈ l, x.name.size ≤ maxLen) (hR : SeesVals W R m c r) (hw : ∀ v ∈ r, v.wf)
    (hS : s.size ≤ 2000000) (hT' : t.size ≤ 2000000) (hT : TextT W) (hN : NumT W) (hY : TypesT W) (hE : ErrT W) :
    Calls Tryz.prog 3 #[.slice C p q, .slice R m c, .string s, .string t, .string name] W
      fun e W' => e = .returned (.bool true) ∧ Below W.heap.size W W' := by
  have T1 := Lib.hid (fun (w' : World) (h : Below W.heap.size W w') => rschema_any l C p q w' (hC.keep h) hs)
  have T2 := Lib.hid (fun (w' : World) (h : Below W.heap.size W w') => rschemaR_any l C p q w' (hC.keep h) hs)
  have TE := Lib.hid (fun (k : Int) (w' : World) (h : Below W.heap.size W w') => sameV k w' (hE.keep h))
  have T4 := Lib.hid (fun (w' : World) (h : Below W.heap.size W w') => rowCheck_any l r C R p q m c w' (hC.keep h) hs (hR.keep h))
  have T5 := Lib.hid (fun (w' : World) (h : Below W.heap.size W w') => rrow_any l r C R p q m c w' (hC.keep h) hs (hR.keep h) (fun v hv => (hw v hv).2.2))
  have T7 := Lib.hid (fun (w' : World) (h : Below W.heap.size W w') => rshowRow_any R m c r w' (hR.keep h) hw)
  have T8 := Lib.hid (fun (w' : World) (h : Below W.heap.size W w') => rowPrint_any R m c r w' (hR.keep h) hw (hT.keep h))
  have T10 := Lib.hid (fun (w' : World) => rreadRow_any s hS w')
  have T11 := Lib.hid (fun (w' : World) (h : Below W.heap.size W w') => rowParse_any s hS w' (hT.keep h) (hN.keep h))
  have T14 := Lib.hid (fun (h0 : schemaErr l = 0) (w' : World) (h : Below W.heap.size W w') => rshowSch_any l C p q w' (hC.keep h) h0)
  have T15 := Lib.hid (fun (w' : World) (h : Below W.heap.size W w') => schPrint_any l C p q w' (hC.keep h) hs (hY.keep h))
  have T17 := Lib.hid (fun (w' : World) => rreadSch_any t hT' w')
  have T18 := Lib.hid (fun (w' : World) (h : Below W.heap.size W w') => schParse_any t hT' w' (hT.keep h) (hY.keep h))
  have T21 := Lib.hid (fun (w' : World) (h : Below W.heap.size W w') => rfindR_any l name C p q w' (hC.keep h))
  have T22 := Lib.hid (fun (w' : World) (h : Below W.heap.size W w') => find_says l name C p q w' (hC.keep h))
  have TSV := Lib.hid (fun (A E : Option Addr) (n a b : Nat) (u : List Val) (w' : World) => sameVals_any A E n a b u w')
  have TSC := Lib.hid (fun (A E : Option Addr) (n a b : Nat) (u : List Col) (w' : World) => sameCols_any A E n a b u w')
  unfold ValSays at T5
  unfold ShowRowSays at T7
  unfold RowPrintSays at T8
  unfold RReadRowSays at T10
  unfold RowParseSays at T11
  unfold SchPrintSays at T15
  unfold RReadSchSays at T17
  unfold SchParseSays at T18
  unfold FindSays at T22
  rw [show (⟨(rowText r).toArray⟩ : ByteArray) = mkB (rowText r) from rfl] at T8
  generalize (if rowPErr r = 0 then mkB (rowText r) else ⟨#[]⟩) = st at T7 T8
  generalize rowPErr r = pe at T7 T8
  generalize rowErr l r = re at T4 T5
  generalize (readRow s.data.toList).1 = rv at T10 T11
  generalize (readRow s.data.toList).2 = rk at T10 T11
  generalize (readSch t.data.toList).1 = sv at T17 T18
  generalize (readSch t.data.toList).2 = sk at T17 T18
  generalize findCol l name = fc at T21 T22
  generalize schemaErr l = se at T1 T2 T14 T15
  clear hC hs hR hw hS hT' hT hN hY hE
  by_cases h1 : se = 0
  · obtain rfl := h1
    rw [if_pos rfl] at T15
    by_cases h2 : 0 ≤ fc
    · as_aux_lemma =>
        rw [if_pos h2, if_pos h2] at T22
        have d2 : decide (fc < 0) = false := decide_eq_false (by omega)
        clear h2
        go_enter Tryz.func3, Tryz.ntmps3
        go_wp2_with fail
        refine (T1.out W (Below.refl _ _)).mono ?_
        rintro e w1 ⟨rfl, hb_⟩
        have HB1 := Lib.hid (hb_)
        clear hb_
        go_wp2_with fail
        refine (T2.out _ HB1.out).mono ?_
        rintro e w' ⟨rfl, rfl⟩
        go_wp2_with fail
        refine (TE.out _ _ HB1.out).mono ?_
        rintro e w2 ⟨rfl, hb_⟩
        have HB2 := Lib.hid (HB1.out.trans (hb_.mono HB1.out.size))
        clear hb_
        go_wp2_with fail
        refine (T4.out _ HB2.out).mono ?_
        rintro e w3 ⟨rfl, hb_⟩
        have HB3 := Lib.hid (HB2.out.trans (hb_.mono HB2.out.size))
        clear hb_
        go_wp2_with fail
        refine (T5.out _ HB3.out).mono ?_
        rintro e w4 ⟨rfl, hb_⟩
        have HB4 := Lib.hid (HB3.out.trans (hb_.mono HB3.out.size))
        clear hb_
        go_wp2_with fail
        refine (TE.out _ _ HB4.out).mono ?_
        rintro e w5 ⟨rfl, hb_⟩
        have HB5 := Lib.hid (HB4.out.trans (hb_.mono HB4.out.size))
        clear hb_
        go_wp2_with fail
        refine (T7.out _ HB5.out).mono ?_
        rintro e w6 ⟨rfl, hb_⟩
        have HB6 := Lib.hid (HB5.out.trans (hb_.mono HB5.out.size))
        clear hb_
        go_wp2_with fail
        refine (T8.out _ HB6.out).mono ?_
        rintro e w7 ⟨rfl, hb_⟩
        have HB7 := Lib.hid (HB6.out.trans (hb_.mono HB6.out.size))
        clear hb_
        go_wp2_with fail
        refine (TE.out _ _ HB7.out).mono ?_
        rintro e w8 ⟨rfl, hb_⟩
        have HB8 := Lib.hid (HB7.out.trans (hb_.mono HB7.out.size))
        clear hb_
        go_wp2_with fail
        refine (T10.out _).mono ?_
        rintro e w9 ⟨AX, nx, cx, rfl, hvx, hb_⟩
        have HB9 := Lib.hid (HB8.out.trans (hb_.mono HB8.out.size))
        have HX := Lib.hid hvx
        clear hvx hb_
        go_wp2_with fail
        refine (T11.out _ HB9.out).mono ?_
        rintro e w10 ⟨AY, ny, cy, rfl, hvy, hb_⟩
        have HX2 := Lib.hid (HX.out.keep hb_)
        have HB10 := Lib.hid (HB9.out.trans (hb_.mono HB9.out.size))
        obtain rfl : ny = nx := by rw [← hvy.1]; exact HX.out.1
        have HY := Lib.hid hvy
        clear hvy hb_ HX
        go_wp2_with fail
        refine (TE.out _ _ HB10.out).mono ?_
        rintro e w11 ⟨rfl, hb_⟩
        have HX3 := Lib.hid (HX2.out.keep hb_)
        have HY3 := Lib.hid (HY.out.keep hb_)
        have HB11 := Lib.hid (HB10.out.trans (hb_.mono HB10.out.size))
        clear hb_ HX2 HY
        go_wp2_with fail
        refine (TSV.out _ _ _ _ _ _ _ HY3.out HX3.out).mono ?_
        rintro e w12 ⟨rfl, hb_⟩
        have HB12 := Lib.hid (HB11.out.trans (hb_.mono HB11.out.size))
        clear hb_ HX3 HY3
        go_wp2_with fail
        refine (T2.out _ HB12.out).mono ?_
        rintro e w' ⟨rfl, rfl⟩
        go_wp2_with fail
        refine (T14.out (by simp) _ HB12.out).mono ?_
        rintro e w13 ⟨rfl, hb_⟩
        have HB13 := Lib.hid (HB12.out.trans (hb_.mono HB12.out.size))
        clear hb_
        go_wp2_with fail
        refine (T15.out _ HB13.out).mono ?_
        rintro e w14 ⟨rfl, hb_⟩
        have HB14 := Lib.hid (HB13.out.trans (hb_.mono HB13.out.size))
        clear hb_
        go_wp2_with fail
        refine (TE.out _ _ HB14.out).mono ?_
        rintro e w15 ⟨rfl, hb_⟩
        have HB15 := Lib.hid (HB14.out.trans (hb_.mono HB14.out.size))
        clear hb_
        go_wp2_with fail
        refine (T17.out _).mono ?_
        rintro e w16 ⟨AU, nu, cu, rfl, hvx, hb_⟩
        have HB16 := Lib.hid (HB15.out.trans (hb_.mono HB15.out.size))
        have HX := Lib.hid hvx
        clear hvx hb_
        go_wp2_with fail
        refine (T18.out _ HB16.out).mono ?_
        rintro e w17 ⟨AV, nv, cv, rfl, hvy, hb_⟩
        have HX2 := Lib.hid (HX.out.keep hb_)
        have HB17 := Lib.hid (HB16.out.trans (hb_.mono HB16.out.size))
        obtain rfl : nv = nu := by rw [← hvy.1]; exact HX.out.1
        have HY := Lib.hid hvy
        clear hvy hb_ HX
        go_wp2_with fail
        refine (TE.out _ _ HB17.out).mono ?_
        rintro e w18 ⟨rfl, hb_⟩
        have HX3 := Lib.hid (HX2.out.keep hb_)
        have HY3 := Lib.hid (HY.out.keep hb_)
        have HB18 := Lib.hid (HB17.out.trans (hb_.mono HB17.out.size))
        clear hb_ HX2 HY
        go_wp2_with fail
        refine (TSC.out _ _ _ _ _ _ _ HY3.out HX3.out).mono ?_
        rintro e w19 ⟨rfl, hb_⟩
        have HB19 := Lib.hid (HB18.out.trans (hb_.mono HB18.out.size))
        clear hb_ HX3 HY3
        go_wp2_with fail
        refine (T21.out _ HB19.out).mono ?_
        rintro e w' ⟨rfl, rfl⟩
        go_wp2_with fail
        refine (T22.out _ HB19.out).mono ?_
        rintro e w20 ⟨rfl, hb_⟩
        have HB20 := Lib.hid (HB19.out.trans (hb_.mono HB19.out.size))
        clear hb_
        go_wp2_with fail
        refine (TE.out _ _ HB20.out).mono ?_
        rintro e w21 ⟨rfl, hb_⟩
        have HB21 := Lib.hid (HB20.out.trans (hb_.mono HB20.out.size))
        clear hb_
        go_wp2_with fail
        go_ret
        exact ⟨rfl, HB21.out⟩
    · as_aux_lemma =>
        rw [if_neg h2, if_neg h2] at T22
        have d2 : decide (fc < 0) = true := decide_eq_true (by omega)
        clear h2
        go_enter Tryz.func3, Tryz.ntmps3
        go_wp2_with fail
        refine (T1.out W (Below.refl _ _)).mono ?_
        rintro e w1 ⟨rfl, hb_⟩
        have HB1 := Lib.hid (hb_)
        clear hb_
        go_wp2_with fail
        refine (T2.out _ HB1.out).mono ?_
        rintro e w' ⟨rfl, rfl⟩
        go_wp2_with fail
        refine (TE.out _ _ HB1.out).mono ?_
        rintro e w2 ⟨rfl, hb_⟩
        have HB2 := Lib.hid (HB1.out.trans (hb_.mono HB1.out.size))
        clear hb_
        go_wp2_with fail
        refine (T4.out _ HB2.out).mono ?_
        rintro e w3 ⟨rfl, hb_⟩
        have HB3 := Lib.hid (HB2.out.trans (hb_.mono HB2.out.size))
        clear hb_
        go_wp2_with fail
        refine (T5.out _ HB3.out).mono ?_
        rintro e w4 ⟨rfl, hb_⟩
        have HB4 := Lib.hid (HB3.out.trans (hb_.mono HB3.out.size))
        clear hb_
        go_wp2_with fail
        refine (TE.out _ _ HB4.out).mono ?_
        rintro e w5 ⟨rfl, hb_⟩
        have HB5 := Lib.hid (HB4.out.trans (hb_.mono HB4.out.size))
        clear hb_
        go_wp2_with fail
        refine (T7.out _ HB5.out).mono ?_
        rintro e w6 ⟨rfl, hb_⟩
        have HB6 := Lib.hid (HB5.out.trans (hb_.mono HB5.out.size))
        clear hb_
        go_wp2_with fail
        refine (T8.out _ HB6.out).mono ?_
        rintro e w7 ⟨rfl, hb_⟩
        have HB7 := Lib.hid (HB6.out.trans (hb_.mono HB6.out.size))
        clear hb_
        go_wp2_with fail
        refine (TE.out _ _ HB7.out).mono ?_
        rintro e w8 ⟨rfl, hb_⟩
        have HB8 := Lib.hid (HB7.out.trans (hb_.mono HB7.out.size))
        clear hb_
        go_wp2_with fail
        refine (T10.out _).mono ?_
        rintro e w9 ⟨AX, nx, cx, rfl, hvx, hb_⟩
        have HB9 := Lib.hid (HB8.out.trans (hb_.mono HB8.out.size))
        have HX := Lib.hid hvx
        clear hvx hb_
        go_wp2_with fail
        refine (T11.out _ HB9.out).mono ?_
        rintro e w10 ⟨AY, ny, cy, rfl, hvy, hb_⟩
        have HX2 := Lib.hid (HX.out.keep hb_)
        have HB10 := Lib.hid (HB9.out.trans (hb_.mono HB9.out.size))
        obtain rfl : ny = nx := by rw [← hvy.1]; exact HX.out.1
        have HY := Lib.hid hvy
        clear hvy hb_ HX
        go_wp2_with fail
        refine (TE.out _ _ HB10.out).mono ?_
        rintro e w11 ⟨rfl, hb_⟩
        have HX3 := Lib.hid (HX2.out.keep hb_)
        have HY3 := Lib.hid (HY.out.keep hb_)
        have HB11 := Lib.hid (HB10.out.trans (hb_.mono HB10.out.size))
        clear hb_ HX2 HY
        go_wp2_with fail
        refine (TSV.out _ _ _ _ _ _ _ HY3.out HX3.out).mono ?_
        rintro e w12 ⟨rfl, hb_⟩
        have HB12 := Lib.hid (HB11.out.trans (hb_.mono HB11.out.size))
        clear hb_ HX3 HY3
        go_wp2_with fail
        refine (T2.out _ HB12.out).mono ?_
        rintro e w' ⟨rfl, rfl⟩
        go_wp2_with fail
        refine (T14.out (by simp) _ HB12.out).mono ?_
        rintro e w13 ⟨rfl, hb_⟩
        have HB13 := Lib.hid (HB12.out.trans (hb_.mono HB12.out.size))
        clear hb_
        go_wp2_with fail
        refine (T15.out _ HB13.out).mono ?_
        rintro e w14 ⟨rfl, hb_⟩
        have HB14 := Lib.hid (HB13.out.trans (hb_.mono HB13.out.size))
        clear hb_
        go_wp2_with fail
        refine (TE.out _ _ HB14.out).mono ?_
        rintro e w15 ⟨rfl, hb_⟩
        have HB15 := Lib.hid (HB14.out.trans (hb_.mono HB14.out.size))
        clear hb_
        go_wp2_with fail
        refine (T17.out _).mono ?_
        rintro e w16 ⟨AU, nu, cu, rfl, hvx, hb_⟩
        have HB16 := Lib.hid (HB15.out.trans (hb_.mono HB15.out.size))
        have HX := Lib.hid hvx
        clear hvx hb_
        go_wp2_with fail
        refine (T18.out _ HB16.out).mono ?_
        rintro e w17 ⟨AV, nv, cv, rfl, hvy, hb_⟩
        have HX2 := Lib.hid (HX.out.keep hb_)
        have HB17 := Lib.hid (HB16.out.trans (hb_.mono HB16.out.size))
        obtain rfl : nv = nu := by rw [← hvy.1]; exact HX.out.1
        have HY := Lib.hid hvy
        clear hvy hb_ HX
        go_wp2_with fail
        refine (TE.out _ _ HB17.out).mono ?_
        rintro e w18 ⟨rfl, hb_⟩
        have HX3 := Lib.hid (HX2.out.keep hb_)
        have HY3 := Lib.hid (HY.out.keep hb_)
        have HB18 := Lib.hid (HB17.out.trans (hb_.mono HB17.out.size))
        clear hb_ HX2 HY
        go_wp2_with fail
        refine (TSC.out _ _ _ _ _ _ _ HY3.out HX3.out).mono ?_
        rintro e w19 ⟨rfl, hb_⟩
        have HB19 := Lib.hid (HB18.out.trans (hb_.mono HB18.out.size))
        clear hb_ HX3 HY3
        go_wp2_with fail
        refine (T21.out _ HB19.out).mono ?_
        rintro e w' ⟨rfl, rfl⟩
        go_wp2_with fail
        refine (T22.out _ HB19.out).mono ?_
        rintro e w20 ⟨rfl, hb_⟩
        have HB20 := Lib.hid (HB19.out.trans (hb_.mono HB19.out.size))
        clear hb_
        go_wp2_with fail
        refine (TE.out _ _ HB20.out).mono ?_
        rintro e w21 ⟨rfl, hb_⟩
        have HB21 := Lib.hid (HB20.out.trans (hb_.mono HB20.out.size))
        clear hb_
        go_wp2_with fail
        go_ret
        exact ⟨rfl, HB21.out⟩
  · have Q1 : (se == 0) = false := beq_eq_false_iff_ne.2 h1
    rw [if_neg h1] at T15
    clear h1 T14
    by_cases h2 : 0 ≤ fc
    · as_aux_lemma =>
        rw [if_pos h2, if_pos h2] at T22
        have d2 : decide (fc < 0) = false := decide_eq_false (by omega)
        clear h2
        go_enter Tryz.func3, Tryz.ntmps3
        go_wp2_with fail
        refine (T1.out W (Below.refl _ _)).mono ?_
        rintro e w1 ⟨rfl, hb_⟩
        have HB1 := Lib.hid (hb_)
        clear hb_
        go_wp2_with fail
        refine (T2.out _ HB1.out).mono ?_
        rintro e w' ⟨rfl, rfl⟩
        go_wp2_with fail
        refine (TE.out _ _ HB1.out).mono ?_
        rintro e w2 ⟨rfl, hb_⟩
        have HB2 := Lib.hid (HB1.out.trans (hb_.mono HB1.out.size))
        clear hb_
        go_wp2_with fail
        refine (T4.out _ HB2.out).mono ?_
        rintro e w3 ⟨rfl, hb_⟩
        have HB3 := Lib.hid (HB2.out.trans (hb_.mono HB2.out.size))
        clear hb_
        go_wp2_with fail
        refine (T5.out _ HB3.out).mono ?_
        rintro e w4 ⟨rfl, hb_⟩
        have HB4 := Lib.hid (HB3.out.trans (hb_.mono HB3.out.size))
        clear hb_
        go_wp2_with fail
        refine (TE.out _ _ HB4.out).mono ?_
        rintro e w5 ⟨rfl, hb_⟩
        have HB5 := Lib.hid (HB4.out.trans (hb_.mono HB4.out.size))
        clear hb_
        go_wp2_with fail
        refine (T7.out _ HB5.out).mono ?_
        rintro e w6 ⟨rfl, hb_⟩
        have HB6 := Lib.hid (HB5.out.trans (hb_.mono HB5.out.size))
        clear hb_
        go_wp2_with fail
        refine (T8.out _ HB6.out).mono ?_
        rintro e w7 ⟨rfl, hb_⟩
        have HB7 := Lib.hid (HB6.out.trans (hb_.mono HB6.out.size))
        clear hb_
        go_wp2_with fail
        refine (TE.out _ _ HB7.out).mono ?_
        rintro e w8 ⟨rfl, hb_⟩
        have HB8 := Lib.hid (HB7.out.trans (hb_.mono HB7.out.size))
        clear hb_
        go_wp2_with fail
        refine (T10.out _).mono ?_
        rintro e w9 ⟨AX, nx, cx, rfl, hvx, hb_⟩
        have HB9 := Lib.hid (HB8.out.trans (hb_.mono HB8.out.size))
        have HX := Lib.hid hvx
        clear hvx hb_
        go_wp2_with fail
        refine (T11.out _ HB9.out).mono ?_
        rintro e w10 ⟨AY, ny, cy, rfl, hvy, hb_⟩
        have HX2 := Lib.hid (HX.out.keep hb_)
        have HB10 := Lib.hid (HB9.out.trans (hb_.mono HB9.out.size))
        obtain rfl : ny = nx := by rw [← hvy.1]; exact HX.out.1
        have HY := Lib.hid hvy
        clear hvy hb_ HX
        go_wp2_with fail
        refine (TE.out _ _ HB10.out).mono ?_
        rintro e w11 ⟨rfl, hb_⟩
        have HX3 := Lib.hid (HX2.out.keep hb_)
        have HY3 := Lib.hid (HY.out.keep hb_)
        have HB11 := Lib.hid (HB10.out.trans (hb_.mono HB10.out.size))
        clear hb_ HX2 HY
        go_wp2_with fail
        refine (TSV.out _ _ _ _ _ _ _ HY3.out HX3.out).mono ?_
        rintro e w12 ⟨rfl, hb_⟩
        have HB12 := Lib.hid (HB11.out.trans (hb_.mono HB11.out.size))
        clear hb_ HX3 HY3
        go_wp2_with fail
        refine (T2.out _ HB12.out).mono ?_
        rintro e w' ⟨rfl, rfl⟩
        go_wp2_with fail
        refine (T15.out _ HB12.out).mono ?_
        rintro e w13 ⟨rfl, hb_⟩
        have HB13 := Lib.hid (HB12.out.trans (hb_.mono HB12.out.size))
        clear hb_
        go_wp2_with fail
        refine (TE.out _ _ HB13.out).mono ?_
        rintro e w14 ⟨rfl, hb_⟩
        have HB14 := Lib.hid (HB13.out.trans (hb_.mono HB13.out.size))
        clear hb_
        go_wp2_with fail
        refine (T17.out _).mono ?_
        rintro e w15 ⟨AU, nu, cu, rfl, hvx, hb_⟩
        have HB15 := Lib.hid (HB14.out.trans (hb_.mono HB14.out.size))
        have HX := Lib.hid hvx
        clear hvx hb_
        go_wp2_with fail
        refine (T18.out _ HB15.out).mono ?_
        rintro e w16 ⟨AV, nv, cv, rfl, hvy, hb_⟩
        have HX2 := Lib.hid (HX.out.keep hb_)
        have HB16 := Lib.hid (HB15.out.trans (hb_.mono HB15.out.size))
        obtain rfl : nv = nu := by rw [← hvy.1]; exact HX.out.1
        have HY := Lib.hid hvy
        clear hvy hb_ HX
        go_wp2_with fail
        refine (TE.out _ _ HB16.out).mono ?_
        rintro e w17 ⟨rfl, hb_⟩
        have HX3 := Lib.hid (HX2.out.keep hb_)
        have HY3 := Lib.hid (HY.out.keep hb_)
        have HB17 := Lib.hid (HB16.out.trans (hb_.mono HB16.out.size))
        clear hb_ HX2 HY
        go_wp2_with fail
        refine (TSC.out _ _ _ _ _ _ _ HY3.out HX3.out).mono ?_
        rintro e w18 ⟨rfl, hb_⟩
        have HB18 := Lib.hid (HB17.out.trans (hb_.mono HB17.out.size))
        clear hb_ HX3 HY3
        go_wp2_with fail
        refine (T21.out _ HB18.out).mono ?_
        rintro e w' ⟨rfl, rfl⟩
        go_wp2_with fail
        refine (T22.out _ HB18.out).mono ?_
        rintro e w19 ⟨rfl, hb_⟩
        have HB19 := Lib.hid (HB18.out.trans (hb_.mono HB18.out.size))
        clear hb_
        go_wp2_with fail
        refine (TE.out _ _ HB19.out).mono ?_
        rintro e w20 ⟨rfl, hb_⟩
        have HB20 := Lib.hid (HB19.out.trans (hb_.mono HB19.out.size))
        clear hb_
        go_wp2_with fail
        go_ret
        exact ⟨rfl, HB20.out⟩
    · as_aux_lemma =>
        rw [if_neg h2, if_neg h2] at T22
        have d2 : decide (fc < 0) = true := decide_eq_true (by omega)
        clear h2
        go_enter Tryz.func3, Tryz.ntmps3
        go_wp2_with fail
        refine (T1.out W (Below.refl _ _)).mono ?_
        rintro e w1 ⟨rfl, hb_⟩
        have HB1 := Lib.hid (hb_)
        clear hb_
        go_wp2_with fail
        refine (T2.out _ HB1.out).mono ?_
        rintro e w' ⟨rfl, rfl⟩
        go_wp2_with fail
        refine (TE.out _ _ HB1.out).mono ?_
        rintro e w2 ⟨rfl, hb_⟩
        have HB2 := Lib.hid (HB1.out.trans (hb_.mono HB1.out.size))
        clear hb_
        go_wp2_with fail
        refine (T4.out _ HB2.out).mono ?_
        rintro e w3 ⟨rfl, hb_⟩
        have HB3 := Lib.hid (HB2.out.trans (hb_.mono HB2.out.size))
        clear hb_
        go_wp2_with fail
        refine (T5.out _ HB3.out).mono ?_
        rintro e w4 ⟨rfl, hb_⟩
        have HB4 := Lib.hid (HB3.out.trans (hb_.mono HB3.out.size))
        clear hb_
        go_wp2_with fail
        refine (TE.out _ _ HB4.out).mono ?_
        rintro e w5 ⟨rfl, hb_⟩
        have HB5 := Lib.hid (HB4.out.trans (hb_.mono HB4.out.size))
        clear hb_
        go_wp2_with fail
        refine (T7.out _ HB5.out).mono ?_
        rintro e w6 ⟨rfl, hb_⟩
        have HB6 := Lib.hid (HB5.out.trans (hb_.mono HB5.out.size))
        clear hb_
        go_wp2_with fail
        refine (T8.out _ HB6.out).mono ?_
        rintro e w7 ⟨rfl, hb_⟩
        have HB7 := Lib.hid (HB6.out.trans (hb_.mono HB6.out.size))
        clear hb_
        go_wp2_with fail
        refine (TE.out _ _ HB7.out).mono ?_
        rintro e w8 ⟨rfl, hb_⟩
        have HB8 := Lib.hid (HB7.out.trans (hb_.mono HB7.out.size))
        clear hb_
        go_wp2_with fail
        refine (T10.out _).mono ?_
        rintro e w9 ⟨AX, nx, cx, rfl, hvx, hb_⟩
        have HB9 := Lib.hid (HB8.out.trans (hb_.mono HB8.out.size))
        have HX := Lib.hid hvx
        clear hvx hb_
        go_wp2_with fail
        refine (T11.out _ HB9.out).mono ?_
        rintro e w10 ⟨AY, ny, cy, rfl, hvy, hb_⟩
        have HX2 := Lib.hid (HX.out.keep hb_)
        have HB10 := Lib.hid (HB9.out.trans (hb_.mono HB9.out.size))
        obtain rfl : ny = nx := by rw [← hvy.1]; exact HX.out.1
        have HY := Lib.hid hvy
        clear hvy hb_ HX
        go_wp2_with fail
        refine (TE.out _ _ HB10.out).mono ?_
        rintro e w11 ⟨rfl, hb_⟩
        have HX3 := Lib.hid (HX2.out.keep hb_)
        have HY3 := Lib.hid (HY.out.keep hb_)
        have HB11 := Lib.hid (HB10.out.trans (hb_.mono HB10.out.size))
        clear hb_ HX2 HY
        go_wp2_with fail
        refine (TSV.out _ _ _ _ _ _ _ HY3.out HX3.out).mono ?_
        rintro e w12 ⟨rfl, hb_⟩
        have HB12 := Lib.hid (HB11.out.trans (hb_.mono HB11.out.size))
        clear hb_ HX3 HY3
        go_wp2_with fail
        refine (T2.out _ HB12.out).mono ?_
        rintro e w' ⟨rfl, rfl⟩
        go_wp2_with fail
        refine (T15.out _ HB12.out).mono ?_
        rintro e w13 ⟨rfl, hb_⟩
        have HB13 := Lib.hid (HB12.out.trans (hb_.mono HB12.out.size))
        clear hb_
        go_wp2_with fail
        refine (TE.out _ _ HB13.out).mono ?_
        rintro e w14 ⟨rfl, hb_⟩
        have HB14 := Lib.hid (HB13.out.trans (hb_.mono HB13.out.size))
        clear hb_
        go_wp2_with fail
        refine (T17.out _).mono ?_
        rintro e w15 ⟨AU, nu, cu, rfl, hvx, hb_⟩
        have HB15 := Lib.hid (HB14.out.trans (hb_.mono HB14.out.size))
        have HX := Lib.hid hvx
        clear hvx hb_
        go_wp2_with fail
        refine (T18.out _ HB15.out).mono ?_
        rintro e w16 ⟨AV, nv, cv, rfl, hvy, hb_⟩
        have HX2 := Lib.hid (HX.out.keep hb_)
        have HB16 := Lib.hid (HB15.out.trans (hb_.mono HB15.out.size))
        obtain rfl : nv = nu := by rw [← hvy.1]; exact HX.out.1
        have HY := Lib.hid hvy
        clear hvy hb_ HX
        go_wp2_with fail
        refine (TE.out _ _ HB16.out).mono ?_
        rintro e w17 ⟨rfl, hb_⟩
        have HX3 := Lib.hid (HX2.out.keep hb_)
        have HY3 := Lib.hid (HY.out.keep hb_)
        have HB17 := Lib.hid (HB16.out.trans (hb_.mono HB16.out.size))
        clear hb_ HX2 HY
        go_wp2_with fail
        refine (TSC.out _ _ _ _ _ _ _ HY3.out HX3.out).mono ?_
        rintro e w18 ⟨rfl, hb_⟩
        have HB18 := Lib.hid (HB17.out.trans (hb_.mono HB17.out.size))
        clear hb_ HX3 HY3
        go_wp2_with fail
        refine (T21.out _ HB18.out).mono ?_
        rintro e w' ⟨rfl, rfl⟩
        go_wp2_with fail
        refine (T22.out _ HB18.out).mono ?_
        rintro e w19 ⟨rfl, hb_⟩
        have HB19 := Lib.hid (HB18.out.trans (hb_.mono HB18.out.size))
        clear hb_
        go_wp2_with fail
        refine (TE.out _ _ HB19.out).mono ?_
        rintro e w20 ⟨rfl, hb_⟩
        have HB20 := Lib.hid (HB19.out.trans (hb_.mono HB19.out.size))
        clear hb_
        go_wp2_with fail
        go_ret
        exact ⟨rfl, HB20.out⟩
/-- The world of the witness: the door's, the row's tables laid over it. -/
noncomputable def theWorld (os : Os) : World := (World.doorLaid Tryz.prog 4000 os).layVars Tryz.prog (Rows.rowTellsUptoRow.laid.filter fun x => x.2.handleName?.isNone)

set_option maxRecDepth 100000 in
theorem contract (H : Type) (enc : TypeId × Value → H) (W : World) (base : Nat) (args : Array Value) (ds gs : List (DataW H)) (before : List MemPlace)
    (hval : ∀ (j : Nat) t v, Tryz.f3.params[j]? = some t → args[j]? = some v → Value.okWide Tryz.prog W .any base t v)
    (hW : DataW.Whole enc Tryz.prog Tryz.f3.params.toList Rows.rowTellsSpec.vars false W args.toList ds gs before)
    (hsz : (DataW.weightsEach Tryz.prog (Tryz.f3.params.toList ++ (Rows.OpenSpec.upto Rows.rowTellsSpec).bare.plain.varTypes Tryz.prog) (ds ++ gs)).all (· ≤ reachBytes) = true) (hL : laidMetH Tryz.prog Rows.rowTellsUptoRow.laid W) (hsh : W.ShapedOpen Tryz.prog) (hk : Rows.uptoSmall H (ds ++ gs) = true) :
    Calls Tryz.prog 3 args W fun e W' => ∃ v, e = .returned v ∧ Rows.rowTellsSpec.post enc Tryz.prog Tryz.f3 false true false false W args v W' := by
  have hW' := hW
  obtain ⟨p, q, hA0, hV, rfl, hfz, hnd⟩ := hW
  have hA : DataW.TrodAll enc Tryz.prog W 0 (fun _ => true) true Tryz.f3.params.toList args.toList ds p := hA0
  rw [Tryz.params3] at hA hval
  obtain ⟨v0, vs0, d0, ds0, p0, q0, hargs, rfl, rfl, h0, r0⟩ := trodAll_cons hA
  obtain ⟨v1, vs1, d1, ds1, p1, q1, rfl, rfl, rfl, h1, r1⟩ := trodAll_cons r0
  obtain ⟨v2, vs2, d2, ds2, p2, q2, rfl, rfl, rfl, h2, r2⟩ := trodAll_cons r1
  obtain ⟨v3, vs3, d3, ds3, p3, q3, rfl, rfl, rfl, h3, r3⟩ := trodAll_cons r2
  obtain ⟨v4, vs4, d4, ds4, p4, q4, rfl, rfl, rfl, h4, r4⟩ := trodAll_cons r3
  obtain ⟨rfl, rfl, rfl⟩ := trodAll_nil r4
  obtain rfl : args = #[v0, v1, v2, v3, v4] := by cases args; simp_all
  obtain ⟨rfl, rfl⟩ := trodVars_none hV
  have hv0 := hval 0 22 v0 rfl rfl
  have hv1 := hval 1 23 v1 rfl rfl
  obtain ⟨a2, rfl, rfl, rfl, w2⟩ := Go.ChangeMaps.open_string Tryz.underlying9 (hval 2 9 v2 rfl rfl) h2
  obtain ⟨a3, rfl, rfl, rfl, w3⟩ := Go.ChangeMaps.open_string Tryz.underlying9 (hval 3 9 v3 rfl rfl) h3
  obtain ⟨a4, rfl, rfl, rfl, w4⟩ := Go.ChangeMaps.open_string Tryz.underlying9 (hval 4 9 v4 rfl rfl) h4
  obtain ⟨C, p, q, cols, rfl, hC, hcs⟩ := open_cols (okWide_slice Tryz.underlying22 hv0) h0
  obtain ⟨R, m, c, r, rfl, hR, hwr⟩ := open_vals (okWide_slice Tryz.underlying23 hv1) h1
  have hL1 : laidMet Tryz.prog [("math/bits.deBruijn32tab", Rows.laid_math_bits_deBruijn32tab), ("math/bits.deBruijn64tab", Rows.laid_math_bits_deBruijn64tab), ("internal/strconv.uint64pow10", Rows.laid_internal_strconv_uint64pow10), ("unicode/utf8.acceptRanges", Rows.laid_unicode_utf8_acceptRanges), ("strconv.ErrRange", Rows.laid_strconv_ErrRange), ("strconv.ErrSyntax", Rows.laid_strconv_ErrSyntax), ("sluicebook/row.types", Rows.laid_sluicebook_row_types), ("unicode/utf8.first", Rows.laid_unicode_utf8_first)] W ∧ handlesMet Tryz.prog [("errors.errorType", Rows.laid_errors_errorType)] W := hL
  have hL0 := hL1.1
  have hbk : Rows.uptoBulkAll _ ≤ 1048576 := of_decide_eq_true hk
  have hS2 : a2.size ≤ 2000000 := by simp only [List.append_nil, Rows.uptoBulkAll, Rows.uptoBulk] at hbk; rw [← size_eq]; omega
  have hS3 : a3.size ≤ 2000000 := by simp only [List.append_nil, Rows.uptoBulkAll, Rows.uptoBulk] at hbk; rw [← size_eq]; omega
  refine (walk C R p q m c cols r a2 a3 a4 W hC (fun x hx => (hcs x hx).1) hR hwr hS2 hS3 (textT_of hL0 (.tail _ (.tail _ (.head _))) hsh) (numT_of hL0.tail.tail.tail.tail) (typesT_of hL0 (.tail _ (.tail _ (.tail _ (.tail _ (.tail _ (.tail _ (.head _)))))))) (errT_of_laid (show laidMetH Tryz.prog [("errors.errorType", Rows.laid_errors_errorType)] W from ⟨laidMet_nil _ _, hL1.2⟩))).mono fun e W' ⟨he, hb⟩ => ?_
  subst he
  exact ⟨_, rfl, law_post laidOut Tryz.underlying4 (by kernel_rfl) rfl (by rw [Tryz.params3]; intro t ht; simp only [List.mem_cons, List.not_mem_nil, or_false] at ht; rcases ht with rfl | rfl | rfl | rfl | rfl; all_goals exact ⟨by kernel_rfl, of_decide_eq_true (by kernel_rfl)⟩) hW' rfl hb⟩

theorem reads (os : Os) {H : Type} (enc : TypeId × Value → H) : ∃ places, DataW.whole enc Tryz.prog ((theWorld os).forCall (fun _ _ => 0) ⟨#[], #[.slice none 0 0, .slice none 0 0, .string .empty, .string .empty, .string .empty], []⟩).memory Tryz.f3.params.toList Rows.rowTellsSpec.vars false (#[.slice none 0 0, .slice none 0 0, .string .empty, .string .empty, .string .empty] : Array Value).toList 8 = some ([.nil, .nil, .lit (.string []), .lit (.string []), .lit (.string [])], [], places) :=
  ⟨[], by kernel_rfl⟩

set_option maxRecDepth 100000 in
theorem lifted (os : Os) (started : os.Started) (H : Type) (enc : TypeId × Value → H) (F : Stop.Interp) :
    ReturnsInHanded {} Tryz.checked os 3 .any ((Rows.OpenSpec.upto Rows.rowTellsSpec).preRow enc Tryz.prog Tryz.f3 Rows.rowTellsUptoRow.domain false Rows.rowTellsUptoRow.laid) (((Rows.OpenSpec.upto Rows.rowTellsSpec).at F).post enc Tryz.prog Tryz.f3 false true false false) := by
  obtain ⟨places, hx⟩ := reads os enc
  refine returnsInHanded_of_row (C := Tryz.checked) (s := Rows.OpenSpec.upto Rows.rowTellsSpec) own started (by kernel_rfl) Tryz.func3
    (witness_row_atRef (enc := enc) (C := Tryz.checked) false (theWorld os) #[.slice none 0 0, .slice none 0 0, .string .empty, .string .empty, .string .empty] (World.layVars_os _ _ _) (by kernel_rfl) (by kernel_rfl) (by kernel_rfl)
      (OpenSpec.preRow_of_cond 8 hx (by kernel_rfl) (fun k hk => by cases hk; kernel_rfl) (by kernel_rfl) (laidMetH_of_parts (laidMet_over (w0 := World.doorLaid Tryz.prog 4000 os) rfl (by kernel_rfl) (by kernel_rfl)) (by kernel_rfl)))) ?_
  intro W base args ds gs before hval hW _ hcond hsz hL hsh _
  exact contract H enc W base args ds gs before hval hW hsz hL hsh (hcond _ rfl)

theorem said : Rows.RowTellsUptoSaid :=
  OpenClaim.holds_of_cond 3 Tryz.f3 rfl rfl rfl rfl rfl rfl rfl ⟨rfl, rfl, rfl, rfl, rfl⟩ rfl rfl rfl rfl rfl (by kernel_rfl) Tryz.func3 (by kernel_rfl)
    (of_decide_eq_true (by kernel_rfl)) (by unfold Func.isWrapper; first | (rw [if_pos (by decide +kernel)]; kernel_rfl) | (rw [if_neg (by decide +kernel)]; exact ⟨rfl, rfl⟩))
    (fun os started H enc _ F => by rw [OpenClaim.pre_eq_preRow]; exact lifted os started H enc F)

theorem plain (f : FuncId) (fn : Func) (hf : Tryz.pinned.checked.prog.funcNamed "sluicebook/sluicelaw1.RowTells" = some f) (hfn : Tryz.pinned.checked.prog.funcs[f]? = some fn) :
    true = Tryz.pinned.checked.prog.looks [] ∧ ∀ (j : Nat) t, fn.params[j]? = some t → Tryz.pinned.checked.prog.wantsStandIn t = false := by
  obtain rfl : f = 3 := Option.some.inj ((show Tryz.prog.funcNamed "sluicebook/sluicelaw1.RowTells" = some 3 by kernel_rfl).symm.trans hf) |>.symm
  obtain rfl : fn = Tryz.f3 := (Option.some.inj (Tryz.func3.symm.trans hfn)).symm
  refine ⟨by kernel_rfl, fun j t ht => ?_⟩
  rw [Tryz.params3] at ht
  have hm := Array.mem_of_getElem? ht
  simp only [List.mem_toArray, List.mem_cons, List.not_mem_nil, or_false] at hm
  rcases hm with rfl | rfl | rfl | rfl | rfl
  · exact (show Tryz.prog.wantsStandIn 22 = false by kernel_rfl)
  · exact (show Tryz.prog.wantsStandIn 23 = false by kernel_rfl)
  · exact (show Tryz.prog.wantsStandIn 9 = false by kernel_rfl)
  · exact (show Tryz.prog.wantsStandIn 9 = false by kernel_rfl)
  · exact (show Tryz.prog.wantsStandIn 9 = false by kernel_rfl)

theorem card : Rows.RowTellsUptoCardSaid :=
  Claim7.holds_tied_plain_at .later [] _ _ _ _ said (fun _ h => by cases h) (by kernel_rfl) (fun _ h => by cases h) rowTellsUpto_row_tie rfl ⟨rfl, rfl⟩ (by kernel_rfl) rfl plain (by kernel_rfl)
#print axioms card
end Go.Proofs.YtpbbkpfaphjdoabGreatDoor.rowTells
