/- RowBack, where what it reads is of bulk at most 1048576: rows and schemas are read as they were; a text that is one is shown as it was. -/
import Derived.Test.YtpbbkpfaphjdoaaDoorSchParse
import Derived.Test.YtpbbkpfaphjdoaaDoorRowPrint
import Derived.Test.YtpbbkpfaphjdoaaDoorOrdLaw
import Derived.Test.YtpbbkpfaphjdoaaDoorSameCols
import Derived.Test.YtpbbkpfaphjdoaaDoorTold
import Derived.Test.YtpbbkpfaphjdoaaDoorOpenExN
import Derived.Deep.Cut
import Derived.Deep.CutRange
import Derived.Test.YtpbbkpfaphjdoaaDoorCards
import Derived.Test.YtpbbkpfaphjdoaaDoorTie
import Derived.Stop.Joined
import Derived.SevenTiedAt
import Derived.Deep.DeepWitnessRowRef
import Derived.Deep.DeepHandedRow
namespace Go.Proofs.YtpbbkpfaphjdoaaDoor.rowBack
open Go.ChangeShapes Go.WideShapes Go.ChangeAt Go.RowKit

def factT : ByteArray := ⟨#[55, 44, 39, 97, 44, 98, 39, 44, 116, 114, 117, 101]⟩
def factR : List Val := [⟨1, 7, ⟨#[]⟩⟩, ⟨3, 0, ⟨#[97, 44, 98]⟩⟩, ⟨2, 1, ⟨#[]⟩⟩]
theorem fact_read : readRow factT.data.toList = (factR, 0) := by decide +kernel
theorem size_mkB (l : List UInt8) : (mkB l).size = l.length := rfl
set_option maxHeartbeats 16000000 in
set_option maxRecDepth 100000 in
theorem walk (C R : Option Addr) (p q m c : Nat) (l : List Col) (r : List Val) (s t : ByteArray) (W : World) (hC : SeesCols W C p q l) (hs : ∀ x ∈ l, x.name.size ≤ maxLen) (hR : SeesVals W R m c r) (hw : ∀ v ∈ r, v.wf)
    (hS : s.size ≤ 2000000) (hT' : t.size ≤ 2000000) (hT : TextT W) (hN : NumT W) (hY : TypesT W) :
    Calls Tryd.prog 9 #[.slice C p q, .slice R m c, .string s, .string t] W
      fun e W' => e = .returned (.bool true) ∧ Below W.heap.size W W' := by
  have TRP := Lib.hid (fun (x : ByteArray) (hx : x.size ≤ 2000000) (w' : World) (h : Below W.heap.size W w') => rowParse_any x hx w' (hT.keep h) (hN.keep h))
  have TSP := Lib.hid (fun (x : ByteArray) (hx : x.size ≤ 2000000) (w' : World) (h : Below W.heap.size W w') => schParse_any x hx w' (hT.keep h) (hY.keep h))
  have TPR := Lib.hid (fun (w' : World) (h : Below W.heap.size W w') => rowPrint_any R m c r w' (hR.keep h) hw (hT.keep h))
  have TPV := Lib.hid (fun (A : Option Addr) (n d : Nat) (u : List Val) (w' : World) (hu : SeesVals w' A n d u) (hf : ∀ v ∈ u, v.wf) (h : Below W.heap.size W w') => rowPrint_any A n d u w' hu hf (hT.keep h))
  have TPS := Lib.hid (fun (w' : World) (h : Below W.heap.size W w') => schPrint_any l C p q w' (hC.keep h) hs (hY.keep h))
  have TPC := Lib.hid (fun (A : Option Addr) (n d : Nat) (u : List Col) (w' : World) (hu : SeesCols w' A n d u) (hf : ∀ x ∈ u, x.name.size ≤ maxLen) (h : Below W.heap.size W w') => schPrint_any u A n d w' hu hf (hY.keep h))
  have TSV := Lib.hid (fun (A : Option Addr) (d : Nat) (w' : World) (hu : SeesVals w' A m d r) (h : Below W.heap.size W w') => sameVals_any A R m d c r w' hu (hR.keep h))
  have TSC := Lib.hid (fun (A : Option Addr) (d : Nat) (w' : World) (hu : SeesCols w' A p d l) (h : Below W.heap.size W w') => sameCols_any A C p d q l w' hu (hC.keep h))
  have HRL := Lib.hid hR.1
  have HCL := Lib.hid hC.1
  have HBK := Lib.hid (fun h : rowPErr r = 0 => row_back (l := r) (fun v hv => by have := (hw v hv).2.1; unfold fits lo63 hi63 at this; exact this) h)
  have HLN := Lib.hid (fun h : rowPErr r = 0 => show (mkB (rowText r)).size ≤ 2000000 by
    rw [size_mkB]
    obtain ⟨h6, hv⟩ := rowPErr_zero h
    have := rowText_len r (fun v h1 => valText_len (hw v h1).2.1 (hv v h1))
    omega)
  have HSB := Lib.hid (fun h : schemaErr l = 0 => sch_back h)
  have HSL := Lib.hid (fun h : schemaErr l = 0 => show (mkB (schText l)).size ≤ 2000000 by
    rw [size_mkB]
    obtain ⟨_, h6, hv⟩ := schemaErr_zero h
    have := schText_len l (fun x hx => (hv x hx).1)
    omega)
  have HAG := Lib.hid (fun h : (readRow s.data.toList).2 = 0 => row_again (l := s.data.toList) (row := (readRow s.data.toList).1) (by rw [← h]))
  have HSA := Lib.hid (fun h : (readSch t.data.toList).2 = 0 => sch_again (l := t.data.toList) (cs := (readSch t.data.toList).1) (by rw [← h]))
  have HS := Lib.hid hS
  have HT := Lib.hid hT'
  unfold RowParseSays at TRP
  unfold SchParseSays at TSP
  unfold RowPrintSays at TPR TPV
  unfold SchPrintSays at TPS TPC
  have F0 := Lib.hid (TRP.out factT (by decide) W (Below.refl _ _))
  rw [fact_read, errV_zero] at F0
  have F2 := Lib.hid (TRP.out s HS.out)
  have F4 := Lib.hid (TSP.out t HT.out)
  generalize (readRow s.data.toList).1 = rs at F2 HAG
  generalize (readRow s.data.toList).2 = ks at F2 HAG
  generalize (readSch t.data.toList).1 = ct at F4 HSA
  generalize (readSch t.data.toList).2 = kt at F4 HSA
  clear hC hs hR hw hS hT' hT hN hY HS HT
  go_enter Tryd.func9, Tryd.ntmps9
  go_wp2_with fail
  refine (F0.out).mono ?_
  rintro e w1 ⟨A1, n1, d1, rfl, hv1, hb1⟩
  have HB1 := Lib.hid hb1
  clear hb1 F0
  obtain rfl : n1 = 3 := by have := hv1.1; simp [factR] at this; omega
  obtain ⟨g, o, x, rfl, -, hx, c0, c1, c2⟩ := hv1.at_ (k := 1) (by omega)
  obtain rfl : (⟨3, 0, ⟨#[97, 44, 98]⟩⟩ : Val) = x := by simp [factR] at hx; exact hx
  clear hv1 hx
  go_wp2_with fail
  refine (TPR.out w1 HB1.out).mono ?_
  rintro e w2 ⟨rfl, hb_⟩
  have HB2 := Lib.hid (HB1.out.trans (hb_.mono HB1.out.size))
  clear hb_ c0 c1 c2 TPR
  have QA := errVNil (rowPErr r)
  have QA2 := errVGuard 48 (rowPErr r)
  generalize hst : (if rowPErr r = 0 then (⟨(rowText r).toArray⟩ : ByteArray) else ⟨#[]⟩) = st
  have HST := Lib.hid hst
  clear hst
  go_upto_if 49 with fail
  clear QA QA2
  go_cut [8] from 13 to 63 (fun s8 wx => s8 = .bool false ∧ Below W.heap.size W wx)
  case first =>
    by_cases hca : rowPErr r = 0
    · have QB : (rowPErr r == 0) = true := beq_iff_eq.2 hca
      have HS2 := Lib.hid (HST.out.symm.trans (if_pos hca))
      have FA3 := Lib.hid (TRP.out (mkB (rowText r)) (HLN.out hca))
      rw [data_mkB, HBK.out hca, errV_zero] at FA3
      obtain rfl := HS2.out
      clear hca HST HS2
      go_wp2_with fail
      refine (FA3.out w2 HB2.out).mono ?_
      rintro e w3 ⟨A3, n3, d3, rfl, hv3, hb_⟩
      have HB3 := Lib.hid (HB2.out.trans (hb_.mono HB2.out.size))
      obtain rfl : m = n3 := by rw [← hv3.1]; exact HRL.out.symm
      have HV3 := Lib.hid hv3
      clear hb_ FA3 hv3
      go_wp2_with fail
      refine (TSV.out A3 d3 w3 HV3.out HB3.out).mono ?_
      rintro e w4 ⟨rfl, hb_⟩
      have HB4 := Lib.hid (HB3.out.trans (hb_.mono HB3.out.size))
      clear hb_
      go_wp2_with fail
      go_meet
      exact ⟨rfl, HB4.out⟩
    · have QB : (rowPErr r == 0) = false := beq_eq_false_iff_ne.2 hca
      clear hca HST
      go_wp2_with fail
      go_meet
      exact ⟨rfl, HB2.out⟩
  case rest =>
    obtain ⟨rfl, hbl⟩ := hcut
    have HB4 := Lib.hid hbl
    clear hbl HST HBK HLN TSV
    go_wp2_with fail
    refine (F2.out wc HB4.out).mono ?_
    rintro e w5 ⟨A5, n5, d5, rfl, hv5, hb_⟩
    have HB5 := Lib.hid (HB4.out.trans (hb_.mono HB4.out.size))
    have HV5 := Lib.hid hv5
    clear hb_ hv5 F2
    have QS := errVNil ks
    have QS2 := errVGuard 69 ks
    go_upto_if 70 with fail
    clear QS QS2
    go_cut [8] from 17 to 82 (fun s8 wx => s8 = .bool false ∧ Below W.heap.size W wx)
    case first =>
      by_cases hks : ks = 0
      · have QB : (ks == 0) = true := beq_iff_eq.2 hks
        obtain ⟨r1, r2, r3⟩ := HAG.out hks
        have FV := Lib.hid (TPV.out A5 n5 d5 rs w5 HV5.out (fun v hv => ⟨by have := (r3 v hv).2; unfold fitsN at this; unfold fits lo63 hi63; exact this, by have := (r3 v hv).1; unfold fitsN at this; unfold fits lo63 hi63; exact this, by have := vcheck_size ((rowPErr_zero r1).2 v hv); unfold maxLen; omega⟩) HB5.out)
        rw [r1, errV_zero, if_pos rfl, r2, mk_toList] at FV
        clear r1 r2 r3 HAG hks
        go_wp2_with fail
        refine (FV.out).mono ?_
        rintro e w7 ⟨rfl, hb_⟩
        have HB7 := Lib.hid (HB5.out.trans (hb_.mono HB5.out.size))
        clear hb_ FV
        go_wp2_with fail
        go_meet
        exact ⟨rfl, HB7.out⟩
      · have QB : (ks == 0) = false := beq_eq_false_iff_ne.2 hks
        clear hks HAG
        go_wp2_with fail
        go_meet
        exact ⟨rfl, HB5.out⟩
    case rest =>
      obtain ⟨rfl, hbl⟩ := hcut
      have HB7 := Lib.hid hbl
      clear hbl HAG TPV TRP
      go_wp2_with fail
      refine (TPS.out _ HB7.out).mono ?_
      rintro e w8 ⟨rfl, hb_⟩
      have HB8 := Lib.hid (HB7.out.trans (hb_.mono HB7.out.size))
      clear hb_ TPS
      have QA := errVNil (schemaErr l)
      have QA2 := errVGuard 88 (schemaErr l)
      generalize hst : (if schemaErr l = 0 then mkB (schText l) else ⟨#[]⟩) = st
      have HST := Lib.hid hst
      clear hst
      go_upto_if 89 with fail
      clear QA QA2
      go_cut [8] from 19 to 103 (fun s8 wx => s8 = .bool false ∧ Below W.heap.size W wx)
      case first =>
        by_cases hca : schemaErr l = 0
        · have QB : (schemaErr l == 0) = true := beq_iff_eq.2 hca
          have HS2 := Lib.hid (HST.out.symm.trans (if_pos hca))
          have FA3 := Lib.hid (TSP.out (mkB (schText l)) (HSL.out hca))
          rw [data_mkB, HSB.out hca, errV_zero] at FA3
          obtain rfl := HS2.out
          clear hca HST HS2
          go_wp2_with fail
          refine (FA3.out w8 HB8.out).mono ?_
          rintro e w3 ⟨A3, n3, d3, rfl, hv3, hb_⟩
          have HB3 := Lib.hid (HB8.out.trans (hb_.mono HB8.out.size))
          obtain rfl : p = n3 := by rw [← hv3.1]; exact HCL.out.symm
          have HV3 := Lib.hid hv3
          clear hb_ FA3 hv3
          go_wp2_with fail
          refine (TSC.out A3 d3 w3 HV3.out HB3.out).mono ?_
          rintro e w4 ⟨rfl, hb_⟩
          have HB4 := Lib.hid (HB3.out.trans (hb_.mono HB3.out.size))
          clear hb_
          go_wp2_with fail
          go_meet
          exact ⟨rfl, HB4.out⟩
        · have QB : (schemaErr l == 0) = false := beq_eq_false_iff_ne.2 hca
          clear hca HST
          go_wp2_with fail
          go_meet
          exact ⟨rfl, HB8.out⟩
      case rest =>
        obtain ⟨rfl, hbl⟩ := hcut
        have HB9 := Lib.hid hbl
        clear hbl HST HSB HSL TSC TSP
        go_wp2_with fail
        refine (F4.out _ HB9.out).mono ?_
        rintro e w10 ⟨A10, n10, d10, rfl, hv10, hb_⟩
        have HB10 := Lib.hid (HB9.out.trans (hb_.mono HB9.out.size))
        have HV10 := Lib.hid hv10
        clear hb_ hv10 F4
        by_cases hkt : kt = 0
        · obtain ⟨r1, r2⟩ := HSA.out hkt
          have FV := Lib.hid (TPC.out A10 n10 d10 ct w10 HV10.out (fun x hx => by
            have h1 := ((schemaErr_zero r1).2.2 x hx).1
            unfold nameOk at h1
            simp only [Bool.and_eq_true, decide_eq_true_eq] at h1
            have := size_eq x.name
            unfold maxLen; omega) HB10.out)
          rw [r1, errV_zero, if_pos rfl, r2, mkB_data] at FV
          subst hkt
          rw [errV_zero]
          clear r1 r2 HSA
          go_wp2_with fail
          refine (FV.out).mono ?_
          rintro e w11 ⟨rfl, hb_⟩
          have HB11 := Lib.hid (HB10.out.trans (hb_.mono HB10.out.size))
          clear hb_ FV
          go_wp2_with fail
          go_ret
          exact ⟨rfl, HB11.out⟩
        · rw [errV_ne hkt]
          clear hkt HSA
          go_wp2_with fail
          go_ret
          exact ⟨rfl, HB10.out⟩
/-- The world of the witness: the door's, the row's tables laid over it. -/
noncomputable def theWorld (os : Os) : World := (World.doorLaid Tryd.prog 4000 os).layVars Tryd.prog (Rows.rowBackUptoRow.laid.filter fun x => x.2.handleName?.isNone)

set_option maxRecDepth 100000 in
theorem contract (H : Type) (enc : TypeId × Value → H) (W : World) (base : Nat) (args : Array Value) (ds gs : List (DataW H)) (before : List MemPlace)
    (hval : ∀ (j : Nat) t v, Tryd.f9.params[j]? = some t → args[j]? = some v → Value.okWide Tryd.prog W .any base t v)
    (hW : DataW.Whole enc Tryd.prog Tryd.f9.params.toList Rows.rowBackSpec.vars false W args.toList ds gs before)
    (hsz : (DataW.weightsEach Tryd.prog (Tryd.f9.params.toList ++ (Rows.OpenSpec.upto Rows.rowBackSpec).bare.plain.varTypes Tryd.prog) (ds ++ gs)).all (· ≤ reachBytes) = true) (hL : laidMetH Tryd.prog Rows.rowBackUptoRow.laid W) (hsh : W.ShapedOpen Tryd.prog) (hk : Rows.uptoSmall H (ds ++ gs) = true) :
    Calls Tryd.prog 9 args W fun e W' => ∃ v, e = .returned v ∧ Rows.rowBackSpec.post enc Tryd.prog Tryd.f9 false true false false W args v W' := by
  have hW' := hW
  obtain ⟨p, q, hA0, hV, rfl, hfz, hnd⟩ := hW
  have hA : DataW.TrodAll enc Tryd.prog W 0 (fun _ => true) true Tryd.f9.params.toList args.toList ds p := hA0
  rw [Tryd.params9] at hA hval
  obtain ⟨v0, vs0, d0, ds0, p0, q0, hargs, rfl, rfl, h0, r0⟩ := trodAll_cons hA
  obtain ⟨v1, vs1, d1, ds1, p1, q1, rfl, rfl, rfl, h1, r1⟩ := trodAll_cons r0
  obtain ⟨v2, vs2, d2, ds2, p2, q2, rfl, rfl, rfl, h2, r2⟩ := trodAll_cons r1
  obtain ⟨v3, vs3, d3, ds3, p3, q3, rfl, rfl, rfl, h3, r3⟩ := trodAll_cons r2
  obtain ⟨rfl, rfl, rfl⟩ := trodAll_nil r3
  obtain rfl : args = #[v0, v1, v2, v3] := by cases args; simp_all
  obtain ⟨rfl, rfl⟩ := trodVars_none hV
  have hv0 := hval 0 58 v0 rfl rfl
  have hv1 := hval 1 28 v1 rfl rfl
  obtain ⟨a2, rfl, rfl, rfl, w2⟩ := Go.ChangeMaps.open_string Tryd.underlying9 (hval 2 9 v2 rfl rfl) h2
  obtain ⟨a3, rfl, rfl, rfl, w3⟩ := Go.ChangeMaps.open_string Tryd.underlying9 (hval 3 9 v3 rfl rfl) h3
  obtain ⟨C, p, q, cols, rfl, hC, hcs⟩ := open_cols (okWide_slice Tryd.underlying58 hv0) h0
  obtain ⟨R, m, c, r, rfl, hR, hwr⟩ := open_vals (okWide_slice Tryd.underlying28 hv1) h1
  have hL0 : laidMet Tryd.prog [("math/bits.deBruijn32tab", Rows.laid_math_bits_deBruijn32tab), ("math/bits.deBruijn64tab", Rows.laid_math_bits_deBruijn64tab), ("internal/strconv.uint64pow10", Rows.laid_internal_strconv_uint64pow10), ("unicode/utf8.acceptRanges", Rows.laid_unicode_utf8_acceptRanges), ("strconv.ErrRange", Rows.laid_strconv_ErrRange), ("strconv.ErrSyntax", Rows.laid_strconv_ErrSyntax), ("sluicebook/row.types", Rows.laid_sluicebook_row_types), ("unicode/utf8.first", Rows.laid_unicode_utf8_first)] W := hL
  have hbk : Rows.uptoBulkAll _ ≤ 1048576 := of_decide_eq_true hk
  have hS2 : a2.size ≤ 2000000 := by simp only [List.append_nil, Rows.uptoBulkAll, Rows.uptoBulk] at hbk; rw [← size_eq]; omega
  have hS3 : a3.size ≤ 2000000 := by simp only [List.append_nil, Rows.uptoBulkAll, Rows.uptoBulk] at hbk; rw [← size_eq]; omega
  refine (walk C R p q m c cols r a2 a3 W hC (fun x hx => (hcs x hx).1) hR hwr hS2 hS3 (textT_of hL0 (.tail _ (.tail _ (.head _))) hsh) (numT_of hL0.tail.tail.tail.tail) (typesT_of hL0 (.tail _ (.tail _ (.tail _ (.tail _ (.tail _ (.tail _ (.head _))))))))).mono fun e W' ⟨he, hb⟩ => ?_
  subst he
  exact ⟨_, rfl, law_post laidOut Tryd.underlying4 (by kernel_rfl) rfl (by rw [Tryd.params9]; intro t ht; simp only [List.mem_cons, List.not_mem_nil, or_false] at ht; rcases ht with rfl | rfl | rfl | rfl; all_goals exact ⟨by kernel_rfl, of_decide_eq_true (by kernel_rfl)⟩) hW' rfl hb⟩

theorem reads (os : Os) {H : Type} (enc : TypeId × Value → H) : ∃ places, DataW.whole enc Tryd.prog ((theWorld os).forCall (fun _ _ => 0) ⟨#[], #[.slice none 0 0, .slice none 0 0, .string .empty, .string .empty], []⟩).memory Tryd.f9.params.toList Rows.rowBackSpec.vars false (#[.slice none 0 0, .slice none 0 0, .string .empty, .string .empty] : Array Value).toList 8 = some ([.nil, .nil, .lit (.string []), .lit (.string [])], [], places) :=
  ⟨[], by kernel_rfl⟩

set_option maxRecDepth 100000 in
theorem lifted (os : Os) (started : os.Started) (H : Type) (enc : TypeId × Value → H) (F : Stop.Interp) :
    ReturnsInHanded {} Tryd.checked os 9 .any ((Rows.OpenSpec.upto Rows.rowBackSpec).preRow enc Tryd.prog Tryd.f9 Rows.rowBackUptoRow.domain false Rows.rowBackUptoRow.laid) (((Rows.OpenSpec.upto Rows.rowBackSpec).at F).post enc Tryd.prog Tryd.f9 false true false false) := by
  obtain ⟨places, hx⟩ := reads os enc
  refine returnsInHanded_of_row (C := Tryd.checked) (s := Rows.OpenSpec.upto Rows.rowBackSpec) own started (by kernel_rfl) Tryd.func9
    (witness_row_atRef (enc := enc) (C := Tryd.checked) false (theWorld os) #[.slice none 0 0, .slice none 0 0, .string .empty, .string .empty] (World.layVars_os _ _ _) (by kernel_rfl) (by kernel_rfl) (by kernel_rfl)
      (OpenSpec.preRow_of_cond 8 hx (by kernel_rfl) (fun k hk => by cases hk; kernel_rfl) (by kernel_rfl) (laidMetH_of_parts (laidMet_over (w0 := World.doorLaid Tryd.prog 4000 os) rfl (by kernel_rfl) (by kernel_rfl)) (by kernel_rfl)))) ?_
  intro W base args ds gs before hval hW _ hcond hsz hL hsh _
  exact contract H enc W base args ds gs before hval hW hsz hL hsh (hcond _ rfl)

theorem said : Rows.RowBackUptoSaid :=
  OpenClaim.holds_of_cond 9 Tryd.f9 rfl rfl rfl rfl rfl rfl rfl ⟨rfl, rfl, rfl, rfl, rfl⟩ rfl rfl rfl rfl rfl (by kernel_rfl) Tryd.func9 (by kernel_rfl)
    (of_decide_eq_true (by kernel_rfl)) (by unfold Func.isWrapper; first | (rw [if_pos (by decide +kernel)]; kernel_rfl) | (rw [if_neg (by decide +kernel)]; exact ⟨rfl, rfl⟩))
    (fun os started H enc _ F => by rw [OpenClaim.pre_eq_preRow]; exact lifted os started H enc F)

theorem plain (f : FuncId) (fn : Func) (hf : Tryd.pinned.checked.prog.funcNamed "sluicebook/sluicelaw1.RowBack" = some f) (hfn : Tryd.pinned.checked.prog.funcs[f]? = some fn) :
    true = Tryd.pinned.checked.prog.looks [] ∧ ∀ (j : Nat) t, fn.params[j]? = some t → Tryd.pinned.checked.prog.wantsStandIn t = false := by
  obtain rfl : f = 9 := Option.some.inj ((show Tryd.prog.funcNamed "sluicebook/sluicelaw1.RowBack" = some 9 by kernel_rfl).symm.trans hf) |>.symm
  obtain rfl : fn = Tryd.f9 := (Option.some.inj (Tryd.func9.symm.trans hfn)).symm
  refine ⟨by kernel_rfl, fun j t ht => ?_⟩
  rw [Tryd.params9] at ht
  have hm := Array.mem_of_getElem? ht
  simp only [List.mem_toArray, List.mem_cons, List.not_mem_nil, or_false] at hm
  rcases hm with rfl | rfl | rfl | rfl
  · exact (show Tryd.prog.wantsStandIn 58 = false by kernel_rfl)
  · exact (show Tryd.prog.wantsStandIn 28 = false by kernel_rfl)
  · exact (show Tryd.prog.wantsStandIn 9 = false by kernel_rfl)
  · exact (show Tryd.prog.wantsStandIn 9 = false by kernel_rfl)

theorem card : Rows.RowBackUptoCardSaid :=
  Claim7.holds_tied_plain_at .later [] _ _ _ _ said (fun _ h => by cases h) (by kernel_rfl) (fun _ h => by cases h) rowBackUpto_row_tie rfl ⟨rfl, rfl⟩ (by kernel_rfl) rfl plain (by kernel_rfl)
#print axioms card
end Go.Proofs.YtpbbkpfaphjdoaaDoor.rowBack
