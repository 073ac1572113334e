/- CodeTells: any instructions as text, and the operation of any number, are what the document says. No conditions. -/
import Derived.Test.YthmbafkedgahaaaDoorCodePrint
import Derived.Test.YthmbafkedgahaaaDoorTold
import Derived.Test.YthmbafkedgahaaaDoorCards
import Derived.Test.YthmbafkedgahaaaDoorTie
import Derived.Lib.LaidTab
import Derived.LaidLaws
import Derived.LaidMore
import Derived.LaidHandle
import Derived.Lay
import Derived.Stop.Joined
import Derived.SevenTiedAt
import Derived.Deep.DeepWitnessRowRef
import Derived.Deep.DeepHandedRow
namespace Go.Proofs.YthmbafkedgahaaaDoor.codeTells
open Go.ChangeShapes Go.WideShapes Go.ChangeAt Go.RowKit

theorem errIs (k : Int) : ErrIs (errV k) k := by
  by_cases h : k = 0
  · subst h; exact Or.inl ⟨rfl, rfl⟩
  · exact Or.inr ⟨errV_ne h, h⟩
set_option maxHeartbeats 16000000 in
set_option maxRecDepth 100000 in
theorem walk (A : Option Addr) (m c : Nat) (l : List Ins) (n : Int) (W : World) (hG : ErrT W) (hT : TextT W) (hO : OpsT W) (hl : SeesCode W A m c l) (hw : ∀ x ∈ l, x.wf) :
    Calls Tryd.prog 6 #[.slice A m c, .int .i64 n] W fun e W' => e = .returned (.bool true) ∧ Below W.heap.size W W' := by
  have hcc := hl.2.2.1
  have hcm := hl.2.2.2.1
  unfold maxLen at hcm
  have HL := Lib.hid hl
  have HWF := Lib.hid hw
  have HLN := Lib.hid hl.1
  have TP := Lib.hid (fun h60 w' hb => codePrint_any A m c l w' (hl.keep (w' := w') hb) hw h60 (hT.keep hb) (hO.keep hb))
  have TO := Lib.hid (fun w' hb => op_any n w' (hO.keep (w' := w') hb))
  have TR := Lib.hid (fun w' => rop_word n w')
  have TE := Lib.hid (fun k e w' hb => same_err (errV k) k e w' (hG.keep (w' := w') hb) (errIs k))
  have HLEN := Lib.hid (fun k => codeText_len (l := l.take k) (fun x hx => hw x (List.mem_of_mem_take hx)))
  have HO1 := Lib.hid (opErr_01 n)
  have hol := opNm_len n
  obtain ⟨nm, hnm⟩ : ∃ nm, nm = opNm n := ⟨_, rfl⟩
  obtain ⟨oe, hoe⟩ : ∃ oe, oe = opErr n := ⟨_, rfl⟩
  rw [← hnm, ← hoe] at TO TR
  rw [← hoe] at HO1
  clear hl hw hG hT hO hnm hoe hol
  have sn : (nm.toList == nm.toList) = true := by simp
  go_enter Tryd.func6, Tryd.ntmps6
  go_wp2_with fail
  go_loopw [5, 6] (fun su iu wx => ∃ k : Nat, k ≤ m ∧ k ≤ 60 ∧ iu = .int .i64 k ∧ su = .string ⟨(codeText (l.take k)).toArray⟩ ∧ Below W.heap.size W wx) (fun _ iu _ => m - (intOf iu).toNat)
  case atStart => exact ⟨0, by omega, by omega, rfl, rfl, Below.refl _ _⟩
  case round =>
    obtain ⟨k, hk, hk60, rfl, rfl, hb⟩ := hrel
    have HB := Lib.hid hb
    have hlen := HLEN.out k
    rw [List.length_take] at hlen
    have hlen2 : (codeText (l.take k)).length ≤ 6660 := by omega
    by_cases hkm : k < m
    · by_cases hk6 : k < 60
      · obtain ⟨g, o, x, rfl, hg, hx, c0, c1, c2, c3, c4⟩ := (HL.out.keep hb).at_ hkm
        have hxw := HWF.out x (List.mem_of_getElem? hx)
        have HTK := Lib.hid (codeText_take hx)
        have TW := Lib.hid (rword_any x hxw wr)
        have hwl := wordText_len hxw
        generalize wordText x = wt at TW HTK hwl
        generalize codeText (l.take k) = ct at HTK hlen2 ⊢
        have HAP := Lib.hid ((congrArg (· ++ (⟨[10].toArray⟩ : ByteArray)) (bytes_app ct wt)).trans (bytes_app (ct ++ wt) [10]))
        have o1 : ¬ 9223372036854775807 < ct.length + wt.length := by omega
        have o2 : ¬ 9223372036854775807 < ct.length + wt.length + 1 := by omega
        clear hb hx hxw hlen
        go_wp2_with fail
        refine (TW.out).mono ?_
        rintro e w2 ⟨rfl, hb2⟩
        have HB2 := Lib.hid (below_step HB.out hb2)
        clear hb2 c0 c1 c2 c3 c4
        go_wp2_with fail
        go_roundw
        case rel => exact ⟨k + 1, by omega, by omega, by go_num, congrArg Value.string (by rw [HTK.out, ← List.append_assoc]; exact HAP.out), HB2.out⟩
        case measure => simp [intOf]; omega
      · have b6 : ¬ m ≤ 60 := by omega
        generalize codeText (l.take k) = ct at hlen2 ⊢
        clear hb hlen
        go_wp2_with fail
        refine (TR.out _).mono ?_
        rintro e w4 ⟨rfl, hb4⟩
        have HB4 := Lib.hid (below_step HB.out hb4)
        clear hb4
        rcases HO1.out with ho | ho
        · subst ho
          rw [show decide ((0 : Int) = 0) = true from rfl]
          have TO1 := Lib.hid (TO.out w4 HB4.out)
          rw [errV_zero] at TO1
          go_wp2_with fail
          refine (TO1.out).mono ?_
          rintro e w5 ⟨rfl, hb5⟩
          have HB5 := Lib.hid (below_step HB4.out hb5)
          have TE1 := Lib.hid (TE.out 0 0 w5 HB5.out)
          rw [errV_zero] at TE1
          clear hb5
          go_wp2_with fail
          refine (TE1.out).mono ?_
          rintro e w6 ⟨rfl, hb6⟩
          rw [show ((0 : Int) == 0) = true from rfl]
          have HB6 := Lib.hid (below_step HB5.out hb6)
          clear hb6
          go_wp2_with fail
          go_ret
          exact ⟨rfl, HB6.out⟩
        · subst ho
          rw [show decide ((1 : Int) = 0) = false from rfl]
          have TO1 := Lib.hid (TO.out w4 HB4.out)
          go_wp2_with fail
          refine (TO1.out).mono ?_
          rintro e w5 ⟨rfl, hb5⟩
          have HB5 := Lib.hid (below_step HB4.out hb5)
          have TE1 := Lib.hid (TE.out 1 1 w5 HB5.out)
          clear hb5
          go_wp2_with fail
          refine (TE1.out).mono ?_
          rintro e w6 ⟨rfl, hb6⟩
          rw [show ((1 : Int) == 1) = true from rfl]
          have HB6 := Lib.hid (below_step HB5.out hb6)
          clear hb6
          go_wp2_with fail
          go_ret
          exact ⟨rfl, HB6.out⟩
    · obtain rfl : k = m := by omega
      have HTA := Lib.hid (show l.take k = l from List.take_of_length_le (by have := HLN.out; omega))
      rw [HTA.out] at hlen2 ⊢
      have TP1 := Lib.hid (TP.out hk60 wr HB.out)
      generalize codeText l = ct at hlen2 TP1 ⊢
      have sc : ((⟨ct.toArray⟩ : ByteArray).toList == (⟨ct.toArray⟩ : ByteArray).toList) = true := by simp
      clear hb hlen
      go_wp2_with fail
      refine (TP1.out).mono ?_
      rintro e w3 ⟨rfl, hb3⟩
      have HB3 := Lib.hid (below_step HB.out hb3)
      clear hb3
      go_wp2_with fail
      refine (TR.out _).mono ?_
      rintro e w4 ⟨rfl, hb4⟩
      have HB4 := Lib.hid (below_step HB3.out hb4)
      clear hb4
      rcases HO1.out with ho | ho
      · subst ho
        rw [show decide ((0 : Int) = 0) = true from rfl]
        have TO1 := Lib.hid (TO.out w4 HB4.out)
        rw [errV_zero] at TO1
        go_wp2_with fail
        refine (TO1.out).mono ?_
        rintro e w5 ⟨rfl, hb5⟩
        have HB5 := Lib.hid (below_step HB4.out hb5)
        have TE1 := Lib.hid (TE.out 0 0 w5 HB5.out)
        rw [errV_zero] at TE1
        clear hb5
        go_wp2_with fail
        refine (TE1.out).mono ?_
        rintro e w6 ⟨rfl, hb6⟩
        rw [show ((0 : Int) == 0) = true from rfl]
        have HB6 := Lib.hid (below_step HB5.out hb6)
        clear hb6
        go_wp2_with fail
        go_ret
        exact ⟨rfl, HB6.out⟩
      · subst ho
        rw [show decide ((1 : Int) = 0) = false from rfl]
        have TO1 := Lib.hid (TO.out w4 HB4.out)
        go_wp2_with fail
        refine (TO1.out).mono ?_
        rintro e w5 ⟨rfl, hb5⟩
        have HB5 := Lib.hid (below_step HB4.out hb5)
        have TE1 := Lib.hid (TE.out 1 1 w5 HB5.out)
        clear hb5
        go_wp2_with fail
        refine (TE1.out).mono ?_
        rintro e w6 ⟨rfl, hb6⟩
        rw [show ((1 : Int) == 1) = true from rfl]
        have HB6 := Lib.hid (below_step HB5.out hb6)
        clear hb6
        go_wp2_with fail
        go_ret
        exact ⟨rfl, HB6.out⟩

/-- Listed variables laid by the kit's function over any world. -/
theorem laidMet_over {P : Program} {w0 w' : World} {laid : List (String × DataW Unit)} (hh : w'.heap = (w0.layVars P laid).heap) (hf : w0.layFits P laid [] = true) (hi : w0.layIfaces P laid w' = true) : laidMet P laid w' := by
  have e1 : (laid.filter fun x => (laid.map (·.1)).contains x.1) = laid := List.filter_eq_self.2 fun x hx => List.contains_iff_mem.2 (List.mem_map.2 ⟨x, hx, rfl⟩)
  have e2 : (laid.filter fun x => !(laid.map (·.1)).contains x.1) = [] := List.filter_eq_nil_iff.2 fun x hx => by rw [List.contains_iff_mem.2 (List.mem_map.2 ⟨x, hx, rfl⟩)]; simp
  exact laidMet_layVars (w0 := w0) (laid.map (·.1)) [] (by rw [e1]; exact hh) (by rw [e1]; exact hf) (by rw [e1]; exact hi) (by rw [e2]; exact LaidIn.none)
/-- The world of the witness: the door's, the row's tables laid over it. -/
noncomputable def theWorld (os : Os) : World := (World.doorLaid Tryd.prog 4000 os).layVars Tryd.prog (Rows.codeTellsRow.laid.filter fun x => x.2.handleName?.isNone)
/-- The table of tens and the library's MaxLen, out of what a row lists and the world's shape. -/
theorem textT_of {W : World} {l : List (String × DataW Unit)} (h : laidMet Tryd.prog l W) (hx : ("internal/strconv.uint64pow10", Rows.laid_internal_strconv_uint64pow10) ∈ l) (hsh : W.ShapedOpen Tryd.prog) : TextT W := by
  constructor
  · obtain ⟨g, t, cs, fuel, p, hg, ht, hv, hd⟩ := laid_var h hx
    obtain rfl := Option.some.inj ((show Tryd.prog.globalNamed "internal/strconv.uint64pow10" = some 5 by kernel_rfl).symm.trans hg)
    obtain rfl := Option.some.inj ((show (Tryd.prog.globals[5]?).map (·.type) = some 256 by kernel_rfl).symm.trans ht)
    have hd' : DataW.trod (fun _ => ()) Tryd.prog W 0 (fun _ => true) false fuel 256 cs.toList = some (Lib.tabData .u64 Lib.pow10Tab, p) := hd
    refine Lib.tabBelow_of_tabIs ?_
    unfold Lib.TabIs
    have := Lib.cells_of_tab Tryd.underlying256 (by kernel_rfl) (by kernel_rfl) (by kernel_rfl) hd'
    rw [hv, ← this]
  · obtain ⟨m, hm⟩ := Tryd.laysM155.s1_3 W hsh
    have hm' : W.cell? ⟨4, 0, none⟩ = some (.int .i64 m) := hm
    refine ⟨m, hm', ?_⟩
    rcases Nat.lt_or_ge 4 W.heap.size with h' | h'
    · exact h'
    · simp [World.cell?, Array.getElem?_eq_none h'] at hm'

set_option maxRecDepth 100000 in
theorem contract (H : Type) (enc : TypeId × Value → H) (W : World) (base : Nat) (args : Array Value) (ds gs : List (DataW H)) (before : List MemPlace)
    (hval : ∀ (j : Nat) t v, Tryd.f6.params[j]? = some t → args[j]? = some v → Value.okWide Tryd.prog W .any base t v)
    (hW : DataW.Whole enc Tryd.prog Tryd.f6.params.toList Rows.codeTellsSpec.vars false W args.toList ds gs before)
    (hsz : (DataW.weightsEach Tryd.prog (Tryd.f6.params.toList ++ (OpenSpec.ofChange Rows.codeTellsSpec).bare.plain.varTypes Tryd.prog) (ds ++ gs)).all (· ≤ reachBytes) = true) (hL : laidMetH Tryd.prog Rows.codeTellsRow.laid W) (hsh : W.ShapedOpen Tryd.prog) :
    Calls Tryd.prog 6 args W fun e W' => ∃ v, e = .returned v ∧ Rows.codeTellsSpec.post enc Tryd.prog Tryd.f6 false true false false W args v W' := by
  have hW' := hW
  obtain ⟨p, q, hA0, hV, rfl, hfz, hnd⟩ := hW
  have hA : DataW.TrodAll enc Tryd.prog W 0 (fun _ => true) true Tryd.f6.params.toList args.toList ds p := hA0
  rw [Tryd.params6] at hA hval
  obtain ⟨v0, vs0, d0, ds0, p0, q0, hargs, rfl, rfl, h0, r0⟩ := trodAll_cons hA
  obtain ⟨v1, vs1, d1, ds1, p1, q1, rfl, rfl, rfl, h1, r1⟩ := trodAll_cons r0
  obtain ⟨rfl, rfl, rfl⟩ := trodAll_nil r1
  obtain rfl : args = #[v0, v1] := by cases args; simp_all
  obtain ⟨rfl, rfl⟩ := trodVars_none hV
  have hv0 := hval 0 31 v0 rfl rfl
  obtain ⟨n, rfl, rfl, rfl, _⟩ := open_int Tryd.underlying3 (hval 1 3 v1 rfl rfl) h1
  obtain ⟨A, m, c, l, rfl, hC, hwf⟩ := open_code (okWide_slice Tryd.underlying31 hv0) h0
  have hL0 : laidMet Tryd.prog [("math/bits.deBruijn32tab", Rows.laid_math_bits_deBruijn32tab), ("math/bits.deBruijn64tab", Rows.laid_math_bits_deBruijn64tab), ("internal/strconv.uint64pow10", Rows.laid_internal_strconv_uint64pow10), ("unicode/utf8.acceptRanges", Rows.laid_unicode_utf8_acceptRanges), ("sluicebook/kind.ops", Rows.laid_sluicebook_kind_ops), ("unicode/utf8.first", Rows.laid_unicode_utf8_first)] W ∧ handlesMet Tryd.prog [("errors.errorType", Rows.laid_errors_errorType)] W := hL
  refine (walk A m c l n W (errT_of_laid (show laidMetH Tryd.prog [("errors.errorType", Rows.laid_errors_errorType)] W from ⟨laidMet_nil _ _, hL0.2⟩)) (textT_of hL0.1 (.tail _ (.tail _ (.head _))) hsh) (opsT_of hL0.1 (.tail _ (.tail _ (.tail _ (.tail _ (.head _)))))) hC hwf).mono fun e W' ⟨he, hb⟩ => ?_
  subst he
  exact ⟨_, rfl, law_post laidOut Tryd.underlying4 (by kernel_rfl) rfl (by rw [Tryd.params6]; intro t ht; simp only [List.mem_cons, List.not_mem_nil, or_false] at ht; rcases ht with rfl | rfl; all_goals exact ⟨by kernel_rfl, of_decide_eq_true (by kernel_rfl)⟩) hW' rfl hb⟩

theorem reads (os : Os) {H : Type} (enc : TypeId × Value → H) : ∃ places, DataW.whole enc Tryd.prog ((theWorld os).forCall (fun _ _ => 0) ⟨#[], #[.slice none 0 0, .int .i64 0], []⟩).memory Tryd.f6.params.toList Rows.codeTellsSpec.vars false (#[.slice none 0 0, .int .i64 0] : Array Value).toList 8 = some ([.nil, .lit (.int .i64 0)], [], places) :=
  ⟨[], by kernel_rfl⟩

set_option maxRecDepth 100000 in
theorem lifted (os : Os) (started : os.Started) (H : Type) (enc : TypeId × Value → H) (F : Stop.Interp) :
    ReturnsInHanded {} Tryd.checked os 6 .any ((OpenSpec.ofChange Rows.codeTellsSpec).preRow enc Tryd.prog Tryd.f6 Rows.codeTellsRow.domain false Rows.codeTellsRow.laid) (((OpenSpec.ofChange Rows.codeTellsSpec).at F).post enc Tryd.prog Tryd.f6 false true false false) := by
  obtain ⟨places, hx⟩ := reads os enc
  refine returnsInHanded_of_row (C := Tryd.checked) (s := OpenSpec.ofChange Rows.codeTellsSpec) own started (by kernel_rfl) Tryd.func6
    (witness_row_atRef (enc := enc) (C := Tryd.checked) false (theWorld os) #[.slice none 0 0, .int .i64 0] (World.layVars_os _ _ _) (by kernel_rfl) (by kernel_rfl) (by kernel_rfl)
      (OpenSpec.preRow_of_cond 8 hx (by kernel_rfl) (fun k hk => by cases hk) (by kernel_rfl) (laidMetH_of_parts (laidMet_over (w0 := World.doorLaid Tryd.prog 4000 os) rfl (by kernel_rfl) (by kernel_rfl)) (by kernel_rfl)))) ?_
  intro W base args ds gs before hval hW _ _ hsz hL hsh _
  exact contract H enc W base args ds gs before hval hW hsz hL hsh

theorem said : Rows.CodeTellsSaid :=
  OpenClaim.holds_of_cond 6 Tryd.f6 rfl rfl rfl rfl rfl rfl rfl ⟨rfl, rfl, rfl, rfl, rfl⟩ rfl rfl rfl rfl rfl (by kernel_rfl) Tryd.func6 (by kernel_rfl)
    (of_decide_eq_true (by kernel_rfl)) (by unfold Func.isWrapper; first | (rw [if_pos (by decide +kernel)]; kernel_rfl) | (rw [if_neg (by decide +kernel)]; exact ⟨rfl, rfl⟩))
    (fun os started H enc _ F => by rw [OpenClaim.pre_eq_preRow]; exact lifted os started H enc F)

theorem plain (f : FuncId) (fn : Func) (hf : Tryd.pinned.checked.prog.funcNamed "sluicebook/sluicelaw2.CodeTells" = some f) (hfn : Tryd.pinned.checked.prog.funcs[f]? = some fn) :
    true = Tryd.pinned.checked.prog.looks [] ∧ ∀ (j : Nat) t, fn.params[j]? = some t → Tryd.pinned.checked.prog.wantsStandIn t = false := by
  obtain rfl : f = 6 := Option.some.inj ((show Tryd.prog.funcNamed "sluicebook/sluicelaw2.CodeTells" = some 6 by kernel_rfl).symm.trans hf) |>.symm
  obtain rfl : fn = Tryd.f6 := (Option.some.inj (Tryd.func6.symm.trans hfn)).symm
  refine ⟨by kernel_rfl, fun j t ht => ?_⟩
  rw [Tryd.params6] at ht
  have hm := Array.mem_of_getElem? ht
  simp only [List.mem_toArray, List.mem_cons, List.not_mem_nil, or_false] at hm
  rcases hm with rfl | rfl
  · exact (show Tryd.prog.wantsStandIn 31 = false by kernel_rfl)
  · exact (show Tryd.prog.wantsStandIn 3 = false by kernel_rfl)

theorem card : Rows.CodeTellsCardSaid :=
  Claim7.holds_tied_plain_at .later [] _ _ _ _ said (fun _ h => by cases h) (by kernel_rfl) (fun _ h => by cases h) codeTells_row_tie rfl ⟨rfl, rfl⟩ (by kernel_rfl) rfl plain (by kernel_rfl)
#print axioms card
end Go.Proofs.YthmbafkedgahaaaDoor.codeTells
