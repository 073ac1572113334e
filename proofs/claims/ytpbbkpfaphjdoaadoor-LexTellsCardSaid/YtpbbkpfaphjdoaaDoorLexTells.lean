/- LexTells: the words of any text, or where it goes wrong, are what the document says. No conditions. -/
import Derived.Test.YtpbbkpfaphjdoaaDoorRefLex
import Derived.Test.YtpbbkpfaphjdoaaDoorSameToks
import Derived.Test.YtpbbkpfaphjdoaaDoorRdParse
import Derived.Test.YtpbbkpfaphjdoaaDoorTold
import Derived.Test.YtpbbkpfaphjdoaaDoorCards
import Derived.Test.YtpbbkpfaphjdoaaDoorTie
import Derived.Stop.Joined
import Derived.SevenTiedAt
import Derived.Deep.DeepWitnessRowRef
import Derived.Deep.DeepHandedRow
namespace Go.Proofs.YtpbbkpfaphjdoaaDoor.lexTells
open Go.ChangeShapes Go.WideShapes Go.ChangeAt Go.RowKit

theorem join_take {l : List Tok} {k : Nat} {t : Tok} (h : l[k]? = some t) : Lib.join ((l.take (k + 1)).map (·.text)) [32] = (if k = 0 then [] else Lib.join ((l.take k).map (·.text)) [32] ++ [32]) ++ t.text := by
  cases l with
  | nil => cases h
  | cons x r =>
    cases k with
    | zero =>
      obtain rfl : x = t := by simpa using h
      rw [if_pos rfl]
      show Lib.join [x.text] [32] = _
      rw [Lib.join_one]; rfl
    | succ k =>
      rw [if_neg (by omega), List.take_succ_cons, List.take_succ_cons, List.map_cons, List.map_cons, Lib.join_cons, Lib.join_cons]
      have hr : r[k]? = some t := by simpa using h
      rw [List.map_take, List.map_take, Lib.joinTail_take_succ [32] _ k t.text (by rw [List.getElem?_map, hr]; rfl)]
      simp
theorem toks_bound {s : List UInt8} : (∀ t ∈ (lexS s).toks, t.text.length ≤ 400) ∧ (lexS s).toks.length ≤ 400 := by
  cases h : lexS s with
  | bad e p => exact ⟨(fun t ht => by cases ht), Nat.zero_le _⟩
  | ok l =>
    obtain ⟨h1, h2⟩ := lexS_ok h
    refine ⟨fun t ht => Nat.le_trans (h2.text t ht) h1, ?_⟩
    have := h2.count
    show l.length ≤ 400
    omega
set_option maxHeartbeats 4000000 in
set_option maxRecDepth 100000 in
theorem walk (s : ByteArray) (hs : s.size ≤ maxLen) (W : World) (hT : TextT W) (hN : NumT W) (hS : SignsT W) :
    Calls Tryd.prog 6 #[.string s] W fun e W' => e = .returned (.bool true) ∧ Below W.heap.size W W' := by
  have TR := Lib.hid (rtokens_any s hs W)
  have TT := Lib.hid (fun w' (hb : Below W.heap.size W w') => tokens_hp s hs w' (hT.keep hb) (hN.keep hb) (hS.keep hb))
  obtain ⟨hx, hn⟩ := toks_bound (s := s.data.toList)
  have HX := Lib.hid hx
  unfold RLexSays at TR
  generalize (lexS s.data.toList).how = H at TR TT
  generalize (lexS s.data.toList).pos = P at TR TT
  generalize (lexS s.data.toList).toks = l at TR TT HX hn
  clear hT hN hS hx
  go_enter Tryd.func6, Tryd.ntmps6
  go_wp2_with fail
  refine (TR.out).mono ?_
  rintro e w1 ⟨A1, n1, c1, rfl, hs1, hb1⟩
  obtain rfl : l.length = n1 := hs1.1
  have HB1 := Lib.hid hb1
  have HS1 := Lib.hid hs1
  have hcc := hs1.2.2.1
  have hcm := hs1.2.2.2.1
  unfold maxLen at hcm
  clear hs1 hb1
  go_wp2_with fail
  refine (TT.out w1 HB1.out).mono ?_
  rintro e w2 ⟨A2, n2, c2, h2, p2, rfl, rfl, rfl, hs2, hb2⟩
  obtain rfl : l.length = n2 := hs2.1
  obtain ⟨w3, hw3⟩ : ∃ w3, w2.alloc (.cells #[.int .i64 h2, .int .i64 p2] 47) = w3 := ⟨_, rfl⟩
  have hbx := belowNew' w2 (.cells #[.int .i64 h2, .int .i64 p2] 47)
  rw [hw3] at hbx
  have hb3 := hb2.trans (hbx.mono hb2.size)
  have HB3 := Lib.hid (below_step HB1.out hb3)
  have HS2 := Lib.hid (hs2.keep hbx)
  have HS3 := Lib.hid (HS1.out.keep hb3)
  have k2 : w3.cell? ⟨w2.heap.size, 0, none⟩ = some (.int .i64 h2) := by rw [← hw3]; simp
  have k3 : w3.cell? ⟨w2.heap.size, 1, none⟩ = some (.int .i64 p2) := by rw [← hw3]; simp
  have HLT := Lib.hid (show w2.heap.size < w3.heap.size by rw [← hw3]; simp)
  have HW3 := Lib.hid hw3
  have hcc2 := hs2.2.2.1
  have hcm2 := hs2.2.2.2.1
  unfold maxLen at hcm2
  have TS := Lib.hid (sameToks_any A2 A1 l.length c2 c1 l w3 HS2.out HS3.out)
  clear hb2 hbx hb3 hw3 hs2
  have HKK := Lib.hid (And.intro k2 k3)
  clear k2 k3
  go_wp2_with (first | rw [HW3.out])
  refine (TS.out).mono ?_
  rintro e w4 ⟨rfl, hb4⟩
  have HB4 := Lib.hid (below_step HB3.out hb4)
  have k2 := (hb4.cell (p := ⟨w2.heap.size, 0, none⟩) HLT.out).trans HKK.out.1
  have k3 := (hb4.cell (p := ⟨w2.heap.size, 1, none⟩) HLT.out).trans HKK.out.2
  have HS4 := Lib.hid (HS2.out.keep hb4)
  have TJ := Lib.hid (join_any A2 l.length c2 l w4 HS4.out hn HX.out)
  have HJL := Lib.hid (fun k => join_len (l.take k) (fun t ht => HX.out t (List.mem_of_mem_take ht)))
  clear hb4
  have HC := Lib.hid (And.intro k2 k3)
  clear k2 k3
  obtain ⟨n, hnn⟩ : ∃ n, n = l.length := ⟨_, rfl⟩
  have HNN := Lib.hid hnn
  rw [← hnn] at HS4 TJ hn hcc2 hcc ⊢
  clear hnn TS HS2 HS3 TT TR HS1
  go_wp2_with fail
  go_loopw [9, 10] (fun tv iv wx => ∃ k : Nat, k ≤ n ∧ iv = .int .i64 k ∧ tv = .string ⟨(Lib.join ((l.take k).map (·.text)) [32]).toArray⟩ ∧ wx = w4) (fun _ iv _ => n - (intOf iv).toNat)
  case atStart => exact ⟨0, by omega, rfl, rfl, rfl⟩
  case round =>
    obtain ⟨k, hk, rfl, rfl, rfl⟩ := hrel
    by_cases hkn : k < n
    · obtain ⟨g, o, x, rfl, -, hx, -, a1, -⟩ := HS4.out.at_ hkn
      have hx : l[k]? = some x := hx
      have hxt := HX.out x (List.mem_of_getElem? hx)
      have hjl := HJL.out k
      rw [List.length_take] at hjl
      have HJ := Lib.hid (join_take hx)
      obtain ⟨ct, hct⟩ : ∃ ct, ct = Lib.join ((l.take k).map (·.text)) [32] := ⟨_, rfl⟩
      rw [← hct] at hjl HJ ⊢
      have hcl : ct.length ≤ 400 * 401 := Nat.le_trans hjl (Nat.mul_le_mul_right _ (by omega))
      have HC0 := Lib.hid (show k = 0 → ct = [] from fun h => by rw [hct, h]; rfl)
      clear hx hjl hct
      by_cases hk0 : k = 0
      · have d0 : decide ((0 : Int) < (k : Int)) = false := decide_eq_false (by omega)
        have d1 : decide (0 < k) = false := decide_eq_false (by omega)
        have HJ2 := Lib.hid (HJ.out.trans (by rw [if_pos hk0]))
        have HAP := Lib.hid (bytes_app ct x.text)
        have HCE := Lib.hid (HC0.out hk0)
        have o1 : ¬ 9223372036854775807 < ct.length + x.text.length := by omega
        clear HJ hk0 HC0
        go_wp2_with fail
        go_roundw
        case rel => exact ⟨k + 1, by omega, by go_num, congrArg Value.string (by rw [HJ2.out, ← HCE.out]; exact HAP.out), by first | trivial | rfl⟩
        case measure => simp [intOf]; omega
      · have d0 : decide ((0 : Int) < (k : Int)) = true := decide_eq_true (by omega)
        have d1 : decide (0 < k) = true := decide_eq_true (by omega)
        have HJ2 := Lib.hid (HJ.out.trans (by rw [if_neg hk0]))
        have HAP := Lib.hid ((congrArg (· ++ (⟨x.text.toArray⟩ : ByteArray)) (bytes_app ct [32])).trans (bytes_app (ct ++ [32]) x.text))
        have o1 : ¬ 9223372036854775807 < ct.length + 1 := by omega
        have o2 : ¬ 9223372036854775807 < ct.length + 1 + x.text.length := by omega
        clear HJ hk0 HC0
        go_wp2_with fail
        go_roundw
        case rel => exact ⟨k + 1, by omega, by go_num, congrArg Value.string (by rw [HJ2.out]; exact HAP.out), by first | trivial | rfl⟩
        case measure => simp [intOf]; omega
    · obtain rfl : k = n := by omega
      rw [show l.take k = l from List.take_of_length_le (by rw [HNN.out]; exact Nat.le_refl _)]
      generalize Lib.join (l.map (·.text)) [32] = ct at TJ ⊢
      have sc : ((⟨ct.toArray⟩ : ByteArray).toList == (⟨ct.toArray⟩ : ByteArray).toList) = true := by simp
      obtain ⟨k2, k3⟩ := HC.out
      have e1 : (h2 == h2) = true := by simp
      have e2 : (p2 == p2) = true := by simp
      go_wp2_with fail
      refine (TJ.out).mono ?_
      rintro e w5 ⟨rfl, hb5⟩
      have HB5 := Lib.hid (below_step HB4.out hb5)
      clear hb5
      go_wp2_with fail
      go_ret
      exact ⟨rfl, HB5.out⟩
/-- The world of the witness: the door's, the row's tables laid over it. -/
noncomputable def theWorld (os : Os) : World := (World.doorLaid Tryd.prog 4000 os).layVars Tryd.prog (Rows.lexTellsRow.laid.filter fun x => x.2.handleName?.isNone)

set_option maxRecDepth 100000 in
theorem contract (H : Type) (enc : TypeId × Value → H) (W : World) (base : Nat) (args : Array Value) (ds gs : List (DataW H)) (before : List MemPlace)
    (hval : ∀ (j : Nat) t v, Tryd.f6.params[j]? = some t → args[j]? = some v → Value.okWide Tryd.prog W .any base t v)
    (hW : DataW.Whole enc Tryd.prog Tryd.f6.params.toList Rows.lexTellsSpec.vars false W args.toList ds gs before)
    (hsz : (DataW.weightsEach Tryd.prog (Tryd.f6.params.toList ++ (OpenSpec.ofChange Rows.lexTellsSpec).bare.plain.varTypes Tryd.prog) (ds ++ gs)).all (· ≤ reachBytes) = true) (hL : laidMetH Tryd.prog Rows.lexTellsRow.laid W) (hsh : W.ShapedOpen Tryd.prog) :
    Calls Tryd.prog 6 args W fun e W' => ∃ v, e = .returned v ∧ Rows.lexTellsSpec.post enc Tryd.prog Tryd.f6 false true false false W args v W' := by
  have hW' := hW
  obtain ⟨p, q, hA0, hV, rfl, hfz, hnd⟩ := hW
  have hA : DataW.TrodAll enc Tryd.prog W 0 (fun _ => true) true Tryd.f6.params.toList args.toList ds p := hA0
  rw [Tryd.params6] at hA hval
  obtain ⟨v0, vs0, d0, ds0, p0, q0, hargs, rfl, rfl, h0, r0⟩ := trodAll_cons hA
  obtain ⟨rfl, rfl, rfl⟩ := trodAll_nil r0
  obtain rfl : args = #[v0] := by cases args; simp_all
  obtain ⟨rfl, rfl⟩ := trodVars_none hV
  obtain ⟨a0, rfl, rfl, rfl, w0⟩ := Go.ChangeMaps.open_string Tryd.underlying9 (hval 0 9 v0 rfl rfl) h0
  have hL0 : laidMet Tryd.prog [("math/bits.deBruijn32tab", Rows.laid_math_bits_deBruijn32tab), ("math/bits.deBruijn64tab", Rows.laid_math_bits_deBruijn64tab), ("internal/strconv.uint64pow10", Rows.laid_internal_strconv_uint64pow10), ("unicode/utf8.acceptRanges", Rows.laid_unicode_utf8_acceptRanges), ("strconv.ErrRange", Rows.laid_strconv_ErrRange), ("strconv.ErrSyntax", Rows.laid_strconv_ErrSyntax), ("sluicebook/lex.signs", Rows.laid_sluicebook_lex_signs), ("unicode/utf8.first", Rows.laid_unicode_utf8_first)] W := hL
  refine (walk a0 w0 W (textT_of hL0 (.tail _ (.tail _ (.head _))) hsh) (numT_of hL0.tail.tail.tail.tail) (signsT_of hL0 (.tail _ (.tail _ (.tail _ (.tail _ (.tail _ (.tail _ (.head _))))))))).mono fun e W' ⟨he, hb⟩ => ?_
  subst he
  exact ⟨_, rfl, law_post laidOut Tryd.underlying4 (by kernel_rfl) rfl (by rw [Tryd.params6]; intro t ht; simp only [List.mem_cons, List.not_mem_nil, or_false] at ht; rcases ht with rfl; all_goals exact ⟨by kernel_rfl, of_decide_eq_true (by kernel_rfl)⟩) hW' rfl hb⟩

theorem reads (os : Os) {H : Type} (enc : TypeId × Value → H) : ∃ places, DataW.whole enc Tryd.prog ((theWorld os).forCall (fun _ _ => 0) ⟨#[], #[.string .empty], []⟩).memory Tryd.f6.params.toList Rows.lexTellsSpec.vars false (#[.string .empty] : Array Value).toList 8 = some ([.lit (.string [])], [], places) :=
  ⟨[], by kernel_rfl⟩

set_option maxRecDepth 100000 in
theorem lifted (os : Os) (started : os.Started) (H : Type) (enc : TypeId × Value → H) (F : Stop.Interp) :
    ReturnsInHanded {} Tryd.checked os 6 .any ((OpenSpec.ofChange Rows.lexTellsSpec).preRow enc Tryd.prog Tryd.f6 Rows.lexTellsRow.domain false Rows.lexTellsRow.laid) (((OpenSpec.ofChange Rows.lexTellsSpec).at F).post enc Tryd.prog Tryd.f6 false true false false) := by
  obtain ⟨places, hx⟩ := reads os enc
  refine returnsInHanded_of_row (C := Tryd.checked) (s := OpenSpec.ofChange Rows.lexTellsSpec) own started (by kernel_rfl) Tryd.func6
    (witness_row_atRef (enc := enc) (C := Tryd.checked) false (theWorld os) #[.string .empty] (World.layVars_os _ _ _) (by kernel_rfl) (by kernel_rfl) (by kernel_rfl)
      (OpenSpec.preRow_of_cond 8 hx (by kernel_rfl) (fun k hk => by cases hk) (by kernel_rfl) (laidMetH_of_parts (laidMet_over (w0 := World.doorLaid Tryd.prog 4000 os) rfl (by kernel_rfl) (by kernel_rfl)) (by kernel_rfl)))) ?_
  intro W base args ds gs before hval hW _ _ hsz hL hsh _
  exact contract H enc W base args ds gs before hval hW hsz hL hsh

theorem said : Rows.LexTellsSaid :=
  OpenClaim.holds_of_cond 6 Tryd.f6 rfl rfl rfl rfl rfl rfl rfl ⟨rfl, rfl, rfl, rfl, rfl⟩ rfl rfl rfl rfl rfl (by kernel_rfl) Tryd.func6 (by kernel_rfl)
    (of_decide_eq_true (by kernel_rfl)) (by unfold Func.isWrapper; first | (rw [if_pos (by decide +kernel)]; kernel_rfl) | (rw [if_neg (by decide +kernel)]; exact ⟨rfl, rfl⟩))
    (fun os started H enc _ F => by rw [OpenClaim.pre_eq_preRow]; exact lifted os started H enc F)

theorem plain (f : FuncId) (fn : Func) (hf : Tryd.pinned.checked.prog.funcNamed "sluicebook/sluicelaw1.LexTells" = some f) (hfn : Tryd.pinned.checked.prog.funcs[f]? = some fn) :
    true = Tryd.pinned.checked.prog.looks [] ∧ ∀ (j : Nat) t, fn.params[j]? = some t → Tryd.pinned.checked.prog.wantsStandIn t = false := by
  obtain rfl : f = 6 := Option.some.inj ((show Tryd.prog.funcNamed "sluicebook/sluicelaw1.LexTells" = some 6 by kernel_rfl).symm.trans hf) |>.symm
  obtain rfl : fn = Tryd.f6 := (Option.some.inj (Tryd.func6.symm.trans hfn)).symm
  refine ⟨by kernel_rfl, fun j t ht => ?_⟩
  rw [Tryd.params6] at ht
  have hm := Array.mem_of_getElem? ht
  simp only [List.mem_toArray, List.mem_cons, List.not_mem_nil, or_false] at hm
  rcases hm with rfl
  · exact (show Tryd.prog.wantsStandIn 9 = false by kernel_rfl)

theorem card : Rows.LexTellsCardSaid :=
  Claim7.holds_tied_plain_at .later [] _ _ _ _ said (fun _ h => by cases h) (by kernel_rfl) (fun _ h => by cases h) lexTells_row_tie rfl ⟨rfl, rfl⟩ (by kernel_rfl) rfl plain (by kernel_rfl)
#print axioms card
end Go.Proofs.YtpbbkpfaphjdoaaDoor.lexTells
