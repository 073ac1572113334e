/- LexSpaces: blanks between words change nothing but where they stand. No conditions. -/
import Derived.Test.YtpbbkpfaphjdoaaDoorLexAll
import Derived.Test.YtpbbkpfaphjdoaaDoorRdParse
import Derived.Test.YtpbbkpfaphjdoaaDoorTold
import Derived.Test.YtpbbkpfaphjdoaaDoorCards
import Derived.Test.YtpbbkpfaphjdoaaDoorTie
import Derived.Stop.Joined
import Derived.SevenTiedAt
import Derived.Deep.DeepWitnessRowRef
import Derived.Deep.DeepHandedRow
namespace Go.Proofs.YtpbbkpfaphjdoaaDoor.lexSpaces
open Go.ChangeShapes Go.WideShapes Go.ChangeAt Go.RowKit

theorem fact : lexS [49] = .ok [⟨2, [49], 0⟩] := by
  rw [lexS_len (by decide), lexP_tok (n := 1) (k := 2) (by decide) (by decide)]
  show (lexP [] _).pre _ = _
  rw [lexP_nil]; rfl
set_option maxHeartbeats 4000000 in
set_option maxRecDepth 100000 in
theorem walk (s : ByteArray) (hs : s.size ≤ maxLen) (W : World) (hT : TextT W) (hN : NumT W) (hS : SignsT W) :
    Calls Tryd.prog 4 #[.string s] W fun e W' => e = .returned (.bool true) ∧ Below W.heap.size W W' := by
  have TT := Lib.hid (fun s (hs : s.size ≤ maxLen) w' (hb : Below W.heap.size W w') => tokens_hp s hs w' (hT.keep hb) (hN.keep hb) (hS.keep hb))
  clear hT hN hS
  go_enter Tryd.func4, Tryd.ntmps4
  go_wp2_with fail
  refine (TT.out ⟨#[49]⟩ (by decide) W (Below.refl _ _)).mono ?_
  rw [show (⟨#[49]⟩ : ByteArray).data.toList = [49] from rfl, fact]
  rintro e w1 ⟨A1, n1, c1, h1, p1, rfl, hh1, -, hs1, hb1⟩
  obtain rfl : 1 = n1 := hs1.1
  have z1 : (h1 != 0) = false := by rw [hh1]; rfl
  clear hh1
  obtain ⟨w2, hw2⟩ : ∃ w2, w1.alloc (.cells #[.int .i64 h1, .int .i64 p1] 47) = w2 := ⟨_, rfl⟩
  have hbx := belowNew' w1 (.cells #[.int .i64 h1, .int .i64 p1] 47)
  rw [hw2] at hbx
  have hb2 := below_step hb1 hbx
  obtain ⟨g, o, x, rfl, hg, hx, c0, -, -⟩ := (hs1.keep hbx).at_ (k := 0) (by omega)
  obtain rfl : ⟨2, [49], 0⟩ = x := Option.some.inj hx
  rw [Nat.zero_mul, Nat.add_zero] at c0
  have k0 : w2.cell? ⟨w1.heap.size, 0, none⟩ = some (.int .i64 h1) := by rw [← hw2]; simp
  have HW2 := Lib.hid hw2
  have HB2 := Lib.hid hb2
  have hcc := hs1.2.2.1
  have hcm := hs1.2.2.2.1
  unfold maxLen at hcm
  clear hs1 hb1 hbx hb2 hw2 hx
  go_wp2_with (first | rw [HW2.out])
  clear c0 k0 z1 hcc hcm hg
  refine (TT.out s hs w2 HB2.out).mono ?_
  rintro e w3 ⟨A2, n2, c2, h2, p2, rfl, hh2, -, hs2, hb3⟩
  obtain ⟨w4, hw4⟩ : ∃ w4, w3.alloc (.cells #[.int .i64 h2, .int .i64 p2] 47) = w4 := ⟨_, rfl⟩
  have hbx := belowNew' w3 (.cells #[.int .i64 h2, .int .i64 p2] 47)
  rw [hw4] at hbx
  have HB4 := Lib.hid (below_step (below_step HB2.out hb3) hbx)
  have HS4 := Lib.hid (hs2.keep hbx)
  have k2 : w4.cell? ⟨w3.heap.size, 0, none⟩ = some (.int .i64 h2) := by rw [← hw4]; simp
  have HW4 := Lib.hid hw4
  have hcc := hs2.2.2.1
  have hcm := hs2.2.2.2.1
  have hn2 := hs2.1
  unfold maxLen at hcm
  clear hb3 hbx hw4 hs2
  cases hL : lexS s.data.toList with
  | bad er q =>
    have z2 : (h2 != 0) = true := by rw [hh2, hL]; exact bne_iff_ne.2 (lexS_bad hL).1
    clear hh2 hL HS4 hn2
    go_wp2_with (first | rw [HW4.out])
    go_ret
    exact ⟨rfl, HB4.out⟩
  | ok l =>
    have z2 : (h2 != 0) = false := by rw [hh2, hL]; rfl
    obtain ⟨h400, hch⟩ := lexS_ok hL
    have HTX := Lib.hid (fun t (ht : t ∈ l) => Nat.le_trans (hch.text t ht) h400)
    have hlen : n2 ≤ 400 := by have := hch.count; rw [← hn2, hL]; show l.length ≤ 400; omega
    have HOK := Lib.hid hch.all
    rw [hL] at HS4 hn2
    have HN2 := Lib.hid (show l.length = n2 from hn2)
    have HGL := Lib.hid (fun k => show (glue [32, 32] (l.take k)).length ≤ 400 * 402 by
      have h1 := glue_len (sep := [32, 32]) (l := l.take k) (fun t ht => HTX.out t (List.mem_of_mem_take ht))
      have h2 : (l.take k).length ≤ 400 := by rw [List.length_take, HN2.out]; omega
      exact Nat.le_trans h1 (Nat.mul_le_mul h2 (by decide)))
    clear hh2 hL hn2 hch h400
    go_wp2_with (first | rw [HW4.out])
    go_loopw [7, 8] (fun tv iv wx => ∃ k : Nat, k ≤ n2 ∧ iv = .int .i64 k ∧ tv = .string ⟨([10, 32] ++ glue [32, 32] (l.take k)).toArray⟩ ∧ wx = w4) (fun _ iv _ => n2 - (intOf iv).toNat)
    case atStart => exact ⟨0, by omega, rfl, rfl, rfl⟩
    case round =>
      obtain ⟨k, hk, rfl, rfl, rfl⟩ := hrel
      have hgl := HGL.out k
      by_cases hkn : k < n2
      · obtain ⟨g, o, x, rfl, hg, hx, -, c1, -⟩ := HS4.out.at_ hkn
        have hx : l[k]? = some x := hx
        have hxt := HTX.out x (List.mem_of_getElem? hx)
        have HTK := Lib.hid (show [10, 32] ++ glue [32, 32] (l.take (k + 1)) = ([10, 32] ++ glue [32, 32] (l.take k)) ++ x.text ++ [32, 32] by rw [glue_take hx]; simp)
        obtain ⟨ct, hct⟩ : ∃ ct, ct = [10, 32] ++ glue [32, 32] (l.take k) := ⟨_, rfl⟩
        have hcl : ct.length ≤ 400 * 402 + 2 := by rw [hct, List.length_append]; show 2 + _ ≤ _; omega
        rw [← hct] at HTK ⊢
        have HAP := Lib.hid ((congrArg (· ++ (⟨[32, 32].toArray⟩ : ByteArray)) (bytes_app ct x.text)).trans (bytes_app (ct ++ x.text) [32, 32]))
        have o1 : ¬ 9223372036854775807 < ct.length + x.text.length := by omega
        have o2 : ¬ 9223372036854775807 < ct.length + x.text.length + 2 := by omega
        clear hx hgl hct
        go_wp2_with fail
        go_roundw
        case rel => exact ⟨k + 1, by omega, by go_num, congrArg Value.string (by rw [HTK.out]; exact HAP.out), by first | trivial | rfl⟩
        case measure => simp [intOf]; omega
      · obtain rfl : k = n2 := by omega
        have HTA := Lib.hid (show l.take k = l from List.take_of_length_le (by rw [HN2.out]; exact Nat.le_refl _))
        rw [HTA.out] at hgl ⊢
        obtain ⟨ct, hct⟩ : ∃ ct, ct = [10, 32] ++ glue [32, 32] l := ⟨_, rfl⟩
        have hcl : ct.length ≤ 400 * 402 + 2 := by rw [hct, List.length_append]; show 2 + _ ≤ _; omega
        rw [← hct]
        have T3 := Lib.hid (TT.out ⟨ct.toArray⟩ (by unfold maxLen; show ct.length ≤ _; omega) wr HB4.out)
        rw [show (⟨ct.toArray⟩ : ByteArray).data.toList = ct from rfl] at T3
        have HLX := Lib.hid (show ∃ m, lexP ct 0 = .ok m ∧ likeToks m l by
          obtain ⟨m, h1, h2⟩ := lex_glue [32, 32] (by intro x hx; simp at hx; exact Or.inl hx) (by simp) l 2 HOK.out
          refine ⟨m, ?_, h2⟩
          rw [hct]
          show lexP (10 :: 32 :: glue [32, 32] l) 0 = _
          rw [lexP_blank (Or.inr rfl), lexP_blank (Or.inl rfl)]
          exact h1)
        clear hct hgl
        go_wp2_with fail
        refine (T3.out).mono ?_
        rintro e w5 ⟨A3, n3, c3, h3, p3, rfl, hh3, hp3, hs3, hb5⟩
        obtain ⟨w6, hw6⟩ : ∃ w6, w5.alloc (.cells #[.int .i64 h3, .int .i64 p3] 47) = w6 := ⟨_, rfl⟩
        have hbx := belowNew' w5 (.cells #[.int .i64 h3, .int .i64 p3] 47)
        rw [hw6] at hbx
        have HB6 := Lib.hid (below_step (below_step HB4.out hb5) hbx)
        have HS6 := Lib.hid (hs3.keep hbx)
        have HL6 := Lib.hid (HS4.out.keep ((hb5.trans (hbx.mono hb5.size))))
        have k3 : w6.cell? ⟨w5.heap.size, 0, none⟩ = some (.int .i64 h3) := by rw [← hw6]; simp
        have k4 : w6.cell? ⟨w5.heap.size, 1, none⟩ = some (.int .i64 p3) := by rw [← hw6]; simp
        have HW6 := Lib.hid hw6
        have hcc3 := hs3.2.2.1
        have hcm3 := hs3.2.2.2.1
        have hn3 := hs3.1
        unfold maxLen at hcm3
        clear hb5 hbx hw6 hs3
        unfold lexS at hh3 hp3 hn3 HS6
        by_cases h4 : 400 < ct.length
        · rw [if_pos h4] at hh3 hp3
          have d4 : decide ((400 : Int) < (ct.length : Int)) = true := decide_eq_true (by omega)
          have e4 : (h3 == 4) = true := by rw [hh3]; rfl
          have e5 : (p3 == 0) = true := by rw [hp3]; rfl
          clear h4 hh3 hp3 hn3 HS6
          go_wp2_with (first | rw [HW6.out])
          go_ret
          exact ⟨rfl, HB6.out⟩
        · obtain ⟨m, hm1, hm2⟩ := HLX.out
          rw [if_neg h4, hm1] at hh3 hp3 hn3 HS6
          have d4 : decide ((400 : Int) < (ct.length : Int)) = false := decide_eq_false (by omega)
          have e4 : (h3 != 0) = false := by rw [hh3]; rfl
          have hml : m.length = l.length := hm2.len
          have e5 : ((n3 : Int) != (k : Int)) = false := by
            have h1 := HN2.out
            have h2 : m.length = n3 := hn3
            simp; omega
          have HM2 := Lib.hid hm2
          have hnk : n3 = k := by
            have h1 := HN2.out
            have h2 : m.length = n3 := hn3
            omega
          clear h4 hh3 hp3 hn3 hml hm1 hm2
          subst hnk
          go_wp2_with (first | rw [HW6.out])
          go_loopw [11] (fun iv wx => ∃ j : Nat, j ≤ n3 ∧ iv = .int .i64 j ∧ Below w6.heap.size w6 wx) (fun iv _ => n3 - (intOf iv).toNat)
          case atStart => exact ⟨0, by omega, rfl, Below.refl _ _⟩
          case round =>
            obtain ⟨j, hj, rfl, hb⟩ := hrel
            have HB := Lib.hid hb
            by_cases hjn : j < n3
            · obtain ⟨g, o, x, rfl, -, hx, a0, a1, -⟩ := (HL6.out.keep hb).at_ hjn
              obtain ⟨g2, o2, y, rfl, -, hy, b0, b1, -⟩ := (HS6.out.keep hb).at_ hjn
              obtain ⟨q1, q2⟩ := HM2.out.at_ j y x hy hx
              rw [q1] at b0
              rw [q2] at b1
              clear hb hx hy q1 q2
              go_wp2_with fail
              go_quiet (fail)
              go_wp2_with fail
              go_roundw
              case rel => exact ⟨j + 1, by omega, by go_num, below_drewN HB.out nq⟩
              case measure => simp [intOf]; omega
            · clear hb
              go_wp2_with fail
              go_ret
              exact ⟨rfl, below_step HB6.out HB.out⟩
/-- The world of the witness: the door's, the row's tables laid over it. -/
noncomputable def theWorld (os : Os) : World := (World.doorLaid Tryd.prog 4000 os).layVars Tryd.prog (Rows.lexSpacesRow.laid.filter fun x => x.2.handleName?.isNone)

set_option maxRecDepth 100000 in
theorem contract (H : Type) (enc : TypeId × Value → H) (W : World) (base : Nat) (args : Array Value) (ds gs : List (DataW H)) (before : List MemPlace)
    (hval : ∀ (j : Nat) t v, Tryd.f4.params[j]? = some t → args[j]? = some v → Value.okWide Tryd.prog W .any base t v)
    (hW : DataW.Whole enc Tryd.prog Tryd.f4.params.toList Rows.lexSpacesSpec.vars false W args.toList ds gs before)
    (hsz : (DataW.weightsEach Tryd.prog (Tryd.f4.params.toList ++ (OpenSpec.ofChange Rows.lexSpacesSpec).bare.plain.varTypes Tryd.prog) (ds ++ gs)).all (· ≤ reachBytes) = true) (hL : laidMetH Tryd.prog Rows.lexSpacesRow.laid W) (hsh : W.ShapedOpen Tryd.prog) :
    Calls Tryd.prog 4 args W fun e W' => ∃ v, e = .returned v ∧ Rows.lexSpacesSpec.post enc Tryd.prog Tryd.f4 false true false false W args v W' := by
  have hW' := hW
  obtain ⟨p, q, hA0, hV, rfl, hfz, hnd⟩ := hW
  have hA : DataW.TrodAll enc Tryd.prog W 0 (fun _ => true) true Tryd.f4.params.toList args.toList ds p := hA0
  rw [Tryd.params4] at hA hval
  obtain ⟨v0, vs0, d0, ds0, p0, q0, hargs, rfl, rfl, h0, r0⟩ := trodAll_cons hA
  obtain ⟨rfl, rfl, rfl⟩ := trodAll_nil r0
  obtain rfl : args = #[v0] := by cases args; simp_all
  obtain ⟨rfl, rfl⟩ := trodVars_none hV
  obtain ⟨a0, rfl, rfl, rfl, w0⟩ := Go.ChangeMaps.open_string Tryd.underlying9 (hval 0 9 v0 rfl rfl) h0
  have hL0 : laidMet Tryd.prog [("math/bits.deBruijn32tab", Rows.laid_math_bits_deBruijn32tab), ("math/bits.deBruijn64tab", Rows.laid_math_bits_deBruijn64tab), ("internal/strconv.uint64pow10", Rows.laid_internal_strconv_uint64pow10), ("unicode/utf8.acceptRanges", Rows.laid_unicode_utf8_acceptRanges), ("strconv.ErrRange", Rows.laid_strconv_ErrRange), ("strconv.ErrSyntax", Rows.laid_strconv_ErrSyntax), ("sluicebook/lex.signs", Rows.laid_sluicebook_lex_signs), ("unicode/utf8.first", Rows.laid_unicode_utf8_first)] W := hL
  refine (walk a0 w0 W (textT_of hL0 (.tail _ (.tail _ (.head _))) hsh) (numT_of hL0.tail.tail.tail.tail) (signsT_of hL0 (.tail _ (.tail _ (.tail _ (.tail _ (.tail _ (.tail _ (.head _))))))))).mono fun e W' ⟨he, hb⟩ => ?_
  subst he
  exact ⟨_, rfl, law_post laidOut Tryd.underlying4 (by kernel_rfl) rfl (by rw [Tryd.params4]; intro t ht; simp only [List.mem_cons, List.not_mem_nil, or_false] at ht; rcases ht with rfl; all_goals exact ⟨by kernel_rfl, of_decide_eq_true (by kernel_rfl)⟩) hW' rfl hb⟩

theorem reads (os : Os) {H : Type} (enc : TypeId × Value → H) : ∃ places, DataW.whole enc Tryd.prog ((theWorld os).forCall (fun _ _ => 0) ⟨#[], #[.string .empty], []⟩).memory Tryd.f4.params.toList Rows.lexSpacesSpec.vars false (#[.string .empty] : Array Value).toList 8 = some ([.lit (.string [])], [], places) :=
  ⟨[], by kernel_rfl⟩

set_option maxRecDepth 100000 in
theorem lifted (os : Os) (started : os.Started) (H : Type) (enc : TypeId × Value → H) (F : Stop.Interp) :
    ReturnsInHanded {} Tryd.checked os 4 .any ((OpenSpec.ofChange Rows.lexSpacesSpec).preRow enc Tryd.prog Tryd.f4 Rows.lexSpacesRow.domain false Rows.lexSpacesRow.laid) (((OpenSpec.ofChange Rows.lexSpacesSpec).at F).post enc Tryd.prog Tryd.f4 false true false false) := by
  obtain ⟨places, hx⟩ := reads os enc
  refine returnsInHanded_of_row (C := Tryd.checked) (s := OpenSpec.ofChange Rows.lexSpacesSpec) own started (by kernel_rfl) Tryd.func4
    (witness_row_atRef (enc := enc) (C := Tryd.checked) false (theWorld os) #[.string .empty] (World.layVars_os _ _ _) (by kernel_rfl) (by kernel_rfl) (by kernel_rfl)
      (OpenSpec.preRow_of_cond 8 hx (by kernel_rfl) (fun k hk => by cases hk) (by kernel_rfl) (laidMetH_of_parts (laidMet_over (w0 := World.doorLaid Tryd.prog 4000 os) rfl (by kernel_rfl) (by kernel_rfl)) (by kernel_rfl)))) ?_
  intro W base args ds gs before hval hW _ _ hsz hL hsh _
  exact contract H enc W base args ds gs before hval hW hsz hL hsh

theorem said : Rows.LexSpacesSaid :=
  OpenClaim.holds_of_cond 4 Tryd.f4 rfl rfl rfl rfl rfl rfl rfl ⟨rfl, rfl, rfl, rfl, rfl⟩ rfl rfl rfl rfl rfl (by kernel_rfl) Tryd.func4 (by kernel_rfl)
    (of_decide_eq_true (by kernel_rfl)) (by unfold Func.isWrapper; first | (rw [if_pos (by decide +kernel)]; kernel_rfl) | (rw [if_neg (by decide +kernel)]; exact ⟨rfl, rfl⟩))
    (fun os started H enc _ F => by rw [OpenClaim.pre_eq_preRow]; exact lifted os started H enc F)

theorem plain (f : FuncId) (fn : Func) (hf : Tryd.pinned.checked.prog.funcNamed "sluicebook/sluicelaw4.LexSpaces" = some f) (hfn : Tryd.pinned.checked.prog.funcs[f]? = some fn) :
    true = Tryd.pinned.checked.prog.looks [] ∧ ∀ (j : Nat) t, fn.params[j]? = some t → Tryd.pinned.checked.prog.wantsStandIn t = false := by
  obtain rfl : f = 4 := Option.some.inj ((show Tryd.prog.funcNamed "sluicebook/sluicelaw4.LexSpaces" = some 4 by kernel_rfl).symm.trans hf) |>.symm
  obtain rfl : fn = Tryd.f4 := (Option.some.inj (Tryd.func4.symm.trans hfn)).symm
  refine ⟨by kernel_rfl, fun j t ht => ?_⟩
  rw [Tryd.params4] at ht
  have hm := Array.mem_of_getElem? ht
  simp only [List.mem_toArray, List.mem_cons, List.not_mem_nil, or_false] at hm
  rcases hm with rfl
  · exact (show Tryd.prog.wantsStandIn 9 = false by kernel_rfl)

theorem card : Rows.LexSpacesCardSaid :=
  Claim7.holds_tied_plain_at .later [] _ _ _ _ said (fun _ h => by cases h) (by kernel_rfl) (fun _ h => by cases h) lexSpaces_row_tie rfl ⟨rfl, rfl⟩ (by kernel_rfl) rfl plain (by kernel_rfl)
#print axioms card
end Go.Proofs.YtpbbkpfaphjdoaaDoor.lexSpaces
