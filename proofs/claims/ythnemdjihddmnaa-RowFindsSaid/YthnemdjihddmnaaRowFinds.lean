/- Of the law RowFinds: the statement Rows.RowFindsSaid, without any condition: whatever the columns and the name, it returns true. -/
import Derived.Test.YthnemdjihddmnaaFrame
import Derived.Test.YthnemdjihddmnaaSchema
import Derived.Test.YthnemdjihddmnaaOpenCols
import Derived.Deep.DeepHandedRow
namespace Go.Proofs.Ythnemdjihddmnaa.rowFinds
open Go.ChangeShapes Go.WideShapes Go.ChangeAt Go.RowKit

theorem firstErr_all {f : Nat → Int} : ∀ {n : Nat}, firstErr f n = 0 → ∀ k, k < n → f k = 0
  | 0, _, k, hk => by omega
  | n + 1, h, k, hk => by
    unfold firstErr at h
    by_cases h0 : firstErr f n = 0
    · rw [if_pos h0] at h
      by_cases e : k = n
      · rw [e]; exact h
      · exact firstErr_all h0 k (by omega)
    · rw [if_neg h0] at h; exact absurd h h0

theorem findCol_lt {l : List Col} {s : ByteArray} (h : findCol l s < 0) : ∀ c ∈ l, isName s c = false := by
  unfold findCol at h
  split at h
  · omega
  · rename_i hn; exact List.findIdx?_eq_none_iff.1 hn

theorem finds_own {l : List Col} (h : schemaErr l = 0) {k : Nat} {c : Col} (hk : l[k]? = some c) : findCol l c.name = k := by
  have hlt : k < l.length := (List.getElem?_eq_some_iff.1 hk).1
  have h0 : firstErr (schemaAt l) l.length = 0 := by
    unfold schemaErr at h
    split at h
    · omega
    · split at h
      · omega
      · exact h
  have h1 := firstErr_all h0 k hlt
  unfold schemaAt at h1
  rw [hk] at h1
  simp only at h1
  split at h1
  · omega
  · split at h1
    · omega
    · split at h1
      · omega
      · rename_i h2
        exact findCol_some (findCol_lt (by omega)) hk (by simp [isName])

def hasB (l : List Col) (s : ByteArray) : Bool := l.any (isName s)
theorem hasB_iff (l : List Col) (s : ByteArray) : hasB l s = decide (0 ≤ findCol l s) := by
  unfold hasB findCol
  cases h : l.findIdx? (isName s) with
  | none =>
    have := List.findIdx?_eq_none_iff.1 h
    simp only [show ¬ (0 : Int) ≤ -1 by omega, decide_false]
    exact List.any_eq_false.2 fun x hx => by simp [this x hx]
  | some i =>
    obtain ⟨hi, h1, _⟩ := List.findIdx?_eq_some_iff_getElem.1 h
    simp only [show (0 : Int) ≤ (i : Int) by omega, decide_true]
    exact List.any_eq_true.2 ⟨_, List.getElem_mem hi, h1⟩
theorem hasB_snoc {l : List Col} {s : ByteArray} {k : Nat} {c : Col} (hk : l[k]? = some c) : hasB (l.take (k + 1)) s = (hasB (l.take k) s || isName s c) := by
  unfold hasB; rw [List.take_add_one, hk, List.any_append]; simp

theorem fact (w : World) : SeesCols (w.alloc (.cells #[.string ⟨#[97]⟩, .int .i64 1, .string ⟨#[98]⟩, .int .i64 2] 38)) (some ⟨w.heap.size, 0, none⟩) 2 2 [⟨⟨#[97]⟩, 1⟩, ⟨⟨#[98]⟩, 2⟩] := by
  refine ⟨rfl, rfl, by omega, by unfold maxLen; omega, fun e => (by cases e), fun _ => ⟨_, _, rfl, by simp, fun j u hu => ?_⟩⟩
  have := cells_new w #[.string ⟨#[97]⟩, .int .i64 1, .string ⟨#[98]⟩, .int .i64 2] 38 j
  rw [addr_add0] at this
  rw [Nat.zero_add, this]
  simpa [colsCells, colCells] using hu
theorem fact_find : findCol [⟨⟨#[97]⟩, 1⟩, ⟨⟨#[98]⟩, 2⟩] ⟨#[98]⟩ = 1 := by decide

set_option maxHeartbeats 2000000 in
set_option maxRecDepth 100000 in
theorem walk (l : List Col) (s : ByteArray) (A : Option Addr) (n c : Nat) (w : World) (hl : SeesCols w A n c l) (hs : ∀ x ∈ l, x.name.size ≤ maxLen) :
    Calls Try.prog 5 #[.slice A n c, .string s] w fun e w' => e = .returned (.bool true) ∧ Below w.heap.size w w' := by
  have HL := Lib.hid hl
  have HS := Lib.hid hs
  have hcap := hl.2.2.1
  have hmax := hl.2.2.2.1
  unfold maxLen at hmax
  clear hl hs
  go_enter Try.func5, Try.ntmps5
  go_wp2_with fail
  refine (rFind_some _ _ _ _ _ _ (fact w) (by rw [fact_find]; decide)).mono ?_
  rintro e w1 ⟨rfl, hb1⟩
  rw [fact_find]
  have B1 := Lib.hid (below_step ((Below.refl w.heap.size w).alloc (Nat.le_refl _) _) hb1)
  have L1 := Lib.hid (HL.out.keep B1.out)
  clear hb1
  go_wp2_with fail
  refine (rschema_any l _ _ _ _ L1.out HS.out).mono ?_
  rintro e w2 ⟨rfl, hb2⟩
  have B2 := Lib.hid (below_step B1.out hb2)
  have L2 := Lib.hid (L1.out.keep hb2)
  clear hb2
  by_cases h0 : schemaErr l = 0
  · rw [h0, errV_zero]
    have H0 := Lib.hid h0
    clear h0
    go_wp2_with fail
    go_loopw [7, 8] (fun has i wr => ∃ k : Nat, k ≤ n ∧ i = .int .i64 k ∧ has = .bool (hasB (l.take k) s) ∧ Below w2.heap.size w2 wr) (fun _ i _ => n - (intOf i).toNat)
    case atStart => exact ⟨0, by omega, rfl, rfl, Below.refl _ _⟩
    case round =>
      obtain ⟨k, hk, rfl, rfl, hb⟩ := hrel
      have HB := Lib.hid hb
      by_cases hlk : k < n
      · have LR := Lib.hid (L2.out.keep hb)
        obtain ⟨g, o, x, rfl, hg, hx, c1, c2⟩ := LR.out.at_ hlk
        have HX := Lib.hid hx
        have HF := Lib.hid (finds_own H0.out hx)
        clear hb hx
        have e1 : ((k : Int) != (k : Int)) = false := by simp
        go_wp2_with fail
        refine (rFind_some l x.name _ _ _ _ LR.out (by rw [HF.out]; omega)).mono ?_
        rintro e w3 ⟨rfl, hb3⟩
        rw [HF.out]
        have B3 := Lib.hid (below_step HB.out hb3)
        have c3 : w3.cell? ⟨g, o + k * 2, none⟩ = some (.string x.name) := (hb3.cell (p := ⟨g, o + k * 2, none⟩) hg).trans c1
        have SN := Lib.hid (hasB_snoc (s := s) HX.out)
        have e2 : (x.name.toList == s.toList) = isName s x := str_beq _ _
        have E2 := Lib.hid e2
        clear e2 c1 c2 hb3
        generalize hB : hasB (l.take k) s = bb at *
        have HBB := Lib.hid hB
        clear hB
        cases bb with
        | true =>
          go_wp2_with fail
          go_roundw
          case rel => exact ⟨k + 1, by omega, by go_num, by rw [SN.out]; rfl, B3.out⟩
          case measure => simp [intOf]; omega
        | false =>
          go_wp2_with fail
          go_roundw
          case rel => exact ⟨k + 1, by omega, by go_num, by rw [SN.out, E2.out]; rfl, B3.out⟩
          case measure => simp [intOf]; omega
      · obtain rfl : n = k := by omega
        have LR := Lib.hid (L2.out.keep hb)
        have hT : hasB (l.take n) s = decide (0 ≤ findCol l s) := by rw [List.take_of_length_le (by rw [HL.out.1]; exact Nat.le_refl _)]; exact hasB_iff l s
        rw [hT]
        clear hT hb
        by_cases hf : 0 ≤ findCol l s
        · have HFd := Lib.hid hf
          have ed : decide (0 ≤ findCol l s) = true := by simpa using hf
          rw [ed]
          clear hf ed
          go_wp2_with fail
          refine (rFind_some l s _ _ _ _ LR.out HFd.out).mono ?_
          rintro e w3 ⟨rfl, hb3⟩
          go_wp2_with fail
          go_ret
          exact ⟨rfl, below_step (below_step B2.out HB.out) hb3⟩
        · have HFd := Lib.hid (show findCol l s < 0 by omega)
          have ed : decide (0 ≤ findCol l s) = false := by simpa using hf
          rw [ed]
          clear hf ed
          go_wp2_with fail
          refine (rFind_none l s _ _ _ _ LR.out HFd.out).mono ?_
          rintro e w3 ⟨rfl, hb3⟩
          go_wp2_with fail
          go_ret
          exact ⟨rfl, below_step (below_step B2.out HB.out) hb3⟩
  · rw [errV_ne h0]
    clear h0
    go_wp2_with fail
    go_ret
    exact ⟨rfl, B2.out⟩

theorem contract (H : Type) (enc : TypeId × Value → H) (W : World) (base : Nat) (args : Array Value) (ds gs : List (DataW H)) (before : List MemPlace)
    (hval : ∀ (j : Nat) t v, Try.f5.params[j]? = some t → args[j]? = some v → Value.okWide Try.prog W .any base t v)
    (hW : DataW.Whole enc Try.prog Try.f5.params.toList Rows.rowFindsSpec.vars false W args.toList ds gs before)
    (hsz : (DataW.weightsEach Try.prog (Try.f5.params.toList ++ (OpenSpec.ofChange Rows.rowFindsSpec).bare.plain.varTypes Try.prog) (ds ++ gs)).all (· ≤ reachBytes) = true) :
    Calls Try.prog 5 args W fun e W' => ∃ v, e = .returned v ∧ Rows.rowFindsSpec.post enc Try.prog Try.f5 false true false false W args v W' := by
  have hW' := hW
  obtain ⟨p, q, hA0, hV, rfl, hfz, hnd⟩ := hW
  have hA : DataW.TrodAll enc Try.prog W 0 (fun _ => true) true Try.f5.params.toList args.toList ds p := hA0
  rw [Try.params5] at hA hval
  obtain ⟨v0, vs0, d0, ds0, p0, q0, hargs, rfl, rfl, h0, r0⟩ := trodAll_cons hA
  obtain ⟨v1, vs1, d1, ds1, p1, q1, rfl, rfl, rfl, h1, r1⟩ := trodAll_cons r0
  obtain ⟨rfl, rfl, rfl⟩ := trodAll_nil r1
  obtain rfl : args = #[v0, v1] := by cases args; simp_all
  obtain ⟨rfl, rfl⟩ := trodVars_none hV
  have hv0 := hval 0 34 v0 rfl rfl
  obtain ⟨a1, rfl, rfl, rfl, w1⟩ := Go.ChangeMaps.open_string Try.underlying9 (hval 1 9 v1 rfl rfl) h1
  obtain ⟨A, n, c, l, rfl, hs, hl⟩ := open_cols (okWide_slice Try.underlying34 hv0) h0
  refine (walk l a1 A n c W hs (fun x hx => (hl x hx).1)).mono fun e W' ⟨he, hb⟩ => ?_
  subst he
  exact ⟨_, rfl, law_post laidOut Try.underlying4 (by kernel_rfl) rfl (by rw [Try.params5]; intro t ht; simp only [List.mem_cons, List.not_mem_nil, or_false] at ht; rcases ht with rfl | rfl; all_goals exact ⟨by kernel_rfl, of_decide_eq_true (by kernel_rfl)⟩) hW' rfl hb⟩

theorem reads (os : Os) {H : Type} (enc : TypeId × Value → H) : ∃ places, DataW.whole enc Try.prog ((World.holding Try.prog os ⟨#[], #[], []⟩).forCall (fun _ _ => 0) ⟨#[], #[.slice none 0 0, .string .empty], []⟩).memory Try.f5.params.toList Rows.rowFindsSpec.vars false (#[.slice none 0 0, .string .empty] : Array Value).toList 8 = some ([.nil, .lit (.string [])], [], places) :=
  ⟨[], by kernel_rfl⟩

set_option maxRecDepth 100000 in
theorem lifted (os : Os) (started : os.Started) (H : Type) (enc : TypeId × Value → H) (F : Stop.Interp) :
    ReturnsInHanded {} Try.checked os 5 .any ((OpenSpec.ofChange Rows.rowFindsSpec).preRow enc Try.prog Try.f5 Rows.rowFindsRow.domain false Rows.rowFindsRow.laid) (((OpenSpec.ofChange Rows.rowFindsSpec).at F).post enc Try.prog Try.f5 false true false false) := by
  obtain ⟨places, hx⟩ := reads os enc
  refine returnsInHanded_of_row (C := Try.checked) (s := OpenSpec.ofChange Rows.rowFindsSpec) own started (by kernel_rfl) Try.func5
    (witness_row_at (enc := enc) (C := Try.checked) false (World.holding Try.prog os ⟨#[], #[], []⟩) #[.slice none 0 0, .string .empty] rfl (by kernel_rfl) (by kernel_rfl) (by kernel_rfl)
      (OpenSpec.preRow_of_cond 8 hx (by kernel_rfl) (fun k hk => by cases hk) (by kernel_rfl) (laidMet_nil _ _))) ?_
  intro W base args ds gs before hval hW _ _ hsz hL _ _
  exact contract H enc W base args ds gs before hval hW hsz

theorem said : Rows.RowFindsSaid :=
  OpenClaim.holds_of_cond 5 Try.f5 rfl rfl rfl rfl rfl rfl rfl ⟨rfl, rfl, rfl, rfl, rfl⟩ rfl rfl rfl rfl rfl (by kernel_rfl) Try.func5 (by kernel_rfl)
    (of_decide_eq_true (by kernel_rfl)) (by unfold Func.isWrapper; first | (rw [if_pos (by decide +kernel)]; kernel_rfl) | (rw [if_neg (by decide +kernel)]; exact ⟨rfl, rfl⟩))
    (fun os started H enc _ F => by rw [OpenClaim.pre_eq_preRow]; exact lifted os started H enc F)
#print axioms said
end Go.Proofs.Ythnemdjihddmnaa.rowFinds
