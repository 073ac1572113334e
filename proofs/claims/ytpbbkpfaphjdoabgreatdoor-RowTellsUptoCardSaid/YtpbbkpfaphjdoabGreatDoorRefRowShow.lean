/- sluiceref1.ShowRow, TypeName, ShowSchema, walked: values and schemas as text, by the document's way. -/
import Derived.Test.YtpbbkpfaphjdoabGreatDoorRowPrint
import Derived.Test.YtpbbkpfaphjdoabGreatDoorShow
import Derived.Test.YtpbbkpfaphjdoabGreatDoorSchPrint
import Derived.Test.YtpbbkpfaphjdoabGreatDoorRefVal
namespace Go.Proofs.YtpbbkpfaphjdoabGreatDoor
open Go.ChangeShapes Go.WideShapes Go.ChangeAt Go.RowKit

theorem join_snoc (l : List (List UInt8)) (x : List UInt8) (h : l ≠ []) : Lib.join (l ++ [x]) [44] = Lib.join l [44] ++ 44 :: x := by
  cases l with
  | nil => exact (h rfl).elim
  | cons a r =>
    rw [List.cons_append, Lib.join_cons, Lib.join_cons]
    simp [Lib.joinTail]
theorem app_comma (a : List UInt8) : mkB a ++ ⟨#[44]⟩ = mkB (a ++ [44]) := by
  apply Go.WideShapes.bytes_inj
  rw [data_mkB]
  simp [mkB]
theorem app_mkB (a b : List UInt8) : mkB a ++ mkB b = mkB (a ++ b) := by
  apply Go.WideShapes.bytes_inj
  rw [data_mkB]
  simp [mkB]
theorem rowText_step {l : List Val} {k : Nat} {x : Val} (hx : l[k]? = some x) : rowText (l.take (k + 1)) = if k = 0 then valText x else rowText (l.take k) ++ 44 :: valText x := by
  have hlt := (List.getElem?_eq_some_iff.1 hx).1
  unfold rowText
  rw [List.take_add_one, hx, List.map_append]
  by_cases h0 : k = 0
  · subst h0; rw [if_pos rfl]; simp [Lib.join_one]
  · rw [if_neg h0]
    have hne : (l.take k).map valText ≠ [] := by
      intro e
      have := congrArg List.length e
      rw [List.length_map, List.length_take, List.length_nil] at this
      omega
    exact join_snoc _ _ hne
def ShowRowSays (l : List Val) (w : World) (e : Ending) (w' : World) : Prop := e = .returned (.tuple #[.string (if rowPErr l = 0 then mkB (rowText l) else ⟨#[]⟩), .int .i64 (rowPErr l)]) ∧ Below w.heap.size w w'
set_option maxHeartbeats 2000000 in
set_option maxRecDepth 100000 in
theorem rshowRow_any (A : Option Addr) (n c : Nat) (l : List Val) (w : World) (hl : SeesVals w A n c l) (hw : ∀ v ∈ l, v.wf) :
    Calls Tryz.prog 10 #[.slice A n c] w (ShowRowSays l w) := by
  have HL := Lib.hid hl
  have HLN := Lib.hid hl.1
  have HWF := Lib.hid hw
  have hcap := hl.2.2.1
  have hmax := hl.2.2.2.1
  unfold maxLen at hmax
  clear hl hw
  by_cases h6 : 6 < n
  · have d6 : decide (6 < (n : Int)) = true := decide_eq_true (by omega)
    have HR := Lib.hid (show rowPErr l = 4 by unfold rowPErr; rw [HLN.out, if_pos h6])
    clear h6
    go_enter Tryz.func10, Tryz.ntmps10
    go_wp2_with fail
    go_ret2
    exact ⟨by rw [HR.out]; rfl, Below.refl _ _⟩
  have d6 : decide (6 < (n : Int)) = false := decide_eq_false (by omega)
  have HE := Lib.hid (show rowPErr l = match l.find? (fun v => decide (vcheck v ≠ 0)) with | some v => vcheck v | none => 0 by unfold rowPErr; rw [HLN.out]; exact if_neg h6)
  have h6' : n ≤ 6 := by omega
  clear h6
  go_enter Tryz.func10, Tryz.ntmps10
  go_wp2_with fail
  clear d6
  go_loopw [4, 5] (fun sv iv wr => ∃ k : Nat, k ≤ n ∧ iv = .int .i64 k ∧ sv = .string (mkB (rowText (l.take k))) ∧ (∀ v ∈ l.take k, vcheck v = 0) ∧ Below w.heap.size w wr) (fun _ iv _ => n - (intOf iv).toNat)
  case atStart => exact ⟨0, by omega, rfl, rfl, (fun v hv => by simp at hv), Below.refl _ _⟩
  case round =>
    obtain ⟨k, hk, rfl, rfl, hno, hb⟩ := hrel
    have HNO := Lib.hid hno
    clear hno
    by_cases hlk : k < n
    · obtain ⟨g, o, x, rfl, hg, hx, c0, c1, c2⟩ := (HL.out.keep hb).at_ hlk
      have hwx := HWF.out x (List.mem_of_getElem? hx)
      have TV := Lib.hid (rval_any x wr hwx.2.2)
      unfold ValSays at TV
      have HX := Lib.hid hx
      have HST := Lib.hid (rowText_step hx)
      have hlen : (rowText (l.take k)).length ≤ 606 := by
        have h1 := rowText_len (l.take k) (fun v hv => valText_len (HWF.out v (List.mem_of_mem_take hv)).2.1 (HNO.out v hv))
        have h2 : (l.take k).length ≤ k := List.length_take_le _ _
        omega
      have HCX := Lib.hid (fun (w' : World) (h : Below wr.heap.size wr w') => And.intro ((h.cell (p := ⟨g, o + k * 3, none⟩) hg).trans c0) (And.intro ((h.cell (p := ⟨g, o + k * 3 + 1, none⟩) hg).trans c1) ((h.cell (p := ⟨g, o + k * 3 + 2, none⟩) hg).trans c2)))
      have HB := Lib.hid hb
      by_cases hc : vcheck x = 0
      · have HNX := Lib.hid (take_ok HNO.out HX.out hc)
        have hxl := valText_len hwx.2.1 hc
        have TS := Lib.hid (fun (w' : World) => show_any x hwx.2.1 (Nat.le_trans (vcheck_size hc) (by decide)) w')
        rw [hc] at TV
        clear hb hx hg hc hwx
        rw [show (⟨(valText x).toArray⟩ : ByteArray) = mkB (valText x) from rfl] at TS
        generalize valText x = tx at TS HST hxl
        have sx : (mkB tx).size ≤ 100 := hxl
        by_cases hk0 : k = 0
        · rw [if_pos hk0] at HST
          rw [show rowText (l.take k) = [] by rw [hk0]; rfl]
          have HSE := Lib.hid (show mkB [] ++ mkB tx = mkB (rowText (l.take (k + 1))) by rw [HST.out, app_mkB]; rfl)
          have dk : decide ((0 : Int) < k) = false := decide_eq_false (by omega)
          have dn : decide (0 < k) = false := decide_eq_false (by omega)
          have s0 : (mkB []).size = 0 := rfl
          clear HST hlen hk0
          go_wp2_with fail
          refine (TV.out).mono ?_
          rintro e w2 ⟨rfl, hb2⟩
          obtain ⟨c0, c1, c2⟩ := HCX.out w2 hb2
          have HB2 := Lib.hid (HB.out.trans (hb2.mono HB.out.size))
          clear hb2
          go_wp2_with fail
          refine (TS.out w2).mono ?_
          rintro e w3 ⟨rfl, hb3⟩
          have HB3 := Lib.hid (HB2.out.trans (hb3.mono HB2.out.size))
          clear hb3
          go_wp2_with fail
          go_roundw
          case rel => exact ⟨k + 1, by omega, by go_num, by rw [← HSE.out], HNX.out, HB3.out⟩
          case measure => simp [intOf]; omega
        · rw [if_neg hk0] at HST
          generalize rowText (l.take k) = tk at HST hlen ⊢
          have sk : (mkB tk).size ≤ 606 := hlen
          have HSE := Lib.hid (show mkB tk ++ ⟨#[44]⟩ ++ mkB tx = mkB (rowText (l.take (k + 1))) by rw [HST.out, app_comma, app_mkB]; simp)
          have dk : decide ((0 : Int) < k) = true := decide_eq_true (by omega)
          have dn : decide (0 < k) = true := decide_eq_true (by omega)
          clear HST hk0
          go_wp2_with fail
          refine (TV.out).mono ?_
          rintro e w2 ⟨rfl, hb2⟩
          obtain ⟨c0, c1, c2⟩ := HCX.out w2 hb2
          have HB2 := Lib.hid (HB.out.trans (hb2.mono HB.out.size))
          clear hb2
          go_wp2_with fail
          refine (TS.out w2).mono ?_
          rintro e w3 ⟨rfl, hb3⟩
          have HB3 := Lib.hid (HB2.out.trans (hb3.mono HB2.out.size))
          clear hb3
          go_wp2_with fail
          go_roundw
          case rel => exact ⟨k + 1, by omega, by go_num, by rw [← HSE.out], HNX.out, HB3.out⟩
          case measure => simp [intOf]; omega
      · have HR := Lib.hid (show rowPErr l = vcheck x by rw [HE.out, find_first HNO.out HX.out hc])
        have e1 : (vcheck x != 0) = true := by simpa using hc
        have HR2 := Lib.hid hc
        clear hb hx hg hc hwx
        go_wp2_with fail
        refine (TV.out).mono ?_
        rintro e w2 ⟨rfl, hb2⟩
        have HB2 := Lib.hid (HB.out.trans (hb2.mono HB.out.size))
        clear hb2
        go_wp2_with fail
        go_ret2
        exact ⟨by rw [HR.out, if_neg HR2.out]; rfl, HB2.out⟩
    · obtain rfl : k = n := by omega
      have HTK := Lib.hid (show l.take k = l from List.take_of_length_le (by rw [HLN.out]; exact Nat.le_refl _))
      rw [HTK.out] at HNO ⊢
      have HR := Lib.hid (show rowPErr l = 0 by rw [HE.out, List.find?_eq_none.2 (fun v hv => by simp [HNO.out v hv])])
      have HB := Lib.hid hb
      clear hb
      go_wp2_with fail
      go_ret2
      exact ⟨by rw [HR.out, if_pos rfl]; rfl, HB.out⟩
/-- What sluiceref1.TypeName hands back. -/
theorem rtypeName_any (t : Int) (h : 1 ≤ t ∧ t ≤ 3) (w : World) : Calls Tryz.prog 37 #[.int .i64 t] w fun e w' => e = .returned (.string (mkB (tyName t))) ∧ Below w.heap.size w w' := by
  have : t = 1 ∨ t = 2 ∨ t = 3 := by omega
  rcases this with rfl | rfl | rfl
  all_goals
    go_enter Tryz.func37, Tryz.ntmps37
    go_wp2_with fail
    go_ret
    exact ⟨rfl, (Below.refl _ _).alloc (Nat.le_refl _) _⟩
theorem schText_step {l : List Col} {k : Nat} {x : Col} (hx : l[k]? = some x) : schText (l.take (k + 1)) = if k = 0 then colText x else schText (l.take k) ++ 44 :: colText x := by
  have hlt := (List.getElem?_eq_some_iff.1 hx).1
  unfold schText
  rw [List.take_add_one, hx, List.map_append]
  by_cases h0 : k = 0
  · subst h0; rw [if_pos rfl]; simp [Lib.join_one]
  · rw [if_neg h0]
    have hne : (l.take k).map colText ≠ [] := by
      intro e
      have := congrArg List.length e
      rw [List.length_map, List.length_take, List.length_nil] at this
      omega
    exact join_snoc _ _ hne
set_option maxHeartbeats 2000000 in
set_option maxRecDepth 100000 in
theorem rshowSch_any (l : List Col) (A : Option Addr) (n c : Nat) (w : World) (hl : SeesCols w A n c l) (h0 : schemaErr l = 0) :
    Calls Tryz.prog 15 #[.slice A n c] w fun e w' => e = .returned (.string (mkB (schText l))) ∧ Below w.heap.size w w' := by
  have HL := Lib.hid hl
  have HLN := Lib.hid hl.1
  obtain ⟨-, h6, hcs⟩ := schemaErr_zero h0
  have HCS := Lib.hid hcs
  have hcap := hl.2.2.1
  have hmax := hl.2.2.2.1
  have h6' : n ≤ 6 := by rw [← hl.1]; exact h6
  unfold maxLen at hmax
  clear hl h0 h6 hcs
  go_enter Tryz.func15, Tryz.ntmps15
  go_wp2_with fail
  go_loopw [3, 4] (fun sv iv wr => ∃ k : Nat, k ≤ n ∧ iv = .int .i64 k ∧ sv = .string (mkB (schText (l.take k))) ∧ Below w.heap.size w wr) (fun _ iv _ => n - (intOf iv).toNat)
  case atStart => exact ⟨0, by omega, rfl, rfl, Below.refl _ _⟩
  case round =>
    obtain ⟨k, hk, rfl, rfl, hb⟩ := hrel
    by_cases hlk : k < n
    · obtain ⟨g, o, x, rfl, hg, hx, c0, c1⟩ := (HL.out.keep hb).at_ hlk
      have hxc := HCS.out x (List.mem_of_getElem? hx)
      have TN := Lib.hid (fun (w' : World) => rtypeName_any x.type hxc.2 w')
      have HST := Lib.hid (schText_step hx)
      have hlen : (schText (l.take k)).length ≤ 84 := by
        have h1 := schText_len (l.take k) (fun v hv => (HCS.out v (List.mem_of_mem_take hv)).1)
        have h2 : (l.take k).length ≤ k := List.length_take_le _ _
        omega
      have hns : x.name.size ≤ 8 := by
        have h1 := hxc.1
        unfold nameOk at h1
        simp only [Bool.and_eq_true, decide_eq_true_eq] at h1
        rw [← size_eq]; exact h1.2.2
      have hts : (mkB (tyName x.type)).size ≤ 4 := tyName_len x.type
      have HCX := Lib.hid (fun (w' : World) (h : Below wr.heap.size wr w') => And.intro ((h.cell (p := ⟨g, o + k * 2, none⟩) hg).trans c0) ((h.cell (p := ⟨g, o + k * 2 + 1, none⟩) hg).trans c1))
      have HB := Lib.hid hb
      have HCT := Lib.hid (show mkB (colText x) = x.name ++ ⟨#[32]⟩ ++ mkB (tyName x.type) by rw [col_text]; rfl)
      generalize mkB (tyName x.type) = tn at TN hts HCT
      clear hb hx hg hxc
      by_cases hk0 : k = 0
      · rw [if_pos hk0] at HST
        rw [show schText (l.take k) = [] by rw [hk0]; rfl]
        have dk : decide ((0 : Int) < k) = false := decide_eq_false (by omega)
        have dn : decide (0 < k) = false := decide_eq_false (by omega)
        have HSE := Lib.hid (show mkB [] ++ x.name ++ ⟨#[32]⟩ ++ tn = mkB (schText (l.take (k + 1))) by
          rw [HST.out, HCT.out]
          apply Go.WideShapes.bytes_inj
          simp [mkB])
        have s0 : (mkB []).size = 0 := rfl
        clear HST hlen HCT hk0
        go_wp2_with fail
        refine (TN.out _).mono ?_
        rintro e w2 ⟨rfl, hb2⟩
        obtain ⟨c0, c1⟩ := HCX.out w2 hb2
        have HB2 := Lib.hid (HB.out.trans (hb2.mono HB.out.size))
        clear hb2
        go_wp2_with fail
        go_roundw
        case rel => exact ⟨k + 1, by omega, by go_num, by rw [← HSE.out], HB2.out⟩
        case measure => simp [intOf]; omega
      · rw [if_neg hk0] at HST
        have HSE := Lib.hid (show mkB (schText (l.take k)) ++ ⟨#[44]⟩ ++ x.name ++ ⟨#[32]⟩ ++ tn = mkB (schText (l.take (k + 1))) by
          rw [HST.out]
          have hc := congrArg (fun b : ByteArray => b.data.toList) HCT.out
          simp only [data_mkB] at hc
          apply Go.WideShapes.bytes_inj
          rw [data_mkB, hc]
          simp [mkB])
        have dk : decide ((0 : Int) < k) = true := decide_eq_true (by omega)
        have dn : decide (0 < k) = true := decide_eq_true (by omega)
        generalize schText (l.take k) = tk at HSE hlen ⊢
        have sk : (mkB tk).size ≤ 84 := hlen
        clear HST hk0 hlen HCT
        go_wp2_with fail
        refine (TN.out _).mono ?_
        rintro e w2 ⟨rfl, hb2⟩
        obtain ⟨c0, c1⟩ := HCX.out w2 hb2
        have HB2 := Lib.hid (HB.out.trans (hb2.mono HB.out.size))
        clear hb2
        go_wp2_with fail
        go_roundw
        case rel => exact ⟨k + 1, by omega, by go_num, by rw [← HSE.out], HB2.out⟩
        case measure => simp [intOf]; omega
    · obtain rfl : k = n := by omega
      have HTK := Lib.hid (show l.take k = l from List.take_of_length_le (by rw [HLN.out]; exact Nat.le_refl _))
      rw [HTK.out]
      have HB := Lib.hid hb
      clear hb
      go_wp2_with fail
      go_ret
      exact ⟨rfl, HB.out⟩
end Go.Proofs.YtpbbkpfaphjdoabGreatDoor
