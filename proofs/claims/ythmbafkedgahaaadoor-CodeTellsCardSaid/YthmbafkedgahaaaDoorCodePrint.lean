/- code.Print, walked: any instructions as text. -/
import Derived.Test.YthmbafkedgahaaaDoorWord
namespace Go.Proofs.YthmbafkedgahaaaDoor
open Go.ChangeShapes Go.WideShapes Go.ChangeAt Go.RowKit

abbrev sbT : TypeId := 124
/-- Instructions as text. -/
def codeText (l : List Ins) : List UInt8 := l.flatMap fun x => wordText x ++ [10]
theorem codeText_take {l : List Ins} {k : Nat} {x : Ins} (h : l[k]? = some x) : codeText (l.take (k + 1)) = codeText (l.take k) ++ (wordText x ++ [10]) := by
  unfold codeText
  rw [List.take_add_one, h, List.flatMap_append]; simp
theorem wordText_len {x : Ins} (hx : x.wf) : (wordText x).length ≤ 110 := by
  have h1 := itoa_len hx.2.1
  have h2 := opNm_len x.arg
  unfold wordText
  split
  · split
    · rename_i hc
      have := valText_len hx.2.2.2.1 hc
      rw [List.length_append]
      show 5 + _ ≤ 110
      omega
    · decide
  split
  · rw [List.length_append]; show 5 + _ ≤ 110; omega
  split
  · split
    · rw [List.length_append]; show 3 + _ ≤ 110; omega
    · decide
  split
  · rw [List.length_append]; show 5 + _ ≤ 110; omega
  split
  · rw [List.length_append]; show 5 + _ ≤ 110; omega
  split
  · decide
  split
  · decide
  · decide
theorem codeText_len : ∀ {l : List Ins}, (∀ x ∈ l, x.wf) → (codeText l).length ≤ 111 * l.length
  | [], _ => by simp [codeText]
  | x :: l, h => by
    have h1 := wordText_len (h x (by simp))
    have h2 := codeText_len (l := l) (fun y hy => h y (List.mem_cons_of_mem _ hy))
    unfold codeText at h2 ⊢
    simp only [List.flatMap_cons, List.length_append, List.length_cons, List.length_nil]
    omega
theorem builder_at_below {T e : TypeId} {B b : Nat} {p : Value} {bs : List Value} {w w' : World} (h : Lib.BuilderAt T e B b p bs w) (hb : Below w.heap.size w w') : Lib.BuilderAt T e B b p bs w' := by
  obtain ⟨h1, v, h2, h3, h4⟩ := h
  exact ⟨h1, v, (hb.block b (Array.getElem?_eq_some_iff.1 h2).1).trans h2, own_keep h3 hb, h4⟩
theorem builder_below {T e : TypeId} {B b : Nat} {bs : List Value} {w w' : World} (h : Lib.IsBuilder T e B b bs w) (hb : Below w.heap.size w w') : Lib.IsBuilder T e B b bs w' :=
  h.elim (fun h => Or.inl (builder_at_below h hb)) (fun h => Or.inr (builder_at_below h hb))
theorem byteCells_app (a b : List UInt8) : Lib.byteCells (a ++ b) = Lib.byteCells a ++ Lib.strCells ⟨b.toArray⟩ := by
  show Lib.byteCells (a ++ b) = Lib.byteCells a ++ Lib.byteCells b
  unfold Lib.byteCells
  rw [List.map_append]
set_option maxHeartbeats 4000000 in
set_option maxRecDepth 100000 in
theorem codePrint_any (A : Option Addr) (n c : Nat) (l : List Ins) (w : World) (hl : SeesCode w A n c l) (hw : ∀ x ∈ l, x.wf) (hn : n ≤ 60) (hT : TextT w) (hO : OpsT w) : Calls Tryd.prog 26 #[.slice A n c] w fun e w' => e = .returned (.string ⟨(codeText l).toArray⟩) ∧ Below w.heap.size w w' := by
  have hcc := hl.2.2.1
  have hcm := hl.2.2.2.1
  unfold maxLen at hcm
  obtain ⟨w0, hw0⟩ : ∃ w0, w.alloc (.cells #[.pointer none, .slice none 0 0] 124) = w0 := ⟨_, rfl⟩
  have hb0 : Below w.heap.size w w0 := by rw [← hw0]; exact belowNew' _ _
  have HI0 := Lib.hid (show Lib.IsBuilder 124 5 w.heap.size w.heap.size [] w0 by rw [← hw0]; exact Lib.fresh_isBuilder _ _ w)
  have HL := Lib.hid hl
  have HWF := Lib.hid hw
  have HT := Lib.hid hT
  have HO := Lib.hid hO
  have HLN := Lib.hid hl.1
  have HB0 := Lib.hid hb0
  have HW := Lib.hid hw0
  have HLEN := Lib.hid (fun k => codeText_len (l := l.take k) (fun x hx => hw x (List.mem_of_mem_take hx)))
  clear hl hw hT hO hb0 hw0
  go_enter Tryd.func26, Tryd.ntmps26
  go_wp2_with (first | rw [HW.out])
  go_loopw [8] (fun iu wx => ∃ k : Nat, k ≤ n ∧ iu = .int .i64 k ∧ Lib.IsBuilder 124 5 w.heap.size w.heap.size (Lib.byteCells (codeText (l.take k))) wx ∧ Below w.heap.size w wx) (fun iu _ => n - (intOf iu).toNat)
  case atStart => exact ⟨0, by omega, rfl, HI0.out, HB0.out⟩
  case round =>
    obtain ⟨k, hk, rfl, hib, hb⟩ := hrel
    have HBR := Lib.hid hb
    have HIB := Lib.hid hib
    have hlen := HLEN.out k
    rw [List.length_take] at hlen
    by_cases hkn : k < n
    · obtain ⟨g, o, x, rfl, hg, hx, c0, c1, c2, c3, c4⟩ := (HL.out.keep hb).at_ hkn
      have hxw := HWF.out x (List.mem_of_getElem? hx)
      have HTK := Lib.hid (codeText_take hx)
      obtain ⟨w1, hw1⟩ : ∃ w1, wr.alloc (.cells #[.int .i64 x.what, .int .i64 x.arg, .int .i64 x.val.type, .int .i64 x.val.n, .string x.val.s] 39) = w1 := ⟨_, rfl⟩
      have hb1 : Below wr.heap.size wr w1 := by rw [← hw1]; exact belowNew' _ _
      have hbx := heap_alloc_new wr (.cells #[.int .i64 x.what, .int .i64 x.arg, .int .i64 x.val.type, .int .i64 x.val.n, .string x.val.s] 39)
      rw [hw1] at hbx
      obtain ⟨x0, x1, x2, x3, x4⟩ := box5 hbx
      have HB1 := Lib.hid (below_step hb hb1)
      have TW := Lib.hid (cword_any x hxw w1 (HT.out.keep HB1.out) (HO.out.keep HB1.out))
      have hwl := wordText_len hxw
      have HIB1 := Lib.hid (builder_below hib hb1)
      generalize wordText x = wt at TW HTK hwl
      have HW1 := Lib.hid hw1
      clear hb hib hx hxw hw1 hb1 hbx
      have hov : ¬ 9223372036854775807 < wt.length + 1 := by omega
      go_wp2_with (first | rw [HW1.out])
      refine (TW.out).mono ?_
      rintro e w2 ⟨rfl, hb2⟩
      have HB2 := Lib.hid (below_step HB1.out hb2)
      have HIB2 := Lib.hid (builder_below HIB1.out hb2)
      have TS := Lib.hid (Any.Builder_WriteString (ρ := Tryd.lays154_ren) { Tryd.lays154 with } Tryd.Builder_Extra_154 w.heap.size w.heap.size (Lib.byteCells (codeText (l.take k))) ⟨(wt ++ [10]).toArray⟩ w2 HIB2.out (by
        have h1 : (Lib.byteCells (codeText (l.take k))).length = (codeText (l.take k)).length := by unfold Lib.byteCells; simp
        have h2 : (⟨(wt ++ [10]).toArray⟩ : ByteArray).size = wt.length + 1 := by show (wt ++ [10]).toArray.size = _; simp
        rw [h1, h2]; omega) HB2.out.size)
      have hap := bytes_app wt [10]
      clear hb2 x0 x1 x2 x3 x4
      go_wp2_with fail
      refine (TS.out).mono ?_
      rintro e w3 ⟨rfl, hba, hb3⟩
      have HB3 := Lib.hid (HB2.out.trans hb3)
      have HI3 := Lib.hid (show Lib.IsBuilder 124 5 w.heap.size w.heap.size (Lib.byteCells (codeText (l.take (k + 1)))) w3 by
        rw [HTK.out, byteCells_app]
        exact Or.inr hba)
      clear hba hb3
      go_wp2_with fail
      go_roundw
      case rel => exact ⟨k + 1, by omega, by go_num, HI3.out, HB3.out⟩
      case measure => simp [intOf]; omega
    · obtain rfl : k = n := by omega
      have HTA := Lib.hid (show l.take k = l from List.take_of_length_le (by have := HLN.out; omega))
      have TS := Lib.hid (Tryd.Builder_String_any w.heap.size w.heap.size (codeText (l.take k)) wr HIB.out HBR.out.size)
      rw [HTA.out] at TS
      clear hb hib
      go_wp2_with fail
      refine (TS.out).mono ?_
      rintro e w2 ⟨rfl, hb2⟩
      have HB2 := Lib.hid (HBR.out.trans hb2)
      clear hb2
      go_wp2_with fail
      go_ret
      exact ⟨rfl, HB2.out⟩
end Go.Proofs.YthmbafkedgahaaaDoor
