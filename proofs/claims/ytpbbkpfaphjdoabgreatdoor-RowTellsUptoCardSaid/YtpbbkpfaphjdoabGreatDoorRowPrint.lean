/- row.Print, walked: values as text. -/
import Derived.Test.YtpbbkpfaphjdoabGreatDoorRowLaw
import Derived.Test.YtpbbkpfaphjdoabGreatDoorPrint
import Derived.Test.YtpbbkpfaphjdoabGreatDoorStrJoin
import Derived.Test.YtpbbkpfaphjdoabGreatDoorRefVal
import Derived.Test.YtpbbkpfaphjdoabGreatDoorOwn3
namespace Go.Proofs.YtpbbkpfaphjdoabGreatDoor
open Go.ChangeShapes Go.WideShapes Go.ChangeAt Go.RowKit

def textB (v : Val) : ByteArray := ⟨(valText v).toArray⟩
theorem find_first {l : List Val} {k : Nat} {x : Val} (hno : ∀ v ∈ l.take k, vcheck v = 0) (hx : l[k]? = some x) (hc : vcheck x ≠ 0) : l.find? (fun v => decide (vcheck v ≠ 0)) = some x := by
  have hlt : k < l.length := (List.getElem?_eq_some_iff.1 hx).1
  have hd : l = l.take k ++ x :: l.drop (k + 1) := by
    rw [← (List.getElem?_eq_some_iff.1 hx).2, ← List.drop_eq_getElem_cons hlt, List.take_append_drop]
  rw [hd, List.find?_append, List.find?_eq_none.2 (fun y hy => by simp [hno y hy]), List.find?_cons]
  simp [hc]
theorem take_ok {l : List Val} {k : Nat} {x : Val} (hno : ∀ v ∈ l.take k, vcheck v = 0) (hx : l[k]? = some x) (hc : vcheck x = 0) : ∀ v ∈ l.take (k + 1), vcheck v = 0 := by
  intro v hv
  rw [List.take_add_one, hx] at hv
  rcases List.mem_append.1 hv with h | h
  · exact hno v h
  · simp at h; rw [h]; exact hc
theorem strCells_snoc' (l : List ByteArray) (s : ByteArray) : strCells (l ++ [s]) = strCells l ++ [.string s] := by simp [strCells]
theorem rowText_len : ∀ (l : List Val), (∀ v ∈ l, (valText v).length ≤ 100) → (rowText l).length ≤ l.length * 101
  | [], _ => Nat.zero_le _
  | x :: l, h => by
    unfold rowText
    rw [List.map_cons, Lib.join_cons, List.length_append, Lib.joinTail_length, List.length_cons]
    have h1 := h x (by simp)
    have h2 : Lib.lens (l.map valText) ≤ l.length * 100 := by
      clear h1
      induction l with
      | nil => simp [Lib.lens]
      | cons u l ih =>
        have h3 := h u (by simp)
        have := ih (fun z hz => h z (by rcases List.mem_cons.1 hz with rfl | hz <;> simp [*]))
        simp only [Lib.lens, List.map_cons, List.sum_cons, List.length_cons] at this ⊢
        omega
    simp only [List.length_map, List.length_cons, List.length_nil]
    omega
def RowPrintSays (l : List Val) (w : World) (e : Ending) (w' : World) : Prop := e = .returned (.tuple #[.string (if rowPErr l = 0 then ⟨(rowText l).toArray⟩ else ⟨#[]⟩), errV (rowPErr l)]) ∧ Below w.heap.size w w'
set_option maxHeartbeats 2000000 in
set_option maxRecDepth 100000 in
theorem rowPrint_any (A : Option Addr) (n c : Nat) (l : List Val) (w : World) (hl : SeesVals w A n c l) (hw : ∀ v ∈ l, v.wf) (hT : TextT w) :
    Calls Tryz.prog 11 #[.slice A n c] w (RowPrintSays l w) := by
  have HL := Lib.hid hl
  have HLN := Lib.hid hl.1
  have HWF := Lib.hid hw
  have HT := Lib.hid hT
  have hcap := hl.2.2.1
  have hmax := hl.2.2.2.1
  unfold maxLen at hmax
  clear hl hw hT
  by_cases h6 : 6 < n
  · have d6 : decide (6 < (n : Int)) = true := decide_eq_true (by omega)
    have HR := Lib.hid (show rowPErr l = 4 by unfold rowPErr; rw [HLN.out, if_pos h6])
    clear h6
    go_enter Tryz.func11, Tryz.ntmps11
    go_wp2_with fail
    go_ret2
    exact ⟨by rw [HR.out]; rfl, Below.refl _ _⟩
  have d6 : decide (6 < (n : Int)) = false := decide_eq_false (by omega)
  have HE := Lib.hid (show rowPErr l = match l.find? (fun v => decide (vcheck v ≠ 0)) with | some v => vcheck v | none => 0 by unfold rowPErr; rw [HLN.out]; exact if_neg h6)
  have h6' : n ≤ 6 := by omega
  clear h6
  go_enter Tryz.func11, Tryz.ntmps11
  go_wp2_with fail
  clear d6
  go_loopw [4, 15] (fun out iv wr => ∃ k : Nat, k ≤ n ∧ iv = .int .i64 k ∧ wr.ownsRow w.heap.size 9 1 out k (strCells ((l.take k).map textB)) ∧ (∀ v ∈ l.take k, vcheck v = 0) ∧ Below w.heap.size w wr) (fun _ iv _ => n - (intOf iv).toNat)
  case atStart => exact ⟨0, by omega, rfl, World.ownsRow_nil _ _ _ _, (fun v hv => by simp at hv), Below.refl _ _⟩
  case round =>
    obtain ⟨k, hk, rfl, hown, hno, hb⟩ := hrel
    have HNO := Lib.hid hno
    clear hno
    by_cases hlk : k < n
    · obtain ⟨g, o, x, rfl, hg, hx, c0, c1, c2⟩ := (HL.out.keep hb).at_ hlk
      obtain ⟨w3, hw3⟩ : ∃ w3, wr.alloc (.cells #[.int .i64 x.type, .int .i64 x.n, .string x.s] 52) = w3 := ⟨_, rfl⟩
      have hb3' : Below wr.heap.size wr w3 := by rw [← hw3]; exact belowNew' _ _
      have HB3 := Lib.hid (hb.trans (hb3'.mono hb.size))
      have HOW := Lib.hid (own_keep hown hb3')
      have hox := own3_new wr x
      rw [hw3] at hox
      obtain ⟨q0, q1, q2, -, -, -, -⟩ := hox.cells
      have TP := Lib.hid (print_any x (HWF.out x (List.mem_of_getElem? hx)) w3 (HT.out.keep HB3.out))
      unfold PrintSays at TP
      have HX := Lib.hid hx
      have HW3 := Lib.hid hw3
      have HXB := Lib.hid (show strCells ((l.take (k + 1)).map textB) = strCells ((l.take k).map textB) ++ [.string ⟨(valText x).toArray⟩] by rw [List.take_add_one, hx, List.map_append]; exact strCells_snoc' _ _)
      clear hb hown hb3' hw3 hx hg hox
      by_cases hc : vcheck x = 0
      · have HNX := Lib.hid (take_ok HNO.out HX.out hc)
        rw [hc, errV_zero, if_pos rfl] at TP
        clear hc
        go_wp2_with (first | rw [HW3.out])
        refine (TP.out).mono ?_
        rintro e w4 ⟨rfl, hb4⟩
        have hown4 := own_keep HOW.out hb4
        have hb5 := HB3.out.trans (hb4.mono HB3.out.size)
        clear hb4
        go_wp2_with (first
          | (at_builtin; refine wpList_append_one strSlice rfl _ _ rfl rfl rfl hown4 hb5 (Nat.le_refl _) rfl (by intro u hu; simp at hu; subst hu; rfl) (by omega) ?_; intro v1 w6 hown6 hb6 _))
        go_roundw
        case rel => exact ⟨k + 1, by omega, by go_num, by rw [HXB.out]; exact hown6, HNX.out, hb6⟩
        case measure => simp [intOf]; omega
      · have HR := Lib.hid (show rowPErr l = vcheck x by rw [HE.out, find_first HNO.out HX.out hc])
        have HR2 := Lib.hid hc
        rw [errV_ne hc, if_neg hc] at TP
        clear hc
        go_wp2_with (first | rw [HW3.out])
        refine (TP.out).mono ?_
        rintro e w4 ⟨rfl, hb4⟩
        have HB4 := Lib.hid (HB3.out.trans (hb4.mono HB3.out.size))
        clear hb4
        go_wp2_with fail
        go_ret2
        exact ⟨by rw [HR.out, if_neg HR2.out, errV_ne HR2.out]; rfl, HB4.out⟩
    · obtain rfl : k = n := by omega
      have HTK := Lib.hid (show l.take k = l from List.take_of_length_le (by rw [HLN.out]; exact Nat.le_refl _))
      rw [HTK.out] at hown HNO
      have HR := Lib.hid (show rowPErr l = 0 by rw [HE.out, List.find?_eq_none.2 (fun v hv => by simp [HNO.out v hv])])
      obtain ⟨A', c', rfl, hse⟩ := Sees.of_own hown
      have hmp : (l.map textB).map (·.data.toList) = l.map valText := by rw [List.map_map]; rfl
      have hlen := rowText_len l (fun v hv => valText_len (HWF.out v hv).2.1 (HNO.out v hv))
      rw [HLN.out] at hlen
      have TJ := Lib.hid (join_seen A' k c' (l.map textB) ⟨#[44]⟩ wr hse (by omega) (by rw [hmp]; show (rowText l).length ≤ _; omega))
      rw [hmp, show Lib.join (l.map valText) (⟨#[44]⟩ : ByteArray).data.toList = rowText l from rfl] at TJ
      have HB := Lib.hid hb
      clear hse hown hb hmp hlen
      go_wp2_with fail
      refine (TJ.out).mono ?_
      rintro e w2 ⟨rfl, hb2⟩
      have HB2 := Lib.hid (HB.out.trans (hb2.mono HB.out.size))
      clear hb2
      go_wp2_with fail
      go_ret2
      exact ⟨by rw [HR.out, if_pos rfl, errV_zero]; rfl, HB2.out⟩
end Go.Proofs.YtpbbkpfaphjdoabGreatDoor
