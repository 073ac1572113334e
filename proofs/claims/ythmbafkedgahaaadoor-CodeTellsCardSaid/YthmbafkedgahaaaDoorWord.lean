/- sluiceref2.Op, sluiceref2.Word, code.word, walked: an instruction as text. -/
import Derived.Test.YthmbafkedgahaaaDoorPrint
import Derived.Test.YthmbafkedgahaaaDoorVeOp
import Derived.Test.YthmbafkedgahaaaDoorVeCk
import Derived.Lib.ItoaLen
namespace Go.Proofs.YthmbafkedgahaaaDoor
open Go.ChangeShapes Go.WideShapes Go.ChangeAt Go.RowKit
set_option maxHeartbeats 1000000 in
theorem rop_word (k : Int) (w : World) : Calls Tryd.prog 27 #[.int .i64 k] w fun e w' => e = .returned (.tuple #[.string (opNm k), .bool (decide (opErr k = 0))]) ∧ Below w.heap.size w w' := by
  have T := Lib.hid (rops_any w)
  by_cases h2 : k < 2
  · have d0 : decide (k < 2) = true := decide_eq_true h2
    have E2 := Lib.hid (show opErr k = 1 by unfold opErr; rw [if_neg (by omega)])
    have E3 := Lib.hid (show opNm k = ⟨#[]⟩ by unfold opNm; rw [E2.out, if_neg (by decide)])
    go_enter Tryd.func27, Tryd.ntmps27
    go_wp2_with fail
    refine (T.out).mono ?_
    rintro e w1 ⟨A, c, rfl, -, hb⟩
    have HB := Lib.hid hb
    clear hb
    go_wp2_with fail
    go_ret2
    exact ⟨by rw [E2.out, E3.out]; rfl, HB.out⟩
  have d0 : decide (k < 2) = false := decide_eq_false h2
  by_cases h16 : 16 ≤ k
  · have d1 : decide (16 ≤ k) = true := decide_eq_true h16
    have E2 := Lib.hid (show opErr k = 1 by unfold opErr; rw [if_neg (by omega)])
    have E3 := Lib.hid (show opNm k = ⟨#[]⟩ by unfold opNm; rw [E2.out, if_neg (by decide)])
    go_enter Tryd.func27, Tryd.ntmps27
    go_wp2_with fail
    refine (T.out).mono ?_
    rintro e w1 ⟨A, c, rfl, -, hb⟩
    have HB := Lib.hid hb
    clear hb
    go_wp2_with fail
    go_ret2
    exact ⟨by rw [E2.out, E3.out]; rfl, HB.out⟩
  · obtain ⟨j, rfl⟩ : ∃ j : Nat, k = j := ⟨k.toNat, by omega⟩
    have d1 : decide (16 ≤ (j : Int)) = false := decide_eq_false (by omega)
    have hj : j < 17 := by omega
    have E2 := Lib.hid (show opErr j = 0 by unfold opErr; rw [if_pos (by omega)])
    have E3 := Lib.hid (show opNm j = opsB.getD j ⟨#[]⟩ by unfold opNm; rw [E2.out, if_pos rfl, Int.toNat_natCast])
    clear h2 h16
    go_enter Tryd.func27, Tryd.ntmps27
    go_wp2_with fail
    refine (T.out).mono ?_
    rintro e w1 ⟨A, c, rfl, hs, hb⟩
    have hc1 := hs.2.1
    have hc2 := hs.2.2.1
    unfold maxLen at hc2
    have HB := Lib.hid hb
    obtain ⟨g, o, u, rfl, hu, q⟩ := hs.at_ hj
    have hu2 : u = .string (opsB.getD j ⟨#[]⟩) := by
      have h17 : j < opsB.length := hj
      rw [strCells_get (List.getElem?_eq_getElem h17)] at hu
      rw [List.getD_eq_getElem?_getD, List.getElem?_eq_getElem h17]
      exact (Option.some.inj hu).symm
    subst hu2
    clear hs hb hu
    generalize opsB.getD j ⟨#[]⟩ = s at q E3
    go_wp2_with fail
    go_ret2
    exact ⟨by rw [E2.out, E3.out]; rfl, HB.out⟩
/-- An instruction as text. -/
def wordText (x : Ins) : List UInt8 :=
  if x.what = 1 then (if vcheck x.val = 0 then [112, 117, 115, 104, 32] ++ valText x.val else [63]) else
  if x.what = 2 then [108, 111, 97, 100, 32] ++ Lib.itoa x.arg else
  if x.what = 3 then (if opErr x.arg = 0 then [100, 111, 32] ++ (opNm x.arg).data.toList else [63]) else
  if x.what = 4 then [106, 117, 109, 112, 32] ++ Lib.itoa x.arg else
  if x.what = 5 then [101, 108, 115, 101, 32] ++ Lib.itoa x.arg else
  if x.what = 6 then [107, 101, 101, 112] else if x.what = 7 then [100, 114, 111, 112] else [63]
theorem itoa_len {n : Int} (h : fits n) : (Lib.itoa n).length ≤ 21 := Lib.itoa_length_le n (by unfold fits lo63 hi63 at h; omega) (by unfold fits lo63 hi63 at h; omega)
theorem valText_len {v : Val} (hf : fits v.n) (hc : vcheck v = 0) : (valText v).length ≤ 100 := by
  have h1 := itoa_len hf
  have h2 := vcheck_size hc
  have h3 := dblQ_len v.s.data.toList
  have h4 : v.s.data.toList.length = v.s.size := rfl
  unfold valText
  split
  · omega
  split
  · split <;> decide
  · rw [List.length_cons, List.length_append]
    show _ + 1 + 1 ≤ 100
    omega
theorem opNm_len (k : Int) : (opNm k).data.toList.length ≤ 3 := by
  by_cases h : opErr k = 0
  · obtain ⟨j, rfl, h2, h3⟩ := opErr_nat h
    unfold opNm
    rw [if_pos h, Int.toNat_natCast]
    have : j = 2 ∨ j = 3 ∨ j = 4 ∨ j = 5 ∨ j = 6 ∨ j = 7 ∨ j = 8 ∨ j = 9 ∨ j = 10 ∨ j = 11 ∨ j = 12 ∨ j = 13 ∨ j = 14 ∨ j = 15 := by omega
    rcases this with rfl | rfl | rfl | rfl | rfl | rfl | rfl | rfl | rfl | rfl | rfl | rfl | rfl | rfl <;> decide
  · unfold opNm
    rw [if_neg h]
    decide
theorem bytes_back (a : ByteArray) : (⟨a.data.toList.toArray⟩ : ByteArray) = a := by
  obtain ⟨⟨l⟩⟩ := a; rfl
section
variable (x : Ins) (hx : x.wf) (w : World)
include hx
set_option maxHeartbeats 2000000 in
set_option maxRecDepth 100000 in
theorem rword2 (hw : x.what = 2) : Calls Tryd.prog 25 #[.agg #[.int .i64 x.what, .int .i64 x.arg, .int .i64 x.val.type, .int .i64 x.val.n, .string x.val.s]] w fun e w' => e = .returned (.string ⟨(wordText x).toArray⟩) ∧ Below w.heap.size w w' := by
  have q1 : (x.what == 1) = false := beq_eq_false_iff_ne.2 (by rw [hw]; decide)
  have q2 : (x.what == 2) = true := beq_iff_eq.2 hw
  have q3 : (x.what == 3) = false := beq_eq_false_iff_ne.2 (by rw [hw]; decide)
  have q4 : (x.what == 4) = false := beq_eq_false_iff_ne.2 (by rw [hw]; decide)
  have q5 : (x.what == 5) = false := beq_eq_false_iff_ne.2 (by rw [hw]; decide)
  have q6 : (x.what == 6) = false := beq_eq_false_iff_ne.2 (by rw [hw]; decide)
  have q7 : (x.what == 7) = false := beq_eq_false_iff_ne.2 (by rw [hw]; decide)
  obtain ⟨w0, hw0⟩ : ∃ w0, w.alloc (.cells #[.int .i64 x.what, .int .i64 x.arg, .int .i64 x.val.type, .int .i64 x.val.n, .string x.val.s] 39) = w0 := ⟨_, rfl⟩
  have hb0 : Below w.heap.size w w0 := by rw [← hw0]; exact belowNew' _ _
  have hbx := heap_alloc_new w (.cells #[.int .i64 x.what, .int .i64 x.arg, .int .i64 x.val.type, .int .i64 x.val.n, .string x.val.s] 39)
  rw [hw0] at hbx
  have HB0 := Lib.hid hb0
  have HBX := Lib.hid hbx
  have HLT := Lib.hid (show w.heap.size < w0.heap.size by rw [← hw0]; simp)
  have HW := Lib.hid hw0
  obtain ⟨c0, c1, c2, c3, c4⟩ := box5 hbx
  have hfa := hx.2.1
  have hia := itoa_len hfa
  have e63a : -9223372036854775808 ≤ x.arg := by unfold fits lo63 hi63 at hfa; omega
  have e63b : x.arg ≤ 9223372036854775807 := by unfold fits lo63 hi63 at hfa; omega

  have E := Lib.hid (show wordText x = [108, 111, 97, 100, 32] ++ Lib.itoa x.arg by unfold wordText; rw [if_neg (by rw [hw]; decide), if_pos hw])
  have TD := Lib.hid (digits_any x.arg e63a e63b w0)
  rw [E.out]
  generalize Lib.itoa x.arg = D at TD hia ⊢
  clear hw0 hb0 hbx hw hx hfa E
  go_enter Tryd.func25, Tryd.ntmps25
  go_wp2_with (first | rw [HW.out])
  refine (TD.out).mono ?_
  rintro e w' ⟨rfl, rfl⟩
  go_wp2_with fail
  go_ret
  exact ⟨congrArg Ending.returned (congrArg Value.string (bytes_app [108, 111, 97, 100, 32] D)), HB0.out⟩

set_option maxHeartbeats 2000000 in
set_option maxRecDepth 100000 in
theorem cword2 (hT : TextT w) (hO : OpsT w) (hw : x.what = 2) : Calls Tryd.prog 62 #[.agg #[.int .i64 x.what, .int .i64 x.arg, .int .i64 x.val.type, .int .i64 x.val.n, .string x.val.s]] w fun e w' => e = .returned (.string ⟨(wordText x).toArray⟩) ∧ Below w.heap.size w w' := by
  have q1 : (x.what == 1) = false := beq_eq_false_iff_ne.2 (by rw [hw]; decide)
  have q2 : (x.what == 2) = true := beq_iff_eq.2 hw
  have q3 : (x.what == 3) = false := beq_eq_false_iff_ne.2 (by rw [hw]; decide)
  have q4 : (x.what == 4) = false := beq_eq_false_iff_ne.2 (by rw [hw]; decide)
  have q5 : (x.what == 5) = false := beq_eq_false_iff_ne.2 (by rw [hw]; decide)
  have q6 : (x.what == 6) = false := beq_eq_false_iff_ne.2 (by rw [hw]; decide)
  have q7 : (x.what == 7) = false := beq_eq_false_iff_ne.2 (by rw [hw]; decide)
  obtain ⟨w0, hw0⟩ : ∃ w0, w.alloc (.cells #[.int .i64 x.what, .int .i64 x.arg, .int .i64 x.val.type, .int .i64 x.val.n, .string x.val.s] 39) = w0 := ⟨_, rfl⟩
  have hb0 : Below w.heap.size w w0 := by rw [← hw0]; exact belowNew' _ _
  have hbx := heap_alloc_new w (.cells #[.int .i64 x.what, .int .i64 x.arg, .int .i64 x.val.type, .int .i64 x.val.n, .string x.val.s] 39)
  rw [hw0] at hbx
  have HB0 := Lib.hid hb0
  have HBX := Lib.hid hbx
  have HLT := Lib.hid (show w.heap.size < w0.heap.size by rw [← hw0]; simp)
  have HW := Lib.hid hw0
  obtain ⟨c0, c1, c2, c3, c4⟩ := box5 hbx
  have hfa := hx.2.1
  have hia := itoa_len hfa
  have e63a : -9223372036854775808 ≤ x.arg := by unfold fits lo63 hi63 at hfa; omega
  have e63b : x.arg ≤ 9223372036854775807 := by unfold fits lo63 hi63 at hfa; omega

  have HT0 := Lib.hid (hT.keep hb0)
  have HO0 := Lib.hid (hO.keep hb0)
  have E := Lib.hid (show wordText x = [108, 111, 97, 100, 32] ++ Lib.itoa x.arg by unfold wordText; rw [if_neg (by rw [hw]; decide), if_pos hw])
  have TD := Lib.hid (Tryd.strconv_Itoa x.arg e63a e63b w0 HT0.out.tab.here)
  have hO' := hO
  rw [E.out]
  generalize Lib.itoa x.arg = D at TD hia ⊢
  clear hw0 hb0 hbx hw hx hfa E hT hO hO'
  go_enter Tryd.func62, Tryd.ntmps62
  go_wp2_with (first | rw [HW.out])
  refine (TD.out).mono ?_
  rintro e w' ⟨rfl, kq, os, rfl⟩
  have HB2 := Lib.hid (below_step HB0.out (Lib.below_grow w0.heap.size w0 (Nat.le_refl _) kq os))
  go_wp2_with fail
  go_ret
  exact ⟨congrArg Ending.returned (congrArg Value.string (bytes_app [108, 111, 97, 100, 32] D)), HB2.out⟩

set_option maxHeartbeats 2000000 in
set_option maxRecDepth 100000 in
theorem rword4 (hw : x.what = 4) : Calls Tryd.prog 25 #[.agg #[.int .i64 x.what, .int .i64 x.arg, .int .i64 x.val.type, .int .i64 x.val.n, .string x.val.s]] w fun e w' => e = .returned (.string ⟨(wordText x).toArray⟩) ∧ Below w.heap.size w w' := by
  have q1 : (x.what == 1) = false := beq_eq_false_iff_ne.2 (by rw [hw]; decide)
  have q2 : (x.what == 2) = false := beq_eq_false_iff_ne.2 (by rw [hw]; decide)
  have q3 : (x.what == 3) = false := beq_eq_false_iff_ne.2 (by rw [hw]; decide)
  have q4 : (x.what == 4) = true := beq_iff_eq.2 hw
  have q5 : (x.what == 5) = false := beq_eq_false_iff_ne.2 (by rw [hw]; decide)
  have q6 : (x.what == 6) = false := beq_eq_false_iff_ne.2 (by rw [hw]; decide)
  have q7 : (x.what == 7) = false := beq_eq_false_iff_ne.2 (by rw [hw]; decide)
  obtain ⟨w0, hw0⟩ : ∃ w0, w.alloc (.cells #[.int .i64 x.what, .int .i64 x.arg, .int .i64 x.val.type, .int .i64 x.val.n, .string x.val.s] 39) = w0 := ⟨_, rfl⟩
  have hb0 : Below w.heap.size w w0 := by rw [← hw0]; exact belowNew' _ _
  have hbx := heap_alloc_new w (.cells #[.int .i64 x.what, .int .i64 x.arg, .int .i64 x.val.type, .int .i64 x.val.n, .string x.val.s] 39)
  rw [hw0] at hbx
  have HB0 := Lib.hid hb0
  have HBX := Lib.hid hbx
  have HLT := Lib.hid (show w.heap.size < w0.heap.size by rw [← hw0]; simp)
  have HW := Lib.hid hw0
  obtain ⟨c0, c1, c2, c3, c4⟩ := box5 hbx
  have hfa := hx.2.1
  have hia := itoa_len hfa
  have e63a : -9223372036854775808 ≤ x.arg := by unfold fits lo63 hi63 at hfa; omega
  have e63b : x.arg ≤ 9223372036854775807 := by unfold fits lo63 hi63 at hfa; omega

  have E := Lib.hid (show wordText x = [106, 117, 109, 112, 32] ++ Lib.itoa x.arg by unfold wordText; rw [if_neg (by rw [hw]; decide), if_neg (by rw [hw]; decide), if_neg (by rw [hw]; decide), if_pos hw])
  have TD := Lib.hid (digits_any x.arg e63a e63b w0)
  rw [E.out]
  generalize Lib.itoa x.arg = D at TD hia ⊢
  clear hw0 hb0 hbx hw hx hfa E
  go_enter Tryd.func25, Tryd.ntmps25
  go_wp2_with (first | rw [HW.out])
  refine (TD.out).mono ?_
  rintro e w' ⟨rfl, rfl⟩
  go_wp2_with fail
  go_ret
  exact ⟨congrArg Ending.returned (congrArg Value.string (bytes_app [106, 117, 109, 112, 32] D)), HB0.out⟩

set_option maxHeartbeats 2000000 in
set_option maxRecDepth 100000 in
theorem cword4 (hT : TextT w) (hO : OpsT w) (hw : x.what = 4) : Calls Tryd.prog 62 #[.agg #[.int .i64 x.what, .int .i64 x.arg, .int .i64 x.val.type, .int .i64 x.val.n, .string x.val.s]] w fun e w' => e = .returned (.string ⟨(wordText x).toArray⟩) ∧ Below w.heap.size w w' := by
  have q1 : (x.what == 1) = false := beq_eq_false_iff_ne.2 (by rw [hw]; decide)
  have q2 : (x.what == 2) = false := beq_eq_false_iff_ne.2 (by rw [hw]; decide)
  have q3 : (x.what == 3) = false := beq_eq_false_iff_ne.2 (by rw [hw]; decide)
  have q4 : (x.what == 4) = true := beq_iff_eq.2 hw
  have q5 : (x.what == 5) = false := beq_eq_false_iff_ne.2 (by rw [hw]; decide)
  have q6 : (x.what == 6) = false := beq_eq_false_iff_ne.2 (by rw [hw]; decide)
  have q7 : (x.what == 7) = false := beq_eq_false_iff_ne.2 (by rw [hw]; decide)
  obtain ⟨w0, hw0⟩ : ∃ w0, w.alloc (.cells #[.int .i64 x.what, .int .i64 x.arg, .int .i64 x.val.type, .int .i64 x.val.n, .string x.val.s] 39) = w0 := ⟨_, rfl⟩
  have hb0 : Below w.heap.size w w0 := by rw [← hw0]; exact belowNew' _ _
  have hbx := heap_alloc_new w (.cells #[.int .i64 x.what, .int .i64 x.arg, .int .i64 x.val.type, .int .i64 x.val.n, .string x.val.s] 39)
  rw [hw0] at hbx
  have HB0 := Lib.hid hb0
  have HBX := Lib.hid hbx
  have HLT := Lib.hid (show w.heap.size < w0.heap.size by rw [← hw0]; simp)
  have HW := Lib.hid hw0
  obtain ⟨c0, c1, c2, c3, c4⟩ := box5 hbx
  have hfa := hx.2.1
  have hia := itoa_len hfa
  have e63a : -9223372036854775808 ≤ x.arg := by unfold fits lo63 hi63 at hfa; omega
  have e63b : x.arg ≤ 9223372036854775807 := by unfold fits lo63 hi63 at hfa; omega

  have HT0 := Lib.hid (hT.keep hb0)
  have HO0 := Lib.hid (hO.keep hb0)
  have E := Lib.hid (show wordText x = [106, 117, 109, 112, 32] ++ Lib.itoa x.arg by unfold wordText; rw [if_neg (by rw [hw]; decide), if_neg (by rw [hw]; decide), if_neg (by rw [hw]; decide), if_pos hw])
  have TD := Lib.hid (Tryd.strconv_Itoa x.arg e63a e63b w0 HT0.out.tab.here)
  have hO' := hO
  rw [E.out]
  generalize Lib.itoa x.arg = D at TD hia ⊢
  clear hw0 hb0 hbx hw hx hfa E hT hO hO'
  go_enter Tryd.func62, Tryd.ntmps62
  go_wp2_with (first | rw [HW.out])
  refine (TD.out).mono ?_
  rintro e w' ⟨rfl, kq, os, rfl⟩
  have HB2 := Lib.hid (below_step HB0.out (Lib.below_grow w0.heap.size w0 (Nat.le_refl _) kq os))
  go_wp2_with fail
  go_ret
  exact ⟨congrArg Ending.returned (congrArg Value.string (bytes_app [106, 117, 109, 112, 32] D)), HB2.out⟩

set_option maxHeartbeats 2000000 in
set_option maxRecDepth 100000 in
theorem rword5 (hw : x.what = 5) : Calls Tryd.prog 25 #[.agg #[.int .i64 x.what, .int .i64 x.arg, .int .i64 x.val.type, .int .i64 x.val.n, .string x.val.s]] w fun e w' => e = .returned (.string ⟨(wordText x).toArray⟩) ∧ Below w.heap.size w w' := by
  have q1 : (x.what == 1) = false := beq_eq_false_iff_ne.2 (by rw [hw]; decide)
  have q2 : (x.what == 2) = false := beq_eq_false_iff_ne.2 (by rw [hw]; decide)
  have q3 : (x.what == 3) = false := beq_eq_false_iff_ne.2 (by rw [hw]; decide)
  have q4 : (x.what == 4) = false := beq_eq_false_iff_ne.2 (by rw [hw]; decide)
  have q5 : (x.what == 5) = true := beq_iff_eq.2 hw
  have q6 : (x.what == 6) = false := beq_eq_false_iff_ne.2 (by rw [hw]; decide)
  have q7 : (x.what == 7) = false := beq_eq_false_iff_ne.2 (by rw [hw]; decide)
  obtain ⟨w0, hw0⟩ : ∃ w0, w.alloc (.cells #[.int .i64 x.what, .int .i64 x.arg, .int .i64 x.val.type, .int .i64 x.val.n, .string x.val.s] 39) = w0 := ⟨_, rfl⟩
  have hb0 : Below w.heap.size w w0 := by rw [← hw0]; exact belowNew' _ _
  have hbx := heap_alloc_new w (.cells #[.int .i64 x.what, .int .i64 x.arg, .int .i64 x.val.type, .int .i64 x.val.n, .string x.val.s] 39)
  rw [hw0] at hbx
  have HB0 := Lib.hid hb0
  have HBX := Lib.hid hbx
  have HLT := Lib.hid (show w.heap.size < w0.heap.size by rw [← hw0]; simp)
  have HW := Lib.hid hw0
  obtain ⟨c0, c1, c2, c3, c4⟩ := box5 hbx
  have hfa := hx.2.1
  have hia := itoa_len hfa
  have e63a : -9223372036854775808 ≤ x.arg := by unfold fits lo63 hi63 at hfa; omega
  have e63b : x.arg ≤ 9223372036854775807 := by unfold fits lo63 hi63 at hfa; omega

  have E := Lib.hid (show wordText x = [101, 108, 115, 101, 32] ++ Lib.itoa x.arg by unfold wordText; rw [if_neg (by rw [hw]; decide), if_neg (by rw [hw]; decide), if_neg (by rw [hw]; decide), if_neg (by rw [hw]; decide), if_pos hw])
  have TD := Lib.hid (digits_any x.arg e63a e63b w0)
  rw [E.out]
  generalize Lib.itoa x.arg = D at TD hia ⊢
  clear hw0 hb0 hbx hw hx hfa E
  go_enter Tryd.func25, Tryd.ntmps25
  go_wp2_with (first | rw [HW.out])
  refine (TD.out).mono ?_
  rintro e w' ⟨rfl, rfl⟩
  go_wp2_with fail
  go_ret
  exact ⟨congrArg Ending.returned (congrArg Value.string (bytes_app [101, 108, 115, 101, 32] D)), HB0.out⟩

set_option maxHeartbeats 2000000 in
set_option maxRecDepth 100000 in
theorem cword5 (hT : TextT w) (hO : OpsT w) (hw : x.what = 5) : Calls Tryd.prog 62 #[.agg #[.int .i64 x.what, .int .i64 x.arg, .int .i64 x.val.type, .int .i64 x.val.n, .string x.val.s]] w fun e w' => e = .returned (.string ⟨(wordText x).toArray⟩) ∧ Below w.heap.size w w' := by
  have q1 : (x.what == 1) = false := beq_eq_false_iff_ne.2 (by rw [hw]; decide)
  have q2 : (x.what == 2) = false := beq_eq_false_iff_ne.2 (by rw [hw]; decide)
  have q3 : (x.what == 3) = false := beq_eq_false_iff_ne.2 (by rw [hw]; decide)
  have q4 : (x.what == 4) = false := beq_eq_false_iff_ne.2 (by rw [hw]; decide)
  have q5 : (x.what == 5) = true := beq_iff_eq.2 hw
  have q6 : (x.what == 6) = false := beq_eq_false_iff_ne.2 (by rw [hw]; decide)
  have q7 : (x.what == 7) = false := beq_eq_false_iff_ne.2 (by rw [hw]; decide)
  obtain ⟨w0, hw0⟩ : ∃ w0, w.alloc (.cells #[.int .i64 x.what, .int .i64 x.arg, .int .i64 x.val.type, .int .i64 x.val.n, .string x.val.s] 39) = w0 := ⟨_, rfl⟩
  have hb0 : Below w.heap.size w w0 := by rw [← hw0]; exact belowNew' _ _
  have hbx := heap_alloc_new w (.cells #[.int .i64 x.what, .int .i64 x.arg, .int .i64 x.val.type, .int .i64 x.val.n, .string x.val.s] 39)
  rw [hw0] at hbx
  have HB0 := Lib.hid hb0
  have HBX := Lib.hid hbx
  have HLT := Lib.hid (show w.heap.size < w0.heap.size by rw [← hw0]; simp)
  have HW := Lib.hid hw0
  obtain ⟨c0, c1, c2, c3, c4⟩ := box5 hbx
  have hfa := hx.2.1
  have hia := itoa_len hfa
  have e63a : -9223372036854775808 ≤ x.arg := by unfold fits lo63 hi63 at hfa; omega
  have e63b : x.arg ≤ 9223372036854775807 := by unfold fits lo63 hi63 at hfa; omega

  have HT0 := Lib.hid (hT.keep hb0)
  have HO0 := Lib.hid (hO.keep hb0)
  have E := Lib.hid (show wordText x = [101, 108, 115, 101, 32] ++ Lib.itoa x.arg by unfold wordText; rw [if_neg (by rw [hw]; decide), if_neg (by rw [hw]; decide), if_neg (by rw [hw]; decide), if_neg (by rw [hw]; decide), if_pos hw])
  have TD := Lib.hid (Tryd.strconv_Itoa x.arg e63a e63b w0 HT0.out.tab.here)
  have hO' := hO
  rw [E.out]
  generalize Lib.itoa x.arg = D at TD hia ⊢
  clear hw0 hb0 hbx hw hx hfa E hT hO hO'
  go_enter Tryd.func62, Tryd.ntmps62
  go_wp2_with (first | rw [HW.out])
  refine (TD.out).mono ?_
  rintro e w' ⟨rfl, kq, os, rfl⟩
  have HB2 := Lib.hid (below_step HB0.out (Lib.below_grow w0.heap.size w0 (Nat.le_refl _) kq os))
  go_wp2_with fail
  go_ret
  exact ⟨congrArg Ending.returned (congrArg Value.string (bytes_app [101, 108, 115, 101, 32] D)), HB2.out⟩

set_option maxHeartbeats 2000000 in
set_option maxRecDepth 100000 in
theorem rword6 (hw : x.what = 6) : Calls Tryd.prog 25 #[.agg #[.int .i64 x.what, .int .i64 x.arg, .int .i64 x.val.type, .int .i64 x.val.n, .string x.val.s]] w fun e w' => e = .returned (.string ⟨(wordText x).toArray⟩) ∧ Below w.heap.size w w' := by
  have q1 : (x.what == 1) = false := beq_eq_false_iff_ne.2 (by rw [hw]; decide)
  have q2 : (x.what == 2) = false := beq_eq_false_iff_ne.2 (by rw [hw]; decide)
  have q3 : (x.what == 3) = false := beq_eq_false_iff_ne.2 (by rw [hw]; decide)
  have q4 : (x.what == 4) = false := beq_eq_false_iff_ne.2 (by rw [hw]; decide)
  have q5 : (x.what == 5) = false := beq_eq_false_iff_ne.2 (by rw [hw]; decide)
  have q6 : (x.what == 6) = true := beq_iff_eq.2 hw
  have q7 : (x.what == 7) = false := beq_eq_false_iff_ne.2 (by rw [hw]; decide)
  obtain ⟨w0, hw0⟩ : ∃ w0, w.alloc (.cells #[.int .i64 x.what, .int .i64 x.arg, .int .i64 x.val.type, .int .i64 x.val.n, .string x.val.s] 39) = w0 := ⟨_, rfl⟩
  have hb0 : Below w.heap.size w w0 := by rw [← hw0]; exact belowNew' _ _
  have hbx := heap_alloc_new w (.cells #[.int .i64 x.what, .int .i64 x.arg, .int .i64 x.val.type, .int .i64 x.val.n, .string x.val.s] 39)
  rw [hw0] at hbx
  have HB0 := Lib.hid hb0
  have HBX := Lib.hid hbx
  have HLT := Lib.hid (show w.heap.size < w0.heap.size by rw [← hw0]; simp)
  have HW := Lib.hid hw0
  obtain ⟨c0, c1, c2, c3, c4⟩ := box5 hbx
  have hfa := hx.2.1
  have hia := itoa_len hfa
  have e63a : -9223372036854775808 ≤ x.arg := by unfold fits lo63 hi63 at hfa; omega
  have e63b : x.arg ≤ 9223372036854775807 := by unfold fits lo63 hi63 at hfa; omega

  have E := Lib.hid (show wordText x = [107, 101, 101, 112] by unfold wordText; rw [if_neg (by rw [hw]; decide), if_neg (by rw [hw]; decide), if_neg (by rw [hw]; decide), if_neg (by rw [hw]; decide), if_neg (by rw [hw]; decide), if_pos hw])
  have TD := Lib.hid (digits_any x.arg e63a e63b w0)
  rw [E.out]
  generalize Lib.itoa x.arg = D at TD hia
  clear hw0 hb0 hbx hx hfa E hw
  go_enter Tryd.func25, Tryd.ntmps25
  go_wp2_with (first | rw [HW.out])
  refine (TD.out).mono ?_
  rintro e w' ⟨rfl, rfl⟩
  go_wp2_with fail
  go_ret
  exact ⟨rfl, HB0.out⟩

set_option maxHeartbeats 2000000 in
set_option maxRecDepth 100000 in
theorem cword6 (hT : TextT w) (hO : OpsT w) (hw : x.what = 6) : Calls Tryd.prog 62 #[.agg #[.int .i64 x.what, .int .i64 x.arg, .int .i64 x.val.type, .int .i64 x.val.n, .string x.val.s]] w fun e w' => e = .returned (.string ⟨(wordText x).toArray⟩) ∧ Below w.heap.size w w' := by
  have q1 : (x.what == 1) = false := beq_eq_false_iff_ne.2 (by rw [hw]; decide)
  have q2 : (x.what == 2) = false := beq_eq_false_iff_ne.2 (by rw [hw]; decide)
  have q3 : (x.what == 3) = false := beq_eq_false_iff_ne.2 (by rw [hw]; decide)
  have q4 : (x.what == 4) = false := beq_eq_false_iff_ne.2 (by rw [hw]; decide)
  have q5 : (x.what == 5) = false := beq_eq_false_iff_ne.2 (by rw [hw]; decide)
  have q6 : (x.what == 6) = true := beq_iff_eq.2 hw
  have q7 : (x.what == 7) = false := beq_eq_false_iff_ne.2 (by rw [hw]; decide)
  obtain ⟨w0, hw0⟩ : ∃ w0, w.alloc (.cells #[.int .i64 x.what, .int .i64 x.arg, .int .i64 x.val.type, .int .i64 x.val.n, .string x.val.s] 39) = w0 := ⟨_, rfl⟩
  have hb0 : Below w.heap.size w w0 := by rw [← hw0]; exact belowNew' _ _
  have hbx := heap_alloc_new w (.cells #[.int .i64 x.what, .int .i64 x.arg, .int .i64 x.val.type, .int .i64 x.val.n, .string x.val.s] 39)
  rw [hw0] at hbx
  have HB0 := Lib.hid hb0
  have HBX := Lib.hid hbx
  have HLT := Lib.hid (show w.heap.size < w0.heap.size by rw [← hw0]; simp)
  have HW := Lib.hid hw0
  obtain ⟨c0, c1, c2, c3, c4⟩ := box5 hbx
  have hfa := hx.2.1
  have hia := itoa_len hfa
  have e63a : -9223372036854775808 ≤ x.arg := by unfold fits lo63 hi63 at hfa; omega
  have e63b : x.arg ≤ 9223372036854775807 := by unfold fits lo63 hi63 at hfa; omega

  have HT0 := Lib.hid (hT.keep hb0)
  have HO0 := Lib.hid (hO.keep hb0)
  have E := Lib.hid (show wordText x = [107, 101, 101, 112] by unfold wordText; rw [if_neg (by rw [hw]; decide), if_neg (by rw [hw]; decide), if_neg (by rw [hw]; decide), if_neg (by rw [hw]; decide), if_neg (by rw [hw]; decide), if_pos hw])
  have _h2 := hT
  have _h3 := hO
  rw [E.out]
  clear hw0 hb0 hbx hx hfa E hw hT hO _h2 _h3
  go_enter Tryd.func62, Tryd.ntmps62
  go_wp2_with (first | rw [HW.out])
  go_ret
  exact ⟨rfl, HB0.out⟩

set_option maxHeartbeats 2000000 in
set_option maxRecDepth 100000 in
theorem rword7 (hw : x.what = 7) : Calls Tryd.prog 25 #[.agg #[.int .i64 x.what, .int .i64 x.arg, .int .i64 x.val.type, .int .i64 x.val.n, .string x.val.s]] w fun e w' => e = .returned (.string ⟨(wordText x).toArray⟩) ∧ Below w.heap.size w w' := by
  have q1 : (x.what == 1) = false := beq_eq_false_iff_ne.2 (by rw [hw]; decide)
  have q2 : (x.what == 2) = false := beq_eq_false_iff_ne.2 (by rw [hw]; decide)
  have q3 : (x.what == 3) = false := beq_eq_false_iff_ne.2 (by rw [hw]; decide)
  have q4 : (x.what == 4) = false := beq_eq_false_iff_ne.2 (by rw [hw]; decide)
  have q5 : (x.what == 5) = false := beq_eq_false_iff_ne.2 (by rw [hw]; decide)
  have q6 : (x.what == 6) = false := beq_eq_false_iff_ne.2 (by rw [hw]; decide)
  have q7 : (x.what == 7) = true := beq_iff_eq.2 hw
  obtain ⟨w0, hw0⟩ : ∃ w0, w.alloc (.cells #[.int .i64 x.what, .int .i64 x.arg, .int .i64 x.val.type, .int .i64 x.val.n, .string x.val.s] 39) = w0 := ⟨_, rfl⟩
  have hb0 : Below w.heap.size w w0 := by rw [← hw0]; exact belowNew' _ _
  have hbx := heap_alloc_new w (.cells #[.int .i64 x.what, .int .i64 x.arg, .int .i64 x.val.type, .int .i64 x.val.n, .string x.val.s] 39)
  rw [hw0] at hbx
  have HB0 := Lib.hid hb0
  have HBX := Lib.hid hbx
  have HLT := Lib.hid (show w.heap.size < w0.heap.size by rw [← hw0]; simp)
  have HW := Lib.hid hw0
  obtain ⟨c0, c1, c2, c3, c4⟩ := box5 hbx
  have hfa := hx.2.1
  have hia := itoa_len hfa
  have e63a : -9223372036854775808 ≤ x.arg := by unfold fits lo63 hi63 at hfa; omega
  have e63b : x.arg ≤ 9223372036854775807 := by unfold fits lo63 hi63 at hfa; omega

  have E := Lib.hid (show wordText x = [100, 114, 111, 112] by unfold wordText; rw [if_neg (by rw [hw]; decide), if_neg (by rw [hw]; decide), if_neg (by rw [hw]; decide), if_neg (by rw [hw]; decide), if_neg (by rw [hw]; decide), if_neg (by rw [hw]; decide), if_pos hw])
  have TD := Lib.hid (digits_any x.arg e63a e63b w0)
  rw [E.out]
  generalize Lib.itoa x.arg = D at TD hia
  clear hw0 hb0 hbx hx hfa E hw
  go_enter Tryd.func25, Tryd.ntmps25
  go_wp2_with (first | rw [HW.out])
  refine (TD.out).mono ?_
  rintro e w' ⟨rfl, rfl⟩
  go_wp2_with fail
  go_ret
  exact ⟨rfl, HB0.out⟩

set_option maxHeartbeats 2000000 in
set_option maxRecDepth 100000 in
theorem cword7 (hT : TextT w) (hO : OpsT w) (hw : x.what = 7) : Calls Tryd.prog 62 #[.agg #[.int .i64 x.what, .int .i64 x.arg, .int .i64 x.val.type, .int .i64 x.val.n, .string x.val.s]] w fun e w' => e = .returned (.string ⟨(wordText x).toArray⟩) ∧ Below w.heap.size w w' := by
  have q1 : (x.what == 1) = false := beq_eq_false_iff_ne.2 (by rw [hw]; decide)
  have q2 : (x.what == 2) = false := beq_eq_false_iff_ne.2 (by rw [hw]; decide)
  have q3 : (x.what == 3) = false := beq_eq_false_iff_ne.2 (by rw [hw]; decide)
  have q4 : (x.what == 4) = false := beq_eq_false_iff_ne.2 (by rw [hw]; decide)
  have q5 : (x.what == 5) = false := beq_eq_false_iff_ne.2 (by rw [hw]; decide)
  have q6 : (x.what == 6) = false := beq_eq_false_iff_ne.2 (by rw [hw]; decide)
  have q7 : (x.what == 7) = true := beq_iff_eq.2 hw
  obtain ⟨w0, hw0⟩ : ∃ w0, w.alloc (.cells #[.int .i64 x.what, .int .i64 x.arg, .int .i64 x.val.type, .int .i64 x.val.n, .string x.val.s] 39) = w0 := ⟨_, rfl⟩
  have hb0 : Below w.heap.size w w0 := by rw [← hw0]; exact belowNew' _ _
  have hbx := heap_alloc_new w (.cells #[.int .i64 x.what, .int .i64 x.arg, .int .i64 x.val.type, .int .i64 x.val.n, .string x.val.s] 39)
  rw [hw0] at hbx
  have HB0 := Lib.hid hb0
  have HBX := Lib.hid hbx
  have HLT := Lib.hid (show w.heap.size < w0.heap.size by rw [← hw0]; simp)
  have HW := Lib.hid hw0
  obtain ⟨c0, c1, c2, c3, c4⟩ := box5 hbx
  have hfa := hx.2.1
  have hia := itoa_len hfa
  have e63a : -9223372036854775808 ≤ x.arg := by unfold fits lo63 hi63 at hfa; omega
  have e63b : x.arg ≤ 9223372036854775807 := by unfold fits lo63 hi63 at hfa; omega

  have HT0 := Lib.hid (hT.keep hb0)
  have HO0 := Lib.hid (hO.keep hb0)
  have E := Lib.hid (show wordText x = [100, 114, 111, 112] by unfold wordText; rw [if_neg (by rw [hw]; decide), if_neg (by rw [hw]; decide), if_neg (by rw [hw]; decide), if_neg (by rw [hw]; decide), if_neg (by rw [hw]; decide), if_neg (by rw [hw]; decide), if_pos hw])
  have _h2 := hT
  have _h3 := hO
  rw [E.out]
  clear hw0 hb0 hbx hx hfa E hw hT hO _h2 _h3
  go_enter Tryd.func62, Tryd.ntmps62
  go_wp2_with (first | rw [HW.out])
  go_ret
  exact ⟨rfl, HB0.out⟩

set_option maxHeartbeats 2000000 in
set_option maxRecDepth 100000 in
theorem rword0 (h1 : x.what ≠ 1) (h2 : x.what ≠ 2) (h3 : x.what ≠ 3) (h4 : x.what ≠ 4) (h5 : x.what ≠ 5) (h6 : x.what ≠ 6) (h7 : x.what ≠ 7) : Calls Tryd.prog 25 #[.agg #[.int .i64 x.what, .int .i64 x.arg, .int .i64 x.val.type, .int .i64 x.val.n, .string x.val.s]] w fun e w' => e = .returned (.string ⟨(wordText x).toArray⟩) ∧ Below w.heap.size w w' := by
  have q1 : (x.what == 1) = false := beq_eq_false_iff_ne.2 h1
  have q2 : (x.what == 2) = false := beq_eq_false_iff_ne.2 h2
  have q3 : (x.what == 3) = false := beq_eq_false_iff_ne.2 h3
  have q4 : (x.what == 4) = false := beq_eq_false_iff_ne.2 h4
  have q5 : (x.what == 5) = false := beq_eq_false_iff_ne.2 h5
  have q6 : (x.what == 6) = false := beq_eq_false_iff_ne.2 h6
  have q7 : (x.what == 7) = false := beq_eq_false_iff_ne.2 h7
  obtain ⟨w0, hw0⟩ : ∃ w0, w.alloc (.cells #[.int .i64 x.what, .int .i64 x.arg, .int .i64 x.val.type, .int .i64 x.val.n, .string x.val.s] 39) = w0 := ⟨_, rfl⟩
  have hb0 : Below w.heap.size w w0 := by rw [← hw0]; exact belowNew' _ _
  have hbx := heap_alloc_new w (.cells #[.int .i64 x.what, .int .i64 x.arg, .int .i64 x.val.type, .int .i64 x.val.n, .string x.val.s] 39)
  rw [hw0] at hbx
  have HB0 := Lib.hid hb0
  have HBX := Lib.hid hbx
  have HLT := Lib.hid (show w.heap.size < w0.heap.size by rw [← hw0]; simp)
  have HW := Lib.hid hw0
  obtain ⟨c0, c1, c2, c3, c4⟩ := box5 hbx
  have hfa := hx.2.1
  have hia := itoa_len hfa
  have e63a : -9223372036854775808 ≤ x.arg := by unfold fits lo63 hi63 at hfa; omega
  have e63b : x.arg ≤ 9223372036854775807 := by unfold fits lo63 hi63 at hfa; omega

  have E := Lib.hid (show wordText x = [63] by unfold wordText; rw [if_neg h1, if_neg h2, if_neg h3, if_neg h4, if_neg h5, if_neg h6, if_neg h7])
  have TD := Lib.hid (digits_any x.arg e63a e63b w0)
  rw [E.out]
  generalize Lib.itoa x.arg = D at TD hia
  clear hw0 hb0 hbx hx hfa E h1 h2 h3 h4 h5 h6 h7
  go_enter Tryd.func25, Tryd.ntmps25
  go_wp2_with (first | rw [HW.out])
  refine (TD.out).mono ?_
  rintro e w' ⟨rfl, rfl⟩
  go_wp2_with fail
  go_ret
  exact ⟨rfl, HB0.out⟩

set_option maxHeartbeats 2000000 in
set_option maxRecDepth 100000 in
theorem cword0 (hT : TextT w) (hO : OpsT w) (h1 : x.what ≠ 1) (h2 : x.what ≠ 2) (h3 : x.what ≠ 3) (h4 : x.what ≠ 4) (h5 : x.what ≠ 5) (h6 : x.what ≠ 6) (h7 : x.what ≠ 7) : Calls Tryd.prog 62 #[.agg #[.int .i64 x.what, .int .i64 x.arg, .int .i64 x.val.type, .int .i64 x.val.n, .string x.val.s]] w fun e w' => e = .returned (.string ⟨(wordText x).toArray⟩) ∧ Below w.heap.size w w' := by
  have q1 : (x.what == 1) = false := beq_eq_false_iff_ne.2 h1
  have q2 : (x.what == 2) = false := beq_eq_false_iff_ne.2 h2
  have q3 : (x.what == 3) = false := beq_eq_false_iff_ne.2 h3
  have q4 : (x.what == 4) = false := beq_eq_false_iff_ne.2 h4
  have q5 : (x.what == 5) = false := beq_eq_false_iff_ne.2 h5
  have q6 : (x.what == 6) = false := beq_eq_false_iff_ne.2 h6
  have q7 : (x.what == 7) = false := beq_eq_false_iff_ne.2 h7
  obtain ⟨w0, hw0⟩ : ∃ w0, w.alloc (.cells #[.int .i64 x.what, .int .i64 x.arg, .int .i64 x.val.type, .int .i64 x.val.n, .string x.val.s] 39) = w0 := ⟨_, rfl⟩
  have hb0 : Below w.heap.size w w0 := by rw [← hw0]; exact belowNew' _ _
  have hbx := heap_alloc_new w (.cells #[.int .i64 x.what, .int .i64 x.arg, .int .i64 x.val.type, .int .i64 x.val.n, .string x.val.s] 39)
  rw [hw0] at hbx
  have HB0 := Lib.hid hb0
  have HBX := Lib.hid hbx
  have HLT := Lib.hid (show w.heap.size < w0.heap.size by rw [← hw0]; simp)
  have HW := Lib.hid hw0
  obtain ⟨c0, c1, c2, c3, c4⟩ := box5 hbx
  have hfa := hx.2.1
  have hia := itoa_len hfa
  have e63a : -9223372036854775808 ≤ x.arg := by unfold fits lo63 hi63 at hfa; omega
  have e63b : x.arg ≤ 9223372036854775807 := by unfold fits lo63 hi63 at hfa; omega

  have HT0 := Lib.hid (hT.keep hb0)
  have HO0 := Lib.hid (hO.keep hb0)
  have E := Lib.hid (show wordText x = [63] by unfold wordText; rw [if_neg h1, if_neg h2, if_neg h3, if_neg h4, if_neg h5, if_neg h6, if_neg h7])
  have _h2 := hT
  have _h3 := hO
  rw [E.out]
  clear hw0 hb0 hbx hx hfa E h1 h2 h3 h4 h5 h6 h7 hT hO _h2 _h3
  go_enter Tryd.func62, Tryd.ntmps62
  go_wp2_with (first | rw [HW.out])
  go_ret
  exact ⟨rfl, HB0.out⟩

set_option maxHeartbeats 2000000 in
set_option maxRecDepth 100000 in
theorem rword1 (hw : x.what = 1) : Calls Tryd.prog 25 #[.agg #[.int .i64 x.what, .int .i64 x.arg, .int .i64 x.val.type, .int .i64 x.val.n, .string x.val.s]] w fun e w' => e = .returned (.string ⟨(wordText x).toArray⟩) ∧ Below w.heap.size w w' := by
  have q1 : (x.what == 1) = true := beq_iff_eq.2 hw
  have q2 : (x.what == 2) = false := beq_eq_false_iff_ne.2 (by rw [hw]; decide)
  have q3 : (x.what == 3) = false := beq_eq_false_iff_ne.2 (by rw [hw]; decide)
  have q4 : (x.what == 4) = false := beq_eq_false_iff_ne.2 (by rw [hw]; decide)
  have q5 : (x.what == 5) = false := beq_eq_false_iff_ne.2 (by rw [hw]; decide)
  have q6 : (x.what == 6) = false := beq_eq_false_iff_ne.2 (by rw [hw]; decide)
  have q7 : (x.what == 7) = false := beq_eq_false_iff_ne.2 (by rw [hw]; decide)
  obtain ⟨w0, hw0⟩ : ∃ w0, w.alloc (.cells #[.int .i64 x.what, .int .i64 x.arg, .int .i64 x.val.type, .int .i64 x.val.n, .string x.val.s] 39) = w0 := ⟨_, rfl⟩
  have hb0 : Below w.heap.size w w0 := by rw [← hw0]; exact belowNew' _ _
  have hbx := heap_alloc_new w (.cells #[.int .i64 x.what, .int .i64 x.arg, .int .i64 x.val.type, .int .i64 x.val.n, .string x.val.s] 39)
  rw [hw0] at hbx
  have HB0 := Lib.hid hb0
  have HBX := Lib.hid hbx
  have HLT := Lib.hid (show w.heap.size < w0.heap.size by rw [← hw0]; simp)
  have HW := Lib.hid hw0
  obtain ⟨c0, c1, c2, c3, c4⟩ := box5 hbx
  have hfa := hx.2.1
  have hia := itoa_len hfa
  have e63a : -9223372036854775808 ≤ x.arg := by unfold fits lo63 hi63 at hfa; omega
  have e63b : x.arg ≤ 9223372036854775807 := by unfold fits lo63 hi63 at hfa; omega

  have TD := Lib.hid (digits_any x.arg e63a e63b w0)
  have TV := Lib.hid (rval_any x.val w0 hx.2.2.2.2)
  by_cases hc : vcheck x.val = 0
  · have TS := Lib.hid (fun w' => show_any x.val hx.2.2.2.1 (by have := vcheck_size hc; omega) w')
    have hvl := valText_len hx.2.2.2.1 hc
    have E := Lib.hid (show wordText x = [112, 117, 115, 104, 32] ++ valText x.val by unfold wordText; rw [if_pos hw, if_pos hc])
    rw [E.out]
    rw [hc] at TV
    generalize Lib.itoa x.arg = D at TD hia
    generalize valText x.val = V at TS hvl ⊢
    clear hw0 hb0 hbx hw hx hfa E hc
    go_enter Tryd.func25, Tryd.ntmps25
    go_wp2_with (first | rw [HW.out])
    refine (TD.out).mono ?_
    rintro e w' ⟨rfl, rfl⟩
    go_wp2_with fail
    refine (TV.out).mono ?_
    rintro e w1 ⟨rfl, hb1⟩
    have HB1 := Lib.hid (below_step HB0.out hb1)
    obtain ⟨d0, d1, d2, d3, d4⟩ := box5 ((hb1.block w.heap.size HLT.out).trans HBX.out)
    clear hb1 c0 c1 c2 c3 c4
    go_wp2_with fail
    refine (TS.out w1).mono ?_
    rintro e w2 ⟨rfl, hb2⟩
    have HB2 := Lib.hid (below_step HB1.out hb2)
    clear hb2
    go_wp2_with fail
    go_ret
    exact ⟨congrArg Ending.returned (congrArg Value.string (bytes_app [112, 117, 115, 104, 32] V)), HB2.out⟩
  · have e1 : (vcheck x.val != 0) = true := by simpa using hc
    have E := Lib.hid (show wordText x = [63] by unfold wordText; rw [if_pos hw, if_neg hc])
    rw [E.out]
    generalize Lib.itoa x.arg = D at TD hia
    generalize vcheck x.val = vc at TV e1
    clear hw0 hb0 hbx hw hx hfa E hc
    go_enter Tryd.func25, Tryd.ntmps25
    go_wp2_with (first | rw [HW.out])
    refine (TD.out).mono ?_
    rintro e w' ⟨rfl, rfl⟩
    go_wp2_with fail
    refine (TV.out).mono ?_
    rintro e w1 ⟨rfl, hb1⟩
    have HB1 := Lib.hid (below_step HB0.out hb1)
    clear hb1 c0 c1 c2 c3 c4
    go_wp2_with fail
    go_ret
    exact ⟨rfl, HB1.out⟩

set_option maxHeartbeats 2000000 in
set_option maxRecDepth 100000 in
theorem cword1 (hT : TextT w) (hO : OpsT w) (hw : x.what = 1) : Calls Tryd.prog 62 #[.agg #[.int .i64 x.what, .int .i64 x.arg, .int .i64 x.val.type, .int .i64 x.val.n, .string x.val.s]] w fun e w' => e = .returned (.string ⟨(wordText x).toArray⟩) ∧ Below w.heap.size w w' := by
  have q1 : (x.what == 1) = true := beq_iff_eq.2 hw
  have q2 : (x.what == 2) = false := beq_eq_false_iff_ne.2 (by rw [hw]; decide)
  have q3 : (x.what == 3) = false := beq_eq_false_iff_ne.2 (by rw [hw]; decide)
  have q4 : (x.what == 4) = false := beq_eq_false_iff_ne.2 (by rw [hw]; decide)
  have q5 : (x.what == 5) = false := beq_eq_false_iff_ne.2 (by rw [hw]; decide)
  have q6 : (x.what == 6) = false := beq_eq_false_iff_ne.2 (by rw [hw]; decide)
  have q7 : (x.what == 7) = false := beq_eq_false_iff_ne.2 (by rw [hw]; decide)
  obtain ⟨w0, hw0⟩ : ∃ w0, w.alloc (.cells #[.int .i64 x.what, .int .i64 x.arg, .int .i64 x.val.type, .int .i64 x.val.n, .string x.val.s] 39) = w0 := ⟨_, rfl⟩
  have hb0 : Below w.heap.size w w0 := by rw [← hw0]; exact belowNew' _ _
  have hbx := heap_alloc_new w (.cells #[.int .i64 x.what, .int .i64 x.arg, .int .i64 x.val.type, .int .i64 x.val.n, .string x.val.s] 39)
  rw [hw0] at hbx
  have HB0 := Lib.hid hb0
  have HBX := Lib.hid hbx
  have HLT := Lib.hid (show w.heap.size < w0.heap.size by rw [← hw0]; simp)
  have HW := Lib.hid hw0
  obtain ⟨c0, c1, c2, c3, c4⟩ := box5 hbx
  have hfa := hx.2.1
  have hia := itoa_len hfa
  have e63a : -9223372036854775808 ≤ x.arg := by unfold fits lo63 hi63 at hfa; omega
  have e63b : x.arg ≤ 9223372036854775807 := by unfold fits lo63 hi63 at hfa; omega

  have HT0 := Lib.hid (hT.keep hb0)
  have HO0 := Lib.hid (hO.keep hb0)
  have TP := Lib.hid (print_any x.val hx.2.2 w0 HT0.out)
  unfold PrintSays at TP
  by_cases hc : vcheck x.val = 0
  · have hvl := valText_len hx.2.2.2.1 hc
    have E := Lib.hid (show wordText x = [112, 117, 115, 104, 32] ++ valText x.val by unfold wordText; rw [if_pos hw, if_pos hc])
    rw [E.out]
    rw [hc, errV_zero, if_pos rfl] at TP
    generalize valText x.val = V at TP hvl ⊢
    clear hw0 hb0 hbx hw hx hfa E hc hT hO
    go_enter Tryd.func62, Tryd.ntmps62
    go_wp2_with (first | rw [HW.out])
    refine (TP.out).mono ?_
    rintro e w1 ⟨rfl, hb1⟩
    have HB1 := Lib.hid (below_step HB0.out hb1)
    clear hb1 c0 c1 c2 c3 c4
    go_wp2_with fail
    go_ret
    exact ⟨congrArg Ending.returned (congrArg Value.string (bytes_app [112, 117, 115, 104, 32] V)), HB1.out⟩
  · have E := Lib.hid (show wordText x = [63] by unfold wordText; rw [if_pos hw, if_neg hc])
    rw [E.out]
    rw [if_neg hc, errV_ne hc] at TP
    generalize vcheck x.val = vc at TP
    clear hw0 hb0 hbx hw hx hfa E hc hT hO
    go_enter Tryd.func62, Tryd.ntmps62
    go_wp2_with (first | rw [HW.out])
    refine (TP.out).mono ?_
    rintro e w1 ⟨rfl, hb1⟩
    have HB1 := Lib.hid (below_step HB0.out hb1)
    clear hb1 c0 c1 c2 c3 c4
    go_wp2_with fail
    go_ret
    exact ⟨rfl, HB1.out⟩

set_option maxHeartbeats 2000000 in
set_option maxRecDepth 100000 in
theorem rword3 (hw : x.what = 3) : Calls Tryd.prog 25 #[.agg #[.int .i64 x.what, .int .i64 x.arg, .int .i64 x.val.type, .int .i64 x.val.n, .string x.val.s]] w fun e w' => e = .returned (.string ⟨(wordText x).toArray⟩) ∧ Below w.heap.size w w' := by
  have q1 : (x.what == 1) = false := beq_eq_false_iff_ne.2 (by rw [hw]; decide)
  have q2 : (x.what == 2) = false := beq_eq_false_iff_ne.2 (by rw [hw]; decide)
  have q3 : (x.what == 3) = true := beq_iff_eq.2 hw
  have q4 : (x.what == 4) = false := beq_eq_false_iff_ne.2 (by rw [hw]; decide)
  have q5 : (x.what == 5) = false := beq_eq_false_iff_ne.2 (by rw [hw]; decide)
  have q6 : (x.what == 6) = false := beq_eq_false_iff_ne.2 (by rw [hw]; decide)
  have q7 : (x.what == 7) = false := beq_eq_false_iff_ne.2 (by rw [hw]; decide)
  obtain ⟨w0, hw0⟩ : ∃ w0, w.alloc (.cells #[.int .i64 x.what, .int .i64 x.arg, .int .i64 x.val.type, .int .i64 x.val.n, .string x.val.s] 39) = w0 := ⟨_, rfl⟩
  have hb0 : Below w.heap.size w w0 := by rw [← hw0]; exact belowNew' _ _
  have hbx := heap_alloc_new w (.cells #[.int .i64 x.what, .int .i64 x.arg, .int .i64 x.val.type, .int .i64 x.val.n, .string x.val.s] 39)
  rw [hw0] at hbx
  have HB0 := Lib.hid hb0
  have HBX := Lib.hid hbx
  have HLT := Lib.hid (show w.heap.size < w0.heap.size by rw [← hw0]; simp)
  have HW := Lib.hid hw0
  obtain ⟨c0, c1, c2, c3, c4⟩ := box5 hbx
  have hfa := hx.2.1
  have hia := itoa_len hfa
  have e63a : -9223372036854775808 ≤ x.arg := by unfold fits lo63 hi63 at hfa; omega
  have e63b : x.arg ≤ 9223372036854775807 := by unfold fits lo63 hi63 at hfa; omega

  have TD := Lib.hid (digits_any x.arg e63a e63b w0)
  have TP := Lib.hid (rop_word x.arg w0)
  generalize Lib.itoa x.arg = D at TD hia
  by_cases hc : opErr x.arg = 0
  · have hol := opNm_len x.arg
    have E := Lib.hid (show wordText x = [100, 111, 32] ++ (opNm x.arg).data.toList by unfold wordText; rw [if_neg (by rw [hw]; decide), if_neg (by rw [hw]; decide), if_pos hw, if_pos hc])
    have BK := Lib.hid (bytes_back (opNm x.arg))
    rw [E.out]
    rw [decide_eq_true hc] at TP
    have hsz : (opNm x.arg).size ≤ 3 := hol
    generalize opNm x.arg = NM at TP hol hsz BK ⊢
    have HAP := Lib.hid (show (⟨#[100, 111, 32]⟩ : ByteArray) ++ NM = ⟨([100, 111, 32] ++ NM.data.toList).toArray⟩ by
      have h := bytes_app [100, 111, 32] NM.data.toList
      rw [BK.out] at h
      exact h)
    clear hw0 hb0 hbx hw hx hfa E hc 
    go_enter Tryd.func25, Tryd.ntmps25
    go_wp2_with (first | rw [HW.out])
    refine (TD.out).mono ?_
    rintro e w' ⟨rfl, rfl⟩
    go_wp2_with fail
    refine (TP.out).mono ?_
    rintro e w1 ⟨rfl, hb1⟩
    have HB1 := Lib.hid (below_step HB0.out hb1)
    clear hb1 c0 c1 c2 c3 c4
    go_wp2_with fail
    go_ret
    exact ⟨congrArg Ending.returned (congrArg Value.string HAP.out), HB1.out⟩
  · have E := Lib.hid (show wordText x = [63] by unfold wordText; rw [if_neg (by rw [hw]; decide), if_neg (by rw [hw]; decide), if_pos hw, if_neg hc])
    rw [E.out]
    have hol := opNm_len x.arg
    have hsz : (opNm x.arg).size ≤ 3 := hol
    rw [decide_eq_false hc] at TP
    clear hw0 hb0 hbx hw hx hfa E hc 
    go_enter Tryd.func25, Tryd.ntmps25
    go_wp2_with (first | rw [HW.out])
    refine (TD.out).mono ?_
    rintro e w' ⟨rfl, rfl⟩
    go_wp2_with fail
    refine (TP.out).mono ?_
    rintro e w1 ⟨rfl, hb1⟩
    have HB1 := Lib.hid (below_step HB0.out hb1)
    clear hb1 c0 c1 c2 c3 c4
    go_wp2_with fail
    go_ret
    exact ⟨rfl, HB1.out⟩
set_option maxHeartbeats 2000000 in
set_option maxRecDepth 100000 in
theorem cword3 (hT : TextT w) (hO : OpsT w) (hw : x.what = 3) : Calls Tryd.prog 62 #[.agg #[.int .i64 x.what, .int .i64 x.arg, .int .i64 x.val.type, .int .i64 x.val.n, .string x.val.s]] w fun e w' => e = .returned (.string ⟨(wordText x).toArray⟩) ∧ Below w.heap.size w w' := by
  have q1 : (x.what == 1) = false := beq_eq_false_iff_ne.2 (by rw [hw]; decide)
  have q2 : (x.what == 2) = false := beq_eq_false_iff_ne.2 (by rw [hw]; decide)
  have q3 : (x.what == 3) = true := beq_iff_eq.2 hw
  have q4 : (x.what == 4) = false := beq_eq_false_iff_ne.2 (by rw [hw]; decide)
  have q5 : (x.what == 5) = false := beq_eq_false_iff_ne.2 (by rw [hw]; decide)
  have q6 : (x.what == 6) = false := beq_eq_false_iff_ne.2 (by rw [hw]; decide)
  have q7 : (x.what == 7) = false := beq_eq_false_iff_ne.2 (by rw [hw]; decide)
  obtain ⟨w0, hw0⟩ : ∃ w0, w.alloc (.cells #[.int .i64 x.what, .int .i64 x.arg, .int .i64 x.val.type, .int .i64 x.val.n, .string x.val.s] 39) = w0 := ⟨_, rfl⟩
  have hb0 : Below w.heap.size w w0 := by rw [← hw0]; exact belowNew' _ _
  have hbx := heap_alloc_new w (.cells #[.int .i64 x.what, .int .i64 x.arg, .int .i64 x.val.type, .int .i64 x.val.n, .string x.val.s] 39)
  rw [hw0] at hbx
  have HB0 := Lib.hid hb0
  have HBX := Lib.hid hbx
  have HLT := Lib.hid (show w.heap.size < w0.heap.size by rw [← hw0]; simp)
  have HW := Lib.hid hw0
  obtain ⟨c0, c1, c2, c3, c4⟩ := box5 hbx
  have hfa := hx.2.1
  have hia := itoa_len hfa
  have e63a : -9223372036854775808 ≤ x.arg := by unfold fits lo63 hi63 at hfa; omega
  have e63b : x.arg ≤ 9223372036854775807 := by unfold fits lo63 hi63 at hfa; omega

  have HT0 := Lib.hid (hT.keep hb0)
  have HO0 := Lib.hid (hO.keep hb0)
  have TP := Lib.hid (op_any x.arg w0 HO0.out)
  by_cases hc : opErr x.arg = 0
  · have hol := opNm_len x.arg
    have E := Lib.hid (show wordText x = [100, 111, 32] ++ (opNm x.arg).data.toList by unfold wordText; rw [if_neg (by rw [hw]; decide), if_neg (by rw [hw]; decide), if_pos hw, if_pos hc])
    have BK := Lib.hid (bytes_back (opNm x.arg))
    rw [E.out]
    rw [hc, errV_zero] at TP
    have hsz : (opNm x.arg).size ≤ 3 := hol
    generalize opNm x.arg = NM at TP hol hsz BK ⊢
    have HAP := Lib.hid (show (⟨#[100, 111, 32]⟩ : ByteArray) ++ NM = ⟨([100, 111, 32] ++ NM.data.toList).toArray⟩ by
      have h := bytes_app [100, 111, 32] NM.data.toList
      rw [BK.out] at h
      exact h)
    clear hw0 hb0 hbx hw hx hfa E hc hT hO
    go_enter Tryd.func62, Tryd.ntmps62
    go_wp2_with (first | rw [HW.out])
    refine (TP.out).mono ?_
    rintro e w1 ⟨rfl, hb1⟩
    have HB1 := Lib.hid (below_step HB0.out hb1)
    clear hb1 c0 c1 c2 c3 c4
    go_wp2_with fail
    go_ret
    exact ⟨congrArg Ending.returned (congrArg Value.string HAP.out), HB1.out⟩
  · have E := Lib.hid (show wordText x = [63] by unfold wordText; rw [if_neg (by rw [hw]; decide), if_neg (by rw [hw]; decide), if_pos hw, if_neg hc])
    rw [E.out]
    have hol := opNm_len x.arg
    have hsz : (opNm x.arg).size ≤ 3 := hol
    rw [errV_ne hc] at TP
    clear hw0 hb0 hbx hw hx hfa E hc hT hO
    go_enter Tryd.func62, Tryd.ntmps62
    go_wp2_with (first | rw [HW.out])
    refine (TP.out).mono ?_
    rintro e w1 ⟨rfl, hb1⟩
    have HB1 := Lib.hid (below_step HB0.out hb1)
    clear hb1 c0 c1 c2 c3 c4
    go_wp2_with fail
    go_ret
    exact ⟨rfl, HB1.out⟩
end
theorem rword_any (x : Ins) (hx : x.wf) (w : World) : Calls Tryd.prog 25 #[.agg #[.int .i64 x.what, .int .i64 x.arg, .int .i64 x.val.type, .int .i64 x.val.n, .string x.val.s]] w fun e w' => e = .returned (.string ⟨(wordText x).toArray⟩) ∧ Below w.heap.size w w' := by
  by_cases h1 : x.what = 1
  · exact rword1 x hx w h1
  by_cases h2 : x.what = 2
  · exact rword2 x hx w h2
  by_cases h3 : x.what = 3
  · exact rword3 x hx w h3
  by_cases h4 : x.what = 4
  · exact rword4 x hx w h4
  by_cases h5 : x.what = 5
  · exact rword5 x hx w h5
  by_cases h6 : x.what = 6
  · exact rword6 x hx w h6
  by_cases h7 : x.what = 7
  · exact rword7 x hx w h7
  exact rword0 x hx w h1 h2 h3 h4 h5 h6 h7
theorem cword_any (x : Ins) (hx : x.wf) (w : World) (hT : TextT w) (hO : OpsT w) : Calls Tryd.prog 62 #[.agg #[.int .i64 x.what, .int .i64 x.arg, .int .i64 x.val.type, .int .i64 x.val.n, .string x.val.s]] w fun e w' => e = .returned (.string ⟨(wordText x).toArray⟩) ∧ Below w.heap.size w w' := by
  by_cases h1 : x.what = 1
  · exact cword1 x hx w hT hO h1
  by_cases h2 : x.what = 2
  · exact cword2 x hx w hT hO h2
  by_cases h3 : x.what = 3
  · exact cword3 x hx w hT hO h3
  by_cases h4 : x.what = 4
  · exact cword4 x hx w hT hO h4
  by_cases h5 : x.what = 5
  · exact cword5 x hx w hT hO h5
  by_cases h6 : x.what = 6
  · exact cword6 x hx w hT hO h6
  by_cases h7 : x.what = 7
  · exact cword7 x hx w hT hO h7
  exact cword0 x hx w hT hO h1 h2 h3 h4 h5 h6 h7
end Go.Proofs.YthmbafkedgahaaaDoor
