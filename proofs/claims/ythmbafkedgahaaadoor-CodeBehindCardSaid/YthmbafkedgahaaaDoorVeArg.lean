/- (*checker).arg, walked. -/
import Derived.Test.YthmbafkedgahaaaDoorVeCk
import Derived.Test.YthmbafkedgahaaaDoorVeOp
namespace Go.Proofs.YthmbafkedgahaaaDoor
open Go.ChangeShapes Go.WideShapes Go.ChangeAt Go.RowKit

set_option maxHeartbeats 2000000 in
set_option maxRecDepth 100000 in
theorem arg_1 (B p q : Nat) (C : Option Addr) (n cc : Nat) (K : Option Addr) (nk ck : Nat) (st : Sts) (most i : Nat) (code : List Ins) (x : Ins) (w : World) (h : CkAt w B p q C n cc K nk ck st most) (hC : SeesCode w C n cc code) (hx : code[i]? = some x) (_hn : n ≤ 100000) (_hnk : nk ≤ maxLen) (hO : OpsT w) (h1 : x.what = 1) :
    Calls Tryd.prog 107 #[.pointer (some ⟨p, 0, none⟩), .int .i64 i] w fun e w' => e = .returned (errV (argErr n i nk x)) ∧ Below w.heap.size w w' := by
  have hi : i < n := by rw [← hC.1]; exact (List.getElem?_eq_some_iff.1 hx).1
  obtain ⟨g, o, y, rfl, hg, hy, c0, c1, c2, c3, c4⟩ := hC.at_ hi
  obtain rfl : x = y := by rw [hx] at hy; injection hy
  obtain ⟨k0, k1, -, -⟩ := box4 h.box
  have hp := box_lt h.box
  have hcc := hC.2.2.1
  have hcm := hC.2.2.2.1
  unfold maxLen at hcm _hnk
  obtain ⟨w1, hw1⟩ : ∃ w1, w.alloc (.cells #[.int .i64 x.what, .int .i64 x.arg, .int .i64 x.val.type, .int .i64 x.val.n, .string x.val.s] 39) = w1 := ⟨_, rfl⟩
  have hb1 : Below w.heap.size w w1 := by rw [← hw1]; exact (Below.refl _ _).alloc (Nat.le_refl _) _
  have hx0 := heap_alloc_new w (.cells #[.int .i64 x.what, .int .i64 x.arg, .int .i64 x.val.type, .int .i64 x.val.n, .string x.val.s] 39)
  rw [hw1] at hx0
  obtain ⟨x0, x1, x2, x3, x4⟩ := box5 hx0
  have k10 := (hb1.cell (p := ⟨p, 0, none⟩) hp).trans k0
  have k11 := (hb1.cell (p := ⟨p, 1, none⟩) hp).trans k1
  have HW1 := Lib.hid hw1
  have HB1 := Lib.hid hb1
  have TO := Lib.hid (fun w' hb => op_any x.arg w' (hO.keep hb))
  have TV := Lib.hid (fun w' => vcheck_any x.val w')
  unfold valV at TV
  have e1 : (x.what == 1) = true := beq_iff_eq.2 h1
  have E := Lib.hid (show argErr n i nk x = vcheck x.val by unfold argErr; rw [if_pos h1])
  clear h1
  clear h hC hx hy hO hw1 hb1 hx0
  go_enter Tryd.func107, Tryd.ntmps107
  go_wp2_with (first | rw [HW1.out])
  refine (TV.out w1).mono ?_
  rintro e w2 ⟨rfl, hb⟩
  have HB2 := Lib.hid (below_step HB1.out hb)
  clear hb
  rw [← E.out]
  go_wp2_with fail
  go_ret
  exact ⟨rfl, HB2.out⟩
set_option maxHeartbeats 2000000 in
set_option maxRecDepth 100000 in
theorem arg_2 (B p q : Nat) (C : Option Addr) (n cc : Nat) (K : Option Addr) (nk ck : Nat) (st : Sts) (most i : Nat) (code : List Ins) (x : Ins) (w : World) (h : CkAt w B p q C n cc K nk ck st most) (hC : SeesCode w C n cc code) (hx : code[i]? = some x) (_hn : n ≤ 100000) (_hnk : nk ≤ maxLen) (hO : OpsT w) (h2 : x.what = 2) :
    Calls Tryd.prog 107 #[.pointer (some ⟨p, 0, none⟩), .int .i64 i] w fun e w' => e = .returned (errV (argErr n i nk x)) ∧ Below w.heap.size w w' := by
  have hi : i < n := by rw [← hC.1]; exact (List.getElem?_eq_some_iff.1 hx).1
  obtain ⟨g, o, y, rfl, hg, hy, c0, c1, c2, c3, c4⟩ := hC.at_ hi
  obtain rfl : x = y := by rw [hx] at hy; injection hy
  obtain ⟨k0, k1, -, -⟩ := box4 h.box
  have hp := box_lt h.box
  have hcc := hC.2.2.1
  have hcm := hC.2.2.2.1
  unfold maxLen at hcm _hnk
  obtain ⟨w1, hw1⟩ : ∃ w1, w.alloc (.cells #[.int .i64 x.what, .int .i64 x.arg, .int .i64 x.val.type, .int .i64 x.val.n, .string x.val.s] 39) = w1 := ⟨_, rfl⟩
  have hb1 : Below w.heap.size w w1 := by rw [← hw1]; exact (Below.refl _ _).alloc (Nat.le_refl _) _
  have hx0 := heap_alloc_new w (.cells #[.int .i64 x.what, .int .i64 x.arg, .int .i64 x.val.type, .int .i64 x.val.n, .string x.val.s] 39)
  rw [hw1] at hx0
  obtain ⟨x0, x1, x2, x3, x4⟩ := box5 hx0
  have k10 := (hb1.cell (p := ⟨p, 0, none⟩) hp).trans k0
  have k11 := (hb1.cell (p := ⟨p, 1, none⟩) hp).trans k1
  have HW1 := Lib.hid hw1
  have HB1 := Lib.hid hb1
  have TO := Lib.hid (fun w' hb => op_any x.arg w' (hO.keep hb))
  have TV := Lib.hid (fun w' => vcheck_any x.val w')
  unfold valV at TV
  have h1 : x.what ≠ 1 := by omega
  have e1 : (x.what == 1) = false := beq_eq_false_iff_ne.2 h1
  have e2 : (x.what == 2) = true := beq_iff_eq.2 h2
  have E0 := Lib.hid (show argErr n i nk x = if 0 ≤ x.arg ∧ x.arg < nk then 0 else 1 by unfold argErr; rw [if_neg h1, if_pos h2])
  clear h1 h2
  by_cases ha : 0 ≤ x.arg
  · have d1 : decide (0 ≤ x.arg) = true := decide_eq_true ha
    by_cases hb : x.arg < nk
    · have d2 : decide (x.arg < nk) = true := decide_eq_true hb
      have E := Lib.hid (E0.out.trans (if_pos ⟨ha, hb⟩))
      clear E0 ha hb
      clear h hC hx hy hO hw1 hb1 hx0
      go_enter Tryd.func107, Tryd.ntmps107
      go_wp2_with (first | rw [HW1.out])
      go_quiet (fail)
      go_wp2_with fail
      go_ret
      exact ⟨by rw [E.out]; rfl, below_drewN HB1.out _⟩
    · have d2 : decide (x.arg < nk) = false := decide_eq_false hb
      have E := Lib.hid (E0.out.trans (if_neg (fun h => hb h.2)))
      clear E0 ha hb
      clear h hC hx hy hO hw1 hb1 hx0
      go_enter Tryd.func107, Tryd.ntmps107
      go_wp2_with (first | rw [HW1.out])
      go_quiet (fail)
      go_wp2_with fail
      go_ret
      exact ⟨by rw [E.out]; rfl, below_drewN HB1.out _⟩
  · have d1 : decide (0 ≤ x.arg) = false := decide_eq_false ha
    have E := Lib.hid (E0.out.trans (if_neg (fun h => ha h.1)))
    clear E0 ha
    clear h hC hx hy hO hw1 hb1 hx0
    go_enter Tryd.func107, Tryd.ntmps107
    go_wp2_with (first | rw [HW1.out])
    go_quiet (fail)
    go_wp2_with fail
    go_ret
    exact ⟨by rw [E.out]; rfl, below_drewN HB1.out _⟩
set_option maxHeartbeats 2000000 in
set_option maxRecDepth 100000 in
theorem arg_3 (B p q : Nat) (C : Option Addr) (n cc : Nat) (K : Option Addr) (nk ck : Nat) (st : Sts) (most i : Nat) (code : List Ins) (x : Ins) (w : World) (h : CkAt w B p q C n cc K nk ck st most) (hC : SeesCode w C n cc code) (hx : code[i]? = some x) (_hn : n ≤ 100000) (_hnk : nk ≤ maxLen) (hO : OpsT w) (h3 : x.what = 3) :
    Calls Tryd.prog 107 #[.pointer (some ⟨p, 0, none⟩), .int .i64 i] w fun e w' => e = .returned (errV (argErr n i nk x)) ∧ Below w.heap.size w w' := by
  have hi : i < n := by rw [← hC.1]; exact (List.getElem?_eq_some_iff.1 hx).1
  obtain ⟨g, o, y, rfl, hg, hy, c0, c1, c2, c3, c4⟩ := hC.at_ hi
  obtain rfl : x = y := by rw [hx] at hy; injection hy
  obtain ⟨k0, k1, -, -⟩ := box4 h.box
  have hp := box_lt h.box
  have hcc := hC.2.2.1
  have hcm := hC.2.2.2.1
  unfold maxLen at hcm _hnk
  obtain ⟨w1, hw1⟩ : ∃ w1, w.alloc (.cells #[.int .i64 x.what, .int .i64 x.arg, .int .i64 x.val.type, .int .i64 x.val.n, .string x.val.s] 39) = w1 := ⟨_, rfl⟩
  have hb1 : Below w.heap.size w w1 := by rw [← hw1]; exact (Below.refl _ _).alloc (Nat.le_refl _) _
  have hx0 := heap_alloc_new w (.cells #[.int .i64 x.what, .int .i64 x.arg, .int .i64 x.val.type, .int .i64 x.val.n, .string x.val.s] 39)
  rw [hw1] at hx0
  obtain ⟨x0, x1, x2, x3, x4⟩ := box5 hx0
  have k10 := (hb1.cell (p := ⟨p, 0, none⟩) hp).trans k0
  have k11 := (hb1.cell (p := ⟨p, 1, none⟩) hp).trans k1
  have HW1 := Lib.hid hw1
  have HB1 := Lib.hid hb1
  have TO := Lib.hid (fun w' hb => op_any x.arg w' (hO.keep hb))
  have TV := Lib.hid (fun w' => vcheck_any x.val w')
  unfold valV at TV
  have h1 : x.what ≠ 1 := by omega
  have h2 : x.what ≠ 2 := by omega
  have e1 : (x.what == 1) = false := beq_eq_false_iff_ne.2 h1
  have e2 : (x.what == 2) = false := beq_eq_false_iff_ne.2 h2
  have e3 : (x.what == 3) = true := beq_iff_eq.2 h3
  have E := Lib.hid (show argErr n i nk x = opErr x.arg by unfold argErr; rw [if_neg h1, if_neg h2, if_pos h3])
  clear h1 h2 h3
  clear h hC hx hy hO hw1 hb1 hx0
  go_enter Tryd.func107, Tryd.ntmps107
  go_wp2_with (first | rw [HW1.out])
  refine (TO.out w1 HB1.out).mono ?_
  rintro e w2 ⟨rfl, hb⟩
  have HB2 := Lib.hid (below_step HB1.out hb)
  clear hb
  rw [← E.out]
  go_wp2_with fail
  go_ret
  exact ⟨rfl, HB2.out⟩
set_option maxHeartbeats 2000000 in
set_option maxRecDepth 100000 in
theorem arg_4 (B p q : Nat) (C : Option Addr) (n cc : Nat) (K : Option Addr) (nk ck : Nat) (st : Sts) (most i : Nat) (code : List Ins) (x : Ins) (w : World) (h : CkAt w B p q C n cc K nk ck st most) (hC : SeesCode w C n cc code) (hx : code[i]? = some x) (_hn : n ≤ 100000) (_hnk : nk ≤ maxLen) (hO : OpsT w) (h4 : x.what = 4) :
    Calls Tryd.prog 107 #[.pointer (some ⟨p, 0, none⟩), .int .i64 i] w fun e w' => e = .returned (errV (argErr n i nk x)) ∧ Below w.heap.size w w' := by
  have hi : i < n := by rw [← hC.1]; exact (List.getElem?_eq_some_iff.1 hx).1
  obtain ⟨g, o, y, rfl, hg, hy, c0, c1, c2, c3, c4⟩ := hC.at_ hi
  obtain rfl : x = y := by rw [hx] at hy; injection hy
  obtain ⟨k0, k1, -, -⟩ := box4 h.box
  have hp := box_lt h.box
  have hcc := hC.2.2.1
  have hcm := hC.2.2.2.1
  unfold maxLen at hcm _hnk
  obtain ⟨w1, hw1⟩ : ∃ w1, w.alloc (.cells #[.int .i64 x.what, .int .i64 x.arg, .int .i64 x.val.type, .int .i64 x.val.n, .string x.val.s] 39) = w1 := ⟨_, rfl⟩
  have hb1 : Below w.heap.size w w1 := by rw [← hw1]; exact (Below.refl _ _).alloc (Nat.le_refl _) _
  have hx0 := heap_alloc_new w (.cells #[.int .i64 x.what, .int .i64 x.arg, .int .i64 x.val.type, .int .i64 x.val.n, .string x.val.s] 39)
  rw [hw1] at hx0
  obtain ⟨x0, x1, x2, x3, x4⟩ := box5 hx0
  have k10 := (hb1.cell (p := ⟨p, 0, none⟩) hp).trans k0
  have k11 := (hb1.cell (p := ⟨p, 1, none⟩) hp).trans k1
  have HW1 := Lib.hid hw1
  have HB1 := Lib.hid hb1
  have TO := Lib.hid (fun w' hb => op_any x.arg w' (hO.keep hb))
  have TV := Lib.hid (fun w' => vcheck_any x.val w')
  unfold valV at TV
  have h1 : x.what ≠ 1 := by omega
  have h2 : x.what ≠ 2 := by omega
  have h3 : x.what ≠ 3 := by omega
  have e1 : (x.what == 1) = false := beq_eq_false_iff_ne.2 h1
  have e2 : (x.what == 2) = false := beq_eq_false_iff_ne.2 h2
  have e3 : (x.what == 3) = false := beq_eq_false_iff_ne.2 h3
  have e4 : (x.what == 4) = true := beq_iff_eq.2 h4
  have E0 := Lib.hid (show argErr n i nk x = if 0 ≤ x.arg ∧ x.arg < (n : Int) - i then 0 else 1 by unfold argErr; rw [if_neg h1, if_neg h2, if_neg h3, if_pos (by omega)])
  clear h1 h2 h3 h4
  by_cases ha : 0 ≤ x.arg
  · have d1 : decide (0 ≤ x.arg) = true := decide_eq_true ha
    by_cases hb : x.arg < (n : Int) - i
    · have d2 : decide (x.arg < (n : Int) - i) = true := decide_eq_true hb
      have E := Lib.hid (E0.out.trans (if_pos ⟨ha, hb⟩))
      clear E0 ha hb
      clear h hC hx hy hO hw1 hb1 hx0
      go_enter Tryd.func107, Tryd.ntmps107
      go_wp2_with (first | rw [HW1.out])
      go_quiet (fail)
      go_wp2_with fail
      go_ret
      exact ⟨by rw [E.out]; rfl, below_drewN HB1.out _⟩
    · have d2 : decide (x.arg < (n : Int) - i) = false := decide_eq_false hb
      have E := Lib.hid (E0.out.trans (if_neg (fun h => hb h.2)))
      clear E0 ha hb
      clear h hC hx hy hO hw1 hb1 hx0
      go_enter Tryd.func107, Tryd.ntmps107
      go_wp2_with (first | rw [HW1.out])
      go_quiet (fail)
      go_wp2_with fail
      go_ret
      exact ⟨by rw [E.out]; rfl, below_drewN HB1.out _⟩
  · have d1 : decide (0 ≤ x.arg) = false := decide_eq_false ha
    have E := Lib.hid (E0.out.trans (if_neg (fun h => ha h.1)))
    clear E0 ha
    clear h hC hx hy hO hw1 hb1 hx0
    go_enter Tryd.func107, Tryd.ntmps107
    go_wp2_with (first | rw [HW1.out])
    go_quiet (fail)
    go_wp2_with fail
    go_ret
    exact ⟨by rw [E.out]; rfl, below_drewN HB1.out _⟩
set_option maxHeartbeats 2000000 in
set_option maxRecDepth 100000 in
theorem arg_5 (B p q : Nat) (C : Option Addr) (n cc : Nat) (K : Option Addr) (nk ck : Nat) (st : Sts) (most i : Nat) (code : List Ins) (x : Ins) (w : World) (h : CkAt w B p q C n cc K nk ck st most) (hC : SeesCode w C n cc code) (hx : code[i]? = some x) (_hn : n ≤ 100000) (_hnk : nk ≤ maxLen) (hO : OpsT w) (h5 : x.what = 5) :
    Calls Tryd.prog 107 #[.pointer (some ⟨p, 0, none⟩), .int .i64 i] w fun e w' => e = .returned (errV (argErr n i nk x)) ∧ Below w.heap.size w w' := by
  have hi : i < n := by rw [← hC.1]; exact (List.getElem?_eq_some_iff.1 hx).1
  obtain ⟨g, o, y, rfl, hg, hy, c0, c1, c2, c3, c4⟩ := hC.at_ hi
  obtain rfl : x = y := by rw [hx] at hy; injection hy
  obtain ⟨k0, k1, -, -⟩ := box4 h.box
  have hp := box_lt h.box
  have hcc := hC.2.2.1
  have hcm := hC.2.2.2.1
  unfold maxLen at hcm _hnk
  obtain ⟨w1, hw1⟩ : ∃ w1, w.alloc (.cells #[.int .i64 x.what, .int .i64 x.arg, .int .i64 x.val.type, .int .i64 x.val.n, .string x.val.s] 39) = w1 := ⟨_, rfl⟩
  have hb1 : Below w.heap.size w w1 := by rw [← hw1]; exact (Below.refl _ _).alloc (Nat.le_refl _) _
  have hx0 := heap_alloc_new w (.cells #[.int .i64 x.what, .int .i64 x.arg, .int .i64 x.val.type, .int .i64 x.val.n, .string x.val.s] 39)
  rw [hw1] at hx0
  obtain ⟨x0, x1, x2, x3, x4⟩ := box5 hx0
  have k10 := (hb1.cell (p := ⟨p, 0, none⟩) hp).trans k0
  have k11 := (hb1.cell (p := ⟨p, 1, none⟩) hp).trans k1
  have HW1 := Lib.hid hw1
  have HB1 := Lib.hid hb1
  have TO := Lib.hid (fun w' hb => op_any x.arg w' (hO.keep hb))
  have TV := Lib.hid (fun w' => vcheck_any x.val w')
  unfold valV at TV
  have h1 : x.what ≠ 1 := by omega
  have h2 : x.what ≠ 2 := by omega
  have h3 : x.what ≠ 3 := by omega
  have h4 : x.what ≠ 4 := by omega
  have e1 : (x.what == 1) = false := beq_eq_false_iff_ne.2 h1
  have e2 : (x.what == 2) = false := beq_eq_false_iff_ne.2 h2
  have e3 : (x.what == 3) = false := beq_eq_false_iff_ne.2 h3
  have e4 : (x.what == 4) = false := beq_eq_false_iff_ne.2 h4
  have e5 : (x.what == 5) = true := beq_iff_eq.2 h5
  have E0 := Lib.hid (show argErr n i nk x = if 0 ≤ x.arg ∧ x.arg < (n : Int) - i then 0 else 1 by unfold argErr; rw [if_neg h1, if_neg h2, if_neg h3, if_pos (by omega)])
  clear h1 h2 h3 h4 h5
  by_cases ha : 0 ≤ x.arg
  · have d1 : decide (0 ≤ x.arg) = true := decide_eq_true ha
    by_cases hb : x.arg < (n : Int) - i
    · have d2 : decide (x.arg < (n : Int) - i) = true := decide_eq_true hb
      have E := Lib.hid (E0.out.trans (if_pos ⟨ha, hb⟩))
      clear E0 ha hb
      clear h hC hx hy hO hw1 hb1 hx0
      go_enter Tryd.func107, Tryd.ntmps107
      go_wp2_with (first | rw [HW1.out])
      go_quiet (fail)
      go_wp2_with fail
      go_ret
      exact ⟨by rw [E.out]; rfl, below_drewN HB1.out _⟩
    · have d2 : decide (x.arg < (n : Int) - i) = false := decide_eq_false hb
      have E := Lib.hid (E0.out.trans (if_neg (fun h => hb h.2)))
      clear E0 ha hb
      clear h hC hx hy hO hw1 hb1 hx0
      go_enter Tryd.func107, Tryd.ntmps107
      go_wp2_with (first | rw [HW1.out])
      go_quiet (fail)
      go_wp2_with fail
      go_ret
      exact ⟨by rw [E.out]; rfl, below_drewN HB1.out _⟩
  · have d1 : decide (0 ≤ x.arg) = false := decide_eq_false ha
    have E := Lib.hid (E0.out.trans (if_neg (fun h => ha h.1)))
    clear E0 ha
    clear h hC hx hy hO hw1 hb1 hx0
    go_enter Tryd.func107, Tryd.ntmps107
    go_wp2_with (first | rw [HW1.out])
    go_quiet (fail)
    go_wp2_with fail
    go_ret
    exact ⟨by rw [E.out]; rfl, below_drewN HB1.out _⟩
set_option maxHeartbeats 2000000 in
set_option maxRecDepth 100000 in
theorem arg_6 (B p q : Nat) (C : Option Addr) (n cc : Nat) (K : Option Addr) (nk ck : Nat) (st : Sts) (most i : Nat) (code : List Ins) (x : Ins) (w : World) (h : CkAt w B p q C n cc K nk ck st most) (hC : SeesCode w C n cc code) (hx : code[i]? = some x) (_hn : n ≤ 100000) (_hnk : nk ≤ maxLen) (hO : OpsT w) (h6 : x.what = 6) :
    Calls Tryd.prog 107 #[.pointer (some ⟨p, 0, none⟩), .int .i64 i] w fun e w' => e = .returned (errV (argErr n i nk x)) ∧ Below w.heap.size w w' := by
  have hi : i < n := by rw [← hC.1]; exact (List.getElem?_eq_some_iff.1 hx).1
  obtain ⟨g, o, y, rfl, hg, hy, c0, c1, c2, c3, c4⟩ := hC.at_ hi
  obtain rfl : x = y := by rw [hx] at hy; injection hy
  obtain ⟨k0, k1, -, -⟩ := box4 h.box
  have hp := box_lt h.box
  have hcc := hC.2.2.1
  have hcm := hC.2.2.2.1
  unfold maxLen at hcm _hnk
  obtain ⟨w1, hw1⟩ : ∃ w1, w.alloc (.cells #[.int .i64 x.what, .int .i64 x.arg, .int .i64 x.val.type, .int .i64 x.val.n, .string x.val.s] 39) = w1 := ⟨_, rfl⟩
  have hb1 : Below w.heap.size w w1 := by rw [← hw1]; exact (Below.refl _ _).alloc (Nat.le_refl _) _
  have hx0 := heap_alloc_new w (.cells #[.int .i64 x.what, .int .i64 x.arg, .int .i64 x.val.type, .int .i64 x.val.n, .string x.val.s] 39)
  rw [hw1] at hx0
  obtain ⟨x0, x1, x2, x3, x4⟩ := box5 hx0
  have k10 := (hb1.cell (p := ⟨p, 0, none⟩) hp).trans k0
  have k11 := (hb1.cell (p := ⟨p, 1, none⟩) hp).trans k1
  have HW1 := Lib.hid hw1
  have HB1 := Lib.hid hb1
  have TO := Lib.hid (fun w' hb => op_any x.arg w' (hO.keep hb))
  have TV := Lib.hid (fun w' => vcheck_any x.val w')
  unfold valV at TV
  have h1 : x.what ≠ 1 := by omega
  have h2 : x.what ≠ 2 := by omega
  have h3 : x.what ≠ 3 := by omega
  have h4 : x.what ≠ 4 := by omega
  have h5 : x.what ≠ 5 := by omega
  have e1 : (x.what == 1) = false := beq_eq_false_iff_ne.2 h1
  have e2 : (x.what == 2) = false := beq_eq_false_iff_ne.2 h2
  have e3 : (x.what == 3) = false := beq_eq_false_iff_ne.2 h3
  have e4 : (x.what == 4) = false := beq_eq_false_iff_ne.2 h4
  have e5 : (x.what == 5) = false := beq_eq_false_iff_ne.2 h5
  have e6 : (x.what == 6) = true := beq_iff_eq.2 h6
  have E := Lib.hid (show argErr n i nk x = 0 by unfold argErr; rw [if_neg h1, if_neg h2, if_neg h3, if_neg (by omega), if_pos (by omega)])
  clear h1 h2 h3 h4 h5 h6
  clear h hC hx hy hO hw1 hb1 hx0
  go_enter Tryd.func107, Tryd.ntmps107
  go_wp2_with (first | rw [HW1.out])
  go_ret
  exact ⟨by rw [E.out]; rfl, HB1.out⟩
set_option maxHeartbeats 2000000 in
set_option maxRecDepth 100000 in
theorem arg_7 (B p q : Nat) (C : Option Addr) (n cc : Nat) (K : Option Addr) (nk ck : Nat) (st : Sts) (most i : Nat) (code : List Ins) (x : Ins) (w : World) (h : CkAt w B p q C n cc K nk ck st most) (hC : SeesCode w C n cc code) (hx : code[i]? = some x) (_hn : n ≤ 100000) (_hnk : nk ≤ maxLen) (hO : OpsT w) (h7 : x.what = 7) :
    Calls Tryd.prog 107 #[.pointer (some ⟨p, 0, none⟩), .int .i64 i] w fun e w' => e = .returned (errV (argErr n i nk x)) ∧ Below w.heap.size w w' := by
  have hi : i < n := by rw [← hC.1]; exact (List.getElem?_eq_some_iff.1 hx).1
  obtain ⟨g, o, y, rfl, hg, hy, c0, c1, c2, c3, c4⟩ := hC.at_ hi
  obtain rfl : x = y := by rw [hx] at hy; injection hy
  obtain ⟨k0, k1, -, -⟩ := box4 h.box
  have hp := box_lt h.box
  have hcc := hC.2.2.1
  have hcm := hC.2.2.2.1
  unfold maxLen at hcm _hnk
  obtain ⟨w1, hw1⟩ : ∃ w1, w.alloc (.cells #[.int .i64 x.what, .int .i64 x.arg, .int .i64 x.val.type, .int .i64 x.val.n, .string x.val.s] 39) = w1 := ⟨_, rfl⟩
  have hb1 : Below w.heap.size w w1 := by rw [← hw1]; exact (Below.refl _ _).alloc (Nat.le_refl _) _
  have hx0 := heap_alloc_new w (.cells #[.int .i64 x.what, .int .i64 x.arg, .int .i64 x.val.type, .int .i64 x.val.n, .string x.val.s] 39)
  rw [hw1] at hx0
  obtain ⟨x0, x1, x2, x3, x4⟩ := box5 hx0
  have k10 := (hb1.cell (p := ⟨p, 0, none⟩) hp).trans k0
  have k11 := (hb1.cell (p := ⟨p, 1, none⟩) hp).trans k1
  have HW1 := Lib.hid hw1
  have HB1 := Lib.hid hb1
  have TO := Lib.hid (fun w' hb => op_any x.arg w' (hO.keep hb))
  have TV := Lib.hid (fun w' => vcheck_any x.val w')
  unfold valV at TV
  have h1 : x.what ≠ 1 := by omega
  have h2 : x.what ≠ 2 := by omega
  have h3 : x.what ≠ 3 := by omega
  have h4 : x.what ≠ 4 := by omega
  have h5 : x.what ≠ 5 := by omega
  have h6 : x.what ≠ 6 := by omega
  have e1 : (x.what == 1) = false := beq_eq_false_iff_ne.2 h1
  have e2 : (x.what == 2) = false := beq_eq_false_iff_ne.2 h2
  have e3 : (x.what == 3) = false := beq_eq_false_iff_ne.2 h3
  have e4 : (x.what == 4) = false := beq_eq_false_iff_ne.2 h4
  have e5 : (x.what == 5) = false := beq_eq_false_iff_ne.2 h5
  have e6 : (x.what == 6) = false := beq_eq_false_iff_ne.2 h6
  have e7 : (x.what == 7) = true := beq_iff_eq.2 h7
  have E := Lib.hid (show argErr n i nk x = 0 by unfold argErr; rw [if_neg h1, if_neg h2, if_neg h3, if_neg (by omega), if_pos (by omega)])
  clear h1 h2 h3 h4 h5 h6 h7
  clear h hC hx hy hO hw1 hb1 hx0
  go_enter Tryd.func107, Tryd.ntmps107
  go_wp2_with (first | rw [HW1.out])
  go_ret
  exact ⟨by rw [E.out]; rfl, HB1.out⟩
set_option maxHeartbeats 2000000 in
set_option maxRecDepth 100000 in
theorem arg_x (B p q : Nat) (C : Option Addr) (n cc : Nat) (K : Option Addr) (nk ck : Nat) (st : Sts) (most i : Nat) (code : List Ins) (x : Ins) (w : World) (h : CkAt w B p q C n cc K nk ck st most) (hC : SeesCode w C n cc code) (hx : code[i]? = some x) (_hn : n ≤ 100000) (_hnk : nk ≤ maxLen) (hO : OpsT w) (h1 : x.what ≠ 1) (h2 : x.what ≠ 2) (h3 : x.what ≠ 3) (h4 : x.what ≠ 4) (h5 : x.what ≠ 5) (h6 : x.what ≠ 6) (h7 : x.what ≠ 7) :
    Calls Tryd.prog 107 #[.pointer (some ⟨p, 0, none⟩), .int .i64 i] w fun e w' => e = .returned (errV (argErr n i nk x)) ∧ Below w.heap.size w w' := by
  have hi : i < n := by rw [← hC.1]; exact (List.getElem?_eq_some_iff.1 hx).1
  obtain ⟨g, o, y, rfl, hg, hy, c0, c1, c2, c3, c4⟩ := hC.at_ hi
  obtain rfl : x = y := by rw [hx] at hy; injection hy
  obtain ⟨k0, k1, -, -⟩ := box4 h.box
  have hp := box_lt h.box
  have hcc := hC.2.2.1
  have hcm := hC.2.2.2.1
  unfold maxLen at hcm _hnk
  obtain ⟨w1, hw1⟩ : ∃ w1, w.alloc (.cells #[.int .i64 x.what, .int .i64 x.arg, .int .i64 x.val.type, .int .i64 x.val.n, .string x.val.s] 39) = w1 := ⟨_, rfl⟩
  have hb1 : Below w.heap.size w w1 := by rw [← hw1]; exact (Below.refl _ _).alloc (Nat.le_refl _) _
  have hx0 := heap_alloc_new w (.cells #[.int .i64 x.what, .int .i64 x.arg, .int .i64 x.val.type, .int .i64 x.val.n, .string x.val.s] 39)
  rw [hw1] at hx0
  obtain ⟨x0, x1, x2, x3, x4⟩ := box5 hx0
  have k10 := (hb1.cell (p := ⟨p, 0, none⟩) hp).trans k0
  have k11 := (hb1.cell (p := ⟨p, 1, none⟩) hp).trans k1
  have HW1 := Lib.hid hw1
  have HB1 := Lib.hid hb1
  have TO := Lib.hid (fun w' hb => op_any x.arg w' (hO.keep hb))
  have TV := Lib.hid (fun w' => vcheck_any x.val w')
  unfold valV at TV
  have e1 : (x.what == 1) = false := beq_eq_false_iff_ne.2 h1
  have e2 : (x.what == 2) = false := beq_eq_false_iff_ne.2 h2
  have e3 : (x.what == 3) = false := beq_eq_false_iff_ne.2 h3
  have e4 : (x.what == 4) = false := beq_eq_false_iff_ne.2 h4
  have e5 : (x.what == 5) = false := beq_eq_false_iff_ne.2 h5
  have e6 : (x.what == 6) = false := beq_eq_false_iff_ne.2 h6
  have e7 : (x.what == 7) = false := beq_eq_false_iff_ne.2 h7
  have E := Lib.hid (show argErr n i nk x = 1 by unfold argErr; rw [if_neg h1, if_neg h2, if_neg h3, if_neg (by omega), if_neg (by omega)])
  clear h1 h2 h3 h4 h5 h6 h7
  clear h hC hx hy hO hw1 hb1 hx0
  go_enter Tryd.func107, Tryd.ntmps107
  go_wp2_with (first | rw [HW1.out])
  go_ret
  exact ⟨by rw [E.out]; rfl, HB1.out⟩
theorem arg_any (B p q : Nat) (C : Option Addr) (n cc : Nat) (K : Option Addr) (nk ck : Nat) (st : Sts) (most i : Nat) (code : List Ins) (x : Ins) (w : World) (h : CkAt w B p q C n cc K nk ck st most) (hC : SeesCode w C n cc code) (hx : code[i]? = some x) (_hn : n ≤ 100000) (_hnk : nk ≤ maxLen) (hO : OpsT w) :
    Calls Tryd.prog 107 #[.pointer (some ⟨p, 0, none⟩), .int .i64 i] w fun e w' => e = .returned (errV (argErr n i nk x)) ∧ Below w.heap.size w w' := by
  by_cases h1 : x.what = 1
  · exact arg_1 B p q C n cc K nk ck st most i code x w h hC hx _hn _hnk hO h1
  by_cases h2 : x.what = 2
  · exact arg_2 B p q C n cc K nk ck st most i code x w h hC hx _hn _hnk hO h2
  by_cases h3 : x.what = 3
  · exact arg_3 B p q C n cc K nk ck st most i code x w h hC hx _hn _hnk hO h3
  by_cases h4 : x.what = 4
  · exact arg_4 B p q C n cc K nk ck st most i code x w h hC hx _hn _hnk hO h4
  by_cases h5 : x.what = 5
  · exact arg_5 B p q C n cc K nk ck st most i code x w h hC hx _hn _hnk hO h5
  by_cases h6 : x.what = 6
  · exact arg_6 B p q C n cc K nk ck st most i code x w h hC hx _hn _hnk hO h6
  by_cases h7 : x.what = 7
  · exact arg_7 B p q C n cc K nk ck st most i code x w h hC hx _hn _hnk hO h7
  exact arg_x B p q C n cc K nk ck st most i code x w h hC hx _hn _hnk hO h1 h2 h3 h4 h5 h6 h7
end Go.Proofs.YthmbafkedgahaaaDoor
