/- sluiceref1.parts, join, Reckon: walked. sluiceref1.Reckon at *, /, %, and at any operation: walked. -/
import Derived.Test.YtpbbkpfaphjdoaaGreatDoorFReckon
namespace Go.Proofs.YtpbbkpfaphjdoaaGreatDoor
open Go.ChangeShapes Go.WideShapes Go.ChangeAt Go.RowKit
def sgn (p : Bool) (x : Nat) : Int := if p then -(x : Int) else (x : Int)
theorem parts_of {a : Int} (h : fits a) : a = sgn (decide (a < 0)) a.natAbs ∧ a.natAbs ≤ 9223372036854775808 ∧ (decide (a < 0) = true → 0 < a.natAbs) ∧ (decide (a < 0) = false → a.natAbs ≤ 9223372036854775807) := by
 unfold fits lo63 hi63 at h
 unfold sgn
 by_cases h0 : a < 0
 ·rw [decide_eq_true h0, if_pos rfl]
  exact ⟨by omega, by omega, fun _ => by omega, fun h => absurd h (by decide)⟩
 ·rw [decide_eq_false h0, if_neg (by decide)]
  exact ⟨by omega, by omega, fun h => absurd h (by decide), fun _ => by omega⟩
set_option maxHeartbeats 1000000 in
theorem rparts_any (a : Int) (w : World) (h : fits a) : Calls Tryz.prog 98 #[.int .i64 a] w fun e w' => e = .returned (.tuple #[.bool (decide (a < 0)), .int .u64 a.natAbs]) ∧ w = w' := by
 unfold fits lo63 hi63 at h
 by_cases h0 : a < 0
 ·have d0 : decide (a < 0) = true := decide_eq_true h0
  obtain ⟨m, rfl⟩ : ∃ m : Nat, a = -((m : Int) + 1) := ⟨(-a - 1).toNat, by omega⟩
  have hm : m ≤ 9223372036854775807 := by omega
  have e1 : -((m : Int) + 1) + 1 = -(m : Int) := by omega
  have e2 : wrap64 (-((m : Int) + 1) + 1) = -(m : Int) := by unfold wrap64; omega
  have e3 : wrap64 (- -(m : Int)) = (m : Int) := by unfold wrap64; omega
  have e3' : wrap64 (m : Int) = (m : Int) := by unfold wrap64; omega
  have u1 : IntKind.u64.wrap (m : Int) = (m : Int) := by rw [IntKind.wrap_u64]; omega
  have u2 : IntKind.u64.wrap ((m : Int) + 1) = (m : Int) + 1 := by rw [IntKind.wrap_u64]; omega
  have HN := Lib.hid (show ((-((m : Int) + 1)).natAbs : Int) = (m : Int) + 1 by omega)
  clear h0 h
  go_enter Tryz.func98, Tryz.ntmps98
  go_wp2_with fail
  go_ret2
  rw [HN.out, d0]
  exact ⟨rfl, rfl⟩
 ·have d0 : decide (a < 0) = false := decide_eq_false h0
  obtain ⟨m, rfl⟩ : ∃ m : Nat, a = m := ⟨a.toNat, by omega⟩
  have hm : m ≤ 9223372036854775807 := by omega
  have u1 : IntKind.u64.wrap (m : Int) = (m : Int) := by rw [IntKind.wrap_u64]; omega
  clear h0 h
  go_enter Tryz.func98, Tryz.ntmps98
  go_wp2_with fail
  go_ret2
  rw [d0]
  exact ⟨rfl, rfl⟩
def JoinSays (p : Bool) (m : Nat) (w : World) (e : Ending) (w' : World) : Prop := e = .returned (.tuple #[.int .i64 (if fits (sgn p m) then sgn p m else 0), .bool (decide (fits (sgn p m)))]) ∧ w = w'
set_option maxHeartbeats 1000000 in
set_option maxRecDepth 100000 in
theorem rjoin_any (p : Bool) (m : Nat) (w : World) (hm : m < 18446744073709551616) : Calls Tryz.prog 99 #[.bool p, .int .u64 m] w (JoinSays p m w) := by
 cases p with
 | true =>
  have HS := Lib.hid (show sgn true m = -(m : Int) from rfl)
  by_cases h1 : m ≤ 9223372036854775808
  ·have d1 : decide (9223372036854775808 < (m : Int)) = false := decide_eq_false (by omega)
   have d1' : decide (9223372036854775808 < m) = false := decide_eq_false (by omega)
   have HF := Lib.hid (show fits (sgn true m) by rw [HS.out]; unfold fits lo63 hi63; omega)
   by_cases h0 : m = 0
   ·subst h0
    clear h1 hm
    go_enter Tryz.func99, Tryz.ntmps99
    go_wp2_with fail
    go_ret2
    exact ⟨rfl, rfl⟩
   ·obtain ⟨k, hk1⟩ : ∃ k, m = k + 1 := ⟨m - 1, by omega⟩
    have hk : k ≤ 9223372036854775807 := by omega
    have u1 : IntKind.u64.wrap ((m : Int) - 1) = (k : Int) := by rw [IntKind.wrap_u64]; omega
    have i1 : IntKind.i64.wrap (k : Int) = (k : Int) := IntWalk.i64_in _ (by omega)
    have e0 : ((m : Int) == 0) = false := by simp; omega
    have HK := Lib.hid (show -(m : Int) = -(k : Int) - 1 by omega)
    clear h0 h1 hm hk1
    go_enter Tryz.func99, Tryz.ntmps99
    go_wp2_with fail
    go_ret2
    unfold JoinSays
    rw [if_pos HF.out, decide_eq_true HF.out, HS.out, HK.out]
    exact ⟨rfl, rfl⟩
  ·have d1 : decide (9223372036854775808 < (m : Int)) = true := decide_eq_true (by omega)
   have d1' : decide (9223372036854775808 < m) = true := decide_eq_true (by omega)
   have HF := Lib.hid (show ¬ fits (sgn true m) by rw [HS.out]; unfold fits lo63 hi63; omega)
   clear h1 hm
   go_enter Tryz.func99, Tryz.ntmps99
   go_wp2_with fail
   go_ret2
   unfold JoinSays
   rw [if_neg HF.out, decide_eq_false HF.out]
   exact ⟨rfl, rfl⟩
 | false =>
  have HS := Lib.hid (show sgn false m = (m : Int) from rfl)
  by_cases h1 : m ≤ 9223372036854775807
  ·have d1 : decide (9223372036854775807 < (m : Int)) = false := decide_eq_false (by omega)
   have d1' : decide (9223372036854775807 < m) = false := decide_eq_false (by omega)
   have HF := Lib.hid (show fits (sgn false m) by rw [HS.out]; unfold fits lo63 hi63; omega)
   have i1 : IntKind.i64.wrap (m : Int) = (m : Int) := IntWalk.i64_in _ (by omega)
   have i2 : wrap64 (m : Int) = (m : Int) := by unfold wrap64; omega
   clear h1 hm
   go_enter Tryz.func99, Tryz.ntmps99
   go_wp2_with fail
   go_ret2
   unfold JoinSays
   rw [if_pos HF.out, decide_eq_true HF.out, HS.out]
   exact ⟨rfl, rfl⟩
  ·have d1 : decide (9223372036854775807 < (m : Int)) = true := decide_eq_true (by omega)
   have d1' : decide (9223372036854775807 < m) = true := decide_eq_true (by omega)
   have HF := Lib.hid (show ¬ fits (sgn false m) by rw [HS.out]; unfold fits lo63 hi63; omega)
   clear h1 hm
   go_enter Tryz.func99, Tryz.ntmps99
   go_wp2_with fail
   go_ret2
   unfold JoinSays
   rw [if_neg HF.out, decide_eq_false HF.out]
   exact ⟨rfl, rfl⟩
def RRecSays (l : List UInt8) (a b : Int) (w : World) (e : Ending) (w' : World) : Prop := e = .returned (.tuple #[.int .i64 (reckonVal l a b), .int .i64 (reckonErr l a b)]) ∧ w = w'
theorem RRecSays.ok {l : List UInt8} {a b n : Int} {w : World} (h : exact_ l a b = some n) (hf : fits n) (ho : isOp l = true) : RRecSays l a b w (.returned (.tuple #[.int .i64 n, .int .i64 0])) w := by
 unfold RRecSays reckonVal reckonErr; rw [h, if_pos ho]; simp [hf]
theorem RRecSays.over {l : List UInt8} {a b n : Int} {w : World} (h : exact_ l a b = some n) (hf : ¬ fits n) (ho : isOp l = true) : RRecSays l a b w (.returned (.tuple #[.int .i64 0, .int .i64 9])) w := by
 unfold RRecSays reckonVal reckonErr; rw [h, if_pos ho]; simp [hf]
theorem RRecSays.none {l : List UInt8} {a b : Int} {w : World} (h : exact_ l a b = none) (ho : isOp l = true) : RRecSays l a b w (.returned (.tuple #[.int .i64 0, .int .i64 9])) w := by
 unfold RRecSays reckonVal reckonErr; rw [h, if_pos ho]; exact ⟨rfl, rfl⟩
theorem RRecSays.bad {l : List UInt8} {a b : Int} {w : World} (ho : isOp l = false) : RRecSays l a b w (.returned (.tuple #[.int .i64 0, .int .i64 1])) w := by
 unfold RRecSays reckonVal reckonErr; rw [exact_no ho, if_neg (by rw [ho]; decide)]; exact ⟨rfl, rfl⟩
theorem sgn_add {p : Bool} {x y : Nat} : sgn p x + sgn p y = sgn p (x + y) := by unfold sgn; cases p <;> simp <;> omega
theorem sgn_sub1 {p q : Bool} {x y : Nat} (h : p ≠ q) (hy : y ≤ x) : sgn p x + sgn q y = sgn p (x - y) := by unfold sgn; cases p <;> cases q <;> simp at h ⊢ <;> omega
theorem sgn_sub2 {p q : Bool} {x y : Nat} (h : p ≠ q) (hy : x ≤ y) : sgn p x + sgn q y = sgn q (y - x) := by unfold sgn; cases p <;> cases q <;> simp at h ⊢ <;> omega
theorem sgn_not {q : Bool} {y : Nat} : sgn (!q) y = - sgn q y := by unfold sgn; cases q <;> simp
theorem sgn_fits {p : Bool} {m : Nat} (h : m ≤ 9223372036854775808) (h2 : p = false → m ≤ 9223372036854775807) : fits (sgn p m) := by
 unfold sgn fits lo63 hi63
 cases p with
 | true => simp; omega
 | false => have := h2 rfl; simp; omega
set_option maxHeartbeats 4000000 in
set_option maxRecDepth 100000 in
theorem rrec_add (op : ByteArray) (a b : Int) (w : World) (h : op.data.toList = [43]) (ha : fits a) (hb : fits b) :
  Calls Tryz.prog 37 #[.string op, .int .i64 a, .int .i64 b] w (RRecSays [43] a b w) := by
 obtain ⟨hxa, hxb, hxc, hxd⟩ := parts_of ha
 obtain ⟨hya, hyb, hyc, hyd⟩ := parts_of hb
 have TA := Lib.hid (rparts_any a w ha)
 have TB := Lib.hid (rparts_any b w hb)
 obtain ⟨p, hp⟩ : ∃ p, p = decide (a < 0) := ⟨_, rfl⟩
 obtain ⟨q, hq⟩ : ∃ q, q = decide (b < 0) := ⟨_, rfl⟩
 obtain ⟨x, hx⟩ : ∃ x, x = a.natAbs := ⟨_, rfl⟩
 obtain ⟨y, hy⟩ : ∃ y, y = b.natAbs := ⟨_, rfl⟩
 rw [← hp, ← hx] at TA hxa
 rw [← hq, ← hy] at TB hya
 rw [← hx] at hxb hxc hxd
 rw [← hy] at hyb hyc hyd
 rw [← hp] at hxc hxd
 rw [← hq] at hyc hyd
 have HA := Lib.hid hxa
 have HB := Lib.hid hya
 have HXC := Lib.hid hxc
 have HXD := Lib.hid hxd
 have HYC := Lib.hid hyc
 have HYD := Lib.hid hyd
 clear hp hq hx hy hxa hya hxc hxd hyc hyd ha hb
 have t0 := op_tests h [43]
 rw [show decide ([43] = ([43] : List UInt8)) = true by decide] at t0
 have t1 := op_tests h [45]
 rw [show decide ([43] = ([45] : List UInt8)) = false by decide] at t1
 have t2 := op_tests h [42]
 rw [show decide ([43] = ([42] : List UInt8)) = false by decide] at t2
 have t3 := op_tests h [47]
 rw [show decide ([43] = ([47] : List UInt8)) = false by decide] at t3
 have t4 := op_tests h [37]
 rw [show decide ([43] = ([37] : List UInt8)) = false by decide] at t4
 have HEX := Lib.hid (show exact_ [43] a b = some (sgn p x + sgn q y) by rw [← HA.out, ← HB.out]; rfl)
 clear h
 by_cases hpq : p = q
 ·obtain ⟨M, hM⟩ : ∃ M : Nat, M = (x + y) % 18446744073709551616 := ⟨_, rfl⟩
  have hM2 : M < 18446744073709551616 := by omega
  have u1 : IntKind.u64.wrap ((x : Int) + (y : Int)) = (M : Int) := by rw [IntKind.wrap_u64]; omega
  have TJ := Lib.hid (rjoin_any p M w hM2)
  have HEX2 := Lib.hid (HEX.out.trans (by rw [← hpq, sgn_add]))
  have e1 : (p == q) = true := by rw [hpq]; simp
  by_cases hlt : M < x
  ·have d1 : decide (M < x) = true := decide_eq_true hlt
   have d1' : decide ((M : Int) < (x : Int)) = true := decide_eq_true (by omega)
   have HF := Lib.hid (show ¬ fits (sgn p (x + y)) by unfold sgn fits lo63 hi63; cases p <;> simp <;> omega)
   have hMF : fits (sgn p M) := sgn_fits (by omega) (fun _ => by omega)
   unfold JoinSays at TJ
   rw [if_pos hMF, decide_eq_true hMF] at TJ
   clear hM hlt hpq hMF
   go_enter Tryz.func37, Tryz.ntmps37
   go_wp2_with fail
   refine (TA.out).mono ?_
   rintro e w1 ⟨rfl, rfl⟩
   go_wp2_with fail
   refine (TB.out).mono ?_
   rintro e w1 ⟨rfl, rfl⟩
   go_wp2_with fail
   refine (TJ.out).mono ?_
   rintro e w1 ⟨rfl, rfl⟩
   go_wp2_with fail
   go_ret2
   exact RRecSays.over HEX2.out HF.out rfl
  ·have d1 : decide (M < x) = false := decide_eq_false hlt
   have d1' : decide ((M : Int) < (x : Int)) = false := decide_eq_false (by omega)
   have hMe : M = x + y := by omega
   rw [← hMe] at HEX2
   clear hM hMe hlt hpq
   by_cases hf : fits (sgn p M)
   ·have HF := Lib.hid hf
    unfold JoinSays at TJ
    rw [if_pos hf, decide_eq_true hf] at TJ
    clear hf
    go_enter Tryz.func37, Tryz.ntmps37
    go_wp2_with fail
    refine (TA.out).mono ?_
    rintro e w1 ⟨rfl, rfl⟩
    go_wp2_with fail
    refine (TB.out).mono ?_
    rintro e w1 ⟨rfl, rfl⟩
    go_wp2_with fail
    refine (TJ.out).mono ?_
    rintro e w1 ⟨rfl, rfl⟩
    go_wp2_with fail
    go_ret2
    exact RRecSays.ok HEX2.out HF.out rfl
   ·have HF := Lib.hid hf
    unfold JoinSays at TJ
    rw [if_neg hf, decide_eq_false hf] at TJ
    clear hf
    go_enter Tryz.func37, Tryz.ntmps37
    go_wp2_with fail
    refine (TA.out).mono ?_
    rintro e w1 ⟨rfl, rfl⟩
    go_wp2_with fail
    refine (TB.out).mono ?_
    rintro e w1 ⟨rfl, rfl⟩
    go_wp2_with fail
    refine (TJ.out).mono ?_
    rintro e w1 ⟨rfl, rfl⟩
    go_wp2_with fail
    go_ret2
    exact RRecSays.over HEX2.out HF.out rfl
 ·have e1 : (p == q) = false := beq_eq_false_iff_ne.2 hpq
  by_cases hxy : y ≤ x
  ·have d1 : decide (y ≤ x) = true := decide_eq_true hxy
   have d1' : decide ((y : Int) ≤ (x : Int)) = true := decide_eq_true (by omega)
   obtain ⟨D, hD⟩ : ∃ D : Nat, D = x - y := ⟨_, rfl⟩
   have hD2 : D ≤ 9223372036854775808 := by omega
   have hDF : fits (sgn p D) := sgn_fits hD2 (fun hp => by have := HXD.out hp; omega)
   have u1 : IntKind.u64.wrap ((x : Int) - (y : Int)) = (D : Int) := by rw [IntKind.wrap_u64]; omega
   have TJ := Lib.hid (rjoin_any (p) D w (by omega))
   unfold JoinSays at TJ
   rw [if_pos hDF, decide_eq_true hDF] at TJ
   have HF := Lib.hid hDF
   have HEX2 := Lib.hid (HEX.out.trans (by rw [sgn_sub1 hpq hxy, ← hD]))
   clear hD hpq hDF
   go_enter Tryz.func37, Tryz.ntmps37
   go_wp2_with fail
   refine (TA.out).mono ?_
   rintro e w1 ⟨rfl, rfl⟩
   go_wp2_with fail
   refine (TB.out).mono ?_
   rintro e w1 ⟨rfl, rfl⟩
   go_wp2_with fail
   refine (TJ.out).mono ?_
   rintro e w1 ⟨rfl, rfl⟩
   go_wp2_with fail
   go_ret2
   exact RRecSays.ok HEX2.out HF.out rfl
  ·have d1 : decide (y ≤ x) = false := decide_eq_false hxy
   have d1' : decide ((y : Int) ≤ (x : Int)) = false := decide_eq_false (by omega)
   obtain ⟨D, hD⟩ : ∃ D : Nat, D = y - x := ⟨_, rfl⟩
   have hD2 : D ≤ 9223372036854775808 := by omega
   have hDF : fits (sgn (q) D) := sgn_fits hD2 (fun hq => by
    have hp : p = true := by
     rw [hq] at hpq
     simpa using hpq
    have := HXC.out hp
    omega)
   have u1 : IntKind.u64.wrap ((y : Int) - (x : Int)) = (D : Int) := by rw [IntKind.wrap_u64]; omega
   have TJ := Lib.hid (rjoin_any (q) D w (by omega))
   unfold JoinSays at TJ
   rw [if_pos hDF, decide_eq_true hDF] at TJ
   have HF := Lib.hid hDF
   have HEX2 := Lib.hid (HEX.out.trans (by rw [sgn_sub2 hpq (by omega), ← hD]))
   clear hD hpq hDF
   go_enter Tryz.func37, Tryz.ntmps37
   go_wp2_with fail
   refine (TA.out).mono ?_
   rintro e w1 ⟨rfl, rfl⟩
   go_wp2_with fail
   refine (TB.out).mono ?_
   rintro e w1 ⟨rfl, rfl⟩
   go_wp2_with fail
   refine (TJ.out).mono ?_
   rintro e w1 ⟨rfl, rfl⟩
   go_wp2_with fail
   go_ret2
   exact RRecSays.ok HEX2.out HF.out rfl
set_option maxHeartbeats 4000000 in
set_option maxRecDepth 100000 in
theorem rrec_sub (op : ByteArray) (a b : Int) (w : World) (h : op.data.toList = [45]) (ha : fits a) (hb : fits b) :
  Calls Tryz.prog 37 #[.string op, .int .i64 a, .int .i64 b] w (RRecSays [45] a b w) := by
 obtain ⟨hxa, hxb, hxc, hxd⟩ := parts_of ha
 obtain ⟨hya, hyb, hyc, hyd⟩ := parts_of hb
 have TA := Lib.hid (rparts_any a w ha)
 have TB := Lib.hid (rparts_any b w hb)
 obtain ⟨p, hp⟩ : ∃ p, p = decide (a < 0) := ⟨_, rfl⟩
 obtain ⟨q, hq⟩ : ∃ q, q = decide (b < 0) := ⟨_, rfl⟩
 obtain ⟨x, hx⟩ : ∃ x, x = a.natAbs := ⟨_, rfl⟩
 obtain ⟨y, hy⟩ : ∃ y, y = b.natAbs := ⟨_, rfl⟩
 rw [← hp, ← hx] at TA hxa
 rw [← hq, ← hy] at TB hya
 rw [← hx] at hxb hxc hxd
 rw [← hy] at hyb hyc hyd
 rw [← hp] at hxc hxd
 rw [← hq] at hyc hyd
 have HA := Lib.hid hxa
 have HB := Lib.hid hya
 have HXC := Lib.hid hxc
 have HXD := Lib.hid hxd
 have HYC := Lib.hid hyc
 have HYD := Lib.hid hyd
 clear hp hq hx hy hxa hya hxc hxd hyc hyd ha hb
 have t0 := op_tests h [43]
 rw [show decide ([45] = ([43] : List UInt8)) = false by decide] at t0
 have t1 := op_tests h [45]
 rw [show decide ([45] = ([45] : List UInt8)) = true by decide] at t1
 have t2 := op_tests h [42]
 rw [show decide ([45] = ([42] : List UInt8)) = false by decide] at t2
 have t3 := op_tests h [47]
 rw [show decide ([45] = ([47] : List UInt8)) = false by decide] at t3
 have t4 := op_tests h [37]
 rw [show decide ([45] = ([37] : List UInt8)) = false by decide] at t4
 by_cases hy0 : y = 0
 ·have d0 : decide (0 < y) = false := decide_eq_false (by omega)
  have d0' : decide (0 < (y : Int)) = false := decide_eq_false (by omega)
  have HEX := Lib.hid (show exact_ [45] a b = some (sgn p x + sgn q y) by rw [← HA.out, show sgn q y = 0 by rw [hy0]; unfold sgn; cases q <;> rfl, show b = 0 by rw [HB.out, hy0]; unfold sgn; cases q <;> rfl]; show some (a - 0) = some (a + 0); rw [Int.sub_zero, Int.add_zero])
  clear hy0 h
  by_cases hpq : p = q
  ·obtain ⟨M, hM⟩ : ∃ M : Nat, M = (x + y) % 18446744073709551616 := ⟨_, rfl⟩
   have hM2 : M < 18446744073709551616 := by omega
   have u1 : IntKind.u64.wrap ((x : Int) + (y : Int)) = (M : Int) := by rw [IntKind.wrap_u64]; omega
   have TJ := Lib.hid (rjoin_any p M w hM2)
   have HEX2 := Lib.hid (HEX.out.trans (by rw [← hpq, sgn_add]))
   have e1 : (p == q) = true := by rw [hpq]; simp
   by_cases hlt : M < x
   ·have d1 : decide (M < x) = true := decide_eq_true hlt
    have d1' : decide ((M : Int) < (x : Int)) = true := decide_eq_true (by omega)
    have HF := Lib.hid (show ¬ fits (sgn p (x + y)) by unfold sgn fits lo63 hi63; cases p <;> simp <;> omega)
    have hMF : fits (sgn p M) := sgn_fits (by omega) (fun _ => by omega)
    unfold JoinSays at TJ
    rw [if_pos hMF, decide_eq_true hMF] at TJ
    clear hM hlt hpq hMF
    go_enter Tryz.func37, Tryz.ntmps37
    go_wp2_with fail
    refine (TA.out).mono ?_
    rintro e w1 ⟨rfl, rfl⟩
    go_wp2_with fail
    refine (TB.out).mono ?_
    rintro e w1 ⟨rfl, rfl⟩
    go_wp2_with fail
    refine (TJ.out).mono ?_
    rintro e w1 ⟨rfl, rfl⟩
    go_wp2_with fail
    go_ret2
    exact RRecSays.over HEX2.out HF.out rfl
   ·have d1 : decide (M < x) = false := decide_eq_false hlt
    have d1' : decide ((M : Int) < (x : Int)) = false := decide_eq_false (by omega)
    have hMe : M = x + y := by omega
    rw [← hMe] at HEX2
    clear hM hMe hlt hpq
    by_cases hf : fits (sgn p M)
    ·have HF := Lib.hid hf
     unfold JoinSays at TJ
     rw [if_pos hf, decide_eq_true hf] at TJ
     clear hf
     go_enter Tryz.func37, Tryz.ntmps37
     go_wp2_with fail
     refine (TA.out).mono ?_
     rintro e w1 ⟨rfl, rfl⟩
     go_wp2_with fail
     refine (TB.out).mono ?_
     rintro e w1 ⟨rfl, rfl⟩
     go_wp2_with fail
     refine (TJ.out).mono ?_
     rintro e w1 ⟨rfl, rfl⟩
     go_wp2_with fail
     go_ret2
     exact RRecSays.ok HEX2.out HF.out rfl
    ·have HF := Lib.hid hf
     unfold JoinSays at TJ
     rw [if_neg hf, decide_eq_false hf] at TJ
     clear hf
     go_enter Tryz.func37, Tryz.ntmps37
     go_wp2_with fail
     refine (TA.out).mono ?_
     rintro e w1 ⟨rfl, rfl⟩
     go_wp2_with fail
     refine (TB.out).mono ?_
     rintro e w1 ⟨rfl, rfl⟩
     go_wp2_with fail
     refine (TJ.out).mono ?_
     rintro e w1 ⟨rfl, rfl⟩
     go_wp2_with fail
     go_ret2
     exact RRecSays.over HEX2.out HF.out rfl
  ·have e1 : (p == q) = false := beq_eq_false_iff_ne.2 hpq
   by_cases hxy : y ≤ x
   ·have d1 : decide (y ≤ x) = true := decide_eq_true hxy
    have d1' : decide ((y : Int) ≤ (x : Int)) = true := decide_eq_true (by omega)
    obtain ⟨D, hD⟩ : ∃ D : Nat, D = x - y := ⟨_, rfl⟩
    have hD2 : D ≤ 9223372036854775808 := by omega
    have hDF : fits (sgn p D) := sgn_fits hD2 (fun hp => by have := HXD.out hp; omega)
    have u1 : IntKind.u64.wrap ((x : Int) - (y : Int)) = (D : Int) := by rw [IntKind.wrap_u64]; omega
    have TJ := Lib.hid (rjoin_any (p) D w (by omega))
    unfold JoinSays at TJ
    rw [if_pos hDF, decide_eq_true hDF] at TJ
    have HF := Lib.hid hDF
    have HEX2 := Lib.hid (HEX.out.trans (by rw [sgn_sub1 hpq hxy, ← hD]))
    clear hD hpq hDF
    go_enter Tryz.func37, Tryz.ntmps37
    go_wp2_with fail
    refine (TA.out).mono ?_
    rintro e w1 ⟨rfl, rfl⟩
    go_wp2_with fail
    refine (TB.out).mono ?_
    rintro e w1 ⟨rfl, rfl⟩
    go_wp2_with fail
    refine (TJ.out).mono ?_
    rintro e w1 ⟨rfl, rfl⟩
    go_wp2_with fail
    go_ret2
    exact RRecSays.ok HEX2.out HF.out rfl
   ·have d1 : decide (y ≤ x) = false := decide_eq_false hxy
    have d1' : decide ((y : Int) ≤ (x : Int)) = false := decide_eq_false (by omega)
    obtain ⟨D, hD⟩ : ∃ D : Nat, D = y - x := ⟨_, rfl⟩
    have hD2 : D ≤ 9223372036854775808 := by omega
    have hDF : fits (sgn (q) D) := sgn_fits hD2 (fun hq => by
     have hp : p = true := by
      rw [hq] at hpq
      simpa using hpq
     have := HXC.out hp
     omega)
    have u1 : IntKind.u64.wrap ((y : Int) - (x : Int)) = (D : Int) := by rw [IntKind.wrap_u64]; omega
    have TJ := Lib.hid (rjoin_any (q) D w (by omega))
    unfold JoinSays at TJ
    rw [if_pos hDF, decide_eq_true hDF] at TJ
    have HF := Lib.hid hDF
    have HEX2 := Lib.hid (HEX.out.trans (by rw [sgn_sub2 hpq (by omega), ← hD]))
    clear hD hpq hDF
    go_enter Tryz.func37, Tryz.ntmps37
    go_wp2_with fail
    refine (TA.out).mono ?_
    rintro e w1 ⟨rfl, rfl⟩
    go_wp2_with fail
    refine (TB.out).mono ?_
    rintro e w1 ⟨rfl, rfl⟩
    go_wp2_with fail
    refine (TJ.out).mono ?_
    rintro e w1 ⟨rfl, rfl⟩
    go_wp2_with fail
    go_ret2
    exact RRecSays.ok HEX2.out HF.out rfl
 ·have d0 : decide (0 < y) = true := decide_eq_true (by omega)
  have d0' : decide (0 < (y : Int)) = true := decide_eq_true (by omega)
  have HEX := Lib.hid (show exact_ [45] a b = some (sgn p x + sgn (!q) y) by rw [sgn_not, ← HA.out, ← HB.out]; show some (a - b) = some (a + -b); rw [Int.sub_eq_add_neg])
  clear hy0 h
  by_cases hpq : p = (!q)
  ·obtain ⟨M, hM⟩ : ∃ M : Nat, M = (x + y) % 18446744073709551616 := ⟨_, rfl⟩
   have hM2 : M < 18446744073709551616 := by omega
   have u1 : IntKind.u64.wrap ((x : Int) + (y : Int)) = (M : Int) := by rw [IntKind.wrap_u64]; omega
   have TJ := Lib.hid (rjoin_any p M w hM2)
   have HEX2 := Lib.hid (HEX.out.trans (by rw [← hpq, sgn_add]))
   have e1 : (p == (!q)) = true := by rw [hpq]; simp
   by_cases hlt : M < x
   ·have d1 : decide (M < x) = true := decide_eq_true hlt
    have d1' : decide ((M : Int) < (x : Int)) = true := decide_eq_true (by omega)
    have HF := Lib.hid (show ¬ fits (sgn p (x + y)) by unfold sgn fits lo63 hi63; cases p <;> simp <;> omega)
    have hMF : fits (sgn p M) := sgn_fits (by omega) (fun _ => by omega)
    unfold JoinSays at TJ
    rw [if_pos hMF, decide_eq_true hMF] at TJ
    clear hM hlt hpq hMF
    go_enter Tryz.func37, Tryz.ntmps37
    go_wp2_with fail
    refine (TA.out).mono ?_
    rintro e w1 ⟨rfl, rfl⟩
    go_wp2_with fail
    refine (TB.out).mono ?_
    rintro e w1 ⟨rfl, rfl⟩
    go_wp2_with fail
    refine (TJ.out).mono ?_
    rintro e w1 ⟨rfl, rfl⟩
    go_wp2_with fail
    go_ret2
    exact RRecSays.over HEX2.out HF.out rfl
   ·have d1 : decide (M < x) = false := decide_eq_false hlt
    have d1' : decide ((M : Int) < (x : Int)) = false := decide_eq_false (by omega)
    have hMe : M = x + y := by omega
    rw [← hMe] at HEX2
    clear hM hMe hlt hpq
    by_cases hf : fits (sgn p M)
    ·have HF := Lib.hid hf
     unfold JoinSays at TJ
     rw [if_pos hf, decide_eq_true hf] at TJ
     clear hf
     go_enter Tryz.func37, Tryz.ntmps37
     go_wp2_with fail
     refine (TA.out).mono ?_
     rintro e w1 ⟨rfl, rfl⟩
     go_wp2_with fail
     refine (TB.out).mono ?_
     rintro e w1 ⟨rfl, rfl⟩
     go_wp2_with fail
     refine (TJ.out).mono ?_
     rintro e w1 ⟨rfl, rfl⟩
     go_wp2_with fail
     go_ret2
     exact RRecSays.ok HEX2.out HF.out rfl
    ·have HF := Lib.hid hf
     unfold JoinSays at TJ
     rw [if_neg hf, decide_eq_false hf] at TJ
     clear hf
     go_enter Tryz.func37, Tryz.ntmps37
     go_wp2_with fail
     refine (TA.out).mono ?_
     rintro e w1 ⟨rfl, rfl⟩
     go_wp2_with fail
     refine (TB.out).mono ?_
     rintro e w1 ⟨rfl, rfl⟩
     go_wp2_with fail
     refine (TJ.out).mono ?_
     rintro e w1 ⟨rfl, rfl⟩
     go_wp2_with fail
     go_ret2
     exact RRecSays.over HEX2.out HF.out rfl
  ·have e1 : (p == (!q)) = false := beq_eq_false_iff_ne.2 hpq
   by_cases hxy : y ≤ x
   ·have d1 : decide (y ≤ x) = true := decide_eq_true hxy
    have d1' : decide ((y : Int) ≤ (x : Int)) = true := decide_eq_true (by omega)
    obtain ⟨D, hD⟩ : ∃ D : Nat, D = x - y := ⟨_, rfl⟩
    have hD2 : D ≤ 9223372036854775808 := by omega
    have hDF : fits (sgn p D) := sgn_fits hD2 (fun hp => by have := HXD.out hp; omega)
    have u1 : IntKind.u64.wrap ((x : Int) - (y : Int)) = (D : Int) := by rw [IntKind.wrap_u64]; omega
    have TJ := Lib.hid (rjoin_any (p) D w (by omega))
    unfold JoinSays at TJ
    rw [if_pos hDF, decide_eq_true hDF] at TJ
    have HF := Lib.hid hDF
    have HEX2 := Lib.hid (HEX.out.trans (by rw [sgn_sub1 hpq hxy, ← hD]))
    clear hD hpq hDF
    go_enter Tryz.func37, Tryz.ntmps37
    go_wp2_with fail
    refine (TA.out).mono ?_
    rintro e w1 ⟨rfl, rfl⟩
    go_wp2_with fail
    refine (TB.out).mono ?_
    rintro e w1 ⟨rfl, rfl⟩
    go_wp2_with fail
    refine (TJ.out).mono ?_
    rintro e w1 ⟨rfl, rfl⟩
    go_wp2_with fail
    go_ret2
    exact RRecSays.ok HEX2.out HF.out rfl
   ·have d1 : decide (y ≤ x) = false := decide_eq_false hxy
    have d1' : decide ((y : Int) ≤ (x : Int)) = false := decide_eq_false (by omega)
    obtain ⟨D, hD⟩ : ∃ D : Nat, D = y - x := ⟨_, rfl⟩
    have hD2 : D ≤ 9223372036854775808 := by omega
    have hDF : fits (sgn ((!q)) D) := sgn_fits hD2 (fun hq => by
     have hp : p = true := by
      rw [hq] at hpq
      simpa using hpq
     have := HXC.out hp
     omega)
    have u1 : IntKind.u64.wrap ((y : Int) - (x : Int)) = (D : Int) := by rw [IntKind.wrap_u64]; omega
    have TJ := Lib.hid (rjoin_any ((!q)) D w (by omega))
    unfold JoinSays at TJ
    rw [if_pos hDF, decide_eq_true hDF] at TJ
    have HF := Lib.hid hDF
    have HEX2 := Lib.hid (HEX.out.trans (by rw [sgn_sub2 hpq (by omega), ← hD]))
    clear hD hpq hDF
    go_enter Tryz.func37, Tryz.ntmps37
    go_wp2_with fail
    refine (TA.out).mono ?_
    rintro e w1 ⟨rfl, rfl⟩
    go_wp2_with fail
    refine (TB.out).mono ?_
    rintro e w1 ⟨rfl, rfl⟩
    go_wp2_with fail
    refine (TJ.out).mono ?_
    rintro e w1 ⟨rfl, rfl⟩
    go_wp2_with fail
    go_ret2
    exact RRecSays.ok HEX2.out HF.out rfl
end Go.Proofs.YtpbbkpfaphjdoaaGreatDoor
namespace Go.Proofs.YtpbbkpfaphjdoaaGreatDoor
open Go.ChangeShapes Go.WideShapes Go.ChangeAt Go.RowKit
theorem sgn_mul {p q : Bool} {x y : Nat} : sgn p x * sgn q y = sgn (p != q) (x * y) := by
 unfold sgn
 cases p <;> cases q <;> simp [Int.neg_mul, Int.mul_neg]
set_option maxHeartbeats 4000000 in
set_option maxRecDepth 100000 in
theorem rrec_mul (op : ByteArray) (a b : Int) (w : World) (h : op.data.toList = [42]) (ha : fits a) (hb : fits b) :
  Calls Tryz.prog 37 #[.string op, .int .i64 a, .int .i64 b] w (RRecSays [42] a b w) := by
 obtain ⟨hxa, hxb, hxc, hxd⟩ := parts_of ha
 obtain ⟨hya, hyb, hyc, hyd⟩ := parts_of hb
 have TA := Lib.hid (rparts_any a w ha)
 have TB := Lib.hid (rparts_any b w hb)
 obtain ⟨p, hp⟩ : ∃ p, p = decide (a < 0) := ⟨_, rfl⟩
 obtain ⟨q, hq⟩ : ∃ q, q = decide (b < 0) := ⟨_, rfl⟩
 obtain ⟨x, hx⟩ : ∃ x, x = a.natAbs := ⟨_, rfl⟩
 obtain ⟨y, hy⟩ : ∃ y, y = b.natAbs := ⟨_, rfl⟩
 rw [← hp, ← hx] at TA hxa
 rw [← hq, ← hy] at TB hya
 rw [← hx] at hxb hxc hxd
 rw [← hy] at hyb hyc hyd
 rw [← hp] at hxc hxd
 rw [← hq] at hyc hyd
 have HA := Lib.hid hxa
 have HB := Lib.hid hya
 have HXC := Lib.hid hxc
 have HXD := Lib.hid hxd
 have HYC := Lib.hid hyc
 have HYD := Lib.hid hyd
 clear hp hq hx hy hxa hya hxc hxd hyc hyd ha hb
 have t0 := op_tests h [43]
 rw [show decide ([42] = ([43] : List UInt8)) = false by decide] at t0
 have t1 := op_tests h [45]
 rw [show decide ([42] = ([45] : List UInt8)) = false by decide] at t1
 have t2 := op_tests h [42]
 rw [show decide ([42] = ([42] : List UInt8)) = true by decide] at t2
 have t3 := op_tests h [47]
 rw [show decide ([42] = ([47] : List UInt8)) = false by decide] at t3
 have t4 := op_tests h [37]
 rw [show decide ([42] = ([37] : List UInt8)) = false by decide] at t4
 have HEX := Lib.hid (show exact_ [42] a b = some (sgn (p != q) (x * y)) by rw [← sgn_mul, ← HA.out, ← HB.out]; rfl)
 clear h
 obtain ⟨R, hR⟩ : ∃ R, (p == q) = R := ⟨_, rfl⟩
 rw [show (p != q) = !R by rw [← hR]; rfl] at HEX
 by_cases hx0 : x = 0
 ·have e0 : ((x : Int) != 0) = false := by simp [hx0]
  have u1 : IntKind.u64.wrap ((x : Int) * (y : Int)) = ((0 : Nat) : Int) := by rw [hx0]; simp [IntKind.wrap_u64]
  have TJ := Lib.hid (rjoin_any (!R) 0 w (by decide))
  have hF : fits (sgn (!R) 0) := sgn_fits (by decide) (fun _ => by decide)
  unfold JoinSays at TJ
  rw [if_pos hF, decide_eq_true hF] at TJ
  have HF := Lib.hid hF
  rw [hx0, Nat.zero_mul] at HEX
  clear hF hx0
  go_enter Tryz.func37, Tryz.ntmps37
  go_wp2_with fail
  refine (TA.out).mono ?_
  rintro e w1 ⟨rfl, rfl⟩
  go_wp2_with fail
  refine (TB.out).mono ?_
  rintro e w1 ⟨rfl, rfl⟩
  go_wp2_with fail
  refine (TJ.out).mono ?_
  rintro e w1 ⟨rfl, rfl⟩
  go_wp2_with fail
  go_ret2
  exact RRecSays.ok HEX.out HF.out rfl
 ·have e0 : ((x : Int) != 0) = true := by simp; omega
  have hx1 : 0 < x := by omega
  obtain ⟨Q, hQ⟩ : ∃ Q : Nat, (9223372036854775808 : Int) / (x : Int) = (Q : Int) := ⟨((9223372036854775808 : Int) / (x : Int)).toNat, (Int.toNat_of_nonneg (Int.ediv_nonneg (Int.natCast_nonneg 9223372036854775808) (Int.natCast_nonneg x))).symm⟩
  have hq1 : (Q : Int) * (x : Int) ≤ 9223372036854775808 := by rw [← hQ]; exact Int.ediv_mul_le _ (by omega)
  have hq2 : (9223372036854775808 : Int) < ((Q : Int) + 1) * (x : Int) := by rw [← hQ]; exact Int.lt_ediv_add_one_mul_self _ (by omega)
  have HQ1 := Lib.hid hq1
  have HQ2 := Lib.hid hq2
  clear hq1 hq2
  by_cases hov : Q < y
  ·have d1 : decide (Q < y) = true := decide_eq_true hov
   have d1' : decide ((Q : Int) < (y : Int)) = true := decide_eq_true (by omega)
   have HNF := Lib.hid (show ¬ fits (sgn (!R) (x * y)) by
    have h1 : 9223372036854775808 < x * y := by
     have h2 := HQ2.out
     have h3 : ((Q : Int) + 1) * (x : Int) ≤ (y : Int) * (x : Int) := Int.mul_le_mul_of_nonneg_right (by omega) (by omega)
     have h4 : (y : Int) * (x : Int) = ((x * y : Nat) : Int) := by rw [Int.natCast_mul, Int.mul_comm]
     omega
    generalize x * y = z at h1
    unfold sgn fits lo63 hi63
    cases R <;> simp <;> omega)
   clear hov
   go_enter Tryz.func37, Tryz.ntmps37
   go_wp2_with fail
   refine (TA.out).mono ?_
   rintro e w1 ⟨rfl, rfl⟩
   go_wp2_with fail
   refine (TB.out).mono ?_
   rintro e w1 ⟨rfl, rfl⟩
   go_wp2_with fail
   go_ret2
   exact RRecSays.over HEX.out HNF.out rfl
  ·have d1 : decide (Q < y) = false := decide_eq_false hov
   have d1' : decide ((Q : Int) < (y : Int)) = false := decide_eq_false (by omega)
   obtain ⟨M, hM⟩ : ∃ M : Nat, M = x * y := ⟨_, rfl⟩
   have hM2 : M ≤ 9223372036854775808 := by
    have h2 := HQ1.out
    have h3 : (y : Int) * (x : Int) ≤ (Q : Int) * (x : Int) := Int.mul_le_mul_of_nonneg_right (by omega) (by omega)
    have h4 : (y : Int) * (x : Int) = ((x * y : Nat) : Int) := by rw [Int.natCast_mul, Int.mul_comm]
    omega
   rw [← hM] at HEX
   have u1 : IntKind.u64.wrap ((x : Int) * (y : Int)) = (M : Int) := by rw [← Int.natCast_mul, ← hM, IntKind.wrap_u64]; omega
   have TJ := Lib.hid (rjoin_any (!R) M w (by omega))
   clear hM hov
   by_cases hf : fits (sgn (!R) M)
   ·have HF := Lib.hid hf
    unfold JoinSays at TJ
    rw [if_pos hf, decide_eq_true hf] at TJ
    clear hf hM2
    go_enter Tryz.func37, Tryz.ntmps37
    go_wp2_with fail
    refine (TA.out).mono ?_
    rintro e w1 ⟨rfl, rfl⟩
    go_wp2_with fail
    refine (TB.out).mono ?_
    rintro e w1 ⟨rfl, rfl⟩
    go_wp2_with fail
    refine (TJ.out).mono ?_
    rintro e w1 ⟨rfl, rfl⟩
    go_wp2_with fail
    go_ret2
    exact RRecSays.ok HEX.out HF.out rfl
   ·have HF := Lib.hid hf
    unfold JoinSays at TJ
    rw [if_neg hf, decide_eq_false hf] at TJ
    clear hf hM2
    go_enter Tryz.func37, Tryz.ntmps37
    go_wp2_with fail
    refine (TA.out).mono ?_
    rintro e w1 ⟨rfl, rfl⟩
    go_wp2_with fail
    refine (TB.out).mono ?_
    rintro e w1 ⟨rfl, rfl⟩
    go_wp2_with fail
    refine (TJ.out).mono ?_
    rintro e w1 ⟨rfl, rfl⟩
    go_wp2_with fail
    go_ret2
    exact RRecSays.over HEX.out HF.out rfl
theorem sgn_div {p q : Bool} {x y : Nat} : (sgn p x).tdiv (sgn q y) = sgn (p != q) (x / y) := by
 have h : (x : Int).tdiv (y : Int) = ((x / y : Nat) : Int) := rfl
 unfold sgn
 cases p <;> cases q <;> simp [Int.neg_tdiv, Int.tdiv_neg, h]
theorem sgn_mod {p q : Bool} {x y : Nat} : (sgn p x).tmod (sgn q y) = sgn p (x % y) := by
 have h : (x : Int).tmod (y : Int) = ((x % y : Nat) : Int) := rfl
 unfold sgn
 cases p <;> cases q <;> simp [Int.neg_tmod, Int.tmod_neg, h]
theorem sgn_zero {q : Bool} {y : Nat} {b : Int} (h : b = sgn q y) : b = 0 ↔ y = 0 := by
 subst h
 unfold sgn
 cases q <;> simp
set_option maxHeartbeats 4000000 in
set_option maxRecDepth 100000 in
theorem rrec_div (op : ByteArray) (a b : Int) (w : World) (h : op.data.toList = [47]) (ha : fits a) (hb : fits b) :
  Calls Tryz.prog 37 #[.string op, .int .i64 a, .int .i64 b] w (RRecSays [47] a b w) := by
 obtain ⟨hxa, hxb, hxc, hxd⟩ := parts_of ha
 obtain ⟨hya, hyb, hyc, hyd⟩ := parts_of hb
 have TA := Lib.hid (rparts_any a w ha)
 have TB := Lib.hid (rparts_any b w hb)
 obtain ⟨p, hp⟩ : ∃ p, p = decide (a < 0) := ⟨_, rfl⟩
 obtain ⟨q, hq⟩ : ∃ q, q = decide (b < 0) := ⟨_, rfl⟩
 obtain ⟨x, hx⟩ : ∃ x, x = a.natAbs := ⟨_, rfl⟩
 obtain ⟨y, hy⟩ : ∃ y, y = b.natAbs := ⟨_, rfl⟩
 rw [← hp, ← hx] at TA hxa
 rw [← hq, ← hy] at TB hya
 rw [← hx] at hxb hxc hxd
 rw [← hy] at hyb hyc hyd
 rw [← hp] at hxc hxd
 rw [← hq] at hyc hyd
 have HA := Lib.hid hxa
 have HB := Lib.hid hya
 have HXC := Lib.hid hxc
 have HXD := Lib.hid hxd
 have HYC := Lib.hid hyc
 have HYD := Lib.hid hyd
 clear hp hq hx hy hxa hya hxc hxd hyc hyd ha hb
 have t0 := op_tests h [43]
 rw [show decide ([47] = ([43] : List UInt8)) = false by decide] at t0
 have t1 := op_tests h [45]
 rw [show decide ([47] = ([45] : List UInt8)) = false by decide] at t1
 have t2 := op_tests h [42]
 rw [show decide ([47] = ([42] : List UInt8)) = false by decide] at t2
 have t3 := op_tests h [47]
 rw [show decide ([47] = ([47] : List UInt8)) = true by decide] at t3
 have t4 := op_tests h [37]
 rw [show decide ([47] = ([37] : List UInt8)) = false by decide] at t4
 by_cases hy0 : y = 0
 ·have e0 : ((y : Int) == 0) = true := by simp [hy0]
  have HEX := Lib.hid (show exact_ [47] a b = none by show (if b = 0 then none else _) = none; rw [if_pos ((sgn_zero HB.out).2 hy0)])
  clear hy0 h
  go_enter Tryz.func37, Tryz.ntmps37
  go_wp2_with fail
  refine (TA.out).mono ?_
  rintro e w1 ⟨rfl, rfl⟩
  go_wp2_with fail
  refine (TB.out).mono ?_
  rintro e w1 ⟨rfl, rfl⟩
  go_wp2_with fail
  go_ret2
  exact RRecSays.none HEX.out rfl
 ·have e0 : ((y : Int) == 0) = false := by simp; omega
  have hy1 : 0 < y := by omega
  have HEX := Lib.hid (show exact_ [47] a b = some (sgn (p != q) (x / y)) by
   show (if b = 0 then none else _) = _
   rw [if_neg (fun e => hy0 ((sgn_zero HB.out).1 e)), ← sgn_div, ← HA.out, ← HB.out])
  obtain ⟨R, hR⟩ : ∃ R, (p == q) = R := ⟨_, rfl⟩
  rw [show (p != q) = !R by rw [← hR]; rfl] at HEX
  obtain ⟨D, hD⟩ : ∃ D : Nat, D = x / y := ⟨_, rfl⟩
  have hD1 : D ≤ x := by rw [hD]; exact Nat.div_le_self _ _
  have hDi : (x : Int) / (y : Int) = (D : Int) := by rw [hD]; rfl
  rw [← hD] at HEX
  have TJ := Lib.hid (rjoin_any (!R) D w (by omega))
  clear hD hy0 h
  have u1 : IntKind.u64.wrap (D : Int) = (D : Int) := by rw [IntKind.wrap_u64]; omega
  by_cases hf : fits (sgn (!R) D)
  ·have HF := Lib.hid hf
   unfold JoinSays at TJ
   rw [if_pos hf, decide_eq_true hf] at TJ
   clear hf hD1
   go_enter Tryz.func37, Tryz.ntmps37
   go_wp2_with fail
   refine (TA.out).mono ?_
   rintro e w1 ⟨rfl, rfl⟩
   go_wp2_with fail
   refine (TB.out).mono ?_
   rintro e w1 ⟨rfl, rfl⟩
   go_wp2_with fail
   refine (TJ.out).mono ?_
   rintro e w1 ⟨rfl, rfl⟩
   go_wp2_with fail
   go_ret2
   exact RRecSays.ok HEX.out HF.out rfl
  ·have HF := Lib.hid hf
   unfold JoinSays at TJ
   rw [if_neg hf, decide_eq_false hf] at TJ
   clear hf hD1
   go_enter Tryz.func37, Tryz.ntmps37
   go_wp2_with fail
   refine (TA.out).mono ?_
   rintro e w1 ⟨rfl, rfl⟩
   go_wp2_with fail
   refine (TB.out).mono ?_
   rintro e w1 ⟨rfl, rfl⟩
   go_wp2_with fail
   refine (TJ.out).mono ?_
   rintro e w1 ⟨rfl, rfl⟩
   go_wp2_with fail
   go_ret2
   exact RRecSays.over HEX.out HF.out rfl
set_option maxHeartbeats 4000000 in
set_option maxRecDepth 100000 in
theorem rrec_rem (op : ByteArray) (a b : Int) (w : World) (h : op.data.toList = [37]) (ha : fits a) (hb : fits b) :
  Calls Tryz.prog 37 #[.string op, .int .i64 a, .int .i64 b] w (RRecSays [37] a b w) := by
 obtain ⟨hxa, hxb, hxc, hxd⟩ := parts_of ha
 obtain ⟨hya, hyb, hyc, hyd⟩ := parts_of hb
 have TA := Lib.hid (rparts_any a w ha)
 have TB := Lib.hid (rparts_any b w hb)
 obtain ⟨p, hp⟩ : ∃ p, p = decide (a < 0) := ⟨_, rfl⟩
 obtain ⟨q, hq⟩ : ∃ q, q = decide (b < 0) := ⟨_, rfl⟩
 obtain ⟨x, hx⟩ : ∃ x, x = a.natAbs := ⟨_, rfl⟩
 obtain ⟨y, hy⟩ : ∃ y, y = b.natAbs := ⟨_, rfl⟩
 rw [← hp, ← hx] at TA hxa
 rw [← hq, ← hy] at TB hya
 rw [← hx] at hxb hxc hxd
 rw [← hy] at hyb hyc hyd
 rw [← hp] at hxc hxd
 rw [← hq] at hyc hyd
 have HA := Lib.hid hxa
 have HB := Lib.hid hya
 have HXC := Lib.hid hxc
 have HXD := Lib.hid hxd
 have HYC := Lib.hid hyc
 have HYD := Lib.hid hyd
 clear hp hq hx hy hxa hya hxc hxd hyc hyd ha hb
 have t0 := op_tests h [43]
 rw [show decide ([37] = ([43] : List UInt8)) = false by decide] at t0
 have t1 := op_tests h [45]
 rw [show decide ([37] = ([45] : List UInt8)) = false by decide] at t1
 have t2 := op_tests h [42]
 rw [show decide ([37] = ([42] : List UInt8)) = false by decide] at t2
 have t3 := op_tests h [47]
 rw [show decide ([37] = ([47] : List UInt8)) = false by decide] at t3
 have t4 := op_tests h [37]
 rw [show decide ([37] = ([37] : List UInt8)) = true by decide] at t4
 by_cases hy0 : y = 0
 ·have e0 : ((y : Int) == 0) = true := by simp [hy0]
  have HEX := Lib.hid (show exact_ [37] a b = none by show (if b = 0 then none else _) = none; rw [if_pos ((sgn_zero HB.out).2 hy0)])
  clear hy0 h
  go_enter Tryz.func37, Tryz.ntmps37
  go_wp2_with fail
  refine (TA.out).mono ?_
  rintro e w1 ⟨rfl, rfl⟩
  go_wp2_with fail
  refine (TB.out).mono ?_
  rintro e w1 ⟨rfl, rfl⟩
  go_wp2_with fail
  go_ret2
  exact RRecSays.none HEX.out rfl
 ·have e0 : ((y : Int) == 0) = false := by simp; omega
  have hy1 : 0 < y := by omega
  have HEX := Lib.hid (show exact_ [37] a b = some (sgn (p) (x % y)) by
   show (if b = 0 then none else _) = _
   rw [if_neg (fun e => hy0 ((sgn_zero HB.out).1 e)), ← sgn_mod (q := q), ← HA.out, ← HB.out])
  obtain ⟨D, hD⟩ : ∃ D : Nat, D = x % y := ⟨_, rfl⟩
  have hD1 : D ≤ x := by rw [hD]; exact Nat.mod_le _ _
  have hDi : (x : Int) % (y : Int) = (D : Int) := by rw [hD]; rfl
  rw [← hD] at HEX
  have TJ := Lib.hid (rjoin_any (p) D w (by omega))
  clear hD hy0 h
  have hf : fits (sgn p D) := sgn_fits (by omega) (fun hp => by have := HXD.out hp; omega)
  have HF := Lib.hid hf
  unfold JoinSays at TJ
  rw [if_pos hf, decide_eq_true hf] at TJ
  clear hf hD1
  go_enter Tryz.func37, Tryz.ntmps37
  go_wp2_with fail
  refine (TA.out).mono ?_
  rintro e w1 ⟨rfl, rfl⟩
  go_wp2_with fail
  refine (TB.out).mono ?_
  rintro e w1 ⟨rfl, rfl⟩
  go_wp2_with fail
  refine (TJ.out).mono ?_
  rintro e w1 ⟨rfl, rfl⟩
  go_wp2_with fail
  go_ret2
  exact RRecSays.ok HEX.out HF.out rfl
set_option maxHeartbeats 4000000 in
set_option maxRecDepth 100000 in
theorem rrec_bad (op : ByteArray) (a b : Int) (w : World) (h : isOp op.data.toList = false) (ha : fits a) (hb : fits b) :
  Calls Tryz.prog 37 #[.string op, .int .i64 a, .int .i64 b] w (RRecSays op.data.toList a b w) := by
 have H := Lib.hid h
 have h' := h
 unfold isOp at h'
 simp only [Bool.or_eq_false_iff, decide_eq_false_iff_not] at h'
 obtain ⟨⟨⟨⟨n0, n1⟩, n2⟩, n3⟩, n4⟩ := h'
 have t0 : (op.toList == [43]) = false := by rw [Lib.toList_data]; exact beq_eq_false_iff_ne.2 n0
 have t1 : (op.toList == [45]) = false := by rw [Lib.toList_data]; exact beq_eq_false_iff_ne.2 n1
 have t2 : (op.toList == [42]) = false := by rw [Lib.toList_data]; exact beq_eq_false_iff_ne.2 n2
 have t3 : (op.toList == [47]) = false := by rw [Lib.toList_data]; exact beq_eq_false_iff_ne.2 n3
 have t4 : (op.toList == [37]) = false := by rw [Lib.toList_data]; exact beq_eq_false_iff_ne.2 n4
 clear n0 n1 n2 n3 n4 h
 obtain ⟨hxa, hxb, hxc, hxd⟩ := parts_of ha
 obtain ⟨hya, hyb, hyc, hyd⟩ := parts_of hb
 have TA := Lib.hid (rparts_any a w ha)
 have TB := Lib.hid (rparts_any b w hb)
 obtain ⟨p, hp⟩ : ∃ p, p = decide (a < 0) := ⟨_, rfl⟩
 obtain ⟨q, hq⟩ : ∃ q, q = decide (b < 0) := ⟨_, rfl⟩
 obtain ⟨x, hx⟩ : ∃ x, x = a.natAbs := ⟨_, rfl⟩
 obtain ⟨y, hy⟩ : ∃ y, y = b.natAbs := ⟨_, rfl⟩
 rw [← hp, ← hx] at TA hxa
 rw [← hq, ← hy] at TB hya
 rw [← hx] at hxb hxc hxd
 rw [← hy] at hyb hyc hyd
 rw [← hp] at hxc hxd
 rw [← hq] at hyc hyd
 have HA := Lib.hid hxa
 have HB := Lib.hid hya
 have HXC := Lib.hid hxc
 have HXD := Lib.hid hxd
 have HYC := Lib.hid hyc
 have HYD := Lib.hid hyd
 clear hp hq hx hy hxa hya hxc hxd hyc hyd ha hb
 go_enter Tryz.func37, Tryz.ntmps37
 go_wp2_with fail
 refine (TA.out).mono ?_
 rintro e w1 ⟨rfl, rfl⟩
 go_wp2_with fail
 refine (TB.out).mono ?_
 rintro e w1 ⟨rfl, rfl⟩
 go_wp2_with fail
 go_ret2
 exact RRecSays.bad H.out
theorem rreckon_any (op : ByteArray) (a b : Int) (w : World) (ha : fits a) (hb : fits b) :
  Calls Tryz.prog 37 #[.string op, .int .i64 a, .int .i64 b] w (RRecSays op.data.toList a b w) := by
 by_cases h : isOp op.data.toList = true
 ·unfold isOp at h
  simp only [Bool.or_eq_true, decide_eq_true_eq] at h
  rcases h with (((h | h) | h) | h) | h
  ·rw [h]; exact rrec_add op a b w h ha hb
  ·rw [h]; exact rrec_sub op a b w h ha hb
  ·rw [h]; exact rrec_mul op a b w h ha hb
  ·rw [h]; exact rrec_div op a b w h ha hb
  ·rw [h]; exact rrec_rem op a b w h ha hb
 ·exact rrec_bad op a b w (by simpa using h) ha hb
end Go.Proofs.YtpbbkpfaphjdoaaGreatDoor
