/- val.mul, walked: a product, and whether it is a number. val.Reckon, walked. -/
import Derived.Test.YtpbbkpfaphjdoaaGreatDoorFReckonFn
import Derived.Test.YtpbbkpfaphjdoaaGreatDoorFShelf
import Derived.Test.YtpbbkpfaphjdoaaGreatDoorFErr
import Derived.Lib.Strings
namespace Go.Proofs.YtpbbkpfaphjdoaaGreatDoor
open Go.ChangeShapes Go.WideShapes Go.ChangeAt Go.RowKit
theorem vneg_any (a : Int) (w : World) :
  Calls Tryz.prog 160 #[.int .i64 a] w fun e w' => e = .returned (.bool (decide (a < 0))) ∧ w = w' := by
 go_enter Tryz.func160, Tryz.ntmps160
 go_wp2
 go_ret
 exact ⟨rfl, rfl⟩
theorem Mul64At.mul64 (x y : Nat) (hx : x < 18446744073709551616) (hy : y < 18446744073709551616) (w : World) :
  Calls Tryz.prog 161 #[.int .u64 x, .int .u64 y] w fun e w' => e = .returned (.tuple #[.int .u64 ((x * y / 18446744073709551616 : Nat) : Int), .int .u64 ((x * y % 18446744073709551616 : Nat) : Int)]) ∧ w = w' :=
 (Tryz.bits_Mul64 x y hx hy w).mono fun _ _ ⟨h1, h2⟩ => ⟨h1, h2.symm⟩
theorem u64_nat (n : Nat) (h : n < 18446744073709551616) : IntKind.u64.wrap (n : Int) = (n : Int) := by rw [IntKind.wrap_u64]; omega
def MulSays (p : Int) (w : World) (e : Ending) (w' : World) : Prop := (∃ n ok, e = .returned (.tuple #[.int .i64 n, .bool ok]) ∧ ok = decide (fits p) ∧ (fits p → n = p)) ∧ w = w'
theorem u64_neg (x : Nat) (h0 : 0 < x) (h : x ≤ 9223372036854775808) : IntKind.u64.wrap (-(x : Int)) = 18446744073709551616 - (x : Int) := by rw [IntKind.wrap_u64]; omega
theorem u64_negneg (x : Nat) (h0 : 0 < x) (h : x ≤ 9223372036854775808) : IntKind.u64.wrap (-(18446744073709551616 - (x : Int))) = (x : Int) := by rw [IntKind.wrap_u64]; omega
set_option maxHeartbeats 1000000 in
theorem mul_pp (x y : Nat) (w : World) (ha : fits ((x : Int))) (hb : fits ((y : Int))) :
  Calls Tryz.prog 100 #[.int .i64 ((x : Int)), .int .i64 ((y : Int))] w (MulSays ((x : Int) * (y : Int)) w) := by
 have d1 : decide ((x : Int) < 0) = false := by simp
 have d2 : decide ((y : Int) < 0) = false := by simp
 unfold fits lo63 hi63 at ha hb
 have hx : x < 18446744073709551616 := by omega
 have hy : y < 18446744073709551616 := by omega
 have ux := u64_nat x hx
 have uy := u64_nat y hy
 have hm : x * y = x * y / 18446744073709551616 * 18446744073709551616 + x * y % 18446744073709551616 := by omega
 have hlo : x * y % 18446744073709551616 < 18446744073709551616 := Nat.mod_lt _ (by decide)
 have MB := Lib.hid (@Mul64At.mul64 x y hx hy)
 generalize x * y / 18446744073709551616 = hi at hm MB
 generalize x * y % 18446744073709551616 = lo at hm hlo MB
 have HM := Lib.hid (show (x : Int) * (y : Int) = (hi * 18446744073709551616 + lo : Int) by rw [← Int.natCast_mul, hm]; omega)
 clear hm ha hb
 by_cases h0 : hi = 0
 ·subst h0
  by_cases h1 : lo < 9223372036854775808
  all_goals
   go_enter Tryz.func100, Tryz.ntmps100
   go_wp2_with (first
    | (go_at_call 160; refine (vneg_any _ _).mono ?_; rintro e w' ⟨rfl, rfl⟩; simp only [d1, d2]))
   refine (MB.out _).mono ?_
   rintro e w' ⟨rfl, rfl⟩
   go_wp2_with (first
    | (go_at_call 160; refine (vneg_any _ _).mono ?_; rintro e w' ⟨rfl, rfl⟩; simp only [d1, d2]))
   go_ret2
   refine ⟨⟨_, _, rfl, ?_, ?_⟩, rfl⟩
   ·rw [HM.out, Bool.eq_iff_iff, decide_eq_true_iff, decide_eq_true_iff]; unfold fits lo63 hi63; omega
   ·rw [HM.out]; unfold fits lo63 hi63; intro hf; omega
 ·have h0' : ((hi : Int) == 0) = false := by simp; omega
  have h0'' : 0 < hi := by omega
  go_enter Tryz.func100, Tryz.ntmps100
  go_wp2_with (first
   | (go_at_call 160; refine (vneg_any _ _).mono ?_; rintro e w' ⟨rfl, rfl⟩; simp only [d1, d2]))
  refine (MB.out _).mono ?_
  rintro e w' ⟨rfl, rfl⟩
  go_wp2_with (first
   | (go_at_call 160; refine (vneg_any _ _).mono ?_; rintro e w' ⟨rfl, rfl⟩; simp only [d1, d2]))
  go_ret2
  refine ⟨⟨_, _, rfl, ?_, ?_⟩, rfl⟩
  ·rw [HM.out]; symm; rw [decide_eq_false_iff_not]; unfold fits lo63 hi63; omega
  ·rw [HM.out]; unfold fits lo63 hi63; intro hf; exfalso; omega
set_option maxHeartbeats 1000000 in
theorem mul_pn (x y : Nat) (w : World) (ha : fits ((x : Int))) (hb : fits (-(y : Int))) (py : 0 < y) :
  Calls Tryz.prog 100 #[.int .i64 ((x : Int)), .int .i64 (-(y : Int))] w (MulSays ((x : Int) * -(y : Int)) w) := by
 have d1 : decide ((x : Int) < 0) = false := by simp
 have d2 : decide (-(y : Int) < 0) = true := by simp; omega
 unfold fits lo63 hi63 at ha hb
 have hx : x < 18446744073709551616 := by omega
 have hy : y < 18446744073709551616 := by omega
 have ux := u64_nat x hx
 have uy := u64_neg y py (by omega)
 have vy := u64_negneg y py (by omega)
 have hm : x * y = x * y / 18446744073709551616 * 18446744073709551616 + x * y % 18446744073709551616 := by omega
 have hlo : x * y % 18446744073709551616 < 18446744073709551616 := Nat.mod_lt _ (by decide)
 have MB := Lib.hid (@Mul64At.mul64 x y hx hy)
 generalize x * y / 18446744073709551616 = hi at hm MB
 generalize x * y % 18446744073709551616 = lo at hm hlo MB
 have HM := Lib.hid (show (x : Int) * -(y : Int) = -(hi * 18446744073709551616 + lo : Int) by rw [Int.mul_neg, ← Int.natCast_mul, hm]; omega)
 clear hm ha hb
 by_cases h0 : hi = 0
 ·subst h0
  by_cases h1 : lo < 9223372036854775809
  all_goals
   go_enter Tryz.func100, Tryz.ntmps100
   go_wp2_with (first
    | (go_at_call 160; refine (vneg_any _ _).mono ?_; rintro e w' ⟨rfl, rfl⟩; simp only [d1, d2]))
   refine (MB.out _).mono ?_
   rintro e w' ⟨rfl, rfl⟩
   go_wp2_with (first
    | (go_at_call 160; refine (vneg_any _ _).mono ?_; rintro e w' ⟨rfl, rfl⟩; simp only [d1, d2]))
   go_ret2
   refine ⟨⟨_, _, rfl, ?_, ?_⟩, rfl⟩
   ·rw [HM.out, Bool.eq_iff_iff, decide_eq_true_iff, decide_eq_true_iff]; unfold fits lo63 hi63; omega
   ·rw [HM.out]; unfold fits lo63 hi63; intro hf; unfold wrap64; rw [IntKind.wrap_u64]; omega
 ·have h0' : ((hi : Int) == 0) = false := by simp; omega
  have h0'' : 0 < hi := by omega
  go_enter Tryz.func100, Tryz.ntmps100
  go_wp2_with (first
   | (go_at_call 160; refine (vneg_any _ _).mono ?_; rintro e w' ⟨rfl, rfl⟩; simp only [d1, d2]))
  refine (MB.out _).mono ?_
  rintro e w' ⟨rfl, rfl⟩
  go_wp2_with (first
   | (go_at_call 160; refine (vneg_any _ _).mono ?_; rintro e w' ⟨rfl, rfl⟩; simp only [d1, d2]))
  go_ret2
  refine ⟨⟨_, _, rfl, ?_, ?_⟩, rfl⟩
  ·rw [HM.out]; symm; rw [decide_eq_false_iff_not]; unfold fits lo63 hi63; omega
  ·rw [HM.out]; unfold fits lo63 hi63; intro hf; exfalso; omega
set_option maxHeartbeats 1000000 in
theorem mul_np (x y : Nat) (w : World) (ha : fits (-(x : Int))) (hb : fits ((y : Int))) (px : 0 < x) :
  Calls Tryz.prog 100 #[.int .i64 (-(x : Int)), .int .i64 ((y : Int))] w (MulSays (-(x : Int) * (y : Int)) w) := by
 have d1 : decide (-(x : Int) < 0) = true := by simp; omega
 have d2 : decide ((y : Int) < 0) = false := by simp
 unfold fits lo63 hi63 at ha hb
 have hx : x < 18446744073709551616 := by omega
 have hy : y < 18446744073709551616 := by omega
 have ux := u64_neg x px (by omega)
 have vx := u64_negneg x px (by omega)
 have uy := u64_nat y hy
 have hm : x * y = x * y / 18446744073709551616 * 18446744073709551616 + x * y % 18446744073709551616 := by omega
 have hlo : x * y % 18446744073709551616 < 18446744073709551616 := Nat.mod_lt _ (by decide)
 have MB := Lib.hid (@Mul64At.mul64 x y hx hy)
 generalize x * y / 18446744073709551616 = hi at hm MB
 generalize x * y % 18446744073709551616 = lo at hm hlo MB
 have HM := Lib.hid (show -(x : Int) * (y : Int) = -(hi * 18446744073709551616 + lo : Int) by rw [Int.neg_mul, ← Int.natCast_mul, hm]; omega)
 clear hm ha hb
 by_cases h0 : hi = 0
 ·subst h0
  by_cases h1 : lo < 9223372036854775809
  all_goals
   go_enter Tryz.func100, Tryz.ntmps100
   go_wp2_with (first
    | (go_at_call 160; refine (vneg_any _ _).mono ?_; rintro e w' ⟨rfl, rfl⟩; simp only [d1, d2]))
   refine (MB.out _).mono ?_
   rintro e w' ⟨rfl, rfl⟩
   go_wp2_with (first
    | (go_at_call 160; refine (vneg_any _ _).mono ?_; rintro e w' ⟨rfl, rfl⟩; simp only [d1, d2]))
   go_ret2
   refine ⟨⟨_, _, rfl, ?_, ?_⟩, rfl⟩
   ·rw [HM.out, Bool.eq_iff_iff, decide_eq_true_iff, decide_eq_true_iff]; unfold fits lo63 hi63; omega
   ·rw [HM.out]; unfold fits lo63 hi63; intro hf; unfold wrap64; rw [IntKind.wrap_u64]; omega
 ·have h0' : ((hi : Int) == 0) = false := by simp; omega
  have h0'' : 0 < hi := by omega
  go_enter Tryz.func100, Tryz.ntmps100
  go_wp2_with (first
   | (go_at_call 160; refine (vneg_any _ _).mono ?_; rintro e w' ⟨rfl, rfl⟩; simp only [d1, d2]))
  refine (MB.out _).mono ?_
  rintro e w' ⟨rfl, rfl⟩
  go_wp2_with (first
   | (go_at_call 160; refine (vneg_any _ _).mono ?_; rintro e w' ⟨rfl, rfl⟩; simp only [d1, d2]))
  go_ret2
  refine ⟨⟨_, _, rfl, ?_, ?_⟩, rfl⟩
  ·rw [HM.out]; symm; rw [decide_eq_false_iff_not]; unfold fits lo63 hi63; omega
  ·rw [HM.out]; unfold fits lo63 hi63; intro hf; exfalso; omega
set_option maxHeartbeats 1000000 in
theorem mul_nn (x y : Nat) (w : World) (ha : fits (-(x : Int))) (hb : fits (-(y : Int))) (px : 0 < x) (py : 0 < y) :
  Calls Tryz.prog 100 #[.int .i64 (-(x : Int)), .int .i64 (-(y : Int))] w (MulSays (-(x : Int) * -(y : Int)) w) := by
 have d1 : decide (-(x : Int) < 0) = true := by simp; omega
 have d2 : decide (-(y : Int) < 0) = true := by simp; omega
 unfold fits lo63 hi63 at ha hb
 have hx : x < 18446744073709551616 := by omega
 have hy : y < 18446744073709551616 := by omega
 have ux := u64_neg x px (by omega)
 have vx := u64_negneg x px (by omega)
 have uy := u64_neg y py (by omega)
 have vy := u64_negneg y py (by omega)
 have hm : x * y = x * y / 18446744073709551616 * 18446744073709551616 + x * y % 18446744073709551616 := by omega
 have hlo : x * y % 18446744073709551616 < 18446744073709551616 := Nat.mod_lt _ (by decide)
 have MB := Lib.hid (@Mul64At.mul64 x y hx hy)
 generalize x * y / 18446744073709551616 = hi at hm MB
 generalize x * y % 18446744073709551616 = lo at hm hlo MB
 have HM := Lib.hid (show -(x : Int) * -(y : Int) = (hi * 18446744073709551616 + lo : Int) by rw [Int.neg_mul_neg, ← Int.natCast_mul, hm]; omega)
 clear hm ha hb
 by_cases h0 : hi = 0
 ·subst h0
  by_cases h1 : lo < 9223372036854775808
  all_goals
   go_enter Tryz.func100, Tryz.ntmps100
   go_wp2_with (first
    | (go_at_call 160; refine (vneg_any _ _).mono ?_; rintro e w' ⟨rfl, rfl⟩; simp only [d1, d2]))
   refine (MB.out _).mono ?_
   rintro e w' ⟨rfl, rfl⟩
   go_wp2_with (first
    | (go_at_call 160; refine (vneg_any _ _).mono ?_; rintro e w' ⟨rfl, rfl⟩; simp only [d1, d2]))
   go_ret2
   refine ⟨⟨_, _, rfl, ?_, ?_⟩, rfl⟩
   ·rw [HM.out, Bool.eq_iff_iff, decide_eq_true_iff, decide_eq_true_iff]; unfold fits lo63 hi63; omega
   ·rw [HM.out]; unfold fits lo63 hi63; intro hf; omega
 ·have h0' : ((hi : Int) == 0) = false := by simp; omega
  have h0'' : 0 < hi := by omega
  go_enter Tryz.func100, Tryz.ntmps100
  go_wp2_with (first
   | (go_at_call 160; refine (vneg_any _ _).mono ?_; rintro e w' ⟨rfl, rfl⟩; simp only [d1, d2]))
  refine (MB.out _).mono ?_
  rintro e w' ⟨rfl, rfl⟩
  go_wp2_with (first
   | (go_at_call 160; refine (vneg_any _ _).mono ?_; rintro e w' ⟨rfl, rfl⟩; simp only [d1, d2]))
  go_ret2
  refine ⟨⟨_, _, rfl, ?_, ?_⟩, rfl⟩
  ·rw [HM.out]; symm; rw [decide_eq_false_iff_not]; unfold fits lo63 hi63; omega
  ·rw [HM.out]; unfold fits lo63 hi63; intro hf; exfalso; omega
theorem mul_any (a b : Int) (w : World) (ha : fits a) (hb : fits b) :
  Calls Tryz.prog 100 #[.int .i64 a, .int .i64 b] w (MulSays (a * b) w) := by
 by_cases h1 : a < 0 <;> by_cases h2 : b < 0
 ·obtain ⟨x, rfl⟩ : ∃ x : Nat, a = -(x : Int) := ⟨a.natAbs, by omega⟩
  obtain ⟨y, rfl⟩ : ∃ y : Nat, b = -(y : Int) := ⟨b.natAbs, by omega⟩
  exact mul_nn x y w ha hb (by omega) (by omega)
 ·obtain ⟨x, rfl⟩ : ∃ x : Nat, a = -(x : Int) := ⟨a.natAbs, by omega⟩
  obtain ⟨y, rfl⟩ : ∃ y : Nat, b = (y : Int) := ⟨b.natAbs, by omega⟩
  exact mul_np x y w ha hb (by omega)
 ·obtain ⟨x, rfl⟩ : ∃ x : Nat, a = (x : Int) := ⟨a.natAbs, by omega⟩
  obtain ⟨y, rfl⟩ : ∃ y : Nat, b = -(y : Int) := ⟨b.natAbs, by omega⟩
  exact mul_pn x y w ha hb (by omega)
 ·obtain ⟨x, rfl⟩ : ∃ x : Nat, a = (x : Int) := ⟨a.natAbs, by omega⟩
  obtain ⟨y, rfl⟩ : ∃ y : Nat, b = (y : Int) := ⟨b.natAbs, by omega⟩
  exact mul_pp x y w ha hb
end Go.Proofs.YtpbbkpfaphjdoaaGreatDoor
namespace Go.Proofs.YtpbbkpfaphjdoaaGreatDoor
open Go.ChangeShapes Go.WideShapes Go.ChangeAt Go.RowKit
theorem op_tests {op : ByteArray} {l : List UInt8} (h : op.data.toList = l) (l' : List UInt8) : (op.toList == l') = decide (l = l') := by
 rw [Lib.toList_data, h]
 by_cases e : l = l'
 ·simp [e]
 ·rw [beq_eq_false_iff_ne.2 e, decide_eq_false e]
def RecSays (l : List UInt8) (a b : Int) (w : World) (e : Ending) (w' : World) : Prop := e = .returned (.tuple #[.int .i64 (reckonVal l a b), errV (reckonErr l a b)]) ∧ w = w'
theorem RecSays.ok {l : List UInt8} {a b n : Int} {w : World} (h : exact_ l a b = some n) (hf : fits n) (ho : isOp l = true) : RecSays l a b w (.returned (.tuple #[.int .i64 n, .nilIface])) w := by
 unfold RecSays reckonVal reckonErr; rw [ho, h]; simp [hf, errV_zero]
theorem RecSays.over {l : List UInt8} {a b n : Int} {w : World} (h : exact_ l a b = some n) (hf : ¬ fits n) (ho : isOp l = true) : RecSays l a b w (.returned (.tuple #[.int .i64 0, .iface 32 (.int .i64 9)])) w := by
 unfold RecSays reckonVal reckonErr; rw [ho, h]; simp [hf, errV]
theorem RecSays.none {l : List UInt8} {a b : Int} {w : World} (h : exact_ l a b = none) (ho : isOp l = true) : RecSays l a b w (.returned (.tuple #[.int .i64 0, .iface 32 (.int .i64 9)])) w := by
 unfold RecSays reckonVal reckonErr; rw [ho, h]; simp [errV]
theorem exact_no {l : List UInt8} {a b : Int} (ho : isOp l = false) : exact_ l a b = none := by
 unfold isOp at ho; simp at ho; unfold exact_; simp [ho]
theorem RecSays.bad {l : List UInt8} {a b : Int} {w : World} (ho : isOp l = false) : RecSays l a b w (.returned (.tuple #[.int .i64 0, .iface 32 (.int .i64 1)])) w := by
 unfold RecSays reckonVal reckonErr; rw [ho, exact_no ho]; simp [errV]
set_option maxHeartbeats 1000000 in
theorem rec_add_ok (op : ByteArray) (a b : Int) (w : World) (h : op.data.toList = [43]) (hf : fits (a + b)) :
  Calls Tryz.prog 38 #[.string op, .int .i64 a, .int .i64 b] w (RecSays [43] a b w) := by
 have e0 : (op.toList == [43]) = true := op_tests h _
 have HF := Lib.hid hf
 unfold fits lo63 hi63 at hf
 obtain ⟨f1, f2⟩ := hf
 have t := add_test_ok (a := a) (b := b)
 clear h
 go_enter Tryz.func38, Tryz.ntmps38
 go_wp2_with fail
 go_ret2
 exact .ok rfl HF.out rfl
set_option maxHeartbeats 1000000 in
theorem rec_add_over (op : ByteArray) (a b : Int) (w : World) (h : op.data.toList = [43]) (ha : fits a) (hb : fits b) (hf : ¬ fits (a + b)) :
  Calls Tryz.prog 38 #[.string op, .int .i64 a, .int .i64 b] w (RecSays [43] a b w) := by
 have e0 : (op.toList == [43]) = true := op_tests h _
 have t := add_test_over ha hb hf
 have HF := Lib.hid hf
 clear h ha hb hf
 go_enter Tryz.func38, Tryz.ntmps38
 go_wp2_with fail
 go_ret2
 exact .over rfl HF.out rfl
set_option maxHeartbeats 1000000 in
theorem rec_sub_ok (op : ByteArray) (a b : Int) (w : World) (h : op.data.toList = [45]) (hf : fits (a - b)) :
  Calls Tryz.prog 38 #[.string op, .int .i64 a, .int .i64 b] w (RecSays [45] a b w) := by
 have e0 : (op.toList == [43]) = false := op_tests h _
 have e1 : (op.toList == [45]) = true := op_tests h _
 have HF := Lib.hid hf
 unfold fits lo63 hi63 at hf
 obtain ⟨f1, f2⟩ := hf
 have t := sub_test_ok (a := a) (b := b)
 clear h
 go_enter Tryz.func38, Tryz.ntmps38
 go_wp2_with fail
 go_ret2
 exact .ok rfl HF.out rfl
set_option maxHeartbeats 1000000 in
theorem rec_sub_over (op : ByteArray) (a b : Int) (w : World) (h : op.data.toList = [45]) (ha : fits a) (hb : fits b) (hf : ¬ fits (a - b)) :
  Calls Tryz.prog 38 #[.string op, .int .i64 a, .int .i64 b] w (RecSays [45] a b w) := by
 have e0 : (op.toList == [43]) = false := op_tests h _
 have e1 : (op.toList == [45]) = true := op_tests h _
 have t := sub_test_over ha hb hf
 have HF := Lib.hid hf
 clear h ha hb hf
 go_enter Tryz.func38, Tryz.ntmps38
 go_wp2_with fail
 go_ret2
 exact .over rfl HF.out rfl
set_option maxHeartbeats 1000000 in
theorem rec_mul (op : ByteArray) (a b : Int) (w : World) (h : op.data.toList = [42]) (ha : fits a) (hb : fits b) :
  Calls Tryz.prog 38 #[.string op, .int .i64 a, .int .i64 b] w (RecSays [42] a b w) := by
 have e0 : (op.toList == [43]) = false := op_tests h _
 have e1 : (op.toList == [45]) = false := op_tests h _
 have e2 : (op.toList == [42]) = true := op_tests h _
 have HM := Lib.hid (fun w => mul_any a b w ha hb)
 clear h ha hb
 go_enter Tryz.func38, Tryz.ntmps38
 go_wp2_with fail
 refine (HM.out _).mono ?_
 rintro e w' ⟨⟨n, ok, rfl, hk, hn⟩, rfl⟩
 by_cases hf : fits (a * b)
 ·obtain rfl := hn hf
  obtain rfl : ok = true := by rw [hk]; simpa using hf
  have HF := Lib.hid hf
  clear hk hn hf
  go_wp2_with fail
  go_ret2
  exact .ok rfl HF.out rfl
 ·obtain rfl : ok = false := by rw [hk]; simpa using hf
  have HF := Lib.hid hf
  clear hk hn hf
  go_wp2_with fail
  go_ret2
  exact .over rfl HF.out rfl
set_option maxHeartbeats 1000000 in
theorem rec_div_0 (op : ByteArray) (a b : Int) (w : World) (h : op.data.toList = [47]) (h0 : b = 0) :
  Calls Tryz.prog 38 #[.string op, .int .i64 a, .int .i64 b] w (RecSays [47] a b w) := by
 have e0 : (op.toList == [43]) = false := op_tests h _
 have e1 : (op.toList == [45]) = false := op_tests h _
 have e2 : (op.toList == [42]) = false := op_tests h _
 have e3 : (op.toList == [47]) = true := op_tests h _
 have t : (b != 0) = false := by simp [h0]
 have H0 := Lib.hid h0
 clear h h0
 go_enter Tryz.func38, Tryz.ntmps38
 go_wp2_with fail
 go_ret2
 exact .none (by unfold exact_; simp [H0.out]) rfl
set_option maxHeartbeats 1000000 in
theorem rec_rem_0 (op : ByteArray) (a b : Int) (w : World) (h : op.data.toList = [37]) (h0 : b = 0) :
  Calls Tryz.prog 38 #[.string op, .int .i64 a, .int .i64 b] w (RecSays [37] a b w) := by
 have e0 : (op.toList == [43]) = false := op_tests h _
 have e1 : (op.toList == [45]) = false := op_tests h _
 have e2 : (op.toList == [42]) = false := op_tests h _
 have e3 : (op.toList == [47]) = false := op_tests h _
 have e4 : (op.toList == [37]) = true := op_tests h _
 have t : (b != 0) = false := by simp [h0]
 have H0 := Lib.hid h0
 clear h h0
 go_enter Tryz.func38, Tryz.ntmps38
 go_wp2_with fail
 go_ret2
 exact .none (by unfold exact_; simp [H0.out]) rfl
set_option maxHeartbeats 1000000 in
theorem rec_div_over (op : ByteArray) (w : World) (h : op.data.toList = [47]) :
  Calls Tryz.prog 38 #[.string op, .int .i64 (-9223372036854775808), .int .i64 (-1)] w (RecSays [47] (-9223372036854775808) (-1) w) := by
 have e0 : (op.toList == [43]) = false := op_tests h _
 have e1 : (op.toList == [45]) = false := op_tests h _
 have e2 : (op.toList == [42]) = false := op_tests h _
 have e3 : (op.toList == [47]) = true := op_tests h _
 have e4 : (op.toList == [37]) = false := op_tests h _
 clear h
 go_enter Tryz.func38, Tryz.ntmps38
 go_wp2_with fail
 go_ret2
 exact .over rfl (by decide) rfl
theorem wrap_id {n : Int} (h : fits n) : wrap64 n = n := by
 unfold fits lo63 hi63 at h; unfold wrap64; omega
theorem fits_div {a b : Int} (ha : fits a) (h0 : b ≠ 0) (h1 : b ≠ -1) : fits (a.tdiv b) := by
 unfold fits lo63 hi63 at *
 by_cases e : b = 1
 ·subst e; rw [Int.tdiv_one]; exact ha
 ·have h : (a.tdiv b).natAbs = a.natAbs / b.natAbs := Int.natAbs_tdiv a b
  have h2 : a.natAbs / b.natAbs ≤ a.natAbs / 2 := Nat.div_le_div_left (by omega) (by omega)
  generalize a.natAbs / b.natAbs = d at h h2
  generalize a.tdiv b = q at h ⊢
  omega
theorem fits_mod {a b : Int} (hb : fits b) (h0 : b ≠ 0) : fits (a.tmod b) := by
 unfold fits lo63 hi63 at *
 have h : (a.tmod b).natAbs = a.natAbs % b.natAbs := Int.natAbs_tmod a b
 have h2 : a.natAbs % b.natAbs < b.natAbs := Nat.mod_lt _ (by omega)
 omega
set_option maxHeartbeats 1000000 in
theorem rec_div_least_no (op : ByteArray) (a b : Int) (w : World) (h : op.data.toList = [47]) (ha : fits a) (h0 : b ≠ 0) (h1 : b ≠ -1) (h2 : (a != -9223372036854775808) = true) :
  Calls Tryz.prog 38 #[.string op, .int .i64 a, .int .i64 b] w (RecSays [47] a b w) := by
 have e0 : (op.toList == [43]) = false := op_tests h _
 have e1 : (op.toList == [45]) = false := op_tests h _
 have e2 : (op.toList == [42]) = false := op_tests h _
 have e3 : (op.toList == [47]) = true := op_tests h _
 have e4 : (op.toList == [37]) = false := op_tests h _
 have t0 : (b != 0) = true := by simpa using h0
 have t1 : (b != -1) = true := by simpa using h1
 have t2 : (b == 0) = false := by simpa using h0
 have H0 := Lib.hid h0
 have HF := Lib.hid (fits_div ha h0 h1)
 have t3 := wrap_id (fits_div ha h0 h1)
 clear h h0 h1 ha
 go_enter Tryz.func38, Tryz.ntmps38
 go_wp2_with fail
 go_ret2
 rw [t3]
 exact .ok (by unfold exact_; simp [H0.out]) HF.out rfl
set_option maxHeartbeats 1000000 in
theorem rec_div_least (op : ByteArray) (a b : Int) (w : World) (h : op.data.toList = [47]) (ha : fits a) (h0 : b ≠ 0) (h1 : b ≠ -1) (h2 : (a != -9223372036854775808) = false) :
  Calls Tryz.prog 38 #[.string op, .int .i64 a, .int .i64 b] w (RecSays [47] a b w) := by
 have e0 : (op.toList == [43]) = false := op_tests h _
 have e1 : (op.toList == [45]) = false := op_tests h _
 have e2 : (op.toList == [42]) = false := op_tests h _
 have e3 : (op.toList == [47]) = true := op_tests h _
 have e4 : (op.toList == [37]) = false := op_tests h _
 have t0 : (b != 0) = true := by simpa using h0
 have t1 : (b != -1) = true := by simpa using h1
 have t2 : (b == 0) = false := by simpa using h0
 have H0 := Lib.hid h0
 have HF := Lib.hid (fits_div ha h0 h1)
 have t3 := wrap_id (fits_div ha h0 h1)
 clear h h0 h1 ha
 go_enter Tryz.func38, Tryz.ntmps38
 go_wp2_with fail
 go_ret2
 rw [t3]
 exact .ok (by unfold exact_; simp [H0.out]) HF.out rfl
set_option maxHeartbeats 1000000 in
theorem rec_div_m1 (op : ByteArray) (a b : Int) (w : World) (h : op.data.toList = [47]) (h1 : b = -1) (h2 : (a != -9223372036854775808) = true) (ha : fits a) :
  Calls Tryz.prog 38 #[.string op, .int .i64 a, .int .i64 b] w (RecSays [47] a b w) := by
 have e0 : (op.toList == [43]) = false := op_tests h _
 have e1 : (op.toList == [45]) = false := op_tests h _
 have e2 : (op.toList == [42]) = false := op_tests h _
 have e3 : (op.toList == [47]) = true := op_tests h _
 have e4 : (op.toList == [37]) = false := op_tests h _
 subst h1
 have hf : fits (a.tdiv (-1)) := by
  have e : a ≠ -9223372036854775808 := by simpa using h2
  have : a.tdiv (-1) = -a := by rw [Int.tdiv_neg, Int.tdiv_one]
  unfold fits lo63 hi63 at *; omega
 rw [show a.tdiv (-1) = -a by rw [Int.tdiv_neg, Int.tdiv_one]] at hf
 have HF := Lib.hid hf
 have t4 := wrap_id hf
 clear h hf ha
 go_enter Tryz.func38, Tryz.ntmps38
 go_wp2_with fail
 go_ret2
 rw [t4]
 exact .ok (by unfold exact_; simp) HF.out rfl
set_option maxHeartbeats 1000000 in
theorem rec_rem (op : ByteArray) (a b : Int) (w : World) (h : op.data.toList = [37]) (hb : fits b) (h0 : b ≠ 0) :
  Calls Tryz.prog 38 #[.string op, .int .i64 a, .int .i64 b] w (RecSays [37] a b w) := by
 have e0 : (op.toList == [43]) = false := op_tests h _
 have e1 : (op.toList == [45]) = false := op_tests h _
 have e2 : (op.toList == [42]) = false := op_tests h _
 have e3 : (op.toList == [47]) = false := op_tests h _
 have e4 : (op.toList == [37]) = true := op_tests h _
 have t0 : (b != 0) = true := by simpa using h0
 have t2 : (b == 0) = false := by simpa using h0
 have H0 := Lib.hid h0
 have HF := Lib.hid (fits_mod (a := a) hb h0)
 have t3 := wrap_id HF.out
 clear h h0 hb
 go_enter Tryz.func38, Tryz.ntmps38
 go_wp2_with fail
 go_ret2
 exact .ok (by unfold exact_; simp [H0.out]) HF.out rfl
set_option maxHeartbeats 1000000 in
theorem rec_bad (op : ByteArray) (a b : Int) (w : World) (h : isOp op.data.toList = false) :
  Calls Tryz.prog 38 #[.string op, .int .i64 a, .int .i64 b] w (RecSays op.data.toList a b w) := by
 have H := Lib.hid h
 unfold isOp at h
 simp only [Bool.or_eq_false_iff, decide_eq_false_iff_not] at h
 obtain ⟨⟨⟨⟨h0, h1⟩, h2⟩, h3⟩, h4⟩ := h
 have e0 : (op.toList == [43]) = false := by rw [op_tests rfl]; simpa using h0
 have e1 : (op.toList == [45]) = false := by rw [op_tests rfl]; simpa using h1
 have e2 : (op.toList == [42]) = false := by rw [op_tests rfl]; simpa using h2
 have e3 : (op.toList == [47]) = false := by rw [op_tests rfl]; simpa using h3
 have e4 : (op.toList == [37]) = false := by rw [op_tests rfl]; simpa using h4
 clear h0 h1 h2 h3 h4
 go_enter Tryz.func38, Tryz.ntmps38
 go_wp2_with fail
 go_ret2
 exact .bad H.out
theorem reckon_any (op : ByteArray) (a b : Int) (w : World) (ha : fits a) (hb : fits b) :
  Calls Tryz.prog 38 #[.string op, .int .i64 a, .int .i64 b] w (RecSays op.data.toList a b w) := by
 by_cases h0 : op.data.toList = [43]
 ·rw [h0]
  by_cases hf : fits (a + b)
  ·exact rec_add_ok op a b w h0 hf
  ·exact rec_add_over op a b w h0 ha hb hf
 by_cases h1 : op.data.toList = [45]
 ·rw [h1]
  by_cases hf : fits (a - b)
  ·exact rec_sub_ok op a b w h1 hf
  ·exact rec_sub_over op a b w h1 ha hb hf
 by_cases h2 : op.data.toList = [42]
 ·rw [h2]; exact rec_mul op a b w h2 ha hb
 by_cases h3 : op.data.toList = [47]
 ·rw [h3]
  by_cases hz : b = 0
  ·exact rec_div_0 op a b w h3 hz
  ·by_cases hm : b = -1
   ·by_cases hl : a = -9223372036854775808
    ·subst hl hm; exact rec_div_over op w h3
    ·exact rec_div_m1 op a b w h3 hm (by simpa using hl) ha
   ·by_cases hl : a = -9223372036854775808
    ·exact rec_div_least op a b w h3 ha hz hm (by simpa using hl)
    ·exact rec_div_least_no op a b w h3 ha hz hm (by simpa using hl)
 by_cases h4 : op.data.toList = [37]
 ·rw [h4]
  by_cases hz : b = 0
  ·exact rec_rem_0 op a b w h4 hz
  ·exact rec_rem op a b w h4 hb hz
 exact rec_bad op a b w (by unfold isOp; simp [h0, h1, h2, h3, h4])
theorem reckon_at (op : ByteArray) (l : List UInt8) (h : op.data.toList = l) (a b : Int) (w : World) (ha : fits a) (hb : fits b) :
  Calls Tryz.prog 38 #[.string op, .int .i64 a, .int .i64 b] w fun e w' => e = .returned (.tuple #[.int .i64 (reckonVal l a b), errV (reckonErr l a b)]) ∧ w = w' := by
 subst h; exact reckon_any op a b w ha hb
end Go.Proofs.YtpbbkpfaphjdoaaGreatDoor
