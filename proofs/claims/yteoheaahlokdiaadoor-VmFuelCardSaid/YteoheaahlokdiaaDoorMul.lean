/- val.mul, walked: a product, and whether it is a number. -/
import Derived.Test.YteoheaahlokdiaaDoorReckonFn
import Derived.Test.YteoheaahlokdiaaDoorShelf
namespace Go.Proofs.YteoheaahlokdiaaDoor
open Go.ChangeShapes Go.WideShapes Go.ChangeAt Go.RowKit

theorem vneg_any (a : Int) (w : World) :
    Calls Tryd.prog 187 #[.int .i64 a] w fun e w' => e = .returned (.bool (decide (a < 0))) ∧ w = w' := by
  go_enter Tryd.func187, Tryd.ntmps187
  go_wp2
  go_ret
  exact ⟨rfl, rfl⟩

theorem Mul64At.mul64 (x y : Nat) (hx : x < 18446744073709551616) (hy : y < 18446744073709551616) (w : World) :
    Calls Tryd.prog 188 #[.int .u64 x, .int .u64 y] w fun e w' => e = .returned (.tuple #[.int .u64 ((x * y / 18446744073709551616 : Nat) : Int), .int .u64 ((x * y % 18446744073709551616 : Nat) : Int)]) ∧ w = w' :=
  (Tryd.bits_Mul64 x y hx hy w).mono fun _ _ ⟨h1, h2⟩ => ⟨h1, h2.symm⟩
theorem u64_nat (n : Nat) (h : n < 18446744073709551616) : IntKind.u64.wrap (n : Int) = (n : Int) := by rw [IntKind.wrap_u64]; omega

/-- What mul tells of a product p that has just been told: a number, and whether it is the product. -/
def MulSays (p : Int) (w : World) (e : Ending) (w' : World) : Prop := (∃ n ok, e = .returned (.tuple #[.int .i64 n, .bool ok]) ∧ ok = decide (fits p) ∧ (fits p → n = p)) ∧ w = w'

theorem u64_neg (x : Nat) (h0 : 0 < x) (h : x ≤ 9223372036854775808) : IntKind.u64.wrap (-(x : Int)) = 18446744073709551616 - (x : Int) := by rw [IntKind.wrap_u64]; omega
theorem u64_negneg (x : Nat) (h0 : 0 < x) (h : x ≤ 9223372036854775808) : IntKind.u64.wrap (-(18446744073709551616 - (x : Int))) = (x : Int) := by rw [IntKind.wrap_u64]; omega
set_option maxHeartbeats 1000000 in
theorem mul_pp (x y : Nat) (w : World) (ha : fits ((x : Int))) (hb : fits ((y : Int))) :
    Calls Tryd.prog 164 #[.int .i64 ((x : Int)), .int .i64 ((y : Int))] w (MulSays ((x : Int) * (y : Int)) w) := by
  have d1 : decide ((x : Int) < 0) = false := by simp
  have d2 : decide ((y : Int) < 0) = false := by simp
  unfold fits lo63 hi63 at ha hb
  have hx : x < 18446744073709551616 := by omega
  have hy : y < 18446744073709551616 := by omega
  have ux := u64_nat x hx
  have uy := u64_nat y hy
  have hm : x * y = x * y / 18446744073709551616 * 18446744073709551616 + x * y % 18446744073709551616 := by omega
  have hlo : x * y % 18446744073709551616 < 18446744073709551616 := Nat.mod_lt _ (by decide)
  have MB := Lib.hid (@Mul64At.mul64 x y hx hy)
  generalize x * y / 18446744073709551616 = hi at hm MB
  generalize x * y % 18446744073709551616 = lo at hm hlo MB
  have HM := Lib.hid (show (x : Int) * (y : Int) = (hi * 18446744073709551616 + lo : Int) by rw [← Int.natCast_mul, hm]; omega)
  clear hm ha hb
  by_cases h0 : hi = 0
  · subst h0
    by_cases h1 : lo < 9223372036854775808
    all_goals
      go_enter Tryd.func164, Tryd.ntmps164
      go_wp2_with (first
        | (go_at_call 187; refine (vneg_any _ _).mono ?_; rintro e w' ⟨rfl, rfl⟩; simp only [d1, d2]))
      refine (MB.out _).mono ?_
      rintro e w' ⟨rfl, rfl⟩
      go_wp2_with (first
        | (go_at_call 187; refine (vneg_any _ _).mono ?_; rintro e w' ⟨rfl, rfl⟩; simp only [d1, d2]))
      go_ret2
      refine ⟨⟨_, _, rfl, ?_, ?_⟩, rfl⟩
      · rw [HM.out, Bool.eq_iff_iff, decide_eq_true_iff, decide_eq_true_iff]; unfold fits lo63 hi63; omega
      · rw [HM.out]; unfold fits lo63 hi63; intro hf; omega
  · have h0' : ((hi : Int) == 0) = false := by simp; omega
    have h0'' : 0 < hi := by omega
    go_enter Tryd.func164, Tryd.ntmps164
    go_wp2_with (first
      | (go_at_call 187; refine (vneg_any _ _).mono ?_; rintro e w' ⟨rfl, rfl⟩; simp only [d1, d2]))
    refine (MB.out _).mono ?_
    rintro e w' ⟨rfl, rfl⟩
    go_wp2_with (first
      | (go_at_call 187; refine (vneg_any _ _).mono ?_; rintro e w' ⟨rfl, rfl⟩; simp only [d1, d2]))
    go_ret2
    refine ⟨⟨_, _, rfl, ?_, ?_⟩, rfl⟩
    · rw [HM.out]; symm; rw [decide_eq_false_iff_not]; unfold fits lo63 hi63; omega
    · rw [HM.out]; unfold fits lo63 hi63; intro hf; exfalso; omega

set_option maxHeartbeats 1000000 in
theorem mul_pn (x y : Nat) (w : World) (ha : fits ((x : Int))) (hb : fits (-(y : Int))) (py : 0 < y) :
    Calls Tryd.prog 164 #[.int .i64 ((x : Int)), .int .i64 (-(y : Int))] w (MulSays ((x : Int) * -(y : Int)) w) := by
  have d1 : decide ((x : Int) < 0) = false := by simp
  have d2 : decide (-(y : Int) < 0) = true := by simp; omega
  unfold fits lo63 hi63 at ha hb
  have hx : x < 18446744073709551616 := by omega
  have hy : y < 18446744073709551616 := by omega
  have ux := u64_nat x hx
  have uy := u64_neg y py (by omega)
  have vy := u64_negneg y py (by omega)
  have hm : x * y = x * y / 18446744073709551616 * 18446744073709551616 + x * y % 18446744073709551616 := by omega
  have hlo : x * y % 18446744073709551616 < 18446744073709551616 := Nat.mod_lt _ (by decide)
  have MB := Lib.hid (@Mul64At.mul64 x y hx hy)
  generalize x * y / 18446744073709551616 = hi at hm MB
  generalize x * y % 18446744073709551616 = lo at hm hlo MB
  have HM := Lib.hid (show (x : Int) * -(y : Int) = -(hi * 18446744073709551616 + lo : Int) by rw [Int.mul_neg, ← Int.natCast_mul, hm]; omega)
  clear hm ha hb
  by_cases h0 : hi = 0
  · subst h0
    by_cases h1 : lo < 9223372036854775809
    all_goals
      go_enter Tryd.func164, Tryd.ntmps164
      go_wp2_with (first
        | (go_at_call 187; refine (vneg_any _ _).mono ?_; rintro e w' ⟨rfl, rfl⟩; simp only [d1, d2]))
      refine (MB.out _).mono ?_
      rintro e w' ⟨rfl, rfl⟩
      go_wp2_with (first
        | (go_at_call 187; refine (vneg_any _ _).mono ?_; rintro e w' ⟨rfl, rfl⟩; simp only [d1, d2]))
      go_ret2
      refine ⟨⟨_, _, rfl, ?_, ?_⟩, rfl⟩
      · rw [HM.out, Bool.eq_iff_iff, decide_eq_true_iff, decide_eq_true_iff]; unfold fits lo63 hi63; omega
      · rw [HM.out]; unfold fits lo63 hi63; intro hf; unfold wrap64; rw [IntKind.wrap_u64]; omega
  · have h0' : ((hi : Int) == 0) = false := by simp; omega
    have h0'' : 0 < hi := by omega
    go_enter Tryd.func164, Tryd.ntmps164
    go_wp2_with (first
      | (go_at_call 187; refine (vneg_any _ _).mono ?_; rintro e w' ⟨rfl, rfl⟩; simp only [d1, d2]))
    refine (MB.out _).mono ?_
    rintro e w' ⟨rfl, rfl⟩
    go_wp2_with (first
      | (go_at_call 187; refine (vneg_any _ _).mono ?_; rintro e w' ⟨rfl, rfl⟩; simp only [d1, d2]))
    go_ret2
    refine ⟨⟨_, _, rfl, ?_, ?_⟩, rfl⟩
    · rw [HM.out]; symm; rw [decide_eq_false_iff_not]; unfold fits lo63 hi63; omega
    · rw [HM.out]; unfold fits lo63 hi63; intro hf; exfalso; omega

set_option maxHeartbeats 1000000 in
theorem mul_np (x y : Nat) (w : World) (ha : fits (-(x : Int))) (hb : fits ((y : Int))) (px : 0 < x) :
    Calls Tryd.prog 164 #[.int .i64 (-(x : Int)), .int .i64 ((y : Int))] w (MulSays (-(x : Int) * (y : Int)) w) := by
  have d1 : decide (-(x : Int) < 0) = true := by simp; omega
  have d2 : decide ((y : Int) < 0) = false := by simp
  unfold fits lo63 hi63 at ha hb
  have hx : x < 18446744073709551616 := by omega
  have hy : y < 18446744073709551616 := by omega
  have ux := u64_neg x px (by omega)
  have vx := u64_negneg x px (by omega)
  have uy := u64_nat y hy
  have hm : x * y = x * y / 18446744073709551616 * 18446744073709551616 + x * y % 18446744073709551616 := by omega
  have hlo : x * y % 18446744073709551616 < 18446744073709551616 := Nat.mod_lt _ (by decide)
  have MB := Lib.hid (@Mul64At.mul64 x y hx hy)
  generalize x * y / 18446744073709551616 = hi at hm MB
  generalize x * y % 18446744073709551616 = lo at hm hlo MB
  have HM := Lib.hid (show -(x : Int) * (y : Int) = -(hi * 18446744073709551616 + lo : Int) by rw [Int.neg_mul, ← Int.natCast_mul, hm]; omega)
  clear hm ha hb
  by_cases h0 : hi = 0
  · subst h0
    by_cases h1 : lo < 9223372036854775809
    all_goals
      go_enter Tryd.func164, Tryd.ntmps164
      go_wp2_with (first
        | (go_at_call 187; refine (vneg_any _ _).mono ?_; rintro e w' ⟨rfl, rfl⟩; simp only [d1, d2]))
      refine (MB.out _).mono ?_
      rintro e w' ⟨rfl, rfl⟩
      go_wp2_with (first
        | (go_at_call 187; refine (vneg_any _ _).mono ?_; rintro e w' ⟨rfl, rfl⟩; simp only [d1, d2]))
      go_ret2
      refine ⟨⟨_, _, rfl, ?_, ?_⟩, rfl⟩
      · rw [HM.out, Bool.eq_iff_iff, decide_eq_true_iff, decide_eq_true_iff]; unfold fits lo63 hi63; omega
      · rw [HM.out]; unfold fits lo63 hi63; intro hf; unfold wrap64; rw [IntKind.wrap_u64]; omega
  · have h0' : ((hi : Int) == 0) = false := by simp; omega
    have h0'' : 0 < hi := by omega
    go_enter Tryd.func164, Tryd.ntmps164
    go_wp2_with (first
      | (go_at_call 187; refine (vneg_any _ _).mono ?_; rintro e w' ⟨rfl, rfl⟩; simp only [d1, d2]))
    refine (MB.out _).mono ?_
    rintro e w' ⟨rfl, rfl⟩
    go_wp2_with (first
      | (go_at_call 187; refine (vneg_any _ _).mono ?_; rintro e w' ⟨rfl, rfl⟩; simp only [d1, d2]))
    go_ret2
    refine ⟨⟨_, _, rfl, ?_, ?_⟩, rfl⟩
    · rw [HM.out]; symm; rw [decide_eq_false_iff_not]; unfold fits lo63 hi63; omega
    · rw [HM.out]; unfold fits lo63 hi63; intro hf; exfalso; omega

set_option maxHeartbeats 1000000 in
theorem mul_nn (x y : Nat) (w : World) (ha : fits (-(x : Int))) (hb : fits (-(y : Int))) (px : 0 < x) (py : 0 < y) :
    Calls Tryd.prog 164 #[.int .i64 (-(x : Int)), .int .i64 (-(y : Int))] w (MulSays (-(x : Int) * -(y : Int)) w) := by
  have d1 : decide (-(x : Int) < 0) = true := by simp; omega
  have d2 : decide (-(y : Int) < 0) = true := by simp; omega
  unfold fits lo63 hi63 at ha hb
  have hx : x < 18446744073709551616 := by omega
  have hy : y < 18446744073709551616 := by omega
  have ux := u64_neg x px (by omega)
  have vx := u64_negneg x px (by omega)
  have uy := u64_neg y py (by omega)
  have vy := u64_negneg y py (by omega)
  have hm : x * y = x * y / 18446744073709551616 * 18446744073709551616 + x * y % 18446744073709551616 := by omega
  have hlo : x * y % 18446744073709551616 < 18446744073709551616 := Nat.mod_lt _ (by decide)
  have MB := Lib.hid (@Mul64At.mul64 x y hx hy)
  generalize x * y / 18446744073709551616 = hi at hm MB
  generalize x * y % 18446744073709551616 = lo at hm hlo MB
  have HM := Lib.hid (show -(x : Int) * -(y : Int) = (hi * 18446744073709551616 + lo : Int) by rw [Int.neg_mul_neg, ← Int.natCast_mul, hm]; omega)
  clear hm ha hb
  by_cases h0 : hi = 0
  · subst h0
    by_cases h1 : lo < 9223372036854775808
    all_goals
      go_enter Tryd.func164, Tryd.ntmps164
      go_wp2_with (first
        | (go_at_call 187; refine (vneg_any _ _).mono ?_; rintro e w' ⟨rfl, rfl⟩; simp only [d1, d2]))
      refine (MB.out _).mono ?_
      rintro e w' ⟨rfl, rfl⟩
      go_wp2_with (first
        | (go_at_call 187; refine (vneg_any _ _).mono ?_; rintro e w' ⟨rfl, rfl⟩; simp only [d1, d2]))
      go_ret2
      refine ⟨⟨_, _, rfl, ?_, ?_⟩, rfl⟩
      · rw [HM.out, Bool.eq_iff_iff, decide_eq_true_iff, decide_eq_true_iff]; unfold fits lo63 hi63; omega
      · rw [HM.out]; unfold fits lo63 hi63; intro hf; omega
  · have h0' : ((hi : Int) == 0) = false := by simp; omega
    have h0'' : 0 < hi := by omega
    go_enter Tryd.func164, Tryd.ntmps164
    go_wp2_with (first
      | (go_at_call 187; refine (vneg_any _ _).mono ?_; rintro e w' ⟨rfl, rfl⟩; simp only [d1, d2]))
    refine (MB.out _).mono ?_
    rintro e w' ⟨rfl, rfl⟩
    go_wp2_with (first
      | (go_at_call 187; refine (vneg_any _ _).mono ?_; rintro e w' ⟨rfl, rfl⟩; simp only [d1, d2]))
    go_ret2
    refine ⟨⟨_, _, rfl, ?_, ?_⟩, rfl⟩
    · rw [HM.out]; symm; rw [decide_eq_false_iff_not]; unfold fits lo63 hi63; omega
    · rw [HM.out]; unfold fits lo63 hi63; intro hf; exfalso; omega

theorem mul_any (a b : Int) (w : World) (ha : fits a) (hb : fits b) :
    Calls Tryd.prog 164 #[.int .i64 a, .int .i64 b] w (MulSays (a * b) w) := by
  by_cases h1 : a < 0 <;> by_cases h2 : b < 0
  · obtain ⟨x, rfl⟩ : ∃ x : Nat, a = -(x : Int) := ⟨a.natAbs, by omega⟩
    obtain ⟨y, rfl⟩ : ∃ y : Nat, b = -(y : Int) := ⟨b.natAbs, by omega⟩
    exact mul_nn x y w ha hb (by omega) (by omega)
  · obtain ⟨x, rfl⟩ : ∃ x : Nat, a = -(x : Int) := ⟨a.natAbs, by omega⟩
    obtain ⟨y, rfl⟩ : ∃ y : Nat, b = (y : Int) := ⟨b.natAbs, by omega⟩
    exact mul_np x y w ha hb (by omega)
  · obtain ⟨x, rfl⟩ : ∃ x : Nat, a = (x : Int) := ⟨a.natAbs, by omega⟩
    obtain ⟨y, rfl⟩ : ∃ y : Nat, b = -(y : Int) := ⟨b.natAbs, by omega⟩
    exact mul_pn x y w ha hb (by omega)
  · obtain ⟨x, rfl⟩ : ∃ x : Nat, a = (x : Int) := ⟨a.natAbs, by omega⟩
    obtain ⟨y, rfl⟩ : ∃ y : Nat, b = (y : Int) := ⟨b.natAbs, by omega⟩
    exact mul_pp x y w ha hb
end Go.Proofs.YteoheaahlokdiaaDoor
