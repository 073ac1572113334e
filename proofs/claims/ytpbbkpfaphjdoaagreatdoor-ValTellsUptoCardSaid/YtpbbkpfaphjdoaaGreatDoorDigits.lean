/- sluiceref1.Digits, walked: a number's digits. -/
import Derived.Test.YtpbbkpfaphjdoaaGreatDoorVals
import Derived.Lib.ItoaMem
namespace Go.Proofs.YtpbbkpfaphjdoaaGreatDoor
open Go.ChangeShapes Go.WideShapes Go.ChangeAt Go.RowKit

theorem bytes_app (a b : List UInt8) : (⟨a.toArray⟩ : ByteArray) ++ (⟨b.toArray⟩ : ByteArray) = ⟨(a ++ b).toArray⟩ := by
  apply ByteArray.ext
  simp
theorem dec_next {n : Nat} (h : ¬ n < 10) : Lib.decDigits n = Lib.decDigits (n / 10) ++ [UInt8.ofNat (48 + n % 10)] := by rw [Lib.decDigits, dif_neg h]
theorem dec_one {n : Nat} (h : n < 10) : Lib.decDigits n = [UInt8.ofNat (48 + n)] := by rw [Lib.decDigits, dif_pos h]
theorem dec_len : ∀ (m n : Nat), n ≤ m → (Lib.decDigits n).length ≤ n / 10 + 1
  | 0, n, h => by rw [dec_one (by omega)]; show 1 ≤ _; omega
  | m + 1, n, h => by
    by_cases h10 : n < 10
    · rw [dec_one h10]; show 1 ≤ _; omega
    · have := dec_len m (n / 10) (by omega)
      rw [dec_next h10, List.length_append]
      show _ + 1 ≤ _
      omega
def DigAt (m : Nat) : Prop := ∀ n : Nat, n ≤ m → n ≤ 18446744073709551615 → ∀ w : World, Calls Tryz.prog 134 #[.int .u64 n] w fun e w' => e = .returned (.string ⟨(Lib.decDigits n).toArray⟩) ∧ w' = w
set_option maxHeartbeats 4000000 in
set_option maxRecDepth 100000 in
theorem dig_small (n : Nat) (h : n < 10) (w : World) : Calls Tryz.prog 134 #[.int .u64 n] w fun e w' => e = .returned (.string ⟨(Lib.decDigits n).toArray⟩) ∧ w' = w := by
  rw [dec_one h]
  have h0 : n = 0 ∨ n = 1 ∨ n = 2 ∨ n = 3 ∨ n = 4 ∨ n = 5 ∨ n = 6 ∨ n = 7 ∨ n = 8 ∨ n = 9 := by omega
  clear h
  rcases h0 with rfl | rfl | rfl | rfl | rfl | rfl | rfl | rfl | rfl | rfl
  all_goals
    go_enter Tryz.func134, Tryz.ntmps134
    go_wp2_with fail
    go_ret
    exact ⟨rfl, rfl⟩
set_option maxHeartbeats 4000000 in
set_option maxRecDepth 100000 in
theorem dig_step (m : Nat) (ih : DigAt m) (n : Nat) (h : ¬ n < 10) (hm : n ≤ m + 1) (hn : n ≤ 18446744073709551615) (w : World) : Calls Tryz.prog 134 #[.int .u64 n] w fun e w' => e = .returned (.string ⟨(Lib.decDigits n).toArray⟩) ∧ w' = w := by
  rw [dec_next h]
  have T := Lib.hid (ih (n / 10) (by omega) (by omega) w)
  obtain ⟨d, hd⟩ : ∃ d, d = n % 10 := ⟨_, rfl⟩
  obtain ⟨q, hq⟩ : ∃ q, q = n / 10 := ⟨_, rfl⟩
  rw [← hq] at T
  rw [← hd, ← hq]
  have e1 : (n : Int) % 10 = (d : Int) := by omega
  have e2 : (n : Int) / 10 = (q : Int) := by omega
  have e3 : (n : Int).tmod 10 = (d : Int) := by rw [Int.tmod_eq_emod_of_nonneg (by omega)]; exact e1
  have e4 : (n : Int).tdiv 10 = (q : Int) := by rw [Int.tdiv_eq_ediv_of_nonneg (by omega)]; exact e2
  have e5 : n % 10 = d := hd.symm
  have e6 : n / 10 = q := hq.symm
  have e7 : decide (n < 10) = false := decide_eq_false h
  have e8 : decide ((n : Int) < 10) = false := decide_eq_false (by omega)
  have h0 : d = 0 ∨ d = 1 ∨ d = 2 ∨ d = 3 ∨ d = 4 ∨ d = 5 ∨ d = 6 ∨ d = 7 ∨ d = 8 ∨ d = 9 := by omega
  have hqb : q ≤ 18446744073709551615 := by omega
  have hds : ¬ 9223372036854775807 < (Lib.decDigits q).length + 1 := by have := dec_len q q (Nat.le_refl _); omega
  generalize Lib.decDigits q = ds at T hds ⊢
  clear ih hm hd hq
  go_enter Tryz.func134, Tryz.ntmps134
  go_wp2_with fail
  refine (T.out).mono ?_
  rintro e w' ⟨rfl, rfl⟩
  clear e1 e2 e3 e4 e5 e6 e7 e8 h
  rcases h0 with rfl | rfl | rfl | rfl | rfl | rfl | rfl | rfl | rfl | rfl
  all_goals
    go_wp2_with fail
    go_ret
    exact ⟨congrArg Ending.returned (congrArg Value.string (bytes_app ds _)), rfl⟩
theorem dig_any : ∀ m : Nat, DigAt m
  | 0 => fun n h _ w => dig_small n (by omega) w
  | m + 1 => fun n h hn w => by
    by_cases h10 : n < 10
    · exact dig_small n h10 w
    · exact dig_step m (dig_any m) n h10 h hn w
set_option maxHeartbeats 4000000 in
set_option maxRecDepth 100000 in
theorem digits_any (n : Int) (h0 : -9223372036854775808 ≤ n) (h1 : n ≤ 9223372036854775807) (w : World) : Calls Tryz.prog 63 #[.int .i64 n] w fun e w' => e = .returned (.string ⟨(Lib.itoa n).toArray⟩) ∧ w' = w := by
  by_cases hn : n < 0
  · have d0 : decide (n < 0) = true := decide_eq_true hn
    have T := Lib.hid (dig_any n.natAbs n.natAbs (Nat.le_refl _) (by omega) w)
    have E := Lib.hid (show Lib.itoa n = 45 :: Lib.decDigits n.natAbs by unfold Lib.itoa; rw [if_pos hn])
    obtain ⟨q, hq⟩ : ∃ q : Nat, q = n.natAbs := ⟨_, rfl⟩
    rw [← hq] at T E
    have hds : ¬ 9223372036854775807 < (Lib.decDigits q).length + 1 := by have := dec_len q q (Nat.le_refl _); omega
    have hds2 : ¬ 9223372036854775807 < 1 + (Lib.decDigits q).length := by omega
    rw [E.out]
    generalize Lib.decDigits q = ds at T hds hds2 ⊢
    clear E
    have e1 : IntKind.u64.wrap (-(n + 1)) = ((q : Int) - 1) := by rw [IntKind.wrap_u64]; omega
    have e2 : IntKind.u64.wrap (q : Int) = (q : Int) := by rw [IntKind.wrap_u64]; omega
    clear hq
    go_enter Tryz.func63, Tryz.ntmps63
    go_wp2_with fail
    refine (T.out).mono ?_
    rintro e w' ⟨rfl, rfl⟩
    go_wp2_with fail
    go_ret
    exact ⟨congrArg Ending.returned (congrArg Value.string (bytes_app [45] _)), rfl⟩
  · have d0 : decide (n < 0) = false := decide_eq_false hn
    obtain ⟨q, rfl⟩ : ∃ q : Nat, n = q := ⟨n.toNat, by omega⟩
    have T := Lib.hid (dig_any q q (Nat.le_refl _) (by omega) w)
    rw [Lib.itoa_nonneg]
    have e1 : IntKind.u64.wrap (q : Int) = (q : Int) := by rw [IntKind.wrap_u64]; omega
    clear hn
    go_enter Tryz.func63, Tryz.ntmps63
    go_wp2_with fail
    refine (T.out).mono ?_
    rintro e w' ⟨rfl, rfl⟩
    go_wp2_with fail
    go_ret
    exact ⟨rfl, rfl⟩
end Go.Proofs.YtpbbkpfaphjdoaaGreatDoor
