/- split.number, split.Part, walked. -/
import Derived.Test.YtkgdfccpkiglaaaDoorSAnyInt
import Derived.Test.YtkgdfccpkiglaaaDoorSVals
namespace Go.Proofs.YtkgdfccpkiglaaaDoor
open Go.ChangeShapes Go.WideShapes Go.ChangeAt Go.RowKit
def byteNum : Int → List UInt8 → Int
 | n, [] => n
 | n, b :: l => byteNum ((31 * n + (b.toNat : Int)) % 1000003) l
theorem byteNum_snoc : ∀ (l : List UInt8) (n : Int) (b : UInt8), byteNum n (l ++ [b]) = (31 * byteNum n l + (b.toNat : Int)) % 1000003
 | [], n, b => by simp [byteNum]
 | x :: l, n, b => by rw [List.cons_append, byteNum, byteNum]; exact byteNum_snoc l _ b
def numberOf (v : Val) : Int := if v.type = 3 then byteNum 0 v.s.data.toList else (v.n.tmod 1000003 + 1000003) % 1000003
theorem tmod_bound (x : Int) {m : Int} (hm : 0 < m) : -m < x.tmod m ∧ x.tmod m < m := by
 have h2 := Int.tmod_lt_of_pos x hm
 refine ⟨?_, h2⟩
 have := Int.tmod_lt_of_pos (-x) hm
 rw [Int.neg_tmod] at this
 omega
theorem emod_pos (x : Int) {m : Int} (hm : 0 < m) : 0 ≤ x % m ∧ x % m < m := ⟨Int.emod_nonneg x (by omega), Int.emod_lt_of_pos x hm⟩
theorem byteNum_bound : ∀ (l : List UInt8) (n : Int), 0 ≤ n ∧ n < 1000003 → 0 ≤ byteNum n l ∧ byteNum n l < 1000003
 | [], n, h => by rw [byteNum]; exact h
 | b :: l, n, h => by rw [byteNum]; exact byteNum_bound l _ (emod_pos _ (by omega))
theorem number_bound (v : Val) : 0 ≤ numberOf v ∧ numberOf v < 1000003 := by
 unfold numberOf
 split
 ·exact byteNum_bound _ _ ⟨by omega, by omega⟩
 ·exact emod_pos _ (by omega)
set_option maxHeartbeats 1000000 in
theorem number_any (v : Val) (w : World) (hs : v.s.size ≤ maxLen) :
  Calls Tryd.prog 15 #[.agg #[.int .i64 v.type, .int .i64 v.n, .string v.s]] w fun e w' => e = .returned (.int .i64 (numberOf v)) ∧ Below w.heap.size w w' := by
 obtain ⟨t, n, s⟩ := v
 replace hs : s.size ≤ maxLen := hs
 have HNB := Lib.hid (number_bound ⟨t, n, s⟩)
 by_cases ht : t = 3
 ·have E0 := Lib.hid (show numberOf ⟨t, n, s⟩ = byteNum 0 s.data.toList by unfold numberOf; rw [if_pos ht])
  subst ht
  obtain ⟨w0, hw0⟩ : ∃ w0, w.alloc (.cells #[.int .i64 3, .int .i64 n, .string s] 46) = w0 := ⟨_, rfl⟩
  have hb0 : Below w.heap.size w w0 := by rw [← hw0]; exact (Below.refl _ _).alloc (Nat.le_refl _) _
  have k0 : w0.cell? ⟨w.heap.size, 0, none⟩ = some (.int .i64 3) := by rw [← hw0]; simp
  have k2 : w0.cell? ⟨w.heap.size, 2, none⟩ = some (.string s) := by rw [← hw0]; simp
  obtain ⟨C, c, m, hconv, hcell, hcap⟩ := bytes_conv (P := Tryd.prog) w0 9 62 5 s Tryd.underlying9 Tryd.underlying62 Tryd.underlying5
  have hcell' := Lib.hid hcell
  have hsz' := Lib.hid (size_eq s)
  have HB0 := Lib.hid hb0
  have HW0 := Lib.hid hw0
  unfold maxLen at hs
  clear hcell hb0 hw0
  go_enter Tryd.func15, Tryd.ntmps15
  go_wp2_with (first | rw [HW0.out])
  clear hconv
  go_loop [3, 18] (fun a i => ∃ k : Nat, k ≤ s.size ∧ i = .int .i64 k ∧ a = .int .i64 (byteNum 0 (s.data.toList.take k))) (fun _ i => s.size - (intOf i).toNat)
  case atStart => exact ⟨0, by omega, rfl, by rw [List.take_zero, byteNum]⟩
  case round =>
   obtain ⟨k, hk, rfl, rfl⟩ := hrel
   have hbd := byteNum_bound (s.data.toList.take k) 0 ⟨by omega, by omega⟩
   by_cases hlt : k < s.size
   ·obtain ⟨b, hb⟩ : ∃ b, s.data.toList[k]? = some b := ⟨_, List.getElem?_eq_getElem (by rw [hsz'.out]; exact hlt)⟩
    have h1 := hcell'.out k (by rw [hsz'.out]; exact hlt)
    rw [byteCells_at hb] at h1
    have hr : (b.toNat : Int) < 256 := by have := UInt8.toNat_lt b; omega
    have E := Lib.hid (show byteNum 0 (s.data.toList.take (k + 1)) = (31 * byteNum 0 (s.data.toList.take k) + (b.toNat : Int)) % 1000003 by rw [List.take_add_one, hb]; exact byteNum_snoc _ _ _)
    clear hb
    generalize byteNum 0 (s.data.toList.take k) = x at hbd E ⊢
    go_wp2_with fail
    go_round
    case rel => exact ⟨k + 1, by omega, by go_num, by rw [E.out]⟩
    case measure => simp [intOf]; omega
   ·have htk : s.data.toList.take k = s.data.toList := List.take_of_length_le (by rw [hsz'.out]; omega)
    rw [htk]
    clear htk hbd
    go_wp2_with fail
    go_ret
    exact ⟨by rw [E0.out]; rfl, below_step HB0.out (((Below.refl _ _).alloc (Nat.le_refl _) _).drew)⟩
 ·have E0 := Lib.hid (show numberOf ⟨t, n, s⟩ = (n.tmod 1000003 + 1000003) % 1000003 by unfold numberOf; rw [if_neg ht])
  have e1 : (t != 3) = true := by simpa using ht
  have hbd := tmod_bound n (m := 1000003) (by omega)
  clear ht
  generalize hx : n.tmod 1000003 = x at hbd E0
  go_enter Tryd.func15, Tryd.ntmps15
  go_wp2_with fail
  go_ret
  exact ⟨by rw [E0.out]; rfl, (Below.refl _ _).alloc (Nat.le_refl _) _⟩
def badCol (m : Nat) (c : Int) : Bool := decide (c < 0) || decide ((m : Int) ≤ c)
theorem part1_any (x : Int) (m cr : Nat) (R : Option Addr) (b : Nat) (w : World) (hc : w.cell? ⟨b, 0, none⟩ = some (.slice R m cr)) (_hm : m ≤ maxLen) :
  Calls Tryd.prog 14 #[.int .i64 x, .pointer (some ⟨b, 0, none⟩)] w fun e w' => e = .returned (.bool (badCol m x)) ∧ w = w' := by
 unfold badCol maxLen at *
 by_cases h : x < 0
 ·have d : decide (x < 0) = true := decide_eq_true h
  clear h
  go_enter Tryd.func14, Tryd.ntmps14
  go_wp2_with fail
  go_ret
  exact ⟨by rw [d]; rfl, rfl⟩
 ·have d : decide (x < 0) = false := decide_eq_false h
  clear h
  go_enter Tryd.func14, Tryd.ntmps14
  go_wp2_with fail
  go_ret
  exact ⟨by rw [d]; rfl, rfl⟩
set_option maxHeartbeats 1000000 in
theorem idx_badCol (xs : List Int) (A : Option Addr) (n c : Nat) (m cr : Nat) (R : Option Addr) (hm : m ≤ maxLen) (b : Nat) (w : World) (hc : w.cell? ⟨b, 0, none⟩ = some (.slice R m cr)) (hl : Sees w A n c 1 (intCells xs)) :
  Calls Tryd.prog 26 #[.slice A n c, .func (.func 14) #[] #[.pointer (some ⟨b, 0, none⟩)]] w fun e w' => e = .returned (.int .i64 (findB (badCol m) xs)) ∧ w = w' := by
 have HL := Lib.hid hl
 have hcap := hl.2.1
 have hmax := hl.2.2.1
 have hlen := Lib.hid (intCells_len hl)
 unfold maxLen at hmax
 clear hl
 go_enter Tryd.func26, Tryd.ntmps26
 go_wp2_with fail
 go_loop [5, 8] (fun _ i => ∃ k : Nat, k ≤ n ∧ i = .int .i64 k ∧ ∀ x ∈ xs.take k, (badCol m) x = false) (fun _ i => n - (intOf i).toNat)
 case atStart => exact ⟨0, by omega, rfl, by simp⟩
 case round =>
  obtain ⟨k, hk, rfl, hno⟩ := hrel
  have HN := Lib.hid hno
  clear hno
  by_cases hlk : k < n
  ·obtain ⟨g, o, x, rfl, hx, c1⟩ := ints_at HL.out hlk
   have HX := Lib.hid hx
   clear hx
   generalize hB : (badCol m) x = b
   cases b with
   | true =>
    have E := Lib.hid (findB_some HN.out HX.out hB)
    have HB := Lib.hid hB
    clear hB
    go_wp2_with (first | (go_at_call 14; refine (part1_any _ _ _ _ _ _ hc hm).mono ?_; rintro e w' ⟨rfl, rfl⟩; rw [HB.out]))
    go_ret
    exact ⟨by rw [E.out]; rfl, rfl⟩
   | false =>
    have HB := Lib.hid hB
    clear hB
    go_wp2_with (first | (go_at_call 14; refine (part1_any _ _ _ _ _ _ hc hm).mono ?_; rintro e w' ⟨rfl, rfl⟩; rw [HB.out]))
    go_round
    case rel => exact ⟨k + 1, by omega, by go_num, take_next HN.out HX.out HB.out⟩
    case measure => simp [intOf]; omega
  ·have E := Lib.hid (findB_none (p := (badCol m)) (l := xs) (by have := HN.out; rwa [List.take_of_length_le (by rw [hlen.out]; omega)] at this))
   go_wp2_with fail
   go_ret
   exact ⟨by rw [E.out]; rfl, rfl⟩
theorem any_badCol (xs : List Int) (A : Option Addr) (n c : Nat) (m cr : Nat) (R : Option Addr) (hm : m ≤ maxLen) (b : Nat) (w : World) (hc : w.cell? ⟨b, 0, none⟩ = some (.slice R m cr)) (hl : Sees w A n c 1 (intCells xs)) :
  Calls Tryd.prog 13 #[.slice A n c, .func (.func 14) #[] #[.pointer (some ⟨b, 0, none⟩)]] w fun e w' => e = .returned (.bool (xs.any (badCol m))) ∧ w = w' := by
 have HL := Lib.hid hl
 have E := Lib.hid (findB_any (badCol m) xs)
 clear hl
 go_enter Tryd.func13, Tryd.ntmps13
 go_wp2_with (first | (go_at_call 26; refine (idx_badCol xs _ _ _ m cr R hm b w hc HL.out).mono ?_; rintro e w' ⟨rfl, rfl⟩))
 go_ret
 exact ⟨by rw [← E.out]; rfl, rfl⟩
end Go.Proofs.YtkgdfccpkiglaaaDoor
