/- sluicesame.Ints, walked: are two lists of numbers the same? -/
import Derived.Test.YtkgdfccpkiglaaaDoorSWindow
import Derived.Deep.QuietTactic
import Derived.BigQuiet
namespace Go.Proofs.YtkgdfccpkiglaaaDoor
open Go.ChangeShapes Go.WideShapes Go.ChangeAt Go.RowKit
theorem wints_at {xs : List Int} {k : Nat} {u : Value} (h : (ints xs)[k]? = some u) : ∃ x, xs[k]? = some x ∧ u = .int .i64 x := by
 unfold ints at h
 rw [List.getElem?_map] at h
 cases hx : xs[k]? with
 | none => rw [hx] at h; cases h
 | some x => rw [hx] at h; exact ⟨x, rfl, by simpa using h.symm⟩
theorem take_eq_of {xs ys : List Int} {k : Nat} {x : Int} (h : xs.take k = ys.take k) (hx : xs[k]? = some x) (hy : ys[k]? = some x) : xs.take (k + 1) = ys.take (k + 1) := by
 rw [List.take_add_one, List.take_add_one, h, hx, hy]
set_option maxHeartbeats 400000 in
theorem same_ints (A B : Option Addr) (n m c d : Nat) (xs ys : List Int) (w : World) (ha : Sees w A n c 1 (ints xs)) (hb : Sees w B m d 1 (ints ys)) :
  Calls Tryd.prog 8 #[.slice A n c, .slice B m d] w fun e w' => e = .returned (.bool (decide (xs = ys))) ∧ ∃ q, w' = w.drewN q := by
 have la : xs.length = n := by have := ha.1; simpa [ints] using this
 have lb : ys.length = m := by have := hb.1; simpa [ints] using this
 have hc := ha.2.1
 have hc2 := ha.2.2.1
 have hd := hb.2.1
 have hd2 := hb.2.2.1
 unfold maxLen at hc2 hd2
 by_cases hnm : n = m
 ·subst hnm
  have HA := Lib.hid ha
  have HB := Lib.hid hb
  have HL := Lib.hid la
  have HM := Lib.hid lb
  clear ha hb la lb
  go_enter Tryd.func8, Tryd.ntmps8
  go_wp2
  go_loopw [5] (fun i wr => ∃ k q : Nat, k ≤ n ∧ i = .int .i64 k ∧ wr = w.drewN q ∧ xs.take k = ys.take k) (fun i _ => n - (intOf i).toNat)
  case atStart => exact ⟨0, 0, by omega, rfl, rfl, by simp⟩
  case round =>
   obtain ⟨k, q, hk, rfl, rfl, htk⟩ := hrel
   have HT := Lib.hid htk
   clear htk
   by_cases hlt : k < n
   ·obtain ⟨g, o, u, rfl, hu, cu⟩ := HA.out.at_ hlt
    obtain ⟨g2, o2, u2, rfl, hu2, cu2⟩ := HB.out.at_ hlt
    obtain ⟨x, hx, rfl⟩ := wints_at hu
    obtain ⟨y, hy, rfl⟩ := wints_at hu2
    have X := Lib.hid hx
    have Y := Lib.hid hy
    clear hu hu2 hx hy
    by_cases hxy : x = y
    ·have e1 : (x != y) = false := by simp [hxy]
     have E := Lib.hid hxy
     clear hxy
     go_wp2
     go_quiet (fail)
     go_wp2
     go_roundw
     case rel => exact ⟨k + 1, q + nq, by omega, by go_num, by simp, take_eq_of HT.out X.out (by rw [E.out]; exact Y.out)⟩
     case measure => simp [intOf]; omega
    ·have e1 : (x != y) = true := by simp [hxy]
     have E := Lib.hid hxy
     clear hxy
     go_wp2
     go_quiet (fail)
     go_wp2
     go_ret
     refine ⟨?_, q + nq, by simp⟩
     have : ¬ xs = ys := fun e => E.out (by have h1 := X.out; rw [e, Y.out] at h1; injection h1 with h1; exact h1.symm)
     simp [this]
   ·obtain rfl : n = k := by omega
    have e : xs = ys := by have := HT.out; rwa [List.take_of_length_le (by rw [HL.out]; exact Nat.le_refl _), List.take_of_length_le (by rw [HM.out]; exact Nat.le_refl _)] at this
    have E := Lib.hid e
    clear e
    go_wp2
    go_ret
    exact ⟨by simp [E.out], q, rfl⟩
 ·have hne : ¬ xs = ys := fun e => hnm (by rw [← la, ← lb, e])
  have hE := Lib.hid hne
  clear hne la lb ha hb
  go_enter Tryd.func8, Tryd.ntmps8
  go_wp2
  go_ret
  exact ⟨by simp [hE.out], 0, rfl⟩
end Go.Proofs.YtkgdfccpkiglaaaDoor
