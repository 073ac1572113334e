/- sluiceref1.Order, walked, of two values that are right and of one type; sluicesame.Vals over two lists that are the same. -/
import Derived.Test.YtecdgdgdlmancaaGreatDoorAggFn
namespace Go.Proofs.YtecdgdgdlmancaaGreatDoor
open Go.ChangeShapes Go.WideShapes Go.ChangeAt Go.RowKit

theorem right_parts {v : Val} (h : vcheck v = 0) : (v.type = 3 ∧ v.n = 0) ∨ (v.type ≠ 3 ∧ v.s.data.toList = []) := by
  unfold vcheck at h
  by_cases h1 : v.type = 1
  · rw [if_pos h1] at h
    right
    refine ⟨by omega, ?_⟩
    split at h
    · assumption
    · omega
  · rw [if_neg h1] at h
    by_cases h2 : v.type = 2
    · rw [if_pos h2] at h
      right
      refine ⟨by omega, ?_⟩
      split at h
      · split at h
        · assumption
        · omega
      · omega
    · rw [if_neg h2] at h
      by_cases h3 : v.type = 3
      · rw [if_pos h3] at h
        left
        refine ⟨h3, ?_⟩
        split at h
        · omega
        · split at h
          · omega
          · split at h
            · omega
            · omega
      · rw [if_neg h3] at h; omega
theorem less_cb : ∀ a b : List UInt8, Op.bytesLess a b = decide (Lib.compareBytes a b < 0)
  | [], [] => rfl
  | [], _ :: _ => rfl
  | _ :: _, [] => rfl
  | a :: l, b :: m => by
    rw [Op.bytesLess, Lib.compareBytes]
    by_cases h1 : a < b
    · simp [h1]
    · by_cases h2 : b < a
      · have : ¬ a = b := fun e => by subst e; exact h1 h2
        simp [h1, h2, this]
      · have : a = b := by
          apply UInt8.toNat_inj.1
          simp only [UInt8.lt_iff_toNat_lt] at *; omega
        subst this
        simp [less_cb l m]
theorem less_eq {a b : List UInt8} (h : Op.bytesLess a b = false) : (a == b) = !Op.bytesLess b a := by
  rw [less_cb] at h ⊢
  have h1 := cb_anti a b
  by_cases e : a = b
  · subst e
    have : (a == a) = true := by simp
    rw [this, h]; rfl
  · have e1 : (a == b) = false := by simpa using e
    have : Lib.compareBytes a b ≠ 0 := fun k => e (cb_zero k)
    have h2 : ¬ Lib.compareBytes a b < 0 := by simpa using h
    rw [e1, decide_eq_true (by omega)]; rfl
theorem cb_sign : ∀ a b : List UInt8, (if decide (Lib.compareBytes a b < 0) then (-1 : Int) else if decide (Lib.compareBytes b a < 0) then 1 else 0) = Lib.compareBytes a b
  | [], [] => rfl
  | [], _ :: _ => rfl
  | _ :: _, [] => rfl
  | a :: l, b :: m => by
    rw [Lib.compareBytes, Lib.compareBytes]
    by_cases h1 : a < b
    · simp [h1]
    · by_cases h2 : b < a
      · simp [h1, h2]
      · simp only [h1, h2, if_false]; exact cb_sign l m

end Go.Proofs.YtecdgdgdlmancaaGreatDoor
