/- Values are in one order, plain. -/
import Derived.Test.YtecdgdgdlmancaaGreatDoorRefOrder
namespace Go.Proofs.YtecdgdgdlmancaaGreatDoor

theorem u8_lt {a b : UInt8} : a < b ↔ a.toNat < b.toNat := UInt8.lt_iff_toNat_lt
theorem ob_neg : ∀ a b : List UInt8, Lib.compareBytes b a = - Lib.compareBytes a b
  | [], [] => rfl
  | [], _ :: _ => rfl
  | _ :: _, [] => rfl
  | a :: p, b :: q => by
    rw [Lib.compareBytes, Lib.compareBytes]
    by_cases h1 : a < b
    · have h2 : ¬ b < a := by rw [u8_lt] at h1 ⊢; omega
      simp [h1, h2]
    · by_cases h2 : b < a
      · simp [h1, h2]
      · simp only [h1, h2, if_false]; exact ob_neg p q
theorem ob_zero : ∀ a b : List UInt8, Lib.compareBytes a b = 0 ↔ a = b
  | [], [] => by simp [Lib.compareBytes]
  | [], _ :: _ => by simp [Lib.compareBytes]
  | _ :: _, [] => by simp [Lib.compareBytes]
  | a :: p, b :: q => by
    rw [Lib.compareBytes]
    by_cases h1 : a < b
    · have : a ≠ b := fun e => by rw [e, u8_lt] at h1; omega
      simp [h1, this]
    · by_cases h2 : b < a
      · have : a ≠ b := fun e => by rw [e, u8_lt] at h2; omega
        simp [h1, h2, this]
      · have : a = b := UInt8.toNat_inj.1 (by rw [u8_lt] at h1 h2; omega)
        simp [this, ob_zero p q]
theorem ob_vals : ∀ a b : List UInt8, Lib.compareBytes a b = -1 ∨ Lib.compareBytes a b = 0 ∨ Lib.compareBytes a b = 1
  | [], [] => Or.inr (Or.inl rfl)
  | [], _ :: _ => Or.inl rfl
  | _ :: _, [] => Or.inr (Or.inr rfl)
  | a :: p, b :: q => by
    rw [Lib.compareBytes]
    by_cases h1 : a < b
    · simp [h1]
    · by_cases h2 : b < a
      · simp [h1, h2]
      · simp only [h1, h2, if_false]; exact ob_vals p q
theorem ob_trans : ∀ a b c : List UInt8, Lib.compareBytes a b ≤ 0 → Lib.compareBytes b c ≤ 0 → Lib.compareBytes a c ≤ 0
  | [], _, [], _, _ => by simp [Lib.compareBytes]
  | [], _, _ :: _, _, _ => by simp [Lib.compareBytes]
  | _ :: _, [], _, h, _ => by simp [Lib.compareBytes] at h
  | _ :: _, _ :: _, [], _, h => by simp [Lib.compareBytes] at h
  | a :: p, b :: q, c :: r, h1, h2 => by
    rw [Lib.compareBytes] at h1 h2 ⊢
    by_cases p1 : a < b
    · by_cases q1 : b < c
      · have : a < c := by rw [u8_lt] at p1 q1 ⊢; omega
        simp [this]
      · by_cases q2 : c < b
        · simp [q1, q2] at h2
        · have : a < c := by rw [u8_lt] at p1 q1 q2 ⊢; omega
          simp [this]
    · by_cases p2 : b < a
      · simp [p1, p2] at h1
      · by_cases q1 : b < c
        · have : a < c := by rw [u8_lt] at p1 p2 q1 ⊢; omega
          simp [this]
        · by_cases q2 : c < b
          · simp [q1, q2] at h2
          · have r1 : ¬ a < c := by rw [u8_lt] at p1 p2 q1 q2 ⊢; omega
            have r2 : ¬ c < a := by rw [u8_lt] at p1 p2 q1 q2 ⊢; omega
            simp only [p1, p2, q1, q2, r1, r2, if_false] at h1 h2 ⊢
            exact ob_trans p q r h1 h2
/-- What is wrong with two that are compared. -/
def cmpErr (a b : Val) : Int := if vcheck a ≠ 0 then vcheck a else if vcheck b ≠ 0 then vcheck b else if a.type ≠ b.type then 8 else 0
theorem cmpErr_zero {a b : Val} (h : cmpErr a b = 0) : vcheck a = 0 ∧ vcheck b = 0 ∧ a.type = b.type := by
  unfold cmpErr at h
  split at h
  · rename_i h1; exact (h1 h).elim
  rename_i h1
  split at h
  · rename_i h2; exact (h2 h).elim
  rename_i h2
  split at h
  · omega
  rename_i h3
  exact ⟨by simpa using h1, by simpa using h2, by simpa using h3⟩
theorem cmpErr_ok {a b : Val} (h1 : vcheck a = 0) (h2 : vcheck b = 0) (h3 : a.type = b.type) : cmpErr a b = 0 := by
  unfold cmpErr; rw [if_neg (by simpa using h1), if_neg (by simpa using h2), if_neg (by simpa using h3)]
theorem ord_neg {a b : Val} (h : a.type = b.type) : vorder b a = - vorder a b := by
  unfold vorder
  rw [← h]
  by_cases h3 : a.type = 3
  · rw [if_pos h3, if_pos h3]; exact ob_neg _ _
  · rw [if_neg h3, if_neg h3]; unfold Lib.compareInt; split <;> split <;> first | omega | (split <;> omega)
theorem toList_inj {s t : ByteArray} (h : s.data.toList = t.data.toList) : s = t := by
  obtain ⟨⟨a⟩⟩ := s; obtain ⟨⟨b⟩⟩ := t; simp at h; rw [h]
theorem ord_zero {a b : Val} (ha : vcheck a = 0) (hb : vcheck b = 0) (h : a.type = b.type) : vorder a b = 0 ↔ a = b := by
  obtain ⟨t, n, s⟩ := a
  obtain ⟨t2, n2, s2⟩ := b
  obtain rfl : t = t2 := h
  unfold vorder
  simp only
  by_cases h3 : t = 3
  · rw [if_pos h3, ob_zero]
    rcases right_parts ha with ⟨_, h1⟩ | ⟨h1, _⟩
    · rcases right_parts hb with ⟨_, h2⟩ | ⟨h2, _⟩
      · simp only at h1 h2
        subst h1 h2
        exact ⟨fun e => by rw [toList_inj e], fun e => by injection e with _ _ e; rw [e]⟩
      · exact (h2 h3).elim
    · exact (h1 h3).elim
  · rw [if_neg h3]
    rcases right_parts ha with ⟨h1, _⟩ | ⟨_, h1⟩
    · exact (h3 h1).elim
    · rcases right_parts hb with ⟨h2, _⟩ | ⟨_, h2⟩
      · exact (h3 h2).elim
      · have : s = s2 := toList_inj (by simp only at h1 h2; rw [h1, h2])
        subst this
        unfold Lib.compareInt
        constructor
        · intro e
          have : n = n2 := by split at e <;> first | omega | (split at e <;> omega)
          rw [this]
        · intro e
          injection e with _ e
          subst e
          simp
theorem ord_trans {a b c : Val} (h1 : a.type = b.type) (h3 : vorder a b ≤ 0) (h4 : vorder b c ≤ 0) : vorder a c ≤ 0 := by
  unfold vorder at h3 h4 ⊢
  rw [← h1] at h4
  by_cases h : a.type = 3
  · rw [if_pos h] at h3 h4 ⊢; exact ob_trans _ _ _ h3 h4
  · rw [if_neg h] at h3 h4 ⊢
    unfold Lib.compareInt at h3 h4 ⊢
    split
    · omega
    · split
      · exfalso
        split at h3
        · split at h4
          · omega
          · split at h4 <;> omega
        · split at h3
          · omega
          · split at h4
            · omega
            · split at h4 <;> omega
      · omega
end Go.Proofs.YtecdgdgdlmancaaGreatDoor
