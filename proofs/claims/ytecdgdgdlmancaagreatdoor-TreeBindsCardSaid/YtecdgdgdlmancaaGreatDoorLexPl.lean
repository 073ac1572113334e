/- Words of a text, plain: how many there may be, how long; what a law asks of them. -/
import Derived.Test.YtecdgdgdlmancaaGreatDoorLexBack0
namespace Go.Proofs.YtecdgdgdlmancaaGreatDoor
theorem lexS_ok {s : List UInt8} {l : List Tok} (h : lexS s = .ok l) : s.length ≤ 400 ∧ Chain s 0 l := by
  unfold lexS at h
  split at h
  · cases h
  · rename_i h4
    exact ⟨by omega, (lex_says s s.length 0 (by omega) (by omega)).1 l (by rw [List.drop_zero]; exact h)⟩
theorem lexS_bad {s : List UInt8} {e : Int} {p : Nat} (h : lexS s = .bad e p) : e ≠ 0 ∧ p ≤ s.length := by
  unfold lexS at h
  split at h
  · injection h with h1 h2
    subst h1 h2
    exact ⟨by decide, Nat.zero_le _⟩
  · have := (lex_says s s.length 0 (by omega) (by omega)).2 e p (by rw [List.drop_zero]; exact h)
    exact ⟨this.2, this.1⟩
theorem Chain.count {s : List UInt8} : ∀ {l : List Tok} {a : Nat}, Chain s a l → a + l.length ≤ s.length
  | [], a, h => h.1
  | t :: l, a, h => by
    have := h.2.2.2.2.2.count
    have h1 := h.2.2.2.2.1.len
    have h2 := h.1
    rw [List.length_cons]; omega
theorem Chain.text {s : List UInt8} : ∀ {l : List Tok} {a : Nat}, Chain s a l → ∀ t ∈ l, t.text.length ≤ s.length
  | [], _, _, _, h => by cases h
  | x :: l, a, hc, t, h => by
    rcases List.mem_cons.1 h with rfl | h
    · have := hc.2.1; omega
    · exact hc.2.2.2.2.2.text t h
theorem glue_take {sep : List UInt8} {l : List Tok} {k : Nat} {t : Tok} (h : l[k]? = some t) : glue sep (l.take (k + 1)) = glue sep (l.take k) ++ (t.text ++ sep) := by
  unfold glue; rw [List.take_add_one, h, List.flatMap_append]; simp
theorem glue_len {sep : List UInt8} : ∀ {l : List Tok}, (∀ t ∈ l, t.text.length ≤ 400) → (glue sep l).length ≤ l.length * (400 + sep.length)
  | [], _ => by simp [glue]
  | t :: l, h => by
    have h1 := h t (by simp)
    have h2 := glue_len (sep := sep) (l := l) (fun x hx => h x (List.mem_cons_of_mem _ hx))
    unfold glue at h2 ⊢
    rw [List.flatMap_cons, List.length_append, List.length_append, List.length_cons, Nat.add_mul]
    omega
end Go.Proofs.YtecdgdgdlmancaaGreatDoor
