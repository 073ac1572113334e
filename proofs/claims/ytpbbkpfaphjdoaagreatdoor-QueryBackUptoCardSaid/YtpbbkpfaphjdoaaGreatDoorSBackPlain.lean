/- What is written is read as it was, what is read is right, more brackets change nothing: plain. -/
import Derived.Test.YtpbbkpfaphjdoaaGreatDoorSBackText
import Derived.Test.YtpbbkpfaphjdoaaGreatDoorSQryLaw
namespace Go.Proofs.YtpbbkpfaphjdoaaGreatDoor
mutual
theorem same_size : ∀ x y : Ex, exSame x y = true → exSize x = exSize y
 | .mk op name v A c args pos, .mk op2 name2 v2 A2 c2 args2 pos2, h => by
  rw [exSame] at h
  simp only [Bool.and_eq_true] at h
  rw [exSize, exSize]
  exact same_sizes args args2 1 h.2
theorem same_sizes : ∀ (l m : List Ex) (n : Int), exSames l m = true → exSizes n l = exSizes n m
 | [], [], n, _ => rfl
 | [], _ :: _, n, h => by rw [exSames] at h; cases h
 | _ :: _, [], n, h => by rw [exSames] at h; cases h
 | a :: l, b :: m, n, h => by
  rw [exSames, Bool.and_eq_true] at h
  rw [exSizes, exSizes, same_size a b h.1, same_sizes l m _ h.2]
end
theorem same_all {f : Ex → Bool} {g : Ex → Bool} (H : ∀ a b, exSame a b = true → f a = g b) : ∀ (l m : List Ex), exSames l m = true → l.all f = m.all g
 | [], [], _ => rfl
 | [], _ :: _, h => by rw [exSames] at h; cases h
 | _ :: _, [], h => by rw [exSames] at h; cases h
 | a :: l, b :: m, h => by
  rw [exSames, Bool.and_eq_true] at h
  rw [List.all_cons, List.all_cons, H a b h.1, same_all H l m h.2]
theorem same_below : ∀ (n : Nat) (x y : Ex), exSame x y = true → exBelow n x = exBelow n y
 | 0, x, y, _ => by rw [exBelow, exBelow]
 | n + 1, x, y, h => by
  rw [exSame_eq] at h
  simp only [Bool.and_eq_true] at h
  rw [exBelow_all, exBelow_all]
  exact same_all (same_below n) _ _ h.2
theorem same_full {x y : Ex} (h : exSame x y = true) : fullB x = fullB y := by unfold fullB; rw [same_size x y h, same_below 30 x y h]
theorem exSames_length {l m : List Ex} (h : exSames l m = true) : l.length = m.length := by
 by_cases e : l.length = m.length
 ·exact e
 ·rw [exSames_len l m e] at h; cases h
structure Moved (T T' : List Tok) (d : Nat) : Prop where
 at_ : ∀ i, i < T.length → ∃ t t', T[i]? = some t ∧ T'[i + d]? = some t' ∧ t'.kind = t.kind ∧ t'.text = t.text
 close : ∃ t, T'[T.length + d]? = some t ∧ t.kind = 4 ∧ t.text = [41]
section
variable {T T' : List Tok} {d i : Nat}
theorem Moved.isT_lt (h : Moved T T' d) (hi : i < T.length) (s : List UInt8) : isT T' (i + d) s = isT T i s := by
 obtain ⟨t, t', h1, h2, h3, h4⟩ := h.at_ i hi
 unfold isT
 rw [h1, h2]
 simp only
 rw [h3, h4]
theorem Moved.text (h : Moved T T' d) (hi : i < T.length) : textT T' (i + d) = textT T i := by
 obtain ⟨t, t', h1, h2, h3, h4⟩ := h.at_ i hi
 unfold textT
 rw [h1, h2]
 simp only
 rw [h4]
theorem Moved.sg (h : Moved T T' d) (hi : i ≤ T.length) {n : Nat} (hn : n < 5) : sgT T' n (i + d) = sgT T n i := by
 by_cases hl : i < T.length
 ·unfold sgT
  rw [h.text hl]
  congr 1
  congr 1
  exact congrArg (fun f => (lvlL n).any f) (funext fun s => h.isT_lt hl s)
 obtain rfl : i = T.length := by omega
 obtain ⟨t, h1, h2, h3⟩ := h.close
 have e1 : sgT T n T.length = none := by
  cases hx : sgT T n T.length with
  | none => rfl
  | some u => have := Go.Proofs.YtpbbkpfaphjdoaaGreatDoor.isT_lt (sgT_some hx).2; omega
 rw [e1]
 exact sgT_not (isT_of h1 (Or.inl h2) h3) close_no hn
theorem Moved.val (h : Moved T T' d) (hi : i ≤ T.length) : valT T' (i + d) = valT T i := by
 by_cases hl : i < T.length
 ·obtain ⟨t, t', h1, h2, h3, h4⟩ := h.at_ i hl
  unfold valT
  rw [h1, h2]
  simp only
  rw [h3, h4]
 obtain rfl : i = T.length := by omega
 obtain ⟨t, h1, h2, h3⟩ := h.close
 unfold valT
 rw [h1, List.getElem?_eq_none (Nat.le_refl _)]
 refine if_neg ?_
 rw [h2]
 rintro (h | h | ⟨h, -⟩) <;> exact absurd h (by decide)
theorem Moved.name (h : Moved T T' d) (hi : i < T.length) : nameT T' (i + d) = nameT T i := by
 obtain ⟨t, t', h1, h2, h3, h4⟩ := h.at_ i hi
 unfold nameT
 rw [h1, h2]
 simp only
 rw [h3, h4]
end
end Go.Proofs.YtpbbkpfaphjdoaaGreatDoor
