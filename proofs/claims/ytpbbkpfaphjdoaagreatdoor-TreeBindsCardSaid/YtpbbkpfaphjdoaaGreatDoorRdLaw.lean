/- Expressions read of words, in plain Lean: what any words are read as, from any one on, or where it goes wrong. No program in sight. -/
import Derived.Test.YtpbbkpfaphjdoaaGreatDoorLexLaw
import Derived.Test.YtpbbkpfaphjdoaaGreatDoorNumLaw
import Derived.Test.YtpbbkpfaphjdoaaGreatDoorCheck
namespace Go.Proofs.YtpbbkpfaphjdoaaGreatDoor
open Go.ChangeShapes Go.WideShapes Go.ChangeAt Go.RowKit

def wNot : List UInt8 := [110, 111, 116]
def wNeg : List UInt8 := [110, 101, 103]
def wMinus : List UInt8 := [45]
def wOpen : List UInt8 := [40]
def wClose : List UInt8 := [41]
def wComma : List UInt8 := [44]
def wLen : List UInt8 := [108, 101, 110]
def wIf : List UInt8 := [105, 102]
/-- An operation of parts; a value; a column. -/
def opEx (op : List UInt8) (l : List Ex) (pos : Nat) : Ex := .mk (mkB op) ⟨#[]⟩ noVal none 0 l pos
def valEx (v : Val) (pos : Nat) : Ex := .mk (mkB [118, 97, 108]) ⟨#[]⟩ v none 0 [] pos
def colEx (s : List UInt8) (pos : Nat) : Ex := .mk (mkB [99, 111, 108]) (mkB s) noVal none 0 [] pos
section
variable (T : List Tok) (E : Nat)
/-- Is the i-th word this one, or this sign? -/
def isT (i : Nat) (s : List UInt8) : Bool := match T[i]? with
  | none => false
  | some t => (t.kind == 4 || t.kind == 1) && (t.text == s)
/-- Where it stands; behind the last one: the text's end. -/
def atT (i : Nat) : Nat := match T[i]? with
  | none => E
  | some t => t.at_
def textT (i : Nat) : List UInt8 := match T[i]? with
  | none => []
  | some t => t.text
/-- A sign of that level, if it is one. -/
def sgT (n i : Nat) : Option (List UInt8) := if (lvlL n).any (fun s => isT T i s) = true then some (textT T i) else none
/-- A value, if it is one. -/
def valT (i : Nat) : Option Val := match T[i]? with
  | none => none
  | some t => if t.kind = 2 ∨ t.kind = 3 ∨ t.kind = 1 ∧ (t.text = tTrue ∨ t.text = tFalse) then some (readP t.text).1 else none
/-- A name, if it is one. -/
def nameT (i : Nat) : Option (List UInt8) := match T[i]? with
  | none => none
  | some t => if t.kind = 1 ∧ treeName (mkB t.text) = true then some t.text else none
inductive Md where
  | lv (n : Nat) | lp (n : Nat) (e : Ex) | un | pr | ar (w : List UInt8) (pos m : Nat) (acc : List Ex)
abbrev PR := Except Nat (Ex × Nat)
/-- What is read. -/
inductive Rd : Md → Nat → PR → Prop
  | lvNot {i : Nat} {x : Ex} {j : Nat} (h : isT T i wNot = true) (a : Rd (.lv 2) (i + 1) (.ok (x, j))) : Rd (.lv 2) i (.ok (opEx wNot [x] (atT T E i), j))
  | lvNotE {i k : Nat} (h : isT T i wNot = true) (a : Rd (.lv 2) (i + 1) (.error k)) : Rd (.lv 2) i (.error k)
  | lvUn {i : Nat} {r : PR} (a : Rd .un i r) : Rd (.lv 5) i r
  | lvGo {n i : Nat} {x : Ex} {j : Nat} {r : PR} (hn : n < 5) (h : n = 2 → isT T i wNot = false) (a : Rd (.lv (n + 1)) i (.ok (x, j))) (b : Rd (.lp n x) j r) : Rd (.lv n) i r
  | lvGoE {n i k : Nat} (hn : n < 5) (h : n = 2 → isT T i wNot = false) (a : Rd (.lv (n + 1)) i (.error k)) : Rd (.lv n) i (.error k)
  | lpEnd {n : Nat} {e : Ex} {i : Nat} (h : sgT T n i = none) : Rd (.lp n e) i (.ok (e, i))
  | lpGo {n : Nat} {e : Ex} {i : Nat} {s : List UInt8} {x : Ex} {j : Nat} {r : PR} (h : sgT T n i = some s) (hn : n ≠ 2) (a : Rd (.lv (n + 1)) (i + 1) (.ok (x, j))) (b : Rd (.lp n (opEx s [e, x] (atT T E i))) j r) : Rd (.lp n e) i r
  | lpOne {e : Ex} {i : Nat} {s : List UInt8} {x : Ex} {j : Nat} (h : sgT T 2 i = some s) (a : Rd (.lv 3) (i + 1) (.ok (x, j))) : Rd (.lp 2 e) i (.ok (opEx s [e, x] (atT T E i), j))
  | lpE {n : Nat} {e : Ex} {i : Nat} {s : List UInt8} {k : Nat} (h : sgT T n i = some s) (a : Rd (.lv (n + 1)) (i + 1) (.error k)) : Rd (.lp n e) i (.error k)
  | unNeg {i : Nat} {x : Ex} {j : Nat} (h : isT T i wMinus = true) (a : Rd .un (i + 1) (.ok (x, j))) : Rd .un i (.ok (opEx wNeg [x] (atT T E i), j))
  | unNegE {i k : Nat} (h : isT T i wMinus = true) (a : Rd .un (i + 1) (.error k)) : Rd .un i (.error k)
  | unPr {i : Nat} {r : PR} (h : isT T i wMinus = false) (a : Rd .pr i r) : Rd .un i r
  | prPar {i : Nat} {x : Ex} {j : Nat} (h : isT T i wOpen = true) (a : Rd (.lv 0) (i + 1) (.ok (x, j))) (c : isT T j wClose = true) : Rd .pr i (.ok (x, j + 1))
  | prParN {i : Nat} {x : Ex} {j : Nat} (h : isT T i wOpen = true) (a : Rd (.lv 0) (i + 1) (.ok (x, j))) (c : isT T j wClose = false) : Rd .pr i (.error (atT T E j))
  | prParE {i k : Nat} (h : isT T i wOpen = true) (a : Rd (.lv 0) (i + 1) (.error k)) : Rd .pr i (.error k)
  | prLen {i : Nat} {r : PR} (h : isT T i wLen = true) (o : isT T (i + 1) wOpen = true) (a : Rd (.ar wLen (atT T E i) 1 []) (i + 2) r) : Rd .pr i r
  | prIf {i : Nat} {r : PR} (h : isT T i wIf = true) (o : isT T (i + 1) wOpen = true) (a : Rd (.ar wIf (atT T E i) 3 []) (i + 2) r) : Rd .pr i r
  | prLenN {i : Nat} (h : isT T i wLen = true) (o : isT T (i + 1) wOpen = false) : Rd .pr i (.error (atT T E (i + 1)))
  | prIfN {i : Nat} (h : isT T i wIf = true) (o : isT T (i + 1) wOpen = false) : Rd .pr i (.error (atT T E (i + 1)))
  | prVal {i : Nat} {v : Val} (h1 : isT T i wOpen = false) (h2 : isT T i wLen = false) (h3 : isT T i wIf = false) (c : valT T i = some v) : Rd .pr i (.ok (valEx v (atT T E i), i + 1))
  | prCol {i : Nat} {s : List UInt8} (h1 : isT T i wOpen = false) (h2 : isT T i wLen = false) (h3 : isT T i wIf = false) (c : valT T i = none) (d : nameT T i = some s) : Rd .pr i (.ok (colEx s (atT T E i), i + 1))
  | prNo {i : Nat} (h1 : isT T i wOpen = false) (h2 : isT T i wLen = false) (h3 : isT T i wIf = false) (c : valT T i = none) (d : nameT T i = none) : Rd .pr i (.error (atT T E i))
  | arEnd {w : List UInt8} {p m : Nat} {acc : List Ex} {i : Nat} (h : acc.length = m) (c : isT T i wClose = true) : Rd (.ar w p m acc) i (.ok (opEx w acc p, i + 1))
  | arEndN {w : List UInt8} {p m : Nat} {acc : List Ex} {i : Nat} (h : acc.length = m) (c : isT T i wClose = false) : Rd (.ar w p m acc) i (.error (atT T E i))
  | arFirst {w : List UInt8} {p m : Nat} {i : Nat} {x : Ex} {j : Nat} {r : PR} (h : 0 < m) (a : Rd (.lv 0) i (.ok (x, j))) (b : Rd (.ar w p m [x]) j r) : Rd (.ar w p m []) i r
  | arFirstE {w : List UInt8} {p m : Nat} {i k : Nat} (h : 0 < m) (a : Rd (.lv 0) i (.error k)) : Rd (.ar w p m []) i (.error k)
  | arGo {w : List UInt8} {p m : Nat} {acc : List Ex} {i : Nat} {x : Ex} {j : Nat} {r : PR} (h : acc.length < m) (h0 : acc ≠ []) (c : isT T i wComma = true) (a : Rd (.lv 0) (i + 1) (.ok (x, j))) (b : Rd (.ar w p m (acc ++ [x])) j r) : Rd (.ar w p m acc) i r
  | arGoE {w : List UInt8} {p m : Nat} {acc : List Ex} {i k : Nat} (h : acc.length < m) (h0 : acc ≠ []) (c : isT T i wComma = true) (a : Rd (.lv 0) (i + 1) (.error k)) : Rd (.ar w p m acc) i (.error k)
  | arGoN {w : List UInt8} {p m : Nat} {acc : List Ex} {i : Nat} (h : acc.length < m) (h0 : acc ≠ []) (c : isT T i wComma = false) : Rd (.ar w p m acc) i (.error (atT T E i))
end
section
variable {T : List Tok} {E : Nat}
theorem isT_some {i : Nat} {s : List UInt8} (h : isT T i s = true) : ∃ t, T[i]? = some t ∧ (t.kind = 4 ∨ t.kind = 1) ∧ t.text = s := by
  unfold isT at h
  cases ht : T[i]? with
  | none => rw [ht] at h; cases h
  | some t =>
    rw [ht] at h
    simp only [Bool.and_eq_true, Bool.or_eq_true, beq_iff_eq] at h
    exact ⟨t, rfl, h.1, h.2⟩
theorem isT_lt {i : Nat} {s : List UInt8} (h : isT T i s = true) : i < T.length := by
  obtain ⟨t, ht, _⟩ := isT_some h
  exact (List.getElem?_eq_some_iff.1 ht).1
theorem isT_text {i : Nat} {s : List UInt8} (h : isT T i s = true) : textT T i = s := by
  obtain ⟨t, ht, _, e⟩ := isT_some h
  unfold textT; rw [ht]; exact e
/-- One word is not two. -/
theorem isT_one {i : Nat} {s u : List UInt8} (h : isT T i s = true) (hu : s ≠ u) : isT T i u = false := by
  cases hx : isT T i u with
  | false => rfl
  | true => exact absurd ((isT_text h).symm.trans (isT_text hx)) hu
theorem sgT_some {n i : Nat} {s : List UInt8} (h : sgT T n i = some s) : s ∈ lvlL n ∧ isT T i s = true := by
  unfold sgT at h
  split at h
  · rename_i hx
    obtain ⟨u, hu, h2⟩ := List.any_eq_true.1 hx
    injection h with h
    rw [isT_text h2] at h
    subst h
    exact ⟨hu, h2⟩
  · cases h
theorem sgT_none {n i : Nat} (h : sgT T n i = none) : ∀ s ∈ lvlL n, isT T i s = false := by
  unfold sgT at h
  split at h
  · cases h
  · rename_i hx
    intro s hs
    cases hh : isT T i s with
    | false => rfl
    | true => exact absurd (List.any_eq_true.2 ⟨s, hs, hh⟩) hx
theorem valT_lt {i : Nat} {v : Val} (h : valT T i = some v) : i < T.length := by
  unfold valT at h
  cases ht : T[i]? with
  | none => rw [ht] at h; cases h
  | some t => exact (List.getElem?_eq_some_iff.1 ht).1
theorem nameT_some {i : Nat} {s : List UInt8} (h : nameT T i = some s) : ∃ t, T[i]? = some t ∧ t.kind = 1 ∧ t.text = s ∧ treeName (mkB s) = true := by
  unfold nameT at h
  cases ht : T[i]? with
  | none => rw [ht] at h; cases h
  | some t =>
    rw [ht] at h
    simp only at h
    split at h
    · rename_i hx
      injection h with h
      subst h
      exact ⟨t, rfl, hx.1, rfl, hx.2⟩
    · cases h
theorem nameT_lt {i : Nat} {s : List UInt8} (h : nameT T i = some s) : i < T.length := by
  obtain ⟨t, ht, _⟩ := nameT_some h
  exact (List.getElem?_eq_some_iff.1 ht).1
/-- How far a mode must come, at the least. -/
def gain : Md → Nat
  | .lv _ => 1 | .un => 1 | .pr => 1 | .lp _ _ => 0 | .ar _ _ _ _ => 1
theorem rd_on {m : Md} {i : Nat} {r : PR} (h : Rd T E m i r) : ∀ x j, r = .ok (x, j) → i ≤ T.length → i + gain m ≤ j ∧ j ≤ T.length := by
  induction h with
  | lvNot h a ih => intro x j e hi; cases e; have := isT_lt h; have := ih _ _ rfl (by omega); exact ⟨by simp only [gain] at *; omega, this.2⟩
  | lvNotE => intro x j e; cases e
  | lvUn a ih => intro x j e hi; exact ih x j e hi
  | lvGo hn h a b ih1 ih2 =>
    intro x j e hi
    have h1 := ih1 _ _ rfl hi
    have h2 := ih2 x j e h1.2
    exact ⟨by simp only [gain] at *; omega, h2.2⟩
  | lvGoE => intro x j e; cases e
  | lpEnd h => intro x j e hi; cases e; exact ⟨Nat.le_refl _, hi⟩
  | lpGo h hn a b ih1 ih2 =>
    intro x j e hi
    have := isT_lt (sgT_some h).2
    have h1 := ih1 _ _ rfl (by omega)
    have h2 := ih2 x j e h1.2
    exact ⟨by simp only [gain] at *; omega, h2.2⟩
  | lpOne h a ih =>
    intro x j e hi
    cases e
    have := isT_lt (sgT_some h).2
    have h1 := ih _ _ rfl (by omega)
    exact ⟨by simp only [gain] at *; omega, h1.2⟩
  | lpE => intro x j e; cases e
  | unNeg h a ih => intro x j e hi; cases e; have := isT_lt h; have := ih _ _ rfl (by omega); exact ⟨by simp only [gain] at *; omega, this.2⟩
  | unNegE => intro x j e; cases e
  | unPr h a ih => intro x j e hi; exact ih x j e hi
  | prPar h a c ih => intro x j e hi; cases e; have := isT_lt h; have := isT_lt c; have := ih _ _ rfl (by omega); exact ⟨by simp only [gain] at *; omega, by omega⟩
  | prParN => intro x j e; cases e
  | prParE => intro x j e; cases e
  | prLen h o a ih => intro x j e hi; have := isT_lt o; have := ih x j e (by omega); exact ⟨by simp only [gain] at *; omega, this.2⟩
  | prIf h o a ih => intro x j e hi; have := isT_lt o; have := ih x j e (by omega); exact ⟨by simp only [gain] at *; omega, this.2⟩
  | prLenN => intro x j e; cases e
  | prIfN => intro x j e; cases e
  | prVal h1 h2 h3 c => intro x j e hi; cases e; have := valT_lt c; exact ⟨Nat.le_refl _, by omega⟩
  | prCol h1 h2 h3 c d => intro x j e hi; cases e; have := nameT_lt d; exact ⟨Nat.le_refl _, by omega⟩
  | prNo => intro x j e; cases e
  | arEnd h c => intro x j e hi; cases e; have := isT_lt c; exact ⟨Nat.le_refl _, by omega⟩
  | arEndN => intro x j e; cases e
  | arFirst h a b ih1 ih2 =>
    intro x j e hi
    have h1 := ih1 _ _ rfl hi
    have h2 := ih2 x j e h1.2
    exact ⟨by simp only [gain] at *; omega, h2.2⟩
  | arFirstE => intro x j e; cases e
  | arGo h h0 c a b ih1 ih2 =>
    intro x j e hi
    have := isT_lt c
    have h1 := ih1 _ _ rfl (by omega)
    have h2 := ih2 x j e h1.2
    exact ⟨by simp only [gain] at *; omega, h2.2⟩
  | arGoE => intro x j e; cases e
  | arGoN => intro x j e; cases e
/-- Where it goes wrong there is a word, or the text's end. -/
theorem rd_bad {m : Md} {i : Nat} {r : PR} (h : Rd T E m i r) : ∀ k, r = .error k → ∃ j, k = atT T E j := by
  induction h with
  | lvNotE h a ih => exact ih
  | lvGoE hn h a ih => exact ih
  | lpE h a ih => exact ih
  | unNegE h a ih => exact ih
  | prParE h a ih => exact ih
  | arFirstE h a ih => exact ih
  | arGoE h h0 c a ih => exact ih
  | lvUn a ih => exact ih
  | lvGo hn h a b ih1 ih2 => exact ih2
  | lpGo h hn a b ih1 ih2 => exact ih2
  | unPr h a ih => exact ih
  | prLen h o a ih => exact ih
  | prIf h o a ih => exact ih
  | arFirst h a b ih1 ih2 => exact ih2
  | arGo h h0 c a b ih1 ih2 => exact ih2
  | prParN | prLenN | prIfN | prNo | arEndN | arGoN => intro k e; cases e; exact ⟨_, rfl⟩
  | lvNot | lpEnd | lpOne | unNeg | prPar | prVal | prCol | arEnd => intro k e; cases e
/-- How much is left. -/
def rank : Md → Nat
  | .lv n => 3 + (5 - n) | .un => 2 | .pr => 1 | .lp _ _ => 0 | .ar _ _ _ _ => 9
def okMd : Md → Prop
  | .lv n => n ≤ 5 | .un => True | .pr => True | .lp n _ => n < 5 | .ar _ _ m acc => acc.length ≤ m ∧ 0 < m
def work (T : List Tok) (m : Md) (i : Nat) : Nat := 10 * (T.length - i) + rank m
/-- Anything is read, or goes wrong somewhere. -/
theorem rd_all (E : Nat) : ∀ (k : Nat) (m : Md) (i : Nat), okMd m → i ≤ T.length → work T m i ≤ k → ∃ r, Rd T E m i r := by
  intro k
  induction k with
  | zero =>
    intro m i hm hi hk
    unfold work at hk
    cases m with
    | lv n => simp only [rank] at hk; omega
    | un => simp only [rank] at hk; omega
    | pr => simp only [rank] at hk; omega
    | ar w p m acc => simp only [rank] at hk; omega
    | lp n e =>
      refine ⟨_, .lpEnd ?_⟩
      cases h : sgT T n i with
      | none => rfl
      | some s => have := isT_lt (sgT_some h).2; simp only [rank] at hk; omega
  | succ k ih =>
    intro m i hm hi hk
    unfold work at hk
    have go : ∀ (m' : Md) (i' : Nat), okMd m' → i' ≤ T.length → (i < i' ∨ i = i' ∧ rank m' < rank m) → ∃ r, Rd T E m' i' r := by
      intro m' i' h1 h2 h3
      refine ih m' i' h1 h2 ?_
      unfold work
      have : rank m' ≤ 9 := by cases m' <;> (simp only [rank]; omega)
      rcases h3 with h3 | ⟨rfl, h3⟩ <;> omega
    cases m with
    | lv n =>
      by_cases h5 : n = 5
      · subst h5
        obtain ⟨r, hr⟩ := go .un i trivial hi (Or.inr ⟨rfl, by simp only [rank]; omega⟩)
        exact ⟨r, .lvUn hr⟩
      have hn : n < 5 := by have : n ≤ 5 := hm; omega
      by_cases h2 : n = 2 ∧ isT T i wNot = true
      · obtain ⟨rfl, h2⟩ := h2
        obtain ⟨r, hr⟩ := go (.lv 2) (i + 1) (show (2 : Nat) ≤ 5 by decide) (isT_lt h2) (Or.inl (by omega))
        match r, hr with
        | .ok (x, j), hr => exact ⟨_, .lvNot h2 hr⟩
        | .error k, hr => exact ⟨_, .lvNotE h2 hr⟩
      have h2' : n = 2 → isT T i wNot = false := fun e => by
        cases hx : isT T i wNot with
        | false => rfl
        | true => exact absurd ⟨e, hx⟩ h2
      obtain ⟨r, hr⟩ := go (.lv (n + 1)) i (show n + 1 ≤ 5 by omega) hi (Or.inr ⟨rfl, by simp only [rank]; omega⟩)
      match r, hr with
      | .error k, hr => exact ⟨_, .lvGoE hn h2' hr⟩
      | .ok (x, j), hr =>
        have hj := rd_on hr _ _ rfl hi
        obtain ⟨r, hr2⟩ := go (.lp n x) j hn hj.2 (Or.inl (by have := hj.1; simp only [gain] at this; omega))
        exact ⟨_, .lvGo hn h2' hr hr2⟩
    | lp n e =>
      cases h : sgT T n i with
      | none => exact ⟨_, .lpEnd h⟩
      | some s =>
        have hi2 := isT_lt (sgT_some h).2
        have hn : n < 5 := hm
        obtain ⟨r, hr⟩ := go (.lv (n + 1)) (i + 1) (show n + 1 ≤ 5 by omega) (by omega) (Or.inl (by omega))
        match r, hr with
        | .error k, hr => exact ⟨_, .lpE h hr⟩
        | .ok (x, j), hr =>
          by_cases h2 : n = 2
          · subst h2; exact ⟨_, .lpOne h hr⟩
          have hj := rd_on hr _ _ rfl (by omega)
          obtain ⟨r, hr2⟩ := go (.lp n (opEx s [e, x] (atT T E i))) j hn hj.2 (Or.inl (by have := hj.1; omega))
          exact ⟨_, .lpGo h h2 hr hr2⟩
    | un =>
      cases h : isT T i wMinus with
      | true =>
        obtain ⟨r, hr⟩ := go .un (i + 1) trivial (isT_lt h) (Or.inl (by omega))
        match r, hr with
        | .ok (x, j), hr => exact ⟨_, .unNeg h hr⟩
        | .error k, hr => exact ⟨_, .unNegE h hr⟩
      | false =>
        obtain ⟨r, hr⟩ := go .pr i trivial hi (Or.inr ⟨rfl, by simp only [rank]; omega⟩)
        exact ⟨_, .unPr h hr⟩
    | pr =>
      cases h : isT T i wOpen with
      | true =>
        obtain ⟨r, hr⟩ := go (.lv 0) (i + 1) (Nat.zero_le _) (isT_lt h) (Or.inl (by omega))
        match r, hr with
        | .error k, hr => exact ⟨_, .prParE h hr⟩
        | .ok (x, j), hr =>
          cases hc : isT T j wClose with
          | true => exact ⟨_, .prPar h hr hc⟩
          | false => exact ⟨_, .prParN h hr hc⟩
      | false =>
        cases hl : isT T i wLen with
        | true =>
          cases ho : isT T (i + 1) wOpen with
          | false => exact ⟨_, .prLenN hl ho⟩
          | true =>
            obtain ⟨r, hr⟩ := go (.ar wLen (atT T E i) 1 []) (i + 2) ⟨Nat.zero_le _, by decide⟩ (isT_lt ho) (Or.inl (by omega))
            exact ⟨_, .prLen hl ho hr⟩
        | false =>
          cases hf : isT T i wIf with
          | true =>
            cases ho : isT T (i + 1) wOpen with
            | false => exact ⟨_, .prIfN hf ho⟩
            | true =>
              obtain ⟨r, hr⟩ := go (.ar wIf (atT T E i) 3 []) (i + 2) ⟨Nat.zero_le _, by decide⟩ (isT_lt ho) (Or.inl (by omega))
              exact ⟨_, .prIf hf ho hr⟩
          | false =>
            cases hv : valT T i with
            | some v => exact ⟨_, .prVal h hl hf hv⟩
            | none =>
              cases hnm : nameT T i with
              | some s => exact ⟨_, .prCol h hl hf hv hnm⟩
              | none => exact ⟨_, .prNo h hl hf hv hnm⟩
    | ar w p m acc =>
      obtain ⟨hm1, hm2⟩ := hm
      by_cases he : acc.length = m
      · cases hc : isT T i wClose with
        | true => exact ⟨_, .arEnd he hc⟩
        | false => exact ⟨_, .arEndN he hc⟩
      by_cases h0 : acc = []
      · subst h0
        obtain ⟨r, hr⟩ := go (.lv 0) i (Nat.zero_le _) hi (Or.inr ⟨rfl, by simp only [rank]; omega⟩)
        match r, hr with
        | .error k, hr => exact ⟨_, .arFirstE hm2 hr⟩
        | .ok (x, j), hr =>
          have hj := rd_on hr _ _ rfl hi
          obtain ⟨r, hr2⟩ := go (.ar w p m [x]) j ⟨hm2, hm2⟩ hj.2 (Or.inl (by have := hj.1; simp only [gain] at this; omega))
          exact ⟨_, .arFirst hm2 hr hr2⟩
      · have hlt : acc.length < m := by omega
        cases hc : isT T i wComma with
        | false => exact ⟨_, .arGoN hlt h0 hc⟩
        | true =>
          obtain ⟨r, hr⟩ := go (.lv 0) (i + 1) (Nat.zero_le _) (isT_lt hc) (Or.inl (by omega))
          match r, hr with
          | .error k, hr => exact ⟨_, .arGoE hlt h0 hc hr⟩
          | .ok (x, j), hr =>
            have hj := rd_on hr _ _ rfl (isT_lt hc)
            obtain ⟨r, hr2⟩ := go (.ar w p m (acc ++ [x])) j ⟨by simp; omega, hm2⟩ hj.2 (Or.inl (by have := hj.1; omega))
            exact ⟨_, .arGo hlt h0 hc hr hr2⟩
end
end Go.Proofs.YtpbbkpfaphjdoaaGreatDoor
