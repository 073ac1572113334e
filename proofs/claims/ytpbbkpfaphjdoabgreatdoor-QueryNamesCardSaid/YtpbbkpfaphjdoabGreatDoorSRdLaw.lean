/- Expressions read of words, in plain Lean: what any words are read as, from any one on, or where it goes wrong. No program in sight. -/
import Derived.Test.YtpbbkpfaphjdoabGreatDoorSLexLaw
import Derived.Test.YtpbbkpfaphjdoabGreatDoorSNumLaw
import Derived.Test.YtpbbkpfaphjdoabGreatDoorSCheck
namespace Go.Proofs.YtpbbkpfaphjdoabGreatDoor
open Go.ChangeShapes Go.WideShapes Go.ChangeAt Go.RowKit
def wNot : List UInt8 := [110, 111, 116]
def wNeg : List UInt8 := [110, 101, 103]
def wMinus : List UInt8 := [45]
def wOpen : List UInt8 := [40]
def wClose : List UInt8 := [41]
def wComma : List UInt8 := [44]
def wLen : List UInt8 := [108, 101, 110]
def wIf : List UInt8 := [105, 102]
def opEx (op : List UInt8) (l : List Ex) (pos : Nat) : Ex := .mk (mkB op) ⟨#[]⟩ noVal none 0 l pos
def valEx (v : Val) (pos : Nat) : Ex := .mk (mkB [118, 97, 108]) ⟨#[]⟩ v none 0 [] pos
def colEx (s : List UInt8) (pos : Nat) : Ex := .mk (mkB [99, 111, 108]) (mkB s) noVal none 0 [] pos
section
variable (T : List Tok) (E : Nat)
def isT (i : Nat) (s : List UInt8) : Bool := match T[i]? with
 | none => false
 | some t => (t.kind == 4 || t.kind == 1) && (t.text == s)
def atT (i : Nat) : Nat := match T[i]? with
 | none => E
 | some t => t.at_
def textT (i : Nat) : List UInt8 := match T[i]? with
 | none => []
 | some t => t.text
def sgT (n i : Nat) : Option (List UInt8) := if (lvlL n).any (fun s => isT T i s) = true then some (textT T i) else none
def valT (i : Nat) : Option Val := match T[i]? with
 | none => none
 | some t => if t.kind = 2 ∨ t.kind = 3 ∨ t.kind = 1 ∧ (t.text = tTrue ∨ t.text = tFalse) then some (readP t.text).1 else none
def nameT (i : Nat) : Option (List UInt8) := match T[i]? with
 | none => none
 | some t => if t.kind = 1 ∧ treeName (mkB t.text) = true then some t.text else none
inductive Md where
 | lv (n : Nat) | lp (n : Nat) (e : Ex) | un | pr | ar (w : List UInt8) (pos m : Nat) (acc : List Ex)
abbrev PR := Except Nat (Ex × Nat)
inductive Rd : Md → Nat → PR → Prop
 | lvNot {i : Nat} {x : Ex} {j : Nat} (h : isT T i wNot = true) (a : Rd (.lv 2) (i + 1) (.ok (x, j))) : Rd (.lv 2) i (.ok (opEx wNot [x] (atT T E i), j))
 | lvNotE {i k : Nat} (h : isT T i wNot = true) (a : Rd (.lv 2) (i + 1) (.error k)) : Rd (.lv 2) i (.error k)
 | lvUn {i : Nat} {r : PR} (a : Rd .un i r) : Rd (.lv 5) i r
 | lvGo {n i : Nat} {x : Ex} {j : Nat} {r : PR} (hn : n < 5) (h : n = 2 → isT T i wNot = false) (a : Rd (.lv (n + 1)) i (.ok (x, j))) (b : Rd (.lp n x) j r) : Rd (.lv n) i r
 | lvGoE {n i k : Nat} (hn : n < 5) (h : n = 2 → isT T i wNot = false) (a : Rd (.lv (n + 1)) i (.error k)) : Rd (.lv n) i (.error k)
 | lpEnd {n : Nat} {e : Ex} {i : Nat} (h : sgT T n i = none) : Rd (.lp n e) i (.ok (e, i))
 | lpGo {n : Nat} {e : Ex} {i : Nat} {s : List UInt8} {x : Ex} {j : Nat} {r : PR} (h : sgT T n i = some s) (hn : n ≠ 2) (a : Rd (.lv (n + 1)) (i + 1) (.ok (x, j))) (b : Rd (.lp n (opEx s [e, x] (atT T E i))) j r) : Rd (.lp n e) i r
 | lpOne {e : Ex} {i : Nat} {s : List UInt8} {x : Ex} {j : Nat} (h : sgT T 2 i = some s) (a : Rd (.lv 3) (i + 1) (.ok (x, j))) : Rd (.lp 2 e) i (.ok (opEx s [e, x] (atT T E i), j))
 | lpE {n : Nat} {e : Ex} {i : Nat} {s : List UInt8} {k : Nat} (h : sgT T n i = some s) (a : Rd (.lv (n + 1)) (i + 1) (.error k)) : Rd (.lp n e) i (.error k)
 | unNeg {i : Nat} {x : Ex} {j : Nat} (h : isT T i wMinus = true) (a : Rd .un (i + 1) (.ok (x, j))) : Rd .un i (.ok (opEx wNeg [x] (atT T E i), j))
 | unNegE {i k : Nat} (h : isT T i wMinus = true) (a : Rd .un (i + 1) (.error k)) : Rd .un i (.error k)
 | unPr {i : Nat} {r : PR} (h : isT T i wMinus = false) (a : Rd .pr i r) : Rd .un i r
 | prPar {i : Nat} {x : Ex} {j : Nat} (h : isT T i wOpen = true) (a : Rd (.lv 0) (i + 1) (.ok (x, j))) (c : isT T j wClose = true) : Rd .pr i (.ok (x, j + 1))
 | prParN {i : Nat} {x : Ex} {j : Nat} (h : isT T i wOpen = true) (a : Rd (.lv 0) (i + 1) (.ok (x, j))) (c : isT T j wClose = false) : Rd .pr i (.error (atT T E j))
 | prParE {i k : Nat} (h : isT T i wOpen = true) (a : Rd (.lv 0) (i + 1) (.error k)) : Rd .pr i (.error k)
 | prLen {i : Nat} {r : PR} (h : isT T i wLen = true) (o : isT T (i + 1) wOpen = true) (a : Rd (.ar wLen (atT T E i) 1 []) (i + 2) r) : Rd .pr i r
 | prIf {i : Nat} {r : PR} (h : isT T i wIf = true) (o : isT T (i + 1) wOpen = true) (a : Rd (.ar wIf (atT T E i) 3 []) (i + 2) r) : Rd .pr i r
 | prLenN {i : Nat} (h : isT T i wLen = true) (o : isT T (i + 1) wOpen = false) : Rd .pr i (.error (atT T E (i + 1)))
 | prIfN {i : Nat} (h : isT T i wIf = true) (o : isT T (i + 1) wOpen = false) : Rd .pr i (.error (atT T E (i + 1)))
 | prVal {i : Nat} {v : Val} (h1 : isT T i wOpen = false) (h2 : isT T i wLen = false) (h3 : isT T i wIf = false) (c : valT T i = some v) : Rd .pr i (.ok (valEx v (atT T E i), i + 1))
 | prCol {i : Nat} {s : List UInt8} (h1 : isT T i wOpen = false) (h2 : isT T i wLen = false) (h3 : isT T i wIf = false) (c : valT T i = none) (d : nameT T i = some s) : Rd .pr i (.ok (colEx s (atT T E i), i + 1))
 | prNo {i : Nat} (h1 : isT T i wOpen = false) (h2 : isT T i wLen = false) (h3 : isT T i wIf = false) (c : valT T i = none) (d : nameT T i = none) : Rd .pr i (.error (atT T E i))
 | arEnd {w : List UInt8} {p m : Nat} {acc : List Ex} {i : Nat} (h : acc.length = m) (c : isT T i wClose = true) : Rd (.ar w p m acc) i (.ok (opEx w acc p, i + 1))
 | arEndN {w : List UInt8} {p m : Nat} {acc : List Ex} {i : Nat} (h : acc.length = m) (c : isT T i wClose = false) : Rd (.ar w p m acc) i (.error (atT T E i))
 | arFirst {w : List UInt8} {p m : Nat} {i : Nat} {x : Ex} {j : Nat} {r : PR} (h : 0 < m) (a : Rd (.lv 0) i (.ok (x, j))) (b : Rd (.ar w p m [x]) j r) : Rd (.ar w p m []) i r
 | arFirstE {w : List UInt8} {p m : Nat} {i k : Nat} (h : 0 < m) (a : Rd (.lv 0) i (.error k)) : Rd (.ar w p m []) i (.error k)
 | arGo {w : List UInt8} {p m : Nat} {acc : List Ex} {i : Nat} {x : Ex} {j : Nat} {r : PR} (h : acc.length < m) (h0 : acc ≠ []) (c : isT T i wComma = true) (a : Rd (.lv 0) (i + 1) (.ok (x, j))) (b : Rd (.ar w p m (acc ++ [x])) j r) : Rd (.ar w p m acc) i r
 | arGoE {w : List UInt8} {p m : Nat} {acc : List Ex} {i k : Nat} (h : acc.length < m) (h0 : acc ≠ []) (c : isT T i wComma = true) (a : Rd (.lv 0) (i + 1) (.error k)) : Rd (.ar w p m acc) i (.error k)
 | arGoN {w : List UInt8} {p m : Nat} {acc : List Ex} {i : Nat} (h : acc.length < m) (h0 : acc ≠ []) (c : isT T i wComma = false) : Rd (.ar w p m acc) i (.error (atT T E i))
end
section
variable {T : List Tok} {E : Nat}
theorem isT_some {i : Nat} {s : List UInt8} (h : isT T i s = true) : ∃ t, T[i]? = some t ∧ (t.kind = 4 ∨ t.kind = 1) ∧ t.text = s := by
 unfold isT at h
 cases ht : T[i]? with
 | none => rw [ht] at h; cases h
 | some t =>
  rw [ht] at h
  simp only [Bool.and_eq_true, Bool.or_eq_true, beq_iff_eq] at h
  exact ⟨t, rfl, h.1, h.2⟩
theorem isT_lt {i : Nat} {s : List UInt8} (h : isT T i s = true) : i < T.length := by
 obtain ⟨t, ht, _⟩ := isT_some h
 exact (List.getElem?_eq_some_iff.1 ht).1
theorem isT_text {i : Nat} {s : List UInt8} (h : isT T i s = true) : textT T i = s := by
 obtain ⟨t, ht, _, e⟩ := isT_some h
 unfold textT; rw [ht]; exact e
theorem isT_one {i : Nat} {s u : List UInt8} (h : isT T i s = true) (hu : s ≠ u) : isT T i u = false := by
 cases hx : isT T i u with
 | false => rfl
 | true => exact absurd ((isT_text h).symm.trans (isT_text hx)) hu
theorem sgT_some {n i : Nat} {s : List UInt8} (h : sgT T n i = some s) : s ∈ lvlL n ∧ isT T i s = true := by
 unfold sgT at h
 split at h
 ·rename_i hx
  obtain ⟨u, hu, h2⟩ := List.any_eq_true.1 hx
  injection h with h
  rw [isT_text h2] at h
  subst h
  exact ⟨hu, h2⟩
 ·cases h
theorem valT_lt {i : Nat} {v : Val} (h : valT T i = some v) : i < T.length := by
 unfold valT at h
 cases ht : T[i]? with
 | none => rw [ht] at h; cases h
 | some t => exact (List.getElem?_eq_some_iff.1 ht).1
theorem nameT_some {i : Nat} {s : List UInt8} (h : nameT T i = some s) : ∃ t, T[i]? = some t ∧ t.kind = 1 ∧ t.text = s ∧ treeName (mkB s) = true := by
 unfold nameT at h
 cases ht : T[i]? with
 | none => rw [ht] at h; cases h
 | some t =>
  rw [ht] at h
  simp only at h
  split at h
  ·rename_i hx
   injection h with h
   subst h
   exact ⟨t, rfl, hx.1, rfl, hx.2⟩
  ·cases h
theorem nameT_lt {i : Nat} {s : List UInt8} (h : nameT T i = some s) : i < T.length := by
 obtain ⟨t, ht, _⟩ := nameT_some h
 exact (List.getElem?_eq_some_iff.1 ht).1
def gain : Md → Nat
 | .lv _ => 1 | .un => 1 | .pr => 1 | .lp _ _ => 0 | .ar _ _ _ _ => 1
theorem rd_on {m : Md} {i : Nat} {r : PR} (h : Rd T E m i r) : ∀ x j, r = .ok (x, j) → i ≤ T.length → i + gain m ≤ j ∧ j ≤ T.length := by
 induction h with
 | lvNot h a ih => intro x j e hi; cases e; have := isT_lt h; have := ih _ _ rfl (by omega); exact ⟨by simp only [gain] at *; omega, this.2⟩
 | lvNotE => intro x j e; cases e
 | lvUn a ih => intro x j e hi; exact ih x j e hi
 | lvGo hn h a b ih1 ih2 =>
  intro x j e hi
  have h1 := ih1 _ _ rfl hi
  have h2 := ih2 x j e h1.2
  exact ⟨by simp only [gain] at *; omega, h2.2⟩
 | lvGoE => intro x j e; cases e
 | lpEnd h => intro x j e hi; cases e; exact ⟨Nat.le_refl _, hi⟩
 | lpGo h hn a b ih1 ih2 =>
  intro x j e hi
  have := isT_lt (sgT_some h).2
  have h1 := ih1 _ _ rfl (by omega)
  have h2 := ih2 x j e h1.2
  exact ⟨by simp only [gain] at *; omega, h2.2⟩
 | lpOne h a ih =>
  intro x j e hi
  cases e
  have := isT_lt (sgT_some h).2
  have h1 := ih _ _ rfl (by omega)
  exact ⟨by simp only [gain] at *; omega, h1.2⟩
 | lpE => intro x j e; cases e
 | unNeg h a ih => intro x j e hi; cases e; have := isT_lt h; have := ih _ _ rfl (by omega); exact ⟨by simp only [gain] at *; omega, this.2⟩
 | unNegE => intro x j e; cases e
 | unPr h a ih => intro x j e hi; exact ih x j e hi
 | prPar h a c ih => intro x j e hi; cases e; have := isT_lt h; have := isT_lt c; have := ih _ _ rfl (by omega); exact ⟨by simp only [gain] at *; omega, by omega⟩
 | prParN => intro x j e; cases e
 | prParE => intro x j e; cases e
 | prLen h o a ih => intro x j e hi; have := isT_lt o; have := ih x j e (by omega); exact ⟨by simp only [gain] at *; omega, this.2⟩
 | prIf h o a ih => intro x j e hi; have := isT_lt o; have := ih x j e (by omega); exact ⟨by simp only [gain] at *; omega, this.2⟩
 | prLenN => intro x j e; cases e
 | prIfN => intro x j e; cases e
 | prVal h1 h2 h3 c => intro x j e hi; cases e; have := valT_lt c; exact ⟨Nat.le_refl _, by omega⟩
 | prCol h1 h2 h3 c d => intro x j e hi; cases e; have := nameT_lt d; exact ⟨Nat.le_refl _, by omega⟩
 | prNo => intro x j e; cases e
 | arEnd h c => intro x j e hi; cases e; have := isT_lt c; exact ⟨Nat.le_refl _, by omega⟩
 | arEndN => intro x j e; cases e
 | arFirst h a b ih1 ih2 =>
  intro x j e hi
  have h1 := ih1 _ _ rfl hi
  have h2 := ih2 x j e h1.2
  exact ⟨by simp only [gain] at *; omega, h2.2⟩
 | arFirstE => intro x j e; cases e
 | arGo h h0 c a b ih1 ih2 =>
  intro x j e hi
  have := isT_lt c
  have h1 := ih1 _ _ rfl (by omega)
  have h2 := ih2 x j e h1.2
  exact ⟨by simp only [gain] at *; omega, h2.2⟩
 | arGoE => intro x j e; cases e
 | arGoN => intro x j e; cases e
def rank : Md → Nat
 | .lv n => 3 + (5 - n) | .un => 2 | .pr => 1 | .lp _ _ => 0 | .ar _ _ _ _ => 9
def work (T : List Tok) (m : Md) (i : Nat) : Nat := 10 * (T.length - i) + rank m
end
end Go.Proofs.YtpbbkpfaphjdoabGreatDoor
