/- What Outs come to together, plain: which are put in order, which have no row, what is wrong with them, and that the order is one. -/
import Derived.Test.YtkgdfccpkiglaaaDoorSJoinCmp
namespace Go.Proofs.YtkgdfccpkiglaaaDoor
namespace SortLaw
theorem cmpInt_neg (x y : Int) : Lib.compareInt y x = - Lib.compareInt x y := by
 unfold Lib.compareInt; split <;> split <;> first | omega | (split <;> omega)
theorem ordK_neg {a b : List Val} {c0 : Int} : ∀ {k : Nat}, (∀ i, i < k → (a.getD i noVal).type = (b.getD i noVal).type) → ordK (-c0) b a k = - ordK c0 a b k
 | 0, _ => rfl
 | k + 1, h => by
  have ih := ordK_neg (k := k) (c0 := c0) (fun i hi => h i (by omega))
  rw [ordK, ordK, ih, ord_neg (h k (by omega))]
  by_cases e : ordK c0 a b k = 0
  ·rw [if_pos e, if_pos (by omega)]
  ·rw [if_neg e, if_neg (by omega)]
def Trip (x y z : Int) : Prop := x ≤ 0 → y ≤ 0 → z ≤ 0 ∧ (x < 0 ∨ y < 0 → z < 0) ∧ (x = 0 → y = 0 → z = 0)
theorem cmpInt_trip (a b c : Int) : Trip (Lib.compareInt a b) (Lib.compareInt b c) (Lib.compareInt a c) := by
 unfold Trip Lib.compareInt
 intro h1 h2
 have e1 : a ≤ b := by
  by_cases q : a < b
  ·omega
  ·rw [if_neg q] at h1
   by_cases q2 : a > b
   ·rw [if_pos q2] at h1; omega
   ·omega
 have e2 : b ≤ c := by
  by_cases q : b < c
  ·omega
  ·rw [if_neg q] at h2
   by_cases q2 : b > c
   ·rw [if_pos q2] at h2; omega
   ·omega
 by_cases q : a < c
 ·rw [if_pos q]
  refine ⟨by omega, fun _ => by omega, fun z1 z2 => ?_⟩
  exfalso
  by_cases qa : a < b
  ·rw [if_pos qa] at z1; omega
  ·rw [if_pos (by omega)] at z2; omega
 ·have : a = b := by omega
  have : b = c := by omega
  subst a b
  simp
theorem val_trip {a b c : Val} (ha : vcheck a = 0) (hb : vcheck b = 0) (hc : vcheck c = 0) (h1 : a.type = b.type) (h2 : b.type = c.type) : Trip (vorder a b) (vorder b c) (vorder a c) := by
 intro x y
 have z := ord_trans h1 x y
 have key : vorder a c = 0 → vorder a b = 0 ∧ vorder b c = 0 := fun e => by
  have e2 := (ord_zero ha hc (h1.trans h2)).1 e
  subst e2
  have := ord_neg (a := a) (b := b) h1
  omega
 refine ⟨z, fun q => ?_, fun p q => ?_⟩
 ·by_cases e : vorder a c = 0
  ·have := key e; omega
  ·omega
 ·have e1 := (ord_zero ha hb h1).1 p
  subst e1
  exact q
theorem ordK_trip {a b c : List Val} {u v w : Int} (h0 : Trip u v w) : ∀ {k : Nat}, (∀ i, i < k → Trip (vorder (a.getD i noVal) (b.getD i noVal)) (vorder (b.getD i noVal) (c.getD i noVal)) (vorder (a.getD i noVal) (c.getD i noVal))) →
  Trip (ordK u a b k) (ordK v b c k) (ordK w a c k)
 | 0, _ => h0
 | k + 1, h => by
  have ih := ordK_trip (k := k) h0 (fun i hi => h i (by omega))
  have hv := h k (by omega)
  rw [ordK, ordK, ordK]
  intro x y
  by_cases e1 : ordK u a b k = 0
  ·rw [if_pos e1] at x ⊢
   by_cases e2 : ordK v b c k = 0
   ·rw [if_pos e2] at y ⊢
    have e3 := (ih (by omega) (by omega)).2.2 e1 e2
    rw [if_pos e3]
    exact hv x y
   ·rw [if_neg e2] at y ⊢
    have e3 := (ih (by omega) y).2.1 (Or.inr (by omega))
    rw [if_neg (by omega)]
    exact ⟨by omega, fun _ => e3, fun _ q => absurd q e2⟩
  ·rw [if_neg e1] at x ⊢
   have y' : ordK v b c k ≤ 0 := by
    by_cases e2 : ordK v b c k = 0
    ·omega
    ·rw [if_neg e2] at y; exact y
   have e3 := (ih x y').2.1 (Or.inl (by omega))
   rw [if_neg (by omega)]
   exact ⟨by omega, fun _ => e3, fun q => absurd q e1⟩
def Fit (g : Nat) (ts : Nat → Int) (x : OutP) : Prop := g ≤ x.row.length ∧ ∀ i, i < g → vcheck (x.row.getD i noVal) = 0 ∧ (x.row.getD i noVal).type = ts i
def ltO (g : Nat) (x y : OutP) : Bool := decide (ordO g x y < 0)
theorem ordO_neg {g : Nat} {ts : Nat → Int} {x y : OutP} (hx : Fit g ts x) (hy : Fit g ts y) : ordO g y x = - ordO g x y := by
 unfold ordO
 rw [cmpInt_neg x.beg y.beg]
 exact ordK_neg fun i hi => (hx.2 i hi).2.trans (hy.2 i hi).2.symm
theorem weakO (g : Nat) (ts : Nat → Int) : Weak (ltO g) (Fit g ts) := by
 refine ⟨fun a b ha hb h => ?_, fun a b c ha hb hc h => ?_⟩
 ·unfold ltO at h ⊢
  have := ordO_neg ha hb
  have h := of_decide_eq_true h
  exact decide_eq_false (by omega)
 ·unfold ltO at h ⊢
  have h := of_decide_eq_true h
  by_cases e1 : ordO g a b < 0
  ·exact Or.inl (decide_eq_true e1)
  by_cases e2 : ordO g b c < 0
  ·exact Or.inr (decide_eq_true e2)
  exfalso
  have n1 := ordO_neg ha hb
  have n2 := ordO_neg hb hc
  have n3 := ordO_neg ha hc
  have t := ordK_trip (a := c.row) (b := b.row) (c := a.row) (cmpInt_trip c.beg b.beg a.beg) (k := g)
   (fun i hi => val_trip (hc.2 i hi).1 (hb.2 i hi).1 (ha.2 i hi).1 ((hc.2 i hi).2.trans (hb.2 i hi).2.symm) ((hb.2 i hi).2.trans (ha.2 i hi).2.symm))
  have t : Trip (ordO g c b) (ordO g b a) (ordO g c a) := t
  have := (t (by omega) (by omega)).1
  omega
def goods (l : List OutP) : List OutP := l.filter fun o => !(o.row.length == 0)
def bads (l : List OutP) : List OutP := l.filter fun o => o.row.length == 0
def firstOf (l : List OutP) : List Val := (l.headD ⟨[], 0, 0⟩).row
def tsOf (l : List OutP) (i : Nat) : Int := ((firstOf l).getD i noVal).type
def rowErr (f x : List Val) : Nat → Int
 | 0 => 0
 | k + 1 => if rowErr f x k = 0 then cmpErr (f.getD k noVal) (x.getD k noVal) else rowErr f x k
theorem rowErr_stay {f x : List Val} {k : Nat} (h : rowErr f x k ≠ 0) : ∀ g, k ≤ g → rowErr f x g = rowErr f x k := by
 intro g hg
 induction g with
 | zero =>
  have : k = 0 := by omega
  subst this; rfl
 | succ g ih =>
  by_cases e : k = g + 1
  ·subst e; rfl
  ·have := ih (by omega)
   rw [rowErr, this, if_neg h]
theorem rowErr_zero {f x : List Val} : ∀ {k : Nat}, rowErr f x k = 0 → ∀ i, i < k → cmpErr (f.getD i noVal) (x.getD i noVal) = 0
 | 0, _, i, hi => by omega
 | k + 1, h, i, hi => by
  rw [rowErr] at h
  by_cases e : rowErr f x k = 0
  ·rw [if_pos e] at h
   by_cases e2 : i = k
   ·subst e2; exact h
   ·exact rowErr_zero e i (by omega)
  ·rw [if_neg e] at h; exact absurd h e
def allErr (f : List Val) (g : Nat) : List OutP → Int
 | [] => 0
 | x :: l => if rowErr f x.row g = 0 then allErr f g l else rowErr f x.row g
theorem allErr_at {f : List Val} {g : Nat} : ∀ {l : List OutP} {q : Nat} {x : OutP}, (∀ y ∈ l.take q, rowErr f y.row g = 0) → l[q]? = some x → rowErr f x.row g ≠ 0 → allErr f g l = rowErr f x.row g
 | [], q, x, _, h, _ => by simp at h
 | a :: l, 0, x, _, h, hn => by
  have : a = x := by simpa using h
  subst this
  rw [allErr, if_neg hn]
 | a :: l, q + 1, x, h0, h, hn => by
  rw [allErr, if_pos (h0 a (by simp))]
  exact allErr_at (q := q) (fun y hy => h0 y (by simp [hy])) (by simpa using h) hn
theorem allErr_none {f : List Val} {g : Nat} : ∀ {l : List OutP}, (∀ y ∈ l, rowErr f y.row g = 0) → allErr f g l = 0
 | [], _ => rfl
 | a :: l, h => by rw [allErr, if_pos (h a (by simp))]; exact allErr_none fun y hy => h y (by simp [hy])
theorem fits_all {l : List OutP} {g : Nat} (hs : ∀ y ∈ l, g ≤ y.row.length) (h : ∀ y ∈ l, rowErr (firstOf l) y.row g = 0) : ∀ y ∈ l, Fit g (tsOf l) y := by
 intro y hy
 refine ⟨hs y hy, fun i hi => ?_⟩
 have := cmpErr_zero (rowErr_zero (h y hy) i hi)
 exact ⟨this.2.1, this.2.2.symm⟩
def short (g : Nat) (o : OutP) : Bool := !(o.row.length == 0) && decide (o.row.length < g)
def joinErr (g : Int) (l : List OutP) : Int :=
 if g < 0 ∨ 6 < g then 1 else if l.any (short g.toNat) = true then 3 else allErr (firstOf (goods l)) g.toNat (goods l)
def JoinIs (g : Nat) (l r : List OutP) : Prop :=
 ∃ E : List (OutP × Nat), E.Perm ((goods l).zipIdx) ∧ E.Pairwise (Ahead (ltO g) (Fit g (tsOf (goods l)))) ∧ r = E.map (·.1) ++ bads l
theorem joinIs_one {g : Nat} {l r s : List OutP} (h : JoinIs g l r) (k : JoinIs g l s) : r = s := by
 obtain ⟨E, p1, s1, rfl⟩ := h
 obtain ⟨F, p2, s2, rfl⟩ := k
 rw [one (ahead_asym (weakO g _)) (p1.trans p2.symm) s1 s2]
theorem zip_tag (l : List OutP) : (l.zipIdx).Pairwise (fun x y => x.2 < y.2) := by
 rw [List.pairwise_iff_getElem]
 intro i j hi hj hij
 simpa using hij
theorem zip_mem {l : List OutP} {x : OutP × Nat} (h : x ∈ l.zipIdx) : l[x.2]? = some x.1 := by
 obtain ⟨a, n⟩ := x
 have := List.mk_mem_zipIdx_iff_getElem?.1 h
 simpa using this
theorem goods_snoc (l : List OutP) (o : OutP) : goods (l ++ [o]) = if o.row.length = 0 then goods l else goods l ++ [o] := by
 unfold goods
 rw [List.filter_append]
 by_cases h : o.row.length = 0
 ·simp [h]
 ·simp [h]
theorem bads_snoc (l : List OutP) (o : OutP) : bads (l ++ [o]) = if o.row.length = 0 then bads l ++ [o] else bads l := by
 unfold bads
 rw [List.filter_append]
 by_cases h : o.row.length = 0
 ·simp [h]
 ·simp [h]
end SortLaw
end Go.Proofs.YtkgdfccpkiglaaaDoor
