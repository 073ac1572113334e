/- A stable sort by merging, plain: one sorted order; the halves of a symmetric merge; swaps, turns, searches; the order by tags. -/
import Derived.Test.YtkgdfccpkiglaaaDoorSTold
namespace Go.Proofs.YtkgdfccpkiglaaaDoor
namespace SortLaw
variable {α : Type}
theorem one {lt : α → α → Prop} (asym : ∀ a b, lt a b → ¬ lt b a) :
  ∀ {l m : List α}, l.Perm m → l.Pairwise lt → m.Pairwise lt → l = m
 | [], m, h, _, _ => by have := h.symm.eq_nil; simp [this]
 | a :: l, [], h, _, _ => by have := h.eq_nil; simp at this
 | a :: l, b :: m, h, hl, hm => by
  have hl' := List.pairwise_cons.mp hl
  have hm' := List.pairwise_cons.mp hm
  have hab : a = b := by
   have ha : a ∈ b :: m := h.mem_iff.mp (by simp)
   have hb : b ∈ a :: l := h.mem_iff.mpr (by simp)
   rcases List.mem_cons.mp ha with e | e
   ·exact e
   rcases List.mem_cons.mp hb with f | f
   ·exact f.symm
   exact absurd (hl'.1 b f) (asym _ _ (hm'.1 a e))
  subst hab
  rw [one asym (List.Perm.cons_inv h) hl'.2 hm'.2]
theorem halves {lt : α → α → Prop} (tr : ∀ a b c, lt a b → lt b c → lt a c) {A B C D : List α}
  (hL : (A ++ B).Pairwise lt) (hR : (C ++ D).Pairwise lt)
  (hAD : A = [] ∨ D = [] ∨ ∃ A' x y D', A = A' ++ [x] ∧ D = y :: D' ∧ lt x y)
  (hCB : C = [] ∨ B = [] ∨ ∃ C' x y B', C = C' ++ [x] ∧ B = y :: B' ∧ lt x y) :
  ∀ x ∈ A ++ C, ∀ y ∈ B ++ D, lt x y := by
 have step : ∀ {P Q : List α}, P.Pairwise lt → Q.Pairwise lt → (P = [] ∨ Q = [] ∨ ∃ P' x y Q', P = P' ++ [x] ∧ Q = y :: Q' ∧ lt x y) →
   ∀ x ∈ P, ∀ y ∈ Q, lt x y := by
  intro P Q hP hQ h x hx y hy
  rcases h with rfl | rfl | ⟨P', u, v, Q', rfl, rfl, huv⟩
  ·simp at hx
  ·simp at hy
  ·have h1 : x = u ∨ lt x u := by
    rcases List.mem_append.mp hx with e | e
    ·exact .inr ((List.pairwise_append.mp hP).2.2 x e u (by simp))
    ·exact .inl (by simpa using e)
   have h2 : y = v ∨ lt v y := by
    rcases List.mem_cons.mp hy with e | e
    ·exact .inl e
    ·exact .inr ((List.pairwise_cons.mp hQ).1 y e)
   have h3 : lt x v := by rcases h1 with rfl | e; exact huv; exact tr _ _ _ e huv
   rcases h2 with rfl | e; exact h3; exact tr _ _ _ h3 e
 have pL := List.pairwise_append.mp hL
 have pR := List.pairwise_append.mp hR
 intro x hx y hy
 rcases List.mem_append.mp hx with a | c <;> rcases List.mem_append.mp hy with b | d
 ·exact pL.2.2 x a y b
 ·exact step pL.1 pR.2.1 hAD x a y d
 ·exact step pR.1 pL.2.1 hCB x c y b
 ·exact pR.2.2 x c y d
theorem swap_at {P M Q : List α} {x y : α} :
  ((P ++ x :: (M ++ y :: Q)).set P.length y).set (P.length + 1 + M.length) x = P ++ y :: (M ++ x :: Q) := by
 rw [List.set_append_right _ _ (Nat.le_refl _)]
 simp only [Nat.sub_self, List.set_cons_zero]
 rw [List.set_append_right _ _ (by omega)]
 have e : P.length + 1 + M.length - P.length = M.length + 1 := by omega
 rw [e, List.set_cons_succ, List.set_append_right _ _ (Nat.le_refl _)]
 simp
theorem insert_sorted {lt : α → α → Prop} {A B : List α} {x : α}
  (h : (A ++ B).Pairwise lt) (ha : ∀ a ∈ A, lt a x) (hb : ∀ b ∈ B, lt x b) : (A ++ x :: B).Pairwise lt := by
 have p := List.pairwise_append.mp h
 refine List.pairwise_append.mpr ⟨p.1, List.pairwise_cons.mpr ⟨hb, p.2.1⟩, fun a ia b ib => ?_⟩
 rcases List.mem_cons.mp ib with e | e
 ·exact e ▸ ha a ia
 ·exact p.2.2 a ia b e
theorem ends {lt : α → α → Prop} {L R : List α} {k e : Nat} (hk : k ≤ L.length) (he : e ≤ R.length)
  (h : k = 0 ∨ e = R.length ∨ ∃ x y, L[k - 1]? = some x ∧ R[e]? = some y ∧ lt x y) :
  L.take k = [] ∨ R.drop e = [] ∨ ∃ A' x y D', L.take k = A' ++ [x] ∧ R.drop e = y :: D' ∧ lt x y := by
 by_cases k0 : k = 0
 ·exact .inl (by simp [k0])
 by_cases e0 : e = R.length
 ·exact .inr (.inl (by simp [e0]))
 rcases h with h | h | ⟨x, y, hx, hy, l⟩
 ·exact absurd h k0
 ·exact absurd h e0
 obtain ⟨kk, rfl⟩ : ∃ kk, k = kk + 1 := ⟨k - 1, by omega⟩
 obtain ⟨h1, hx⟩ := List.getElem?_eq_some_iff.mp hx
 obtain ⟨h2, hy⟩ := List.getElem?_eq_some_iff.mp hy
 refine .inr (.inr ⟨L.take kk, x, y, R.drop (e + 1), ?_, ?_, l⟩)
 ·rw [List.take_succ_eq_append_getElem (by omega)]; simp only [Nat.add_sub_cancel] at hx; rw [hx]
 ·rw [List.drop_eq_getElem_cons h2, hy]
theorem merged {lt : α → α → Prop} {A B C D X Y : List α} (hX : X.Perm (A ++ C)) (hY : Y.Perm (B ++ D))
  (sX : X.Pairwise lt) (sY : Y.Pairwise lt) (h : ∀ x ∈ A ++ C, ∀ y ∈ B ++ D, lt x y) :
  (X ++ Y).Perm ((A ++ B) ++ (C ++ D)) ∧ (X ++ Y).Pairwise lt := by
 refine ⟨(hX.append hY).trans ?_, List.pairwise_append.mpr ⟨sX, sY, fun x a y b => h x (hX.mem_iff.mp a) y (hY.mem_iff.mp b)⟩⟩
 simp only [List.append_assoc]
 refine List.Perm.append_left A ?_
 rw [← List.append_assoc, ← List.append_assoc]
 exact List.perm_append_comm.append_right D
structure Weak (lt : α → α → Bool) (P : α → Prop) : Prop where
 asym : ∀ a b, P a → P b → lt a b = true → lt b a = false
 far : ∀ a b c, P a → P b → P c → lt a c = true → lt a b = true ∨ lt b c = true
def Ahead (lt : α → α → Bool) (P : α → Prop) (x y : α × Nat) : Prop :=
 P x.1 ∧ P y.1 ∧ (lt x.1 y.1 = true ∨ (lt y.1 x.1 = false ∧ x.2 < y.2))
theorem ahead_asym {lt : α → α → Bool} {P : α → Prop} (w : Weak lt P) (x y : α × Nat) (h : Ahead lt P x y) :
  ¬ Ahead lt P y x := by
 obtain ⟨px, py, h⟩ := h
 rintro ⟨_, _, g⟩
 rcases h with h | ⟨h, i⟩ <;> rcases g with g | ⟨g, j⟩
 ·rw [w.asym _ _ px py h] at g; cases g
 ·rw [h] at g; cases g
 ·rw [h] at g; cases g
 ·omega
theorem ahead_trans {lt : α → α → Bool} {P : α → Prop} (w : Weak lt P) (x y z : α × Nat)
  (h : Ahead lt P x y) (g : Ahead lt P y z) : Ahead lt P x z := by
 obtain ⟨px, py, h⟩ := h
 obtain ⟨_, pz, g⟩ := g
 refine ⟨px, pz, ?_⟩
 have no : lt z.1 x.1 = false := by
  cases e : lt z.1 x.1 with
  | false => rfl
  | true =>
   rcases w.far _ _ _ pz py px e with f | f
   ·rcases g with g | ⟨g, _⟩
    ·rw [w.asym _ _ py pz g] at f; cases f
    ·rw [g] at f; cases f
   ·rcases h with h | ⟨h, _⟩
    ·rw [w.asym _ _ px py h] at f; cases f
    ·rw [h] at f; cases f
 cases e : lt x.1 z.1 with
 | true => exact .inl rfl
 | false =>
  refine .inr ⟨no, ?_⟩
  rcases h with h | ⟨_, i⟩
  ·rcases w.far _ _ _ px pz py h with f | f
   ·rw [e] at f; cases f
   ·rcases g with g | ⟨g, _⟩
    ·rw [w.asym _ _ py pz g] at f; cases f
    ·rw [g] at f; cases f
  ·rcases g with g | ⟨_, j⟩
   ·rcases w.far _ _ _ py px pz g with f | f
    ·exact absurd ‹lt y.1 x.1 = false› (by rw [f]; simp)
    ·rw [e] at f; cases f
   ·omega
theorem ahead_of {lt : α → α → Bool} {P : α → Prop} {x y : α × Nat} (px : P x.1) (py : P y.1) (h : x.2 < y.2) :
  (lt y.1 x.1 = true → Ahead lt P y x) ∧ (lt y.1 x.1 = false → Ahead lt P x y) :=
 ⟨fun e => ⟨py, px, .inl e⟩, fun e => ⟨px, py, .inr ⟨e, h⟩⟩⟩
theorem ins_at {lt : α → α → Prop} (tr : ∀ a b c, lt a b → lt b c → lt a c) {R : List α} {k : Nat} {x : α} (hR : R.Pairwise lt) (hk : k ≤ R.length)
  (h1 : k = 0 ∨ ∃ y, R[k - 1]? = some y ∧ lt y x) (h2 : k = R.length ∨ ∃ y, R[k]? = some y ∧ lt x y) : (R.take k ++ x :: R.drop k).Pairwise lt := by
 have hR' : (R.take k ++ R.drop k).Pairwise lt := by rw [List.take_append_drop]; exact hR
 have e1 := ends (lt := lt) (L := R) (R := [x]) (k := k) (e := 0) hk (by simp) (by
  rcases h1 with h | ⟨y, hy, l⟩
  ·exact .inl h
  ·exact .inr (.inr ⟨y, x, hy, rfl, l⟩))
 have e2 := ends (lt := lt) (L := [x]) (R := R) (k := 1) (e := k) (by simp) hk (by
  rcases h2 with h | ⟨y, hy, l⟩
  ·exact .inr (.inl h)
  ·exact .inr (.inr ⟨x, y, rfl, hy, l⟩))
 refine insert_sorted hR' ?_ ?_
 ·intro a ha
  exact halves tr (A := R.take k) (B := R.drop k) (C := []) (D := [x]) hR' (by simp) (by simpa using e1) (.inl rfl) a (by simpa using ha) x (by simp)
 ·intro a ha
  exact halves tr (A := [x]) (B := []) (C := R.take k) (D := R.drop k) (by simp) hR' (by simpa using e2) (.inr (.inl rfl)) x (by simp) a (by simpa using ha)
theorem merge_cut {lt : α → α → Prop} (tr : ∀ a b c, lt a b → lt b c → lt a c) {L R X Y : List α} {k e : Nat} (hL : L.Pairwise lt) (hR : R.Pairwise lt)
  (hk : k ≤ L.length) (he : e ≤ R.length)
  (h1 : k = 0 ∨ e = R.length ∨ ∃ x y, L[k - 1]? = some x ∧ R[e]? = some y ∧ lt x y)
  (h2 : e = 0 ∨ k = L.length ∨ ∃ x y, R[e - 1]? = some x ∧ L[k]? = some y ∧ lt x y)
  (hX : X.Perm (L.take k ++ R.take e)) (hY : Y.Perm (L.drop k ++ R.drop e)) (sX : X.Pairwise lt) (sY : Y.Pairwise lt) :
  (X ++ Y).Perm (L ++ R) ∧ (X ++ Y).Pairwise lt := by
 have hL' : (L.take k ++ L.drop k).Pairwise lt := by rw [List.take_append_drop]; exact hL
 have hR' : (R.take e ++ R.drop e).Pairwise lt := by rw [List.take_append_drop]; exact hR
 have := merged hX hY sX sY (halves tr hL' hR' (ends hk he h1) (ends he hk h2))
 rwa [List.take_append_drop, List.take_append_drop] at this
inductive Runs (lt : α → α → Prop) (bs : Nat) : List α → List α → Prop
 | nil : Runs lt bs [] []
 | cons {d S l0 l : List α} : d.length = bs → S.Perm d → S.Pairwise lt → Runs lt bs l0 l → Runs lt bs (d ++ l0) (S ++ l)
theorem Runs.perm {lt : α → α → Prop} {bs : Nat} {l0 l : List α} (h : Runs lt bs l0 l) : l.Perm l0 := by
 induction h with
 | nil => exact List.Perm.refl _
 | cons _ p _ _ ih => exact p.append ih
theorem Runs.append {lt : α → α → Prop} {bs : Nat} {l0 l m0 m : List α} (h : Runs lt bs l0 l) (g : Runs lt bs m0 m) : Runs lt bs (l0 ++ m0) (l ++ m) := by
 induction h with
 | nil => exact g
 | cons a b c _ ih => rw [List.append_assoc, List.append_assoc]; exact .cons a b c ih
theorem Runs.one {lt : α → α → Prop} {bs : Nat} {d S : List α} (h : d.length = bs) (p : S.Perm d) (s : S.Pairwise lt) : Runs lt bs d S := by
 have := Runs.cons h p s (.nil (lt := lt) (bs := bs))
 simpa using this
theorem Runs.cases3 {lt : α → α → Prop} {bs : Nat} {l0 l : List α} (h : Runs lt bs l0 l) :
  (l0 = [] ∧ l = []) ∨ (l0.length = bs ∧ l.length = bs ∧ l.Perm l0 ∧ l.Pairwise lt) ∨
  ∃ d1 S1 d2 S2 m0 m, l0 = d1 ++ (d2 ++ m0) ∧ l = S1 ++ (S2 ++ m) ∧ d1.length = bs ∧ d2.length = bs ∧ S1.length = bs ∧ S2.length = bs ∧
   S1.Perm d1 ∧ S2.Perm d2 ∧ S1.Pairwise lt ∧ S2.Pairwise lt ∧ Runs lt bs m0 m := by
 cases h with
 | nil => exact .inl ⟨rfl, rfl⟩
 | @cons d1 S1 l0' l' a b c h =>
  cases h with
  | nil => exact .inr (.inl ⟨by simpa using a, by simpa using b.length_eq.trans a, by simpa using b, by simpa using c⟩)
  | @cons d2 S2 m0 m a2 b2 c2 h2 => exact .inr (.inr ⟨d1, S1, d2, S2, m0, m, rfl, rfl, a, a2, b.length_eq.trans a, b2.length_eq.trans a2, b, b2, c, c2, h2⟩)
end SortLaw
end Go.Proofs.YtkgdfccpkiglaaaDoor
