import Derived.Test.YtjoeeilncekgpaaGreatDoorTBackText
import Derived.Test.YtjoeeilncekgpaaGreatDoorTBindLaw
namespace Go.Proofs.YtjoeeilncekgpaaGreatDoor
mutual
theorem same_size : ∀ x y : Ex, exSame x y = true → exSize x = exSize y
 | .mk op name v A c args pos, .mk op2 name2 v2 A2 c2 args2 pos2, h => by
  rw [exSame] at h
  simp only [Bool.and_eq_true] at h
  rw [exSize, exSize]
  exact same_sizes args args2 1 h.2
theorem same_sizes : ∀ (l m : List Ex) (n : Int), exSames l m = true → exSizes n l = exSizes n m
 | [], [], n, _ => rfl
 | [], _ :: _, n, h => by rw [exSames] at h; cases h
 | _ :: _, [], n, h => by rw [exSames] at h; cases h
 | a :: l, b :: m, n, h => by
  rw [exSames, Bool.and_eq_true] at h
  rw [exSizes, exSizes, same_size a b h.1, same_sizes l m _ h.2]
end
theorem same_all {f : Ex → Bool} {g : Ex → Bool} (H : ∀ a b, exSame a b = true → f a = g b) : ∀ (l m : List Ex), exSames l m = true → l.all f = m.all g
 | [], [], _ => rfl
 | [], _ :: _, h => by rw [exSames] at h; cases h
 | _ :: _, [], h => by rw [exSames] at h; cases h
 | a :: l, b :: m, h => by
  rw [exSames, Bool.and_eq_true] at h
  rw [List.all_cons, List.all_cons, H a b h.1, same_all H l m h.2]
theorem same_below : ∀ (n : Nat) (x y : Ex), exSame x y = true → exBelow n x = exBelow n y
 | 0, x, y, _ => by rw [exBelow, exBelow]
 | n + 1, x, y, h => by
  rw [exSame_eq] at h
  simp only [Bool.and_eq_true] at h
  rw [exBelow_all, exBelow_all]
  exact same_all (same_below n) _ _ h.2
theorem same_full {x y : Ex} (h : exSame x y = true) : fullB x = fullB y := by unfold fullB; rw [same_size x y h, same_below 30 x y h]
mutual
theorem strip_strip : ∀ x : Ex, strip (strip x) = strip x
 | .mk op name v A c args pos => by rw [strip, strip, strips_strips args]
theorem strips_strips : ∀ l : List Ex, strips (strips l) = strips l
 | [] => by rw [strips, strips]
 | a :: l => by rw [strips, strips, strip_strip a, strips_strips l]
end
theorem same_strip (x y : Ex) : exSame (strip x) y = exSame x y := by
 rw [← strip_same (strip x) y, strip_strip, strip_same]
theorem same_stripR (x y : Ex) : exSame x (strip y) = exSame x y := by
 rw [← strip_same x (strip y), strip_strip, strip_same]
theorem exSames_snoc : ∀ {l m : List Ex} {a b : Ex}, exSames l m = true → exSame a b = true → exSames (l ++ [a]) (m ++ [b]) = true
 | [], [], a, b, _, h => by simp [exSames, h]
 | [], _ :: _, a, b, h, _ => by rw [exSames] at h; cases h
 | _ :: _, [], a, b, h, _ => by rw [exSames] at h; cases h
 | x :: l, y :: m, a, b, h, h2 => by
  rw [exSames, Bool.and_eq_true] at h
  rw [List.cons_append, List.cons_append, exSames, h.1, exSames_snoc h.2 h2]; rfl
theorem exSames_length {l m : List Ex} (h : exSames l m = true) : l.length = m.length := by
 by_cases e : l.length = m.length
 ·exact e
 ·rw [exSames_len l m e] at h; cases h
theorem same_opEx {s : List UInt8} {l m : List Ex} {p q : Nat} (h : exSames m l = true) : exSame (opEx s m p) (opEx s l q) = true := by
 unfold opEx
 rw [exSame_eq]
 simp [Ex.op, Ex.name, Ex.val, Ex.args, h]
structure Moved (T T' : List Tok) (d : Nat) : Prop where
 at_ : ∀ i, i < T.length → ∃ t t', T[i]? = some t ∧ T'[i + d]? = some t' ∧ t'.kind = t.kind ∧ t'.text = t.text
 close : ∃ t, T'[T.length + d]? = some t ∧ t.kind = 4 ∧ t.text = [41]
section
variable {T T' : List Tok} {d i : Nat}
theorem Moved.isT_lt (h : Moved T T' d) (hi : i < T.length) (s : List UInt8) : isT T' (i + d) s = isT T i s := by
 obtain ⟨t, t', h1, h2, h3, h4⟩ := h.at_ i hi
 unfold isT
 rw [h1, h2]
 simp only
 rw [h3, h4]
theorem Moved.isT_le (h : Moved T T' d) (hi : i ≤ T.length) {s : List UInt8} (hs : s ≠ wClose) : isT T' (i + d) s = isT T i s := by
 by_cases hl : i < T.length
 ·exact h.isT_lt hl s
 obtain rfl : i = T.length := by omega
 obtain ⟨t, h1, h2, h3⟩ := h.close
 unfold isT
 rw [h1, List.getElem?_eq_none (Nat.le_refl _)]
 simp only
 rw [h2, h3]
 rw [show ([41] == s) = false from beq_eq_false_iff_ne.2 (fun e => hs e.symm), Bool.and_false]
theorem Moved.text (h : Moved T T' d) (hi : i < T.length) : textT T' (i + d) = textT T i := by
 obtain ⟨t, t', h1, h2, h3, h4⟩ := h.at_ i hi
 unfold textT
 rw [h1, h2]
 simp only
 rw [h4]
theorem Moved.sg (h : Moved T T' d) (hi : i ≤ T.length) {n : Nat} (hn : n < 5) : sgT T' n (i + d) = sgT T n i := by
 by_cases hl : i < T.length
 ·unfold sgT
  rw [h.text hl]
  congr 1
  congr 1
  exact congrArg (fun f => (lvlL n).any f) (funext fun s => h.isT_lt hl s)
 obtain rfl : i = T.length := by omega
 obtain ⟨t, h1, h2, h3⟩ := h.close
 have e1 : sgT T n T.length = none := by
  cases hx : sgT T n T.length with
  | none => rfl
  | some u => have := Go.Proofs.YtjoeeilncekgpaaGreatDoor.isT_lt (sgT_some hx).2; omega
 rw [e1]
 exact sgT_not (isT_of h1 (Or.inl h2) h3) close_no hn
theorem Moved.val (h : Moved T T' d) (hi : i ≤ T.length) : valT T' (i + d) = valT T i := by
 by_cases hl : i < T.length
 ·obtain ⟨t, t', h1, h2, h3, h4⟩ := h.at_ i hl
  unfold valT
  rw [h1, h2]
  simp only
  rw [h3, h4]
 obtain rfl : i = T.length := by omega
 obtain ⟨t, h1, h2, h3⟩ := h.close
 unfold valT
 rw [h1, List.getElem?_eq_none (Nat.le_refl _)]
 refine if_neg ?_
 rw [h2]
 rintro (h | h | ⟨h, -⟩) <;> exact absurd h (by decide)
theorem Moved.name (h : Moved T T' d) (hi : i < T.length) : nameT T' (i + d) = nameT T i := by
 obtain ⟨t, t', h1, h2, h3, h4⟩ := h.at_ i hi
 unfold nameT
 rw [h1, h2]
 simp only
 rw [h3, h4]
end
def likeMd : Md → Md → Prop
 | .lv n, .lv m => n = m
 | .un, .un => True
 | .pr, .pr => True
 | .lp n e, .lp m f => n = m ∧ exSame e f = true
 | .ar w _ n l, .ar u _ m k => w = u ∧ n = m ∧ exSames l k = true
 | _, _ => False
def lvMd : Md → Prop
 | .lv n => n ≤ 5 | .lp n _ => n < 5 | _ => True
theorem rd_moved {T T' : List Tok} {E E' d : Nat} (hM : Moved T T' d) {m : Md} {i : Nat} {r : PR} (h : Rd T E m i r) : i ≤ T.length → lvMd m → ∀ x j, r = .ok (x, j) → ∀ m', likeMd m' m → ∃ x', Rd T' E' m' (i + d) (.ok (x', j + d)) ∧ exSame x' x = true := by
 have nx : ∀ i, i + 1 + d = i + d + 1 := fun i => by omega
 induction h with
 | @lvNot i x j h a ih =>
  intro hi hm x j e m' hl
  cases e
  match m', hl with
  | .lv _, rfl =>
  have hlt := isT_lt h
  obtain ⟨x', h1, h2⟩ := ih (by omega) hm _ _ rfl (.lv 2) rfl
  rw [nx] at h1
  exact ⟨_, .lvNot (by rw [hM.isT_lt hlt]; exact h) h1, same_opEx (by simp [exSames, h2])⟩
 | lvNotE => intro hi hm x j e; cases e
 | lvUn a ih =>
  intro hi hm x j e m' hl
  match m', hl with
  | .lv _, rfl =>
  obtain ⟨x', h1, h2⟩ := ih hi trivial _ _ e .un trivial
  exact ⟨x', .lvUn h1, h2⟩
 | @lvGo n i x j r hn h a b ih1 ih2 =>
  intro hi hm y k e m' hl
  match m', hl with
  | .lv _, rfl =>
  obtain ⟨x', h1, h2⟩ := ih1 hi (show n + 1 ≤ 5 by omega) _ _ rfl (.lv (n + 1)) rfl
  have hj := rd_on a _ _ rfl hi
  obtain ⟨y', h3, h4⟩ := ih2 hj.2 hn _ _ e (.lp n x') ⟨rfl, h2⟩
  exact ⟨y', .lvGo hn (fun e2 => by rw [hM.isT_le hi (by decide)]; exact h e2) h1 h3, h4⟩
 | lvGoE => intro hi hm x j e; cases e
 | @lpEnd n e i h =>
  intro hi hm x j e2 m' hl
  cases e2
  match m', hl with
  | .lp n' e', ⟨hn, hs⟩ =>
  subst hn
  exact ⟨e', .lpEnd (by rw [hM.sg hi hm]; exact h), hs⟩
 | @lpGo n e i s x j r h hn a b ih1 ih2 =>
  intro hi hm y k e2 m' hl
  match m', hl with
  | .lp n' e', ⟨hn', hs⟩ =>
  subst hn'
  have hm' : n' < 5 := hm
  have hlt := isT_lt (sgT_some h).2
  obtain ⟨x', h1, h2⟩ := ih1 (by omega) (show n' + 1 ≤ 5 by omega) _ _ rfl (.lv (n' + 1)) rfl
  have hj := rd_on a _ _ rfl (by omega)
  obtain ⟨y', h3, h4⟩ := ih2 hj.2 hm _ _ e2 (.lp n' (opEx s [e', x'] (atT T' E' (i + d)))) ⟨rfl, same_opEx (by simp [exSames, hs, h2])⟩
  rw [nx] at h1
  exact ⟨y', .lpGo (by rw [hM.sg hi hm]; exact h) hn h1 h3, h4⟩
 | @lpOne e i s x j h a ih =>
  intro hi hm y k e2 m' hl
  cases e2
  match m', hl with
  | .lp n' e', ⟨hn', hs⟩ =>
  subst hn'
  have hlt := isT_lt (sgT_some h).2
  obtain ⟨x', h1, h2⟩ := ih (by omega) (show (3 : Nat) ≤ 5 by decide) _ _ rfl (.lv 3) rfl
  rw [nx] at h1
  exact ⟨_, .lpOne (by rw [hM.sg hi (by decide)]; exact h) h1, same_opEx (by simp [exSames, hs, h2])⟩
 | lpE => intro hi hm x j e; cases e
 | unNeg h a ih =>
  intro hi hm x j e m' hl
  cases e
  match m', hl with
  | .un, _ =>
  have hlt := isT_lt h
  obtain ⟨x', h1, h2⟩ := ih (by omega) trivial _ _ rfl .un trivial
  rw [nx] at h1
  exact ⟨_, .unNeg (by rw [hM.isT_lt hlt]; exact h) h1, same_opEx (by simp [exSames, h2])⟩
 | unNegE => intro hi hm x j e; cases e
 | unPr h a ih =>
  intro hi hm x j e m' hl
  match m', hl with
  | .un, _ =>
  obtain ⟨x', h1, h2⟩ := ih hi trivial _ _ e .pr trivial
  exact ⟨x', .unPr (by rw [hM.isT_le hi (by decide)]; exact h) h1, h2⟩
 | @prPar i x j h a c ih =>
  intro hi hm y k e m' hl
  cases e
  match m', hl with
  | .pr, _ =>
  have hlt := isT_lt h
  have hlt2 := isT_lt c
  obtain ⟨x', h1, h2⟩ := ih (by omega) (show (0 : Nat) ≤ 5 by decide) _ _ rfl (.lv 0) rfl
  rw [nx] at h1
  refine ⟨x', ?_, h2⟩
  rw [nx]
  exact .prPar (by rw [hM.isT_lt hlt]; exact h) h1 (by rw [hM.isT_lt hlt2]; exact c)
 | prParN => intro hi hm x j e; cases e
 | prParE => intro hi hm x j e; cases e
 | @prLen i r h o a ih =>
  intro hi hm x j e m' hl
  match m', hl with
  | .pr, _ =>
  have hlt := isT_lt h
  have hlt2 := isT_lt o
  obtain ⟨x', h1, h2⟩ := ih (by omega) trivial _ _ e (.ar wLen (atT T' E' (i + d)) 1 []) ⟨rfl, rfl, rfl⟩
  rw [show i + 2 + d = i + d + 2 by omega] at h1
  exact ⟨x', .prLen (by rw [hM.isT_lt hlt]; exact h) (by rw [← nx, hM.isT_lt hlt2]; exact o) h1, h2⟩
 | @prIf i r h o a ih =>
  intro hi hm x j e m' hl
  match m', hl with
  | .pr, _ =>
  have hlt := isT_lt h
  have hlt2 := isT_lt o
  obtain ⟨x', h1, h2⟩ := ih (by omega) trivial _ _ e (.ar wIf (atT T' E' (i + d)) 3 []) ⟨rfl, rfl, rfl⟩
  rw [show i + 2 + d = i + d + 2 by omega] at h1
  exact ⟨x', .prIf (by rw [hM.isT_lt hlt]; exact h) (by rw [← nx, hM.isT_lt hlt2]; exact o) h1, h2⟩
 | prLenN => intro hi hm x j e; cases e
 | prIfN => intro hi hm x j e; cases e
 | @prVal i v h1 h2 h3 c =>
  intro hi hm x j e m' hl
  cases e
  match m', hl with
  | .pr, _ =>
  refine ⟨valEx v (atT T' E' (i + d)), ?_, by unfold valEx; rw [exSame_eq]; simp [Ex.op, Ex.name, Ex.val, Ex.args, exSames]⟩
  rw [nx]
  exact .prVal (by rw [hM.isT_le hi (by decide)]; exact h1) (by rw [hM.isT_le hi (by decide)]; exact h2) (by rw [hM.isT_le hi (by decide)]; exact h3) (by rw [hM.val hi]; exact c)
 | @prCol i s h1 h2 h3 c dd =>
  intro hi hm x j e m' hl
  cases e
  match m', hl with
  | .pr, _ =>
  have hlt := nameT_lt dd
  refine ⟨colEx s (atT T' E' (i + d)), ?_, by unfold colEx; rw [exSame_eq]; simp [Ex.op, Ex.name, Ex.val, Ex.args, exSames]⟩
  rw [nx]
  exact .prCol (by rw [hM.isT_le hi (by decide)]; exact h1) (by rw [hM.isT_le hi (by decide)]; exact h2) (by rw [hM.isT_le hi (by decide)]; exact h3) (by rw [hM.val hi]; exact c) (by rw [hM.name hlt]; exact dd)
 | prNo => intro hi hm x j e; cases e
 | @arEnd w p m acc i h c =>
  intro hi hm x j e m' hl
  cases e
  match m', hl with
  | .ar w' p' m₂ acc', ⟨e1, e2, hs⟩ =>
  subst e1 e2
  have hlt := isT_lt c
  refine ⟨opEx w' acc' p', ?_, same_opEx hs⟩
  rw [nx]
  exact .arEnd ((exSames_length hs).trans h) (by rw [hM.isT_lt hlt]; exact c)
 | arEndN => intro hi hm x j e; cases e
 | @arFirst w p m i x j r h a b ih1 ih2 =>
  intro hi hm y k e m' hl
  match m', hl with
  | .ar w' p' m₂ [], ⟨e1, e2, hs⟩ =>
   subst e1 e2
   obtain ⟨x', h1, h2⟩ := ih1 hi (show (0 : Nat) ≤ 5 by decide) _ _ rfl (.lv 0) rfl
   have hj := rd_on a _ _ rfl hi
   obtain ⟨y', h3, h4⟩ := ih2 hj.2 trivial _ _ e (.ar w' p' m₂ [x']) ⟨rfl, rfl, by simp [exSames, h2]⟩
   exact ⟨y', .arFirst h h1 h3, h4⟩
  | .ar _ p' _ (_ :: _), ⟨e1, e2, hs⟩ => rw [exSames] at hs; cases hs
 | arFirstE => intro hi hm x j e; cases e
 | @arGo w p m acc i x j r h h0 c a b ih1 ih2 =>
  intro hi hm y k e m' hl
  match m', hl with
  | .ar w' p' m₂ acc', ⟨e1, e2, hs⟩ =>
  subst e1 e2
  have hlt := isT_lt c
  obtain ⟨x', h1, h2⟩ := ih1 (by omega) (show (0 : Nat) ≤ 5 by decide) _ _ rfl (.lv 0) rfl
  have hj := rd_on a _ _ rfl (by omega)
  obtain ⟨y', h3, h4⟩ := ih2 hj.2 trivial _ _ e (.ar w' p' m₂ (acc' ++ [x'])) ⟨rfl, rfl, exSames_snoc hs h2⟩
  rw [nx] at h1
  have hl := exSames_length hs
  exact ⟨y', .arGo (by rw [hl]; exact h) (fun e0 => h0 (List.eq_nil_of_length_eq_zero (by rw [← hl, e0]; rfl))) (by rw [hM.isT_lt hlt]; exact c) h1 h3, h4⟩
 | arGoE => intro hi hm x j e; cases e
 | arGoN => intro hi hm x j e; cases e
theorem tw_snoc {p : UInt8 → Bool} (h : p 41 = false) : ∀ l : List UInt8, (l ++ [41]).takeWhile p = l.takeWhile p ∧ (l ++ [41]).dropWhile p = l.dropWhile p ++ [41]
 | [] => by simp [h]
 | c :: l => by
  by_cases hc : p c = true
  ·simp [hc, tw_snoc h l]
  ·simp [hc]
theorem tok_more {l : List UInt8} {n : Nat} {k : Int} (h : tokP l = (n, k, 0)) : tokP (l ++ [41]) = (n, k, 0) := by
 cases l with
 | nil => cases h
 | cons c r =>
  rw [List.cons_append]
  by_cases hL : isL c = true
  ·rw [tokP_L _ hL] at h ⊢
   rw [← List.cons_append, (tw_snoc (by decide) (c :: r)).1]
   exact h
  by_cases hD : isD c = true
  ·rw [tokP_D _ hD] at h ⊢
   rw [← List.cons_append, (tw_snoc (by decide) (c :: r)).1, (tw_snoc (by decide) (c :: r)).2]
   have he : ((c :: r).dropWhile isD ++ [41]).head?.any isL = ((c :: r).dropWhile isD).head?.any isL := by
    cases hx : (c :: r).dropWhile isD with
    | nil => rfl
    | cons y ys => rfl
   rw [he]
   exact h
  by_cases hQ : c = 39
  ·subst hQ
   rw [tokP_Q] at h ⊢
   cases hm : qlen r with
   | none => rw [hm] at h; cases h
   | some m =>
    rw [hm] at h
    obtain ⟨t, u, g1, g2, g3, g4⟩ := qlen_some r hm
    have hq : qlen (r ++ [41]) = some m := by
     have h5 := qlen_app t (u := u) (e := r.drop m ++ [41]) g3 (by
      cases hx : r.drop m with
      | nil => decide
      | cons y ys => rw [hx] at g4; exact g4)
     rw [g2] at h5
     rw [← h5]
     congr 1
     rw [← List.cons_append, ← List.append_assoc, ← g1]
    rw [hq]
    simp only at h ⊢
    have hl : m ≤ r.length := by have := congrArg List.length g1; simp at this; omega
    rw [List.take_append_of_le_length hl]
    exact h
  ·rw [tokP_S _ hL hD hQ] at h ⊢
   have hs : sgnN (c :: (r ++ [41])) = sgnN (c :: r) := by
    by_cases h2 : ∃ d r', r = d :: r' ∧ ((c = 60 ∧ (d = 62 ∨ d = 61)) ∨ (c = 62 ∧ d = 61))
    ·obtain ⟨d, r', rfl, hp⟩ := h2
     rw [List.cons_append, sgnN_two _ hp, sgnN_two _ hp]
    ·have h3 : ∀ (z : List UInt8), (∀ d, z.head? = some d → d = 41 ∨ r.head? = some d) → sgnN (c :: z) = if sign1 c = true then 1 else 0 := fun z hz => sgnN_one z (fun d hd hp => by
      rcases hz d hd with e | e
      ·subst e; rcases hp with ⟨-, h | h⟩ | ⟨-, h⟩ <;> exact absurd h (by decide)
      ·cases r with
       | nil => cases e
       | cons d' r' => exact h2 ⟨d', r', rfl, by rw [show d' = d by simpa using e]; exact hp⟩)
     rw [h3 _ (fun d hd => by
      cases r with
      | nil => left; simpa using hd.symm
      | cons d' r' => right; simpa using hd), h3 _ (fun d hd => Or.inr hd)]
   rw [hs]
   exact h
theorem lex_more : ∀ (n : Nat) (s : List UInt8), s.length ≤ n → ∀ (a b : Nat) (T : List Tok), lexP s a = .ok T → ∃ T', lexP (s ++ [41]) b = .ok (T' ++ [⟨4, [41], b + s.length⟩]) ∧ likeToks T' T := by
 intro n
 induction n with
 | zero =>
  intro s hs a b T h
  obtain rfl := List.eq_nil_of_length_eq_zero (Nat.le_zero.1 hs)
  rw [lexP_nil] at h
  cases h
  exact ⟨[], by rw [List.nil_append, lex_close, lexP_nil]; rfl, trivial⟩
 | succ n ih =>
  intro s hs a b T h
  cases s with
  | nil =>
   rw [lexP_nil] at h
   cases h
   exact ⟨[], by rw [List.nil_append, lex_close, lexP_nil]; rfl, trivial⟩
  | cons c r =>
   simp only [List.length_cons] at hs
   by_cases hb : c = 32 ∨ c = 10
   ·rw [lexP_blank hb] at h
    obtain ⟨T', h1, h2⟩ := ih r (by omega) (a + 1) (b + 1) T h
    refine ⟨T', ?_, h2⟩
    rw [List.cons_append, lexP_blank hb, h1, List.length_cons]
    rw [show b + 1 + r.length = b + (r.length + 1) by omega]
   obtain ⟨q, k, e, ht⟩ : ∃ q k e, tokP (c :: r) = (q, k, e) := ⟨_, _, _, rfl⟩
   by_cases he : e = 0
   ·subst he
    have hle := tokP_le (l := c :: r) (by rw [ht])
    rw [ht] at hle
    simp only [List.length_cons] at hle
    rw [lexP_tok hb ht] at h
    cases hx : lexP ((c :: r).drop q) (a + q) with
    | bad e p => rw [hx] at h; cases h
    | ok T1 =>
     rw [hx] at h
     cases h
     obtain ⟨T', h1, h2⟩ := ih ((c :: r).drop q) (by simp; omega) (a + q) (b + q) T1 hx
     refine ⟨⟨k, (c :: r).take q, b⟩ :: T', ?_, ⟨rfl, rfl, h2⟩⟩
     have hm := tok_more ht
     rw [List.cons_append] at hm ⊢
     rw [lexP_tok hb hm, ← List.cons_append, List.drop_append_of_le_length (by simp; omega), List.take_append_of_le_length (by simp; omega), h1]
     show LexR.ok _ = _
     congr 1
     simp
     omega
   ·rw [lexP_bad hb ht he] at h; cases h
theorem likeToks.get : ∀ {l m : List Tok}, likeToks l m → ∀ i, i < m.length → ∃ t t', m[i]? = some t ∧ l[i]? = some t' ∧ t'.kind = t.kind ∧ t'.text = t.text
 | [], [], _, i, h => by simp at h
 | x :: l, y :: m, h, 0, _ => ⟨y, x, rfl, rfl, h.1, h.2.1⟩
 | x :: l, y :: m, h, i + 1, hi => by
  obtain ⟨t, t', h1, h2, h3⟩ := h.2.2.get i (by simpa using hi)
  exact ⟨t, t', by simpa using h1, by simpa using h2, h3⟩
theorem parse_ok {s : List UInt8} {e : Ex} (h : ParseIs s (.ok e)) : ∃ T, lexS s = .ok T ∧ Rd T s.length (.lv 0) 0 (.ok (e, T.length)) ∧ fullB e = false := by
 rcases h with ⟨a, b, -, h⟩ | ⟨T, r, h1, h2, h3⟩
 ·cases h
 rcases h3 with ⟨k, -, h3⟩ | ⟨x, j, rfl, h3⟩
 ·cases h3
 rcases h3 with ⟨-, h3⟩ | ⟨hj, ⟨-, h3⟩ | ⟨hf, h3⟩⟩
 ·cases h3
 ·cases h3
 ·cases h3
  have := rd_on h2 _ _ rfl (Nat.zero_le _)
  obtain rfl : j = T.length := by omega
  exact ⟨T, h1, h2, hf⟩
theorem parse_mk {s : List UInt8} {T : List Tok} {e : Ex} (h1 : lexS s = .ok T) (h2 : Rd T s.length (.lv 0) 0 (.ok (e, T.length))) (h3 : fullB e = false) : ParseIs s (.ok e) :=
 Or.inr ⟨T, _, h1, h2, Or.inr ⟨e, _, rfl, Or.inr ⟨Nat.le_refl _, Or.inr ⟨h3, rfl⟩⟩⟩⟩
theorem parse_right {s : List UInt8} {e : Ex} (h : ParseIs s (.ok e)) : checkErr e = 0 ∧ 1 ≤ exSize e ∧ exSize e ≤ 200 := by
 obtain ⟨T, h1, h2, h3⟩ := parse_ok h
 have hk := rd_right (numOk_of h1) h2 trivial _ _ rfl
 have hc : checkErr e = 0 := by unfold checkErr; rw [h3, if_neg (by decide)]; exact hk
 obtain ⟨c1, c2, c3⟩ := checkErr_ok hc
 have := (size_ok 30 (Nat.le_refl _) e c2 c3).1
 refine ⟨hc, ?_, c1⟩
 rw [this, exN_eq]
 omega
theorem parse_wrong {s : List UInt8} {h p : Int} (hp : ParseIs s (.error (h, p))) : h ≠ 0 ∧ 0 ≤ p ∧ p ≤ s.length := by
 have key : ∀ {T : List Tok}, lexS s = .ok T → ∀ j, atT T s.length j ≤ s.length := fun {T} hT j => by
  unfold atT
  cases hx : T[j]? with
  | none => exact Nat.le_refl _
  | some t => exact (words_of hT).at_ t (List.mem_of_getElem? hx)
 rcases hp with ⟨a, b, h1, h2⟩ | ⟨T, r, h1, h2, h3⟩
 ·cases h2
  obtain ⟨g1, g2⟩ := lexS_bad h1
  exact ⟨g1, by omega, by omega⟩
 rcases h3 with ⟨k, rfl, h3⟩ | ⟨x, j, rfl, h3⟩
 ·cases h3
  obtain ⟨j, rfl⟩ := rd_bad h2 _ rfl
  have := key h1 j
  exact ⟨by decide, by omega, by omega⟩
 rcases h3 with ⟨-, h3⟩ | ⟨hj, ⟨-, h3⟩ | ⟨hf, h3⟩⟩
 ·cases h3
  have := key h1 j
  exact ⟨by decide, by omega, by omega⟩
 ·cases h3
  exact ⟨by decide, by omega, by omega⟩
 ·cases h3
theorem parse_text {x : Ex} (hk : checkErr x = 0) (hf : fitsE x) (hl : (exText x).length ≤ 400) : ∃ e, ParseIs (exText x) (.ok e) ∧ exSame e x = true := by
 obtain ⟨c1, c2, c3⟩ := checkErr_ok hk
 obtain ⟨ts, ha⟩ := again_all _ x (Nat.le_refl _) c3 hf [] 0 (fun y hy => by cases hy)
 have hlex : lexS (exText x) = .ok ts := by
  have := ha.lex
  rw [List.append_nil, lexP_nil] at this
  unfold lexS
  rw [if_neg (by omega), this]
  show LexR.ok _ = _
  rw [List.append_nil]
 obtain ⟨e, h1, h2⟩ := ha.read ts (exText x).length 0 (Sub.self ts)
 rw [Nat.zero_add] at h1
 have h0 : 0 < ts.length := ha.pos
 have hr := lift_lv h1 ha.first.1 ha.first.2 5 0 (by omega) (fun m _ _ => by
  cases hx : sgT ts m ts.length with
  | none => rfl
  | some u => have := isT_lt (sgT_some hx).2; omega)
 refine ⟨e, parse_mk hlex hr ?_, h2⟩
 rw [same_full h2]
 unfold checkErr at hk
 cases hx : fullB x with
 | false => rfl
 | true => rw [hx, if_pos rfl] at hk; omega
theorem parse_in {s : List UInt8} {e : Ex} (h : ParseIs s (.ok e)) (hl : s.length ≤ 398) : ∃ g, ParseIs (40 :: (s ++ [41])) (.ok g) ∧ exSame g e = true := by
 obtain ⟨T, h1, h2, h3⟩ := parse_ok h
 have hx : lexP s 0 = .ok T := by unfold lexS at h1; rw [if_neg (by omega)] at h1; exact h1
 obtain ⟨T', g1, g2⟩ := lex_more _ s (Nat.le_refl _) 0 1 T hx
 have hn := g2.len
 have hlex : lexS (40 :: (s ++ [41])) = .ok (⟨4, [40], 0⟩ :: (T' ++ [⟨4, [41], 1 + s.length⟩])) := by
  unfold lexS
  rw [if_neg (by simp; omega), lex_open, g1]
  rfl
 generalize hW : (⟨4, [40], 0⟩ :: (T' ++ [⟨4, [41], 1 + s.length⟩]) : List Tok) = W at hlex
 have hlen : W.length = T.length + 2 := by rw [← hW]; simp; omega
 have hc : W[T.length + 1]? = some ⟨4, [41], 1 + s.length⟩ := by
  rw [← hW, List.getElem?_cons_succ, List.getElem?_append_right (by omega), hn, Nat.sub_self]; rfl
 have hM : Moved T W 1 := by
  refine ⟨fun i hi => ?_, ⟨_, hc, rfl, rfl⟩⟩
  obtain ⟨t, t', k1, k2, k3⟩ := g2.get i hi
  refine ⟨t, t', k1, ?_, k3⟩
  rw [← hW, List.getElem?_cons_succ, List.getElem?_append_left (by omega)]
  exact k2
 obtain ⟨g, k1, k2⟩ := rd_moved (E' := (40 :: (s ++ [41])).length) hM h2 (Nat.zero_le _) (show (0 : Nat) ≤ 5 by decide) _ _ rfl (.lv 0) rfl
 have ho : W[0]? = some ⟨4, [40], 0⟩ := by rw [← hW]; rfl
 have hp : Rd W (40 :: (s ++ [41])).length .pr 0 (.ok (g, T.length + 1 + 1)) := .prPar (isT_of ho (Or.inl rfl) rfl) k1 (isT_of hc (Or.inl rfl) rfl)
 have hO := isT_of (s := wOpen) ho (Or.inl rfl) rfl
 have hr := lift_lv hp (isT_one hO (by decide)) (isT_one hO (by decide)) 5 0 (by omega) (fun m _ _ => by
  cases hx : sgT W m (T.length + 1 + 1) with
  | none => rfl
  | some u => have := isT_lt (sgT_some hx).2; omega)
 rw [show T.length + 1 + 1 = W.length by omega] at hr
 exact ⟨g, parse_mk hlex hr (by rw [same_full k2]; exact h3), k2⟩
def factT : List UInt8 := [97, 32, 43, 32, 50, 32, 42, 32, 98]
def factOk : Bool := match parseF factT with
 | some (.ok x) => x.op.data.toList == [43] && (match x.args with | [_, y] => y.op.data.toList == [42] | _ => false) && x.pos == 2
 | _ => false
theorem fact_ok : factOk = true := by kernel_rfl
theorem fact_is : ∃ x a b, ParseIs factT (.ok x) ∧ x.op.data.toList = [43] ∧ x.args = [a, b] ∧ b.op.data.toList = [42] ∧ x.pos = 2 := by
 have h := fact_ok
 unfold factOk at h
 split at h
 ·rename_i x hx
  simp only [Bool.and_eq_true, beq_iff_eq] at h
  obtain ⟨⟨h1, h2⟩, h3⟩ := h
  split at h2
  ·rename_i a b hab
   exact ⟨x, a, b, parseF_sound (by decide) hx, h1, hab, by simpa using h2, h3⟩
  ·cases h2
 ·cases h
end Go.Proofs.YtjoeeilncekgpaaGreatDoor
