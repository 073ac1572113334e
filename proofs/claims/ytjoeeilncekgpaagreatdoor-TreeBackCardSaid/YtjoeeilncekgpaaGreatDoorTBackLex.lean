import Derived.Test.YtjoeeilncekgpaaGreatDoorTLexBack0
namespace Go.Proofs.YtjoeeilncekgpaaGreatDoor
def stopB (x : UInt8) : Prop := x = 32 ∨ x = 41 ∨ x = 44
theorem not_S {b : UInt8} (h : stopB b) : isL b = false ∧ isD b = false ∧ isLD b = false := by
 rcases h with rfl | rfl | rfl <;> decide
theorem tok_stop {l : List UInt8} {n : Nat} {k : Int} (h : tokP l = (n, k, 0)) (e : List UInt8) (he : ∀ x, e.head? = some x → stopB x) : tokP (l.take n ++ e) = (n, k, 0) := by
 have heL : ∀ x, e.head? = some x → isLD x = false := fun x hx => (not_S (he x hx)).2.2
 have heD : ∀ x, e.head? = some x → isD x = false := fun x hx => (not_S (he x hx)).2.1
 cases l with
 | nil => cases h
 | cons c r =>
  by_cases hL : isL c = true
  ·rw [tokP_L r hL] at h
   injection h with h1 h2
   injection h2 with h2 _
   subst h1 h2
   have hc : isLD c = true := by simp [isLD, hL]
   have ha := tw_app ((c :: r).takeWhile isLD) e (tw_all _ _) heL
   have hx : (c :: r).takeWhile isLD = c :: r.takeWhile isLD := by rw [List.takeWhile_cons, if_pos hc]
   rw [tw_take]
   have := tokP_L (r.takeWhile isLD ++ e) hL
   rw [← List.cons_append, ← hx, ha.1] at this
   exact this
  by_cases hD : isD c = true
  ·rw [tokP_D r hD] at h
   split at h
   ·cases h
   rename_i hx
   split at h
   ·rename_i hy
    injection h with h1 h2
    injection h2 with h2 _
    subst h1 h2
    have ha := tw_app ((c :: r).takeWhile isD) e (tw_all _ _) heD
    have hz : (c :: r).takeWhile isD = c :: r.takeWhile isD := by rw [List.takeWhile_cons, if_pos hD]
    rw [tw_take]
    have := tokP_D (r.takeWhile isD ++ e) hD
    rw [← List.cons_append, ← hz, ha.1, ha.2] at this
    rw [this, if_neg, if_pos hy]
    rintro (e1 | e1)
    ·exact hx (Or.inl e1)
    ·cases e with
     | nil => cases e1
     | cons x e => simp [(not_S (he x rfl)).1] at e1
   ·cases h
  by_cases hQ : c = 39
  ·subst hQ
   rw [tokP_Q] at h
   cases hm : qlen r with
   | none => rw [hm] at h; cases h
   | some m =>
    rw [hm] at h
    simp only at h
    split at h
    ·rename_i hr
     injection h with h1 h2
     injection h2 with h2 _
     subst h1 h2
     obtain ⟨t, u, g1, g2, g3, g4⟩ := qlen_some r hm
     have ht : r.take m = t ++ [39] := by
      rw [show r.take m = (t ++ 39 :: r.drop m).take (t.length + 1) by rw [← g1, g2], List.take_length_add_append]
      rfl
     rw [List.take_succ_cons, List.cons_append, tokP_Q, ht, List.append_assoc]
     have hq := qlen_app t (e := e) g3 (fun e1 => by have := he 39 e1; unfold stopB at this; simp at this)
     rw [show [39] ++ e = 39 :: e from rfl, hq]
     have htk : (t ++ 39 :: e).take (t.length + 1) = t ++ [39] := by rw [List.take_length_add_append]; rfl
     simp only
     rw [htk, ← ht, if_pos hr, g2]
    ·rename_i hr
     injection h with h1 h2
     injection h2 with _ h2
     exact (hr h2).elim
  ·rw [tokP_S r hL hD hQ] at h
   split at h
   ·cases h
   rename_i hs
   injection h with h1 h2
   injection h2 with h2 _
   subst h2
   by_cases h2 : ∃ d r', r = d :: r' ∧ ((c = 60 ∧ (d = 62 ∨ d = 61)) ∨ (c = 62 ∧ d = 61))
   ·obtain ⟨d, r', rfl, hp⟩ := h2
    rw [sgnN_two r' hp] at h1
    subst h1
    show tokP (c :: d :: e) = _
    rw [tokP_S _ hL hD hQ, sgnN_two e hp, if_neg (by decide)]
   ·have h3 := sgnN_one (c := c) r (fun d hd hp => h2 (by
     cases r with
     | nil => cases hd
     | cons d' r' => exact ⟨d', r', rfl, by rw [show d' = d by simpa using hd]; exact hp⟩))
    rw [h3] at h1 hs
    by_cases h4 : sign1 c = true
    ·rw [if_pos h4] at h1
     subst h1
     show tokP (c :: e) = _
     have h5 := sgnN_one (c := c) e (fun d hd hp => by
      have hb := he d hd
      unfold stopB at hb
      rcases hb with rfl | rfl | rfl <;> simp at hp)
     rw [tokP_S _ hL hD hQ, h5, if_pos h4, if_neg (by decide)]
    ·rw [if_neg h4] at hs; exact (hs rfl).elim
theorem TokOk.lex_stop {t : Tok} (h : TokOk t) (e : List UInt8) (he : ∀ x, e.head? = some x → stopB x) (a : Nat) :
  lexP (t.text ++ e) a = (lexP e (a + t.text.length)).pre [⟨t.kind, t.text, a⟩] := by
 obtain ⟨c, r, n, h1, h2, h3, h4, h5⟩ := h
 have hk := tok_stop h1 e he
 have hl : t.text.length = n := by rw [h2, List.length_take]; omega
 rw [← h2] at hk
 cases hx : t.text with
 | nil => rw [hx] at hl; simp at hl; omega
 | cons c' r' =>
  have : c' = c := by
   rw [h2] at hx
   cases n with
   | zero => omega
   | succ n => rw [List.take_succ_cons] at hx; injection hx with e1 _; exact e1.symm
  subst this
  rw [hx] at hl hk
  have := lexP_tok (a := a) (r := r' ++ e) h3 hk
  rw [← List.cons_append] at this
  rw [this, ← hl, List.drop_left, List.take_left]
theorem lex_open (e : List UInt8) (a : Nat) : lexP (40 :: e) a = (lexP e (a + 1)).pre [⟨4, [40], a⟩] := by
 have h1 := sgnN_one (c := 40) e (fun d _ hp => by rcases hp with ⟨h, -⟩ | ⟨h, -⟩ <;> exact absurd h (by decide))
 have hk : tokP (40 :: e) = (1, 4, 0) := by
  rw [tokP_S e (by decide) (by decide) (by decide), h1]
  rfl
 rw [lexP_tok (a := a) (r := e) (by rintro (h | h) <;> exact absurd h (by decide)) hk]
 rfl
theorem lex_close (e : List UInt8) (a : Nat) : lexP (41 :: e) a = (lexP e (a + 1)).pre [⟨4, [41], a⟩] := by
 have h1 := sgnN_one (c := 41) e (fun d _ hp => by rcases hp with ⟨h, -⟩ | ⟨h, -⟩ <;> exact absurd h (by decide))
 have hk : tokP (41 :: e) = (1, 4, 0) := by
  rw [tokP_S e (by decide) (by decide) (by decide), h1]
  rfl
 rw [lexP_tok (a := a) (r := e) (by rintro (h | h) <;> exact absurd h (by decide)) hk]
 rfl
theorem lex_comma (e : List UInt8) (a : Nat) : lexP (44 :: e) a = (lexP e (a + 1)).pre [⟨4, [44], a⟩] := by
 have h1 := sgnN_one (c := 44) e (fun d _ hp => by rcases hp with ⟨h, -⟩ | ⟨h, -⟩ <;> exact absurd h (by decide))
 have hk : tokP (44 :: e) = (1, 4, 0) := by
  rw [tokP_S e (by decide) (by decide) (by decide), h1]
  rfl
 rw [lexP_tok (a := a) (r := e) (by rintro (h | h) <;> exact absurd h (by decide)) hk]
 rfl
end Go.Proofs.YtjoeeilncekgpaaGreatDoor
