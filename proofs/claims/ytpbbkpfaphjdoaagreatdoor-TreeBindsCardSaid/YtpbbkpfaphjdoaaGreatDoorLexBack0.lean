/- Words again, plain: where they stand; joined by blanks they are the same words. -/
import Derived.Test.YtpbbkpfaphjdoaaGreatDoorLexLaw
import Derived.Lib.Join
namespace Go.Proofs.YtpbbkpfaphjdoaaGreatDoor
def isB (x : UInt8) : Prop := x = 32 ∨ x = 10
theorem tokP_L {c : UInt8} (r : List UInt8) (h : isL c = true) : tokP (c :: r) = (((c :: r).takeWhile isLD).length, 1, 0) := by
  unfold tokP; simp only; rw [if_pos h]
theorem not_L_of_D {c : UInt8} (h : isD c = true) : ¬ isL c = true := by
  unfold isD at h; unfold isL
  simp at h ⊢; omega
theorem tokP_D {c : UInt8} (r : List UInt8) (h : isD c = true) : tokP (c :: r) = if (1 < ((c :: r).takeWhile isD).length ∧ c = 48) ∨ ((c :: r).dropWhile isD).head?.any isL = true then (0, 2, 2) else if numOk ((c :: r).takeWhile isD) = true then (((c :: r).takeWhile isD).length, 2, 0) else (0, 2, 1) := by
  unfold tokP; simp only; rw [if_neg (not_L_of_D h), if_pos h]
theorem tokP_Q (r : List UInt8) : tokP (39 :: r) = match qlen r with | none => (0, 3, 2) | some m => if (readQ (r.take m)).2 = 0 then (m + 1, 3, 0) else (0, 3, (readQ (r.take m)).2) := by
  unfold tokP; simp only; rw [if_neg (by decide), if_neg (by decide), if_pos trivial]; rfl
theorem tokP_S {c : UInt8} (r : List UInt8) (h1 : ¬ isL c = true) (h2 : ¬ isD c = true) (h3 : c ≠ 39) : tokP (c :: r) = if sgnN (c :: r) = 0 then (0, 0, 2) else (sgnN (c :: r), 4, 0) := by
  unfold tokP; simp only; rw [if_neg h1, if_neg h2, if_neg h3]
/-- A word is read again where a blank, or nothing, stands behind it. -/
theorem tok_again {l : List UInt8} {n : Nat} {k : Int} (h : tokP l = (n, k, 0)) (e : List UInt8) (he : ∀ x, e.head? = some x → isB x) : tokP (l.take n ++ e) = (n, k, 0) := by
  have heL : ∀ x, e.head? = some x → isLD x = false := fun x hx => (not_L (he x hx)).2.2
  have heD : ∀ x, e.head? = some x → isD x = false := fun x hx => (not_L (he x hx)).2.1
  cases l with
  | nil => cases h
  | cons c r =>
    by_cases hL : isL c = true
    · rw [tokP_L r hL] at h
      injection h with h1 h2
      injection h2 with h2 _
      subst h1 h2
      have hc : isLD c = true := by simp [isLD, hL]
      have ha := tw_app ((c :: r).takeWhile isLD) e (tw_all _ _) heL
      have hx : (c :: r).takeWhile isLD = c :: r.takeWhile isLD := by rw [List.takeWhile_cons, if_pos hc]
      rw [tw_take]
      have := tokP_L (r.takeWhile isLD ++ e) hL
      rw [← List.cons_append, ← hx, ha.1] at this
      exact this
    by_cases hD : isD c = true
    · rw [tokP_D r hD] at h
      split at h
      · cases h
      rename_i hx
      split at h
      · rename_i hy
        injection h with h1 h2
        injection h2 with h2 _
        subst h1 h2
        have ha := tw_app ((c :: r).takeWhile isD) e (tw_all _ _) heD
        have hz : (c :: r).takeWhile isD = c :: r.takeWhile isD := by rw [List.takeWhile_cons, if_pos hD]
        rw [tw_take]
        have := tokP_D (r.takeWhile isD ++ e) hD
        rw [← List.cons_append, ← hz, ha.1, ha.2] at this
        rw [this, if_neg, if_pos hy]
        rintro (e1 | e1)
        · exact hx (Or.inl e1)
        · cases e with
          | nil => cases e1
          | cons x e => simp [(not_L (he x rfl)).1] at e1
      · cases h
    by_cases hQ : c = 39
    · subst hQ
      rw [tokP_Q] at h
      cases hm : qlen r with
      | none => rw [hm] at h; cases h
      | some m =>
        rw [hm] at h
        simp only at h
        split at h
        · rename_i hr
          injection h with h1 h2
          injection h2 with h2 _
          subst h1 h2
          obtain ⟨t, u, g1, g2, g3, g4⟩ := qlen_some r hm
          have ht : r.take m = t ++ [39] := by
            rw [show r.take m = (t ++ 39 :: r.drop m).take (t.length + 1) by rw [← g1, g2], List.take_length_add_append]
            rfl
          rw [List.take_succ_cons, List.cons_append, tokP_Q, ht, List.append_assoc]
          have hq := qlen_app t (e := e) g3 (fun e1 => by have := he 39 e1; unfold isB at this; simp at this)
          rw [show [39] ++ e = 39 :: e from rfl, hq]
          have htk : (t ++ 39 :: e).take (t.length + 1) = t ++ [39] := by rw [List.take_length_add_append]; rfl
          simp only
          rw [htk, ← ht, if_pos hr, g2]
        · rename_i hr
          injection h with h1 h2
          injection h2 with _ h2
          exact (hr h2).elim
    · rw [tokP_S r hL hD hQ] at h
      split at h
      · cases h
      rename_i hs
      injection h with h1 h2
      injection h2 with h2 _
      subst h2
      by_cases h2 : ∃ d r', r = d :: r' ∧ ((c = 60 ∧ (d = 62 ∨ d = 61)) ∨ (c = 62 ∧ d = 61))
      · obtain ⟨d, r', rfl, hp⟩ := h2
        rw [sgnN_two r' hp] at h1
        subst h1
        show tokP (c :: d :: e) = _
        rw [tokP_S _ hL hD hQ, sgnN_two e hp, if_neg (by decide)]
      · have h3 := sgnN_one (c := c) r (fun d hd hp => h2 (by
          cases r with
          | nil => cases hd
          | cons d' r' => exact ⟨d', r', rfl, by rw [show d' = d by simpa using hd]; exact hp⟩))
        rw [h3] at h1 hs
        by_cases h4 : sign1 c = true
        · rw [if_pos h4] at h1
          subst h1
          show tokP (c :: e) = _
          have h5 := sgnN_one (c := c) e (fun d hd hp => by
            have hb := he d hd
            unfold isB at hb
            rcases hb with rfl | rfl <;> simp at hp)
          rw [tokP_S _ hL hD hQ, h5, if_pos h4, if_neg (by decide)]
        · rw [if_neg h4] at hs; exact (hs rfl).elim
/-- A word that was read once. -/
def TokOk (t : Tok) : Prop := ∃ (c : UInt8) (r : List UInt8) (n : Nat), tokP (c :: r) = (n, t.kind, 0) ∧ t.text = (c :: r).take n ∧ ¬ isB c ∧ 1 ≤ n ∧ n ≤ (c :: r).length
theorem TokOk.len {t : Tok} (h : TokOk t) : 1 ≤ t.text.length := by
  obtain ⟨c, r, n, _, h2, _, h4, h5⟩ := h
  rw [h2, List.length_take]; omega
theorem TokOk.lex {t : Tok} (h : TokOk t) (e : List UInt8) (he : ∀ x, e.head? = some x → isB x) (a : Nat) :
    lexP (t.text ++ e) a = (lexP e (a + t.text.length)).pre [⟨t.kind, t.text, a⟩] := by
  obtain ⟨c, r, n, h1, h2, h3, h4, h5⟩ := h
  have hk := tok_again h1 e he
  have hl : t.text.length = n := by rw [h2, List.length_take]; omega
  rw [← h2] at hk
  cases hx : t.text with
  | nil => rw [hx] at hl; simp at hl; omega
  | cons c' r' =>
    have : c' = c := by
      rw [h2] at hx
      cases n with
      | zero => omega
      | succ n => rw [List.take_succ_cons] at hx; injection hx with e1 _; exact e1.symm
    subst this
    rw [hx] at hl hk
    have := lexP_tok (a := a) (r := r' ++ e) h3 hk
    rw [← List.cons_append] at this
    rw [this, ← hl, List.drop_left, List.take_left]
theorem lexP_blanks {e : List UInt8} : ∀ (s : List UInt8) (a : Nat), (∀ x ∈ s, isB x) → lexP (s ++ e) a = lexP e (a + s.length)
  | [], a, _ => rfl
  | x :: s, a, h => by
    rw [List.cons_append, lexP_blank (h x (by simp)), lexP_blanks s (a + 1) (fun y hy => h y (List.mem_cons_of_mem _ hy)), List.length_cons]
    congr 1; omega
def likeToks : List Tok → List Tok → Prop
  | [], [] => True
  | a :: l, b :: m => a.kind = b.kind ∧ a.text = b.text ∧ likeToks l m
  | _, _ => False
theorem likeToks.len : ∀ {l m : List Tok}, likeToks l m → l.length = m.length
  | [], [], _ => rfl
  | _ :: _, _ :: _, h => by rw [List.length_cons, List.length_cons, h.2.2.len]
theorem likeToks.at_ : ∀ {l m : List Tok}, likeToks l m → ∀ (i : Nat) (a b : Tok), l[i]? = some a → m[i]? = some b → a.kind = b.kind ∧ a.text = b.text
  | [], [], _, _, _, _, h, _ => by simp at h
  | x :: l, y :: m, h, 0, a, b, ha, hb => by
    injection ha with ha; injection hb with hb; subst ha hb; exact ⟨h.1, h.2.1⟩
  | x :: l, y :: m, h, i + 1, a, b, ha, hb => h.2.2.at_ i a b (by simpa using ha) (by simpa using hb)
/-- With blanks behind each. -/
def glue (sep : List UInt8) (l : List Tok) : List UInt8 := l.flatMap fun t => t.text ++ sep
theorem lex_glue (sep : List UInt8) (hs : ∀ x ∈ sep, isB x) (hne : sep ≠ []) : ∀ (l : List Tok) (a : Nat), (∀ t ∈ l, TokOk t) → ∃ m, lexP (glue sep l) a = .ok m ∧ likeToks m l
  | [], a, _ => ⟨[], by rw [glue]; exact lexP_nil a, trivial⟩
  | t :: l, a, h => by
    obtain ⟨m, h1, h2⟩ := lex_glue sep hs hne l (a + t.text.length + sep.length) (fun x hx => h x (List.mem_cons_of_mem _ hx))
    refine ⟨⟨t.kind, t.text, a⟩ :: m, ?_, ⟨rfl, rfl, h2⟩⟩
    have : glue sep (t :: l) = t.text ++ (sep ++ glue sep l) := by unfold glue; rw [List.flatMap_cons, List.append_assoc]
    rw [this, (h t (by simp)).lex _ (fun x hx => hs x (by
      cases sep with
      | nil => exact (hne rfl).elim
      | cons y sep => rw [List.cons_append, List.head?_cons] at hx; injection hx with hx; rw [hx]; simp)), lexP_blanks sep _ hs, h1]
    rfl
/-- With one blank between each two. -/
theorem lex_join : ∀ (l : List Tok) (a : Nat), (∀ t ∈ l, TokOk t) → ∃ m, lexP (Lib.join (l.map (·.text)) [32]) a = .ok m ∧ likeToks m l
  | [], a, _ => ⟨[], lexP_nil a, trivial⟩
  | [t], a, h => by
    refine ⟨[⟨t.kind, t.text, a⟩], ?_, ⟨rfl, rfl, trivial⟩⟩
    rw [List.map_cons, List.map_nil, Lib.join_one]
    have := (h t (by simp)).lex [] (fun x hx => by cases hx) a
    rw [List.append_nil, lexP_nil] at this
    exact this
  | t :: u :: l, a, h => by
    obtain ⟨m, h1, h2⟩ := lex_join (u :: l) (a + t.text.length + 1) (fun x hx => h x (List.mem_cons_of_mem _ hx))
    refine ⟨⟨t.kind, t.text, a⟩ :: m, ?_, ⟨rfl, rfl, h2⟩⟩
    have : Lib.join ((t :: u :: l).map (·.text)) [32] = t.text ++ (32 :: Lib.join ((u :: l).map (·.text)) [32]) := by
      rw [List.map_cons, List.map_cons, Lib.join_cons, Lib.join_cons]
      simp [Lib.joinTail]
    rw [this, (h t (by simp)).lex _ (fun x hx => Or.inl (by injection hx with hx; exact hx.symm)), lexP_blank (Or.inl rfl), h1]
    rfl
def blankAt (s : List UInt8) (k : Nat) : Prop := ∃ x, s[k]? = some x ∧ isB x
/-- The words stand in the text one behind the other, blanks between them. -/
def Chain (s : List UInt8) : Nat → List Tok → Prop
  | a, [] => a ≤ s.length ∧ ∀ k, a ≤ k → k < s.length → blankAt s k
  | a, t :: r => a ≤ t.at_ ∧ t.at_ + t.text.length ≤ s.length ∧ (∀ k, a ≤ k → k < t.at_ → blankAt s k) ∧ (s.drop t.at_).take t.text.length = t.text ∧ TokOk t ∧ Chain s (t.at_ + t.text.length) r
theorem Chain.all {s : List UInt8} : ∀ {l : List Tok} {a : Nat}, Chain s a l → ∀ t ∈ l, TokOk t
  | [], _, _, _, h => by cases h
  | x :: l, a, hc, t, h => by
    rcases List.mem_cons.1 h with rfl | h
    · exact hc.2.2.2.2.1
    · exact hc.2.2.2.2.2.all t h
theorem Chain.back {s : List UInt8} {a : Nat} (hb : blankAt s a) : ∀ {l : List Tok}, Chain s (a + 1) l → Chain s a l
  | [], h => ⟨by have := h.1; omega, fun k h1 h2 => by
      by_cases e : k = a
      · rw [e]; exact hb
      · exact h.2 k (by omega) h2⟩
  | t :: l, h => ⟨by have := h.1; omega, h.2.1, fun k h1 h2 => by
      by_cases e : k = a
      · rw [e]; exact hb
      · exact h.2.2.1 k (by omega) h2, h.2.2.2⟩
theorem lex_says (s : List UInt8) : ∀ (n a : Nat), s.length - a ≤ n → a ≤ s.length → (∀ l, lexP (s.drop a) a = .ok l → Chain s a l) ∧ (∀ e p, lexP (s.drop a) a = .bad e p → p ≤ s.length ∧ e ≠ 0)
  | n, a, hn, ha => by
    cases hd : s.drop a with
    | nil =>
      have hl : a = s.length := by have := congrArg List.length hd; simp at this; omega
      refine ⟨fun l h => ?_, fun e p h => ?_⟩
      · rw [lexP_nil] at h; injection h with h; subst h
        exact ⟨ha, fun k h1 h2 => by omega⟩
      · rw [lexP_nil] at h; cases h
    | cons c r =>
      have hlt : a < s.length := by have := congrArg List.length hd; simp at this; omega
      have hr : s.drop (a + 1) = r := by rw [← List.drop_drop, hd]; rfl
      have hc : s[a]? = some c := by have := congrArg List.head? hd; rwa [List.head?_drop] at this
      cases n with
      | zero => omega
      | succ n =>
        by_cases hb : c = 32 ∨ c = 10
        · obtain ⟨i1, i2⟩ := lex_says s n (a + 1) (by omega) (by omega)
          rw [hr] at i1 i2
          rw [lexP_blank hb]
          exact ⟨fun l h => (i1 l h).back ⟨c, hc, hb⟩, i2⟩
        · obtain ⟨m, k, e, ht⟩ : ∃ m k e, tokP (c :: r) = (m, k, e) := ⟨_, _, _, rfl⟩
          by_cases he : e = 0
          · subst he
            have hle := tokP_le (l := c :: r) (by rw [ht])
            rw [ht] at hle
            simp only at hle
            have hlen : (c :: r).length = s.length - a := by rw [← hd, List.length_drop]
            obtain ⟨i1, i2⟩ := lex_says s n (a + m) (by omega) (by omega)
            have hdd : (c :: r).drop m = s.drop (a + m) := by rw [← hd, List.drop_drop]
            rw [lexP_tok hb ht, hdd]
            refine ⟨fun l h => ?_, fun e p h => ?_⟩
            · cases hx : lexP (s.drop (a + m)) (a + m) with
              | bad e p => rw [hx] at h; cases h
              | ok l' =>
                rw [hx] at h
                injection h with h
                subst h
                have hm : ((c :: r).take m).length = m := by rw [List.length_take]; omega
                refine ⟨Nat.le_refl _, ?_, fun k h1 h2 => ?_, ?_, ⟨c, r, m, ht, rfl, hb, hle.1, hle.2⟩, ?_⟩
                · show a + ((c :: r).take m).length ≤ _; omega
                · have : k < a := h2
                  omega
                · show (s.drop a).take ((c :: r).take m).length = (c :: r).take m
                  rw [hm, hd]
                · show Chain s (a + ((c :: r).take m).length) l'
                  rw [hm]; exact i1 l' hx
            · cases hx : lexP (s.drop (a + m)) (a + m) with
              | ok l' => rw [hx] at h; cases h
              | bad e' p' =>
                rw [hx] at h
                injection h with h1 h2
                subst h1 h2
                exact i2 _ _ hx
          · rw [lexP_bad hb ht he]
            refine ⟨fun l h => (by cases h), fun e' p h => ?_⟩
            injection h with h1 h2
            subst h1 h2
            exact ⟨by omega, he⟩
end Go.Proofs.YtpbbkpfaphjdoaaGreatDoor
