/- What is written is read again, plain: from the tightest up to any level. Words behind which a bracket's end or a comma stands, plain: they are read again. What the words of a text are read as is right, plain: each node of it. The document's reading of numbers and values (sluiceref1.Number, Read), walked. -/
import Derived.Test.YtpbbkpfaphjdoaaGreatDoorSRdLaw
import Derived.Test.YtpbbkpfaphjdoaaGreatDoorSLexFns
import Derived.Test.YtpbbkpfaphjdoaaGreatDoorSRdParse
import Derived.Test.YtpbbkpfaphjdoaaGreatDoorSNumLaw
import Derived.Test.YtpbbkpfaphjdoaaGreatDoorSLexNum
import Derived.Test.YtpbbkpfaphjdoaaGreatDoorSLexTok
import Derived.Test.YtpbbkpfaphjdoaaGreatDoorSArity
namespace Go.Proofs.YtpbbkpfaphjdoaaGreatDoor
section
variable {T : List Tok} {E : Nat}
theorem lift_lv {i j : Nat} {x : Ex} (h : Rd T E .pr i (.ok (x, j))) (hm : isT T i wMinus = false) (hn : isT T i wNot = false) : ∀ (k n : Nat), n + k = 5 → (∀ m, n ≤ m → m < 5 → sgT T m j = none) → Rd T E (.lv n) i (.ok (x, j))
 | 0, n, hk, _ => by
  obtain rfl : n = 5 := by omega
  exact .lvUn (.unPr hm h)
 | k + 1, n, hk, hs => .lvGo (by omega) (fun _ => hn) (lift_lv h hm hn k (n + 1) (by omega) (fun m h1 h2 => hs m (by omega) h2)) (.lpEnd (hs n (Nat.le_refl _) (by omega)))
theorem lift_up {i j : Nat} {x : Ex} {m : Nat} (hm : m ≤ 5) (h : Rd T E (.lv m) i (.ok (x, j))) (hn : isT T i wNot = false ∨ m ≤ 2) : ∀ (k n : Nat), n + k = m → (∀ q, n ≤ q → q < m → sgT T q j = none) → Rd T E (.lv n) i (.ok (x, j))
 | 0, n, hk, _ => by
  obtain rfl : n = m := by omega
  exact h
 | k + 1, n, hk, hs => .lvGo (by omega) (fun e => by rcases hn with hn | hn; exact hn; omega) (lift_up hm h hn k (n + 1) (by omega) (fun q h1 h2 => hs q (by omega) h2)) (.lpEnd (hs n (Nat.le_refl _) (by omega)))
theorem sgT_other {n m j : Nat} {s : List UInt8} (h : isT T j s = true) (hs : s ∈ lvlL n) (hn : n < 5) (hm : m < 5) (hne : m ≠ n) : sgT T m j = none := by
 cases hx : sgT T m j with
 | none => rfl
 | some u =>
  obtain ⟨h1, h2⟩ := sgT_some hx
  have e : s = u := (isT_text h).symm.trans (isT_text h2)
  subst e
  have key : (List.range 5).all (fun n => (List.range 5).all fun m => m == n || (lvlL n).all fun s => !(lvlL m).contains s) = true := by decide
  have k1 := List.all_eq_true.1 (List.all_eq_true.1 key n (List.mem_range.2 hn)) m (List.mem_range.2 hm)
  rw [show (m == n) = false from beq_eq_false_iff_ne.2 hne, Bool.false_or] at k1
  have k2 := List.all_eq_true.1 k1 s hs
  rw [show (lvlL m).contains s = true from List.contains_iff_mem.2 h1] at k2
  cases k2
theorem sgT_not {m j : Nat} {s : List UInt8} (h : isT T j s = true) (hs : ∀ m, m < 5 → s ∉ lvlL m) (hm : m < 5) : sgT T m j = none := by
 cases hx : sgT T m j with
 | none => rfl
 | some u =>
  obtain ⟨h1, h2⟩ := sgT_some hx
  have e : s = u := (isT_text h).symm.trans (isT_text h2)
  subst e
  exact absurd h1 (hs m hm)
theorem close_no (m : Nat) (hm : m < 5) : wClose ∉ lvlL m := by
 have : ∀ m, m < 5 → wClose ∉ lvlL m := by decide
 exact this m hm
theorem comma_no (m : Nat) (hm : m < 5) : wComma ∉ lvlL m := by
 have : ∀ m, m < 5 → wComma ∉ lvlL m := by decide
 exact this m hm
theorem read_two {i j k n : Nat} {x y : Ex} {s : List UInt8} (ho : isT T i wOpen = true) (hx : Rd T E .pr (i + 1) (.ok (x, j))) (hxm : isT T (i + 1) wMinus = false) (hxn : isT T (i + 1) wNot = false) (hs : isT T j s = true) (hl : s ∈ lvlL n) (hn : n < 5)
  (hy : Rd T E .pr (j + 1) (.ok (y, k))) (hym : isT T (j + 1) wMinus = false) (hyn : isT T (j + 1) wNot = false) (hc : isT T k wClose = true) : Rd T E .pr i (.ok (opEx s [x, y] (atT T E j), k + 1)) := by
 have hnn : isT T j wNot = false := isT_one hs (by
  have : ∀ n, n < 5 → ∀ s ∈ lvlL n, s ≠ wNot := by decide
  exact this n hn s hl)
 have hsg : sgT T n j = some s := by
  unfold sgT
  rw [if_pos (List.any_eq_true.2 ⟨s, hl, hs⟩), isT_text hs]
 have rx := lift_lv hx hxm hxn (5 - (n + 1)) (n + 1) (by omega) (fun m h1 h2 => sgT_other hs hl hn h2 (by omega))
 have ry := lift_lv hy hym hyn (5 - (n + 1)) (n + 1) (by omega) (fun m h1 h2 => sgT_not hc close_no h2)
 have rl : Rd T E (.lv n) (i + 1) (.ok (opEx s [x, y] (atT T E j), k)) := by
  by_cases h2 : n = 2
  ·subst h2
   exact .lvGo hn (fun _ => hxn) rx (.lpOne hsg ry)
  ·exact .lvGo hn (fun e => absurd e h2) rx (.lpGo hsg h2 ry (.lpEnd (sgT_not hc close_no hn)))
 exact .prPar ho (lift_up (by omega) rl (Or.inl hxn) n 0 (by omega) (fun q _ h2 => sgT_not hc close_no (by omega))) hc
theorem read_not {i k : Nat} {x : Ex} (ho : isT T i wOpen = true) (hn : isT T (i + 1) wNot = true) (hx : Rd T E .pr (i + 2) (.ok (x, k))) (hxm : isT T (i + 2) wMinus = false) (hxn : isT T (i + 2) wNot = false) (hc : isT T k wClose = true) : Rd T E .pr i (.ok (opEx wNot [x] (atT T E (i + 1)), k + 1)) := by
 have rx := lift_lv hx hxm hxn 3 2 (by omega) (fun m _ h2 => sgT_not hc close_no h2)
 exact .prPar ho (lift_up (m := 2) (by omega) (.lvNot hn rx) (Or.inr (Nat.le_refl _)) 2 0 (by omega) (fun q _ h2 => sgT_not hc close_no (by omega))) hc
theorem read_neg {i k : Nat} {x : Ex} (ho : isT T i wOpen = true) (hn : isT T (i + 1) wMinus = true) (hx : Rd T E .pr (i + 2) (.ok (x, k))) (hxm : isT T (i + 2) wMinus = false) (hc : isT T k wClose = true) : Rd T E .pr i (.ok (opEx wNeg [x] (atT T E (i + 1)), k + 1)) := by
 have hnn : isT T (i + 1) wNot = false := isT_one hn (by decide)
 exact .prPar ho (lift_up (m := 5) (by omega) (.lvUn (.unNeg hn (.unPr hxm hx))) (Or.inl hnn) 5 0 (by omega) (fun q _ h2 => sgT_not hc close_no h2)) hc
theorem read_len {i k : Nat} {x : Ex} (hl : isT T i wLen = true) (ho : isT T (i + 1) wOpen = true) (hx : Rd T E .pr (i + 2) (.ok (x, k))) (hxm : isT T (i + 2) wMinus = false) (hxn : isT T (i + 2) wNot = false) (hc : isT T k wClose = true) : Rd T E .pr i (.ok (opEx wLen [x] (atT T E i), k + 1)) :=
 .prLen hl ho (.arFirst (by omega) (lift_lv hx hxm hxn 5 0 (by omega) (fun m _ h2 => sgT_not hc close_no h2)) (.arEnd rfl hc))
theorem read_if {i k1 k2 k3 : Nat} {x y z : Ex} (hl : isT T i wIf = true) (ho : isT T (i + 1) wOpen = true) (hx : Rd T E .pr (i + 2) (.ok (x, k1))) (hxm : isT T (i + 2) wMinus = false) (hxn : isT T (i + 2) wNot = false) (hc1 : isT T k1 wComma = true)
  (hy : Rd T E .pr (k1 + 1) (.ok (y, k2))) (hym : isT T (k1 + 1) wMinus = false) (hyn : isT T (k1 + 1) wNot = false) (hc2 : isT T k2 wComma = true)
  (hz : Rd T E .pr (k2 + 1) (.ok (z, k3))) (hzm : isT T (k2 + 1) wMinus = false) (hzn : isT T (k2 + 1) wNot = false) (hc : isT T k3 wClose = true) : Rd T E .pr i (.ok (opEx wIf [x, y, z] (atT T E i), k3 + 1)) :=
 .prIf hl ho (.arFirst (by omega) (lift_lv hx hxm hxn 5 0 (by omega) (fun m _ h2 => sgT_not hc1 comma_no h2))
  (.arGo (show 1 < 3 by decide) (by simp) hc1 (lift_lv hy hym hyn 5 0 (by omega) (fun m _ h2 => sgT_not hc2 comma_no h2))
   (.arGo (show 2 < 3 by decide) (by simp) hc2 (lift_lv hz hzm hzn 5 0 (by omega) (fun m _ h2 => sgT_not hc close_no h2)) (.arEnd rfl hc))))
end
end Go.Proofs.YtpbbkpfaphjdoaaGreatDoor
namespace Go.Proofs.YtpbbkpfaphjdoaaGreatDoor
def stopB (x : UInt8) : Prop := x = 32 ∨ x = 41 ∨ x = 44
theorem not_S {b : UInt8} (h : stopB b) : isL b = false ∧ isD b = false ∧ isLD b = false := by
 rcases h with rfl | rfl | rfl <;> decide
theorem tok_stop {l : List UInt8} {n : Nat} {k : Int} (h : tokP l = (n, k, 0)) (e : List UInt8) (he : ∀ x, e.head? = some x → stopB x) : tokP (l.take n ++ e) = (n, k, 0) := by
 have heL : ∀ x, e.head? = some x → isLD x = false := fun x hx => (not_S (he x hx)).2.2
 have heD : ∀ x, e.head? = some x → isD x = false := fun x hx => (not_S (he x hx)).2.1
 cases l with
 | nil => cases h
 | cons c r =>
  by_cases hL : isL c = true
  ·rw [tokP_L r hL] at h
   injection h with h1 h2
   injection h2 with h2 _
   subst h1 h2
   have hc : isLD c = true := by simp [isLD, hL]
   have ha := tw_app ((c :: r).takeWhile isLD) e (tw_all _ _) heL
   have hx : (c :: r).takeWhile isLD = c :: r.takeWhile isLD := by rw [List.takeWhile_cons, if_pos hc]
   rw [tw_take]
   have := tokP_L (r.takeWhile isLD ++ e) hL
   rw [← List.cons_append, ← hx, ha.1] at this
   exact this
  by_cases hD : isD c = true
  ·rw [tokP_D r hD] at h
   split at h
   ·cases h
   rename_i hx
   split at h
   ·rename_i hy
    injection h with h1 h2
    injection h2 with h2 _
    subst h1 h2
    have ha := tw_app ((c :: r).takeWhile isD) e (tw_all _ _) heD
    have hz : (c :: r).takeWhile isD = c :: r.takeWhile isD := by rw [List.takeWhile_cons, if_pos hD]
    rw [tw_take]
    have := tokP_D (r.takeWhile isD ++ e) hD
    rw [← List.cons_append, ← hz, ha.1, ha.2] at this
    rw [this, if_neg, if_pos hy]
    rintro (e1 | e1)
    ·exact hx (Or.inl e1)
    ·cases e with
     | nil => cases e1
     | cons x e => simp [(not_S (he x rfl)).1] at e1
   ·cases h
  by_cases hQ : c = 39
  ·subst hQ
   rw [tokP_Q] at h
   cases hm : qlen r with
   | none => rw [hm] at h; cases h
   | some m =>
    rw [hm] at h
    simp only at h
    split at h
    ·rename_i hr
     injection h with h1 h2
     injection h2 with h2 _
     subst h1 h2
     obtain ⟨t, u, g1, g2, g3, g4⟩ := qlen_some r hm
     have ht : r.take m = t ++ [39] := by
      rw [show r.take m = (t ++ 39 :: r.drop m).take (t.length + 1) by rw [← g1, g2], List.take_length_add_append]
      rfl
     rw [List.take_succ_cons, List.cons_append, tokP_Q, ht, List.append_assoc]
     have hq := qlen_app t (e := e) g3 (fun e1 => by have := he 39 e1; unfold stopB at this; simp at this)
     rw [show [39] ++ e = 39 :: e from rfl, hq]
     have htk : (t ++ 39 :: e).take (t.length + 1) = t ++ [39] := by rw [List.take_length_add_append]; rfl
     simp only
     rw [htk, ← ht, if_pos hr, g2]
    ·rename_i hr
     injection h with h1 h2
     injection h2 with _ h2
     exact (hr h2).elim
  ·rw [tokP_S r hL hD hQ] at h
   split at h
   ·cases h
   rename_i hs
   injection h with h1 h2
   injection h2 with h2 _
   subst h2
   by_cases h2 : ∃ d r', r = d :: r' ∧ ((c = 60 ∧ (d = 62 ∨ d = 61)) ∨ (c = 62 ∧ d = 61))
   ·obtain ⟨d, r', rfl, hp⟩ := h2
    rw [sgnN_two r' hp] at h1
    subst h1
    show tokP (c :: d :: e) = _
    rw [tokP_S _ hL hD hQ, sgnN_two e hp, if_neg (by decide)]
   ·have h3 := sgnN_one (c := c) r (fun d hd hp => h2 (by
     cases r with
     | nil => cases hd
     | cons d' r' => exact ⟨d', r', rfl, by rw [show d' = d by simpa using hd]; exact hp⟩))
    rw [h3] at h1 hs
    by_cases h4 : sign1 c = true
    ·rw [if_pos h4] at h1
     subst h1
     show tokP (c :: e) = _
     have h5 := sgnN_one (c := c) e (fun d hd hp => by
      have hb := he d hd
      unfold stopB at hb
      rcases hb with rfl | rfl | rfl <;> simp at hp)
     rw [tokP_S _ hL hD hQ, h5, if_pos h4, if_neg (by decide)]
    ·rw [if_neg h4] at hs; exact (hs rfl).elim
theorem TokOk.lex_stop {t : Tok} (h : TokOk t) (e : List UInt8) (he : ∀ x, e.head? = some x → stopB x) (a : Nat) :
  lexP (t.text ++ e) a = (lexP e (a + t.text.length)).pre [⟨t.kind, t.text, a⟩] := by
 obtain ⟨c, r, n, h1, h2, h3, h4, h5⟩ := h
 have hk := tok_stop h1 e he
 have hl : t.text.length = n := by rw [h2, List.length_take]; omega
 rw [← h2] at hk
 cases hx : t.text with
 | nil => rw [hx] at hl; simp at hl; omega
 | cons c' r' =>
  have : c' = c := by
   rw [h2] at hx
   cases n with
   | zero => omega
   | succ n => rw [List.take_succ_cons] at hx; injection hx with e1 _; exact e1.symm
  subst this
  rw [hx] at hl hk
  have := lexP_tok (a := a) (r := r' ++ e) h3 hk
  rw [← List.cons_append] at this
  rw [this, ← hl, List.drop_left, List.take_left]
theorem lex_open (e : List UInt8) (a : Nat) : lexP (40 :: e) a = (lexP e (a + 1)).pre [⟨4, [40], a⟩] := by
 have h1 := sgnN_one (c := 40) e (fun d _ hp => by rcases hp with ⟨h, -⟩ | ⟨h, -⟩ <;> exact absurd h (by decide))
 have hk : tokP (40 :: e) = (1, 4, 0) := by
  rw [tokP_S e (by decide) (by decide) (by decide), h1]
  rfl
 rw [lexP_tok (a := a) (r := e) (by rintro (h | h) <;> exact absurd h (by decide)) hk]
 rfl
theorem lex_close (e : List UInt8) (a : Nat) : lexP (41 :: e) a = (lexP e (a + 1)).pre [⟨4, [41], a⟩] := by
 have h1 := sgnN_one (c := 41) e (fun d _ hp => by rcases hp with ⟨h, -⟩ | ⟨h, -⟩ <;> exact absurd h (by decide))
 have hk : tokP (41 :: e) = (1, 4, 0) := by
  rw [tokP_S e (by decide) (by decide) (by decide), h1]
  rfl
 rw [lexP_tok (a := a) (r := e) (by rintro (h | h) <;> exact absurd h (by decide)) hk]
 rfl
theorem lex_comma (e : List UInt8) (a : Nat) : lexP (44 :: e) a = (lexP e (a + 1)).pre [⟨4, [44], a⟩] := by
 have h1 := sgnN_one (c := 44) e (fun d _ hp => by rcases hp with ⟨h, -⟩ | ⟨h, -⟩ <;> exact absurd h (by decide))
 have hk : tokP (44 :: e) = (1, 4, 0) := by
  rw [tokP_S e (by decide) (by decide) (by decide), h1]
  rfl
 rw [lexP_tok (a := a) (r := e) (by rintro (h | h) <;> exact absurd h (by decide)) hk]
 rfl
end Go.Proofs.YtpbbkpfaphjdoaaGreatDoor
namespace Go.Proofs.YtpbbkpfaphjdoaaGreatDoor
theorem nodesErrs_of : ∀ {l : List Ex}, (∀ a ∈ l, nodesErr a = 0) → nodesErrs l = 0
 | [], _ => by rw [nodesErrs]
 | a :: l, h => by rw [nodesErrs, if_neg (by simp [h a List.mem_cons_self])]; exact nodesErrs_of (fun x hx => h x (List.mem_cons_of_mem _ hx))
theorem nodes_op {op : List UInt8} {l : List Ex} {pos : Nat} (h1 : nodeErrOf (mkB op) ⟨#[]⟩ noVal l.length = 0) (h2 : ∀ a ∈ l, nodesErr a = 0) : nodesErr (opEx op l pos) = 0 := by
 unfold opEx
 rw [nodesErr, if_neg (by simp [h1])]
 exact nodesErrs_of h2
def vOk (l : List UInt8) : Prop := vcheck (readP l).1 = 0 ∧ ¬ ((readP l).1.type = 1 ∧ (readP l).1.n < 0)
theorem vOk_of {l : List UInt8} (h : (readP l).2 = 0) (h45 : l.head? ≠ some 45) : vOk l := by
 obtain ⟨h1, h2, h3, -⟩ := show_read (l := l) (v := (readP l).1) (Prod.ext rfl h)
 refine ⟨h1, fun ⟨ht, hn⟩ => ?_⟩
 unfold valText at h2
 rw [if_pos ht] at h2
 obtain ⟨m, hm⟩ : ∃ m : Nat, (readP l).1.n = -(m : Int) ∧ 1 ≤ m := ⟨(-(readP l).1.n).toNat, by omega, by omega⟩
 rw [hm.1, itoa_minus hm.2] at h2
 rw [← h2] at h45
 exact h45 rfl
def NumOk (T : List Tok) : Prop := ∀ (i : Nat) (v : Val), valT T i = some v → vcheck v = 0 ∧ ¬ (v.type = 1 ∧ v.n < 0)
theorem tokP_head {c : UInt8} {r : List UInt8} {n : Nat} {k : Int} (h : tokP (c :: r) = (n, k, 0)) (hk : k = 2 ∨ k = 3) : c ≠ 45 := by
 intro e
 subst e
 rw [tokP_S r (by decide) (by decide) (by decide)] at h
 split at h
 ·injection h with _ h; injection h with h _; omega
 ·injection h with _ h; injection h with h _; omega
theorem numOk_of {s : List UInt8} {T : List Tok} (h : lexS s = .ok T) : NumOk T := by
 intro i v hv
 have hW := words_of h
 obtain ⟨-, hc⟩ := lexS_ok h
 have hx := val_some hW hv
 rw [hx.2.1]
 refine vOk_of hx.2.2.1 ?_
 unfold valT at hv
 cases ht : T[i]? with
 | none => rw [ht] at hv; cases hv
 | some t =>
  rw [ht] at hv
  have e1 : textT T i = t.text := by unfold textT; rw [ht]
  rw [e1]
  simp only at hv
  split at hv
  ·rename_i hk
   obtain ⟨c, r, n, h1, h2, -, h4, -⟩ := hc.all t (List.mem_of_getElem? ht)
   rcases hk with hk | hk | ⟨-, hk | hk⟩
   ·have := tokP_head h1 (Or.inl hk)
    rw [h2]
    cases n with
    | zero => omega
    | succ n => rw [List.take_succ_cons, List.head?_cons]; exact fun e => this (by injection e)
   ·have := tokP_head h1 (Or.inr hk)
    rw [h2]
    cases n with
    | zero => omega
    | succ n => rw [List.take_succ_cons, List.head?_cons]; exact fun e => this (by injection e)
   ·rw [hk]; decide
   ·rw [hk]; decide
  ·cases hv
theorem lvl_node {n : Nat} {s : List UInt8} (h : s ∈ lvlL n) : nodeErrOf (mkB s) ⟨#[]⟩ noVal 2 = 0 := by
 have key : ∀ n, n < 5 → ∀ s ∈ lvlL n, nodeErrOf (mkB s) ⟨#[]⟩ noVal 2 = 0 := by decide
 by_cases hn : n < 5
 ·exact key n hn s h
 ·match n, h with
  | n + 5, h => cases h
  | 0, _ | 1, _ | 2, _ | 3, _ | 4, _ => omega
def accR : Md → Prop
 | .lp _ e => nodesErr e = 0
 | .ar w _ m acc => ((w = wLen ∧ m = 1) ∨ (w = wIf ∧ m = 3)) ∧ ∀ a ∈ acc, nodesErr a = 0
 | _ => True
theorem rd_right {T : List Tok} {E : Nat} (hT : NumOk T) {m : Md} {i : Nat} {r : PR} (h : Rd T E m i r) : accR m → ∀ x j, r = .ok (x, j) → nodesErr x = 0 := by
 have one : ∀ {x : Ex} {op : List UInt8} {pos : Nat}, nodeErrOf (mkB op) ⟨#[]⟩ noVal 1 = 0 → nodesErr x = 0 → nodesErr (opEx op [x] pos) = 0 := fun h1 h2 => nodes_op h1 (fun a ha => by simp at ha; subst ha; exact h2)
 have two : ∀ {x y : Ex} {n : Nat} {op : List UInt8} {pos : Nat}, op ∈ lvlL n → nodesErr x = 0 → nodesErr y = 0 → nodesErr (opEx op [x, y] pos) = 0 := fun h1 h2 h3 => nodes_op (lvl_node h1) (fun a ha => by simp at ha; rcases ha with rfl | rfl; exact h2; exact h3)
 induction h with
 | lvNot h a ih => intro _ x j e; cases e; exact one (by decide) (ih trivial _ _ rfl)
 | lvNotE => intro _ x j e; cases e
 | lvUn a ih => intro _ x j e; exact ih trivial x j e
 | lvGo hn h a b ih1 ih2 => intro _ x j e; exact ih2 (ih1 trivial _ _ rfl) x j e
 | lvGoE => intro _ x j e; cases e
 | lpEnd h => intro ha x j e; cases e; exact ha
 | lpGo h hn a b ih1 ih2 => intro ha x j e; exact ih2 (two (sgT_some h).1 ha (ih1 trivial _ _ rfl)) x j e
 | lpOne h a ih => intro ha x j e; cases e; exact two (sgT_some h).1 ha (ih trivial _ _ rfl)
 | lpE => intro _ x j e; cases e
 | unNeg h a ih => intro _ x j e; cases e; exact one (by decide) (ih trivial _ _ rfl)
 | unNegE => intro _ x j e; cases e
 | unPr h a ih => intro _ x j e; exact ih trivial x j e
 | prPar h a c ih => intro _ x j e; cases e; exact ih trivial _ _ rfl
 | prParN => intro _ x j e; cases e
 | prParE => intro _ x j e; cases e
 | prLen h o a ih => intro _ x j e; exact ih ⟨Or.inl ⟨rfl, rfl⟩, fun a ha => by cases ha⟩ x j e
 | prIf h o a ih => intro _ x j e; exact ih ⟨Or.inr ⟨rfl, rfl⟩, fun a ha => by cases ha⟩ x j e
 | prLenN => intro _ x j e; cases e
 | prIfN => intro _ x j e; cases e
 | @prVal i v h1 h2 h3 c =>
  intro _ x j e
  cases e
  obtain ⟨k1, k2⟩ := hT _ _ c
  unfold valEx
  rw [nodesErr, nodesErrs]
  have : nodeErrOf (mkB [118, 97, 108]) ⟨#[]⟩ v ([] : List Ex).length = 0 := by
   unfold nodeErrOf
   rw [if_neg (by rintro (h | ⟨h, -⟩); exact absurd h (by decide); exact absurd h (by decide)), if_neg (by rintro (h | ⟨-, h⟩ | ⟨h, -⟩); exact absurd rfl h; exact absurd rfl h; exact absurd (show isVal (mkB [118, 97, 108]) from rfl) h), if_neg (fun h => h (show isVal (mkB [118, 97, 108]) from rfl)), if_neg (fun h => h k1), if_neg k2]
  rw [if_neg (fun h => h this)]
 | @prCol i s h1 h2 h3 c d =>
  intro _ x j e
  cases e
  obtain ⟨t, -, -, -, hn⟩ := nameT_some d
  unfold colEx
  rw [nodesErr, nodesErrs]
  have : nodeErrOf (mkB [99, 111, 108]) (mkB s) noVal ([] : List Ex).length = 0 := by
   unfold nodeErrOf
   rw [if_neg (by rintro (h | ⟨-, h⟩); exact absurd h (by decide); rw [hn] at h; cases h), if_neg (by rintro (h | ⟨h, -⟩ | ⟨-, h⟩); exact absurd rfl h; exact h (show isCol (mkB [99, 111, 108]) from rfl); exact h rfl), if_pos (by decide)]
  rw [if_neg (fun h => h this)]
 | prNo => intro _ x j e; cases e
 | arEnd h c =>
  intro ha x j e
  cases e
  refine nodes_op ?_ ha.2
  rcases ha.1 with ⟨rfl, hm⟩ | ⟨rfl, hm⟩
  ·rw [h, hm]; decide
  ·rw [h, hm]; decide
 | arEndN => intro _ x j e; cases e
 | arFirst h a b ih1 ih2 => intro ha x j e; exact ih2 ⟨ha.1, fun y hy => by simp at hy; subst hy; exact ih1 trivial _ _ rfl⟩ x j e
 | arFirstE => intro _ x j e; cases e
 | arGo h h0 c a b ih1 ih2 =>
  intro ha x j e
  refine ih2 ⟨ha.1, fun y hy => ?_⟩ x j e
  rcases List.mem_append.1 hy with hy | hy
  ·exact ha.2 y hy
  ·simp at hy; subst hy; exact ih1 trivial _ _ rfl
 | arGoE => intro _ x j e; cases e
 | arGoN => intro _ x j e; cases e
end Go.Proofs.YtpbbkpfaphjdoaaGreatDoor
namespace Go.Proofs.YtpbbkpfaphjdoaaGreatDoor
open Go.ChangeShapes Go.WideShapes Go.ChangeAt Go.RowKit
end Go.Proofs.YtpbbkpfaphjdoaaGreatDoor
