/- How long the text of what is read is, plain: at most four times its words; and how a query that is read is shaped. -/
import Derived.Test.YtpbbkpfaphjdoaaGreatDoorSBackText
import Derived.Test.YtpbbkpfaphjdoaaGreatDoorSQryOk
namespace Go.Proofs.YtpbbkpfaphjdoaaGreatDoor
def wsum (T : List Tok) (j : Nat) : Nat := ((T.take j).map (fun t => t.text.length)).sum
section
variable {T : List Tok} {E : Nat}
theorem wsum_next {i : Nat} {t : Tok} (h : T[i]? = some t) : wsum T (i + 1) = wsum T i + t.text.length := by
 unfold wsum
 rw [List.take_add_one, h]
 simp
theorem isT_sum {i : Nat} {s : List UInt8} (h : isT T i s = true) : wsum T (i + 1) = wsum T i + s.length := by
 obtain ⟨t, ht, -, rfl⟩ := isT_some h
 exact wsum_next ht
theorem nameT_sum {i : Nat} {s : List UInt8} (h : nameT T i = some s) : wsum T (i + 1) = wsum T i + s.length := by
 obtain ⟨t, ht, -, rfl, -⟩ := nameT_some h
 exact wsum_next ht
theorem wsum_up (i : Nat) : wsum T i ≤ wsum T (i + 1) := by
 cases h : T[i]? with
 | none =>
  unfold wsum
  rw [List.take_add_one, h]
  simp
 | some t => have := wsum_next h; omega
end
theorem lex_sum : ∀ (n : Nat) (s : List UInt8), s.length ≤ n → ∀ (a : Nat) (T : List Tok), lexP s a = .ok T → (T.map (fun t => t.text.length)).sum ≤ s.length := by
 intro n
 induction n with
 | zero =>
  intro s hs a T h
  obtain rfl := List.eq_nil_of_length_eq_zero (Nat.le_zero.1 hs)
  rw [lexP_nil] at h
  cases h
  exact Nat.le_refl _
 | succ n ih =>
  intro s hs a T h
  cases s with
  | nil =>
   rw [lexP_nil] at h
   cases h
   exact Nat.le_refl _
  | cons c r =>
   simp only [List.length_cons] at hs
   by_cases hb : c = 32 ∨ c = 10
   ·rw [lexP_blank hb] at h
    have := ih r (by omega) (a + 1) T h
    simp only [List.length_cons]
    omega
   obtain ⟨q, k, e, ht⟩ : ∃ q k e, tokP (c :: r) = (q, k, e) := ⟨_, _, _, rfl⟩
   by_cases he : e = 0
   ·subst he
    have hle := tokP_le (l := c :: r) (by rw [ht])
    rw [ht] at hle
    simp only [List.length_cons] at hle
    rw [lexP_tok hb ht] at h
    cases hx : lexP ((c :: r).drop q) (a + q) with
    | bad e p => rw [hx] at h; cases h
    | ok T1 =>
     rw [hx] at h
     cases h
     have := ih ((c :: r).drop q) (by simp; omega) (a + q) T1 hx
     have e1 : ((c :: r).drop q).length = r.length + 1 - q := by simp
     have e2 : ((c :: r).take q).length = q := by rw [List.length_take, List.length_cons]; omega
     simp only [List.singleton_append, List.map_cons, List.sum_cons, List.length_cons, e2]
     omega
   ·rw [lexP_bad hb ht he] at h; cases h
structure Fit (T : List Tok) : Prop where
 pos : ∀ t ∈ T, 1 ≤ t.text.length
 val : ∀ (i : Nat) (v : Val), valT T i = some v → valText v = textT T i ∧ fitsN v.n ∧ vcheck v = 0
theorem fit_of {s : List UInt8} {T : List Tok} (h : lexS s = .ok T) : Fit T := by
 have hW := words_of h
 obtain ⟨-, hc⟩ := lexS_ok h
 refine ⟨fun t ht => (hc.all t ht).len, fun i v hv => ?_⟩
 have hx := val_some hW hv
 obtain ⟨h1, h2, h3, -⟩ := show_read (l := textT T i) (v := v) (Prod.ext hx.2.1.symm hx.2.2.1)
 exact ⟨h2, h3, h1⟩
structure NumIs (v : Int) (t : List UInt8) : Prop where
 low : 0 ≤ v
 fit : fitsN v
 text : Lib.itoa v = t
theorem num_is {s : List UInt8} {T : List Tok} (h : lexS s = .ok T) {i : Nat} {t : Tok} (ht : T[i]? = some t) (hk : t.kind = 2) : NumIs (readP t.text).1.n t.text := by
 have hv : valT T i = some (readP t.text).1 := by unfold valT; rw [ht]; exact if_pos (Or.inl hk)
 obtain ⟨h1, h2, h3⟩ := (fit_of h).val i _ hv
 obtain ⟨-, h5⟩ := numOk_of h i _ hv
 have e1 : textT T i = t.text := by unfold textT; rw [ht]
 rw [e1] at h1
 obtain ⟨-, hc⟩ := lexS_ok h
 obtain ⟨c, r, n, g1, g2, -, g4, g5⟩ := hc.all t (List.mem_of_getElem? ht)
 have hd : isD c = true := by
  rw [hk] at g1
  by_cases hL : isL c = true
  ·rw [tokP_L r hL] at g1; injection g1 with _ g1; injection g1 with g1 _; exact absurd g1 (by decide)
  by_cases hD : isD c = true
  ·exact hD
  by_cases hQ : c = 39
  ·subst hQ
   rw [tokP_Q] at g1
   split at g1
   ·injection g1 with _ g1; injection g1 with g1 _; exact absurd g1 (by decide)
   ·split at g1
    ·injection g1 with _ g1; injection g1 with g1 _; exact absurd g1 (by decide)
    ·injection g1 with _ g1; injection g1 with g1 _; exact absurd g1 (by decide)
  ·rw [tokP_S r hL hD hQ] at g1
   split at g1
   ·injection g1 with _ g1; injection g1 with g1 _; exact absurd g1 (by decide)
   ·injection g1 with _ g1; injection g1 with g1 _; exact absurd g1 (by decide)
 have hh : t.text.head? = some c := by
  rw [g2]
  cases n with
  | zero => omega
  | succ n => rw [List.take_succ_cons, List.head?_cons]
 have ht1 : (readP t.text).1.type = 1 := by
  by_cases e : (readP t.text).1.type = 1
  ·exact e
  exfalso
  rw [← h1] at hh
  unfold valText at hh
  rw [if_neg e] at hh
  split at hh
  ·split at hh
   ·injection hh with hh; subst hh; exact absurd hd (by decide)
   ·injection hh with hh; subst hh; exact absurd hd (by decide)
  ·injection hh with hh; subst hh; exact absurd hd (by decide)
 refine ⟨?_, h2, ?_⟩
 ·by_cases hn : (readP t.text).1.n < 0
  ·exact absurd ⟨ht1, hn⟩ h5
  ·omega
 ·unfold valText at h1
  rw [if_pos ht1] at h1
  exact h1
theorem mkB_list (s : List UInt8) : (mkB s).data.toList = s := by simp [mkB]
theorem textQ_two {n : Nat} {s : List UInt8} {x y : Ex} {pos : Nat} (h : s ∈ lvlL n) : exText (opEx s [x, y] pos) = [40] ++ exText x ++ [32] ++ s ++ [32] ++ exText y ++ [41] := by
 have key : ∀ n, n < 5 → ∀ s ∈ lvlL n, ¬ isCol (mkB s) ∧ ¬ isVal (mkB s) ∧ ¬ isLenOp (mkB s) ∧ ¬ isIfOp (mkB s) ∧ ¬ isNotOp (mkB s) ∧ ¬ isNegOp (mkB s) := by decide
 have hn : n < 5 := by
  by_cases hn : n < 5
  ·exact hn
  ·match n, h with
   | n + 5, h => cases h
   | 0, _ | 1, _ | 2, _ | 3, _ | 4, _ => omega
 obtain ⟨g1, g2, g3, g4, g5, g6⟩ := key n hn s h
 rw [exText_eq]
 show nodeText (mkB s) ⟨#[]⟩ noVal [exText x, exText y] = _
 rw [nodeText_sign g1 g2 g3 g4 g5 g6, mkB_list]
 rfl
theorem textQ_not {x : Ex} {pos : Nat} : exText (opEx wNot [x] pos) = [40, 110, 111, 116, 32] ++ exText x ++ [41] := by
 rw [exText_eq]
 exact nodeText_not (ts := [exText x]) (show isNotOp (mkB wNot) from rfl)
theorem textQ_neg {x : Ex} {pos : Nat} : exText (opEx wNeg [x] pos) = [40, 45, 32] ++ exText x ++ [41] := by
 rw [exText_eq]
 exact nodeText_neg (ts := [exText x]) (show isNegOp (mkB wNeg) from rfl)
theorem textQ_len {l : List Ex} {pos : Nat} : exText (opEx wLen l pos) = [108, 101, 110] ++ [40] ++ Lib.join (l.map exText) [44, 32] ++ [41] := by
 rw [exText_eq]
 exact nodeText_len (ts := l.map exText) (show isLenOp (mkB wLen) from rfl)
theorem textQ_if {l : List Ex} {pos : Nat} : exText (opEx wIf l pos) = [105, 102] ++ [40] ++ Lib.join (l.map exText) [44, 32] ++ [41] := by
 rw [exText_eq]
 exact nodeText_if (ts := l.map exText) (show isIfOp (mkB wIf) from rfl)
theorem text_valEx {v : Val} {pos : Nat} : exText (valEx v pos) = valText v := by
 rw [exText_eq]
 exact nodeText_val (show isVal (mkB [118, 97, 108]) from rfl)
theorem text_colEx {s : List UInt8} {pos : Nat} : exText (colEx s pos) = s := by
 rw [exText_eq]
 show nodeText (mkB [99, 111, 108]) (mkB s) noVal _ = s
 rw [nodeText_col (show isCol (mkB [99, 111, 108]) from rfl), mkB_list]
theorem lensT_app : ∀ (a b : List (List UInt8)), lensT (a ++ b) = lensT a + lensT b
 | [], b => by simp [lensT]
 | x :: a, b => by rw [List.cons_append, lensT, lensT, lensT_app a b]; omega
def accL : Md → Prop
 | .ar w _ m _ => (w = wLen ∧ m = 1) ∨ (w = wIf ∧ m = 3)
 | _ => True
def LenM (a b : Nat) : Md → Ex → Prop
 | .lp _ e, x => (exText x).length + 4 * a ≤ (exText e).length + 4 * b
 | .ar w _ _ acc, x => (exText x).length + 4 * a ≤ w.length + 2 + lensT (acc.map exText) + 2 * acc.length + 4 * b
 | _, x => (exText x).length + 3 + 4 * a ≤ 4 * b
theorem rd_len {T : List Tok} {E : Nat} (hF : Fit T) {m : Md} {i : Nat} {r : PR} (h : Rd T E m i r) : accL m → ∀ x j, r = .ok (x, j) → LenM (wsum T i) (wsum T j) m x := by
 have sgn : ∀ {n i : Nat} {s : List UInt8}, sgT T n i = some s → s ∈ lvlL n ∧ wsum T (i + 1) = wsum T i + s.length ∧ 1 ≤ s.length := fun {n i s} h => by
  obtain ⟨h1, h2⟩ := sgT_some h
  obtain ⟨t, ht, -, rfl⟩ := isT_some h2
  exact ⟨h1, wsum_next ht, hF.pos t (List.mem_of_getElem? ht)⟩
 induction h with
 | @lvNot i x j h a ih =>
  intro _ y k e; cases e
  have h1 := ih trivial _ _ rfl
  have h2 := isT_sum h
  simp only [LenM] at h1 ⊢
  rw [textQ_not]
  simp only [List.length_append, List.length_cons, List.length_nil, wNot] at *
  omega
 | lvNotE => intro _ x j e; cases e
 | lvUn a ih => intro _ x j e; exact ih trivial x j e
 | lvGo hn h a b ih1 ih2 =>
  intro _ x j e
  have h1 := ih1 trivial _ _ rfl
  have h2 := ih2 trivial x j e
  simp only [LenM] at *
  omega
 | lvGoE => intro _ x j e; cases e
 | lpEnd h => intro ha x j e; cases e; exact Nat.le_refl _
 | lpGo h hn a b ih1 ih2 =>
  intro ha x j e
  obtain ⟨h0, h3, h4⟩ := sgn h
  have h1 := ih1 trivial _ _ rfl
  have h2 := ih2 trivial x j e
  simp only [LenM] at *
  rw [textQ_two h0] at h2
  simp only [List.length_append, List.length_cons, List.length_nil] at *
  omega
 | lpOne h a ih =>
  intro ha x j e; cases e
  obtain ⟨h0, h3, h4⟩ := sgn h
  have h1 := ih trivial _ _ rfl
  simp only [LenM] at *
  rw [textQ_two h0]
  simp only [List.length_append, List.length_cons, List.length_nil] at *
  omega
 | lpE => intro _ x j e; cases e
 | unNeg h a ih =>
  intro _ x j e; cases e
  have h1 := ih trivial _ _ rfl
  have h2 := isT_sum h
  simp only [LenM] at h1 ⊢
  rw [textQ_neg]
  simp only [List.length_append, List.length_cons, List.length_nil, wMinus] at *
  omega
 | unNegE => intro _ x j e; cases e
 | unPr h a ih => intro _ x j e; exact ih trivial x j e
 | prPar h a c ih =>
  intro _ x j e; cases e
  have h1 := ih trivial _ _ rfl
  have h2 := isT_sum h
  have h3 := isT_sum c
  simp only [LenM] at h1 ⊢
  simp only [List.length_cons, List.length_nil, wOpen, wClose] at *
  omega
 | prParN => intro _ x j e; cases e
 | prParE => intro _ x j e; cases e
 | @prLen i r h o a ih =>
  intro _ x j e
  have h1 := ih (Or.inl ⟨rfl, rfl⟩) x j e
  have h2 := isT_sum h
  have h3 : wsum T (i + 2) = wsum T (i + 1) + wOpen.length := isT_sum o
  simp only [LenM, List.map_nil, lensT] at h1 ⊢
  simp only [List.length_cons, List.length_nil, wLen, wOpen] at *
  omega
 | @prIf i r h o a ih =>
  intro _ x j e
  have h1 := ih (Or.inr ⟨rfl, rfl⟩) x j e
  have h2 := isT_sum h
  have h3 : wsum T (i + 2) = wsum T (i + 1) + wOpen.length := isT_sum o
  simp only [LenM, List.map_nil, lensT] at h1 ⊢
  simp only [List.length_cons, List.length_nil, wIf, wOpen] at *
  omega
 | prLenN => intro _ x j e; cases e
 | prIfN => intro _ x j e; cases e
 | @prVal i v h1 h2 h3 c =>
  intro _ x j e
  cases e
  obtain ⟨t, ht⟩ : ∃ t, T[i]? = some t := by
   cases hx : T[i]? with
   | none => unfold valT at c; rw [hx] at c; cases c
   | some t => exact ⟨t, rfl⟩
  have e1 : textT T i = t.text := by unfold textT; rw [ht]
  have h4 := (hF.val _ _ c).1
  have h5 := hF.pos t (List.mem_of_getElem? ht)
  have h6 := wsum_next ht
  simp only [LenM]
  rw [text_valEx, h4, e1]
  omega
 | @prCol i s h1 h2 h3 c d =>
  intro _ x j e
  cases e
  obtain ⟨t, ht, -, rfl, -⟩ := nameT_some d
  have h5 := hF.pos t (List.mem_of_getElem? ht)
  have h6 := wsum_next ht
  simp only [LenM]
  rw [text_colEx]
  omega
 | prNo => intro _ x j e; cases e
 | @arEnd w p m acc i h c =>
  intro ha x j e
  cases e
  have h2 := wsum_up (T := T) i
  have h3 := lensT_join (acc.map exText)
  rw [List.length_map] at h3
  simp only [LenM]
  rcases ha with ⟨rfl, -⟩ | ⟨rfl, -⟩
  ·rw [textQ_len]
   simp only [List.length_append, List.length_cons, List.length_nil, wLen]
   omega
  ·rw [textQ_if]
   simp only [List.length_append, List.length_cons, List.length_nil, wIf]
   omega
 | arEndN => intro _ x j e; cases e
 | arFirst h a b ih1 ih2 =>
  intro ha x j e
  have h1 := ih1 trivial _ _ rfl
  have h2 := ih2 ha x j e
  simp only [LenM, List.map_nil, List.map_cons, lensT, List.length_cons, List.length_nil] at *
  omega
 | arFirstE => intro _ x j e; cases e
 | arGo h h0 c a b ih1 ih2 =>
  intro ha x j e
  have h1 := ih1 trivial _ _ rfl
  have h2 := ih2 ha x j e
  have h3 := isT_sum c
  simp only [LenM, List.map_append, lensT_app, List.map_nil, List.map_cons, lensT, List.length_append, List.length_cons, List.length_nil, wComma] at *
  omega
 | arGoE => intro _ x j e; cases e
 | arGoN => intro _ x j e; cases e
def itemC (e : Ex) (s : List UInt8) : List UInt8 := exText e ++ 32 :: (qAs ++ 32 :: s)
def aggT (a : AggP) : List UInt8 := if a.what = qCount then qCount else a.what ++ [40] ++ exText a.of ++ [41]
def itemA (a : AggP) : List UInt8 := aggT a ++ 32 :: (qAs ++ 32 :: a.name)
def qItems (q : QP) : List (List UInt8) := (q.cols.zip q.names).map (fun x => itemC x.1 x.2) ++ q.aggs.map itemA
def whereT (q : QP) : List UInt8 := if hasOp' q.wher = true then 32 :: (qWhere ++ 32 :: exText q.wher) else []
def groupT (q : QP) : List UInt8 := if q.aggs = [] then [] else
 32 :: (qGroup ++ 32 :: (qBy ++ 32 :: (Lib.join q.group [44, 32] ++ 32 :: (qWindow ++ 32 :: (Lib.itoa q.size ++ (if q.slide = q.size then [] else 32 :: (qSlide ++ 32 :: Lib.itoa q.slide)))))))
def qText (q : QP) : List UInt8 := qSelect ++ 32 :: (Lib.join (qItems q) [44, 32] ++ 32 :: (qFrom ++ 32 :: (q.from_ ++ (whereT q ++ groupT q))))
section
variable {T : List Tok} {E : Nat} {X : Nat → PR}
theorem from_is {q p : QP} {i j : Nat} (h : fromQ T E X q i = .ok (p, j)) : ∃ s, isT T i qFrom = true ∧ nameT T (i + 1) = some s ∧ ((isT T (i + 2) qWhere = true ∧ ∃ x, X (i + 3) = .ok (x, j) ∧ p = { q with from_ := s, wher := x }) ∨ (p = { q with from_ := s } ∧ j = i + 2)) := by
 unfold fromQ at h
 obtain ⟨k, h1, h2⟩ := bindN_ok h
 obtain ⟨h0, rfl⟩ := need_is h1
 obtain ⟨⟨s, m⟩, h3, h4⟩ := bind_ok h2
 obtain ⟨h5, rfl⟩ := name_is h3
 refine ⟨s, h0, h5, ?_⟩
 simp only at h4
 split at h4
 ·rename_i hw
  obtain ⟨⟨x, m2⟩, h6, h7⟩ := bind_ok h4
  injection h7 with h7
  injection h7 with h7 h8
  subst h7 h8
  exact Or.inl ⟨hw, x, h6, rfl⟩
 ·injection h4 with h4
  injection h4 with h4 h8
  subst h4 h8
  exact Or.inr ⟨rfl, rfl⟩
theorem numQ_is {n : Int} {i j : Nat} (h : numQ T E i = .ok (n, j)) : ∃ t, T[i]? = some t ∧ t.kind = 2 ∧ n = (readP t.text).1.n ∧ j = i + 1 := by
 unfold numQ at h
 cases ht : T[i]? with
 | none => rw [ht] at h; cases h
 | some t =>
  rw [ht] at h
  simp only at h
  split at h
  ·rename_i hk
   injection h with h
   injection h with h1 h2
   exact ⟨t, rfl, hk, h1.symm, h2.symm⟩
  ·cases h
theorem win_is {q p : QP} {i j : Nat} (h : winQ T E q i = .ok (p, j)) : isT T i qWindow = true ∧ ∃ t, T[i + 1]? = some t ∧ t.kind = 2 ∧ ((isT T (i + 2) qSlide = true ∧ ∃ u, T[i + 3]? = some u ∧ u.kind = 2 ∧ p = { q with size := (readP t.text).1.n, slide := (readP u.text).1.n } ∧ j = i + 4) ∨
  (p = { q with size := (readP t.text).1.n, slide := (readP t.text).1.n } ∧ j = i + 2)) := by
 unfold winQ at h
 obtain ⟨k, h1, h2⟩ := bindN_ok h
 obtain ⟨h0, rfl⟩ := need_is h1
 obtain ⟨⟨n, m⟩, h3, h4⟩ := bind_ok h2
 obtain ⟨t, ht, hk, rfl, rfl⟩ := numQ_is h3
 refine ⟨h0, t, ht, hk, ?_⟩
 simp only at h4
 split at h4
 ·rename_i hs
  obtain ⟨⟨n2, m2⟩, h5, h6⟩ := bind_ok h4
  obtain ⟨u, hu, hk2, rfl, rfl⟩ := numQ_is h5
  injection h6 with h6
  injection h6 with h6 h7
  subst h6 h7
  exact Or.inl ⟨hs, u, hu, hk2, rfl, rfl⟩
 ·injection h4 with h4
  injection h4 with h4 h7
  subst h4 h7
  exact Or.inr ⟨rfl, rfl⟩
theorem group_is {q p : QP} {i j : Nat} (h : groupQ T E q i = .ok (p, j)) : isT T i qGroup = true ∧ isT T (i + 1) qBy = true ∧ ∃ p1 m, grpQ T E (T.length + 1) q (i + 2) = .ok (p1, m) ∧ winQ T E p1 m = .ok (p, j) := by
 unfold groupQ at h
 obtain ⟨k, h1, h2⟩ := bindN_ok h
 obtain ⟨h3, rfl⟩ := need_is h1
 obtain ⟨k2, h4, h5⟩ := bindN_ok h2
 obtain ⟨h6, rfl⟩ := need_is h4
 obtain ⟨⟨p1, m⟩, h7, h8⟩ := bind_ok h5
 exact ⟨h3, h6, p1, m, h7, h8⟩
theorem x_len (hX : Oracle T E X) (hF : Fit T) {i j : Nat} {x : Ex} (hi : i ≤ T.length) (h : X i = .ok (x, j)) : (exText x).length + 3 + 4 * wsum T i ≤ 4 * wsum T j := by
 have := rd_len hF (hX i hi) trivial x j h
 simpa only [LenM] using this
theorem as_sum {s : List UInt8} {i j : Nat} (h : asQ T E i = .ok (s, j)) : wsum T j = wsum T i + 2 + s.length := by
 obtain ⟨h1, h2, rfl⟩ := as_is h
 have h3 := isT_sum h1
 have h4 := nameT_sum h2
 simp only [List.length_cons, List.length_nil, qAs] at h3
 rw [show i + 2 = i + 1 + 1 from rfl]
 omega
theorem item_len (e : Ex) (s : List UInt8) : (itemC e s).length = (exText e).length + s.length + 4 := by
 unfold itemC
 simp [qAs]
 omega
theorem zip_snoc (l : List Ex) (m : List (List UInt8)) (x : Ex) (s : List UInt8) (h : m.length = l.length) : (l ++ [x]).zip (m ++ [s]) = l.zip m ++ [(x, s)] := by
 rw [List.zip_append h.symm]
 rfl
def lensC (q : QP) : Nat := lensT ((q.cols.zip q.names).map (fun x => itemC x.1 x.2)) + 2 * q.cols.length
theorem cols_len (hX : Oracle T E X) (hF : Fit T) : ∀ (f : Nat) (q : QP) (i : Nat), i ≤ T.length → q.names.length = q.cols.length → ∀ p j, colsQ T E X f q i = .ok (p, j) → lensC p + 4 * wsum T i ≤ lensC q + 4 * wsum T j ∧ p.from_ = q.from_ ∧ p.names.length = p.cols.length
 | 0, q, i, hi, hq, p, j, h => by cases h
 | f + 1, q, i, hi, hq, p, j, h => by
  rw [colsQ] at h
  obtain ⟨⟨x, k⟩, h1, h2⟩ := bind_ok h
  obtain ⟨⟨s, m⟩, h3, h4⟩ := bind_ok h2
  have hx := x_len hX hF hi h1
  have hs := as_sum h3
  have hm : m ≤ T.length := by
   obtain ⟨-, a2, rfl⟩ := as_is h3
   have := nameT_lt a2
   omega
  have hl : lensC { q with cols := q.cols ++ [x], names := q.names ++ [s] } = lensC q + (exText x).length + s.length + 6 := by
   unfold lensC
   simp only
   rw [zip_snoc _ _ _ _ hq, List.map_append, lensT_app]
   simp only [List.map_cons, List.map_nil, lensT, item_len, List.length_append, List.length_cons, List.length_nil]
   omega
  simp only at h4
  split at h4
  ·rename_i hc
   have h5 := isT_sum hc
   obtain ⟨g1, g2, g3⟩ := cols_len hX hF f _ _ (by have := isT_lt hc; omega) (by simp [hq]) p j h4
   simp only [List.length_cons, List.length_nil, wComma] at h5
   exact ⟨by simp only at hs h5; omega, g2, g3⟩
  ·injection h4 with h4
   injection h4 with h4 h5
   subst h4 h5
   exact ⟨by simp only at hs; omega, rfl, by simp [hq]⟩
theorem agg_len (hX : Oracle T E X) (hF : Fit T) {a : AggP} {i j : Nat} (h : aggQ T E X i = .ok (a, j)) : (itemA a).length + 2 + 4 * wsum T i ≤ 4 * wsum T j := by
 obtain ⟨hg, h⟩ := agg_is h
 have hlt := (ag_text hg).2
 obtain ⟨t, ht⟩ : ∃ t, T[i]? = some t := ⟨_, List.getElem?_eq_getElem hlt⟩
 have hw := wsum_next ht
 have e1 : textT T i = t.text := by unfold textT; rw [ht]
 have h1 := hF.pos t (List.mem_of_getElem? ht)
 rcases h with ⟨hc, s, h2, rfl⟩ | ⟨hc, x, k, s, h2, h3, rfl⟩
 ·have hs := as_sum h2
  rw [e1] at hc
  rw [hc] at hw
  unfold itemA aggT
  rw [if_pos rfl]
  simp [qCount, qAs] at hw ⊢
  omega
 ·obtain ⟨m, h4, h5, h6, rfl⟩ := of_is h2
  have hs := as_sum h3
  have hx := x_len hX hF (by have := isT_lt h4; omega) h5
  have h7 := isT_sum h4
  have h8 := isT_sum h6
  unfold itemA aggT
  rw [if_neg hc, e1]
  simp [qAs, wOpen, wClose] at h7 h8 ⊢
  omega
def lensA (q : QP) : Nat := lensT (q.aggs.map itemA) + 2 * q.aggs.length
theorem aggs_len (hX : Oracle T E X) (hF : Fit T) : ∀ (f : Nat) (q : QP) (i : Nat), ∀ p j, aggsQ T E X f q i = .ok (p, j) → lensA p + 4 * wsum T i ≤ lensA q + 4 * wsum T j ∧ p.from_ = q.from_
 | 0, q, i, p, j, h => by cases h
 | f + 1, q, i, p, j, h => by
  rw [aggsQ] at h
  obtain ⟨⟨a, k⟩, h1, h4⟩ := bind_ok h
  have ha := agg_len hX hF h1
  have hl : lensA { q with aggs := q.aggs ++ [a] } = lensA q + (itemA a).length + 2 := by
   unfold lensA
   simp only
   rw [List.map_append, lensT_app]
   simp only [List.map_cons, List.map_nil, lensT, List.length_append, List.length_cons, List.length_nil]
   omega
  simp only at h4
  split at h4
  ·rename_i hc
   have h5 := isT_sum hc
   obtain ⟨g1, g2⟩ := aggs_len hX hF f _ _ p j h4
   simp only [List.length_cons, List.length_nil, wComma] at h5
   exact ⟨by omega, g2⟩
  ·injection h4 with h4
   injection h4 with h4 h5
   subst h4 h5
   exact ⟨by omega, rfl⟩
def lensG (q : QP) : Nat := lensT q.group + 2 * q.group.length
theorem grp_len (hF : Fit T) : ∀ (f : Nat) (q : QP) (i : Nat), ∀ p j, grpQ T E f q i = .ok (p, j) → lensG p + 4 * wsum T i ≤ lensG q + 4 * wsum T j
 | 0, q, i, p, j, h => by cases h
 | f + 1, q, i, p, j, h => by
  rw [grpQ] at h
  obtain ⟨⟨s, k⟩, h1, h4⟩ := bind_ok h
  obtain ⟨h2, rfl⟩ := name_is h1
  have hs := nameT_sum h2
  obtain ⟨t, ht, -, rfl, -⟩ := nameT_some h2
  have h3 := hF.pos t (List.mem_of_getElem? ht)
  have hl : lensG { q with group := q.group ++ [t.text] } = lensG q + t.text.length + 2 := by
   unfold lensG
   simp only
   rw [lensT_app]
   simp only [lensT, List.length_append, List.length_cons, List.length_nil]
   omega
  simp only at h4
  split at h4
  ·rename_i hc
   have h5 := isT_sum hc
   have g1 := grp_len hF f _ _ p j h4
   simp only [List.length_cons, List.length_nil, wComma] at h5
   omega
  ·injection h4 with h4
   injection h4 with h4 h5
   subst h4 h5
   omega
structure QShape (q : QP) : Prop where
 fromN : treeName (mkB q.from_) = true
 way : (q.aggs = [] ∧ q.cols ≠ [] ∧ q.group = [] ∧ q.size = 0 ∧ q.slide = 0) ∨ (q.cols = [] ∧ q.names = [] ∧ q.aggs ≠ [] ∧ q.group ≠ [] ∧ 0 ≤ q.size ∧ fitsN q.size ∧ 0 ≤ q.slide ∧ fitsN q.slide)
theorem where_len (hX : Oracle T E X) (hF : Fit T) {q p : QP} {i j : Nat} (hq : q.wher = zeroX) (h : fromQ T E X q i = .ok (p, j)) : p.from_.length + (whereT p).length + 6 + 4 * wsum T i ≤ 4 * wsum T j ∧ treeName (mkB p.from_) = true ∧ ∃ x, p = { q with from_ := p.from_, wher := x } := by
 obtain ⟨s, h1, h2, h3⟩ := from_is h
 have e1 := isT_sum h1
 have e2 := nameT_sum h2
 have hn := name_tree h2
 rcases h3 with ⟨h3, x, h4, rfl⟩ | ⟨rfl, rfl⟩
 ·have e3 := isT_sum h3
  have hx := x_len hX hF (by have := isT_lt h3; omega) h4
  refine ⟨?_, hn, x, rfl⟩
  unfold whereT
  simp only
  split
  ·simp [qFrom, qWhere] at e1 e3 ⊢
   rw [show i + 3 = i + 2 + 1 from rfl] at hx
   rw [show i + 2 = i + 1 + 1 from rfl] at *
   omega
  ·simp [qFrom, qWhere] at e1 e3 ⊢
   rw [show i + 3 = i + 2 + 1 from rfl] at hx
   rw [show i + 2 = i + 1 + 1 from rfl] at *
   omega
 ·refine ⟨?_, hn, q.wher, rfl⟩
  unfold whereT
  simp only
  rw [hq, if_neg (by decide)]
  simp [qFrom] at e1 ⊢
  rw [show i + 2 = i + 1 + 1 from rfl] at *
  omega
theorem readQ_len {s : List UInt8} (hs : lexS s = .ok T) (hX : Oracle T E X) {p : QP} {j : Nat} (h : readQ' T E X = .ok (p, j)) : QShape p ∧ (qText p).length ≤ 4 * wsum T j := by
 have hF := fit_of hs
 have hT := numOk_of hs
 unfold readQ' at h
 obtain ⟨k, h1, h2⟩ := bindN_ok h
 obtain ⟨h0, rfl⟩ := need_is h1
 obtain ⟨⟨p1, m⟩, h3, h4⟩ := bind_ok h2
 obtain ⟨⟨p2, m2⟩, h5, h6⟩ := bind_ok h4
 have e0 := isT_sum h0
 have hs0 : wsum T 0 = 0 := rfl
 simp only at h6 h5
 have join_le : ∀ ts : List (List UInt8), (Lib.join ts [44, 32]).length ≤ lensT ts + 2 * ts.length := lensT_join
 by_cases hg : isAg T (0 + 1) = true
 ·rw [if_pos hg] at h6
  unfold itemsQ at h3
  rw [if_pos hg] at h3
  obtain ⟨-, g1, g2, g3, g4, g5⟩ := aggs_right hX hT _ _ _ zeroQ_ok _ _ h3
  obtain ⟨g6, g7⟩ := aggs_len hX hF _ _ _ _ _ h3
  obtain ⟨w1, w2, x, w3⟩ := where_len hX hF g4 h5
  obtain ⟨f1, f2, p3, m3, f3, f4⟩ := group_is h6
  obtain ⟨-, c1, c2, c3, c4, c5, c6⟩ := grp_right _ p2 _ (by
   have := (aggs_right hX hT _ _ _ zeroQ_ok _ _ h3).1
   exact (from_right hX hT this h5).1) _ _ f3
  have c7 := grp_len hF _ _ _ _ _ f3
  obtain ⟨b1, t, b2, b3, b4⟩ := win_is f4
  have n1 := num_is hs b2 b3
  have n2 := wsum_next b2
  have e1 := isT_sum f1
  have e2 := isT_sum f2
  have e3 := isT_sum b1
  have hp2c : p2.cols = [] ∧ p2.names = [] ∧ p2.aggs = p1.aggs ∧ p2.group = [] := by
   rw [w3]; exact ⟨g1, g2, rfl, g3⟩
  have hagg : p3.aggs ≠ [] := by rw [c3, hp2c.2.2.1]; exact g5
  have hA : lensA p3 = lensA p1 := by unfold lensA; rw [c3, hp2c.2.2.1]
  have hz : lensA zeroQ = 0 := rfl
  have hG : lensG p2 = 0 := by unfold lensG; rw [hp2c.2.2.2]; rfl
  have hfr : p3.from_ = p2.from_ ∧ whereT p3 = whereT p2 := by
   refine ⟨c5, ?_⟩
   unfold whereT; rw [c4]
  have key : ∀ p : QP, p.cols = p3.cols → p.names = p3.names → p.aggs = p3.aggs → p.from_ = p3.from_ → p.wher = p3.wher → p.group = p3.group → ∀ L : Nat, (Lib.itoa p.size).length + (if p.slide = p.size then 0 else 7 + (Lib.itoa p.slide).length) ≤ L →
    (qText p).length ≤ 37 + lensA p3 + p3.from_.length + (whereT p3).length + lensG p3 + L := by
   intro p q1 q2 q3 q4 q5 q6 L hL
   have i1 : qItems p = p3.aggs.map itemA := by
    unfold qItems
    rw [q1, q2, q3, c1, c2, hp2c.1]
    rfl
   have i2 : whereT p = whereT p3 := by unfold whereT; rw [q5]
   have i3 := join_le (p3.aggs.map itemA)
   have i4 := join_le p3.group
   rw [List.length_map] at i3
   unfold qText groupT
   rw [i1, i2, q4, q3, q6, if_neg hagg]
   unfold lensA lensG
   by_cases hsl : p.slide = p.size
   ·rw [if_pos hsl] at hL ⊢
    simp [qSelect, qFrom, qGroup, qBy, qWindow]
    omega
   ·rw [if_neg hsl] at hL ⊢
    simp [qSelect, qFrom, qGroup, qBy, qWindow, qSlide]
    omega
  simp only [List.length_cons, List.length_nil, qSelect, qGroup, qBy, qWindow] at e0 e1 e2 e3
  have e2' : wsum T (m2 + 2) = wsum T (m2 + 1) + 2 := e2
  rcases b4 with ⟨b5, u, b6, b7, rfl, rfl⟩ | ⟨rfl, rfl⟩
  ·have n3 := num_is hs b6 b7
   have n4 := wsum_next b6
   have e4 := isT_sum b5
   simp only [List.length_cons, List.length_nil, qSlide] at e4
   have e4' : wsum T (m3 + 3) = wsum T (m3 + 2) + 5 := e4
   have n2' : wsum T (m3 + 2) = wsum T (m3 + 1) + t.text.length := n2
   have n4' : wsum T (m3 + 4) = wsum T (m3 + 3) + u.text.length := n4
   refine ⟨⟨by rw [show (({ p3 with size := (readP t.text).1.n, slide := (readP u.text).1.n } : QP).from_) = p2.from_ from c5]; exact w2, Or.inr ⟨c1.trans hp2c.1, c2.trans hp2c.2.1, hagg, c6, n1.low, n1.fit, n3.low, n3.fit⟩⟩, ?_⟩
   have hL := key { p3 with size := (readP t.text).1.n, slide := (readP u.text).1.n } rfl rfl rfl rfl rfl rfl (t.text.length + 7 + u.text.length) (by
    simp only
    rw [n1.text, n3.text]
    split <;> omega)
   have l1 := congrArg List.length hfr.1
   have l2 := congrArg List.length hfr.2
   omega
  ·refine ⟨⟨by rw [show (({ p3 with size := (readP t.text).1.n, slide := (readP t.text).1.n } : QP).from_) = p2.from_ from c5]; exact w2, Or.inr ⟨c1.trans hp2c.1, c2.trans hp2c.2.1, hagg, c6, n1.low, n1.fit, n1.low, n1.fit⟩⟩, ?_⟩
   have hL := key { p3 with size := (readP t.text).1.n, slide := (readP t.text).1.n } rfl rfl rfl rfl rfl rfl t.text.length (by
    simp only
    rw [n1.text]
    simp)
   have n2' : wsum T (m3 + 2) = wsum T (m3 + 1) + t.text.length := n2
   have l1 := congrArg List.length hfr.1
   have l2 := congrArg List.length hfr.2
   omega
 ·rw [if_neg hg] at h6
  injection h6 with h6
  injection h6 with h6 h7
  subst h6 h7
  unfold itemsQ at h3
  rw [if_neg hg] at h3
  have h1 := isT_lt h0
  obtain ⟨-, g1, g2, g3, g4, g5, g6, g7⟩ := cols_right hX hT _ _ _ zeroQ_ok (by omega) _ _ h3
  obtain ⟨g8, g9, g10⟩ := cols_len hX hF _ _ _ (by omega) rfl _ _ h3
  obtain ⟨w1, w2, x, w3⟩ := where_len hX hF g3 h5
  have hp : p2.cols = p1.cols ∧ p2.names = p1.names ∧ p2.aggs = [] ∧ p2.group = [] ∧ p2.size = 0 ∧ p2.slide = 0 := by
   rw [w3]; exact ⟨rfl, rfl, g1, g2, g4, g5⟩
  refine ⟨⟨w2, Or.inl ⟨hp.2.2.1, by rw [hp.1]; exact g7, hp.2.2.2.1, hp.2.2.2.2.1, hp.2.2.2.2.2⟩⟩, ?_⟩
  have i1 : qItems p2 = (p1.cols.zip p1.names).map (fun x => itemC x.1 x.2) := by
   unfold qItems
   rw [hp.1, hp.2.1, hp.2.2.1]
   simp
  have i3 := join_le ((p1.cols.zip p1.names).map (fun x => itemC x.1 x.2))
  rw [List.length_map, List.length_zip, g10, Nat.min_self] at i3
  have hz : lensC zeroQ = 0 := rfl
  unfold qText groupT
  rw [i1, if_pos hp.2.2.1]
  simp only [List.length_cons, List.length_nil, qSelect] at e0
  unfold lensC at g8 hz
  simp [qSelect, qFrom]
  omega
theorem parse_len {s : List UInt8} {p : QP} (h : QryIs s (.ok p)) : QShape p ∧ QOk p ∧ fullQ p = false ∧ (qText p).length ≤ 4 * s.length := by
 rcases h with ⟨a, b, -, h⟩ | ⟨T, X, h1, h2, ⟨k, -, h⟩ | ⟨q, j, h3, ⟨-, h⟩ | ⟨h4, ⟨-, h⟩ | ⟨h5, h⟩⟩⟩⟩
 ·cases h
 ·cases h
 ·cases h
 ·cases h
 ·cases h
  obtain ⟨g1, g2⟩ := readQ_len h1 h2 h3
  refine ⟨g1, readQ_right h2 (numOk_of h1) h3, h5, ?_⟩
  have hm : ∀ j, wsum T j ≤ s.length := by
   intro j
   have h0 : lexP s 0 = .ok T := by unfold lexS at h1; split at h1; cases h1; exact h1
   have hall := lex_sum _ s (Nat.le_refl _) 0 T h0
   have : wsum T j ≤ (T.map (fun t => t.text.length)).sum := by
    have e : T = T.take j ++ T.drop j := (List.take_append_drop j T).symm
    have e2 : (T.map (fun t => t.text.length)).sum = ((T.take j ++ T.drop j).map (fun t => t.text.length)).sum := by rw [← e]
    rw [List.map_append, List.sum_append] at e2
    unfold wsum
    omega
   omega
  have := hm j
  omega
end
end Go.Proofs.YtpbbkpfaphjdoaaGreatDoor
