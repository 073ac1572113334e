/- The text of a query that was read is read again as it was, plain. -/
import Derived.Test.YtpbbkpfaphjdoaaGreatDoorSQryLen
import Derived.Test.YtpbbkpfaphjdoaaGreatDoorSBackPlain
namespace Go.Proofs.YtpbbkpfaphjdoaaGreatDoor
def Stops (rest : List UInt8) : Prop := ∀ x, rest.head? = some x → stopB x
def Piece (l : List UInt8) (P : List Tok → Prop) : Prop := ∀ (rest : List UInt8) (a : Nat), Stops rest → ∃ ts, lexP (l ++ rest) a = (lexP rest (a + l.length)).pre ts ∧ P ts
section
variable {l m : List UInt8} {P Q : List Tok → Prop}
theorem Piece.mono (h : Piece l P) (hPQ : ∀ ts, P ts → Q ts) : Piece l Q := fun rest a hr => by
 obtain ⟨ts, h1, h2⟩ := h rest a hr
 exact ⟨ts, h1, hPQ ts h2⟩
theorem Piece.blank (h : Piece l P) (h2 : Piece m Q) : Piece (l ++ 32 :: m) (fun ts => ∃ t u, ts = t ++ u ∧ P t ∧ Q u) := fun rest a hr => by
 obtain ⟨u, g1, g2⟩ := h2 rest (a + l.length + 1) hr
 obtain ⟨t, g3, g4⟩ := h (32 :: (m ++ rest)) a st32
 refine ⟨t ++ u, ?_, t, u, rfl, g4, g2⟩
 rw [List.append_assoc, List.cons_append, g3, lexP_blank (Or.inl rfl), g1, LexR.pre_pre]
 simp only [List.length_append, List.length_cons]
 rw [show a + l.length + 1 + m.length = a + (l.length + (m.length + 1)) by omega]
theorem Piece.comma (h : Piece l P) (h2 : Piece m Q) : Piece (l ++ 44 :: 32 :: m) (fun ts => ∃ t c u, ts = t ++ c :: u ∧ c.kind = 4 ∧ c.text = wComma ∧ P t ∧ Q u) := fun rest a hr => by
 obtain ⟨u, g1, g2⟩ := h2 rest (a + l.length + 1 + 1) hr
 obtain ⟨t, g3, g4⟩ := h (44 :: 32 :: (m ++ rest)) a st44
 refine ⟨t ++ ⟨4, [44], a + l.length⟩ :: u, ?_, t, _, u, rfl, rfl, rfl, g4, g2⟩
 rw [List.append_assoc, List.cons_append, List.cons_append, g3, lex_comma, lexP_blank (Or.inl rfl), g1, LexR.pre_pre, LexR.pre_pre]
 simp only [List.length_append, List.length_cons]
 rw [show a + l.length + 1 + 1 + m.length = a + (l.length + (m.length + 1 + 1)) by omega]
 simp
def OneW (k : Int) (s : List UInt8) (ts : List Tok) : Prop := ∃ a, ts = [⟨k, s, a⟩]
theorem piece_one {k : Int} {s : List UInt8} (h : ∀ a, TokOk ⟨k, s, a⟩) : Piece s (OneW k s) := fun rest a hr => ⟨[⟨k, s, a⟩], (h a).lex_stop rest hr a, a, rfl⟩
def JoinW {α : Type} (W : α → List Tok → Prop) : List α → List Tok → Prop
 | [], _ => False
 | [x], ts => W x ts
 | x :: y :: r, ts => ∃ t c u, ts = t ++ c :: u ∧ c.kind = 4 ∧ c.text = wComma ∧ W x t ∧ JoinW W (y :: r) u
theorem join_two (x y : List UInt8) (r : List (List UInt8)) : Lib.join (x :: y :: r) [44, 32] = x ++ 44 :: 32 :: Lib.join (y :: r) [44, 32] := by
 rw [Lib.join_cons, Lib.join_cons]
 simp [Lib.joinTail]
theorem piece_join {α : Type} (tx : α → List UInt8) (W : α → List Tok → Prop) : ∀ (l : List α), l ≠ [] → (∀ x ∈ l, Piece (tx x) (W x)) → Piece (Lib.join (l.map tx) [44, 32]) (JoinW W l)
 | [], h, _ => absurd rfl h
 | [x], _, h => by
  rw [List.map_cons, List.map_nil, Lib.join_cons]
  simp only [Lib.joinTail, List.map_nil, List.flatten_nil, List.append_nil]
  exact h x (by simp)
 | x :: y :: r, _, h => by
  rw [List.map_cons, List.map_cons, join_two, ← List.map_cons]
  exact (h x (by simp)).comma (piece_join tx W (y :: r) (by simp) (fun z hz => h z (List.mem_cons_of_mem _ hz)))
end
structure ExW (e : Ex) (ts : List Tok) : Prop where
 pos : 0 < ts.length
 first : isT ts 0 wMinus = false ∧ isT ts 0 wNot = false
 read : ∀ (T : List Tok) (E p : Nat), Sub T p ts → ∃ x, Rd T E .pr p (.ok (x, p + ts.length)) ∧ exSame x e = true
theorem piece_ex {e : Ex} (h : nodesErr e = 0) (hf : fitsE e) : Piece (exText e) (ExW e) := fun rest a hr => by
 obtain ⟨ts, ha⟩ := again_all _ e (Nat.le_refl _) h hf rest a hr
 exact ⟨ts, ha.lex, ha.pos, ha.first, ha.read⟩
def noSign (s : List UInt8) : Prop := ∀ m, m < 5 → s ∉ lvlL m
section
variable {T : List Tok} {E : Nat}
theorem sub_le {p : Nat} {ts : List Tok} (h : Sub T p ts) (h0 : 0 < ts.length) : p + ts.length ≤ T.length := by
 have h1 := h (ts.length - 1) (by omega)
 rw [List.getElem?_eq_getElem (l := ts) (by omega)] at h1
 have := (List.getElem?_eq_some_iff.1 h1).1
 omega
theorem ExW.rdX {e : Ex} {ts : List Tok} (h : ExW e ts) {p : Nat} (hs : Sub T p ts) (hn : ∀ m, m < 5 → sgT T m (p + ts.length) = none) : ∃ x, rdX T E p = .ok (x, p + ts.length) ∧ exSame x e = true := by
 obtain ⟨x, h1, h2⟩ := h.read T E p hs
 have hr := lift_lv h1 (by rw [hs.isT h.pos]; exact h.first.1) (by rw [hs.isT h.pos]; exact h.first.2) 5 0 (by omega) (fun m _ hm => hn m hm)
 have := sub_le hs h.pos
 exact ⟨x, rdX_is hr (by omega), h2⟩
theorem ExW.notAg {e : Ex} {ts : List Tok} (h : ExW e ts) {p : Nat} (hs : Sub T p ts) : isAg T p = false := by
 cases hx : isAg T p with
 | false => rfl
 | true =>
  exfalso
  obtain ⟨s, hs1, hs2⟩ := List.any_eq_true.1 hx
  obtain ⟨x, h1, -⟩ := h.read T 0 p hs
  have key : ∀ s ∈ aggL, s ≠ wOpen ∧ s ≠ wLen ∧ s ≠ wIf ∧ s ≠ tTrue ∧ s ≠ tFalse ∧ treeName (mkB s) = false := by decide
  obtain ⟨k1, k2, k3, k4, k5, k6⟩ := key s hs1
  obtain ⟨t, ht, hk, e1⟩ := isT_some hs2
  have hv : valT T p = none ∨ ∃ v, valT T p = some v := by cases valT T p with
   | none => exact Or.inl rfl
   | some v => exact Or.inr ⟨v, rfl⟩
  have no : ∀ u, s ≠ u → isT T p u = true → False := fun u hu h' => by rw [isT_one hs2 hu] at h'; cases h'
  generalize hr : (Except.ok (x, p + ts.length) : PR) = r at h1
  cases h1 with
  | prPar h => exact no _ k1 h
  | prLen h => exact no _ k2 h
  | prIf h => exact no _ k3 h
  | prVal _ _ _ c =>
   unfold valT at c
   rw [ht] at c
   simp only at c
   split at c
   ·rename_i hh
    rw [e1] at hh
    rcases hh with h | h | ⟨-, h | h⟩
    ·rcases hk with hk | hk <;> omega
    ·rcases hk with hk | hk <;> omega
    ·exact k4 h
    ·exact k5 h
   ·cases c
  | prCol _ _ _ _ d =>
   obtain ⟨t', ht', -, e2, e3⟩ := nameT_some d
   rw [ht] at ht'
   injection ht' with ht'
   subst ht'
   rw [← e2, e1] at e3
   rw [e3] at k6
   cases k6
  | _ => cases hr
end
theorem kw_ok {s : List UInt8} (h : s ∈ [qSelect, qAs, qFrom, qWhere, qGroup, qBy, qWindow, qSlide, qCount, qSum, qLeast, qMost]) (a : Nat) : TokOk ⟨1, s, a⟩ := by
 have key : ∀ s ∈ [qSelect, qAs, qFrom, qWhere, qGroup, qBy, qWindow, qSlide, qCount, qSum, qLeast, qMost], (match s with
  | [] => false
  | c :: r => decide (tokP (c :: r) = ((c :: r).length, 1, 0)) && (c != 32 && c != 10)) = true := by decide
 exact tok_word (key s h) a
theorem kw_no {s : List UInt8} (h : s ∈ [qSelect, qAs, qFrom, qWhere, qGroup, qBy, qWindow, qSlide, wComma, wClose]) : noSign s := by
 have key : ∀ s ∈ [qSelect, qAs, qFrom, qWhere, qGroup, qBy, qWindow, qSlide, wComma, wClose], ∀ m, m < 5 → s ∉ lvlL m := by decide
 exact key s h
theorem sg_no {T : List Tok} {j : Nat} {s : List UInt8} (h : isT T j s = true) (hs : noSign s) : ∀ m, m < 5 → sgT T m j = none := fun _ hm => sgT_not h hs hm
theorem sg_end {T : List Tok} {j : Nat} (h : T.length ≤ j) : ∀ m, m < 5 → sgT T m j = none := fun m _ => by
 cases hx : sgT T m j with
 | none => rfl
 | some u => have := isT_lt (sgT_some hx).2; omega
theorem isT_end {T : List Tok} {j : Nat} (h : T.length ≤ j) (s : List UInt8) : isT T j s = false := by
 cases hx : isT T j s with
 | false => rfl
 | true => have := isT_lt hx; omega
theorem OneW.is {T : List Tok} {k : Int} {s : List UInt8} {ts : List Tok} (h : OneW k s ts) (hk : k = 4 ∨ k = 1) {p : Nat} (hs : Sub T p ts) : isT T p s = true ∧ ts.length = 1 := by
 obtain ⟨a, rfl⟩ := h
 exact ⟨isT_of hs.head hk rfl, rfl⟩
theorem OneW.name {T : List Tok} {s : List UInt8} {ts : List Tok} (h : OneW 1 s ts) (hn : treeName (mkB s) = true) {p : Nat} (hs : Sub T p ts) : nameT T p = some s ∧ ts.length = 1 := by
 obtain ⟨a, rfl⟩ := h
 refine ⟨?_, rfl⟩
 rw [hs.nameT (by simp)]
 unfold nameT
 exact if_pos ⟨rfl, hn⟩
def AsW (s : List UInt8) (ts : List Tok) : Prop := ∃ t u, ts = t ++ u ∧ OneW 1 qAs t ∧ OneW 1 s u
theorem piece_as {s : List UInt8} (hn : treeName (mkB s) = true) : Piece (qAs ++ 32 :: s) (AsW s) :=
 (piece_one (fun a => kw_ok (s := qAs) (by simp) a)).blank (piece_one (fun a => tok_name hn a))
section
variable {T : List Tok} {E : Nat}
theorem need_of {s : List UInt8} {i : Nat} (h : isT T i s = true) : needQ T E s i = .ok (i + 1) := if_pos h
theorem name_of {s : List UInt8} {i : Nat} (h : nameT T i = some s) : nameQ T E i = .ok (s, i + 1) := by unfold nameQ; rw [h]
theorem AsW.read {s : List UInt8} {ts : List Tok} (h : AsW s ts) (hn : treeName (mkB s) = true) {p : Nat} (hs : Sub T p ts) : asQ T E p = .ok (s, p + ts.length) ∧ isT T p qAs = true := by
 obtain ⟨t, u, rfl, h1, h2⟩ := h
 obtain ⟨g1, g2⟩ := h1.is (Or.inr rfl) hs.left
 obtain ⟨g3, g4⟩ := h2.name hn hs.right
 rw [g2] at g3
 refine ⟨?_, g1⟩
 unfold asQ
 rw [need_of g1]
 show nameQ T E (p + 1) = _
 rw [name_of g3, List.length_append, g2, g4]
end
def ItemW (x : Ex × List UInt8) (ts : List Tok) : Prop := ∃ t u, ts = t ++ u ∧ ExW x.1 t ∧ AsW x.2 u
theorem piece_item {x : Ex × List UInt8} (h : nodesErr x.1 = 0) (hf : fitsE x.1) (hn : treeName (mkB x.2) = true) : Piece (itemC x.1 x.2) (ItemW x) := (piece_ex h hf).blank (piece_as hn)
section
variable {T : List Tok} {E : Nat}
theorem ItemW.read {x : Ex × List UInt8} {ts : List Tok} (h : ItemW x ts) (hn : treeName (mkB x.2) = true) {p : Nat} (hs : Sub T p ts) : ∃ y k, rdX T E p = .ok (y, k) ∧ exSame y x.1 = true ∧ asQ T E k = .ok (x.2, p + ts.length) ∧ isAg T p = false := by
 obtain ⟨t, u, rfl, h1, h2⟩ := h
 obtain ⟨g1, g2⟩ := h2.read (E := E) hn hs.right
 obtain ⟨y, g3, g4⟩ := h1.rdX (E := E) hs.left (sg_no g2 (kw_no (by simp)))
 exact ⟨y, _, g3, g4, by rw [g1, List.length_append, Nat.add_assoc], h1.notAg hs.left⟩
theorem JoinW.pos {α : Type} {W : α → List Tok → Prop} (hW : ∀ x ts, W x ts → 0 < ts.length) : ∀ {l : List α} {ts : List Tok}, JoinW W l ts → 0 < ts.length
 | [], _, h => by cases h
 | [x], ts, h => hW x ts h
 | x :: y :: r, ts, h => by
  obtain ⟨t, c, u, rfl, -⟩ := h
  simp
  omega
theorem cols_read {T : List Tok} {E : Nat} : ∀ (its : List (Ex × List UInt8)) (ts : List Tok) (q : QP) (p f : Nat), JoinW ItemW its ts → Sub T p ts → (∀ x ∈ its, treeName (mkB x.2) = true) → its.length ≤ f → isT T (p + ts.length) wComma = false →
  ∃ xs, exSames xs (its.map (·.1)) = true ∧ colsQ T E (rdX T E) f q p = .ok ({ q with cols := q.cols ++ xs, names := q.names ++ its.map (·.2) }, p + ts.length) ∧ isAg T p = false
 | [], _, _, _, _, h, _, _, _, _ => by cases h
 | [x], ts, q, p, f, h, hs, hn, hf, hc => by
  obtain ⟨f, rfl⟩ : ∃ g, f = g + 1 := ⟨f - 1, by simp at hf; omega⟩
  obtain ⟨y, k, h1, h2, h3, h4⟩ := ItemW.read (E := E) h (hn x (by simp)) hs
  refine ⟨[y], by simp [exSames, h2], ?_, h4⟩
  rw [colsQ, h1]
  show (asQ T E k).bind _ = _
  rw [h3]
  show (if isT T (p + ts.length) wComma = true then _ else _) = _
  rw [hc]
  rfl
 | x :: y :: r, ts, q, p, f, h, hs, hn, hf, hc => by
  obtain ⟨f, rfl⟩ : ∃ g, f = g + 1 := ⟨f - 1, by simp at hf; omega⟩
  obtain ⟨t, c, u, rfl, hk, hx, hW, hJ⟩ := h
  obtain ⟨z, k, h1, h2, h3, h4⟩ := ItemW.read (E := E) hW (hn x (by simp)) hs.left
  have hcm := hs.right
  have hcc : isT T (p + t.length) wComma = true := isT_of hcm.head (Or.inl hk) hx
  obtain ⟨xs, g1, g2, -⟩ := cols_read (E := E) (y :: r) u { q with cols := q.cols ++ [z], names := q.names ++ [x.2] } (p + t.length + 1) f hJ hcm.tail (fun a ha => hn a (List.mem_cons_of_mem _ ha)) (by simp at hf ⊢; omega) (by rw [← hc]; congr 1; simp; omega)
  refine ⟨z :: xs, ?_, ?_, h4⟩
  ·rw [List.map_cons, exSames, h2, g1]; rfl
  ·rw [colsQ, h1]
   show (asQ T E k).bind _ = _
   rw [h3]
   show (if isT T (p + t.length) wComma = true then _ else _) = _
   rw [if_pos hcc]
   show colsQ T E (rdX T E) f _ (p + t.length + 1) = _
   rw [g2]
   simp
   omega
end
theorem lex_call {c : UInt8} {r : List UInt8} (hL : isL c = true) (hall : (c :: r).all isLD = true) (e : List UInt8) (a : Nat) : lexP (c :: (r ++ 40 :: e)) a = (lexP (40 :: e) (a + (c :: r).length)).pre [⟨1, c :: r, a⟩] := by
 have ht := tw_app (p := isLD) (c :: r) (40 :: e) hall (fun y hy => by injection hy with hy; subst hy; decide)
 have hk : tokP (c :: (r ++ 40 :: e)) = ((c :: r).length, 1, 0) := by
  rw [tokP_L _ hL, ← List.cons_append, ht.1]
 have hb : ¬ (c = 32 ∨ c = 10) := by
  rintro (h | h) <;> subst h <;> exact absurd hL (by decide)
 rw [lexP_tok hb hk, ← List.cons_append, List.drop_left, List.take_left]
def AggTW (a : AggP) (ts : List Tok) : Prop := if a.what = qCount then OneW 1 qCount ts else ∃ b t c d, ts = ⟨1, a.what, b⟩ :: ⟨4, [40], c⟩ :: (t ++ [⟨4, [41], d⟩]) ∧ ExW a.of t
def AggW (a : AggP) (ts : List Tok) : Prop := ∃ t u, ts = t ++ u ∧ AggTW a t ∧ AsW a.name u
theorem piece_aggT {a : AggP} (h : AggOk a) (hf : a.what ≠ qCount → fitsE a.of) : Piece (aggT a) (AggTW a) := by
 obtain ⟨hn, ⟨hw, -⟩ | ⟨hw, he⟩⟩ := h
 ·unfold aggT AggTW
  simp only [if_pos hw]
  exact piece_one (fun a => kw_ok (s := qCount) (by simp) a)
 ·have hne : a.what ≠ qCount := by rcases hw with h | h | h <;> (rw [h]; decide)
  intro rest b hr
  obtain ⟨ts, g1, g2⟩ := piece_ex he (hf hne) (41 :: rest) (b + a.what.length + 1) st41
  unfold aggT AggTW
  simp only [if_neg hne]
  refine ⟨_, ?_, b, ts, b + a.what.length, b + a.what.length + 1 + (exText a.of).length, rfl, g2⟩
  obtain ⟨c, r, hc, hL, hall⟩ : ∃ c r, a.what = c :: r ∧ isL c = true ∧ (c :: r).all isLD = true := by
   rcases hw with h | h | h
   ·exact ⟨115, [117, 109], h, by decide, by decide⟩
   ·exact ⟨108, [101, 97, 115, 116], h, by decide, by decide⟩
   ·exact ⟨109, [111, 115, 116], h, by decide, by decide⟩
  rw [show a.what ++ [40] ++ exText a.of ++ [41] ++ rest = a.what ++ 40 :: (exText a.of ++ 41 :: rest) by simp, hc, List.cons_append, lex_call hL hall, lex_open, ← hc, g1, lex_close]
  simp only [LexR.pre_pre]
  have el : b + (a.what ++ [40] ++ exText a.of ++ [41]).length = b + a.what.length + 1 + (exText a.of).length + 1 := by
   simp only [List.length_append, List.length_cons, List.length_nil]
   omega
  rw [el]
  rfl
theorem piece_agg {a : AggP} (h : AggOk a) (hf : a.what ≠ qCount → fitsE a.of) : Piece (itemA a) (AggW a) := (piece_aggT h hf).blank (piece_as h.1)
def aggSame (a b : AggP) : Prop := a.what = b.what ∧ a.name = b.name ∧ exSame a.of b.of = true
def aggsSame : List AggP → List AggP → Prop
 | [], [] => True
 | a :: l, b :: m => aggSame a b ∧ aggsSame l m
 | _, _ => False
section
variable {T : List Tok} {E : Nat}
theorem AggW.read {a : AggP} {ts : List Tok} (h : AggW a ts) (hk : AggOk a) {p : Nat} (hs : Sub T p ts) : ∃ b, aggQ T E (rdX T E) p = .ok (b, p + ts.length) ∧ aggSame b a ∧ isAg T p = true := by
 obtain ⟨t, u, rfl, h1, h2⟩ := h
 obtain ⟨g1, g2⟩ := h2.read (E := E) hk.1 hs.right
 unfold AggTW at h1
 obtain ⟨hn, hw⟩ := hk
 by_cases hc : a.what = qCount
 ·rw [if_pos hc] at h1
  obtain ⟨g3, g4⟩ := h1.is (Or.inr rfl) hs.left
  have hag : isAg T p = true := List.any_eq_true.2 ⟨qCount, by simp [aggL], g3⟩
  rw [g4] at g1
  refine ⟨⟨qCount, zeroX, a.name⟩, ?_, ⟨hc.symm, rfl, ?_⟩, hag⟩
  ·unfold aggQ
   rw [if_pos hag, isT_text g3, if_pos rfl, g1, List.length_append, g4, Nat.add_assoc]
   rfl
  ·rcases hw with ⟨-, h⟩ | ⟨h, -⟩
   ·rw [h]; exact (by decide : exSame zeroX zeroX = true)
   ·rw [hc] at h; rcases h with h | h | h <;> exact absurd h (by decide)
 ·rw [if_neg hc] at h1
  obtain ⟨b, t', c, d, rfl, hE⟩ := h1
  have k0 := hs.left.head
  have k1 := hs.left.tail.head
  have k2 := hs.left.tail.tail.left
  have k3 := hs.left.tail.tail.right.head
  have w0 : isT T p a.what = true := isT_of k0 (Or.inr rfl) rfl
  have w1 : isT T (p + 1) wOpen = true := isT_of k1 (Or.inl rfl) rfl
  have w3 : isT T (p + 1 + 1 + t'.length) wClose = true := isT_of k3 (Or.inl rfl) rfl
  obtain ⟨y, g5, g6⟩ := hE.rdX (E := E) k2 (sg_no w3 (kw_no (by simp)))
  have hag : isAg T p = true := List.any_eq_true.2 ⟨a.what, by
   rcases hw with ⟨h, -⟩ | ⟨h | h | h, -⟩ <;> rw [h] <;> simp [aggL], w0⟩
  have hlen : (⟨1, a.what, b⟩ :: ⟨4, [40], c⟩ :: (t' ++ [⟨4, [41], d⟩]) : List Tok).length = t'.length + 3 := by simp
  rw [hlen] at g1
  refine ⟨⟨a.what, y, a.name⟩, ?_, ⟨rfl, rfl, g6⟩, hag⟩
  unfold aggQ
  rw [if_pos hag, isT_text w0, if_neg hc]
  have ho : ofQ T E (rdX T E) (p + 1) = .ok (y, p + 1 + 1 + t'.length + 1) := by
   unfold ofQ
   rw [need_of w1]
   show (rdX T E (p + 1 + 1)).bind _ = _
   rw [g5]
   show (needQ T E wClose (p + 1 + 1 + t'.length)).bind _ = _
   rw [need_of w3]
   rfl
  rw [ho]
  show (asQ T E (p + 1 + 1 + t'.length + 1)).bind _ = _
  rw [show p + 1 + 1 + t'.length + 1 = p + (t'.length + 3) by omega, g1, List.length_append, hlen]
  show Except.ok _ = _
  rw [Nat.add_assoc]
theorem aggs_read {T : List Tok} {E : Nat} : ∀ (its : List AggP) (ts : List Tok) (q : QP) (p f : Nat), JoinW AggW its ts → Sub T p ts → (∀ x ∈ its, AggOk x) → its.length ≤ f → isT T (p + ts.length) wComma = false →
  ∃ xs, aggsSame xs its ∧ aggsQ T E (rdX T E) f q p = .ok ({ q with aggs := q.aggs ++ xs }, p + ts.length) ∧ isAg T p = true
 | [], _, _, _, _, h, _, _, _, _ => by cases h
 | [x], ts, q, p, f, h, hs, hn, hf, hc => by
  obtain ⟨f, rfl⟩ : ∃ g, f = g + 1 := ⟨f - 1, by simp at hf; omega⟩
  obtain ⟨b, h1, h2, h3⟩ := AggW.read (E := E) h (hn x (by simp)) hs
  refine ⟨[b], ⟨h2, trivial⟩, ?_, h3⟩
  rw [aggsQ, h1]
  show (if isT T (p + ts.length) wComma = true then _ else _) = _
  rw [hc]
  rfl
 | x :: y :: r, ts, q, p, f, h, hs, hn, hf, hc => by
  obtain ⟨f, rfl⟩ : ∃ g, f = g + 1 := ⟨f - 1, by simp at hf; omega⟩
  obtain ⟨t, c, u, rfl, hk, hx, hW, hJ⟩ := h
  obtain ⟨b, h1, h2, h3⟩ := AggW.read (E := E) hW (hn x (by simp)) hs.left
  have hcm := hs.right
  have hcc : isT T (p + t.length) wComma = true := isT_of hcm.head (Or.inl hk) hx
  obtain ⟨xs, g1, g2, -⟩ := aggs_read (E := E) (y :: r) u { q with aggs := q.aggs ++ [b] } (p + t.length + 1) f hJ hcm.tail (fun a ha => hn a (List.mem_cons_of_mem _ ha)) (by simp at hf ⊢; omega) (by rw [← hc]; congr 1; simp; omega)
  refine ⟨b :: xs, ⟨h2, g1⟩, ?_, h3⟩
  rw [aggsQ, h1]
  show (if isT T (p + t.length) wComma = true then _ else _) = _
  rw [if_pos hcc]
  show aggsQ T E (rdX T E) f _ (p + t.length + 1) = _
  rw [g2]
  simp
  omega
theorem grp_read {T : List Tok} {E : Nat} : ∀ (its : List (List UInt8)) (ts : List Tok) (q : QP) (p f : Nat), JoinW (fun s => OneW 1 s) its ts → Sub T p ts → (∀ x ∈ its, treeName (mkB x) = true) → its.length ≤ f → isT T (p + ts.length) wComma = false →
  grpQ T E f q p = .ok ({ q with group := q.group ++ its }, p + ts.length)
 | [], _, _, _, _, h, _, _, _, _ => by cases h
 | [x], ts, q, p, f, h, hs, hn, hf, hc => by
  obtain ⟨f, rfl⟩ : ∃ g, f = g + 1 := ⟨f - 1, by simp at hf; omega⟩
  obtain ⟨h1, h2⟩ := OneW.name h (hn x (by simp)) hs
  rw [h2] at hc ⊢
  rw [grpQ, name_of h1]
  show (if isT T (p + 1) wComma = true then _ else _) = _
  rw [hc]
  rfl
 | x :: y :: r, ts, q, p, f, h, hs, hn, hf, hc => by
  obtain ⟨f, rfl⟩ : ∃ g, f = g + 1 := ⟨f - 1, by simp at hf; omega⟩
  obtain ⟨t, c, u, rfl, hk, hx, hW, hJ⟩ := h
  obtain ⟨h1, h2⟩ := OneW.name hW (hn x (by simp)) hs.left
  have hcm := hs.right
  have hcc : isT T (p + t.length) wComma = true := isT_of hcm.head (Or.inl hk) hx
  have g2 := grp_read (E := E) (y :: r) u { q with group := q.group ++ [x] } (p + t.length + 1) f hJ hcm.tail (fun a ha => hn a (List.mem_cons_of_mem _ ha)) (by simp at hf ⊢; omega) (by rw [← hc]; congr 1; simp; omega)
  rw [h2] at hcc g2
  rw [grpQ, name_of h1]
  show (if isT T (p + 1) wComma = true then _ else _) = _
  rw [if_pos hcc]
  show grpQ T E f _ (p + 1 + 1) = _
  rw [g2]
  simp [h2]
  omega
end
theorem tok_num {n : Int} (h0 : 0 ≤ n) (hf : fitsN n) (a : Nat) : TokOk ⟨2, Lib.itoa n, a⟩ := by
 have hn : n = ((n.toNat : Nat) : Int) := (Int.toNat_of_nonneg h0).symm
 have hlt : n.toNat ≤ 9223372036854775807 := by have := hf.2; omega
 rw [hn]
 generalize n.toNat = m at hlt
 rw [itoa_pos]
 obtain ⟨b1, b2, b3, b4⟩ := dec_back m m (Nat.le_refl _)
 obtain ⟨c, r, he, hd⟩ := dec_head (n := m)
 rw [he] at b1 b2 b4 ⊢
 have ht := tw_app (p := isD) (c :: r) [] b2 (fun x hx => by cases hx)
 rw [List.append_nil] at ht
 refine ⟨c, r, (c :: r).length, ?_, (List.take_length).symm, fun hb => ?_, by simp, Nat.le_refl _⟩
 ·rw [tokP_D r hd, ht.1, ht.2, if_neg, if_pos]
  ·unfold numOk; rw [b1]; simpa using hlt
  ·rintro (⟨e1, e2⟩ | e1)
   ·have h0 := b4 (by rw [e2]; rfl)
    rw [h0] at he
    rw [show Lib.decDigits 0 = [48] by rw [Lib.decDigits]; rfl] at he
    rw [← he] at e1
    simp at e1
   ·cases e1
 ·unfold isB at hb
  rcases hb with rfl | rfl <;> exact absurd hd (by decide)
theorem OneW.num {T : List Tok} {E : Nat} {n : Int} {ts : List Tok} (h : OneW 2 (Lib.itoa n) ts) (hf : fitsN n) {p : Nat} (hs : Sub T p ts) : numQ T E p = .ok (n, p + 1) ∧ ts.length = 1 := by
 obtain ⟨a, rfl⟩ := h
 refine ⟨?_, rfl⟩
 unfold numQ
 rw [hs.head]
 show (if (2 : Int) = 2 then Except.ok ((readP (Lib.itoa n)).1.n, p + 1) else _) = _
 rw [if_pos rfl, readP_itoa hf]
 rfl
structure QSame (a b : QP) : Prop where
 from_ : a.from_ = b.from_
 size : a.size = b.size
 slide : a.slide = b.slide
 wher : exSame a.wher b.wher = true
 cols : exSames a.cols b.cols = true
 names : a.names = b.names
 group : a.group = b.group
 aggs : aggsSame a.aggs b.aggs
theorem qsame_full : ∀ {l m : List AggP}, aggsSame l m → l.any (fun a => fullB a.of) = m.any (fun a => fullB a.of)
 | [], [], _ => rfl
 | [], _ :: _, h => by cases h
 | _ :: _, [], h => by cases h
 | a :: l, b :: m, h => by rw [List.any_cons, List.any_cons, same_full h.1.2.2, qsame_full h.2]
theorem same_any {f : Ex → Bool} (H : ∀ a b, exSame a b = true → f a = f b) : ∀ (l m : List Ex), exSames l m = true → l.any f = m.any f
 | [], [], _ => rfl
 | [], _ :: _, h => by rw [exSames] at h; cases h
 | _ :: _, [], h => by rw [exSames] at h; cases h
 | a :: l, b :: m, h => by
  rw [exSames, Bool.and_eq_true] at h
  rw [List.any_cons, List.any_cons, H a b h.1, same_any H l m h.2]
theorem QSame.full {a b : QP} (h : QSame a b) : fullQ a = fullQ b := by
 unfold fullQ
 rw [same_any (fun x y hxy => same_full hxy) _ _ h.cols, same_full h.wher, qsame_full h.aggs]
structure QFits (q : QP) : Prop where
 cols : ∀ e ∈ q.cols, fitsE e
 wher : hasOp' q.wher = true → fitsE q.wher
 aggs : ∀ a ∈ q.aggs, a.what ≠ qCount → fitsE a.of
def WhereW (q : QP) (ts : List Tok) : Prop := if hasOp' q.wher = true then ∃ t u, ts = t ++ u ∧ OneW 1 qWhere t ∧ ExW q.wher u else ts = []
def SlideW (q : QP) (ts : List Tok) : Prop := if q.slide = q.size then ts = [] else ∃ t u, ts = t ++ u ∧ OneW 1 qSlide t ∧ OneW 2 (Lib.itoa q.slide) u
def GroupW (q : QP) (ts : List Tok) : Prop := if q.aggs = [] then ts = [] else ∃ t1 t2 t3 t4 t5 t6, ts = t1 ++ (t2 ++ (t3 ++ (t4 ++ (t5 ++ t6)))) ∧ OneW 1 qGroup t1 ∧ OneW 1 qBy t2 ∧ JoinW (fun s => OneW 1 s) q.group t3 ∧ OneW 1 qWindow t4 ∧ OneW 2 (Lib.itoa q.size) t5 ∧ SlideW q t6
def Tail (l : List UInt8) (P : List Tok → Prop) : Prop := ∀ (m : List UInt8) (Q : List Tok → Prop), Piece m Q → Piece (m ++ l) (fun ts => ∃ t u, ts = t ++ u ∧ Q t ∧ P u)
theorem Tail.none : Tail [] (fun ts => ts = []) := fun m Q h => by
 rw [List.append_nil]
 exact h.mono (fun ts ht => ⟨ts, [], (List.append_nil ts).symm, ht, rfl⟩)
theorem Tail.some {l : List UInt8} {P : List Tok → Prop} (h : Piece l P) : Tail (32 :: l) P := fun _ _ h2 => h2.blank h
theorem Piece.tail {l m : List UInt8} {P Q : List Tok → Prop} (h : Piece m Q) (h2 : Tail l P) : Piece (m ++ l) (fun ts => ∃ t u, ts = t ++ u ∧ Q t ∧ P u) := h2 m Q h
theorem Tail.both {l m : List UInt8} {P Q : List Tok → Prop} (h : Tail m Q) (h2 : Tail l P) : Tail (m ++ l) (fun ts => ∃ t u, ts = t ++ u ∧ Q t ∧ P u) := fun k R hk => by
 rw [← List.append_assoc]
 refine (h2 _ _ (h k R hk)).mono ?_
 rintro ts ⟨t, u, rfl, ⟨t2, u2, rfl, h3, h4⟩, h5⟩
 exact ⟨t2, u2 ++ u, by simp, h3, u2, u, rfl, h4, h5⟩
theorem Tail.mono {l : List UInt8} {P Q : List Tok → Prop} (h : Tail l P) (hPQ : ∀ ts, P ts → Q ts) : Tail l Q := fun m R hm => (h m R hm).mono (fun ts ⟨t, u, e, h1, h2⟩ => ⟨t, u, e, h1, hPQ u h2⟩)
theorem tail_where {q : QP} (hq : QOk q) (hf : QFits q) : Tail (whereT q) (WhereW q) := by
 unfold whereT WhereW
 by_cases h : hasOp' q.wher = true
 ·simp only [if_pos h]
  have hn : nodesErr q.wher = 0 := by
   rcases hq.wher with e | e
   ·rw [e] at h; exact absurd h (by decide)
   ·exact e
  exact Tail.some ((piece_one (fun a => kw_ok (s := qWhere) (by simp) a)).blank (piece_ex hn (hf.wher h)))
 ·simp only [if_neg h]
  exact Tail.none
theorem tail_slide {q : QP} (h0 : 0 ≤ q.slide) (hf : fitsN q.slide) : Tail (if q.slide = q.size then [] else 32 :: (qSlide ++ 32 :: Lib.itoa q.slide)) (SlideW q) := by
 unfold SlideW
 by_cases h : q.slide = q.size
 ·simp only [if_pos h]; exact Tail.none
 ·simp only [if_neg h]
  exact Tail.some ((piece_one (fun a => kw_ok (s := qSlide) (by simp) a)).blank (piece_one (fun a => tok_num h0 hf a)))
theorem tail_group {q : QP} (hq : QOk q) (hs : QShape q) : Tail (groupT q) (GroupW q) := by
 unfold groupT GroupW
 by_cases h : q.aggs = []
 ·simp only [if_pos h]; exact Tail.none
 ·simp only [if_neg h]
  rcases hs.way with ⟨e, -⟩ | ⟨-, -, -, hg, h1, h2, h3, h4⟩
  ·exact absurd e h
  refine Tail.some ?_
  have p6 := (piece_one (fun a => tok_num h1 h2 a)).tail (tail_slide h3 h4)
  have p4 := (piece_one (fun a => kw_ok (s := qWindow) (by simp) a)).blank p6
  have p3 := (piece_join (fun s => s) (fun s => OneW 1 s) q.group hg (fun s hs => piece_one (fun a => tok_name (hq.group s hs) a))).blank p4
  have p2 := (piece_one (fun a => kw_ok (s := qBy) (by simp) a)).blank p3
  have p1 := (piece_one (fun a => kw_ok (s := qGroup) (by simp) a)).blank p2
  rw [List.map_id'] at p1
  refine p1.mono ?_
  rintro ts ⟨t1, _, rfl, h1, t2, _, rfl, h2, t3, _, rfl, h3, t4, _, rfl, h4, t5, t6, rfl, h5, h6⟩
  exact ⟨t1, t2, t3, t4, t5, t6, rfl, h1, h2, h3, h4, h5, h6⟩
def ItemsW (q : QP) (ts : List Tok) : Prop := if q.aggs = [] then JoinW ItemW (q.cols.zip q.names) ts else JoinW AggW q.aggs ts
theorem piece_items {q : QP} (hq : QOk q) (hs : QShape q) (hf : QFits q) : Piece (Lib.join (qItems q) [44, 32]) (ItemsW q) := by
 unfold qItems ItemsW
 rcases hs.way with ⟨e, hc, -⟩ | ⟨e1, e2, ha, -⟩
 ·rw [e]
  simp only [if_pos, List.map_nil, List.append_nil]
  refine piece_join (fun x : Ex × List UInt8 => itemC x.1 x.2) ItemW _ ?_ ?_
  ·intro h
   have h2 := congrArg List.length h
   rw [List.length_zip, hq.len, Nat.min_self] at h2
   exact hc (List.eq_nil_of_length_eq_zero h2)
  ·intro x hx
   have h1 := (List.of_mem_zip hx).1
   have h2 := (List.of_mem_zip hx).2
   exact piece_item (hq.cols _ h1) (hf.cols _ h1) (hq.names _ h2)
 ·simp only [if_neg ha]
  rw [e1, e2]
  exact piece_join itemA AggW _ ha (fun a h => piece_agg (hq.aggs a h) (hf.aggs a h))
def QW (q : QP) (ts : List Tok) : Prop := ∃ t1 t2 t3 t4 t5 t6, ts = t1 ++ (t2 ++ (t3 ++ (t4 ++ (t5 ++ t6)))) ∧ OneW 1 qSelect t1 ∧ ItemsW q t2 ∧ OneW 1 qFrom t3 ∧ OneW 1 q.from_ t4 ∧ WhereW q t5 ∧ GroupW q t6
theorem piece_q {q : QP} (hq : QOk q) (hs : QShape q) (hf : QFits q) : Piece (qText q) (QW q) := by
 unfold qText
 have p4 := (piece_one (fun a => tok_name hs.fromN a)).tail ((tail_where hq hf).both (tail_group hq hs))
 have p3 := (piece_one (fun a => kw_ok (s := qFrom) (by simp) a)).blank p4
 have p2 := (piece_items hq hs hf).blank p3
 have p1 := (piece_one (fun a => kw_ok (s := qSelect) (by simp) a)).blank p2
 refine p1.mono ?_
 rintro ts ⟨t1, _, rfl, h1, t2, _, rfl, h2, t3, _, rfl, h3, t4, _, rfl, h4, t5, t6, rfl, h5, h6⟩
 exact ⟨t1, t2, t3, t4, t5, t6, rfl, h1, h2, h3, h4, h5, h6⟩
theorem count_join {α : Type} {W : α → List Tok → Prop} (hW : ∀ x ts, W x ts → 0 < ts.length) : ∀ {l : List α} {ts : List Tok}, JoinW W l ts → l.length ≤ ts.length
 | [], _, h => by cases h
 | [x], ts, h => hW x ts h
 | x :: y :: r, ts, h => by
  obtain ⟨t, c, u, rfl, -, -, h1, h2⟩ := h
  have := count_join hW h2
  have := hW x t h1
  simp at *
  omega
theorem QW.read {q : QP} {T : List Tok} {E : Nat} (h : QW q T) (hq : QOk q) (hs : QShape q) : ∃ r, readQ' T E (rdX T E) = .ok (r, T.length) ∧ QSame r q := by
 obtain ⟨t1, t2, t3, t4, t5, t6, hT, h1, h2, h3, h4, h5, h6⟩ := h
 have s1 : Sub T 0 t1 := by have := Sub.self T; rw [hT] at this ⊢; exact this.left
 have s2' : Sub T (0 + t1.length) (t2 ++ (t3 ++ (t4 ++ (t5 ++ t6)))) := by have := Sub.self T; rw [hT] at this ⊢; exact this.right
 obtain ⟨g1, l1⟩ := h1.is (Or.inr rfl) s1
 rw [l1, Nat.zero_add] at s2'
 have s2 := s2'.left
 have s3 := s2'.right.left
 have s4 := s2'.right.right.left
 have s5 := s2'.right.right.right.left
 have s6 := s2'.right.right.right.right
 obtain ⟨g3, l3⟩ := h3.is (Or.inr rfl) s3
 rw [l3] at s4 s5 s6
 obtain ⟨g4, l4⟩ := h4.name hs.fromN s4
 rw [l4] at s5 s6
 have hTl : T.length = 1 + t2.length + 1 + 1 + t5.length + t6.length := by rw [hT]; simp [l1, l3, l4]; omega
 have hcm : isT T (1 + t2.length) wComma = false := isT_one g3 (by decide)
 have hsel : needQ T E qSelect 0 = .ok 1 := need_of g1
 have hgr : (q.aggs = [] ∧ T.length = 1 + t2.length + 1 + 1 + t5.length) ∨ (q.aggs ≠ [] ∧ isT T (1 + t2.length + 1 + 1 + t5.length) qGroup = true) := by
  unfold GroupW at h6
  by_cases ha : q.aggs = []
  ·rw [if_pos ha] at h6
   rw [h6] at hTl
   exact Or.inl ⟨ha, by simpa using hTl⟩
  ·rw [if_neg ha] at h6
   obtain ⟨u1, u2, u3, u4, u5, u6, rfl, k1, -⟩ := h6
   exact Or.inr ⟨ha, (k1.is (Or.inr rfl) s6.left).1⟩
 have hsg : ∀ m, m < 5 → sgT T m (1 + t2.length + 1 + 1 + t5.length) = none := by
  rcases hgr with ⟨-, e⟩ | ⟨-, e⟩
  ·exact sg_end (by omega)
  ·exact sg_no e (kw_no (by simp))
 have hfrom : ∀ p : QP, p.wher = zeroX → ∃ x, exSame x q.wher = true ∧ fromQ T E (rdX T E) p (1 + t2.length) = .ok ({ p with from_ := q.from_, wher := x }, 1 + t2.length + 1 + 1 + t5.length) := by
  intro p hp
  unfold WhereW at h5
  unfold fromQ
  rw [need_of g3]
  show ∃ x, _ ∧ (nameQ T E (1 + t2.length + 1)).bind _ = _
  rw [name_of g4]
  by_cases hw : hasOp' q.wher = true
  ·rw [if_pos hw] at h5
   obtain ⟨u, v, rfl, k1, k2⟩ := h5
   obtain ⟨k3, k4⟩ := k1.is (Or.inr rfl) s5.left
   have s7 := s5.right
   rw [k4] at s7
   have e1 : 1 + t2.length + 1 + 1 + (u ++ v).length = 1 + t2.length + 1 + 1 + 1 + v.length := by simp [k4]; omega
   obtain ⟨x, k5, k6⟩ := k2.rdX (E := E) s7 (by rw [← e1]; exact hsg)
   refine ⟨x, k6, ?_⟩
   show (if isT T (1 + t2.length + 1 + 1) qWhere = true then _ else _) = _
   rw [if_pos k3]
   show (rdX T E (1 + t2.length + 1 + 1 + 1)).bind _ = _
   rw [k5, e1]
   rfl
  ·rw [if_neg hw] at h5
   subst h5
   have hz : q.wher = zeroX := by
    rcases hq.wher with e | e
    ·exact e
    ·exact absurd (op_some e) hw
   refine ⟨zeroX, by rw [hz]; decide, ?_⟩
   have hnw : isT T (1 + t2.length + 1 + 1) qWhere = false := by
    rcases hgr with ⟨-, e⟩ | ⟨-, e⟩
    ·exact isT_end (by rw [e]; simp) _
    ·exact isT_one (by simpa using e) (by decide)
   show (if isT T (1 + t2.length + 1 + 1) qWhere = true then _ else _) = _
   rw [hnw]
   show Except.ok (({ p with from_ := q.from_ } : QP), 1 + t2.length + 1 + 1) = _
   rw [← hp]
   simp
 have itemPos : ∀ x ts, ItemW x ts → 0 < ts.length := fun x ts ⟨t, u, e, h, _⟩ => by rw [e, List.length_append]; have := h.pos; omega
 have aggPos : ∀ x ts, AggW x ts → 0 < ts.length := fun x ts ⟨t, u, e, _, t3, u3, e3, ⟨a, h⟩, _⟩ => by rw [e, e3, h]; simp; omega
 have onePos : ∀ (x : List UInt8) ts, OneW 1 x ts → 0 < ts.length := fun x ts ⟨a, h⟩ => by rw [h]; simp
 unfold ItemsW at h2
 rcases hs.way with ⟨ha, hc, hg, hz1, hz2⟩ | ⟨hc1, hc2, ha, hg, n1, n2, n3, n4⟩
 ·rw [if_pos ha] at h2
  have hcount := count_join itemPos h2
  obtain ⟨xs, k1, k2, k3⟩ := cols_read (E := E) _ t2 zeroQ 1 (T.length + 1) h2 s2 (fun x hx => hq.names _ (List.of_mem_zip hx).2) (by omega) hcm
  obtain ⟨x, k4, k5⟩ := hfrom { zeroQ with cols := zeroQ.cols ++ xs, names := zeroQ.names ++ (q.cols.zip q.names).map (·.2) } rfl
  have hl : T.length = 1 + t2.length + 1 + 1 + t5.length := by
   rcases hgr with ⟨-, e⟩ | ⟨e, -⟩
   ·exact e
   ·exact absurd ha e
  refine ⟨{ zeroQ with from_ := q.from_, wher := x, cols := zeroQ.cols ++ xs, names := zeroQ.names ++ (q.cols.zip q.names).map (·.2) }, ?_, ?_⟩
  ·unfold readQ'
   rw [hsel]
   show (itemsQ T E (rdX T E) zeroQ 1).bind _ = _
   unfold itemsQ
   rw [k3]
   show (colsQ T E (rdX T E) (T.length + 1) zeroQ 1).bind _ = _
   rw [k2]
   show (fromQ T E (rdX T E) _ (1 + t2.length)).bind _ = _
   rw [k5]
   rw [hl]
   rfl
  ·have z1 : (q.cols.zip q.names).map (·.1) = q.cols := List.map_fst_zip (by rw [hq.len]; exact Nat.le_refl _)
   have z2 : (q.cols.zip q.names).map (·.2) = q.names := List.map_snd_zip (by rw [hq.len]; exact Nat.le_refl _)
   rw [z1] at k1
   exact ⟨rfl, hz1.symm, hz2.symm, k4, by simpa [zeroQ] using k1, by simp [zeroQ, z2], hg.symm, by rw [ha]; trivial⟩
 ·rw [if_neg ha] at h2
  have hcount := count_join aggPos h2
  obtain ⟨xs, k1, k2, k3⟩ := aggs_read (E := E) _ t2 zeroQ 1 (T.length + 1) h2 s2 hq.aggs (by omega) hcm
  obtain ⟨x, k4, k5⟩ := hfrom { zeroQ with aggs := zeroQ.aggs ++ xs } rfl
  unfold GroupW at h6
  rw [if_neg ha] at h6
  obtain ⟨u1, u2, u3, u4, u5, u6, rfl, w1, w2, w3, w4, w5, w6⟩ := h6
  have v1 := s6.left
  have v2 := s6.right.left
  have v3 := s6.right.right.left
  have v4 := s6.right.right.right.left
  have v5 := s6.right.right.right.right.left
  have v6 := s6.right.right.right.right.right
  obtain ⟨y1, m1⟩ := w1.is (Or.inr rfl) v1
  rw [m1] at v2 v3 v4 v5 v6
  obtain ⟨y2, m2⟩ := w2.is (Or.inr rfl) v2
  rw [m2] at v3 v4 v5 v6
  obtain ⟨y4, m4⟩ := w4.is (Or.inr rfl) v4
  rw [m4] at v5 v6
  obtain ⟨y5, m5⟩ := w5.num (E := E) n2 v5
  rw [m5] at v6
  have hcount3 := count_join onePos w3
  have hTl2 : T.length = 1 + t2.length + 1 + 1 + t5.length + (1 + (1 + (u3.length + (1 + (1 + u6.length))))) := by rw [hTl]; simp [m1, m2, m4, m5]
  have y3 := grp_read (E := E) q.group u3 { zeroQ with aggs := zeroQ.aggs ++ xs, from_ := q.from_, wher := x } _ (T.length + 1) w3 v3 hq.group (by omega) (isT_one y4 (by decide))
  have hwin : winQ T E { zeroQ with aggs := zeroQ.aggs ++ xs, from_ := q.from_, wher := x, group := zeroQ.group ++ q.group } (1 + t2.length + 1 + 1 + t5.length + 1 + 1 + u3.length) = .ok ({ zeroQ with aggs := zeroQ.aggs ++ xs, from_ := q.from_, wher := x, group := zeroQ.group ++ q.group, size := q.size, slide := q.slide }, T.length) := by
   unfold winQ
   rw [need_of y4]
   show (numQ T E (1 + t2.length + 1 + 1 + t5.length + 1 + 1 + u3.length + 1)).bind _ = _
   rw [y5]
   show (if isT T (1 + t2.length + 1 + 1 + t5.length + 1 + 1 + u3.length + 1 + 1) qSlide = true then _ else _) = _
   unfold SlideW at w6
   by_cases hsl : q.slide = q.size
   ·rw [if_pos hsl] at w6
    rw [w6] at hTl2
    rw [isT_end (by rw [hTl2]; simp; omega)]
    show Except.ok _ = _
    rw [hsl, hTl2]
    simp
    omega
   ·rw [if_neg hsl] at w6
    obtain ⟨a1, a2, rfl, b1, b2⟩ := w6
    obtain ⟨c1, c2⟩ := b1.is (Or.inr rfl) v6.left
    have v7 := v6.right
    rw [c2] at v7
    obtain ⟨c3, c4⟩ := b2.num (E := E) n4 v7
    rw [if_pos c1]
    show (numQ T E (1 + t2.length + 1 + 1 + t5.length + 1 + 1 + u3.length + 1 + 1 + 1)).bind _ = _
    rw [c3, hTl2]
    show Except.ok _ = _
    simp [c2, c4]
    omega
  refine ⟨{ zeroQ with aggs := zeroQ.aggs ++ xs, from_ := q.from_, wher := x, group := zeroQ.group ++ q.group, size := q.size, slide := q.slide }, ?_, ?_⟩
  ·unfold readQ'
   rw [hsel]
   show (itemsQ T E (rdX T E) zeroQ 1).bind _ = _
   unfold itemsQ
   rw [if_pos k3, k2]
   show (fromQ T E (rdX T E) _ (1 + t2.length)).bind _ = _
   rw [k5]
   show (if isAg T 1 = true then _ else _) = _
   rw [if_pos k3]
   unfold groupQ
   rw [need_of y1]
   show (needQ T E qBy (1 + t2.length + 1 + 1 + t5.length + 1)).bind _ = _
   rw [need_of y2]
   show (grpQ T E (T.length + 1) _ (1 + t2.length + 1 + 1 + t5.length + 1 + 1)).bind _ = _
   rw [y3]
   exact hwin
  ·exact ⟨rfl, rfl, rfl, k4, by rw [hc1]; rfl, by rw [hc2]; rfl, by simp [zeroQ], by simpa [zeroQ] using k1⟩
theorem qry_back {s : List UInt8} {q : QP} (h : QryIs s (.ok q)) (hf : QFits q) (hl : s.length ≤ 100) : ∃ r, QryIs (qText q) (.ok r) ∧ QSame r q := by
 obtain ⟨h1, h2, h3, h4⟩ := parse_len h
 obtain ⟨ts, g1, g2⟩ := piece_q h2 h1 hf [] 0 (fun x hx => by cases hx)
 rw [List.append_nil, lexP_nil] at g1
 have hlex : lexS (qText q) = .ok ts := by
  unfold lexS
  rw [if_neg (by omega), g1]
  show LexR.ok _ = _
  rw [List.append_nil]
 obtain ⟨r, g3, g4⟩ := g2.read (E := (qText q).length) h2 h1
 refine ⟨r, Or.inr ⟨ts, _, hlex, oracle_x _ _, Or.inr ⟨r, _, g3, Or.inr ⟨Nat.le_refl _, Or.inr ⟨?_, rfl⟩⟩⟩⟩, g4⟩
 rw [g4.full]
 exact h3
end Go.Proofs.YtpbbkpfaphjdoaaGreatDoor
