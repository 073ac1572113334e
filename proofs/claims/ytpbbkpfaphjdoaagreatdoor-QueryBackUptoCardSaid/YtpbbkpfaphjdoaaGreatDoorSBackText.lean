/- The text of a right expression is read again, plain. -/
import Derived.Test.YtpbbkpfaphjdoaaGreatDoorSRefRead
import Derived.Test.YtpbbkpfaphjdoaaGreatDoorSRefText
import Derived.Test.YtpbbkpfaphjdoaaGreatDoorSSameEx
namespace Go.Proofs.YtpbbkpfaphjdoaaGreatDoor
def Sub (T : List Tok) (p : Nat) (ts : List Tok) : Prop := ∀ q, q < ts.length → T[p + q]? = ts[q]?
section
variable {T ts us : List Tok} {p : Nat}
theorem Sub.left (h : Sub T p (ts ++ us)) : Sub T p ts := fun q hq => by rw [h q (by simp; omega), List.getElem?_append_left hq]
theorem Sub.right (h : Sub T p (ts ++ us)) : Sub T (p + ts.length) us := fun q hq => by
 rw [Nat.add_assoc, h _ (by simp; omega), List.getElem?_append_right (by omega), Nat.add_sub_cancel_left]
theorem Sub.head {t : Tok} (h : Sub T p (t :: us)) : T[p]? = some t := h 0 (by simp)
theorem Sub.tail {t : Tok} (h : Sub T p (t :: us)) : Sub T (p + 1) us := Sub.right (ts := [t]) h
theorem Sub.isT (h : Sub T p ts) (h0 : 0 < ts.length) (s : List UInt8) : isT T p s = isT ts 0 s := by unfold Go.Proofs.YtpbbkpfaphjdoaaGreatDoor.isT; rw [show T[p]? = ts[0]? from h 0 h0]
theorem Sub.valT (h : Sub T p ts) (h0 : 0 < ts.length) : valT T p = valT ts 0 := by unfold Go.Proofs.YtpbbkpfaphjdoaaGreatDoor.valT; rw [show T[p]? = ts[0]? from h 0 h0]
theorem Sub.nameT (h : Sub T p ts) (h0 : 0 < ts.length) : nameT T p = nameT ts 0 := by unfold Go.Proofs.YtpbbkpfaphjdoaaGreatDoor.nameT; rw [show T[p]? = ts[0]? from h 0 h0]
theorem Sub.self (T : List Tok) : Sub T 0 T := fun q _ => by rw [Nat.zero_add]
end
theorem isT_of {T : List Tok} {p : Nat} {t : Tok} {s : List UInt8} (h : T[p]? = some t) (hk : t.kind = 4 ∨ t.kind = 1) (hs : t.text = s) : isT T p s = true := by
 unfold isT
 rw [h]
 rcases hk with hk | hk <;> simp [hk, hs]
structure AgainAt (e : Ex) (rest : List UInt8) (a : Nat) (ts : List Tok) : Prop where
 lex : lexP (exText e ++ rest) a = (lexP rest (a + (exText e).length)).pre ts
 pos : 0 < ts.length
 first : isT ts 0 wMinus = false ∧ isT ts 0 wNot = false
 read : ∀ (T : List Tok) (E p : Nat), Sub T p ts → ∃ x, Rd T E .pr p (.ok (x, p + ts.length)) ∧ exSame x e = true
def Again (e : Ex) : Prop := ∀ (rest : List UInt8) (a : Nat), (∀ x, rest.head? = some x → stopB x) → ∃ ts, AgainAt e rest a ts
theorem again_leaf {e : Ex} {t : Tok} {rest : List UInt8} {a : Nat} (ht : exText e = t.text) (ha : t.at_ = a) (hk : TokOk t) (hr : ∀ x, rest.head? = some x → stopB x) (h1 : isT [t] 0 wMinus = false) (h2 : isT [t] 0 wNot = false)
  (h : ∀ (T : List Tok) (E i : Nat), (∀ s, isT T i s = isT [t] 0 s) → valT T i = valT [t] 0 → nameT T i = nameT [t] 0 → ∃ x, Rd T E .pr i (.ok (x, i + 1)) ∧ exSame x e = true) : AgainAt e rest a [t] := by
 refine ⟨?_, by simp, ⟨h1, h2⟩, fun T E p hs => h T E p (hs.isT (by simp)) (hs.valT (by simp)) (hs.nameT (by simp))⟩
 rw [ht, hk.lex_stop rest hr a]
 obtain ⟨k, tx, at_⟩ := t
 have ha : at_ = a := ha
 rw [ha]
theorem letter_L {b : UInt8} (h : letterB b = true) : isL b = true := by
 unfold letterB at h
 unfold isL
 simpa using h
theorem name_parts {s : List UInt8} (h : treeName (mkB s) = true) : (∃ c r, s = c :: r ∧ isL c = true) ∧ s.all isLD = true ∧ ∀ u ∈ wordsL, s ≠ u := by
 unfold treeName nameOk at h
 simp only [Bool.and_eq_true, Bool.not_eq_true', decide_eq_true_eq] at h
 obtain ⟨⟨h1, h2, -⟩, h3⟩ := h
 have h1 : s.all letterB = true := h1
 have h2 : s.isEmpty = false := h2
 refine ⟨?_, ?_, fun u hu e => ?_⟩
 ·cases s with
  | nil => cases h2
  | cons c r => exact ⟨c, r, rfl, letter_L (by simp only [List.all_cons, Bool.and_eq_true] at h1; exact h1.1)⟩
 ·rw [List.all_eq_true] at h1 ⊢
  intro b hb
  unfold isLD
  rw [letter_L (h1 b hb)]; rfl
 ·subst e
  have : Lib.containsS wordsB (mkB s) = true := (Lib.containsS_iff _ _).2 (List.mem_map_of_mem hu)
  rw [this] at h3
  cases h3
theorem tok_name {s : List UInt8} (h : treeName (mkB s) = true) (a : Nat) : TokOk ⟨1, s, a⟩ := by
 obtain ⟨⟨c, r, rfl, hc⟩, hall, -⟩ := name_parts h
 have ht : (c :: r).takeWhile isLD = c :: r := by
  have := (tw_app (p := isLD) (c :: r) [] hall (fun x hx => by cases hx)).1
  rwa [List.append_nil] at this
 refine ⟨c, r, (c :: r).length, ?_, (List.take_length).symm, ?_, by simp, Nat.le_refl _⟩
 ·rw [tokP_L r hc, ht]
 ·intro hb
  unfold isB at hb
  rcases hb with rfl | rfl
  ·exact absurd hc (by decide)
  ·exact absurd hc (by decide)
theorem name_no {s : List UInt8} (hn : treeName (mkB s) = true) (a : Nat) : (∀ u, u ∈ wordsL → isT [⟨1, s, a⟩] 0 u = false) ∧ ∀ c : UInt8, isL c = false → isT [⟨1, s, a⟩] 0 [c] = false := by
 obtain ⟨⟨b, r, hb, hl⟩, -, hw⟩ := name_parts hn
 refine ⟨fun u hu => ?_, fun c hc => ?_⟩
 ·cases hx : isT [⟨1, s, a⟩] 0 u with
  | false => rfl
  | true => exact absurd ((isT_text hx)) (hw u hu)
 ·cases hx : isT [⟨1, s, a⟩] 0 [c] with
  | false => rfl
  | true =>
   have e : s = [c] := isT_text hx
   rw [hb] at e
   injection e with e _
   rw [e, hc] at hl
   cases hl
theorem again_col {e : Ex} (hc : isCol e.op) (h0 : e.args = []) (hn : treeName e.name = true) (hv : e.val = noVal) : Again e := by
 intro rest a hr
 obtain ⟨op, name, v, A, c, args, pos⟩ := e
 have hn : treeName (mkB name.data.toList) = true := hn
 have h0 : args = [] := h0
 have hv : v = noVal := hv
 subst h0 hv
 obtain ⟨-, -, hw⟩ := name_parts hn
 obtain ⟨no, no1⟩ := name_no hn a
 refine ⟨_, again_leaf (t := ⟨1, name.data.toList, a⟩) ?_ rfl (tok_name hn a) hr (no1 45 (by decide)) (no _ (by decide)) (fun T E i h1 h2 h3 => ⟨_, .prCol (by rw [h1]; exact no1 40 (by decide)) (by rw [h1]; exact no _ (by decide)) (by rw [h1]; exact no _ (by decide)) ?_ (by rw [h3]; unfold nameT; exact if_pos ⟨rfl, hn⟩), ?_⟩)⟩
 ·rw [exText]; exact nodeText_col hc
 ·rw [h2]
  unfold valT
  refine if_neg ?_
  rintro (h | h | ⟨-, h | h⟩)
  ·exact absurd (show (1 : Int) = 2 from h) (by decide)
  ·exact absurd (show (1 : Int) = 3 from h) (by decide)
  ·exact hw tTrue (by decide) h
  ·exact hw tFalse (by decide) h
 ·unfold colEx
  rw [exSame_eq]
  simp [mkB, Ex.op, Ex.name, Ex.val, Ex.args, exSames, noVal]
  exact hc.symm
def opKind (s : List UInt8) : Int := if s.head?.any isL then 1 else 4
theorem opKind_or (s : List UInt8) : opKind s = 4 ∨ opKind s = 1 := by
 unfold opKind
 split
 ·exact Or.inr rfl
 ·exact Or.inl rfl
theorem tok_sign {n : Nat} (hn : n < 5) {s : List UInt8} (h : s ∈ lvlL n) (a : Nat) : TokOk ⟨opKind s, s, a⟩ := by
 have key : (List.range 5).all (fun n => (lvlL n).all fun s => match s with
  | [] => false
  | c :: r => decide (tokP (c :: r) = ((c :: r).length, opKind (c :: r), 0)) && (c != 32 && c != 10)) = true := by decide
 have k1 := List.all_eq_true.1 (List.all_eq_true.1 key n (List.mem_range.2 hn)) s h
 match s, k1 with
 | c :: r, k1 =>
  simp only [Bool.and_eq_true, decide_eq_true_eq, bne_iff_ne, ne_eq] at k1
  exact ⟨c, r, (c :: r).length, k1.1, (List.take_length).symm, fun hb => by rcases hb with h | h; exact k1.2.1 h; exact k1.2.2 h, by simp, Nat.le_refl _⟩
theorem stop_of {c : UInt8} {r : List UInt8} (h : stopB c) : ∀ x, (c :: r).head? = some x → stopB x := fun x hx => by injection hx with hx; subst hx; exact h
theorem st32 {r : List UInt8} : ∀ x, (32 :: r).head? = some x → stopB x := stop_of (Or.inl rfl)
theorem st41 {r : List UInt8} : ∀ x, (41 :: r).head? = some x → stopB x := stop_of (Or.inr (Or.inl rfl))
theorem st44 {r : List UInt8} : ∀ x, (44 :: r).head? = some x → stopB x := stop_of (Or.inr (Or.inr rfl))
theorem same_op {op name : ByteArray} {A : Option Addr} {c : Nat} {pos : Int} {l m : List Ex} {s : List UInt8} {at_ : Nat} (hs : op.data.toList = s) (h0 : name.data.toList = []) (h : exSames m l = true) : exSame (opEx s m at_) (.mk op name noVal A c l pos) = true := by
 unfold opEx
 rw [exSame_eq]
 simp [mkB, Ex.op, Ex.name, Ex.val, Ex.args, noVal, h, hs, h0]
theorem again_two {op name : ByteArray} {A : Option Addr} {c : Nat} {pos : Int} {x y : Ex} {n : Nat} (hn : n < 5) (hl : op.data.toList ∈ lvlL n) (ht : exText (.mk op name noVal A c [x, y] pos) = [40] ++ exText x ++ [32] ++ op.data.toList ++ [32] ++ exText y ++ [41]) (h0 : name.data.toList = [])
  (ihx : Again x) (ihy : Again y) : Again (.mk op name noVal A c [x, y] pos) := by
 intro rest a hr
 generalize hs : op.data.toList = s at hl ht
 obtain ⟨ty, hy⟩ := ihy (41 :: rest) (a + 1 + (exText x).length + 1 + s.length + 1) st41
 obtain ⟨tx, hx⟩ := ihx (32 :: (s ++ (32 :: (exText y ++ (41 :: rest))))) (a + 1) st32
 have htok := tok_sign hn hl (a + 1 + (exText x).length + 1)
 have hex : exText (.mk op name noVal A c [x, y] pos) ++ rest = 40 :: (exText x ++ (32 :: (s ++ (32 :: (exText y ++ (41 :: rest)))))) := by rw [ht]; simp
 refine ⟨⟨4, [40], a⟩ :: (tx ++ ⟨opKind s, s, a + 1 + (exText x).length + 1⟩ :: (ty ++ [⟨4, [41], a + 1 + (exText x).length + 1 + s.length + 1 + (exText y).length⟩])), ?_, by simp, ⟨rfl, rfl⟩, fun T E p hT => ?_⟩
 ·have hlen : (exText (.mk op name noVal A c [x, y] pos)).length = 1 + (exText x).length + 1 + s.length + 1 + (exText y).length + 1 := by rw [ht]; simp; omega
  have h2 : lexP (s ++ (32 :: (exText y ++ (41 :: rest)))) (a + 1 + (exText x).length + 1) = (lexP (32 :: (exText y ++ (41 :: rest))) (a + 1 + (exText x).length + 1 + s.length)).pre [⟨opKind s, s, a + 1 + (exText x).length + 1⟩] := htok.lex_stop (32 :: (exText y ++ (41 :: rest))) st32 (a + 1 + (exText x).length + 1)
  rw [hex, lex_open, hx.lex, lexP_blank (Or.inl rfl), h2, lexP_blank (Or.inl rfl), hy.lex, lex_close, hlen]
  simp only [LexR.pre_pre]
  rw [show a + (1 + (exText x).length + 1 + s.length + 1 + (exText y).length + 1) = a + 1 + (exText x).length + 1 + s.length + 1 + (exText y).length + 1 by omega]
  congr 1
 ·have k0 := hT.head
  have k1 := hT.tail.left
  have k2 := hT.tail.right.head
  have k3 := hT.tail.right.tail.left
  have k4 := hT.tail.right.tail.right.head
  obtain ⟨x', hx', hxs⟩ := hx.read T E _ k1
  obtain ⟨y', hy', hys⟩ := hy.read T E _ k3
  refine ⟨opEx s [x', y'] (atT T E (p + 1 + tx.length)), ?_, same_op hs h0 (by simp [exSames, hxs, hys])⟩
  rw [show p + (⟨4, [40], a⟩ :: (tx ++ ⟨opKind s, s, a + 1 + (exText x).length + 1⟩ :: (ty ++ [⟨4, [41], a + 1 + (exText x).length + 1 + s.length + 1 + (exText y).length⟩])) : List Tok).length = p + 1 + tx.length + 1 + ty.length + 1 by simp; omega]
  exact read_two (isT_of k0 (Or.inl rfl) rfl) hx' (by rw [k1.isT hx.pos]; exact hx.first.1) (by rw [k1.isT hx.pos]; exact hx.first.2) (isT_of k2 (opKind_or s) rfl) hl hn hy' (by rw [k3.isT hy.pos]; exact hy.first.1) (by rw [k3.isT hy.pos]; exact hy.first.2) (isT_of k4 (Or.inl rfl) rfl)
theorem tok_word {s : List UInt8} {k : Int} (h : (match s with
  | [] => false
  | c :: r => decide (tokP (c :: r) = ((c :: r).length, k, 0)) && (c != 32 && c != 10)) = true) (a : Nat) : TokOk ⟨k, s, a⟩ := by
 match s, h with
 | c :: r, k1 =>
  simp only [Bool.and_eq_true, decide_eq_true_eq, bne_iff_ne, ne_eq] at k1
  exact ⟨c, r, (c :: r).length, k1.1, (List.take_length).symm, fun hb => by rcases hb with h | h; exact k1.2.1 h; exact k1.2.2 h, by simp, Nat.le_refl _⟩
theorem again_not {op name : ByteArray} {A : Option Addr} {c : Nat} {pos : Int} {x : Ex} (hs : op.data.toList = wNot) (ht : exText (.mk op name noVal A c [x] pos) = [40, 110, 111, 116, 32] ++ exText x ++ [41]) (h0 : name.data.toList = [])
  (ihx : Again x) : Again (.mk op name noVal A c [x] pos) := by
 intro rest a hr
 obtain ⟨tx, hx⟩ := ihx (41 :: rest) (a + 1 + 3 + 1) st41
 have htok : TokOk ⟨1, wNot, a + 1⟩ := tok_word (by decide) _
 have hex : exText (.mk op name noVal A c [x] pos) ++ rest = 40 :: (wNot ++ (32 :: (exText x ++ (41 :: rest)))) := by rw [ht]; simp [wNot]
 refine ⟨⟨4, [40], a⟩ :: ⟨1, wNot, a + 1⟩ :: (tx ++ [⟨4, [41], a + 1 + 3 + 1 + (exText x).length⟩]), ?_, by simp, ⟨rfl, rfl⟩, fun T E p hT => ?_⟩
 ·have hlen : (exText (.mk op name noVal A c [x] pos)).length = 1 + 3 + 1 + (exText x).length + 1 := by rw [ht]; simp; omega
  have h2 : lexP (wNot ++ (32 :: (exText x ++ (41 :: rest)))) (a + 1) = (lexP (32 :: (exText x ++ (41 :: rest))) (a + 1 + 3)).pre [⟨1, wNot, a + 1⟩] := htok.lex_stop _ st32 (a + 1)
  rw [hex, lex_open, h2, lexP_blank (Or.inl rfl), hx.lex, lex_close, hlen]
  simp only [LexR.pre_pre]
  rw [show a + (1 + 3 + 1 + (exText x).length + 1) = a + 1 + 3 + 1 + (exText x).length + 1 by omega]
  congr 1
 ·have k0 := hT.head
  have k1 := hT.tail.head
  have k2 := hT.tail.tail.left
  have k3 := hT.tail.tail.right.head
  obtain ⟨x', hx', hxs⟩ := hx.read T E _ k2
  refine ⟨opEx wNot [x'] (atT T E (p + 1)), ?_, same_op hs h0 (by simp [exSames, hxs])⟩
  rw [show p + (⟨4, [40], a⟩ :: ⟨1, wNot, a + 1⟩ :: (tx ++ [⟨4, [41], a + 1 + 3 + 1 + (exText x).length⟩]) : List Tok).length = p + 1 + 1 + tx.length + 1 by simp; omega]
  exact read_not (isT_of k0 (Or.inl rfl) rfl) (isT_of k1 (Or.inr rfl) rfl) hx' (by rw [k2.isT hx.pos]; exact hx.first.1) (by rw [k2.isT hx.pos]; exact hx.first.2) (isT_of k3 (Or.inl rfl) rfl)
theorem again_neg {op name : ByteArray} {A : Option Addr} {c : Nat} {pos : Int} {x : Ex} (hs : op.data.toList = wNeg) (ht : exText (.mk op name noVal A c [x] pos) = [40, 45, 32] ++ exText x ++ [41]) (h0 : name.data.toList = [])
  (ihx : Again x) : Again (.mk op name noVal A c [x] pos) := by
 intro rest a hr
 obtain ⟨tx, hx⟩ := ihx (41 :: rest) (a + 1 + 1 + 1) st41
 have htok : TokOk ⟨4, wMinus, a + 1⟩ := tok_word (by decide) _
 have hex : exText (.mk op name noVal A c [x] pos) ++ rest = 40 :: (wMinus ++ (32 :: (exText x ++ (41 :: rest)))) := by rw [ht]; simp [wMinus]
 refine ⟨⟨4, [40], a⟩ :: ⟨4, wMinus, a + 1⟩ :: (tx ++ [⟨4, [41], a + 1 + 1 + 1 + (exText x).length⟩]), ?_, by simp, ⟨rfl, rfl⟩, fun T E p hT => ?_⟩
 ·have hlen : (exText (.mk op name noVal A c [x] pos)).length = 1 + 1 + 1 + (exText x).length + 1 := by rw [ht]; simp; omega
  have h2 : lexP (wMinus ++ (32 :: (exText x ++ (41 :: rest)))) (a + 1) = (lexP (32 :: (exText x ++ (41 :: rest))) (a + 1 + 1)).pre [⟨4, wMinus, a + 1⟩] := htok.lex_stop _ st32 (a + 1)
  rw [hex, lex_open, h2, lexP_blank (Or.inl rfl), hx.lex, lex_close, hlen]
  simp only [LexR.pre_pre]
  rw [show a + (1 + 1 + 1 + (exText x).length + 1) = a + 1 + 1 + 1 + (exText x).length + 1 by omega]
  congr 1
 ·have k0 := hT.head
  have k1 := hT.tail.head
  have k2 := hT.tail.tail.left
  have k3 := hT.tail.tail.right.head
  obtain ⟨x', hx', hxs⟩ := hx.read T E _ k2
  refine ⟨opEx wNeg [x'] (atT T E (p + 1)), ?_, same_op hs h0 (by simp [exSames, hxs])⟩
  rw [show p + (⟨4, [40], a⟩ :: ⟨4, wMinus, a + 1⟩ :: (tx ++ [⟨4, [41], a + 1 + 1 + 1 + (exText x).length⟩]) : List Tok).length = p + 1 + 1 + tx.length + 1 by simp; omega]
  exact read_neg (isT_of k0 (Or.inl rfl) rfl) (isT_of k1 (Or.inl rfl) rfl) hx' (by rw [k2.isT hx.pos]; exact hx.first.1) (isT_of k3 (Or.inl rfl) rfl)
theorem again_len {op name : ByteArray} {A : Option Addr} {c : Nat} {pos : Int} {x : Ex} (hs : op.data.toList = wLen) (ht : exText (.mk op name noVal A c [x] pos) = [108, 101, 110] ++ [40] ++ exText x ++ [41]) (h0 : name.data.toList = [])
  (ihx : Again x) : Again (.mk op name noVal A c [x] pos) := by
 intro rest a hr
 obtain ⟨tx, hx⟩ := ihx (41 :: rest) (a + 3 + 1) st41
 have hex : exText (.mk op name noVal A c [x] pos) ++ rest = 108 :: ([101, 110] ++ (40 :: (exText x ++ (41 :: rest)))) := by rw [ht]; simp
 have h2 : lexP (108 :: ([101, 110] ++ (40 :: (exText x ++ (41 :: rest))))) a = (lexP (40 :: (exText x ++ (41 :: rest))) (a + 3)).pre [⟨1, wLen, a⟩] := by
  have hk : tokP (108 :: ([101, 110] ++ (40 :: (exText x ++ (41 :: rest))))) = (3, 1, 0) := by
   rw [tokP_L _ (by decide)]
   have := (tw_app (p := isLD) [108, 101, 110] (40 :: (exText x ++ (41 :: rest))) (by decide) (fun y hy => by injection hy with hy; subst hy; decide)).1
   rw [show (108 : UInt8) :: ([101, 110] ++ (40 :: (exText x ++ (41 :: rest)))) = [108, 101, 110] ++ (40 :: (exText x ++ (41 :: rest))) from rfl, this]
   rfl
  rw [lexP_tok (by decide) hk]
  rfl
 refine ⟨⟨1, wLen, a⟩ :: ⟨4, [40], a + 3⟩ :: (tx ++ [⟨4, [41], a + 3 + 1 + (exText x).length⟩]), ?_, by simp, ⟨rfl, rfl⟩, fun T E p hT => ?_⟩
 ·have hlen : (exText (.mk op name noVal A c [x] pos)).length = 3 + 1 + (exText x).length + 1 := by rw [ht]; simp; omega
  rw [hex, h2, lex_open, hx.lex, lex_close, hlen]
  simp only [LexR.pre_pre]
  rw [show a + (3 + 1 + (exText x).length + 1) = a + 3 + 1 + (exText x).length + 1 by omega]
  congr 1
 ·have k0 := hT.head
  have k1 := hT.tail.head
  have k2 := hT.tail.tail.left
  have k3 := hT.tail.tail.right.head
  obtain ⟨x', hx', hxs⟩ := hx.read T E _ k2
  refine ⟨opEx wLen [x'] (atT T E p), ?_, same_op hs h0 (by simp [exSames, hxs])⟩
  rw [show p + (⟨1, wLen, a⟩ :: ⟨4, [40], a + 3⟩ :: (tx ++ [⟨4, [41], a + 3 + 1 + (exText x).length⟩]) : List Tok).length = p + 1 + 1 + tx.length + 1 by simp; omega]
  exact read_len (isT_of k0 (Or.inr rfl) rfl) (isT_of k1 (Or.inl rfl) rfl) hx' (by rw [k2.isT hx.pos]; exact hx.first.1) (by rw [k2.isT hx.pos]; exact hx.first.2) (isT_of k3 (Or.inl rfl) rfl)
theorem again_if {op name : ByteArray} {A : Option Addr} {c : Nat} {pos : Int} {x y z : Ex} (hs : op.data.toList = wIf) (ht : exText (.mk op name noVal A c [x, y, z] pos) = [105, 102] ++ [40] ++ (exText x ++ [44, 32] ++ exText y ++ [44, 32] ++ exText z) ++ [41]) (h0 : name.data.toList = [])
  (ihx : Again x) (ihy : Again y) (ihz : Again z) : Again (.mk op name noVal A c [x, y, z] pos) := by
 intro rest a hr
 obtain ⟨tz, hz⟩ := ihz (41 :: rest) (a + 2 + 1 + (exText x).length + 1 + 1 + (exText y).length + 1 + 1) st41
 obtain ⟨ty, hy⟩ := ihy (44 :: 32 :: (exText z ++ (41 :: rest))) (a + 2 + 1 + (exText x).length + 1 + 1) st44
 obtain ⟨tx, hx⟩ := ihx (44 :: 32 :: (exText y ++ (44 :: 32 :: (exText z ++ (41 :: rest))))) (a + 2 + 1) st44
 have hex : exText (.mk op name noVal A c [x, y, z] pos) ++ rest = 105 :: ([102] ++ (40 :: (exText x ++ (44 :: 32 :: (exText y ++ (44 :: 32 :: (exText z ++ (41 :: rest)))))))) := by rw [ht]; simp
 have h2 : ∀ e : List UInt8, lexP (105 :: ([102] ++ (40 :: e))) a = (lexP (40 :: e) (a + 2)).pre [⟨1, wIf, a⟩] := fun e => by
  have hk : tokP (105 :: ([102] ++ (40 :: e))) = (2, 1, 0) := by
   rw [tokP_L _ (by decide)]
   have := (tw_app (p := isLD) [105, 102] (40 :: e) (by decide) (fun y hy => by injection hy with hy; subst hy; decide)).1
   rw [show (105 : UInt8) :: ([102] ++ (40 :: e)) = [105, 102] ++ (40 :: e) from rfl, this]
   rfl
  rw [lexP_tok (by decide) hk]
  rfl
 refine ⟨⟨1, wIf, a⟩ :: ⟨4, [40], a + 2⟩ :: (tx ++ ⟨4, [44], a + 2 + 1 + (exText x).length⟩ :: (ty ++ ⟨4, [44], a + 2 + 1 + (exText x).length + 1 + 1 + (exText y).length⟩ :: (tz ++ [⟨4, [41], a + 2 + 1 + (exText x).length + 1 + 1 + (exText y).length + 1 + 1 + (exText z).length⟩]))), ?_, by simp, ⟨rfl, rfl⟩, fun T E p hT => ?_⟩
 ·have hlen : (exText (.mk op name noVal A c [x, y, z] pos)).length = 2 + 1 + (exText x).length + 1 + 1 + (exText y).length + 1 + 1 + (exText z).length + 1 := by rw [ht]; simp; omega
  rw [hex, h2, lex_open, hx.lex, lex_comma, lexP_blank (Or.inl rfl), hy.lex, lex_comma, lexP_blank (Or.inl rfl), hz.lex, lex_close, hlen]
  simp only [LexR.pre_pre]
  rw [show a + (2 + 1 + (exText x).length + 1 + 1 + (exText y).length + 1 + 1 + (exText z).length + 1) = a + 2 + 1 + (exText x).length + 1 + 1 + (exText y).length + 1 + 1 + (exText z).length + 1 by omega]
  congr 1
 ·have k0 := hT.head
  have k1 := hT.tail.head
  have k2 := hT.tail.tail.left
  have k3 := hT.tail.tail.right.head
  have k4 := hT.tail.tail.right.tail.left
  have k5 := hT.tail.tail.right.tail.right.head
  have k6 := hT.tail.tail.right.tail.right.tail.left
  have k7 := hT.tail.tail.right.tail.right.tail.right.head
  obtain ⟨x', hx', hxs⟩ := hx.read T E _ k2
  obtain ⟨y', hy', hys⟩ := hy.read T E _ k4
  obtain ⟨z', hz', hzs⟩ := hz.read T E _ k6
  refine ⟨opEx wIf [x', y', z'] (atT T E p), ?_, same_op hs h0 (by simp [exSames, hxs, hys, hzs])⟩
  have := read_if (T := T) (E := E) (isT_of k0 (Or.inr rfl) rfl) (isT_of k1 (Or.inl rfl) rfl) hx' (by rw [k2.isT hx.pos]; exact hx.first.1) (by rw [k2.isT hx.pos]; exact hx.first.2) (isT_of k3 (Or.inl rfl) rfl)
   hy' (by rw [k4.isT hy.pos]; exact hy.first.1) (by rw [k4.isT hy.pos]; exact hy.first.2) (isT_of k5 (Or.inl rfl) rfl)
   hz' (by rw [k6.isT hz.pos]; exact hz.first.1) (by rw [k6.isT hz.pos]; exact hz.first.2) (isT_of k7 (Or.inl rfl) rfl)
  refine Eq.mp ?_ this
  congr 3
  simp
  omega
theorem val_word {v : Val} (hn : fitsN v.n) (hc : vcheck v = 0) (hp : v.type = 1 → 0 ≤ v.n) (a : Nat) : ∃ k : Int, TokOk ⟨k, valText v, a⟩ ∧ (k = 2 ∨ k = 3 ∨ k = 1 ∧ (valText v = tTrue ∨ valText v = tFalse)) := by
 have hr := read_show hn hc
 by_cases h1 : v.type = 1
 ·refine ⟨2, ?_, Or.inl rfl⟩
  have hv : valText v = Lib.decDigits v.n.toNat := by
   unfold valText
   rw [if_pos h1, show v.n = ((v.n.toNat : Nat) : Int) from (Int.toNat_of_nonneg (hp h1)).symm, itoa_pos]
   rfl
  obtain ⟨b1, b2, b3, b4⟩ := dec_back v.n.toNat v.n.toNat (Nat.le_refl _)
  rw [hv]
  have hlt : v.n.toNat ≤ 9223372036854775807 := by have := hn.2; omega
  generalize v.n.toNat = m at b1 b2 b3 b4 hlt
  obtain ⟨c, r, he, hd⟩ := dec_head (n := m)
  rw [he] at b1 b2 b4 ⊢
  have ht := tw_app (p := isD) (c :: r) [] b2 (fun x hx => by cases hx)
  rw [List.append_nil] at ht
  refine ⟨c, r, (c :: r).length, ?_, (List.take_length).symm, fun hb => ?_, by simp, Nat.le_refl _⟩
  ·rw [tokP_D r hd, ht.1, ht.2, if_neg, if_pos]
   ·unfold numOk; rw [b1]; simpa using hlt
   ·rintro (⟨e1, e2⟩ | e1)
    ·have h0 := b4 (by rw [e2]; rfl)
     rw [h0] at he
     rw [show Lib.decDigits 0 = [48] by rw [Lib.decDigits]; rfl] at he
     rw [← he] at e1
     simp at e1
    ·cases e1
  ·unfold isB at hb
   rcases hb with rfl | rfl <;> exact absurd hd (by decide)
 ·by_cases h2 : v.type = 2
  ·refine ⟨1, ?_, Or.inr (Or.inr ⟨rfl, ?_⟩)⟩
   ·have : valText v = tTrue ∨ valText v = tFalse := by unfold valText; rw [if_neg h1, if_pos h2]; split; exact Or.inl rfl; exact Or.inr rfl
    rcases this with e | e
    ·rw [e]; exact tok_word (by decide) a
    ·rw [e]; exact tok_word (by decide) a
   ·unfold valText; rw [if_neg h1, if_pos h2]; split; exact Or.inl rfl; exact Or.inr rfl
  ·refine ⟨3, ?_, Or.inr (Or.inl rfl)⟩
   have hv : valText v = 39 :: (dblQ v.s.data.toList ++ [39]) := by unfold valText; rw [if_neg h1, if_neg h2]
   rw [hv] at hr ⊢
   rw [readP_quote] at hr
   have hq := qlen_app (dblQ v.s.data.toList) (e := []) (undbl_dbl _) (fun h => by cases h)
   refine ⟨39, dblQ v.s.data.toList ++ [39], (39 :: (dblQ v.s.data.toList ++ [39])).length, ?_, (List.take_length).symm, fun hb => ?_, by simp, Nat.le_refl _⟩
   ·rw [tokP_Q, hq]
    simp only
    rw [List.take_of_length_le (by simp), hr, if_pos rfl]
    simp
   ·unfold isB at hb
    rcases hb with h | h <;> exact absurd h (by decide)
theorem again_val {e : Ex} (hc : isVal e.op) (h0 : e.args = []) (hn : e.name.data.toList = []) (hf : fitsN e.val.n) (hv : vcheck e.val = 0) (hp : e.val.type = 1 → 0 ≤ e.val.n) : Again e := by
 intro rest a hr
 obtain ⟨op, name, v, A, c, args, pos⟩ := e
 have h0 : args = [] := h0
 subst h0
 obtain ⟨k, hk, hw⟩ := val_word hf hv hp a
 have hk2 : k = 2 ∨ k = 3 ∨ k = 1 ∧ (valText v = tTrue ∨ valText v = tFalse) := hw
 have no : ∀ u, u ≠ tTrue → u ≠ tFalse → isT [⟨k, valText v, a⟩] 0 u = false := fun u u1 u2 => by
  rcases hk2 with rfl | rfl | ⟨rfl, h | h⟩
  ·rfl
  ·rfl
  ·rw [h]; exact isT_one (s := tTrue) (by rfl) (fun e => u1 e.symm)
  ·rw [h]; exact isT_one (s := tFalse) (by rfl) (fun e => u2 e.symm)
 refine ⟨_, again_leaf (t := ⟨k, valText v, a⟩) ?_ rfl hk hr (no _ (by decide) (by decide)) (no _ (by decide) (by decide)) (fun T E i h1 h2 h3 => ⟨_, .prVal (v := v) (by rw [h1]; exact no _ (by decide) (by decide)) (by rw [h1]; exact no _ (by decide) (by decide)) (by rw [h1]; exact no _ (by decide) (by decide)) ?_, ?_⟩)⟩
 ·rw [exText]; exact nodeText_val hc
 ·rw [h2]
  have e : valT [(⟨k, valText v, a⟩ : Tok)] 0 = some (readP (valText v)).1 := by unfold valT; exact if_pos hw
  have hrs : readP (valText v) = (v, 0) := read_show hf hv
  rw [e, hrs]
 ·unfold valEx
  rw [exSame_eq]
  have hn : name.data.toList = [] := hn
  simp [mkB, Ex.op, Ex.name, Ex.val, Ex.args, exSames]
  exact ⟨hc.symm, by simpa using hn⟩
theorem nodesErr_parts' {op name : ByteArray} {v : Val} {A : Option Addr} {c : Nat} {args : List Ex} {pos : Int} (h : nodesErr (.mk op name v A c args pos) = 0) : nodeErrOf op name v args.length = 0 ∧ ∀ a ∈ args, nodesErr a = 0 := by
 obtain ⟨h1, h2⟩ := nodesErr_parts h
 exact ⟨h1, nodesErrs_all h2⟩
theorem node_rest {op name : ByteArray} {v : Val} {n : Nat} (h : nodeErrOf op name v n = 0) : (¬ isCol op → name.data.toList = []) ∧ (¬ isVal op → v = noVal) := by
 unfold nodeErrOf at h
 split at h
 ·omega
 split at h
 ·omega
 rename_i h2
 refine ⟨fun hc => ?_, fun hv => ?_⟩
 ·by_cases e : name.data.toList = []
  ·exact e
  ·exact absurd (Or.inr (Or.inl ⟨hc, e⟩)) h2
 ·by_cases e : v = noVal
  ·exact e
  ·exact absurd (Or.inr (Or.inr ⟨hv, e⟩)) h2
theorem fitsEs_all : ∀ {l : List Ex}, fitsEs l → ∀ a ∈ l, fitsE a
 | [], _, a, h => by cases h
 | b :: l, hf, a, h => by
  rw [fitsEs] at hf
  rcases List.mem_cons.1 h with rfl | h
  ·exact hf.1
  ·exact fitsEs_all hf.2 a h
theorem lvl_of {op : ByteArray} (h : isSign op = true) : ∃ n, n < 5 ∧ op.data.toList ∈ lvlL n := by
 unfold isSign at h
 obtain ⟨j, hj, h2⟩ := List.any_eq_true.1 h
 have hm := (Lib.containsS_iff _ _).1 h2
 have hj := List.mem_range.1 hj
 refine ⟨j, hj, ?_⟩
 have : ∀ j, j < 5 → ∀ x ∈ lvlB j, x.data.toList ∈ lvlL j := by decide
 exact this j hj op hm
theorem again_all : ∀ (n : Nat) (e : Ex), SizeOf.sizeOf e ≤ n → nodesErr e = 0 → fitsE e → Again e := by
 intro n
 induction n with
 | zero => intro e h; cases e; simp at h
 | succ n ih =>
  intro e hs hk hf
  obtain ⟨op, name, v, A, c, args, pos⟩ := e
  obtain ⟨h1, h2⟩ := nodesErr_parts' hk
  rw [fitsE] at hf
  have go : ∀ a ∈ args, Again a := fun a ha => ih a (by have := List.sizeOf_lt_of_mem ha; simp only [Ex.mk.sizeOf_spec] at hs; omega) (h2 a ha) (fitsEs_all hf.2 a ha)
  obtain ⟨r1, r2⟩ := node_rest h1
  have ht : exText (.mk op name v A c args pos) = nodeText op name v (args.map exText) := exText_eq _
  cases node_is h1 with
  | col g h0 hn =>
   obtain rfl := List.eq_nil_of_length_eq_zero h0
   exact again_col g rfl hn (r2 (fun e => op_two g e (by decide)))
  | val g h0 hv hp =>
   obtain rfl := List.eq_nil_of_length_eq_zero h0
   exact again_val g rfl (r1 (fun e => op_two g e (by decide))) hf.1 hv hp
  | len g h0 =>
   obtain ⟨x, rfl⟩ := List.length_eq_one_iff.1 h0
   obtain rfl := r2 (fun e => op_two g e (by decide))
   exact again_len g (by rw [ht, nodeText_len g]; simp [Lib.join, List.intercalate]) (r1 (fun e => op_two g e (by decide))) (go x (by simp))
  | if_ g h0 =>
   match args, h0 with
   | [x, y, z], _ =>
   obtain rfl := r2 (fun e => op_two g e (by decide))
   exact again_if g (by rw [ht, nodeText_if g]; simp [Lib.join, List.intercalate, List.intersperse]) (r1 (fun e => op_two g e (by decide))) (go x (by simp)) (go y (by simp)) (go z (by simp))
  | not g h0 =>
   obtain ⟨x, rfl⟩ := List.length_eq_one_iff.1 h0
   obtain rfl := r2 (fun e => op_two g e (by decide))
   exact again_not g (by rw [ht, nodeText_not g]; rfl) (r1 (fun e => op_two g e (by decide))) (go x (by simp))
  | neg g h0 =>
   obtain ⟨x, rfl⟩ := List.length_eq_one_iff.1 h0
   obtain rfl := r2 (fun e => op_two g e (by decide))
   exact again_neg g (by rw [ht, nodeText_neg g]; rfl) (r1 (fun e => op_two g e (by decide))) (go x (by simp))
  | sign g1 g2 g3 g4 g5 g6 hsg h0 =>
   match args, h0 with
   | [x, y], _ =>
   obtain rfl := r2 g2
   obtain ⟨m, hm, hl⟩ := lvl_of hsg
   exact again_two hm hl (by rw [ht, nodeText_sign g1 g2 g3 g4 g5 g6]; rfl) (r1 g1) (go x (by simp)) (go y (by simp))
end Go.Proofs.YtpbbkpfaphjdoaaGreatDoor
