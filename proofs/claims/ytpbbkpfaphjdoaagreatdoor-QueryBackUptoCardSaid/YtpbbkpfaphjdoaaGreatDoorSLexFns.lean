/- Words again, plain: where they stand; joined by blanks they are the same words. sluiceref1.plain, Val, walked. val.Print, walked: a value as text. Package lex and the document's words: letter, digit, span, walked. -/
import Derived.Test.YtpbbkpfaphjdoaaGreatDoorSLexLaw
import Derived.Lib.Join
import Derived.Test.YtpbbkpfaphjdoaaGreatDoorSEx
import Derived.Test.YtpbbkpfaphjdoaaGreatDoorSShow
import Derived.Lib.ReplaceLaws
import Derived.Lib.AppendIntMem
import Derived.Lib.ItoaLen
namespace Go.Proofs.YtpbbkpfaphjdoaaGreatDoor
def isB (x : UInt8) : Prop := x = 32 ∨ x = 10
theorem tokP_L {c : UInt8} (r : List UInt8) (h : isL c = true) : tokP (c :: r) = (((c :: r).takeWhile isLD).length, 1, 0) := by
 unfold tokP; simp only; rw [if_pos h]
theorem not_L_of_D {c : UInt8} (h : isD c = true) : ¬ isL c = true := by
 unfold isD at h; unfold isL
 simp at h ⊢; omega
theorem tokP_D {c : UInt8} (r : List UInt8) (h : isD c = true) : tokP (c :: r) = if (1 < ((c :: r).takeWhile isD).length ∧ c = 48) ∨ ((c :: r).dropWhile isD).head?.any isL = true then (0, 2, 2) else if numOk ((c :: r).takeWhile isD) = true then (((c :: r).takeWhile isD).length, 2, 0) else (0, 2, 1) := by
 unfold tokP; simp only; rw [if_neg (not_L_of_D h), if_pos h]
theorem tokP_Q (r : List UInt8) : tokP (39 :: r) = match qlen r with | none => (0, 3, 2) | some m => if (readQ (r.take m)).2 = 0 then (m + 1, 3, 0) else (0, 3, (readQ (r.take m)).2) := by
 unfold tokP; simp only; rw [if_neg (by decide), if_neg (by decide), if_pos trivial]; rfl
theorem tokP_S {c : UInt8} (r : List UInt8) (h1 : ¬ isL c = true) (h2 : ¬ isD c = true) (h3 : c ≠ 39) : tokP (c :: r) = if sgnN (c :: r) = 0 then (0, 0, 2) else (sgnN (c :: r), 4, 0) := by
 unfold tokP; simp only; rw [if_neg h1, if_neg h2, if_neg h3]
theorem tok_again {l : List UInt8} {n : Nat} {k : Int} (h : tokP l = (n, k, 0)) (e : List UInt8) (he : ∀ x, e.head? = some x → isB x) : tokP (l.take n ++ e) = (n, k, 0) := by
 have heL : ∀ x, e.head? = some x → isLD x = false := fun x hx => (not_L (he x hx)).2.2
 have heD : ∀ x, e.head? = some x → isD x = false := fun x hx => (not_L (he x hx)).2.1
 cases l with
 | nil => cases h
 | cons c r =>
  by_cases hL : isL c = true
  ·rw [tokP_L r hL] at h
   injection h with h1 h2
   injection h2 with h2 _
   subst h1 h2
   have hc : isLD c = true := by simp [isLD, hL]
   have ha := tw_app ((c :: r).takeWhile isLD) e (tw_all _ _) heL
   have hx : (c :: r).takeWhile isLD = c :: r.takeWhile isLD := by rw [List.takeWhile_cons, if_pos hc]
   rw [tw_take]
   have := tokP_L (r.takeWhile isLD ++ e) hL
   rw [← List.cons_append, ← hx, ha.1] at this
   exact this
  by_cases hD : isD c = true
  ·rw [tokP_D r hD] at h
   split at h
   ·cases h
   rename_i hx
   split at h
   ·rename_i hy
    injection h with h1 h2
    injection h2 with h2 _
    subst h1 h2
    have ha := tw_app ((c :: r).takeWhile isD) e (tw_all _ _) heD
    have hz : (c :: r).takeWhile isD = c :: r.takeWhile isD := by rw [List.takeWhile_cons, if_pos hD]
    rw [tw_take]
    have := tokP_D (r.takeWhile isD ++ e) hD
    rw [← List.cons_append, ← hz, ha.1, ha.2] at this
    rw [this, if_neg, if_pos hy]
    rintro (e1 | e1)
    ·exact hx (Or.inl e1)
    ·cases e with
     | nil => cases e1
     | cons x e => simp [(not_L (he x rfl)).1] at e1
   ·cases h
  by_cases hQ : c = 39
  ·subst hQ
   rw [tokP_Q] at h
   cases hm : qlen r with
   | none => rw [hm] at h; cases h
   | some m =>
    rw [hm] at h
    simp only at h
    split at h
    ·rename_i hr
     injection h with h1 h2
     injection h2 with h2 _
     subst h1 h2
     obtain ⟨t, u, g1, g2, g3, g4⟩ := qlen_some r hm
     have ht : r.take m = t ++ [39] := by
      rw [show r.take m = (t ++ 39 :: r.drop m).take (t.length + 1) by rw [← g1, g2], List.take_length_add_append]
      rfl
     rw [List.take_succ_cons, List.cons_append, tokP_Q, ht, List.append_assoc]
     have hq := qlen_app t (e := e) g3 (fun e1 => by have := he 39 e1; unfold isB at this; simp at this)
     rw [show [39] ++ e = 39 :: e from rfl, hq]
     have htk : (t ++ 39 :: e).take (t.length + 1) = t ++ [39] := by rw [List.take_length_add_append]; rfl
     simp only
     rw [htk, ← ht, if_pos hr, g2]
    ·rename_i hr
     injection h with h1 h2
     injection h2 with _ h2
     exact (hr h2).elim
  ·rw [tokP_S r hL hD hQ] at h
   split at h
   ·cases h
   rename_i hs
   injection h with h1 h2
   injection h2 with h2 _
   subst h2
   by_cases h2 : ∃ d r', r = d :: r' ∧ ((c = 60 ∧ (d = 62 ∨ d = 61)) ∨ (c = 62 ∧ d = 61))
   ·obtain ⟨d, r', rfl, hp⟩ := h2
    rw [sgnN_two r' hp] at h1
    subst h1
    show tokP (c :: d :: e) = _
    rw [tokP_S _ hL hD hQ, sgnN_two e hp, if_neg (by decide)]
   ·have h3 := sgnN_one (c := c) r (fun d hd hp => h2 (by
     cases r with
     | nil => cases hd
     | cons d' r' => exact ⟨d', r', rfl, by rw [show d' = d by simpa using hd]; exact hp⟩))
    rw [h3] at h1 hs
    by_cases h4 : sign1 c = true
    ·rw [if_pos h4] at h1
     subst h1
     show tokP (c :: e) = _
     have h5 := sgnN_one (c := c) e (fun d hd hp => by
      have hb := he d hd
      unfold isB at hb
      rcases hb with rfl | rfl <;> simp at hp)
     rw [tokP_S _ hL hD hQ, h5, if_pos h4, if_neg (by decide)]
    ·rw [if_neg h4] at hs; exact (hs rfl).elim
def TokOk (t : Tok) : Prop := ∃ (c : UInt8) (r : List UInt8) (n : Nat), tokP (c :: r) = (n, t.kind, 0) ∧ t.text = (c :: r).take n ∧ ¬ isB c ∧ 1 ≤ n ∧ n ≤ (c :: r).length
theorem TokOk.len {t : Tok} (h : TokOk t) : 1 ≤ t.text.length := by
 obtain ⟨c, r, n, _, h2, _, h4, h5⟩ := h
 rw [h2, List.length_take]; omega
theorem TokOk.lex {t : Tok} (h : TokOk t) (e : List UInt8) (he : ∀ x, e.head? = some x → isB x) (a : Nat) :
  lexP (t.text ++ e) a = (lexP e (a + t.text.length)).pre [⟨t.kind, t.text, a⟩] := by
 obtain ⟨c, r, n, h1, h2, h3, h4, h5⟩ := h
 have hk := tok_again h1 e he
 have hl : t.text.length = n := by rw [h2, List.length_take]; omega
 rw [← h2] at hk
 cases hx : t.text with
 | nil => rw [hx] at hl; simp at hl; omega
 | cons c' r' =>
  have : c' = c := by
   rw [h2] at hx
   cases n with
   | zero => omega
   | succ n => rw [List.take_succ_cons] at hx; injection hx with e1 _; exact e1.symm
  subst this
  rw [hx] at hl hk
  have := lexP_tok (a := a) (r := r' ++ e) h3 hk
  rw [← List.cons_append] at this
  rw [this, ← hl, List.drop_left, List.take_left]
def likeToks : List Tok → List Tok → Prop
 | [], [] => True
 | a :: l, b :: m => a.kind = b.kind ∧ a.text = b.text ∧ likeToks l m
 | _, _ => False
theorem likeToks.len : ∀ {l m : List Tok}, likeToks l m → l.length = m.length
 | [], [], _ => rfl
 | _ :: _, _ :: _, h => by rw [List.length_cons, List.length_cons, h.2.2.len]
theorem likeToks.at_ : ∀ {l m : List Tok}, likeToks l m → ∀ (i : Nat) (a b : Tok), l[i]? = some a → m[i]? = some b → a.kind = b.kind ∧ a.text = b.text
 | [], [], _, _, _, _, h, _ => by simp at h
 | x :: l, y :: m, h, 0, a, b, ha, hb => by
  injection ha with ha; injection hb with hb; subst ha hb; exact ⟨h.1, h.2.1⟩
 | x :: l, y :: m, h, i + 1, a, b, ha, hb => h.2.2.at_ i a b (by simpa using ha) (by simpa using hb)
def blankAt (s : List UInt8) (k : Nat) : Prop := ∃ x, s[k]? = some x ∧ isB x
def Chain (s : List UInt8) : Nat → List Tok → Prop
 | a, [] => a ≤ s.length ∧ ∀ k, a ≤ k → k < s.length → blankAt s k
 | a, t :: r => a ≤ t.at_ ∧ t.at_ + t.text.length ≤ s.length ∧ (∀ k, a ≤ k → k < t.at_ → blankAt s k) ∧ (s.drop t.at_).take t.text.length = t.text ∧ TokOk t ∧ Chain s (t.at_ + t.text.length) r
theorem Chain.all {s : List UInt8} : ∀ {l : List Tok} {a : Nat}, Chain s a l → ∀ t ∈ l, TokOk t
 | [], _, _, _, h => by cases h
 | x :: l, a, hc, t, h => by
  rcases List.mem_cons.1 h with rfl | h
  ·exact hc.2.2.2.2.1
  ·exact hc.2.2.2.2.2.all t h
theorem Chain.back {s : List UInt8} {a : Nat} (hb : blankAt s a) : ∀ {l : List Tok}, Chain s (a + 1) l → Chain s a l
 | [], h => ⟨by have := h.1; omega, fun k h1 h2 => by
   by_cases e : k = a
   ·rw [e]; exact hb
   ·exact h.2 k (by omega) h2⟩
 | t :: l, h => ⟨by have := h.1; omega, h.2.1, fun k h1 h2 => by
   by_cases e : k = a
   ·rw [e]; exact hb
   ·exact h.2.2.1 k (by omega) h2, h.2.2.2⟩
theorem lex_says (s : List UInt8) : ∀ (n a : Nat), s.length - a ≤ n → a ≤ s.length → (∀ l, lexP (s.drop a) a = .ok l → Chain s a l) ∧ (∀ e p, lexP (s.drop a) a = .bad e p → p ≤ s.length ∧ e ≠ 0)
 | n, a, hn, ha => by
  cases hd : s.drop a with
  | nil =>
   have hl : a = s.length := by have := congrArg List.length hd; simp at this; omega
   refine ⟨fun l h => ?_, fun e p h => ?_⟩
   ·rw [lexP_nil] at h; injection h with h; subst h
    exact ⟨ha, fun k h1 h2 => by omega⟩
   ·rw [lexP_nil] at h; cases h
  | cons c r =>
   have hlt : a < s.length := by have := congrArg List.length hd; simp at this; omega
   have hr : s.drop (a + 1) = r := by rw [← List.drop_drop, hd]; rfl
   have hc : s[a]? = some c := by have := congrArg List.head? hd; rwa [List.head?_drop] at this
   cases n with
   | zero => omega
   | succ n =>
    by_cases hb : c = 32 ∨ c = 10
    ·obtain ⟨i1, i2⟩ := lex_says s n (a + 1) (by omega) (by omega)
     rw [hr] at i1 i2
     rw [lexP_blank hb]
     exact ⟨fun l h => (i1 l h).back ⟨c, hc, hb⟩, i2⟩
    ·obtain ⟨m, k, e, ht⟩ : ∃ m k e, tokP (c :: r) = (m, k, e) := ⟨_, _, _, rfl⟩
     by_cases he : e = 0
     ·subst he
      have hle := tokP_le (l := c :: r) (by rw [ht])
      rw [ht] at hle
      simp only at hle
      have hlen : (c :: r).length = s.length - a := by rw [← hd, List.length_drop]
      obtain ⟨i1, i2⟩ := lex_says s n (a + m) (by omega) (by omega)
      have hdd : (c :: r).drop m = s.drop (a + m) := by rw [← hd, List.drop_drop]
      rw [lexP_tok hb ht, hdd]
      refine ⟨fun l h => ?_, fun e p h => ?_⟩
      ·cases hx : lexP (s.drop (a + m)) (a + m) with
       | bad e p => rw [hx] at h; cases h
       | ok l' =>
        rw [hx] at h
        injection h with h
        subst h
        have hm : ((c :: r).take m).length = m := by rw [List.length_take]; omega
        refine ⟨Nat.le_refl _, ?_, fun k h1 h2 => ?_, ?_, ⟨c, r, m, ht, rfl, hb, hle.1, hle.2⟩, ?_⟩
        ·show a + ((c :: r).take m).length ≤ _; omega
        ·have : k < a := h2
         omega
        ·show (s.drop a).take ((c :: r).take m).length = (c :: r).take m
         rw [hm, hd]
        ·show Chain s (a + ((c :: r).take m).length) l'
         rw [hm]; exact i1 l' hx
      ·cases hx : lexP (s.drop (a + m)) (a + m) with
       | ok l' => rw [hx] at h; cases h
       | bad e' p' =>
        rw [hx] at h
        injection h with h1 h2
        subst h1 h2
        exact i2 _ _ hx
     ·rw [lexP_bad hb ht he]
      refine ⟨fun l h => (by cases h), fun e' p h => ?_⟩
      injection h with h1 h2
      subst h1 h2
      exact ⟨by omega, he⟩
end Go.Proofs.YtpbbkpfaphjdoaaGreatDoor
namespace Go.Proofs.YtpbbkpfaphjdoaaGreatDoor
open Go.ChangeShapes Go.WideShapes Go.ChangeAt Go.RowKit
theorem byte_at {s : ByteArray} {k : Nat} {b : UInt8} (h : k < s.size) (hb : s.data.toList[k]? = some b) : s[k] = b := by
 have : s.data[k]? = some b := by rw [← Array.getElem?_toList]; exact hb
 obtain ⟨h1, h2⟩ := Array.getElem?_eq_some_iff.1 this
 exact h2
section
variable (w : World) (t n : Int) (s : ByteArray)
end
end Go.Proofs.YtpbbkpfaphjdoaaGreatDoor
namespace Go.Proofs.YtpbbkpfaphjdoaaGreatDoor
open Go.ChangeShapes Go.WideShapes Go.ChangeAt Go.RowKit
structure TextT (w : World) : Prop where
 tab : Lib.TabBelow Tryz.prog w.heap.size w "internal/strconv.uint64pow10" .u64 Lib.pow10Tab
 maxl : ∃ m, w.cell? ⟨6, 0, none⟩ = some (.int .i64 m) ∧ 6 < w.heap.size
theorem TextT.keep {w w' : World} (h : TextT w) (hb : Below w.heap.size w w') : TextT w' :=
 ⟨fun w2 h2 => h.tab w2 (hb.trans (h2.mono hb.size)), by obtain ⟨m, h1, h2⟩ := h.maxl; exact ⟨m, (hb.cell (p := ⟨6, 0, none⟩) h2).trans h1, Nat.lt_of_lt_of_le h2 hb.size⟩⟩
theorem fmt_true : Lib.formatBool true = [116, 114, 117, 101] := by decide
theorem fmt_false : Lib.formatBool false = [102, 97, 108, 115, 101] := by decide
theorem vcheck_size {v : Val} (hc : vcheck v = 0) : v.s.size ≤ 40 := by
 have hz : v.s.data.toList = [] → v.s.size ≤ 40 := fun h => by
  have : v.s.size = v.s.data.toList.length := rfl
  rw [this, h]; decide
 unfold vcheck at hc
 split at hc
 ·split at hc
  ·rename_i h; exact hz h
  ·omega
 split at hc
 ·split at hc
  ·split at hc
   ·rename_i h; exact hz h
   ·omega
  ·omega
 split at hc
 ·split at hc
  ·omega
  ·omega
 ·omega
theorem itoa_len {n : Int} (h : fits n) : (Lib.itoa n).length ≤ 21 := Lib.itoa_length_le n (by unfold fits lo63 hi63 at h; omega) (by unfold fits lo63 hi63 at h; omega)
theorem valText_len {v : Val} (hf : fits v.n) (hc : vcheck v = 0) : (valText v).length ≤ 100 := by
 have h1 := itoa_len hf
 have h2 := vcheck_size hc
 have h3 := dblQ_len v.s.data.toList
 have h4 : v.s.data.toList.length = v.s.size := rfl
 unfold valText
 split
 ·omega
 split
 ·split <;> decide
 ·rw [List.length_cons, List.length_append]
  show _ + 1 + 1 ≤ 100
  omega
def PrintSays (v : Val) (w : World) (e : Ending) (w' : World) : Prop := e = .returned (.tuple #[.string (if vcheck v = 0 then ⟨(valText v).toArray⟩ else ⟨#[]⟩), errV (vcheck v)]) ∧ Below w.heap.size w w'
set_option maxHeartbeats 4000000 in
set_option maxRecDepth 100000 in
theorem print_any (v : Val) (hw : v.wf) (w : World) (hT : TextT w) : Calls Tryz.prog 32 #[.agg #[.int .i64 v.type, .int .i64 v.n, .string v.s]] w (PrintSays v w) := by
 obtain ⟨w0, hw0⟩ : ∃ w0, w.alloc (.cells #[.int .i64 v.type, .int .i64 v.n, .string v.s] 23) = w0 := ⟨_, rfl⟩
 have hb0 : Below w.heap.size w w0 := by rw [← hw0]; exact belowNew' _ _
 have hbx := heap_alloc_new w (.cells #[.int .i64 v.type, .int .i64 v.n, .string v.s] 23)
 rw [hw0] at hbx
 have HBX := Lib.hid hbx
 have HB0 := Lib.hid hb0
 have HT0 := Lib.hid (hT.keep hb0)
 have HLT := Lib.hid (show w.heap.size < w0.heap.size by rw [← hw0]; simp)
 have HW := Lib.hid hw0
 obtain ⟨c0, c1, c2⟩ := cells3' hbx
 have T := Lib.hid (vcheck_any v w0)
 unfold valV at T
 have hn := hw.2.1
 clear hw0 hb0 hbx hT
 by_cases hc : vcheck v = 0
 ·have HSZ := Lib.hid (vcheck_size hc)
  unfold PrintSays
  rw [hc, errV_zero] at T
  rw [if_pos hc, hc, errV_zero]
  clear hc
  by_cases h1 : v.type = 1
  ·have e1 : (v.type == 1) = true := beq_iff_eq.2 h1
   have E := Lib.hid (show valText v = Lib.itoa v.n by unfold valText; rw [if_pos h1])
   have TI := Lib.hid (fun (w' : World) (hb : Below w0.heap.size w0 w') => Tryz.strconv_Itoa v.n (by unfold fits lo63 hi63 at hn; omega) (by unfold fits lo63 hi63 at hn; omega) w' (HT0.out.tab w' hb))
   rw [E.out]
   clear h1 E hn
   go_enter Tryz.func32, Tryz.ntmps32
   go_wp2_with (first | rw [HW.out])
   refine (T.out).mono ?_
   rintro e w1 ⟨rfl, hb1⟩
   have HB1 := Lib.hid hb1
   have k1 := (hb1.cell (p := ⟨w.heap.size, 1, none⟩) HLT.out).trans c1
   have k0 := (hb1.cell (p := ⟨w.heap.size, 0, none⟩) HLT.out).trans c0
   clear hb1
   go_wp2_with fail
   refine (TI.out w1 HB1.out).mono ?_
   rintro e w2 ⟨rfl, kq, os, rfl⟩
   have HB2 := Lib.hid (below_step HB0.out (below_step HB1.out (Lib.below_grow w1.heap.size w1 (Nat.le_refl _) kq os)))
   go_wp2_with fail
   go_ret2
   exact ⟨rfl, HB2.out⟩
  by_cases h2 : v.type = 2
  ·have e1 : (v.type == 1) = false := beq_eq_false_iff_ne.2 h1
   have e2 : (v.type == 2) = true := beq_iff_eq.2 h2
   have TF := Lib.hid (fun b w' => Tryz.strconv_FormatBool b w')
   have E := Lib.hid (show valText v = Lib.formatBool (v.n == 1) by
    unfold valText
    rw [if_neg h1, if_pos h2]
    by_cases h3 : v.n = 1
    ·rw [if_pos h3, show (v.n == 1) = true from beq_iff_eq.2 h3, fmt_true]
    ·rw [if_neg h3, show (v.n == 1) = false from beq_eq_false_iff_ne.2 h3, fmt_false])
   rw [E.out]
   clear h1 h2 E hn
   go_enter Tryz.func32, Tryz.ntmps32
   go_wp2_with (first | rw [HW.out])
   refine (T.out).mono ?_
   rintro e w1 ⟨rfl, hb1⟩
   have HB1 := Lib.hid (below_step HB0.out hb1)
   have k1 := (hb1.cell (p := ⟨w.heap.size, 1, none⟩) HLT.out).trans c1
   have k0 := (hb1.cell (p := ⟨w.heap.size, 0, none⟩) HLT.out).trans c0
   clear hb1
   go_wp2_with fail
   refine (TF.out _ w1).mono ?_
   rintro e w2 ⟨rfl, rfl⟩
   go_wp2_with fail
   go_ret2
   exact ⟨rfl, HB1.out⟩
  ·have e1 : (v.type == 1) = false := beq_eq_false_iff_ne.2 h1
   have e2 : (v.type == 2) = false := beq_eq_false_iff_ne.2 h2
   have E := Lib.hid (show valText v = 39 :: (dblQ v.s.data.toList ++ [39]) by unfold valText; rw [if_neg h1, if_neg h2])
   obtain ⟨m, hm1, hm2⟩ := HT0.out.maxl
   have hcb := Lib.countB_le ⟨#[39]⟩ (by decide) v.s.size v.s (Nat.le_refl _)
   have TR := Lib.hid (fun (w' : World) (hb : Below w0.heap.size w0 w') => Tryz.strings_ReplaceAll v.s ⟨#[39]⟩ ⟨#[39, 39]⟩ m w' (by have := HSZ.out; omega) ((hb.cell (p := ⟨6, 0, none⟩) hm2).trans hm1) (by decide) (by have := HSZ.out; show v.s.size + Lib.countB v.s ⟨#[39]⟩ * 2 ≤ _; omega))
   have HR := Lib.hid (show Lib.replaceAll v.s.data.toList (⟨#[39]⟩ : ByteArray).data.toList (⟨#[39, 39]⟩ : ByteArray).data.toList = dblQ v.s.data.toList from replace_dbl _)
   rw [HR.out] at TR
   have hdl := dblQ_len v.s.data.toList
   have hsz : v.s.data.toList.length = v.s.size := rfl
   have hs40 := HSZ.out
   rw [E.out]
   generalize dblQ v.s.data.toList = D at TR hdl ⊢
   clear h1 h2 E hn hm1 hm2 hcb HR
   go_enter Tryz.func32, Tryz.ntmps32
   go_wp2_with (first | rw [HW.out])
   refine (T.out).mono ?_
   rintro e w1 ⟨rfl, hb1⟩
   have HB1 := Lib.hid hb1
   have k2 := (hb1.cell (p := ⟨w.heap.size, 2, none⟩) HLT.out).trans c2
   have k0 := (hb1.cell (p := ⟨w.heap.size, 0, none⟩) HLT.out).trans c0
   clear hb1
   go_wp2_with fail
   refine (TR.out w1 HB1.out).mono ?_
   rintro e w2 ⟨rfl, hb2⟩
   have HB2 := Lib.hid (below_step HB0.out (below_step HB1.out hb2))
   clear hb2
   go_wp2_with fail
   go_ret2
   exact ⟨congrArg (fun s => Ending.returned (.tuple #[.string s, .nilIface])) ((congrArg (· ++ (⟨[39].toArray⟩ : ByteArray)) (bytes_app [39] D)).trans (bytes_app (39 :: D) [39])), HB2.out⟩
 ·unfold PrintSays
  rw [if_neg hc, errV_ne hc]
  rw [errV_ne hc] at T
  clear hc hn
  go_enter Tryz.func32, Tryz.ntmps32
  go_wp2_with (first | rw [HW.out])
  refine (T.out).mono ?_
  rintro e w1 ⟨rfl, hb1⟩
  have HB1 := Lib.hid (below_step HB0.out hb1)
  clear hb1
  go_wp2_with fail
  go_ret2
  exact ⟨rfl, HB1.out⟩
end Go.Proofs.YtpbbkpfaphjdoaaGreatDoor
namespace Go.Proofs.YtpbbkpfaphjdoaaGreatDoor
open Go.ChangeShapes Go.WideShapes Go.ChangeAt Go.RowKit
theorem isL_dec (b : UInt8) : isL b = (decide (97 ≤ (b.toNat : Int)) && decide ((b.toNat : Int) ≤ 122)) := by
 unfold isL; rw [Bool.decide_and]; congr 1 <;> (congr 1; apply propext; omega)
theorem isD_dec (b : UInt8) : isD b = (decide (48 ≤ (b.toNat : Int)) && decide ((b.toNat : Int) ≤ 57)) := by
 unfold isD; rw [Bool.decide_and]; congr 1 <;> (congr 1; apply propext; omega)
def ByteFn (f : Nat) (p : UInt8 → Bool) : Prop := ∀ (b : UInt8) (w : World), Calls Tryz.prog f #[.int .u8 (b.toNat : Int)] w fun e w' => e = .returned (.bool (p b)) ∧ w = w'
theorem lletter : ByteFn 204 isL := by
 intro b w
 have E := Lib.hid (isL_dec b)
 generalize (b.toNat : Int) = x at *
 go_enter Tryz.func204, Tryz.ntmps204
 go_wp2_with fail
 all_goals go_ret
 all_goals exact ⟨by rw [E.out]; simp [*] <;> omega, rfl⟩
theorem ldigit : ByteFn 207 isD := by
 intro b w
 have E := Lib.hid (isD_dec b)
 generalize (b.toNat : Int) = x at *
 go_enter Tryz.func207, Tryz.ntmps207
 go_wp2_with fail
 all_goals go_ret
 all_goals exact ⟨by rw [E.out]; simp [*] <;> omega, rfl⟩
theorem lword : ByteFn 206 isLD := by
 intro b w
 unfold isLD
 generalize hL : isL b = x
 have HL := Lib.hid hL
 clear hL
 cases x
 all_goals go_enter Tryz.func206, Tryz.ntmps206
 all_goals go_wp2_with (first | (go_at_call 204; refine (lletter b _).mono ?_; rintro e w' ⟨rfl, rfl⟩; rw [HL.out]) | (go_at_call 207; refine (ldigit b _).mono ?_; rintro e w' ⟨rfl, rfl⟩))
 all_goals go_ret
 all_goals exact ⟨rfl, rfl⟩
def spanN (p : UInt8 → Bool) (s : ByteArray) : Nat := (s.data.toList.takeWhile p).length
theorem tw_some {p : UInt8 → Bool} {l : List UInt8} {k : Nat} {b : UInt8} (h : (l.take k).all p = true) (hk : l[k]? = some b) (hp : p b = false) : (l.takeWhile p).length = k := by
 have hlt : k < l.length := (List.getElem?_eq_some_iff.1 hk).1
 have := tw_app (l.take k) (l.drop k) h (fun x hx => by
  rw [List.head?_drop, hk] at hx
  injection hx with hx; rw [← hx]; exact hp)
 rw [List.take_append_drop] at this
 rw [this.1, List.length_take]; omega
theorem tw_full {p : UInt8 → Bool} {l : List UInt8} (h : l.all p = true) : (l.takeWhile p).length = l.length := by
 have := tw_app l [] h (fun x hx => by cases hx)
 rw [List.append_nil] at this
 rw [this.1]
set_option maxHeartbeats 2000000 in
theorem span_digit (s : ByteArray) (hs : s.size ≤ maxLen) (w : World) :
  Calls Tryz.prog 205 #[.string s, .func (.func 207) #[] #[]] w fun e w' => e = .returned (.int .i64 (spanN isD s)) ∧ w = w' := by
 have hsz' := Lib.hid (size_eq s)
 unfold maxLen at hs
 go_enter Tryz.func205, Tryz.ntmps205
 go_wp2_with fail
 go_loop [5] (fun i => ∃ k : Nat, k ≤ s.size ∧ i = .int .i64 k ∧ (s.data.toList.take k).all isD = true) (fun i => s.size - (intOf i).toNat)
 case atStart => exact ⟨0, by omega, rfl, by simp⟩
 case round =>
  obtain ⟨k, hk, rfl, hall⟩ := hrel
  have HA := Lib.hid hall
  clear hall
  by_cases hlt : k < s.size
  ·obtain ⟨b, hb⟩ : ∃ b, s.data.toList[k]? = some b := ⟨_, List.getElem?_eq_getElem (by rw [hsz'.out]; exact hlt)⟩
   have HB := Lib.hid hb
   have eb := byte_at hlt hb
   clear hb
   generalize hP : isD b = x
   have HP := Lib.hid hP
   clear hP
   cases x with
   | true =>
    go_wp2_with fail
    refine (ldigit b _).mono ?_
    rintro e w' ⟨rfl, rfl⟩
    rw [HP.out]
    go_wp2_with fail
    go_round
    case rel => exact ⟨k + 1, by omega, by go_num, all_take_succ HA.out HB.out HP.out⟩
    case measure => simp [intOf]; omega
   | false =>
    have E := Lib.hid (tw_some HA.out HB.out HP.out)
    go_wp2_with fail
    refine (ldigit b _).mono ?_
    rintro e w' ⟨rfl, rfl⟩
    rw [HP.out]
    go_wp2_with fail
    go_ret
    exact ⟨by unfold spanN; rw [E.out]; rfl, rfl⟩
  ·have hall : s.data.toList.all isD = true := by have := HA.out; rwa [List.take_of_length_le (by rw [hsz'.out]; omega)] at this
   have E := Lib.hid (tw_full hall)
   clear hall HA
   obtain rfl : k = s.size := by omega
   have E2 := Lib.hid (show spanN isD s = s.size by unfold spanN; rw [E.out, hsz'.out])
   clear E
   go_wp2_with fail
   go_ret
   exact ⟨by rw [E2.out]; rfl, rfl⟩
set_option maxHeartbeats 2000000 in
theorem span_word (s : ByteArray) (hs : s.size ≤ maxLen) (w : World) :
  Calls Tryz.prog 205 #[.string s, .func (.func 206) #[] #[]] w fun e w' => e = .returned (.int .i64 (spanN isLD s)) ∧ w = w' := by
 have hsz' := Lib.hid (size_eq s)
 unfold maxLen at hs
 go_enter Tryz.func205, Tryz.ntmps205
 go_wp2_with fail
 go_loop [5] (fun i => ∃ k : Nat, k ≤ s.size ∧ i = .int .i64 k ∧ (s.data.toList.take k).all isLD = true) (fun i => s.size - (intOf i).toNat)
 case atStart => exact ⟨0, by omega, rfl, by simp⟩
 case round =>
  obtain ⟨k, hk, rfl, hall⟩ := hrel
  have HA := Lib.hid hall
  clear hall
  by_cases hlt : k < s.size
  ·obtain ⟨b, hb⟩ : ∃ b, s.data.toList[k]? = some b := ⟨_, List.getElem?_eq_getElem (by rw [hsz'.out]; exact hlt)⟩
   have HB := Lib.hid hb
   have eb := byte_at hlt hb
   clear hb
   generalize hP : isLD b = x
   have HP := Lib.hid hP
   clear hP
   cases x with
   | true =>
    go_wp2_with fail
    refine (lword b _).mono ?_
    rintro e w' ⟨rfl, rfl⟩
    rw [HP.out]
    go_wp2_with fail
    go_round
    case rel => exact ⟨k + 1, by omega, by go_num, all_take_succ HA.out HB.out HP.out⟩
    case measure => simp [intOf]; omega
   | false =>
    have E := Lib.hid (tw_some HA.out HB.out HP.out)
    go_wp2_with fail
    refine (lword b _).mono ?_
    rintro e w' ⟨rfl, rfl⟩
    rw [HP.out]
    go_wp2_with fail
    go_ret
    exact ⟨by unfold spanN; rw [E.out]; rfl, rfl⟩
  ·have hall : s.data.toList.all isLD = true := by have := HA.out; rwa [List.take_of_length_le (by rw [hsz'.out]; omega)] at this
   have E := Lib.hid (tw_full hall)
   clear hall HA
   obtain rfl : k = s.size := by omega
   have E2 := Lib.hid (show spanN isLD s = s.size by unfold spanN; rw [E.out, hsz'.out])
   clear E
   go_wp2_with fail
   go_ret
   exact ⟨by rw [E2.out]; rfl, rfl⟩
end Go.Proofs.YtpbbkpfaphjdoaaGreatDoor
