/- Expressions read of words by so much fuel, plain: what it comes to is what is read. What binds tighter, plain: three names with two signs between, as they stand and with brackets. What is read of words is one alone, plain: by so much fuel. Queries read of words, in plain Lean: what any words are read as, or where it goes wrong. -/
import Derived.Test.YtpbbkpfaphjdoaaGreatDoorSRdLaw
import Derived.Test.YtpbbkpfaphjdoaaGreatDoorSRdParse
import Derived.Test.YtpbbkpfaphjdoaaGreatDoorSSameEx
namespace Go.Proofs.YtpbbkpfaphjdoaaGreatDoor
section
variable (T : List Tok) (E : Nat)
def rdF : Nat → Md → Nat → Option PR
 | 0, _, _ => none
 | f + 1, .lv n, i =>
  if n = 5 then rdF f .un i
  else if n = 2 ∧ isT T i wNot = true then (match rdF f (.lv 2) (i + 1) with | none => none | some (.error k) => some (.error k) | some (.ok (x, j)) => some (.ok (opEx wNot [x] (atT T E i), j)))
  else if n < 5 then (match rdF f (.lv (n + 1)) i with | none => none | some (.error k) => some (.error k) | some (.ok (x, j)) => rdF f (.lp n x) j)
  else none
 | f + 1, .lp n e, i =>
  match sgT T n i with
  | none => some (.ok (e, i))
  | some s => (match rdF f (.lv (n + 1)) (i + 1) with | none => none | some (.error k) => some (.error k) | some (.ok (x, j)) => if n = 2 then some (.ok (opEx s [e, x] (atT T E i), j)) else rdF f (.lp n (opEx s [e, x] (atT T E i))) j)
 | f + 1, .un, i =>
  if isT T i wMinus = true then (match rdF f .un (i + 1) with | none => none | some (.error k) => some (.error k) | some (.ok (x, j)) => some (.ok (opEx wNeg [x] (atT T E i), j)))
  else rdF f .pr i
 | f + 1, .pr, i =>
  if isT T i wOpen = true then (match rdF f (.lv 0) (i + 1) with | none => none | some (.error k) => some (.error k) | some (.ok (x, j)) => if isT T j wClose = true then some (.ok (x, j + 1)) else some (.error (atT T E j)))
  else if isT T i wLen = true then (if isT T (i + 1) wOpen = true then rdF f (.ar wLen (atT T E i) 1 []) (i + 2) else some (.error (atT T E (i + 1))))
  else if isT T i wIf = true then (if isT T (i + 1) wOpen = true then rdF f (.ar wIf (atT T E i) 3 []) (i + 2) else some (.error (atT T E (i + 1))))
  else match valT T i with
   | some v => some (.ok (valEx v (atT T E i), i + 1))
   | none => (match nameT T i with | some s => some (.ok (colEx s (atT T E i), i + 1)) | none => some (.error (atT T E i)))
 | f + 1, .ar w p m acc, i =>
  if acc.length = m then (if isT T i wClose = true then some (.ok (opEx w acc p, i + 1)) else some (.error (atT T E i)))
  else if acc.length < m then
   (match acc with
   | [] => (match rdF f (.lv 0) i with | none => none | some (.error k) => some (.error k) | some (.ok (x, j)) => rdF f (.ar w p m [x]) j)
   | a :: l => if isT T i wComma = true then (match rdF f (.lv 0) (i + 1) with | none => none | some (.error k) => some (.error k) | some (.ok (x, j)) => rdF f (.ar w p m (a :: l ++ [x])) j) else some (.error (atT T E i)))
  else none
theorem bool_not {b : Bool} (h : ¬ b = true) : b = false := by cases b <;> simp_all
theorem rdF_sound : ∀ (f : Nat) (m : Md) (i : Nat) (r : PR), rdF T E f m i = some r → Rd T E m i r := by
 intro f
 induction f with
 | zero => intro m i r h; cases m <;> simp [rdF] at h
 | succ f ih =>
  intro m i r h
  cases m with
  | lv n =>
   rw [rdF] at h
   split at h
   ·rename_i h5; subst h5; exact .lvUn (ih _ _ _ h)
   split at h
   ·rename_i h2
    obtain ⟨rfl, h2⟩ := h2
    split at h
    ·cases h
    ·rename_i k hk; cases h; exact .lvNotE h2 (ih _ _ _ hk)
    ·rename_i x j hk; cases h; exact .lvNot h2 (ih _ _ _ hk)
   rename_i h2
   split at h
   ·rename_i hn
    have h2' : n = 2 → isT T i wNot = false := fun e => bool_not (fun hx => h2 ⟨e, hx⟩)
    split at h
    ·cases h
    ·rename_i k hk; cases h; exact .lvGoE hn h2' (ih _ _ _ hk)
    ·rename_i x j hk; exact .lvGo hn h2' (ih _ _ _ hk) (ih _ _ _ h)
   ·cases h
  | lp n e =>
   rw [rdF] at h
   split at h
   ·rename_i hs; cases h; exact .lpEnd hs
   ·rename_i s hs
    split at h
    ·cases h
    ·rename_i k hk; cases h; exact .lpE hs (ih _ _ _ hk)
    ·rename_i x j hk
     split at h
     ·rename_i h2; subst h2; cases h; exact .lpOne hs (ih _ _ _ hk)
     ·rename_i h2; exact .lpGo hs h2 (ih _ _ _ hk) (ih _ _ _ h)
  | un =>
   rw [rdF] at h
   split at h
   ·rename_i hm
    split at h
    ·cases h
    ·rename_i k hk; cases h; exact .unNegE hm (ih _ _ _ hk)
    ·rename_i x j hk; cases h; exact .unNeg hm (ih _ _ _ hk)
   ·rename_i hm; exact .unPr (bool_not hm) (ih _ _ _ h)
  | pr =>
   rw [rdF] at h
   split at h
   ·rename_i ho
    split at h
    ·cases h
    ·rename_i k hk; cases h; exact .prParE ho (ih _ _ _ hk)
    ·rename_i x j hk
     split at h
     ·rename_i hc; cases h; exact .prPar ho (ih _ _ _ hk) hc
     ·rename_i hc; cases h; exact .prParN ho (ih _ _ _ hk) (bool_not hc)
   rename_i ho
   split at h
   ·rename_i hl
    split at h
    ·rename_i hb; exact .prLen hl hb (ih _ _ _ h)
    ·rename_i hb; cases h; exact .prLenN hl (bool_not hb)
   rename_i hl
   split at h
   ·rename_i hf
    split at h
    ·rename_i hb; exact .prIf hf hb (ih _ _ _ h)
    ·rename_i hb; cases h; exact .prIfN hf (bool_not hb)
   rename_i hf
   split at h
   ·rename_i v hv; cases h; exact .prVal (bool_not ho) (bool_not hl) (bool_not hf) hv
   ·rename_i hv
    split at h
    ·rename_i s hs; cases h; exact .prCol (bool_not ho) (bool_not hl) (bool_not hf) hv hs
    ·rename_i hs; cases h; exact .prNo (bool_not ho) (bool_not hl) (bool_not hf) hv hs
  | ar w p m acc =>
   cases acc with
   | nil =>
    rw [rdF] at h
    split at h
    ·rename_i he
     split at h
     ·rename_i hc; cases h; exact .arEnd he hc
     ·rename_i hc; cases h; exact .arEndN he (bool_not hc)
    split at h
    ·rename_i hm
     split at h
     ·cases h
     ·rename_i k hk; cases h; exact .arFirstE hm (ih _ _ _ hk)
     ·rename_i x j hk; exact .arFirst hm (ih _ _ _ hk) (ih _ _ _ h)
    ·cases h
   | cons a l =>
    rw [rdF] at h
    split at h
    ·rename_i he
     split at h
     ·rename_i hc; cases h; exact .arEnd he hc
     ·rename_i hc; cases h; exact .arEndN he (bool_not hc)
    split at h
    ·rename_i hm
     split at h
     ·rename_i hc
      split at h
      ·cases h
      ·rename_i k hk; cases h; exact .arGoE hm (by simp) hc (ih _ _ _ hk)
      ·rename_i x j hk; exact .arGo hm (by simp) hc (ih _ _ _ hk) (ih _ _ _ h)
     ·rename_i hc; cases h; exact .arGoN hm (by simp) (bool_not hc)
    ·cases h
end
def lexF : Nat → List UInt8 → Nat → Option (List Tok)
 | 0, _, _ => none
 | _ + 1, [], _ => some []
 | f + 1, c :: r, a =>
  if c = 32 ∨ c = 10 then lexF f r (a + 1)
  else if (tokP (c :: r)).2.2 = 0 then (match lexF f ((c :: r).drop (tokP (c :: r)).1) (a + (tokP (c :: r)).1) with | none => none | some l => some (⟨(tokP (c :: r)).2.1, (c :: r).take (tokP (c :: r)).1, a⟩ :: l))
  else none
theorem lexF_sound : ∀ (f : Nat) (s : List UInt8) (a : Nat) (l : List Tok), lexF f s a = some l → lexP s a = .ok l := by
 intro f
 induction f with
 | zero => intro s a l h; cases s <;> cases h
 | succ f ih =>
  intro s a l h
  cases s with
  | nil => rw [lexF] at h; cases h; exact lexP_nil a
  | cons c r =>
   rw [lexF] at h
   split at h
   ·rename_i hb; rw [lexP_blank hb]; exact ih _ _ _ h
   rename_i hb
   split at h
   ·rename_i hk
    split at h
    ·cases h
    ·rename_i l' hl
     cases h
     have := lexP_tok (a := a) (n := (tokP (c :: r)).1) (k := (tokP (c :: r)).2.1) hb (Prod.ext rfl (Prod.ext rfl hk))
     rw [this, ih _ _ _ hl]
     rfl
   ·cases h
end Go.Proofs.YtpbbkpfaphjdoaaGreatDoor
namespace Go.Proofs.YtpbbkpfaphjdoaaGreatDoor
mutual
theorem strip_same : ∀ x y : Ex, exSame (strip x) (strip y) = exSame x y
 | .mk op name v A c args pos, y => by rw [strip, exSame, exSame, strip_op, strip_name, strip_val, strip_args, strip_sames args y.args]
theorem strip_sames : ∀ l m : List Ex, exSames (strips l) (strips m) = exSames l m
 | [], [] => by rw [strips]
 | [], _ :: _ => by rw [strips, strips, exSames, exSames]
 | _ :: _, [] => by rw [strips, strips, exSames, exSames]
 | a :: l, b :: m => by rw [strips, strips, exSames, exSames, strip_same a b, strip_sames l m]
end
end Go.Proofs.YtpbbkpfaphjdoaaGreatDoor
namespace Go.Proofs.YtpbbkpfaphjdoaaGreatDoor
section
variable {T : List Tok} {E : Nat}
theorem accs_ne {m : Nat} {acc : List Ex} (h : acc.length < m) : ¬ acc.length = m := by omega
theorem rdF_full {m : Md} {i : Nat} {r : PR} (h : Rd T E m i r) : ∃ f, ∀ f', f ≤ f' → rdF T E f' m i = some r := by
 have up : ∀ {f f' : Nat}, f + 1 ≤ f' → ∃ g, f' = g + 1 ∧ f ≤ g := fun {f f'} h => ⟨f' - 1, by omega, by omega⟩
 induction h with
 | lvNot h a ih =>
  obtain ⟨f, hf⟩ := ih
  refine ⟨f + 1, fun f' h' => ?_⟩
  obtain ⟨g, rfl, hg⟩ := up h'
  rw [rdF, if_neg (by decide), if_pos ⟨rfl, h⟩, hf g hg]
 | lvNotE h a ih =>
  obtain ⟨f, hf⟩ := ih
  refine ⟨f + 1, fun f' h' => ?_⟩
  obtain ⟨g, rfl, hg⟩ := up h'
  rw [rdF, if_neg (by decide), if_pos ⟨rfl, h⟩, hf g hg]
 | lvUn a ih =>
  obtain ⟨f, hf⟩ := ih
  refine ⟨f + 1, fun f' h' => ?_⟩
  obtain ⟨g, rfl, hg⟩ := up h'
  rw [rdF, if_pos rfl, hf g hg]
 | @lvGo n i x j r hn h a b ih1 ih2 =>
  obtain ⟨f, hf⟩ := ih1
  obtain ⟨f2, hf2⟩ := ih2
  refine ⟨max f f2 + 1, fun f' h' => ?_⟩
  obtain ⟨g, rfl, hg⟩ := up h'
  rw [rdF, if_neg (by omega), if_neg (fun ⟨e, e2⟩ => by rw [h e] at e2; cases e2), if_pos hn, hf g (by omega)]
  exact hf2 g (by omega)
 | @lvGoE n i k hn h a ih =>
  obtain ⟨f, hf⟩ := ih
  refine ⟨f + 1, fun f' h' => ?_⟩
  obtain ⟨g, rfl, hg⟩ := up h'
  rw [rdF, if_neg (by omega), if_neg (fun ⟨e, e2⟩ => by rw [h e] at e2; cases e2), if_pos hn, hf g hg]
 | lpEnd h =>
  refine ⟨1, fun f' h' => ?_⟩
  obtain ⟨g, rfl, -⟩ := up h'
  rw [rdF, h]
 | lpGo h hn a b ih1 ih2 =>
  obtain ⟨f, hf⟩ := ih1
  obtain ⟨f2, hf2⟩ := ih2
  refine ⟨max f f2 + 1, fun f' h' => ?_⟩
  obtain ⟨g, rfl, hg⟩ := up h'
  rw [rdF, h]
  simp only
  rw [hf g (by omega)]
  simp only
  rw [if_neg hn]
  exact hf2 g (by omega)
 | lpOne h a ih =>
  obtain ⟨f, hf⟩ := ih
  refine ⟨f + 1, fun f' h' => ?_⟩
  obtain ⟨g, rfl, hg⟩ := up h'
  rw [rdF, h]
  simp only
  rw [hf g hg]
  simp only
  exact if_pos trivial
 | lpE h a ih =>
  obtain ⟨f, hf⟩ := ih
  refine ⟨f + 1, fun f' h' => ?_⟩
  obtain ⟨g, rfl, hg⟩ := up h'
  rw [rdF, h]
  simp only
  rw [hf g hg]
 | unNeg h a ih =>
  obtain ⟨f, hf⟩ := ih
  refine ⟨f + 1, fun f' h' => ?_⟩
  obtain ⟨g, rfl, hg⟩ := up h'
  rw [rdF, if_pos h, hf g hg]
 | unNegE h a ih =>
  obtain ⟨f, hf⟩ := ih
  refine ⟨f + 1, fun f' h' => ?_⟩
  obtain ⟨g, rfl, hg⟩ := up h'
  rw [rdF, if_pos h, hf g hg]
 | unPr h a ih =>
  obtain ⟨f, hf⟩ := ih
  refine ⟨f + 1, fun f' h' => ?_⟩
  obtain ⟨g, rfl, hg⟩ := up h'
  rw [rdF, if_neg (by rw [h]; decide), hf g hg]
 | prPar h a c ih =>
  obtain ⟨f, hf⟩ := ih
  refine ⟨f + 1, fun f' h' => ?_⟩
  obtain ⟨g, rfl, hg⟩ := up h'
  rw [rdF, if_pos h, hf g hg]
  simp only
  rw [if_pos c]
 | prParN h a c ih =>
  obtain ⟨f, hf⟩ := ih
  refine ⟨f + 1, fun f' h' => ?_⟩
  obtain ⟨g, rfl, hg⟩ := up h'
  rw [rdF, if_pos h, hf g hg]
  simp only
  rw [if_neg (by rw [c]; decide)]
 | prParE h a ih =>
  obtain ⟨f, hf⟩ := ih
  refine ⟨f + 1, fun f' h' => ?_⟩
  obtain ⟨g, rfl, hg⟩ := up h'
  rw [rdF, if_pos h, hf g hg]
 | prLen h o a ih =>
  obtain ⟨f, hf⟩ := ih
  refine ⟨f + 1, fun f' h' => ?_⟩
  obtain ⟨g, rfl, hg⟩ := up h'
  rw [rdF, if_neg (by rw [isT_one h (by decide)]; decide), if_pos h, if_pos o, hf g hg]
 | prIf h o a ih =>
  obtain ⟨f, hf⟩ := ih
  refine ⟨f + 1, fun f' h' => ?_⟩
  obtain ⟨g, rfl, hg⟩ := up h'
  rw [rdF, if_neg (by rw [isT_one h (by decide)]; decide), if_neg (by rw [isT_one h (by decide)]; decide), if_pos h, if_pos o, hf g hg]
 | prLenN h o =>
  refine ⟨1, fun f' h' => ?_⟩
  obtain ⟨g, rfl, -⟩ := up h'
  rw [rdF, if_neg (by rw [isT_one h (by decide)]; decide), if_pos h, if_neg (by rw [o]; decide)]
 | prIfN h o =>
  refine ⟨1, fun f' h' => ?_⟩
  obtain ⟨g, rfl, -⟩ := up h'
  rw [rdF, if_neg (by rw [isT_one h (by decide)]; decide), if_neg (by rw [isT_one h (by decide)]; decide), if_pos h, if_neg (by rw [o]; decide)]
 | prVal h1 h2 h3 c =>
  refine ⟨1, fun f' h' => ?_⟩
  obtain ⟨g, rfl, -⟩ := up h'
  rw [rdF, if_neg (by rw [h1]; decide), if_neg (by rw [h2]; decide), if_neg (by rw [h3]; decide), c]
 | prCol h1 h2 h3 c d =>
  refine ⟨1, fun f' h' => ?_⟩
  obtain ⟨g, rfl, -⟩ := up h'
  rw [rdF, if_neg (by rw [h1]; decide), if_neg (by rw [h2]; decide), if_neg (by rw [h3]; decide), c, d]
 | prNo h1 h2 h3 c d =>
  refine ⟨1, fun f' h' => ?_⟩
  obtain ⟨g, rfl, -⟩ := up h'
  rw [rdF, if_neg (by rw [h1]; decide), if_neg (by rw [h2]; decide), if_neg (by rw [h3]; decide), c, d]
 | @arEnd w p m acc i h c =>
  refine ⟨1, fun f' h' => ?_⟩
  obtain ⟨g, rfl, -⟩ := up h'
  cases acc with
  | nil => rw [rdF, if_pos h, if_pos c]
  | cons y l => rw [rdF, if_pos h, if_pos c]
 | @arEndN w p m acc i h c =>
  refine ⟨1, fun f' h' => ?_⟩
  obtain ⟨g, rfl, -⟩ := up h'
  cases acc with
  | nil => rw [rdF, if_pos h, if_neg (by rw [c]; decide)]
  | cons y l => rw [rdF, if_pos h, if_neg (by rw [c]; decide)]
 | @arFirst w p m i x j r h a b ih1 ih2 =>
  obtain ⟨f, hf⟩ := ih1
  obtain ⟨f2, hf2⟩ := ih2
  refine ⟨max f f2 + 1, fun f' h' => ?_⟩
  obtain ⟨g, rfl, hg⟩ := up h'
  rw [rdF, if_neg (by show ¬ 0 = m; omega), if_pos (by show 0 < m; omega), hf g (by omega)]
  exact hf2 g (by omega)
 | @arFirstE w p m i k h a ih =>
  obtain ⟨f, hf⟩ := ih
  refine ⟨f + 1, fun f' h' => ?_⟩
  obtain ⟨g, rfl, hg⟩ := up h'
  rw [rdF, if_neg (by show ¬ 0 = m; omega), if_pos (by show 0 < m; omega), hf g hg]
 | @arGo w p m acc i x j r h h0 c a b ih1 ih2 =>
  obtain ⟨f, hf⟩ := ih1
  obtain ⟨f2, hf2⟩ := ih2
  refine ⟨max f f2 + 1, fun f' h' => ?_⟩
  obtain ⟨g, rfl, hg⟩ := up h'
  cases acc with
  | nil => exact absurd rfl h0
  | cons y l =>
   rw [rdF, if_neg (accs_ne h), if_pos h, if_pos c, hf g (by omega)]
   exact hf2 g (by omega)
 | @arGoE w p m acc i k h h0 c a ih =>
  obtain ⟨f, hf⟩ := ih
  refine ⟨f + 1, fun f' h' => ?_⟩
  obtain ⟨g, rfl, hg⟩ := up h'
  cases acc with
  | nil => exact absurd rfl h0
  | cons y l => rw [rdF, if_neg (accs_ne h), if_pos h, if_pos c, hf g hg]
 | @arGoN w p m acc i h h0 c =>
  refine ⟨1, fun f' h' => ?_⟩
  obtain ⟨g, rfl, -⟩ := up h'
  cases acc with
  | nil => exact absurd rfl h0
  | cons y l => rw [rdF, if_neg (accs_ne h), if_pos h, if_neg (by rw [c]; decide)]
theorem rd_one {m : Md} {i : Nat} {r r' : PR} (h : Rd T E m i r) (h' : Rd T E m i r') : r = r' := by
 obtain ⟨f, hf⟩ := rdF_full h
 obtain ⟨g, hg⟩ := rdF_full h'
 have h1 := hf (max f g) (by omega)
 have h2 := hg (max f g) (by omega)
 rw [h1] at h2
 injection h2
noncomputable def rdX (T : List Tok) (E i : Nat) : PR := if h : i ≤ T.length then Classical.choose (rd_all (T := T) E _ (.lv 0) i (show (0 : Nat) ≤ 5 by decide) h (Nat.le_refl _)) else .error E
theorem rdX_rd {i : Nat} (h : i ≤ T.length) : Rd T E (.lv 0) i (rdX T E i) := by
 unfold rdX
 rw [dif_pos h]
 exact Classical.choose_spec (rd_all (T := T) E _ (.lv 0) i (show (0 : Nat) ≤ 5 by decide) h (Nat.le_refl _))
theorem rdX_is {i : Nat} {r : PR} (h : Rd T E (.lv 0) i r) (hi : i ≤ T.length) : rdX T E i = r := rd_one (rdX_rd hi) h
end
end Go.Proofs.YtpbbkpfaphjdoaaGreatDoor
namespace Go.Proofs.YtpbbkpfaphjdoaaGreatDoor
def qSelect : List UInt8 := [115, 101, 108, 101, 99, 116]
def qAs : List UInt8 := [97, 115]
def qFrom : List UInt8 := [102, 114, 111, 109]
def qWhere : List UInt8 := [119, 104, 101, 114, 101]
def qGroup : List UInt8 := [103, 114, 111, 117, 112]
def qBy : List UInt8 := [98, 121]
def qWindow : List UInt8 := [119, 105, 110, 100, 111, 119]
def qSlide : List UInt8 := [115, 108, 105, 100, 101]
def qCount : List UInt8 := [99, 111, 117, 110, 116]
def qSum : List UInt8 := [115, 117, 109]
def qLeast : List UInt8 := [108, 101, 97, 115, 116]
def qMost : List UInt8 := [109, 111, 115, 116]
def aggL : List (List UInt8) := [qCount, qSum, qLeast, qMost]
structure AggP where
 what : List UInt8
 of : Ex
 name : List UInt8
structure QP where
 from_ : List UInt8
 wher : Ex
 cols : List Ex
 names : List (List UInt8)
 group : List (List UInt8)
 size : Int
 slide : Int
 aggs : List AggP
def zeroX : Ex := .mk ⟨#[]⟩ ⟨#[]⟩ noVal none 0 [] 0
def zeroQ : QP := ⟨[], zeroX, [], [], [], 0, 0, []⟩
abbrev QR (α : Type) := Except Nat (α × Nat)
section
variable (T : List Tok) (E : Nat) (X : Nat → PR)
def isAg (i : Nat) : Bool := aggL.any (fun s => isT T i s)
def needQ (s : List UInt8) (i : Nat) : Except Nat Nat := if isT T i s = true then .ok (i + 1) else .error (atT T E i)
def nameQ (i : Nat) : QR (List UInt8) := match nameT T i with
 | some s => .ok (s, i + 1)
 | none => .error (atT T E i)
def numQ (i : Nat) : QR Int := match T[i]? with
 | some t => if t.kind = 2 then .ok ((readP t.text).1.n, i + 1) else .error (atT T E i)
 | none => .error (atT T E i)
def asQ (i : Nat) : QR (List UInt8) := (needQ T E qAs i).bind fun j => nameQ T E j
def ofQ (i : Nat) : QR Ex := (needQ T E wOpen i).bind fun j => (X j).bind fun x => (needQ T E wClose x.2).bind fun k => .ok (x.1, k)
def aggQ (i : Nat) : QR AggP :=
 if isAg T i = true then
  if textT T i = qCount then (asQ T E (i + 1)).bind fun s => .ok (⟨qCount, zeroX, s.1⟩, s.2)
  else (ofQ T E X (i + 1)).bind fun x => (asQ T E x.2).bind fun s => .ok (⟨textT T i, x.1, s.1⟩, s.2)
 else .error (atT T E i)
def colsQ : Nat → QP → Nat → QR QP
 | 0, _, i => .error i
 | f + 1, q, i => (X i).bind fun x => (asQ T E x.2).bind fun s =>
  if isT T s.2 wComma = true then colsQ f { q with cols := q.cols ++ [x.1], names := q.names ++ [s.1] } (s.2 + 1) else .ok ({ q with cols := q.cols ++ [x.1], names := q.names ++ [s.1] }, s.2)
def aggsQ : Nat → QP → Nat → QR QP
 | 0, _, i => .error i
 | f + 1, q, i => (aggQ T E X i).bind fun a =>
  if isT T a.2 wComma = true then aggsQ f { q with aggs := q.aggs ++ [a.1] } (a.2 + 1) else .ok ({ q with aggs := q.aggs ++ [a.1] }, a.2)
def grpQ : Nat → QP → Nat → QR QP
 | 0, _, i => .error i
 | f + 1, q, i => (nameQ T E i).bind fun s =>
  if isT T s.2 wComma = true then grpQ f { q with group := q.group ++ [s.1] } (s.2 + 1) else .ok ({ q with group := q.group ++ [s.1] }, s.2)
def winQ (q : QP) (i : Nat) : QR QP := (needQ T E qWindow i).bind fun j => (numQ T E j).bind fun n =>
 if isT T n.2 qSlide = true then (numQ T E (n.2 + 1)).bind fun m => .ok ({ q with size := n.1, slide := m.1 }, m.2) else .ok ({ q with size := n.1, slide := n.1 }, n.2)
def groupQ (q : QP) (i : Nat) : QR QP := (needQ T E qGroup i).bind fun j => (needQ T E qBy j).bind fun k => (grpQ T E (T.length + 1) q k).bind fun p => winQ T E p.1 p.2
def itemsQ (q : QP) (i : Nat) : QR QP := if isAg T i = true then aggsQ T E X (T.length + 1) q i else colsQ T E X (T.length + 1) q i
def fromQ (q : QP) (i : Nat) : QR QP := (needQ T E qFrom i).bind fun j => (nameQ T E j).bind fun s =>
 if isT T s.2 qWhere = true then (X (s.2 + 1)).bind fun x => .ok ({ q with from_ := s.1, wher := x.1 }, x.2) else .ok ({ q with from_ := s.1 }, s.2)
def readQ' : QR QP := (needQ T E qSelect 0).bind fun i => (itemsQ T E X zeroQ i).bind fun p => (fromQ T E X p.1 p.2).bind fun q =>
 if isAg T i = true then groupQ T E q.1 q.2 else .ok q
end
def Oracle (T : List Tok) (E : Nat) (X : Nat → PR) : Prop := ∀ i, i ≤ T.length → Rd T E (.lv 0) i (X i)
def fullQ (q : QP) : Bool := q.cols.any fullB || fullB q.wher || q.aggs.any (fun a => fullB a.of)
def QryIs (l : List UInt8) (R : Except (Int × Int) QP) : Prop :=
 (∃ h p, lexS l = .bad h p ∧ R = .error (h, (p : Int))) ∨
 ∃ T X, lexS l = .ok T ∧ Oracle T l.length X ∧ ((∃ k : Nat, readQ' T l.length X = .error k ∧ R = .error (2, (k : Int))) ∨
  ∃ q j, readQ' T l.length X = .ok (q, j) ∧ ((j < T.length ∧ R = .error (2, (atT T l.length j : Int))) ∨ (T.length ≤ j ∧ ((fullQ q = true ∧ R = .error (4, 0)) ∨ (fullQ q = false ∧ R = .ok q)))))
theorem oracle_x (T : List Tok) (E : Nat) : Oracle T E (rdX T E) := fun _ h => rdX_rd h
theorem qry_all (l : List UInt8) : ∃ R, QryIs l R := by
 cases h : lexS l with
 | bad e p => exact ⟨_, Or.inl ⟨e, p, h, rfl⟩⟩
 | ok T =>
  cases hr : readQ' T l.length (rdX T l.length) with
  | error k => exact ⟨_, Or.inr ⟨T, _, h, oracle_x _ _, Or.inl ⟨k, hr, rfl⟩⟩⟩
  | ok p =>
   obtain ⟨q, j⟩ := p
   by_cases hj : j < T.length
   ·exact ⟨_, Or.inr ⟨T, _, h, oracle_x _ _, Or.inr ⟨q, j, hr, Or.inl ⟨hj, rfl⟩⟩⟩⟩
   ·cases hf : fullQ q with
    | true => exact ⟨_, Or.inr ⟨T, _, h, oracle_x _ _, Or.inr ⟨q, j, hr, Or.inr ⟨by omega, Or.inl ⟨hf, rfl⟩⟩⟩⟩⟩
    | false => exact ⟨_, Or.inr ⟨T, _, h, oracle_x _ _, Or.inr ⟨q, j, hr, Or.inr ⟨by omega, Or.inr ⟨hf, rfl⟩⟩⟩⟩⟩
end Go.Proofs.YtpbbkpfaphjdoaaGreatDoor
