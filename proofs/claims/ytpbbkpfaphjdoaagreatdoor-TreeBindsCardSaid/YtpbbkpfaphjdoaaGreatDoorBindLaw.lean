/- Expressions read of words by so much fuel, plain: what it comes to is what is read. What binds tighter, plain: three names with two signs between, as they stand and with brackets. -/
import Derived.Test.YtpbbkpfaphjdoaaGreatDoorRdLaw
import Derived.Test.YtpbbkpfaphjdoaaGreatDoorRdParse
import Derived.Test.YtpbbkpfaphjdoaaGreatDoorSameEx
namespace Go.Proofs.YtpbbkpfaphjdoaaGreatDoor

section
variable (T : List Tok) (E : Nat)
def rdF : Nat → Md → Nat → Option PR
  | 0, _, _ => none
  | f + 1, .lv n, i =>
    if n = 5 then rdF f .un i
    else if n = 2 ∧ isT T i wNot = true then (match rdF f (.lv 2) (i + 1) with | none => none | some (.error k) => some (.error k) | some (.ok (x, j)) => some (.ok (opEx wNot [x] (atT T E i), j)))
    else if n < 5 then (match rdF f (.lv (n + 1)) i with | none => none | some (.error k) => some (.error k) | some (.ok (x, j)) => rdF f (.lp n x) j)
    else none
  | f + 1, .lp n e, i =>
    match sgT T n i with
    | none => some (.ok (e, i))
    | some s => (match rdF f (.lv (n + 1)) (i + 1) with | none => none | some (.error k) => some (.error k) | some (.ok (x, j)) => if n = 2 then some (.ok (opEx s [e, x] (atT T E i), j)) else rdF f (.lp n (opEx s [e, x] (atT T E i))) j)
  | f + 1, .un, i =>
    if isT T i wMinus = true then (match rdF f .un (i + 1) with | none => none | some (.error k) => some (.error k) | some (.ok (x, j)) => some (.ok (opEx wNeg [x] (atT T E i), j)))
    else rdF f .pr i
  | f + 1, .pr, i =>
    if isT T i wOpen = true then (match rdF f (.lv 0) (i + 1) with | none => none | some (.error k) => some (.error k) | some (.ok (x, j)) => if isT T j wClose = true then some (.ok (x, j + 1)) else some (.error (atT T E j)))
    else if isT T i wLen = true then (if isT T (i + 1) wOpen = true then rdF f (.ar wLen (atT T E i) 1 []) (i + 2) else some (.error (atT T E (i + 1))))
    else if isT T i wIf = true then (if isT T (i + 1) wOpen = true then rdF f (.ar wIf (atT T E i) 3 []) (i + 2) else some (.error (atT T E (i + 1))))
    else match valT T i with
      | some v => some (.ok (valEx v (atT T E i), i + 1))
      | none => (match nameT T i with | some s => some (.ok (colEx s (atT T E i), i + 1)) | none => some (.error (atT T E i)))
  | f + 1, .ar w p m acc, i =>
    if acc.length = m then (if isT T i wClose = true then some (.ok (opEx w acc p, i + 1)) else some (.error (atT T E i)))
    else if acc.length < m then
      (match acc with
      | [] => (match rdF f (.lv 0) i with | none => none | some (.error k) => some (.error k) | some (.ok (x, j)) => rdF f (.ar w p m [x]) j)
      | a :: l => if isT T i wComma = true then (match rdF f (.lv 0) (i + 1) with | none => none | some (.error k) => some (.error k) | some (.ok (x, j)) => rdF f (.ar w p m (a :: l ++ [x])) j) else some (.error (atT T E i)))
    else none
theorem bool_not {b : Bool} (h : ¬ b = true) : b = false := by cases b <;> simp_all
theorem rdF_sound : ∀ (f : Nat) (m : Md) (i : Nat) (r : PR), rdF T E f m i = some r → Rd T E m i r := by
  intro f
  induction f with
  | zero => intro m i r h; cases m <;> simp [rdF] at h
  | succ f ih =>
    intro m i r h
    cases m with
    | lv n =>
      rw [rdF] at h
      split at h
      · rename_i h5; subst h5; exact .lvUn (ih _ _ _ h)
      split at h
      · rename_i h2
        obtain ⟨rfl, h2⟩ := h2
        split at h
        · cases h
        · rename_i k hk; cases h; exact .lvNotE h2 (ih _ _ _ hk)
        · rename_i x j hk; cases h; exact .lvNot h2 (ih _ _ _ hk)
      rename_i h2
      split at h
      · rename_i hn
        have h2' : n = 2 → isT T i wNot = false := fun e => bool_not (fun hx => h2 ⟨e, hx⟩)
        split at h
        · cases h
        · rename_i k hk; cases h; exact .lvGoE hn h2' (ih _ _ _ hk)
        · rename_i x j hk; exact .lvGo hn h2' (ih _ _ _ hk) (ih _ _ _ h)
      · cases h
    | lp n e =>
      rw [rdF] at h
      split at h
      · rename_i hs; cases h; exact .lpEnd hs
      · rename_i s hs
        split at h
        · cases h
        · rename_i k hk; cases h; exact .lpE hs (ih _ _ _ hk)
        · rename_i x j hk
          split at h
          · rename_i h2; subst h2; cases h; exact .lpOne hs (ih _ _ _ hk)
          · rename_i h2; exact .lpGo hs h2 (ih _ _ _ hk) (ih _ _ _ h)
    | un =>
      rw [rdF] at h
      split at h
      · rename_i hm
        split at h
        · cases h
        · rename_i k hk; cases h; exact .unNegE hm (ih _ _ _ hk)
        · rename_i x j hk; cases h; exact .unNeg hm (ih _ _ _ hk)
      · rename_i hm; exact .unPr (bool_not hm) (ih _ _ _ h)
    | pr =>
      rw [rdF] at h
      split at h
      · rename_i ho
        split at h
        · cases h
        · rename_i k hk; cases h; exact .prParE ho (ih _ _ _ hk)
        · rename_i x j hk
          split at h
          · rename_i hc; cases h; exact .prPar ho (ih _ _ _ hk) hc
          · rename_i hc; cases h; exact .prParN ho (ih _ _ _ hk) (bool_not hc)
      rename_i ho
      split at h
      · rename_i hl
        split at h
        · rename_i hb; exact .prLen hl hb (ih _ _ _ h)
        · rename_i hb; cases h; exact .prLenN hl (bool_not hb)
      rename_i hl
      split at h
      · rename_i hf
        split at h
        · rename_i hb; exact .prIf hf hb (ih _ _ _ h)
        · rename_i hb; cases h; exact .prIfN hf (bool_not hb)
      rename_i hf
      split at h
      · rename_i v hv; cases h; exact .prVal (bool_not ho) (bool_not hl) (bool_not hf) hv
      · rename_i hv
        split at h
        · rename_i s hs; cases h; exact .prCol (bool_not ho) (bool_not hl) (bool_not hf) hv hs
        · rename_i hs; cases h; exact .prNo (bool_not ho) (bool_not hl) (bool_not hf) hv hs
    | ar w p m acc =>
      cases acc with
      | nil =>
        rw [rdF] at h
        split at h
        · rename_i he
          split at h
          · rename_i hc; cases h; exact .arEnd he hc
          · rename_i hc; cases h; exact .arEndN he (bool_not hc)
        split at h
        · rename_i hm
          split at h
          · cases h
          · rename_i k hk; cases h; exact .arFirstE hm (ih _ _ _ hk)
          · rename_i x j hk; exact .arFirst hm (ih _ _ _ hk) (ih _ _ _ h)
        · cases h
      | cons a l =>
        rw [rdF] at h
        split at h
        · rename_i he
          split at h
          · rename_i hc; cases h; exact .arEnd he hc
          · rename_i hc; cases h; exact .arEndN he (bool_not hc)
        split at h
        · rename_i hm
          split at h
          · rename_i hc
            split at h
            · cases h
            · rename_i k hk; cases h; exact .arGoE hm (by simp) hc (ih _ _ _ hk)
            · rename_i x j hk; exact .arGo hm (by simp) hc (ih _ _ _ hk) (ih _ _ _ h)
          · rename_i hc; cases h; exact .arGoN hm (by simp) (bool_not hc)
        · cases h
end
/-- Words by so much fuel. -/
def lexF : Nat → List UInt8 → Nat → Option (List Tok)
  | 0, _, _ => none
  | _ + 1, [], _ => some []
  | f + 1, c :: r, a =>
    if c = 32 ∨ c = 10 then lexF f r (a + 1)
    else if (tokP (c :: r)).2.2 = 0 then (match lexF f ((c :: r).drop (tokP (c :: r)).1) (a + (tokP (c :: r)).1) with | none => none | some l => some (⟨(tokP (c :: r)).2.1, (c :: r).take (tokP (c :: r)).1, a⟩ :: l))
    else none
theorem lexF_sound : ∀ (f : Nat) (s : List UInt8) (a : Nat) (l : List Tok), lexF f s a = some l → lexP s a = .ok l := by
  intro f
  induction f with
  | zero => intro s a l h; cases s <;> cases h
  | succ f ih =>
    intro s a l h
    cases s with
    | nil => rw [lexF] at h; cases h; exact lexP_nil a
    | cons c r =>
      rw [lexF] at h
      split at h
      · rename_i hb; rw [lexP_blank hb]; exact ih _ _ _ h
      rename_i hb
      split at h
      · rename_i hk
        split at h
        · cases h
        · rename_i l' hl
          cases h
          have := lexP_tok (a := a) (n := (tokP (c :: r)).1) (k := (tokP (c :: r)).2.1) hb (Prod.ext rfl (Prod.ext rfl hk))
          rw [this, ih _ _ _ hl]
          rfl
      · cases h
end Go.Proofs.YtpbbkpfaphjdoaaGreatDoor
namespace Go.Proofs.YtpbbkpfaphjdoaaGreatDoor

mutual
theorem strip_same : ∀ x y : Ex, exSame (strip x) (strip y) = exSame x y
  | .mk op name v A c args pos, y => by rw [strip, exSame, exSame, strip_op, strip_name, strip_val, strip_args, strip_sames args y.args]
theorem strip_sames : ∀ l m : List Ex, exSames (strips l) (strips m) = exSames l m
  | [], [] => by rw [strips]
  | [], _ :: _ => by rw [strips, strips, exSames, exSames]
  | _ :: _, [] => by rw [strips, strips, exSames, exSames]
  | a :: l, b :: m => by rw [strips, strips, exSames, exSames, strip_same a b, strip_sames l m]
end
/-- A text's expression, by so much fuel. -/
def parseF (l : List UInt8) : Option (Except (Int × Int) Ex) :=
  match lexF 100 l 0 with
  | none => none
  | some T => match rdF T l.length 100 (.lv 0) 0 with
    | none => none
    | some (.error k) => some (.error (2, (k : Int)))
    | some (.ok (x, j)) => if j < T.length then some (.error (2, (atT T l.length j : Int))) else if fullB x = true then some (.error (4, 0)) else some (.ok x)
theorem parseF_sound {l : List UInt8} {R : Except (Int × Int) Ex} (hl : l.length ≤ 400) (h : parseF l = some R) : ParseIs l R := by
  unfold parseF at h
  split at h
  · cases h
  · rename_i T hT
    have hlx : lexS l = .ok T := by rw [lexS_len hl]; exact lexF_sound _ _ _ _ hT
    split at h
    · cases h
    · rename_i k hk
      cases h
      exact Or.inr ⟨T, _, hlx, rdF_sound _ _ _ _ _ _ hk, Or.inl ⟨k, rfl, rfl⟩⟩
    · rename_i x j hk
      refine Or.inr ⟨T, _, hlx, rdF_sound _ _ _ _ _ _ hk, Or.inr ⟨x, j, rfl, ?_⟩⟩
      split at h
      · rename_i hj; cases h; exact Or.inl ⟨hj, rfl⟩
      · rename_i hj
        split at h
        · rename_i hf; cases h; exact Or.inr ⟨by omega, Or.inl ⟨hf, rfl⟩⟩
        · rename_i hf; cases h; exact Or.inr ⟨by omega, Or.inr ⟨bool_not hf, rfl⟩⟩
def sgB (k : Nat) : List UInt8 := [[111, 114], [97, 110, 100], [61], [60], [43], [45], [42], [47], [37]].getD k []
def lvB9 (k : Nat) : Nat := [0, 1, 2, 2, 3, 3, 4, 4, 4].getD k 0
/-- x a y b z. -/
def txt3 (a b : Nat) : List UInt8 := [120, 32] ++ sgB a ++ [32, 121, 32] ++ sgB b ++ [32, 122]
/-- With brackets. -/
def txtL (a b : Nat) : List UInt8 := [40, 120, 32] ++ sgB a ++ [32, 121, 41, 32] ++ sgB b ++ [32, 122]
def txtR (a b : Nat) : List UInt8 := [120, 32] ++ sgB a ++ [32, 40, 121, 32] ++ sgB b ++ [32, 122, 41]
def bindOk (a b : Nat) : Bool :=
  match parseF (txt3 a b) with
  | some (.error (h, p)) => lvB9 a == 2 && lvB9 b == 2 && h == 2 && p == 5 + ((sgB a).length : Int)
  | some (.ok x) => !(lvB9 a == 2 && lvB9 b == 2) && (match parseF (if lvB9 a < lvB9 b then txtR a b else txtL a b) with
    | some (.ok y) => exSame x y
    | _ => false)
  | none => false
theorem bind_all : (List.range 9).all (fun a => (List.range 9).all fun b => bindOk a b) = true := by kernel_rfl
end Go.Proofs.YtpbbkpfaphjdoaaGreatDoor
