/- Numbers and values as text and back, plain: what is shown is read as it was; what is read is shown as it was; the document's reading is the program's. -/
import Derived.Test.YtpbbkpfaphjdoaaGreatDoorLexLaw
import Derived.Lib.AtoiAllCases
namespace Go.Proofs.YtpbbkpfaphjdoaaGreatDoor

theorem dig_toNat {d : Nat} (h : d < 10) : (UInt8.ofNat (48 + d)).toNat = 48 + d := by
  rw [UInt8.toNat_ofNat']; omega
theorem dig_of {b : UInt8} (h : isD b = true) : UInt8.ofNat (48 + (b.toNat - 48)) = b ∧ b.toNat - 48 < 10 ∧ 48 ≤ b.toNat := by
  unfold isD at h
  have h := of_decide_eq_true h
  refine ⟨?_, by omega, h.1⟩
  apply UInt8.toNat_inj.1
  rw [dig_toNat (by omega)]; omega
theorem isD_dig {d : Nat} (h : d < 10) : isD (UInt8.ofNat (48 + d)) = true := by
  unfold isD; rw [dig_toNat h]; exact decide_eq_true ⟨by omega, by omega⟩
theorem dec_back : ∀ (m n : Nat), n ≤ m → decN (Lib.decDigits n) = n ∧ (Lib.decDigits n).all isD = true ∧ Lib.decDigits n ≠ [] ∧ ((Lib.decDigits n).head? = some 48 → n = 0)
  | 0, n, h => by
    obtain rfl : n = 0 := by omega
    rw [dec_one (by omega)]
    exact ⟨rfl, rfl, by simp, fun _ => rfl⟩
  | m + 1, n, h => by
    by_cases h10 : n < 10
    · rw [dec_one h10]
      refine ⟨?_, ?_, by simp, fun hh => ?_⟩
      · show decA 0 [UInt8.ofNat (48 + n)] = n
        rw [decA_cons, decA_nil, dig_toNat h10]; omega
      · rw [List.all_cons, isD_dig h10]; rfl
      · rw [List.head?_cons] at hh
        injection hh with hh
        have := congrArg UInt8.toNat hh
        rw [dig_toNat h10] at this
        have : (48 : UInt8).toNat = 48 := rfl
        omega
    · obtain ⟨h1, h2, h3, h4⟩ := dec_back m (n / 10) (by omega)
      rw [dec_next h10]
      refine ⟨?_, ?_, by simp, fun hh => ?_⟩
      · rw [decN_snoc, h1, dig_toNat (by omega)]; omega
      · rw [List.all_append, h2, List.all_cons, isD_dig (show n % 10 < 10 by omega)]; rfl
      · have : (Lib.decDigits (n / 10)).head? = some 48 := by
          cases hd : Lib.decDigits (n / 10) with
          | nil => exact (h3 hd).elim
          | cons c r => rw [hd] at hh; exact hh
        have := h4 this
        omega
theorem dec_again : ∀ (k : Nat) (l : List UInt8), l.length ≤ k → l ≠ [] → l.all isD = true → ¬ (l.head? = some 48 ∧ 1 < l.length) → Lib.decDigits (decN l) = l
  | 0, l, hk, hn, _, _ => (hn (List.eq_nil_of_length_eq_zero (by omega))).elim
  | k + 1, l, hk, hn, hd, hz => by
    obtain ⟨a, b, rfl⟩ : ∃ a b, l = a ++ [b] := ⟨l.dropLast, l.getLast hn, (List.dropLast_concat_getLast hn).symm⟩
    rw [List.all_append] at hd
    simp only [List.all_cons, List.all_nil, Bool.and_true, Bool.and_eq_true] at hd
    obtain ⟨hda, hdb⟩ := hd
    obtain ⟨e1, e2, e3⟩ := dig_of hdb
    rw [decN_snoc]
    cases a with
    | nil =>
      show Lib.decDigits (0 * 10 + (b.toNat - 48)) = [b]
      rw [show 0 * 10 + (b.toNat - 48) = b.toNat - 48 by omega, dec_one e2, e1]
    | cons c r =>
      have hc48 : c ≠ 48 := fun e => hz ⟨by rw [e]; rfl, by simp⟩
      have hcd : isD c = true := by simp only [List.all_cons, Bool.and_eq_true] at hda; exact hda.1
      obtain ⟨_, _, f3⟩ := dig_of hcd
      have hge := decA_ge r (0 * 10 + (c.toNat - 48))
      have hne : c.toNat ≠ 48 := fun e => hc48 (UInt8.toNat_inj.1 e)
      have hp : 1 ≤ 10 ^ r.length := Nat.pow_pos (by omega)
      have h3 : 10 ^ r.length ≤ (0 * 10 + (c.toNat - 48)) * 10 ^ r.length := Nat.le_mul_of_pos_left _ (by omega)
      have h4 : decN (c :: r) = decA (0 * 10 + (c.toNat - 48)) r := by unfold decN; rw [decA_cons]
      have ih := dec_again k (c :: r) (by simp at hk ⊢; omega) (by simp) hda (fun h => hc48 (by simpa using h.1))
      generalize decN (c :: r) = N at *
      rw [dec_next (by omega), show (N * 10 + (b.toNat - 48)) / 10 = N by omega, show (N * 10 + (b.toNat - 48)) % 10 = b.toNat - 48 by omega, ih, e1]
theorem numP_iff (l : List UInt8) (n : Nat) : numP l = some n ↔ l = Lib.decDigits n ∧ n ≤ 9223372036854775807 := by
  constructor
  · intro h
    unfold numP at h
    split at h
    · cases h
    · rename_i hh
      simp only [not_or] at hh
      obtain ⟨h1, h2, h3, h4, h5⟩ := hh
      injection h with h
      subst h
      exact ⟨(dec_again l.length l (Nat.le_refl _) h1 (by simpa using h4) h2).symm, by omega⟩
  · rintro ⟨rfl, hn⟩
    obtain ⟨h1, h2, h3, h4⟩ := dec_back n n (Nat.le_refl _)
    rw [numP_digits h3 h2 (fun h => by
      have := h4 h.1
      subst this
      have h5 := h.2
      rw [dec_one (by omega)] at h5
      simp at h5), h1]
    unfold numOk
    rw [h1, if_pos (decide_eq_true hn)]
theorem itoa_pos (n : Nat) : Lib.itoa (n : Int) = Lib.decDigits n := by unfold Lib.itoa; rw [if_neg (by omega)]; rfl
theorem itoa_minus {m : Nat} (h : 1 ≤ m) : Lib.itoa (-(m : Int)) = 45 :: Lib.decDigits m := by unfold Lib.itoa; rw [if_pos (by omega), Int.natAbs_neg]; rfl
def fitsN (n : Int) : Prop := -9223372036854775808 ≤ n ∧ n ≤ 9223372036854775807
theorem fits_cases {n : Int} (h : fitsN n) : (∃ m : Nat, n = (m : Int) ∧ m ≤ 9223372036854775807) ∨ ∃ m : Nat, n = -(m : Int) ∧ 1 ≤ m ∧ m ≤ 9223372036854775808 := by
  unfold fitsN at h
  by_cases hn : n < 0
  · exact Or.inr ⟨n.natAbs, by omega, by omega, by omega⟩
  · exact Or.inl ⟨n.toNat, by omega, by omega⟩
theorem dec_head {n : Nat} : ∃ c r, Lib.decDigits n = c :: r ∧ isD c = true := by
  obtain ⟨h1, h2, h3, h4⟩ := dec_back n n (Nat.le_refl _)
  cases hd : Lib.decDigits n with
  | nil => exact (h3 hd).elim
  | cons c r => rw [hd] at h2; exact ⟨c, r, rfl, by simp only [List.all_cons, Bool.and_eq_true] at h2; exact h2.1⟩
theorem itoa_head {n : Int} (h : fitsN n) : ∃ c r, Lib.itoa n = c :: r ∧ (isD c = true ∨ c = 45) := by
  rcases fits_cases h with ⟨m, rfl, _⟩ | ⟨m, rfl, hm, _⟩
  · obtain ⟨c, r, h1, h2⟩ := dec_head (n := m)
    exact ⟨c, r, by rw [itoa_pos, h1], Or.inl h2⟩
  · exact ⟨45, _, itoa_minus hm, Or.inr rfl⟩
theorem mag_digits {l : List UInt8} (hn : l ≠ []) (h : l.all isD = true) : Lib.parseMag l = if decN l < 18446744073709551616 then .ok (decN l) else .range := by
  rw [show Lib.parseMag l = Lib.parseUint10 0 l from if_neg hn, parse10 _ _ (by decide) h]; rfl
theorem atoi_itoa {n : Int} (h : fitsN n) : Lib.atoiAll (Lib.itoa n) = .ok n := by
  rcases fits_cases h with ⟨m, rfl, hm⟩ | ⟨m, rfl, hm, hm2⟩
  · obtain ⟨h1, h2, h3, _⟩ := dec_back m m (Nat.le_refl _)
    rw [itoa_pos, atoi_digits h3 h2]
    unfold numOk
    rw [h1, if_pos (decide_eq_true hm)]
  · obtain ⟨h1, h2, h3, _⟩ := dec_back m m (Nat.le_refl _)
    rw [itoa_minus hm, Lib.atoiAll_minus, mag_digits h3 h2, h1, if_pos (by omega)]
    show (if 9223372036854775808 < m then _ else _) = _
    rw [if_neg (by omega)]
/-- A number's text, by the program. -/
def readN (l : List UInt8) : Val × Int := match Lib.atoiAll l with
  | .ok n => if Lib.itoa n = l then (ofV n, 0) else (noVal, 2)
  | _ => (noVal, 2)
theorem readN_itoa {n : Int} (h : fitsN n) : readN (Lib.itoa n) = (ofV n, 0) := by unfold readN; rw [atoi_itoa h]; exact if_pos rfl
theorem readN_no {l : List UInt8} (h : ¬ ∃ n, fitsN n ∧ l = Lib.itoa n) : readN l = (noVal, 2) := by
  unfold readN
  cases ha : Lib.atoiAll l with
  | ok n => exact if_neg (fun e => h ⟨n, Lib.atoiAll_bounds ha, e.symm⟩)
  | _ => rfl
def minL : List UInt8 := [45, 57, 50, 50, 51, 51, 55, 50, 48, 51, 54, 56, 53, 52, 55, 55, 53, 56, 48, 56]
theorem itoa_min : Lib.itoa (-9223372036854775808) = minL := by
  rw [show (-9223372036854775808 : Int) = -((9223372036854775808 : Nat) : Int) by rfl, itoa_minus (by omega)]
  have h : decN [57, 50, 50, 51, 51, 55, 50, 48, 51, 54, 56, 53, 52, 55, 55, 53, 56, 48, 56] = 9223372036854775808 := by decide +kernel
  rw [← h, dec_again 100 _ (by decide) (by decide) (by decide) (by decide)]; rfl
/-- A number's text, by the document. -/
def readM (l : List UInt8) : Val × Int :=
  if l = minL then (ofV (-9223372036854775808), 0)
  else if l.head? = some 45 then (match numP l.tail with | none => (noVal, 2) | some n => if n = 0 then (noVal, 2) else (ofV (-(n : Int)), 0))
  else match numP l with | none => (noVal, 2) | some n => (ofV n, 0)
theorem readN_eq (l : List UInt8) : readN l = readM l := by
  by_cases h : ∃ n, fitsN n ∧ l = Lib.itoa n
  · obtain ⟨n, hf, rfl⟩ := h
    rw [readN_itoa hf]
    unfold readM
    rcases fits_cases hf with ⟨m, rfl, hm⟩ | ⟨m, rfl, hm, hm2⟩
    · obtain ⟨c, r, h1, h2⟩ := dec_head (n := m)
      have hc : c ≠ 45 := fun e => by subst e; exact absurd h2 (by decide)
      rw [itoa_pos, if_neg (by rw [h1]; unfold minL; intro e; injection e with e _; exact hc e), if_neg (by rw [h1]; simpa using hc), (numP_iff _ m).2 ⟨rfl, hm⟩]
    · by_cases hx : m = 9223372036854775808
      · subst hx
        rw [if_pos (show Lib.itoa (-((9223372036854775808 : Nat) : Int)) = minL from itoa_min)]
        rfl
      · rw [if_neg (fun e => by
          have h1 := atoi_itoa hf
          rw [e, ← itoa_min, atoi_itoa (by unfold fitsN; omega)] at h1
          injection h1 with h1
          omega), itoa_minus hm, if_pos (show (45 :: Lib.decDigits m).head? = some 45 from rfl)]
        rw [show (45 :: Lib.decDigits m).tail = Lib.decDigits m from rfl, (numP_iff _ m).2 ⟨rfl, by omega⟩]
        simp only
        rw [if_neg (by omega)]
  · rw [readN_no h]
    unfold readM
    rw [if_neg (fun e => h ⟨_, ⟨by omega, by omega⟩, e.trans itoa_min.symm⟩)]
    split
    · rename_i h45
      obtain ⟨r, rfl⟩ : ∃ r, l = 45 :: r := by
        cases l with
        | nil => cases h45
        | cons c r => exact ⟨r, by rw [show c = 45 by simpa using h45]⟩
      cases hp : numP (45 :: r).tail with
      | none => rfl
      | some n =>
        simp only
        split
        · rfl
        · rename_i hn
          obtain ⟨h1, h2⟩ := (numP_iff _ n).1 hp
          refine (h ⟨-(n : Int), ⟨by omega, by omega⟩, ?_⟩).elim
          rw [itoa_minus (by omega), ← h1]; rfl
    · cases hp : numP l with
      | none => rfl
      | some n =>
        obtain ⟨h1, h2⟩ := (numP_iff _ n).1 hp
        exact (h ⟨(n : Int), ⟨by omega, by omega⟩, by rw [itoa_pos, ← h1]⟩).elim
def tTrue : List UInt8 := [116, 114, 117, 101]
def tFalse : List UInt8 := [102, 97, 108, 115, 101]
/-- A text as a value; the fault. -/
def readP (l : List UInt8) : Val × Int :=
  if l = tTrue then (truthV true, 0) else if l = tFalse then (truthV false, 0)
  else if l.head? = some 39 then readQ l.tail else readN l
theorem readP_quote (r : List UInt8) : readP (39 :: r) = readQ r := by
  unfold readP
  rw [if_neg (by unfold tTrue; simp), if_neg (by unfold tFalse; simp), if_pos (show (39 :: r).head? = some 39 from rfl)]; rfl
theorem readP_itoa {n : Int} (h : fitsN n) : readP (Lib.itoa n) = (ofV n, 0) := by
  obtain ⟨c, r, h1, h2⟩ := itoa_head h
  have h3 : c ≠ 116 ∧ c ≠ 102 ∧ c ≠ 39 := by
    rcases h2 with h2 | rfl
    · refine ⟨?_, ?_, ?_⟩ <;> (intro e; subst e; exact absurd h2 (by decide))
    · decide
  unfold readP
  rw [if_neg (by rw [h1]; unfold tTrue; simp [h3.1]), if_neg (by rw [h1]; unfold tFalse; simp [h3.2.1]), if_neg (by rw [h1]; simpa using h3.2.2)]
  exact readN_itoa h
theorem readP_err (l : List UInt8) : (readP l).2 = 0 ∨ (readP l).2 = 2 ∨ (readP l).2 = 4 := by
  unfold readP
  split
  · exact Or.inl rfl
  split
  · exact Or.inl rfl
  split
  · exact readQ_err _
  · by_cases h : ∃ n, fitsN n ∧ l = Lib.itoa n
    · obtain ⟨n, hf, rfl⟩ := h
      rw [readN_itoa hf]; exact Or.inl rfl
    · rw [readN_no h]; exact Or.inr (Or.inl rfl)
theorem readQ_bad {r : List UInt8} (h : (readQ r).2 ≠ 0) : (readQ r).1 = noVal := by
  unfold readQ at h ⊢
  split
  · rfl
  · rename_i t ht
    rw [ht] at h
    simp only at h
    split
    · rename_i hp
      rw [if_pos hp] at h
      split
      · rfl
      · rename_i h4
        rw [if_neg h4] at h
        exact (h rfl).elim
    · rfl
theorem readP_bad {l : List UInt8} (h : (readP l).2 ≠ 0) : (readP l).1 = noVal := by
  unfold readP at h ⊢
  split
  · rename_i h1; rw [if_pos h1] at h; exact (h rfl).elim
  rename_i h1
  rw [if_neg h1] at h
  split
  · rename_i h2; rw [if_pos h2] at h; exact (h rfl).elim
  rename_i h2
  rw [if_neg h2] at h
  split
  · rename_i h3; rw [if_pos h3] at h; exact readQ_bad h
  · rename_i h3
    rw [if_neg h3] at h
    by_cases hh : ∃ n, fitsN n ∧ l = Lib.itoa n
    · obtain ⟨n, hf, rfl⟩ := hh
      rw [readN_itoa hf] at h; exact (h rfl).elim
    · rw [readN_no hh]
theorem undbl_dbl : ∀ (s : List UInt8), undbl (dblQ s) = some s
  | [] => rfl
  | b :: s => by
    by_cases hb : b = 39
    · subst hb
      rw [dblQ, if_pos rfl, undbl_two, undbl_dbl s]; rfl
    · rw [dblQ, if_neg hb, undbl_cons hb, undbl_dbl s]; rfl
theorem dbl_undbl : ∀ (m : List UInt8) {u}, undbl m = some u → dblQ u = m := by
  apply quo_ind
  · intro u h; injection h with h; rw [← h]; rfl
  · intro b r hb ih u h
    rw [undbl_cons hb] at h
    obtain ⟨v, hv, rfl⟩ := Option.map_eq_some_iff.1 h
    rw [dblQ, if_neg hb, ih hv]
  · intro r ih u h
    rw [undbl_two] at h
    obtain ⟨v, hv, rfl⟩ := Option.map_eq_some_iff.1 h
    rw [dblQ, if_pos rfl, ih hv]
  · intro u h; cases h
  · intro c r hc u h; rw [undbl_end (by simpa using hc)] at h; cases h
theorem mk_toList (s : ByteArray) : (⟨s.data.toList.toArray⟩ : ByteArray) = s := by
  obtain ⟨⟨l⟩⟩ := s; rfl
/-- WHAT IS SHOWN IS READ AS IT WAS. -/
theorem read_show {v : Val} (hn : fitsN v.n) (hc : vcheck v = 0) : readP (valText v) = (v, 0) := by
  obtain ⟨t, n, s⟩ := v
  have he : s.data.toList = [] → s = ⟨#[]⟩ := fun h => by rw [← mk_toList s, h]
  unfold vcheck at hc
  simp only at hc hn
  unfold valText
  simp only
  by_cases h1 : t = 1
  · subst h1
    rw [if_pos rfl] at hc
    rw [if_pos rfl]
    split at hc
    · rename_i hs
      rw [readP_itoa hn, he hs]; rfl
    · omega
  rw [if_neg h1] at hc
  rw [if_neg h1]
  by_cases h2 : t = 2
  · subst h2
    rw [if_pos rfl] at hc
    rw [if_pos rfl]
    split at hc
    · rename_i hb
      split at hc
      · rename_i hs
        rw [he hs]
        rcases hb with rfl | rfl
        · rw [if_neg (by decide)]; rfl
        · rw [if_pos rfl]; rfl
      · omega
    · omega
  rw [if_neg h2] at hc
  rw [if_neg h2, readP_quote]
  by_cases h3 : t = 3
  · subst h3
    rw [if_pos rfl] at hc
    split at hc
    · omega
    rename_i h40
    split at hc
    · omega
    rename_i hp
    split at hc
    · omega
    rename_i h0
    have h0 : n = 0 := by simpa using h0
    subst h0
    unfold readQ
    rw [unq_app, undbl_dbl]
    simp only
    rw [if_pos (by simpa [textOk] using hp), if_neg (show ¬ 40 < s.data.toList.length from h40), mk_toList]
  · rw [if_neg h3] at hc; omega
/-- WHAT IS READ IS SHOWN AS IT WAS. -/
theorem show_read {l : List UInt8} {v : Val} (h : readP l = (v, 0)) : vcheck v = 0 ∧ valText v = l ∧ fitsN v.n ∧ fitsN v.type := by
  unfold readP at h
  split at h
  · rename_i h1
    injection h with h _
    subst h h1
    exact ⟨rfl, rfl, by unfold fitsN truthV; simp, by unfold fitsN truthV; simp⟩
  split at h
  · rename_i h1
    injection h with h _
    subst h h1
    exact ⟨rfl, rfl, by unfold fitsN truthV; simp, by unfold fitsN truthV; simp⟩
  split at h
  · rename_i h1
    obtain ⟨r, rfl⟩ : ∃ r, l = 39 :: r := by
      cases l with
      | nil => cases h1
      | cons c r => exact ⟨r, by rw [show c = 39 by simpa using h1]⟩
    rw [show (39 :: r).tail = r from rfl] at h
    unfold readQ at h
    split at h
    · injection h with _ h; omega
    rename_i t ht
    split at h
    · rename_i hp
      split at h
      · injection h with _ h; omega
      rename_i h40
      injection h with h _
      subst h
      obtain ⟨m, rfl⟩ := unq_tail r ht
      rw [unq_app] at ht
      have hd := dbl_undbl m ht
      refine ⟨?_, ?_, by unfold fitsN; simp, by unfold fitsN; simp⟩
      · unfold vcheck textOk
        simp only
        rw [if_neg (by decide), if_neg (by decide), if_pos trivial, if_neg (show ¬ 40 < (⟨t.toArray⟩ : ByteArray).size from h40), if_neg (by simp [hp]), if_neg (by simp)]
      · unfold valText
        simp only
        rw [if_neg (by decide), if_neg (by decide), hd]
    · injection h with _ h; omega
  · by_cases hh : ∃ n, fitsN n ∧ l = Lib.itoa n
    · obtain ⟨n, hf, rfl⟩ := hh
      rw [readN_itoa hf] at h
      injection h with h _
      subst h
      exact ⟨rfl, by unfold valText ofV; rw [if_pos rfl], hf, by unfold fitsN ofV; simp⟩
    · rw [readN_no hh] at h
      injection h with _ h
      omega
end Go.Proofs.YtpbbkpfaphjdoaaGreatDoor
