/- Words of a text, plain: what the document says they are; that each is read again where blanks stand behind it. -/
import Derived.Test.YtpbbkpfaphjdoaaGreatDoorShow
import Derived.Lib.AtoiAll
namespace Go.Proofs.YtpbbkpfaphjdoaaGreatDoor

/-! ### quotes -/
def undbl : List UInt8 → Option (List UInt8)
  | [] => some []
  | b :: r => if b = 39 then (match r with | [] => none | c :: r' => if c = 39 then (undbl r').map (39 :: ·) else none) else (undbl r).map (b :: ·)
def unq : List UInt8 → Option (List UInt8)
  | [] => none
  | b :: r => if b = 39 then (match r with | [] => some [] | c :: r' => if c = 39 then (unq r').map (39 :: ·) else none) else (unq r).map (b :: ·)
def qlen : List UInt8 → Option Nat
  | [] => none
  | b :: r => if b = 39 then (match r with | [] => some 1 | c :: r' => if c = 39 then (qlen r').map (· + 2) else some 1) else (qlen r).map (· + 1)
theorem undbl_cons {b : UInt8} {r : List UInt8} (h : b ≠ 39) : undbl (b :: r) = (undbl r).map (b :: ·) := (undbl.eq_def (b :: r)).trans (if_neg h)
theorem unq_cons {b : UInt8} {r : List UInt8} (h : b ≠ 39) : unq (b :: r) = (unq r).map (b :: ·) := (unq.eq_def (b :: r)).trans (if_neg h)
theorem qlen_cons {b : UInt8} {r : List UInt8} (h : b ≠ 39) : qlen (b :: r) = (qlen r).map (· + 1) := (qlen.eq_def (b :: r)).trans (if_neg h)
theorem undbl_two (r : List UInt8) : undbl (39 :: 39 :: r) = (undbl r).map (39 :: ·) := rfl
theorem unq_two (r : List UInt8) : unq (39 :: 39 :: r) = (unq r).map (39 :: ·) := rfl
theorem qlen_two (r : List UInt8) : qlen (39 :: 39 :: r) = (qlen r).map (· + 2) := rfl
theorem undbl_end {r : List UInt8} (h : r.head? ≠ some 39) : undbl (39 :: r) = none := by
  cases r with
  | nil => rfl
  | cons c r => exact (undbl.eq_def (39 :: c :: r)).trans (if_neg (fun e : c = 39 => h (by rw [e]; rfl)))
theorem qlen_end {r : List UInt8} (h : r.head? ≠ some 39) : qlen (39 :: r) = some 1 := by
  cases r with
  | nil => rfl
  | cons c r => exact (qlen.eq_def (39 :: c :: r)).trans (if_neg (fun e : c = 39 => h (by rw [e]; rfl)))
theorem unq_last : unq [39] = some [] := rfl
theorem unq_bad {c : UInt8} {r : List UInt8} (h : c ≠ 39) : unq (39 :: c :: r) = none := (unq.eq_def _).trans (if_neg h)
/-- By how a text begins. -/
theorem quo_ind (P : List UInt8 → Prop) (h0 : P []) (h1 : ∀ b r, b ≠ 39 → P r → P (b :: r)) (h2 : ∀ r, P r → P (39 :: 39 :: r)) (h3 : P [39]) (h4 : ∀ c r, c ≠ 39 → P (39 :: c :: r)) : ∀ l, P l := by
  suffices H : ∀ n (l : List UInt8), l.length ≤ n → P l from fun l => H _ l (Nat.le_refl _)
  intro n
  induction n with
  | zero => intro l hl; obtain rfl := List.eq_nil_of_length_eq_zero (Nat.le_zero.1 hl); exact h0
  | succ n ih =>
    intro l hl
    match l, hl with
    | [], _ => exact h0
    | b :: r, hl =>
      by_cases hb : b = 39
      · subst hb
        match r, hl with
        | [], _ => exact h3
        | c :: r, hl =>
          by_cases hc : c = 39
          · subst hc; exact h2 r (ih r (by simp at hl; omega))
          · exact h4 c r hc
      · exact h1 b r hb (ih r (by simp at hl; omega))
theorem unq_app : ∀ m : List UInt8, unq (m ++ [39]) = undbl m := by
  apply quo_ind
  · rfl
  · intro b r h ih; rw [List.cons_append, unq_cons h, undbl_cons h, ih]
  · intro r ih; rw [List.cons_append, List.cons_append, unq_two, undbl_two, ih]
  · rfl
  · intro c r h; rw [List.cons_append, List.cons_append, unq_bad h, undbl_end (by simpa using h)]
theorem unq_tail : ∀ (r : List UInt8) {t}, unq r = some t → ∃ m, r = m ++ [39] := by
  apply quo_ind
  · intro t h; cases h
  · intro b r hb ih t h
    rw [unq_cons hb] at h
    obtain ⟨u, hu, _⟩ := Option.map_eq_some_iff.1 h
    obtain ⟨m, rfl⟩ := ih hu
    exact ⟨b :: m, rfl⟩
  · intro r ih t h
    rw [unq_two] at h
    obtain ⟨u, hu, _⟩ := Option.map_eq_some_iff.1 h
    obtain ⟨m, rfl⟩ := ih hu
    exact ⟨39 :: 39 :: m, rfl⟩
  · intro t _; exact ⟨[], rfl⟩
  · intro c r hc t h; rw [unq_bad hc] at h; cases h
theorem qlen_some : ∀ (r : List UInt8) {m : Nat}, qlen r = some m → ∃ t u, r = t ++ 39 :: r.drop m ∧ t.length + 1 = m ∧ undbl t = some u ∧ (r.drop m).head? ≠ some 39 := by
  apply quo_ind
  · intro m h; cases h
  · intro b r hb ih m h
    rw [qlen_cons hb] at h
    obtain ⟨k, hk, rfl⟩ := Option.map_eq_some_iff.1 h
    obtain ⟨t, u, h1, h2, h3, h4⟩ := ih hk
    refine ⟨b :: t, b :: u, ?_, by simp; omega, by rw [undbl_cons hb, h3]; rfl, by simpa using h4⟩
    rw [List.drop_succ_cons, List.cons_append, ← h1]
  · intro r ih m h
    rw [qlen_two] at h
    obtain ⟨k, hk, rfl⟩ := Option.map_eq_some_iff.1 h
    obtain ⟨t, u, h1, h2, h3, h4⟩ := ih hk
    refine ⟨39 :: 39 :: t, 39 :: u, ?_, by simp; omega, by rw [undbl_two, h3]; rfl, by simpa using h4⟩
    rw [List.drop_succ_cons, List.drop_succ_cons, List.cons_append, List.cons_append, ← h1]
  · intro m h
    obtain rfl : 1 = m := by simpa [qlen] using h
    exact ⟨[], [], rfl, rfl, rfl, by simp⟩
  · intro c r hc m h
    rw [qlen_end (by simpa using hc)] at h
    injection h with h
    subst h
    exact ⟨[], [], rfl, rfl, rfl, by simpa using hc⟩
theorem qlen_app : ∀ (t : List UInt8) {u e : List UInt8}, undbl t = some u → e.head? ≠ some 39 → qlen (t ++ 39 :: e) = some (t.length + 1) := by
  apply quo_ind
  · intro u e _ he; exact qlen_end he
  · intro b r hb ih u e h he
    rw [undbl_cons hb] at h
    obtain ⟨v, hv, _⟩ := Option.map_eq_some_iff.1 h
    rw [List.cons_append, qlen_cons hb, ih hv he]; rfl
  · intro r ih u e h he
    rw [undbl_two] at h
    obtain ⟨v, hv, _⟩ := Option.map_eq_some_iff.1 h
    rw [List.cons_append, List.cons_append, qlen_two, ih hv he]; rfl
  · intro u e h; cases h
  · intro c r hc u e h; rw [undbl_end (by simpa using hc)] at h; cases h
/-- The first two quotes beside each other, and what is then left. -/
theorem dbl_key : ∀ m : List UInt8, (Lib.index m [39, 39] = -1 ∧ (39 ∉ m → undbl m = some m) ∧ (39 ∈ m → undbl m = none)) ∨
    ∃ a t, m = a ++ 39 :: 39 :: t ∧ Lib.index m [39, 39] = a.length ∧ (39 ∉ a → undbl m = (undbl t).map (a ++ 39 :: ·)) ∧ (39 ∈ a → undbl m = none)
  | [] => Or.inl ⟨rfl, fun _ => rfl, fun h => by cases h⟩
  | b :: r => by
    by_cases hb : b = 39
    · subst hb
      by_cases hr : r.head? = some 39
      · obtain ⟨r', rfl⟩ : ∃ r', r = 39 :: r' := by
          cases r with
          | nil => cases hr
          | cons c r' => exact ⟨r', by rw [show c = 39 by simpa using hr]⟩
        refine Or.inr ⟨[], r', rfl, ?_, fun _ => by rw [undbl_two]; rfl, fun h => by cases h⟩
        rw [Lib.index, if_pos (by simp [List.isPrefixOf])]; rfl
      · have hp : ([39, 39] : List UInt8).isPrefixOf (39 :: r) = false := by
          cases r with
          | nil => rfl
          | cons c r' =>
            have : ((39 : UInt8) == c) = false := by simpa using fun e => hr (by rw [← e]; rfl)
            simp [List.isPrefixOf, this]
        have hu := undbl_end hr
        rcases dbl_key r with ⟨h1, h2, h3⟩ | ⟨a, t, h1, h2, h3, h4⟩
        · refine Or.inl ⟨?_, fun h => (h (by simp)).elim, fun _ => hu⟩
          rw [Lib.index, hp, h1]; rfl
        · refine Or.inr ⟨39 :: a, t, by rw [h1]; rfl, ?_, fun h => (h (by simp)).elim, fun _ => hu⟩
          rw [Lib.index, hp, h2, if_neg (by decide), if_neg (fun e => by have := beq_iff_eq.1 e; omega)]
          simp
    · have hp : ([39, 39] : List UInt8).isPrefixOf (b :: r) = false := by
        have : ((39 : UInt8) == b) = false := by simpa using fun e => hb e.symm
        simp [List.isPrefixOf, this]
      have hne : ¬ (39 : UInt8) = b := fun e => hb e.symm
      rcases dbl_key r with ⟨h1, h2, h3⟩ | ⟨a, t, h1, h2, h3, h4⟩
      · refine Or.inl ⟨?_, fun h => ?_, fun h => ?_⟩
        · rw [Lib.index, hp, h1]; rfl
        · rw [undbl_cons hb, h2 (fun hh => h (List.mem_cons_of_mem _ hh))]; rfl
        · rw [undbl_cons hb, h3 (by rcases List.mem_cons.1 h with e | e; exact (hne e).elim; exact e)]; rfl
      · refine Or.inr ⟨b :: a, t, by rw [h1]; rfl, ?_, fun h => ?_, fun h => ?_⟩
        · rw [Lib.index, hp, h2, if_neg (by decide), if_neg (fun e => by have := beq_iff_eq.1 e; omega)]
          simp
        · rw [undbl_cons hb, h3 (fun hh => h (List.mem_cons_of_mem _ hh)), Option.map_map]; rfl
        · rw [undbl_cons hb, h4 (by rcases List.mem_cons.1 h with e | e; exact (hne e).elim; exact e)]; rfl
theorem rep_two : ∀ (n : Nat) (m : List UInt8), m.length ≤ n → (39 ∈ Lib.replaceK [39, 39] [] (Lib.count m [39, 39]) m ↔ undbl m = none) ∧ ∀ u, undbl m = some u → Lib.replaceK [39, 39] [39] (Lib.count m [39, 39]) m = u
  | n, m, hn => by
    rcases dbl_key m with ⟨h1, h2, h3⟩ | ⟨a, t, h1, h2, h3, h4⟩
    · rw [Lib.count_miss h1, Lib.replaceK, Lib.replaceK]
      by_cases hm : 39 ∈ m
      · exact ⟨⟨fun _ => h3 hm, fun _ => hm⟩, fun u hu => by rw [h3 hm] at hu; cases hu⟩
      · exact ⟨⟨fun h => (hm h).elim, fun h => by rw [h2 hm] at h; cases h⟩, fun u hu => by rw [h2 hm] at hu; injection hu⟩
    · have hd : m.drop (a.length + [(39 : UInt8), 39].length) = t := by
        rw [h1, ← List.drop_drop, List.drop_left]; rfl
      have ht : m.take a.length = a := by rw [h1, List.take_left]
      have hc := Lib.count_hit (s := m) (sub := [39, 39]) (i := a.length) (by decide) h2
      rw [hd] at hc
      have hlt : t.length < n := by rw [h1] at hn; simp at hn; omega
      cases n with
      | zero => omega
      | succ n =>
        obtain ⟨i1, i2⟩ := rep_two n t (by omega)
        rw [hc, Nat.add_comm, Lib.replaceK_hit _ _ _ _ _ h2, Lib.replaceK_hit _ _ _ _ _ h2, hd, ht]
        by_cases ha : 39 ∈ a
        · exact ⟨⟨fun _ => h4 ha, fun _ => by simp [ha]⟩, fun u hu => by rw [h4 ha] at hu; cases hu⟩
        · rw [h3 ha]
          refine ⟨⟨fun h => ?_, fun h => ?_⟩, fun u hu => ?_⟩
          · have : 39 ∈ Lib.replaceK [39, 39] [] (Lib.count t [39, 39]) t := by simpa [ha] using h
            rw [i1.1 this]; rfl
          · have : undbl t = none := by simpa using h
            have := i1.2 this
            simp [this]
          · obtain ⟨v, hv, rfl⟩ := Option.map_eq_some_iff.1 hu
            rw [i2 v hv]; simp
theorem rep_none (m : List UInt8) : 39 ∈ Lib.replaceAll m [39, 39] [] ↔ undbl m = none := by
  unfold Lib.replaceAll Lib.replace Lib.replaceNum
  rw [if_neg (by decide), if_pos (Or.inl (by decide))]
  exact (rep_two _ m (Nat.le_refl _)).1
theorem rep_some {m u : List UInt8} (h : undbl m = some u) : Lib.replaceAll m [39, 39] [39] = u := by
  unfold Lib.replaceAll Lib.replace Lib.replaceNum
  rw [if_neg (by decide), if_pos (Or.inl (by decide))]
  exact (rep_two _ m (Nat.le_refl _)).2 u h
theorem undbl_all (p : UInt8 → Bool) (hp : p 39 = true) : ∀ (m : List UInt8) {u}, undbl m = some u → m.all p = u.all p := by
  apply quo_ind
  · intro u h; injection h with h; rw [← h]
  · intro b r hb ih u h
    rw [undbl_cons hb] at h
    obtain ⟨v, hv, rfl⟩ := Option.map_eq_some_iff.1 h
    simp [ih hv]
  · intro r ih u h
    rw [undbl_two] at h
    obtain ⟨v, hv, rfl⟩ := Option.map_eq_some_iff.1 h
    simp [hp, ih hv]
  · intro u h; cases h
  · intro c r hc u h; rw [undbl_end (by simpa using hc)] at h; cases h
theorem undbl_len : ∀ (m : List UInt8) {u}, undbl m = some u → u.length ≤ m.length := by
  apply quo_ind
  · intro u h; injection h with h; rw [← h]; exact Nat.le_refl _
  · intro b r hb ih u h
    rw [undbl_cons hb] at h
    obtain ⟨v, hv, rfl⟩ := Option.map_eq_some_iff.1 h
    simpa using ih hv
  · intro r ih u h
    rw [undbl_two] at h
    obtain ⟨v, hv, rfl⟩ := Option.map_eq_some_iff.1 h
    have := ih hv
    simp; omega
  · intro u h; cases h
  · intro c r hc u h; rw [undbl_end (by simpa using hc)] at h; cases h

/-! ### numbers -/
def isL (b : UInt8) : Bool := decide (97 ≤ b.toNat ∧ b.toNat ≤ 122)
def isD (b : UInt8) : Bool := decide (48 ≤ b.toNat ∧ b.toNat ≤ 57)
def isLD (b : UInt8) : Bool := isL b || isD b
def decA (acc : Nat) (l : List UInt8) : Nat := l.foldl (fun a b => a * 10 + (b.toNat - 48)) acc
theorem decA_nil (acc : Nat) : decA acc [] = acc := rfl
theorem decA_cons (acc : Nat) (b : UInt8) (r : List UInt8) : decA acc (b :: r) = decA (acc * 10 + (b.toNat - 48)) r := by unfold decA; rw [List.foldl_cons]
def decN (l : List UInt8) : Nat := decA 0 l
theorem decA_app : ∀ (a b : List UInt8) (acc : Nat), decA acc (a ++ b) = decA (decA acc a) b
  | [], b, acc => rfl
  | x :: a, b, acc => by rw [List.cons_append, decA_cons, decA_cons, decA_app a b]
theorem decN_snoc (a : List UInt8) (b : UInt8) : decN (a ++ [b]) = decN a * 10 + (b.toNat - 48) := by
  unfold decN; rw [decA_app]; rfl
theorem decA_ge : ∀ (l : List UInt8) (acc : Nat), acc * 10 ^ l.length ≤ decA acc l
  | [], acc => by simp [decA_nil]
  | x :: a, acc => by
    rw [decA_cons]
    refine Nat.le_trans ?_ (decA_ge a _)
    rw [List.length_cons, Nat.pow_succ, ← Nat.mul_assoc, Nat.mul_right_comm]
    exact Nat.mul_le_mul_right _ (by omega)
theorem decA_lt : ∀ (l : List UInt8) (acc : Nat), l.all isD = true → decA acc l < (acc + 1) * 10 ^ l.length
  | [], acc, _ => by simp [decA_nil]
  | x :: a, acc, h => by
    simp only [List.all_cons, Bool.and_eq_true] at h
    have hx : x.toNat - 48 ≤ 9 := by have := h.1; unfold isD at this; simp at this; omega
    rw [decA_cons]
    refine Nat.lt_of_lt_of_le (decA_lt a _ h.2) ?_
    rw [List.length_cons, Nat.pow_succ, Nat.mul_comm (10 ^ a.length) 10, ← Nat.mul_assoc]
    exact Nat.mul_le_mul_right _ (by omega)
theorem decN_lt {l : List UInt8} (h : l.all isD = true) : decN l < 10 ^ l.length := by
  have := decA_lt l 0 h
  simpa [decN] using this
theorem parse10 (l : List UInt8) : ∀ (acc : Nat), acc < 18446744073709551616 → l.all isD = true →
    Lib.parseUint10 acc l = if decA acc l < 18446744073709551616 then .ok (decA acc l) else .range := by
  induction l with
  | nil => intro acc ha _; rw [Lib.parseUint10, decA_nil, if_pos ha]
  | cons x a ih =>
    intro acc ha h
    simp only [List.all_cons, Bool.and_eq_true] at h
    have hx : 48 ≤ x.toNat ∧ x.toNat ≤ 57 := by have := h.1; unfold isD at this; simpa using this
    have hge := decA_ge a (acc * 10 + (x.toNat - 48))
    have h1 : acc * 10 + (x.toNat - 48) ≤ decA (acc * 10 + (x.toNat - 48)) a := Nat.le_trans (Nat.le_mul_of_pos_right _ (Nat.pow_pos (by omega))) hge
    rw [Lib.parseUint10, if_pos hx, decA_cons]
    by_cases c1 : 1844674407370955162 ≤ acc
    · rw [if_pos c1, if_neg (by omega)]
    · rw [if_neg c1]
      by_cases c2 : 18446744073709551616 ≤ acc * 10 + (x.toNat - 48)
      · rw [if_pos c2, if_neg (by omega)]
      · rw [if_neg c2, ih _ (by omega) h.2]
/-- Digits: is the number one that may be? -/
def numOk (l : List UInt8) : Bool := decide (decN l ≤ 9223372036854775807)
theorem atoi_digits {l : List UInt8} (hn : l ≠ []) (h : l.all isD = true) : Lib.atoiAll l = if numOk l = true then .ok (decN l : Int) else .range := by
  cases l with
  | nil => exact (hn rfl).elim
  | cons c r =>
    have hc : 48 ≤ c.toNat ∧ c.toNat ≤ 57 := by
      have := (by simpa using h : isD c = true ∧ _).1
      unfold isD at this; simpa using this
    unfold Lib.atoiAll
    have hneg : ¬ c.toNat = 45 := by omega
    have hsg : ¬ (c.toNat = 43 ∨ c.toNat = 45) := by omega
    simp only [hsg, if_false]
    rw [show Lib.parseMag (c :: r) = Lib.parseUint10 0 (c :: r) from if_neg (by simp), parse10 _ _ (by decide) h]
    unfold numOk decN
    by_cases c1 : decA 0 (c :: r) < 18446744073709551616
    · rw [if_pos c1]
      simp only [hneg, not_false_iff, true_and, false_and, if_false]
      by_cases c2 : 9223372036854775808 ≤ decA 0 (c :: r)
      · rw [if_pos c2, if_neg (by simp; omega)]
      · rw [if_neg c2, if_pos (by simp; omega)]
    · rw [if_neg c1, if_neg (by simp; omega)]
/-- The document's number of digits. -/
def numP (l : List UInt8) : Option Nat :=
  if l = [] ∨ (l.head? = some 48 ∧ 1 < l.length) ∨ 19 < l.length ∨ l.all isD = false ∨ 9223372036854775807 < decN l then none else some (decN l)
theorem numP_digits {l : List UInt8} (hn : l ≠ []) (h : l.all isD = true) (h0 : ¬ (l.head? = some 48 ∧ 1 < l.length)) : numP l = if numOk l = true then some (decN l) else none := by
  unfold numP numOk
  by_cases c1 : decN l ≤ 9223372036854775807
  · rw [if_pos (show decide (decN l ≤ 9223372036854775807) = true from decide_eq_true c1), if_neg]
    rintro (e | e | e | e | e)
    · exact hn e
    · exact h0 e
    · cases l with
      | nil => exact hn rfl
      | cons c r =>
        have hc : 48 ≤ c.toNat ∧ c.toNat ≤ 57 := by
          have := (by simpa using h : isD c = true ∧ _).1
          unfold isD at this; simpa using this
        have hc48 : c.toNat ≠ 48 := fun e2 => h0 ⟨by rw [List.head?_cons, show c = 48 from UInt8.toNat_inj.1 e2], by simp at e; simp; omega⟩
        have hge := decA_ge r (0 * 10 + (c.toNat - 48))
        have h2 : 10 ^ 19 ≤ 10 ^ r.length := Nat.pow_le_pow_right (by omega) (by simp at e; omega)
        have h3 : 10 ^ r.length ≤ (0 * 10 + (c.toNat - 48)) * 10 ^ r.length := Nat.le_mul_of_pos_left _ (by omega)
        have : decN (c :: r) = decA (0 * 10 + (c.toNat - 48)) r := rfl
        have : (10 : Nat) ^ 19 = 10000000000000000000 := by decide
        omega
    · rw [h] at e; exact Bool.noConfusion e
    · omega
  · rw [if_pos (Or.inr (Or.inr (Or.inr (Or.inr (by omega))))), if_neg (by simpa using c1)]

/-! ### words -/
/-- A text behind its first quote, as a value; the fault. -/
def readQ (r : List UInt8) : Val × Int :=
  match unq r with
  | none => (noVal, 2)
  | some t => if t.all plainB = true then (if 40 < t.length then (noVal, 4) else (⟨3, 0, ⟨t.toArray⟩⟩, 0)) else (noVal, 2)
theorem readQ_err (r : List UInt8) : (readQ r).2 = 0 ∨ (readQ r).2 = 2 ∨ (readQ r).2 = 4 := by
  unfold readQ
  split
  · exact Or.inr (Or.inl rfl)
  · split
    · split
      · exact Or.inr (Or.inr rfl)
      · exact Or.inl rfl
    · exact Or.inr (Or.inl rfl)
def signL : List (List UInt8) := [[60, 62], [60, 61], [62, 61], [40], [41], [44], [43], [45], [42], [47], [37], [61], [60], [62]]
def sgnN (l : List UInt8) : Nat := match signL.find? (·.isPrefixOf l) with | some x => x.length | none => 0
structure Tok where
  kind : Int
  text : List UInt8
  at_ : Nat
/-- The word at a text's beginning: how long, of which kind, the fault. -/
def tokP (l : List UInt8) : Nat × Int × Int :=
  match l with
  | [] => (0, 0, 2)
  | c :: r =>
    if isL c then (((c :: r).takeWhile isLD).length, 1, 0)
    else if isD c then
      (let d := (c :: r).takeWhile isD
       if (1 < d.length ∧ c = 48) ∨ ((c :: r).dropWhile isD).head?.any isL = true then (0, 2, 2) else if numOk d = true then (d.length, 2, 0) else (0, 2, 1))
    else if c = 39 then (match qlen r with | none => (0, 3, 2) | some m => if (readQ (r.take m)).2 = 0 then (m + 1, 3, 0) else (0, 3, (readQ (r.take m)).2))
    else if sgnN (c :: r) = 0 then (0, 0, 2) else (sgnN (c :: r), 4, 0)
theorem tw_len (p : UInt8 → Bool) (l : List UInt8) : (l.takeWhile p).length ≤ l.length := (List.takeWhile_prefix p).length_le
theorem tw_take (p : UInt8 → Bool) (l : List UInt8) : l.take (l.takeWhile p).length = l.takeWhile p := by
  obtain ⟨t, ht⟩ := List.takeWhile_prefix (p := p) (l := l)
  generalize l.takeWhile p = a at ht ⊢
  subst ht
  exact List.take_left
theorem tw_app {p : UInt8 → Bool} : ∀ (t e : List UInt8), t.all p = true → (∀ x, e.head? = some x → p x = false) → (t ++ e).takeWhile p = t ∧ (t ++ e).dropWhile p = e
  | [], e, _, he => by
    cases e with
    | nil => exact ⟨rfl, rfl⟩
    | cons x e => simp [he x rfl]
  | b :: t, e, h, he => by
    simp only [List.all_cons, Bool.and_eq_true] at h
    obtain ⟨h1, h2⟩ := tw_app t e h.2 he
    rw [List.cons_append, List.takeWhile_cons, List.dropWhile_cons, if_pos h.1, if_pos h.1, h1]
    exact ⟨rfl, h2⟩
theorem tw_all (p : UInt8 → Bool) : ∀ (l : List UInt8), (l.takeWhile p).all p = true
  | [] => rfl
  | b :: l => by
    rw [List.takeWhile_cons]
    split
    · rename_i h; simp [h, tw_all p l]
    · rfl
theorem not_L {b : UInt8} (h : b = 32 ∨ b = 10) : isL b = false ∧ isD b = false ∧ isLD b = false := by
  rcases h with rfl | rfl <;> decide
theorem sgnN_two {c d : UInt8} (r : List UInt8) (h : (c = 60 ∧ (d = 62 ∨ d = 61)) ∨ (c = 62 ∧ d = 61)) : sgnN (c :: d :: r) = 2 := by
  rcases h with ⟨rfl, rfl | rfl⟩ | ⟨rfl, rfl⟩ <;> rfl
def sign1 (c : UInt8) : Bool := c = 40 || c = 41 || c = 44 || c = 43 || c = 45 || c = 42 || c = 47 || c = 37 || c = 61 || c = 60 || c = 62
theorem sgnN_one {c : UInt8} (r : List UInt8) (h : ∀ d, r.head? = some d → ¬ ((c = 60 ∧ (d = 62 ∨ d = 61)) ∨ (c = 62 ∧ d = 61))) : sgnN (c :: r) = if sign1 c = true then 1 else 0 := by
  have p2 : ∀ a b : UInt8, ((c = 60 ∧ (b = 62 ∨ b = 61)) ∨ (c = 62 ∧ b = 61) ∨ a ≠ c) → ([a, b] : List UInt8).isPrefixOf (c :: r) = false := by
    intro a b hh
    cases r with
    | nil => simp [List.isPrefixOf]
    | cons d r =>
      have := h d rfl
      simp only [List.isPrefixOf, Bool.and_true, Bool.and_eq_false_iff, beq_eq_false_iff_ne]
      by_cases hb : b = d
      · subst hb
        rcases hh with hh | hh | hh
        · exact (this (Or.inl hh)).elim
        · exact (this (Or.inr hh)).elim
        · exact Or.inl hh
      · exact Or.inr hb
  have p1 : ∀ a : UInt8, ([a] : List UInt8).isPrefixOf (c :: r) = (a == c) := by intro a; simp [List.isPrefixOf]
  have q1 : ([60, 62] : List UInt8).isPrefixOf (c :: r) = false := p2 60 62 (by by_cases e : c = 60; exact Or.inl ⟨e, Or.inl rfl⟩; exact Or.inr (Or.inr (fun e2 => e e2.symm)))
  have q2 : ([60, 61] : List UInt8).isPrefixOf (c :: r) = false := p2 60 61 (by by_cases e : c = 60; exact Or.inl ⟨e, Or.inr rfl⟩; exact Or.inr (Or.inr (fun e2 => e e2.symm)))
  have q3 : ([62, 61] : List UInt8).isPrefixOf (c :: r) = false := p2 62 61 (by by_cases e : c = 62; exact Or.inr (Or.inl ⟨e, rfl⟩); exact Or.inr (Or.inr (fun e2 => e e2.symm)))
  unfold sgnN signL
  simp only [List.find?, q1, q2, q3, p1]
  by_cases hs : sign1 c = true
  · rw [if_pos hs]
    unfold sign1 at hs
    simp only [Bool.or_eq_true, decide_eq_true_eq] at hs
    rcases hs with (((((((((e | e) | e) | e) | e) | e) | e) | e) | e) | e) | e <;> subst e <;> rfl
  · rw [if_neg hs]
    unfold sign1 at hs
    simp only [Bool.or_eq_true, decide_eq_true_eq, not_or] at hs
    obtain ⟨⟨⟨⟨⟨⟨⟨⟨⟨⟨h1, h2⟩, h3⟩, h4⟩, h5⟩, h6⟩, h7⟩, h8⟩, h9⟩, h10⟩, h11⟩ := hs
    have e : ∀ a : UInt8, c ≠ a → (a == c) = false := fun a ha => by simpa using fun e => ha e.symm
    simp only [e _ h1, e _ h2, e _ h3, e _ h4, e _ h5, e _ h6, e _ h7, e _ h8, e _ h9, e _ h10, e _ h11]
theorem sgnN_le (l : List UInt8) : sgnN l ≤ l.length := by
  unfold sgnN
  split
  · rename_i x hx
    exact (List.isPrefixOf_iff_prefix.1 (by simpa using List.find?_some hx)).length_le
  · exact Nat.zero_le _
theorem tokP_le {l : List UInt8} (h : (tokP l).2.2 = 0) : 1 ≤ (tokP l).1 ∧ (tokP l).1 ≤ l.length := by
  cases l with
  | nil => cases h
  | cons c r =>
    unfold tokP at h ⊢
    simp only at h ⊢
    by_cases hL : isL c = true
    · rw [if_pos hL] at h ⊢
      refine ⟨?_, tw_len _ _⟩
      have : isLD c = true := by simp [isLD, hL]
      simp [this]
    · rw [if_neg hL] at h ⊢
      by_cases hD : isD c = true
      · rw [if_pos hD] at h ⊢
        split at h
        · cases h
        · rename_i hx
          split at h
          · rename_i hy
            rw [if_neg hx, if_pos hy]
            refine ⟨?_, tw_len _ _⟩
            simp [hD]
          · cases h
      · rw [if_neg hD] at h ⊢
        by_cases hQ : c = 39
        · rw [if_pos hQ] at h ⊢
          cases hm : qlen r with
          | none => rw [hm] at h; cases h
          | some m =>
            rw [hm] at h
            simp only at h ⊢
            by_cases hr : (readQ (r.take m)).2 = 0
            · rw [if_pos hr]
              obtain ⟨t, u, h1, h2, _, _⟩ := qlen_some r hm
              refine ⟨by simp, ?_⟩
              have := congrArg List.length h1
              simp at this ⊢
              omega
            · rw [if_neg hr] at h; exact (hr h).elim
        · rw [if_neg hQ] at h ⊢
          by_cases hs : sgnN (c :: r) = 0
          · rw [if_pos hs] at h; cases h
          · rw [if_neg hs]
            exact ⟨by simp; omega, sgnN_le _⟩
inductive LexR where
  | ok (l : List Tok)
  | bad (e : Int) (at_ : Nat)
def LexR.pre (out : List Tok) : LexR → LexR
  | .ok l => .ok (out ++ l)
  | .bad e a => .bad e a
theorem LexR.pre_nil (x : LexR) : x.pre [] = x := by cases x <;> rfl
theorem LexR.pre_pre (a b : List Tok) (x : LexR) : (x.pre b).pre a = x.pre (a ++ b) := by
  cases x with
  | ok l => show LexR.ok _ = LexR.ok _; rw [List.append_assoc]
  | bad e k => rfl
def lexP (l : List UInt8) (at_ : Nat) : LexR :=
  match l with
  | [] => .ok []
  | c :: r =>
    if c = 32 ∨ c = 10 then lexP r (at_ + 1)
    else if _h : (tokP (c :: r)).2.2 = 0 then (lexP ((c :: r).drop (tokP (c :: r)).1) (at_ + (tokP (c :: r)).1)).pre [⟨(tokP (c :: r)).2.1, (c :: r).take (tokP (c :: r)).1, at_⟩]
    else .bad (tokP (c :: r)).2.2 at_
termination_by l.length
decreasing_by
  · simp
  · have := tokP_le _h
    simp only [List.length_drop]
    simp only [List.length_cons] at this ⊢
    omega
theorem lexP_nil (a : Nat) : lexP [] a = .ok [] := by rw [lexP]
theorem lexP_blank {c : UInt8} {r : List UInt8} {a : Nat} (h : c = 32 ∨ c = 10) : lexP (c :: r) a = lexP r (a + 1) := by
  rw [lexP, if_pos h]
theorem lexP_tok {c : UInt8} {r : List UInt8} {a n : Nat} {k : Int} (h : ¬ (c = 32 ∨ c = 10)) (ht : tokP (c :: r) = (n, k, 0)) :
    lexP (c :: r) a = (lexP ((c :: r).drop n) (a + n)).pre [⟨k, (c :: r).take n, a⟩] := by
  rw [lexP, if_neg h, dif_pos (by rw [ht]), ht]
theorem lexP_bad {c : UInt8} {r : List UInt8} {a n : Nat} {k e : Int} (h : ¬ (c = 32 ∨ c = 10)) (ht : tokP (c :: r) = (n, k, e)) (he : e ≠ 0) : lexP (c :: r) a = .bad e a := by
  rw [lexP, if_neg h, dif_neg (by rw [ht]; exact he), ht]
/-- What a text comes to, as words. -/
def lexS (l : List UInt8) : LexR := if 400 < l.length then .bad 4 0 else lexP l 0
end Go.Proofs.YtpbbkpfaphjdoaaGreatDoor
