/- The document's answer, walked: signs, Arity, Val, Size, deep, Small of an expression. -/
import Derived.Test.YtapbmknimejldaaDoorRefBase
import Derived.Test.YtapbmknimejldaaDoorKindLaw
namespace Go.Proofs.YtapbmknimejldaaDoor
open Go.ChangeShapes Go.WideShapes Go.ChangeAt Go.RowKit

theorem rsigns_any (k : Nat) (hk : k < 5) (w : World) :
    Calls Tryd.prog 81 #[.int .i64 k] w fun e w' => (∃ A c, e = .returned (.slice A (lvlB k).length c) ∧ Sees w' A (lvlB k).length c 1 (strCells (lvlB k))) ∧ Below w.heap.size w w' := by
  obtain rfl | rfl | rfl | rfl | rfl : k = 0 ∨ k = 1 ∨ k = 2 ∨ k = 3 ∨ k = 4 := by omega
  · go_enter Tryd.func81, Tryd.ntmps81
    go_wp2_with fail
    go_ret
    exact ⟨⟨some ⟨w.heap.size, 0, none⟩, 1, rfl, seesNew w (strCells (lvlB 0)) _ 1 1 rfl (by decide)⟩, belowNew _ _⟩
  · go_enter Tryd.func81, Tryd.ntmps81
    go_wp2_with fail
    go_ret
    exact ⟨⟨some ⟨w.heap.size, 0, none⟩, 1, rfl, seesNew w (strCells (lvlB 1)) _ 1 1 rfl (by decide)⟩, belowNew _ _⟩
  · go_enter Tryd.func81, Tryd.ntmps81
    go_wp2_with fail
    go_ret
    exact ⟨⟨some ⟨w.heap.size, 0, none⟩, 6, rfl, seesNew w (strCells (lvlB 2)) _ 6 1 rfl (by decide)⟩, belowNew _ _⟩
  · go_enter Tryd.func81, Tryd.ntmps81
    go_wp2_with fail
    go_ret
    exact ⟨⟨some ⟨w.heap.size, 0, none⟩, 2, rfl, seesNew w (strCells (lvlB 3)) _ 2 1 rfl (by decide)⟩, belowNew _ _⟩
  · go_enter Tryd.func81, Tryd.ntmps81
    go_wp2_with fail
    go_ret
    exact ⟨⟨some ⟨w.heap.size, 0, none⟩, 3, rfl, seesNew w (strCells (lvlB 4)) _ 3 1 rfl (by decide)⟩, belowNew _ _⟩
theorem rarity_col (w : World) : Calls Tryd.prog 60 #[.string ⟨#[99, 111, 108]⟩] w fun e w' => e = .returned (.int .i64 0) ∧ Below w.heap.size w w' := by
  go_enter Tryd.func60, Tryd.ntmps60
  go_wp2_with fail
  go_ret
  exact ⟨rfl, Below.refl _ _⟩
theorem rarity_val (w : World) : Calls Tryd.prog 60 #[.string ⟨#[118, 97, 108]⟩] w fun e w' => e = .returned (.int .i64 0) ∧ Below w.heap.size w w' := by
  go_enter Tryd.func60, Tryd.ntmps60
  go_wp2_with fail
  go_ret
  exact ⟨rfl, Below.refl _ _⟩
theorem rarity_not (w : World) : Calls Tryd.prog 60 #[.string ⟨#[110, 111, 116]⟩] w fun e w' => e = .returned (.int .i64 1) ∧ Below w.heap.size w w' := by
  go_enter Tryd.func60, Tryd.ntmps60
  go_wp2_with fail
  go_ret
  exact ⟨rfl, Below.refl _ _⟩
theorem rarity_neg (w : World) : Calls Tryd.prog 60 #[.string ⟨#[110, 101, 103]⟩] w fun e w' => e = .returned (.int .i64 1) ∧ Below w.heap.size w w' := by
  go_enter Tryd.func60, Tryd.ntmps60
  go_wp2_with fail
  go_ret
  exact ⟨rfl, Below.refl _ _⟩
theorem rarity_len (w : World) : Calls Tryd.prog 60 #[.string ⟨#[108, 101, 110]⟩] w fun e w' => e = .returned (.int .i64 1) ∧ Below w.heap.size w w' := by
  go_enter Tryd.func60, Tryd.ntmps60
  go_wp2_with fail
  go_ret
  exact ⟨rfl, Below.refl _ _⟩
theorem rarity_if (w : World) : Calls Tryd.prog 60 #[.string ⟨#[105, 102]⟩] w fun e w' => e = .returned (.int .i64 3) ∧ Below w.heap.size w w' := by
  go_enter Tryd.func60, Tryd.ntmps60
  go_wp2_with fail
  go_ret
  exact ⟨rfl, Below.refl _ _⟩

set_option maxHeartbeats 2000000 in
set_option maxRecDepth 100000 in
theorem rarity_sign (s : ByteArray) (w : World)
    (h1 : s.data.toList ≠ [99, 111, 108]) (h2 : s.data.toList ≠ [118, 97, 108]) (h3 : s.data.toList ≠ [110, 111, 116]) (h4 : s.data.toList ≠ [110, 101, 103]) (h5 : s.data.toList ≠ [108, 101, 110]) (h6 : s.data.toList ≠ [105, 102]) :
    Calls Tryd.prog 60 #[.string s] w fun e w' => e = .returned (.int .i64 (signAr s)) ∧ Below w.heap.size w w' := by
  have e1 := str_ne h1
  have e2 := str_ne h2
  have e3 := str_ne h3
  have e4 := str_ne h4
  have e5 := str_ne h5
  have e6 := str_ne h6
  clear h1 h2 h3 h4 h5 h6
  go_enter Tryd.func60, Tryd.ntmps60
  go_wp2_with fail
  go_loopw [2, 3] (fun _ i wr => ∃ k : Nat, k ≤ 5 ∧ i = .int .i64 k ∧ (∀ j, j < k → Lib.containsS (lvlB j) s = false) ∧ Below w.heap.size w wr) (fun _ i _ => 5 - (intOf i).toNat)
  case atStart => exact ⟨0, by omega, rfl, (fun j hj => by omega), Below.refl _ _⟩
  case round =>
    obtain ⟨k, hk, rfl, hno, hb⟩ := hrel
    have HN := Lib.hid hno
    have HB := Lib.hid hb
    clear hno hb
    by_cases hk5 : k < 5
    · have T := Lib.hid (rsigns_any k hk5 wr)
      go_wp2_with fail
      refine (T.out).mono ?_
      rintro e w1 ⟨⟨A, c, rfl, hs⟩, hb1⟩
      have HS := Lib.hid hs
      have HB1 := Lib.hid (below_step HB.out hb1)
      have hcap := hs.2.1
      have hmax := hs.2.2.1
      unfold maxLen at hmax
      have HD := Lib.hid (show (lvlB k).length = (lvlB k).length from rfl)
      generalize hn : (lvlB k).length = n at hs HS hcap ⊢
      have HLn := Lib.hid hn
      clear hs hb1 hn
      go_wp2_with fail
      go_loop [2, 5] (fun _ i => ∃ m : Nat, m ≤ n ∧ i = .int .i64 m ∧ ∀ x ∈ (lvlB k).take m, x ≠ s) (fun _ i => n - (intOf i).toNat)
      case atStart => exact ⟨0, by omega, rfl, by simp⟩
      case round =>
        obtain ⟨m, hm, rfl, hno⟩ := hrel
        have HM := Lib.hid hno
        clear hno
        by_cases hlm : m < n
        · obtain ⟨g, o, z, rfl, hz, c1⟩ := strs_at HS.out hlm
          have HZ := Lib.hid hz
          clear hz
          by_cases hzs : z = s
          · subst hzs
            have E := Lib.hid (show signAr z = 2 by unfold signAr; rw [isSign_hit (contains_hit HZ.out) hk5]; rfl)
            have q1 : (z.toList == z.toList) = true := by simp
            go_wp2_with fail
            go_ret
            exact ⟨by rw [E.out]; rfl, HB1.out⟩
          · have q1 : (z.toList == s.toList) = false := by rw [str_beq]; simpa using hzs
            have E := Lib.hid (ne_next HM.out HZ.out hzs)
            clear hzs
            go_wp2_with fail
            go_round
            case rel => exact ⟨m + 1, by omega, by go_num, E.out⟩
            case measure => simp [intOf]; omega
        · have E := Lib.hid (no_next HN.out (contains_none (zs := lvlB k) (s := s) (by have := HM.out; rwa [List.take_of_length_le (by rw [HLn.out]; omega)] at this)))
          go_wp2_with fail
          go_roundw
          case rel => exact ⟨k + 1, by omega, by go_num, E.out, HB1.out⟩
          case measure => simp [intOf]; omega
    · have E := Lib.hid (show signAr s = -1 by unfold signAr; rw [isSign_take HN.out (by omega)]; rfl)
      obtain rfl : k = 5 := by omega
      go_wp2_with fail
      go_ret
      exact ⟨by rw [E.out]; rfl, HB.out⟩
/-- Arity, at any text. -/
theorem rarity_any (s : ByteArray) (w : World) : Calls Tryd.prog 60 #[.string s] w fun e w' => e = .returned (.int .i64 (arityOf s)) ∧ Below w.heap.size w w' := by
  unfold arityOf
  by_cases h1 : s.data.toList = [99, 111, 108]
  · rw [if_pos (Or.inl h1), bytes_of h1]; exact rarity_col w
  by_cases h2 : s.data.toList = [118, 97, 108]
  · rw [if_pos (Or.inr h2), bytes_of h2]; exact rarity_val w
  rw [if_neg (fun h => h.elim h1 h2)]
  by_cases h3 : s.data.toList = [110, 111, 116]
  · rw [if_pos (Or.inl h3), bytes_of h3]; exact rarity_not w
  by_cases h4 : s.data.toList = [110, 101, 103]
  · rw [if_pos (Or.inr (Or.inl h4)), bytes_of h4]; exact rarity_neg w
  by_cases h5 : s.data.toList = [108, 101, 110]
  · rw [if_pos (Or.inr (Or.inr h5)), bytes_of h5]; exact rarity_len w
  rw [if_neg (fun h => h.elim h3 (fun h => h.elim h4 h5))]
  by_cases h6 : s.data.toList = [105, 102]
  · rw [if_pos h6, bytes_of h6]; exact rarity_if w
  rw [if_neg h6]
  exact rarity_sign s w h1 h2 h3 h4 h5 h6

section
variable (w : World) (t n : Int) (s : ByteArray)
def ValSays (k : Int) (w : World) (e : Ending) (w' : World) : Prop := e = .returned (.int .i64 k) ∧ Below w.heap.size w w'
set_option maxHeartbeats 1000000 in
theorem rval_low (h : decide (t < 1) = true) : Calls Tryd.prog 18 #[.agg #[.int .i64 t, .int .i64 n, .string s]] w (ValSays 1 w) := by
  go_enter Tryd.func18, Tryd.ntmps18
  go_wp2_with fail
  go_ret
  exact ⟨rfl, belowNew _ _⟩
set_option maxHeartbeats 1000000 in
theorem rval_high (h : decide (t < 1) = false) (h2 : decide (3 < t) = true) : Calls Tryd.prog 18 #[.agg #[.int .i64 t, .int .i64 n, .string s]] w (ValSays 1 w) := by
  go_enter Tryd.func18, Tryd.ntmps18
  go_wp2_with fail
  go_ret
  exact ⟨rfl, belowNew _ _⟩
set_option maxHeartbeats 1000000 in
theorem rval_int_ok (h : s.toList = []) : Calls Tryd.prog 18 #[.agg #[.int .i64 1, .int .i64 n, .string s]] w (ValSays 0 w) := by
  have q : (!s.toList.isEmpty) = false := by rw [h]; rfl
  go_enter Tryd.func18, Tryd.ntmps18
  go_wp2_with fail
  go_ret
  exact ⟨rfl, belowNew _ _⟩
set_option maxHeartbeats 1000000 in
theorem rval_int_bad (h : s.toList.isEmpty = false) : Calls Tryd.prog 18 #[.agg #[.int .i64 1, .int .i64 n, .string s]] w (ValSays 3 w) := by
  have q : (!s.toList.isEmpty) = true := by rw [h]; rfl
  go_enter Tryd.func18, Tryd.ntmps18
  go_wp2_with fail
  go_ret
  exact ⟨rfl, belowNew _ _⟩
set_option maxHeartbeats 1000000 in
theorem rval_bool_no (h : (n != 0) = true) (h2 : (n != 1) = true) : Calls Tryd.prog 18 #[.agg #[.int .i64 2, .int .i64 n, .string s]] w (ValSays 1 w) := by
  go_enter Tryd.func18, Tryd.ntmps18
  go_wp2_with fail
  go_ret
  exact ⟨rfl, belowNew _ _⟩
set_option maxHeartbeats 1000000 in
theorem rval_bool0_ok (h : s.toList = []) : Calls Tryd.prog 18 #[.agg #[.int .i64 2, .int .i64 0, .string s]] w (ValSays 0 w) := by
  have q : (!s.toList.isEmpty) = false := by rw [h]; rfl
  go_enter Tryd.func18, Tryd.ntmps18
  go_wp2_with fail
  go_ret
  exact ⟨rfl, belowNew _ _⟩
set_option maxHeartbeats 1000000 in
theorem rval_bool0_bad (h : s.toList.isEmpty = false) : Calls Tryd.prog 18 #[.agg #[.int .i64 2, .int .i64 0, .string s]] w (ValSays 3 w) := by
  have q : (!s.toList.isEmpty) = true := by rw [h]; rfl
  go_enter Tryd.func18, Tryd.ntmps18
  go_wp2_with fail
  go_ret
  exact ⟨rfl, belowNew _ _⟩
set_option maxHeartbeats 1000000 in
theorem rval_bool1_ok (h : s.toList = []) : Calls Tryd.prog 18 #[.agg #[.int .i64 2, .int .i64 1, .string s]] w (ValSays 0 w) := by
  have q : (!s.toList.isEmpty) = false := by rw [h]; rfl
  go_enter Tryd.func18, Tryd.ntmps18
  go_wp2_with fail
  go_ret
  exact ⟨rfl, belowNew _ _⟩
set_option maxHeartbeats 1000000 in
theorem rval_bool1_bad (h : s.toList.isEmpty = false) : Calls Tryd.prog 18 #[.agg #[.int .i64 2, .int .i64 1, .string s]] w (ValSays 3 w) := by
  have q : (!s.toList.isEmpty) = true := by rw [h]; rfl
  go_enter Tryd.func18, Tryd.ntmps18
  go_wp2_with fail
  go_ret
  exact ⟨rfl, belowNew _ _⟩
set_option maxHeartbeats 1000000 in
theorem rval_long (h : decide (40 < (s.size : Int)) = true) : Calls Tryd.prog 18 #[.agg #[.int .i64 3, .int .i64 n, .string s]] w (ValSays 4 w) := by
  go_enter Tryd.func18, Tryd.ntmps18
  go_wp2_with fail
  go_ret
  exact ⟨rfl, belowNew _ _⟩
set_option maxHeartbeats 1000000 in
theorem rval_plain_no (hs : s.size ≤ maxLen) (h : decide (40 < (s.size : Int)) = false) (hp : textOk s = false) : Calls Tryd.prog 18 #[.agg #[.int .i64 3, .int .i64 n, .string s]] w (ValSays 2 w) := by
  have T := Lib.hid (rplain_any s (w.alloc (.cells #[.int .i64 3, .int .i64 n, .string s] 33)) hs)
  have HP := Lib.hid hp
  clear hp hs
  go_enter Tryd.func18, Tryd.ntmps18
  go_wp2_with fail
  refine (T.out).mono ?_
  rintro e w1 ⟨rfl, rfl⟩
  rw [HP.out]
  go_wp2_with fail
  go_ret
  exact ⟨rfl, belowNew _ _⟩
set_option maxHeartbeats 1000000 in
theorem rval_text_n (hs : s.size ≤ maxLen) (h : decide (40 < (s.size : Int)) = false) (hp : textOk s = true) (h2 : (n != 0) = true) : Calls Tryd.prog 18 #[.agg #[.int .i64 3, .int .i64 n, .string s]] w (ValSays 3 w) := by
  have T := Lib.hid (rplain_any s (w.alloc (.cells #[.int .i64 3, .int .i64 n, .string s] 33)) hs)
  have HP := Lib.hid hp
  clear hp hs
  go_enter Tryd.func18, Tryd.ntmps18
  go_wp2_with fail
  refine (T.out).mono ?_
  rintro e w1 ⟨rfl, rfl⟩
  rw [HP.out]
  go_wp2_with fail
  go_ret
  exact ⟨rfl, belowNew _ _⟩
set_option maxHeartbeats 1000000 in
theorem rval_text_ok (hs : s.size ≤ maxLen) (h : decide (40 < (s.size : Int)) = false) (hp : textOk s = true) : Calls Tryd.prog 18 #[.agg #[.int .i64 3, .int .i64 0, .string s]] w (ValSays 0 w) := by
  have T := Lib.hid (rplain_any s (w.alloc (.cells #[.int .i64 3, .int .i64 0, .string s] 33)) hs)
  have HP := Lib.hid hp
  clear hp hs
  go_enter Tryd.func18, Tryd.ntmps18
  go_wp2_with fail
  refine (T.out).mono ?_
  rintro e w1 ⟨rfl, rfl⟩
  rw [HP.out]
  go_wp2_with fail
  go_ret
  exact ⟨rfl, belowNew _ _⟩
end
/-- Val, at any value. -/
theorem rval_any (v : Val) (w : World) (hs : v.s.size ≤ maxLen) : Calls Tryd.prog 18 #[.agg #[.int .i64 v.type, .int .i64 v.n, .string v.s]] w (ValSays (vcheck v) w) := by
  obtain ⟨t, n, s⟩ := v
  unfold vcheck
  show Calls Tryd.prog 18 #[.agg #[.int .i64 t, .int .i64 n, .string s]] w _
  by_cases h1 : t = 1
  · subst h1
    rw [if_pos rfl]
    by_cases h : s.data.toList = []
    · rw [if_pos h]; exact rval_int_ok w n s (str_empty h)
    · rw [if_neg h]; exact rval_int_bad w n s (str_some h)
  rw [if_neg h1]
  by_cases h2 : t = 2
  · subst h2
    rw [if_pos rfl]
    by_cases h : n = 0 ∨ n = 1
    · rw [if_pos h]
      by_cases he : s.data.toList = []
      · rw [if_pos he]
        rcases h with h | h
        · replace h : n = 0 := h
          subst h; exact rval_bool0_ok w s (str_empty he)
        · replace h : n = 1 := h
          subst h; exact rval_bool1_ok w s (str_empty he)
      · rw [if_neg he]
        rcases h with h | h
        · replace h : n = 0 := h
          subst h; exact rval_bool0_bad w s (str_some he)
        · replace h : n = 1 := h
          subst h; exact rval_bool1_bad w s (str_some he)
    · rw [if_neg h]
      exact rval_bool_no w n s (by simp; exact fun e => h (Or.inl e)) (by simp; exact fun e => h (Or.inr e))
  rw [if_neg h2]
  by_cases h3 : t = 3
  · subst h3
    rw [if_pos rfl]
    by_cases hl : 40 < s.size
    · rw [if_pos hl]; exact rval_long w n s (decide_eq_true (by omega))
    · rw [if_neg hl]
      have hd : decide (40 < (s.size : Int)) = false := decide_eq_false (by omega)
      cases hp : textOk s with
      | false => rw [if_pos rfl]; exact rval_plain_no w n s hs hd hp
      | true =>
        rw [if_neg (by decide)]
        by_cases hn : n = 0
        · subst hn; rw [if_neg (by simp)]; exact rval_text_ok w s hs hd hp
        · rw [if_pos hn]; exact rval_text_n w n s hs hd hp (by simpa using hn)
  rw [if_neg h3]
  by_cases hl : t < 1
  · exact rval_low w t n s (decide_eq_true hl)
  · exact rval_high w t n s (decide_eq_false hl) (decide_eq_true (by omega))

mutual
def exDeep : Ex → Nat
  | .mk _ _ _ _ _ l _ => exDeeps 0 l + 1
def exDeeps : Nat → List Ex → Nat
  | n, [] => n
  | n, a :: l => exDeeps (if n < exDeep a then exDeep a else n) l
end
theorem exDeep_eq (e : Ex) : exDeep e = exDeeps 0 e.args + 1 := by cases e; rw [exDeep]; rfl
theorem exDeeps_snoc : ∀ (l : List Ex) (n : Nat) (a : Ex), exDeeps n (l ++ [a]) = if exDeeps n l < exDeep a then exDeep a else exDeeps n l
  | [], n, a => by rw [List.nil_append, exDeeps, exDeeps, exDeeps]
  | x :: l, n, a => by rw [List.cons_append, exDeeps, exDeeps]; exact exDeeps_snoc l _ a
theorem exDeeps_take {l : List Ex} {k : Nat} {a : Ex} (h : l[k]? = some a) : exDeeps 0 (l.take (k + 1)) = if exDeeps 0 (l.take k) < exDeep a then exDeep a else exDeeps 0 (l.take k) := by
  rw [List.take_add_one, h]; exact exDeeps_snoc _ _ _
theorem exDeeps_le : ∀ (l : List Ex) (n B : Nat), n ≤ B → (∀ a ∈ l, exDeep a ≤ B) → exDeeps n l ≤ B
  | [], n, B, hn, _ => by rw [exDeeps]; exact hn
  | a :: l, n, B, hn, h => by
    rw [exDeeps]
    refine exDeeps_le l _ B ?_ fun x hx => h x (List.mem_cons_of_mem _ hx)
    split
    · exact h a List.mem_cons_self
    · exact hn
theorem exDeeps_ge : ∀ (l : List Ex) (n : Nat), n ≤ exDeeps n l ∧ ∀ a ∈ l, exDeep a ≤ exDeeps n l
  | [], n => by rw [exDeeps]; exact ⟨Nat.le_refl _, fun a h => by cases h⟩
  | a :: l, n => by
    rw [exDeeps]
    by_cases hlt : n < exDeep a
    · rw [if_pos hlt]
      obtain ⟨h1, h2⟩ := exDeeps_ge l (exDeep a)
      refine ⟨by omega, fun x hx => ?_⟩
      rcases List.mem_cons.1 hx with rfl | hx
      · exact h1
      · exact h2 x hx
    · rw [if_neg hlt]
      obtain ⟨h1, h2⟩ := exDeeps_ge l n
      refine ⟨h1, fun x hx => ?_⟩
      rcases List.mem_cons.1 hx with rfl | hx
      · omega
      · exact h2 x hx
theorem deep_le_n : ∀ (m : Nat) (e : Ex), SizeOf.sizeOf e ≤ m → exDeep e ≤ exN e
  | 0, e, hm => by cases e; simp at hm
  | m + 1, .mk op name v A c args pos, hm => by
    rw [exDeep_eq, exN_eq]
    have := exDeeps_le args 0 (exNs args) (Nat.zero_le _) fun a ha => Nat.le_trans (deep_le_n m a (by have := ex_lt (e := .mk op name v A c args pos) ha; omega)) (exNs_mem ha)
    show exDeeps 0 args + 1 ≤ exNs args + 1
    omega
theorem below_deep : ∀ (m : Nat) (e : Ex), exBelow m e = decide (exDeep e ≤ m)
  | 0, e => by rw [exBelow, exDeep_eq]; simp
  | m + 1, e => by
    rw [exBelow_all, exDeep_eq]
    by_cases h : exDeeps 0 e.args + 1 ≤ m + 1
    · rw [decide_eq_true h]
      refine List.all_eq_true.2 fun a ha => ?_
      rw [below_deep m a]
      have := (exDeeps_ge e.args 0).2 a ha
      exact decide_eq_true (by omega)
    · rw [decide_eq_false h]
      cases hb : e.args.all (exBelow m) with
      | false => rfl
      | true =>
        exfalso
        have h2 := exDeeps_le e.args 0 m (Nat.zero_le _) fun a ha => by
          have := List.all_eq_true.1 hb a ha
          rw [below_deep m a] at this
          simpa using this
        omega

def SizeAt (m : Nat) : Prop := ∀ e : Ex, SizeOf.sizeOf e ≤ m → ∀ w : World, SeesEx w e → Calls Tryd.prog 101 #[exV e] w (ValSays (exSize e) w)
def DeepAt (m : Nat) : Prop := ∀ e : Ex, SizeOf.sizeOf e ≤ m → exN e ≤ 1048576 → ∀ w : World, SeesEx w e → Calls Tryd.prog 102 #[exV e] w (ValSays (exDeep e) w)
set_option maxHeartbeats 1000000 in
set_option maxRecDepth 100000 in
theorem rsize_step (m : Nat) (ih : SizeAt m) (op name : ByteArray) (v : Val) (A : Option Addr) (c : Nat) (args : List Ex) (pos : Int) (hm : SizeOf.sizeOf (Ex.mk op name v A c args pos) ≤ m + 1) (w : World) (he : SeesEx w (.mk op name v A c args pos)) :
    Calls Tryd.prog 101 #[exV (.mk op name v A c args pos)] w (ValSays (exSize (.mk op name v A c args pos)) w) := by
  have IH := Lib.hid ih
  have HM := Lib.hid (fun a (ha : a ∈ args) => show SizeOf.sizeOf a ≤ m by have := ex_lt (e := .mk op name v A c args pos) ha; omega)
  have hb0 : Below w.heap.size w (w.alloc (.cells #[.string op, .string name, .int .i64 v.type, .int .i64 v.n, .string v.s, .slice A args.length c, .int .i64 pos] 44)) := belowNew _ _
  have HE := Lib.hid (he.keep hb0)
  have HB := Lib.hid hb0
  have hcap : args.length ≤ c := he.parts.1.2.1
  have hmax : c ≤ maxLen := he.parts.1.2.2.1
  unfold maxLen at hmax
  have HS := Lib.hid (exSize_eq (.mk op name v A c args pos))
  have CE := Lib.hid (fun (w1 : World) (hb : Below (w.alloc (.cells #[.string op, .string name, .int .i64 v.type, .int .i64 v.n, .string v.s, .slice A args.length c, .int .i64 pos] 44)).heap.size (w.alloc (.cells #[.string op, .string name, .int .i64 v.type, .int .i64 v.n, .string v.s, .slice A args.length c, .int .i64 pos] 44)) w1) => (hb.cell (p := ⟨w.heap.size, 5, none⟩) (by simp)).trans (show _ = some (.slice A args.length c) by simp))
  show Calls Tryd.prog 101 #[.agg #[.string op, .string name, .int .i64 v.type, .int .i64 v.n, .string v.s, .slice A args.length c, .int .i64 pos]] w _
  generalize hn : args.length = n at hcap HE HB CE ⊢
  have HLn := Lib.hid hn
  clear hm he hb0 hn ih
  go_enter Tryd.func101, Tryd.ntmps101
  go_wp2_with fail
  generalize w.alloc (.cells #[.string op, .string name, .int .i64 v.type, .int .i64 v.n, .string v.s, .slice A n c, .int .i64 pos] 44) = w0 at HE HB CE ⊢
  go_loopw [3, 4] (fun s i wr => ∃ k : Nat, k ≤ n ∧ i = .int .i64 k ∧ s = .int .i64 (exSizes 1 (args.take k)) ∧ Below w0.heap.size w0 wr) (fun _ i _ => n - (intOf i).toNat)
  case atStart => exact ⟨0, by omega, rfl, rfl, Below.refl _ _⟩
  case round =>
    obtain ⟨k, hk, rfl, rfl, hb⟩ := hrel
    have HBR := Lib.hid hb
    have d5 := CE.out wr hb
    by_cases hlk : k < n
    · obtain ⟨g, o, x, (rfl : A = _), hg, hx, hsx, c0, c1, c2, c3, c4, c5, c6⟩ := (HE.out.keep hb).at_ (k := k) (by show k < args.length; rw [HLn.out]; exact hlk)
      have HX := Lib.hid (show args[k]? = some x from hx)
      have T := Lib.hid (IH.out x (HM.out x (List.mem_of_getElem? HX.out)) wr hsx)
      unfold exV at T
      clear hb hx hsx
      have E := Lib.hid (exSizes_take (n := 1) HX.out)
      go_wp2_with fail
      refine (T.out).mono ?_
      rintro e' w1 ⟨rfl, hb1⟩
      have HB1 := Lib.hid (below_step HBR.out hb1)
      clear hb1
      go_wp2_with fail
      go_roundw
      case rel => exact ⟨k + 1, by omega, by go_num, by rw [E.out], HB1.out⟩
      case measure => simp [intOf]; omega
    · obtain rfl : n = k := by omega
      have htk : args.take n = args := List.take_of_length_le (by rw [HLn.out]; exact Nat.le_refl _)
      rw [htk]
      clear hb htk
      go_wp2_with fail
      go_ret
      exact ⟨by rw [HS.out]; rfl, below_step HB.out HBR.out⟩
theorem rsize_any : ∀ m : Nat, SizeAt m
  | 0 => fun e hm _ _ => by cases e; simp at hm
  | m + 1 => fun e hm w he => by
    obtain ⟨op, name, v, A, c, args, pos⟩ := e
    exact rsize_step m (rsize_any m) op name v A c args pos hm w he
set_option maxHeartbeats 1000000 in
set_option maxRecDepth 100000 in
theorem rdeep_step (m : Nat) (ih : DeepAt m) (op name : ByteArray) (v : Val) (A : Option Addr) (c : Nat) (args : List Ex) (pos : Int) (hm : SizeOf.sizeOf (Ex.mk op name v A c args pos) ≤ m + 1) (hN : exN (Ex.mk op name v A c args pos) ≤ 1048576) (w : World) (he : SeesEx w (.mk op name v A c args pos)) :
    Calls Tryd.prog 102 #[exV (.mk op name v A c args pos)] w (ValSays (exDeep (.mk op name v A c args pos)) w) := by
  have IH := Lib.hid ih
  have HM := Lib.hid (fun a (ha : a ∈ args) => show SizeOf.sizeOf a ≤ m by have := ex_lt (e := .mk op name v A c args pos) ha; omega)
  have hb0 : Below w.heap.size w (w.alloc (.cells #[.string op, .string name, .int .i64 v.type, .int .i64 v.n, .string v.s, .slice A args.length c, .int .i64 pos] 44)) := belowNew _ _
  have HE := Lib.hid (he.keep hb0)
  have HB := Lib.hid hb0
  have hcap : args.length ≤ c := he.parts.1.2.1
  have hmax : c ≤ maxLen := he.parts.1.2.2.1
  unfold maxLen at hmax
  have HS := Lib.hid (exDeep_eq (.mk op name v A c args pos))
  have HNN := Lib.hid (show ∀ a ∈ args, exN a ≤ 1048576 from fun a ha => by have h1 := exNs_mem ha; rw [exN] at hN; omega)
  have HDB := Lib.hid (show exDeeps 0 args ≤ 1048576 from exDeeps_le args 0 1048576 (Nat.zero_le _) fun a ha => Nat.le_trans (deep_le_n _ a (Nat.le_refl _)) (HNN.out a ha))
  replace HS := Lib.hid (show exDeep (.mk op name v A c args pos) = exDeeps 0 args + 1 from HS.out)
  have CE := Lib.hid (fun (w1 : World) (hb : Below (w.alloc (.cells #[.string op, .string name, .int .i64 v.type, .int .i64 v.n, .string v.s, .slice A args.length c, .int .i64 pos] 44)).heap.size (w.alloc (.cells #[.string op, .string name, .int .i64 v.type, .int .i64 v.n, .string v.s, .slice A args.length c, .int .i64 pos] 44)) w1) => (hb.cell (p := ⟨w.heap.size, 5, none⟩) (by simp)).trans (show _ = some (.slice A args.length c) by simp))
  show Calls Tryd.prog 102 #[.agg #[.string op, .string name, .int .i64 v.type, .int .i64 v.n, .string v.s, .slice A args.length c, .int .i64 pos]] w _
  generalize hn : args.length = n at hcap HE HB CE ⊢
  have HLn := Lib.hid hn
  clear hm he hb0 hn ih hN
  go_enter Tryd.func102, Tryd.ntmps102
  go_wp2_with fail
  generalize w.alloc (.cells #[.string op, .string name, .int .i64 v.type, .int .i64 v.n, .string v.s, .slice A n c, .int .i64 pos] 44) = w0 at HE HB CE ⊢
  go_loopw [3, 4] (fun s i wr => ∃ k : Nat, k ≤ n ∧ i = .int .i64 k ∧ s = .int .i64 (exDeeps 0 (args.take k) : Nat) ∧ Below w0.heap.size w0 wr) (fun _ i _ => n - (intOf i).toNat)
  case atStart => exact ⟨0, by omega, rfl, rfl, Below.refl _ _⟩
  case round =>
    obtain ⟨k, hk, rfl, rfl, hb⟩ := hrel
    have HBR := Lib.hid hb
    have d5 := CE.out wr hb
    by_cases hlk : k < n
    · obtain ⟨g, o, x, (rfl : A = _), hg, hx, hsx, c0, c1, c2, c3, c4, c5, c6⟩ := (HE.out.keep hb).at_ (k := k) (by show k < args.length; rw [HLn.out]; exact hlk)
      have HX := Lib.hid (show args[k]? = some x from hx)
      have T := Lib.hid (IH.out x (HM.out x (List.mem_of_getElem? HX.out)) (HNN.out x (List.mem_of_getElem? HX.out)) wr hsx)
      unfold exV at T
      clear hb hx hsx
      have E := Lib.hid (exDeeps_take HX.out)
      generalize exDeep x = dx at T E
      generalize exDeeps 0 (args.take k) = dk at E ⊢
      by_cases hd : dk < dx
      · have q : decide (dk < dx) = true := decide_eq_true hd
        have E2 := Lib.hid (show exDeeps 0 (args.take (k + 1)) = dx by rw [E.out, if_pos hd])
        clear hd
        go_wp2_with fail
        refine (T.out).mono ?_
        rintro e' w1 ⟨rfl, hb1⟩
        have HB1 := Lib.hid (below_step HBR.out hb1)
        clear hb1
        go_wp2_with fail
        go_roundw
        case rel => exact ⟨k + 1, by omega, by go_num, by rw [E2.out], HB1.out⟩
        case measure => simp [intOf]; omega
      · have q : decide (dk < dx) = false := decide_eq_false hd
        have E2 := Lib.hid (show exDeeps 0 (args.take (k + 1)) = dk by rw [E.out, if_neg hd])
        clear hd
        go_wp2_with fail
        refine (T.out).mono ?_
        rintro e' w1 ⟨rfl, hb1⟩
        have HB1 := Lib.hid (below_step HBR.out hb1)
        clear hb1
        go_wp2_with fail
        go_roundw
        case rel => exact ⟨k + 1, by omega, by go_num, by rw [E2.out], HB1.out⟩
        case measure => simp [intOf]; omega
    · obtain rfl : n = k := by omega
      have htk : args.take n = args := List.take_of_length_le (by rw [HLn.out]; exact Nat.le_refl _)
      rw [htk]
      clear hb htk
      have hDB := HDB.out
      generalize exDeeps 0 args = dd at hDB HS ⊢
      go_wp2_with fail
      go_ret
      exact ⟨by rw [HS.out]; go_num, below_step HB.out HBR.out⟩
theorem rdeep_any : ∀ m : Nat, DeepAt m
  | 0 => fun e hm _ _ _ => by cases e; simp at hm
  | m + 1 => fun e hm hN w he => by
    obtain ⟨op, name, v, A, c, args, pos⟩ := e
    exact rdeep_step m (rdeep_any m) op name v A c args pos hm hN w he
end Go.Proofs.YtapbmknimejldaaDoor
