/- sluiceref1.plain, Val, walked. -/
import Derived.Test.YtkgdfccpkiglaaaDoorSVals
import Derived.Test.YtkgdfccpkiglaaaDoorSAnyInt
namespace Go.Proofs.YtkgdfccpkiglaaaDoor
open Go.ChangeShapes Go.WideShapes Go.ChangeAt Go.RowKit
theorem seesNew (w : World) (cs : List Value) (t : TypeId) (n size : Nat) (h : cs.length = n * size) (hn : n ≤ maxLen) : Sees (w.alloc (.cells cs.toArray t)) (some ⟨w.heap.size, 0, none⟩) n n size cs := by
 refine ⟨h, Nat.le_refl _, hn, (fun e => by cases e), fun _ => ⟨_, _, rfl, by simp, fun j u hu => ?_⟩⟩
 rw [Nat.zero_add, cell_of_row _ _ _ _ _ _ (heap_alloc_new w _)]
 simpa using hu
set_option maxHeartbeats 1000000 in
theorem belowNew (w : World) (o : Obj) : Below w.heap.size w (w.alloc o) := (Below.refl _ _).alloc (Nat.le_refl _) _
theorem byte_at {s : ByteArray} {k : Nat} {b : UInt8} (h : k < s.size) (hb : s.data.toList[k]? = some b) : s[k] = b := by
 have : s.data[k]? = some b := by rw [← Array.getElem?_toList]; exact hb
 obtain ⟨h1, h2⟩ := Array.getElem?_eq_some_iff.1 this
 exact h2
set_option maxHeartbeats 1000000 in
theorem rplain_any (s : ByteArray) (w : World) (hs : s.size ≤ maxLen) :
  Calls Tryd.prog 28 #[.string s] w fun e w' => e = .returned (.bool (textOk s)) ∧ w = w' := by
 have hsz' := Lib.hid (size_eq s)
 unfold maxLen at hs
 go_enter Tryd.func28, Tryd.ntmps28
 go_wp2_with fail
 go_loop [2, 3] (fun _ i => ∃ k : Nat, k ≤ s.size ∧ i = .int .i64 k ∧ (s.data.toList.take k).all plainB = true) (fun _ i => s.size - (intOf i).toNat)
 case atStart => exact ⟨0, by omega, rfl, by simp⟩
 case round =>
  obtain ⟨k, hk, rfl, hall⟩ := hrel
  have HA := Lib.hid hall
  clear hall
  by_cases hlt : k < s.size
  ·obtain ⟨b, hb⟩ : ∃ b, s.data.toList[k]? = some b := ⟨_, List.getElem?_eq_getElem (by rw [hsz'.out]; exact hlt)⟩
   have HB := Lib.hid hb
   have eb := byte_at hlt hb
   have hr : (b.toNat : Int) < 256 := by have := UInt8.toNat_lt b; omega
   clear hb
   by_cases hL : plainB b = true
   ·have q : 32 ≤ (b.toNat : Int) ∧ (b.toNat : Int) ≤ 126 := by
     unfold plainB at hL; simp only [Bool.and_eq_true, decide_eq_true_eq] at hL; omega
    have HL := Lib.hid hL
    clear hL
    obtain ⟨q1, q2⟩ := q
    have d1 : decide ((b.toNat : Int) < 32) = false := by simp; omega
    have d2 : decide (126 < (b.toNat : Int)) = false := by simp; omega
    go_wp2_with fail
    go_round
    case rel => exact ⟨k + 1, by omega, by go_num, all_take_succ HA.out HB.out HL.out⟩
    case measure => simp [intOf]; omega
   ·have E := Lib.hid (all_false HB.out (by simpa using hL))
    by_cases h1 : (b.toNat : Int) < 32
    ·have d1 : decide ((b.toNat : Int) < 32) = true := decide_eq_true h1
     clear hL h1
     go_wp2_with fail
     go_ret
     exact ⟨by unfold textOk; rw [E.out]; rfl, rfl⟩
    ·have d1 : decide ((b.toNat : Int) < 32) = false := decide_eq_false h1
     have d2 : decide (126 < (b.toNat : Int)) = true := by
      refine decide_eq_true ?_
      by_cases h2 : 126 < (b.toNat : Int)
      ·exact h2
      ·exact absurd (by unfold plainB; simp only [Bool.and_eq_true, decide_eq_true_eq]; omega) hL
     clear hL h1
     go_wp2_with fail
     go_ret
     exact ⟨by unfold textOk; rw [E.out]; rfl, rfl⟩
  ·have hall : s.data.toList.all plainB = true := by have := HA.out; rwa [List.take_of_length_le (by rw [hsz'.out]; omega)] at this
   have E := Lib.hid hall
   clear hall HA
   go_wp2_with fail
   go_ret
   exact ⟨by unfold textOk; rw [E.out]; rfl, rfl⟩
section
variable (w : World) (t n : Int) (s : ByteArray)
def ValSays (k : Int) (w : World) (e : Ending) (w' : World) : Prop := e = .returned (.int .i64 k) ∧ Below w.heap.size w w'
set_option maxHeartbeats 1000000 in
theorem rval_low (h : decide (t < 1) = true) : Calls Tryd.prog 17 #[.agg #[.int .i64 t, .int .i64 n, .string s]] w (ValSays 1 w) := by
 go_enter Tryd.func17, Tryd.ntmps17
 go_wp2_with fail
 go_ret
 exact ⟨rfl, belowNew _ _⟩
set_option maxHeartbeats 1000000 in
theorem rval_high (h : decide (t < 1) = false) (h2 : decide (3 < t) = true) : Calls Tryd.prog 17 #[.agg #[.int .i64 t, .int .i64 n, .string s]] w (ValSays 1 w) := by
 go_enter Tryd.func17, Tryd.ntmps17
 go_wp2_with fail
 go_ret
 exact ⟨rfl, belowNew _ _⟩
set_option maxHeartbeats 1000000 in
theorem rval_int_ok (h : s.toList = []) : Calls Tryd.prog 17 #[.agg #[.int .i64 1, .int .i64 n, .string s]] w (ValSays 0 w) := by
 have q : (!s.toList.isEmpty) = false := by rw [h]; rfl
 go_enter Tryd.func17, Tryd.ntmps17
 go_wp2_with fail
 go_ret
 exact ⟨rfl, belowNew _ _⟩
set_option maxHeartbeats 1000000 in
theorem rval_int_bad (h : s.toList.isEmpty = false) : Calls Tryd.prog 17 #[.agg #[.int .i64 1, .int .i64 n, .string s]] w (ValSays 3 w) := by
 have q : (!s.toList.isEmpty) = true := by rw [h]; rfl
 go_enter Tryd.func17, Tryd.ntmps17
 go_wp2_with fail
 go_ret
 exact ⟨rfl, belowNew _ _⟩
set_option maxHeartbeats 1000000 in
theorem rval_bool_no (h : (n != 0) = true) (h2 : (n != 1) = true) : Calls Tryd.prog 17 #[.agg #[.int .i64 2, .int .i64 n, .string s]] w (ValSays 1 w) := by
 go_enter Tryd.func17, Tryd.ntmps17
 go_wp2_with fail
 go_ret
 exact ⟨rfl, belowNew _ _⟩
set_option maxHeartbeats 1000000 in
theorem rval_bool0_ok (h : s.toList = []) : Calls Tryd.prog 17 #[.agg #[.int .i64 2, .int .i64 0, .string s]] w (ValSays 0 w) := by
 have q : (!s.toList.isEmpty) = false := by rw [h]; rfl
 go_enter Tryd.func17, Tryd.ntmps17
 go_wp2_with fail
 go_ret
 exact ⟨rfl, belowNew _ _⟩
set_option maxHeartbeats 1000000 in
theorem rval_bool0_bad (h : s.toList.isEmpty = false) : Calls Tryd.prog 17 #[.agg #[.int .i64 2, .int .i64 0, .string s]] w (ValSays 3 w) := by
 have q : (!s.toList.isEmpty) = true := by rw [h]; rfl
 go_enter Tryd.func17, Tryd.ntmps17
 go_wp2_with fail
 go_ret
 exact ⟨rfl, belowNew _ _⟩
set_option maxHeartbeats 1000000 in
theorem rval_bool1_ok (h : s.toList = []) : Calls Tryd.prog 17 #[.agg #[.int .i64 2, .int .i64 1, .string s]] w (ValSays 0 w) := by
 have q : (!s.toList.isEmpty) = false := by rw [h]; rfl
 go_enter Tryd.func17, Tryd.ntmps17
 go_wp2_with fail
 go_ret
 exact ⟨rfl, belowNew _ _⟩
set_option maxHeartbeats 1000000 in
theorem rval_bool1_bad (h : s.toList.isEmpty = false) : Calls Tryd.prog 17 #[.agg #[.int .i64 2, .int .i64 1, .string s]] w (ValSays 3 w) := by
 have q : (!s.toList.isEmpty) = true := by rw [h]; rfl
 go_enter Tryd.func17, Tryd.ntmps17
 go_wp2_with fail
 go_ret
 exact ⟨rfl, belowNew _ _⟩
set_option maxHeartbeats 1000000 in
theorem rval_long (h : decide (40 < (s.size : Int)) = true) : Calls Tryd.prog 17 #[.agg #[.int .i64 3, .int .i64 n, .string s]] w (ValSays 4 w) := by
 go_enter Tryd.func17, Tryd.ntmps17
 go_wp2_with fail
 go_ret
 exact ⟨rfl, belowNew _ _⟩
set_option maxHeartbeats 1000000 in
theorem rval_plain_no (hs : s.size ≤ maxLen) (h : decide (40 < (s.size : Int)) = false) (hp : textOk s = false) : Calls Tryd.prog 17 #[.agg #[.int .i64 3, .int .i64 n, .string s]] w (ValSays 2 w) := by
 have T := Lib.hid (rplain_any s (w.alloc (.cells #[.int .i64 3, .int .i64 n, .string s] 46)) hs)
 have HP := Lib.hid hp
 clear hp hs
 go_enter Tryd.func17, Tryd.ntmps17
 go_wp2_with fail
 refine (T.out).mono ?_
 rintro e w1 ⟨rfl, rfl⟩
 rw [HP.out]
 go_wp2_with fail
 go_ret
 exact ⟨rfl, belowNew _ _⟩
set_option maxHeartbeats 1000000 in
theorem rval_text_n (hs : s.size ≤ maxLen) (h : decide (40 < (s.size : Int)) = false) (hp : textOk s = true) (h2 : (n != 0) = true) : Calls Tryd.prog 17 #[.agg #[.int .i64 3, .int .i64 n, .string s]] w (ValSays 3 w) := by
 have T := Lib.hid (rplain_any s (w.alloc (.cells #[.int .i64 3, .int .i64 n, .string s] 46)) hs)
 have HP := Lib.hid hp
 clear hp hs
 go_enter Tryd.func17, Tryd.ntmps17
 go_wp2_with fail
 refine (T.out).mono ?_
 rintro e w1 ⟨rfl, rfl⟩
 rw [HP.out]
 go_wp2_with fail
 go_ret
 exact ⟨rfl, belowNew _ _⟩
set_option maxHeartbeats 1000000 in
theorem rval_text_ok (hs : s.size ≤ maxLen) (h : decide (40 < (s.size : Int)) = false) (hp : textOk s = true) : Calls Tryd.prog 17 #[.agg #[.int .i64 3, .int .i64 0, .string s]] w (ValSays 0 w) := by
 have T := Lib.hid (rplain_any s (w.alloc (.cells #[.int .i64 3, .int .i64 0, .string s] 46)) hs)
 have HP := Lib.hid hp
 clear hp hs
 go_enter Tryd.func17, Tryd.ntmps17
 go_wp2_with fail
 refine (T.out).mono ?_
 rintro e w1 ⟨rfl, rfl⟩
 rw [HP.out]
 go_wp2_with fail
 go_ret
 exact ⟨rfl, belowNew _ _⟩
end
theorem rval_any (v : Val) (w : World) (hs : v.s.size ≤ maxLen) : Calls Tryd.prog 17 #[.agg #[.int .i64 v.type, .int .i64 v.n, .string v.s]] w (ValSays (vcheck v) w) := by
 obtain ⟨t, n, s⟩ := v
 unfold vcheck
 show Calls Tryd.prog 17 #[.agg #[.int .i64 t, .int .i64 n, .string s]] w _
 by_cases h1 : t = 1
 ·subst h1
  rw [if_pos rfl]
  by_cases h : s.data.toList = []
  ·rw [if_pos h]; exact rval_int_ok w n s (str_empty h)
  ·rw [if_neg h]; exact rval_int_bad w n s (str_some h)
 rw [if_neg h1]
 by_cases h2 : t = 2
 ·subst h2
  rw [if_pos rfl]
  by_cases h : n = 0 ∨ n = 1
  ·rw [if_pos h]
   by_cases he : s.data.toList = []
   ·rw [if_pos he]
    rcases h with h | h
    ·replace h : n = 0 := h
     subst h; exact rval_bool0_ok w s (str_empty he)
    ·replace h : n = 1 := h
     subst h; exact rval_bool1_ok w s (str_empty he)
   ·rw [if_neg he]
    rcases h with h | h
    ·replace h : n = 0 := h
     subst h; exact rval_bool0_bad w s (str_some he)
    ·replace h : n = 1 := h
     subst h; exact rval_bool1_bad w s (str_some he)
  ·rw [if_neg h]
   exact rval_bool_no w n s (by simp; exact fun e => h (Or.inl e)) (by simp; exact fun e => h (Or.inr e))
 rw [if_neg h2]
 by_cases h3 : t = 3
 ·subst h3
  rw [if_pos rfl]
  by_cases hl : 40 < s.size
  ·rw [if_pos hl]; exact rval_long w n s (decide_eq_true (by omega))
  ·rw [if_neg hl]
   have hd : decide (40 < (s.size : Int)) = false := decide_eq_false (by omega)
   cases hp : textOk s with
   | false => rw [if_pos rfl]; exact rval_plain_no w n s hs hd hp
   | true =>
    rw [if_neg (by decide)]
    by_cases hn : n = 0
    ·subst hn; rw [if_neg (by simp)]; exact rval_text_ok w s hs hd hp
    ·rw [if_pos hn]; exact rval_text_n w n s hs hd hp (by simpa using hn)
 rw [if_neg h3]
 by_cases hl : t < 1
 ·exact rval_low w t n s (decide_eq_true hl)
 ·exact rval_high w t n s (decide_eq_false hl) (decide_eq_true (by omega))
end Go.Proofs.YtkgdfccpkiglaaaDoor
