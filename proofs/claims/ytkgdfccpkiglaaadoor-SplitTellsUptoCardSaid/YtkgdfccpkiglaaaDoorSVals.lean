/- Values: how they lie, what is wrong with one (val.Check), which is ahead (val.Order), Truth and Of: walked. -/
import Derived.Test.YtkgdfccpkiglaaaDoorSRowName
import Derived.Test.YtkgdfccpkiglaaaDoorSShelf
import Derived.Test.YtkgdfccpkiglaaaDoorSReckonFn
import Derived.StillTailTactics
import Derived.Deep.QuietTactic
import Derived.BigQuiet
namespace Go.Proofs.YtkgdfccpkiglaaaDoor
open Go.ChangeShapes Go.WideShapes Go.ChangeAt Go.RowKit
structure Val where
 type : Int
 n : Int
 s : ByteArray
instance : DecidableEq Val := fun a b =>
 if h : a.type = b.type ∧ a.n = b.n ∧ a.s = b.s then .isTrue (by cases a; cases b; simp_all) else .isFalse (fun e => h (by subst e; exact ⟨rfl, rfl, rfl⟩))
def valCells (v : Val) : List Value := [.int .i64 v.type, .int .i64 v.n, .string v.s]
def valV (v : Val) : Value := .agg #[.int .i64 v.type, .int .i64 v.n, .string v.s]
def valsCells (l : List Val) : List Value := l.flatMap valCells
def noVal : Val := ⟨0, 0, ⟨#[]⟩⟩
def Val.wf (v : Val) : Prop := fits v.type ∧ fits v.n ∧ v.s.size ≤ maxLen
theorem valsCells_at : ∀ {l : List Val} {k : Nat} {v : Val}, l[k]? = some v → (valsCells l)[k * 3]? = some (.int .i64 v.type) ∧ (valsCells l)[k * 3 + 1]? = some (.int .i64 v.n) ∧ (valsCells l)[k * 3 + 2]? = some (.string v.s)
 | x :: l, 0, c, h => by simp at h; subst h; exact ⟨rfl, rfl, rfl⟩
 | x :: l, k + 1, c, h => by
  have ih := valsCells_at (l := l) (k := k) (by simpa using h)
  have e : valsCells (x :: l) = .int .i64 x.type :: .int .i64 x.n :: .string x.s :: valsCells l := rfl
  rw [e, show (k + 1) * 3 = k * 3 + 1 + 1 + 1 by omega]
  simpa using ih
 | [], k, c, h => by simp at h
def SeesVals (w : World) (A : Option Addr) (n c : Nat) (l : List Val) : Prop := l.length = n ∧ Sees w A n c 3 (valsCells l)
theorem SeesVals.keep {w w' : World} {A : Option Addr} {n c : Nat} {l : List Val} (h : SeesVals w A n c l) (hb : Below w.heap.size w w') : SeesVals w' A n c l := ⟨h.1, h.2.keep hb⟩
theorem SeesVals.drewN {w : World} {A : Option Addr} {n c : Nat} {l : List Val} (h : SeesVals w A n c l) (q : Nat) : SeesVals (w.drewN q) A n c l := h
theorem SeesVals.at_ {w : World} {A : Option Addr} {n c : Nat} {l : List Val} (h : SeesVals w A n c l) {k : Nat} (hk : k < n) :
  ∃ g o x, A = some ⟨g, o, none⟩ ∧ g < w.heap.size ∧ l[k]? = some x ∧ w.cell? ⟨g, o + k * 3, none⟩ = some (.int .i64 x.type) ∧ w.cell? ⟨g, o + k * 3 + 1, none⟩ = some (.int .i64 x.n) ∧ w.cell? ⟨g, o + k * 3 + 2, none⟩ = some (.string x.s) := by
 obtain ⟨g, o, e, hg, hc⟩ := h.2.2.2.2.2 (by omega)
 have hl : l[k]? = some (l[k]'(by have := h.1; omega)) := List.getElem?_eq_getElem _
 obtain ⟨h1, h2, h3⟩ := valsCells_at hl
 exact ⟨g, o, _, e, hg, hl, hc _ _ h1, hc _ _ h2, hc _ _ h3⟩
def plainB (c : UInt8) : Bool := 32 ≤ c.toNat && c.toNat ≤ 126
def textOk (s : ByteArray) : Bool := s.data.toList.all plainB
def vcheck (v : Val) : Int :=
 if v.type = 1 then (if v.s.data.toList = [] then 0 else 3)
 else if v.type = 2 then (if v.n = 0 ∨ v.n = 1 then (if v.s.data.toList = [] then 0 else 3) else 1)
 else if v.type = 3 then (if 40 < v.s.size then 4 else if textOk v.s = false then 2 else if v.n ≠ 0 then 3 else 0)
 else 1
set_option maxHeartbeats 1000000 in
theorem vplain_any (s : ByteArray) (w : World) (hs : s.size ≤ maxLen) :
  Calls Tryd.prog 39 #[.string s] w fun e w' => e = .returned (.bool (textOk s)) ∧ Below w.heap.size w w' := by
 obtain ⟨C, c, m, hconv, hcell, hcap⟩ := bytes_conv (P := Tryd.prog) w 9 62 5 s Tryd.underlying9 Tryd.underlying62 Tryd.underlying5
 have hcell' := Lib.hid hcell
 have hsz' := Lib.hid (size_eq s)
 unfold maxLen at hs
 clear hcell
 go_enter Tryd.func39, Tryd.ntmps39
 go_wp2_with fail
 clear hconv
 go_loop [4, 8] (fun ch i => ∃ k : Nat, k ≤ s.size ∧ i = .int .i64 k ∧ (s.data.toList.take k).all plainB = true) (fun _ i => s.size - (intOf i).toNat)
 case atStart => exact ⟨0, by omega, rfl, by simp⟩
 case round =>
  obtain ⟨k, hk, rfl, hall⟩ := hrel
  have HA := Lib.hid hall
  clear hall
  by_cases hlt : k < s.size
  ·obtain ⟨b, hb⟩ : ∃ b, s.data.toList[k]? = some b := ⟨_, List.getElem?_eq_getElem (by rw [hsz'.out]; exact hlt)⟩
   have h1 := hcell'.out k (by rw [hsz'.out]; exact hlt)
   rw [byteCells_at hb] at h1
   have HB := Lib.hid hb
   have hr : (b.toNat : Int) < 256 := by have := UInt8.toNat_lt b; omega
   clear hb
   by_cases hL : plainB b = true
   ·have q : 32 ≤ (b.toNat : Int) ∧ (b.toNat : Int) ≤ 126 := by
     unfold plainB at hL; simp only [Bool.and_eq_true, decide_eq_true_eq] at hL; omega
    have HL := Lib.hid hL
    clear hL
    obtain ⟨q1, q2⟩ := q
    generalize (b.toNat : Int) = x at *
    go_wp2
    all_goals go_round
    case rel => exact ⟨k + 1, by omega, by go_num, all_take_succ HA.out HB.out HL.out⟩
    case measure => simp [intOf]; omega
   ·have q : ¬ (32 ≤ (b.toNat : Int) ∧ (b.toNat : Int) ≤ 126) := by
     intro q
     apply hL
     unfold plainB; simp only [Bool.and_eq_true, decide_eq_true_eq]; omega
    have E := Lib.hid (all_false HB.out (by simpa using hL))
    clear hL
    generalize (b.toNat : Int) = x at *
    go_wp2
    all_goals go_ret
    all_goals exact ⟨by unfold textOk; rw [E.out]; rfl, ((Below.refl _ _).alloc (Nat.le_refl _) _).drew⟩
  ·have hall : s.data.toList.all plainB = true := by have := HA.out; rwa [List.take_of_length_le (by rw [hsz'.out]; omega)] at this
   have E := Lib.hid hall
   clear hall HA
   go_wp2
   all_goals go_ret
   all_goals exact ⟨by unfold textOk; rw [E.out]; rfl, ((Below.refl _ _).alloc (Nat.le_refl _) _).drew⟩
theorem vtype_at (t : Int) (w : World) :
  Calls Tryd.prog 38 #[.int .i64 t] w fun e w' => e = .returned (.bool (decide (1 ≤ t ∧ t ≤ 3))) ∧ w = w' := by
 by_cases h0 : 1 ≤ t
 ·by_cases h1 : t ≤ 3
  ·go_enter Tryd.func38, Tryd.ntmps38
   go_wp2
   go_ret
   exact ⟨by simp [h0, h1], rfl⟩
  ·go_enter Tryd.func38, Tryd.ntmps38
   go_wp2
   go_ret
   exact ⟨by simp; omega, rfl⟩
 ·go_enter Tryd.func38, Tryd.ntmps38
  go_wp2
  go_ret
  exact ⟨by simp; omega, rfl⟩
theorem str_empty {s : ByteArray} (h : s.data.toList = []) : s.toList = [] := by rw [Lib.toList_data]; exact h
theorem str_some {s : ByteArray} (h : ¬ s.data.toList = []) : s.toList.isEmpty = false := by
 have : s.toList ≠ [] := by rw [Lib.toList_data]; exact h
 cases hh : s.toList with
 | nil => exact absurd hh this
 | cons a b => rfl
section
variable (v : Val) (w : World)
def CheckSays (w : World) (k : Int) (e : Ending) (w' : World) : Prop := e = .returned (errV k) ∧ Below w.heap.size w w'
set_option maxHeartbeats 1000000 in
theorem vcheck_bad (t n : Int) (s : ByteArray) (h1 : t ≠ 1) (h2 : t ≠ 2) (h3 : t ≠ 3) :
  Calls Tryd.prog 30 #[.agg #[.int .i64 t, .int .i64 n, .string s]] w (CheckSays w 1) := by
 have e1 : decide (1 ≤ t ∧ t ≤ 3) = false := by simp; omega
 clear h1 h2 h3
 go_enter Tryd.func30, Tryd.ntmps30
 go_wp2_with (first | (go_at_call 38; refine (vtype_at _ _).mono ?_; rintro e w' ⟨rfl, rfl⟩; rw [e1]))
 go_ret
 exact ⟨rfl, (Below.refl _ _).alloc (Nat.le_refl _) _⟩
set_option maxHeartbeats 1000000 in
theorem vcheck_int (n : Int) (s : ByteArray) :
  Calls Tryd.prog 30 #[.agg #[.int .i64 1, .int .i64 n, .string s]] w (CheckSays w (if s.data.toList = [] then 0 else 3)) := by
 have e1 : decide ((1 : Int) ≤ 1 ∧ (1 : Int) ≤ 3) = true := by decide
 by_cases hs : s.data.toList = []
 ·have q := str_empty hs
  rw [if_pos hs]
  clear hs
  go_enter Tryd.func30, Tryd.ntmps30
  go_wp2_with (first | (go_at_call 38; refine (vtype_at _ _).mono ?_; rintro e w' ⟨rfl, rfl⟩; rw [e1]))
  go_ret
  exact ⟨rfl, (Below.refl _ _).alloc (Nat.le_refl _) _⟩
 ·have q1 := str_some hs
  have q2 : (!s.toList.isEmpty) = true := by rw [q1]; rfl
  rw [if_neg hs]
  clear hs
  go_enter Tryd.func30, Tryd.ntmps30
  go_wp2_with (first | (go_at_call 38; refine (vtype_at _ _).mono ?_; rintro e w' ⟨rfl, rfl⟩; rw [e1]))
  go_ret
  exact ⟨rfl, (Below.refl _ _).alloc (Nat.le_refl _) _⟩
set_option maxHeartbeats 1000000 in
theorem vcheck_bool (n : Int) (s : ByteArray) (hn : n = 0 ∨ n = 1) :
  Calls Tryd.prog 30 #[.agg #[.int .i64 2, .int .i64 n, .string s]] w (CheckSays w (if s.data.toList = [] then 0 else 3)) := by
 have e1 : decide ((1 : Int) ≤ 2 ∧ (2 : Int) ≤ 3) = true := by decide
 by_cases hs : s.data.toList = []
 ·have q := str_empty hs
  rw [if_pos hs]
  clear hs
  rcases hn with rfl | rfl
  all_goals
   go_enter Tryd.func30, Tryd.ntmps30
   go_wp2_with (first | (go_at_call 38; refine (vtype_at _ _).mono ?_; rintro e w' ⟨rfl, rfl⟩; rw [e1]))
   go_ret
   exact ⟨rfl, (Below.refl _ _).alloc (Nat.le_refl _) _⟩
 ·have q1 := str_some hs
  have q2 : (!s.toList.isEmpty) = true := by rw [q1]; rfl
  rw [if_neg hs]
  clear hs
  rcases hn with rfl | rfl
  all_goals
   go_enter Tryd.func30, Tryd.ntmps30
   go_wp2_with (first | (go_at_call 38; refine (vtype_at _ _).mono ?_; rintro e w' ⟨rfl, rfl⟩; rw [e1]))
   go_ret
   exact ⟨rfl, (Below.refl _ _).alloc (Nat.le_refl _) _⟩
set_option maxHeartbeats 1000000 in
theorem vcheck_bool_bad (n : Int) (s : ByteArray) (h0 : n ≠ 0) (h1 : n ≠ 1) :
  Calls Tryd.prog 30 #[.agg #[.int .i64 2, .int .i64 n, .string s]] w (CheckSays w 1) := by
 have e1 : decide ((1 : Int) ≤ 2 ∧ (2 : Int) ≤ 3) = true := by decide
 have e2 : (n != 0) = true := by simpa using h0
 have e3 : (n != 1) = true := by simpa using h1
 clear h0 h1
 go_enter Tryd.func30, Tryd.ntmps30
 go_wp2_with (first | (go_at_call 38; refine (vtype_at _ _).mono ?_; rintro e w' ⟨rfl, rfl⟩; rw [e1]))
 go_ret
 exact ⟨rfl, (Below.refl _ _).alloc (Nat.le_refl _) _⟩
set_option maxHeartbeats 1000000 in
theorem vcheck_long (n : Int) (s : ByteArray) (h : 40 < s.size) :
  Calls Tryd.prog 30 #[.agg #[.int .i64 3, .int .i64 n, .string s]] w (CheckSays w 4) := by
 have e1 : decide ((1 : Int) ≤ 3 ∧ (3 : Int) ≤ 3) = true := by decide
 go_enter Tryd.func30, Tryd.ntmps30
 go_wp2_with (first | (go_at_call 38; refine (vtype_at _ _).mono ?_; rintro e w' ⟨rfl, rfl⟩; rw [e1]))
 go_ret
 exact ⟨rfl, (Below.refl _ _).alloc (Nat.le_refl _) _⟩
set_option maxHeartbeats 1000000 in
theorem vcheck_text (n : Int) (s : ByteArray) (h : s.size ≤ 40) :
  Calls Tryd.prog 30 #[.agg #[.int .i64 3, .int .i64 n, .string s]] w (CheckSays w (if textOk s = false then 2 else if n ≠ 0 then 3 else 0)) := by
 have e1 : decide ((1 : Int) ≤ 3 ∧ (3 : Int) ≤ 3) = true := by decide
 have HP := Lib.hid (fun w => vplain_any s w (by unfold maxLen; omega))
 generalize textOk s = ok at HP ⊢
 cases ok with
 | false =>
  go_enter Tryd.func30, Tryd.ntmps30
  go_wp2_with (first | (go_at_call 38; refine (vtype_at _ _).mono ?_; rintro e w' ⟨rfl, rfl⟩; rw [e1]))
  refine (HP.out _).mono ?_
  rintro e w1 ⟨rfl, hb1⟩
  have B1 := Lib.hid (below_step ((Below.refl w.heap.size w).alloc (Nat.le_refl _) _) hb1)
  clear hb1
  go_wp2_with fail
  go_ret
  exact ⟨rfl, B1.out⟩
 | true =>
  by_cases hn : n = 0
  ·subst hn
   go_enter Tryd.func30, Tryd.ntmps30
   go_wp2_with (first | (go_at_call 38; refine (vtype_at _ _).mono ?_; rintro e w' ⟨rfl, rfl⟩; rw [e1]))
   refine (HP.out _).mono ?_
   rintro e w1 ⟨rfl, hb1⟩
   have c0 : w1.cell? ⟨w.heap.size, 0, none⟩ = some (.int .i64 3) := (hb1.cell (p := ⟨w.heap.size, 0, none⟩) (by simp)).trans (by simp)
   have c1 : w1.cell? ⟨w.heap.size, 1, none⟩ = some (.int .i64 0) := (hb1.cell (p := ⟨w.heap.size, 1, none⟩) (by simp)).trans (by simp)
   have B1 := Lib.hid (below_step ((Below.refl w.heap.size w).alloc (Nat.le_refl _) _) hb1)
   clear hb1
   go_wp2_with fail
   go_ret
   exact ⟨rfl, B1.out⟩
  ·have e2 : (n != 0) = true := by simpa using hn
   rw [if_neg (by decide), if_pos hn]
   clear hn
   go_enter Tryd.func30, Tryd.ntmps30
   go_wp2_with (first | (go_at_call 38; refine (vtype_at _ _).mono ?_; rintro e w' ⟨rfl, rfl⟩; rw [e1]))
   refine (HP.out _).mono ?_
   rintro e w1 ⟨rfl, hb1⟩
   have c0 : w1.cell? ⟨w.heap.size, 0, none⟩ = some (.int .i64 3) := (hb1.cell (p := ⟨w.heap.size, 0, none⟩) (by simp)).trans (by simp)
   have c1 : w1.cell? ⟨w.heap.size, 1, none⟩ = some (.int .i64 n) := (hb1.cell (p := ⟨w.heap.size, 1, none⟩) (by simp)).trans (by simp)
   have B1 := Lib.hid (below_step ((Below.refl w.heap.size w).alloc (Nat.le_refl _) _) hb1)
   clear hb1
   go_wp2_with fail
   go_ret
   exact ⟨rfl, B1.out⟩
end
theorem vcheck_any (v : Val) (w : World) :
  Calls Tryd.prog 30 #[valV v] w fun e w' => e = .returned (errV (vcheck v)) ∧ Below w.heap.size w w' := by
 obtain ⟨t, n, s⟩ := v
 unfold vcheck valV
 by_cases h1 : t = 1
 ·subst h1; rw [if_pos rfl]; exact vcheck_int w n s
 by_cases h2 : t = 2
 ·subst h2
  rw [if_neg h1, if_pos rfl]
  by_cases hn : n = 0 ∨ n = 1
  ·rw [if_pos hn]; exact vcheck_bool w n s hn
  ·rw [if_neg hn]; exact vcheck_bool_bad w n s (fun h => hn (Or.inl h)) (fun h => hn (Or.inr h))
 by_cases h3 : t = 3
 ·subst h3
  rw [if_neg h1, if_neg h2, if_pos rfl]
  by_cases hl : 40 < s.size
  ·rw [if_pos hl]; exact vcheck_long w n s hl
  ·rw [if_neg hl]; exact vcheck_text w n s (by omega)
 rw [if_neg h1, if_neg h2, if_neg h3]
 exact vcheck_bad w t n s h1 h2 h3
def vorder (a b : Val) : Int := if a.type = 3 then Lib.compareBytes a.s.data.toList b.s.data.toList else Lib.compareInt a.n b.n
set_option maxHeartbeats 1000000 in
theorem vorder_any (a b : Val) (w : World) :
  Calls Tryd.prog 24 #[valV a, valV b] w fun e w' => e = .returned (.int .i64 (vorder a b)) ∧ Below w.heap.size w w' := by
 obtain ⟨t, n, s⟩ := a
 obtain ⟨t2, n2, s2⟩ := b
 unfold valV vorder
 by_cases h : t = 3
 ·subst h
  rw [if_pos rfl]
  go_enter Tryd.func24, Tryd.ntmps24
  go_wp2_with (first | (go_at_call 33; refine (Tryd.strings_Compare _ _ _).mono ?_; rintro e w' ⟨rfl, rfl⟩))
  go_ret
  exact ⟨rfl, ((Below.refl _ _).alloc (Nat.le_refl _) _).alloc (by simp) _⟩
 ·have e1 : (t == 3) = false := by simpa using h
  rw [if_neg h]
  clear h
  go_enter Tryd.func24, Tryd.ntmps24
  go_wp2_with (first | (go_at_call 23; refine (Tryd.cmp_Compare_int _ _ _).mono ?_; rintro e w' ⟨rfl, rfl⟩))
  go_ret
  exact ⟨rfl, ((Below.refl _ _).alloc (Nat.le_refl _) _).alloc (by simp) _⟩
end Go.Proofs.YtkgdfccpkiglaaaDoor
