/- What numbers come to, in plain Lean: chapter 1's Reckon. No program. Values: how they lie, what is wrong with one (val.Check), which is ahead (val.Order), Truth and Of: walked. Lists of numbers; slices.ContainsFunc over them with the closures of package kind; kind.all. Expressions: how they lie. An expression of this text bears where its arguments lie, beside what it is. -/
import Derived.Test.YtpbbkpfaphjdoaaGreatDoorSErr
import Derived.IntWalk
import Derived.Test.YtpbbkpfaphjdoaaGreatDoorSShelf
import Derived.StillTailTactics
import Derived.Deep.QuietTactic
import Derived.BigQuiet
namespace Go.Proofs.YtpbbkpfaphjdoaaGreatDoor
open Go.RowKit
def lo63 : Int := -9223372036854775808
def hi63 : Int := 9223372036854775807
def fits (n : Int) : Prop := lo63 ≤ n ∧ n ≤ hi63
instance (n : Int) : Decidable (fits n) := by unfold fits; infer_instance
theorem fits_of {n : Int} (h : (Lit.int .i64 n).wf = true) : fits n := by
 have : -9223372036854775808 ≤ n ∧ n ≤ 9223372036854775807 := by simpa [Lit.wf, IntKind.min, IntKind.max, IntKind.signed, IntKind.bits] using h
 exact this
end Go.Proofs.YtpbbkpfaphjdoaaGreatDoor
namespace Go.Proofs.YtpbbkpfaphjdoaaGreatDoor
open Go.ChangeShapes Go.WideShapes Go.ChangeAt Go.RowKit
structure Val where
 type : Int
 n : Int
 s : ByteArray
instance : DecidableEq Val := fun a b =>
 if h : a.type = b.type ∧ a.n = b.n ∧ a.s = b.s then .isTrue (by cases a; cases b; simp_all) else .isFalse (fun e => h (by subst e; exact ⟨rfl, rfl, rfl⟩))
def valCells (v : Val) : List Value := [.int .i64 v.type, .int .i64 v.n, .string v.s]
def valV (v : Val) : Value := .agg #[.int .i64 v.type, .int .i64 v.n, .string v.s]
def valsCells (l : List Val) : List Value := l.flatMap valCells
def noVal : Val := ⟨0, 0, ⟨#[]⟩⟩
def truthV (b : Bool) : Val := ⟨2, if b then 1 else 0, ⟨#[]⟩⟩
def ofV (n : Int) : Val := ⟨1, n, ⟨#[]⟩⟩
def Val.wf (v : Val) : Prop := fits v.type ∧ fits v.n ∧ v.s.size ≤ maxLen
theorem valsCells_at : ∀ {l : List Val} {k : Nat} {v : Val}, l[k]? = some v → (valsCells l)[k * 3]? = some (.int .i64 v.type) ∧ (valsCells l)[k * 3 + 1]? = some (.int .i64 v.n) ∧ (valsCells l)[k * 3 + 2]? = some (.string v.s)
 | x :: l, 0, c, h => by simp at h; subst h; exact ⟨rfl, rfl, rfl⟩
 | x :: l, k + 1, c, h => by
  have ih := valsCells_at (l := l) (k := k) (by simpa using h)
  have e : valsCells (x :: l) = .int .i64 x.type :: .int .i64 x.n :: .string x.s :: valsCells l := rfl
  rw [e, show (k + 1) * 3 = k * 3 + 1 + 1 + 1 by omega]
  simpa using ih
 | [], k, c, h => by simp at h
def SeesVals (w : World) (A : Option Addr) (n c : Nat) (l : List Val) : Prop := l.length = n ∧ Sees w A n c 3 (valsCells l)
theorem SeesVals.keep {w w' : World} {A : Option Addr} {n c : Nat} {l : List Val} (h : SeesVals w A n c l) (hb : Below w.heap.size w w') : SeesVals w' A n c l := ⟨h.1, h.2.keep hb⟩
theorem SeesVals.drewN {w : World} {A : Option Addr} {n c : Nat} {l : List Val} (h : SeesVals w A n c l) (q : Nat) : SeesVals (w.drewN q) A n c l := h
theorem SeesVals.at_ {w : World} {A : Option Addr} {n c : Nat} {l : List Val} (h : SeesVals w A n c l) {k : Nat} (hk : k < n) :
  ∃ g o x, A = some ⟨g, o, none⟩ ∧ g < w.heap.size ∧ l[k]? = some x ∧ w.cell? ⟨g, o + k * 3, none⟩ = some (.int .i64 x.type) ∧ w.cell? ⟨g, o + k * 3 + 1, none⟩ = some (.int .i64 x.n) ∧ w.cell? ⟨g, o + k * 3 + 2, none⟩ = some (.string x.s) := by
 obtain ⟨g, o, e, hg, hc⟩ := h.2.2.2.2.2 (by omega)
 have hl : l[k]? = some (l[k]'(by have := h.1; omega)) := List.getElem?_eq_getElem _
 obtain ⟨h1, h2, h3⟩ := valsCells_at hl
 exact ⟨g, o, _, e, hg, hl, hc _ _ h1, hc _ _ h2, hc _ _ h3⟩
def plainB (c : UInt8) : Bool := 32 ≤ c.toNat && c.toNat ≤ 126
def textOk (s : ByteArray) : Bool := s.data.toList.all plainB
def vcheck (v : Val) : Int :=
 if v.type = 1 then (if v.s.data.toList = [] then 0 else 3)
 else if v.type = 2 then (if v.n = 0 ∨ v.n = 1 then (if v.s.data.toList = [] then 0 else 3) else 1)
 else if v.type = 3 then (if 40 < v.s.size then 4 else if textOk v.s = false then 2 else if v.n ≠ 0 then 3 else 0)
 else 1
set_option maxHeartbeats 1000000 in
theorem vplain_any (s : ByteArray) (w : World) (hs : s.size ≤ maxLen) :
  Calls Tryz.prog 86 #[.string s] w fun e w' => e = .returned (.bool (textOk s)) ∧ Below w.heap.size w w' := by
 obtain ⟨C, c, m, hconv, hcell, hcap⟩ := bytes_conv (P := Tryz.prog) w 9 168 5 s Tryz.underlying9 Tryz.underlying168 Tryz.underlying5
 have hcell' := Lib.hid hcell
 have hsz' := Lib.hid (size_eq s)
 unfold maxLen at hs
 clear hcell
 go_enter Tryz.func86, Tryz.ntmps86
 go_wp2_with fail
 clear hconv
 go_loop [4, 8] (fun ch i => ∃ k : Nat, k ≤ s.size ∧ i = .int .i64 k ∧ (s.data.toList.take k).all plainB = true) (fun _ i => s.size - (intOf i).toNat)
 case atStart => exact ⟨0, by omega, rfl, by simp⟩
 case round =>
  obtain ⟨k, hk, rfl, hall⟩ := hrel
  have HA := Lib.hid hall
  clear hall
  by_cases hlt : k < s.size
  ·obtain ⟨b, hb⟩ : ∃ b, s.data.toList[k]? = some b := ⟨_, List.getElem?_eq_getElem (by rw [hsz'.out]; exact hlt)⟩
   have h1 := hcell'.out k (by rw [hsz'.out]; exact hlt)
   rw [byteCells_at hb] at h1
   have HB := Lib.hid hb
   have hr : (b.toNat : Int) < 256 := by have := UInt8.toNat_lt b; omega
   clear hb
   by_cases hL : plainB b = true
   ·have q : 32 ≤ (b.toNat : Int) ∧ (b.toNat : Int) ≤ 126 := by
     unfold plainB at hL; simp only [Bool.and_eq_true, decide_eq_true_eq] at hL; omega
    have HL := Lib.hid hL
    clear hL
    obtain ⟨q1, q2⟩ := q
    generalize (b.toNat : Int) = x at *
    go_wp2
    all_goals go_round
    case rel => exact ⟨k + 1, by omega, by go_num, all_take_succ HA.out HB.out HL.out⟩
    case measure => simp [intOf]; omega
   ·have q : ¬ (32 ≤ (b.toNat : Int) ∧ (b.toNat : Int) ≤ 126) := by
     intro q
     apply hL
     unfold plainB; simp only [Bool.and_eq_true, decide_eq_true_eq]; omega
    have E := Lib.hid (all_false HB.out (by simpa using hL))
    clear hL
    generalize (b.toNat : Int) = x at *
    go_wp2
    all_goals go_ret
    all_goals exact ⟨by unfold textOk; rw [E.out]; rfl, ((Below.refl _ _).alloc (Nat.le_refl _) _).drew⟩
  ·have hall : s.data.toList.all plainB = true := by have := HA.out; rwa [List.take_of_length_le (by rw [hsz'.out]; omega)] at this
   have E := Lib.hid hall
   clear hall HA
   go_wp2
   all_goals go_ret
   all_goals exact ⟨by unfold textOk; rw [E.out]; rfl, ((Below.refl _ _).alloc (Nat.le_refl _) _).drew⟩
theorem vtype_at (t : Int) (w : World) :
  Calls Tryz.prog 52 #[.int .i64 t] w fun e w' => e = .returned (.bool (decide (1 ≤ t ∧ t ≤ 3))) ∧ w = w' := by
 by_cases h0 : 1 ≤ t
 ·by_cases h1 : t ≤ 3
  ·go_enter Tryz.func52, Tryz.ntmps52
   go_wp2
   go_ret
   exact ⟨by simp [h0, h1], rfl⟩
  ·go_enter Tryz.func52, Tryz.ntmps52
   go_wp2
   go_ret
   exact ⟨by simp; omega, rfl⟩
 ·go_enter Tryz.func52, Tryz.ntmps52
  go_wp2
  go_ret
  exact ⟨by simp; omega, rfl⟩
theorem str_empty {s : ByteArray} (h : s.data.toList = []) : s.toList = [] := by rw [Lib.toList_data]; exact h
theorem str_some {s : ByteArray} (h : ¬ s.data.toList = []) : s.toList.isEmpty = false := by
 have : s.toList ≠ [] := by rw [Lib.toList_data]; exact h
 cases hh : s.toList with
 | nil => exact absurd hh this
 | cons a b => rfl
section
variable (v : Val) (w : World)
def CheckSays (w : World) (k : Int) (e : Ending) (w' : World) : Prop := e = .returned (errV k) ∧ Below w.heap.size w w'
set_option maxHeartbeats 1000000 in
theorem vcheck_bad (t n : Int) (s : ByteArray) (h1 : t ≠ 1) (h2 : t ≠ 2) (h3 : t ≠ 3) :
  Calls Tryz.prog 30 #[.agg #[.int .i64 t, .int .i64 n, .string s]] w (CheckSays w 1) := by
 have e1 : decide (1 ≤ t ∧ t ≤ 3) = false := by simp; omega
 clear h1 h2 h3
 go_enter Tryz.func30, Tryz.ntmps30
 go_wp2_with (first | (go_at_call 52; refine (vtype_at _ _).mono ?_; rintro e w' ⟨rfl, rfl⟩; rw [e1]))
 go_ret
 exact ⟨rfl, (Below.refl _ _).alloc (Nat.le_refl _) _⟩
set_option maxHeartbeats 1000000 in
theorem vcheck_int (n : Int) (s : ByteArray) :
  Calls Tryz.prog 30 #[.agg #[.int .i64 1, .int .i64 n, .string s]] w (CheckSays w (if s.data.toList = [] then 0 else 3)) := by
 have e1 : decide ((1 : Int) ≤ 1 ∧ (1 : Int) ≤ 3) = true := by decide
 by_cases hs : s.data.toList = []
 ·have q := str_empty hs
  rw [if_pos hs]
  clear hs
  go_enter Tryz.func30, Tryz.ntmps30
  go_wp2_with (first | (go_at_call 52; refine (vtype_at _ _).mono ?_; rintro e w' ⟨rfl, rfl⟩; rw [e1]))
  go_ret
  exact ⟨rfl, (Below.refl _ _).alloc (Nat.le_refl _) _⟩
 ·have q1 := str_some hs
  have q2 : (!s.toList.isEmpty) = true := by rw [q1]; rfl
  rw [if_neg hs]
  clear hs
  go_enter Tryz.func30, Tryz.ntmps30
  go_wp2_with (first | (go_at_call 52; refine (vtype_at _ _).mono ?_; rintro e w' ⟨rfl, rfl⟩; rw [e1]))
  go_ret
  exact ⟨rfl, (Below.refl _ _).alloc (Nat.le_refl _) _⟩
set_option maxHeartbeats 1000000 in
theorem vcheck_bool (n : Int) (s : ByteArray) (hn : n = 0 ∨ n = 1) :
  Calls Tryz.prog 30 #[.agg #[.int .i64 2, .int .i64 n, .string s]] w (CheckSays w (if s.data.toList = [] then 0 else 3)) := by
 have e1 : decide ((1 : Int) ≤ 2 ∧ (2 : Int) ≤ 3) = true := by decide
 by_cases hs : s.data.toList = []
 ·have q := str_empty hs
  rw [if_pos hs]
  clear hs
  rcases hn with rfl | rfl
  all_goals
   go_enter Tryz.func30, Tryz.ntmps30
   go_wp2_with (first | (go_at_call 52; refine (vtype_at _ _).mono ?_; rintro e w' ⟨rfl, rfl⟩; rw [e1]))
   go_ret
   exact ⟨rfl, (Below.refl _ _).alloc (Nat.le_refl _) _⟩
 ·have q1 := str_some hs
  have q2 : (!s.toList.isEmpty) = true := by rw [q1]; rfl
  rw [if_neg hs]
  clear hs
  rcases hn with rfl | rfl
  all_goals
   go_enter Tryz.func30, Tryz.ntmps30
   go_wp2_with (first | (go_at_call 52; refine (vtype_at _ _).mono ?_; rintro e w' ⟨rfl, rfl⟩; rw [e1]))
   go_ret
   exact ⟨rfl, (Below.refl _ _).alloc (Nat.le_refl _) _⟩
set_option maxHeartbeats 1000000 in
theorem vcheck_bool_bad (n : Int) (s : ByteArray) (h0 : n ≠ 0) (h1 : n ≠ 1) :
  Calls Tryz.prog 30 #[.agg #[.int .i64 2, .int .i64 n, .string s]] w (CheckSays w 1) := by
 have e1 : decide ((1 : Int) ≤ 2 ∧ (2 : Int) ≤ 3) = true := by decide
 have e2 : (n != 0) = true := by simpa using h0
 have e3 : (n != 1) = true := by simpa using h1
 clear h0 h1
 go_enter Tryz.func30, Tryz.ntmps30
 go_wp2_with (first | (go_at_call 52; refine (vtype_at _ _).mono ?_; rintro e w' ⟨rfl, rfl⟩; rw [e1]))
 go_ret
 exact ⟨rfl, (Below.refl _ _).alloc (Nat.le_refl _) _⟩
set_option maxHeartbeats 1000000 in
theorem vcheck_long (n : Int) (s : ByteArray) (h : 40 < s.size) :
  Calls Tryz.prog 30 #[.agg #[.int .i64 3, .int .i64 n, .string s]] w (CheckSays w 4) := by
 have e1 : decide ((1 : Int) ≤ 3 ∧ (3 : Int) ≤ 3) = true := by decide
 go_enter Tryz.func30, Tryz.ntmps30
 go_wp2_with (first | (go_at_call 52; refine (vtype_at _ _).mono ?_; rintro e w' ⟨rfl, rfl⟩; rw [e1]))
 go_ret
 exact ⟨rfl, (Below.refl _ _).alloc (Nat.le_refl _) _⟩
set_option maxHeartbeats 1000000 in
theorem vcheck_text (n : Int) (s : ByteArray) (h : s.size ≤ 40) :
  Calls Tryz.prog 30 #[.agg #[.int .i64 3, .int .i64 n, .string s]] w (CheckSays w (if textOk s = false then 2 else if n ≠ 0 then 3 else 0)) := by
 have e1 : decide ((1 : Int) ≤ 3 ∧ (3 : Int) ≤ 3) = true := by decide
 have HP := Lib.hid (fun w => vplain_any s w (by unfold maxLen; omega))
 generalize textOk s = ok at HP ⊢
 cases ok with
 | false =>
  go_enter Tryz.func30, Tryz.ntmps30
  go_wp2_with (first | (go_at_call 52; refine (vtype_at _ _).mono ?_; rintro e w' ⟨rfl, rfl⟩; rw [e1]))
  refine (HP.out _).mono ?_
  rintro e w1 ⟨rfl, hb1⟩
  have B1 := Lib.hid (below_step ((Below.refl w.heap.size w).alloc (Nat.le_refl _) _) hb1)
  clear hb1
  go_wp2_with fail
  go_ret
  exact ⟨rfl, B1.out⟩
 | true =>
  by_cases hn : n = 0
  ·subst hn
   go_enter Tryz.func30, Tryz.ntmps30
   go_wp2_with (first | (go_at_call 52; refine (vtype_at _ _).mono ?_; rintro e w' ⟨rfl, rfl⟩; rw [e1]))
   refine (HP.out _).mono ?_
   rintro e w1 ⟨rfl, hb1⟩
   have c0 : w1.cell? ⟨w.heap.size, 0, none⟩ = some (.int .i64 3) := (hb1.cell (p := ⟨w.heap.size, 0, none⟩) (by simp)).trans (by simp)
   have c1 : w1.cell? ⟨w.heap.size, 1, none⟩ = some (.int .i64 0) := (hb1.cell (p := ⟨w.heap.size, 1, none⟩) (by simp)).trans (by simp)
   have B1 := Lib.hid (below_step ((Below.refl w.heap.size w).alloc (Nat.le_refl _) _) hb1)
   clear hb1
   go_wp2_with fail
   go_ret
   exact ⟨rfl, B1.out⟩
  ·have e2 : (n != 0) = true := by simpa using hn
   rw [if_neg (by decide), if_pos hn]
   clear hn
   go_enter Tryz.func30, Tryz.ntmps30
   go_wp2_with (first | (go_at_call 52; refine (vtype_at _ _).mono ?_; rintro e w' ⟨rfl, rfl⟩; rw [e1]))
   refine (HP.out _).mono ?_
   rintro e w1 ⟨rfl, hb1⟩
   have c0 : w1.cell? ⟨w.heap.size, 0, none⟩ = some (.int .i64 3) := (hb1.cell (p := ⟨w.heap.size, 0, none⟩) (by simp)).trans (by simp)
   have c1 : w1.cell? ⟨w.heap.size, 1, none⟩ = some (.int .i64 n) := (hb1.cell (p := ⟨w.heap.size, 1, none⟩) (by simp)).trans (by simp)
   have B1 := Lib.hid (below_step ((Below.refl w.heap.size w).alloc (Nat.le_refl _) _) hb1)
   clear hb1
   go_wp2_with fail
   go_ret
   exact ⟨rfl, B1.out⟩
end
theorem vcheck_any (v : Val) (w : World) :
  Calls Tryz.prog 30 #[valV v] w fun e w' => e = .returned (errV (vcheck v)) ∧ Below w.heap.size w w' := by
 obtain ⟨t, n, s⟩ := v
 unfold vcheck valV
 by_cases h1 : t = 1
 ·subst h1; rw [if_pos rfl]; exact vcheck_int w n s
 by_cases h2 : t = 2
 ·subst h2
  rw [if_neg h1, if_pos rfl]
  by_cases hn : n = 0 ∨ n = 1
  ·rw [if_pos hn]; exact vcheck_bool w n s hn
  ·rw [if_neg hn]; exact vcheck_bool_bad w n s (fun h => hn (Or.inl h)) (fun h => hn (Or.inr h))
 by_cases h3 : t = 3
 ·subst h3
  rw [if_neg h1, if_neg h2, if_pos rfl]
  by_cases hl : 40 < s.size
  ·rw [if_pos hl]; exact vcheck_long w n s hl
  ·rw [if_neg hl]; exact vcheck_text w n s (by omega)
 rw [if_neg h1, if_neg h2, if_neg h3]
 exact vcheck_bad w t n s h1 h2 h3
set_option maxHeartbeats 1000000 in
theorem truth_any (b : Bool) (w : World) :
  Calls Tryz.prog 92 #[.bool b] w fun e w' => e = .returned (valV (truthV b)) ∧ Below w.heap.size w w' := by
 cases b with
 | false =>
  go_enter Tryz.func92, Tryz.ntmps92
  go_wp2_with fail
  exact bodyPost_ret (v := valV (truthV false)) (by simp [results, Tryz.results92, go_sem, valV, truthV]) rfl ⟨rfl, ((Below.refl _ _).alloc (Nat.le_refl _) _).alloc (by simp) _⟩
 | true =>
  go_enter Tryz.func92, Tryz.ntmps92
  go_wp2_with fail
  exact bodyPost_ret (v := valV (truthV true)) (by simp [results, Tryz.results92, go_sem, valV, truthV]) rfl ⟨rfl, ((Below.refl _ _).alloc (Nat.le_refl _) _).alloc (by simp) _⟩
set_option maxHeartbeats 1000000 in
theorem of_any (n : Int) (w : World) :
  Calls Tryz.prog 97 #[.int .i64 n] w fun e w' => e = .returned (valV (ofV n)) ∧ Below w.heap.size w w' := by
 go_enter Tryz.func97, Tryz.ntmps97
 go_wp2_with fail
 exact bodyPost_ret (v := valV (ofV n)) (by simp [results, Tryz.results97, go_sem, valV, ofV]) rfl ⟨rfl, (Below.refl _ _).alloc (Nat.le_refl _) _⟩
end Go.Proofs.YtpbbkpfaphjdoaaGreatDoor
namespace Go.Proofs.YtpbbkpfaphjdoaaGreatDoor
open Go.ChangeShapes Go.WideShapes Go.ChangeAt Go.RowKit
def intCells (xs : List Int) : List Value := xs.map (.int .i64)
theorem intCells_at {xs : List Int} {k : Nat} {u : Value} (h : (intCells xs)[k]? = some u) : ∃ x, xs[k]? = some x ∧ u = .int .i64 x := by
 unfold intCells at h
 rw [List.getElem?_map] at h
 cases hx : xs[k]? with
 | none => rw [hx] at h; cases h
 | some x => rw [hx] at h; exact ⟨x, rfl, by simpa using h.symm⟩
theorem intCells_len {w : World} {A : Option Addr} {n c : Nat} {xs : List Int} (h : Sees w A n c 1 (intCells xs)) : xs.length = n := by have := h.1; simpa [intCells] using this
theorem ints_at {w : World} {A : Option Addr} {n c : Nat} {xs : List Int} (h : Sees w A n c 1 (intCells xs)) {k : Nat} (hk : k < n) :
  ∃ g o x, A = some ⟨g, o, none⟩ ∧ xs[k]? = some x ∧ w.cell? ⟨g, o + k, none⟩ = some (.int .i64 x) := by
 obtain ⟨g, o, u, e, hu, hc⟩ := h.at_ hk
 obtain ⟨x, hx, rfl⟩ := intCells_at hu
 exact ⟨g, o, x, e, hx, hc⟩
theorem intSlice : SliceTy Tryz.prog 68 3 (.int .i64 0) 1 8 := SliceTy.of Tryz.underlying68 (by kernel_rfl) rfl (by decide) (by decide)
theorem own_keep {w w' : World} {B e size : Nat} {v : Value} {n : Nat} {xs : List Value} (h : w.ownsRow B e size v n xs) (hb : Below w.heap.size w w') : w'.ownsRow B e size v n xs := by
 refine ⟨h.1, ?_⟩
 rcases h.2 with ⟨rfl, rfl⟩ | ⟨g, cap, cur, rfl, h1, h2, h3⟩
 ·exact Or.inl ⟨rfl, rfl⟩
 ·exact Or.inr ⟨g, cap, cur, rfl, h1, (hb.block g (Array.getElem?_eq_some_iff.1 h2).1).trans h2, h3⟩
def findB {α : Type} (p : α → Bool) (l : List α) : Int := match l.findIdx? p with | some i => i | none => -1
theorem findB_none {α : Type} {p : α → Bool} {l : List α} (h : ∀ c ∈ l, p c = false) : findB p l = -1 := by
 unfold findB; rw [List.findIdx?_eq_none_iff.2 h]
theorem findB_some {α : Type} {p : α → Bool} {l : List α} {k : Nat} {c : α} (h : ∀ x ∈ l.take k, p x = false) (hk : l[k]? = some c) (hc : p c = true) : findB p l = k := by
 have : l.findIdx? p = some k := by
  obtain ⟨hlt, rfl⟩ := List.getElem?_eq_some_iff.1 hk
  rw [List.findIdx?_eq_some_iff_getElem]
  refine ⟨hlt, hc, fun j hj => ?_⟩
  have := h l[j] (List.mem_take_iff_getElem.2 ⟨j, by omega, rfl⟩)
  simp [this]
 unfold findB; rw [this]
theorem findB_any {α : Type} (p : α → Bool) (l : List α) : decide (0 ≤ findB p l) = l.any p := by
 unfold findB
 cases h : l.findIdx? p with
 | none =>
  have := List.findIdx?_eq_none_iff.1 h
  simp only [show ¬ (0 : Int) ≤ -1 by omega, decide_false]
  exact (List.any_eq_false.2 fun x hx => by simp [this x hx]).symm
 | some i =>
  obtain ⟨hi, h1, _⟩ := List.findIdx?_eq_some_iff_getElem.1 h
  simp only [show (0 : Int) ≤ (i : Int) by omega, decide_true]
  exact (List.any_eq_true.2 ⟨_, List.getElem_mem hi, h1⟩).symm
theorem take_next {α : Type} {p : α → Bool} {l : List α} {k : Nat} {c : α} (h : ∀ x ∈ l.take k, p x = false) (hk : l[k]? = some c) (hc : p c = false) : ∀ x ∈ l.take (k + 1), p x = false := by
 intro y hy
 rw [List.take_add_one, hk] at hy
 rcases List.mem_append.1 hy with hy | hy
 ·exact h y hy
 ·simp at hy; subst hy; exact hc
def noType (t : Int) : Bool := !decide (1 ≤ t ∧ t ≤ 3)
def notThe (t x : Int) : Bool := x != t
theorem rule1_any (t : Int) (w : World) :
  Calls Tryz.prog 219 #[.int .i64 t] w fun e w' => e = .returned (.bool (noType t)) ∧ w = w' := by
 go_enter Tryz.func219, Tryz.ntmps219
 go_wp2_with (first | (go_at_call 52; refine (vtype_at _ _).mono ?_; rintro e w' ⟨rfl, rfl⟩))
 go_ret
 exact ⟨by rw [show noType t = (!decide (1 ≤ t) || !decide (t ≤ 3)) by unfold noType; rw [Bool.decide_and, Bool.not_and]]; rfl, rfl⟩
theorem all1_any (t x : Int) (b : Nat) (w : World) (hc : w.cell? ⟨b, 0, none⟩ = some (.int .i64 t)) :
  Calls Tryz.prog 253 #[.int .i64 x, .pointer (some ⟨b, 0, none⟩)] w fun e w' => e = .returned (.bool (notThe t x)) ∧ w = w' := by
 go_enter Tryz.func253, Tryz.ntmps253
 go_wp2
 go_ret
 exact ⟨by unfold notThe; rfl, rfl⟩
set_option maxHeartbeats 1000000 in
theorem idx_noType (xs : List Int) (A : Option Addr) (n c : Nat) (w : World) (hl : Sees w A n c 1 (intCells xs)) :
  Calls Tryz.prog 252 #[.slice A n c, .func (.func 219) #[] #[]] w fun e w' => e = .returned (.int .i64 (findB noType xs)) ∧ w = w' := by
 have HL := Lib.hid hl
 have hcap := hl.2.1
 have hmax := hl.2.2.1
 have hlen := Lib.hid (intCells_len hl)
 unfold maxLen at hmax
 clear hl
 go_enter Tryz.func252, Tryz.ntmps252
 go_wp2_with fail
 go_loop [5, 8] (fun _ i => ∃ k : Nat, k ≤ n ∧ i = .int .i64 k ∧ ∀ x ∈ xs.take k, noType x = false) (fun _ i => n - (intOf i).toNat)
 case atStart => exact ⟨0, by omega, rfl, by simp⟩
 case round =>
  obtain ⟨k, hk, rfl, hno⟩ := hrel
  have HN := Lib.hid hno
  clear hno
  by_cases hlk : k < n
  ·obtain ⟨g, o, x, rfl, hx, c1⟩ := ints_at HL.out hlk
   have HX := Lib.hid hx
   clear hx
   generalize hB : noType x = b
   cases b with
   | true =>
    have E := Lib.hid (findB_some HN.out HX.out hB)
    have HB := Lib.hid hB
    clear hB
    go_wp2_with (first | (go_at_call 219; refine (rule1_any _ _).mono ?_; rintro e w' ⟨rfl, rfl⟩; rw [HB.out]))
    go_ret
    exact ⟨by rw [E.out]; rfl, rfl⟩
   | false =>
    have HB := Lib.hid hB
    clear hB
    go_wp2_with (first | (go_at_call 219; refine (rule1_any _ _).mono ?_; rintro e w' ⟨rfl, rfl⟩; rw [HB.out]))
    go_round
    case rel => exact ⟨k + 1, by omega, by go_num, take_next HN.out HX.out HB.out⟩
    case measure => simp [intOf]; omega
  ·have E := Lib.hid (findB_none (p := noType) (l := xs) (by have := HN.out; rwa [List.take_of_length_le (by rw [hlen.out]; omega)] at this))
   go_wp2_with fail
   go_ret
   exact ⟨by rw [E.out]; rfl, rfl⟩
theorem any_noType (xs : List Int) (A : Option Addr) (n c : Nat) (w : World) (hl : Sees w A n c 1 (intCells xs)) :
  Calls Tryz.prog 218 #[.slice A n c, .func (.func 219) #[] #[]] w fun e w' => e = .returned (.bool (xs.any noType)) ∧ w = w' := by
 have HL := Lib.hid hl
 have E := Lib.hid (findB_any noType xs)
 clear hl
 go_enter Tryz.func218, Tryz.ntmps218
 go_wp2_with (first | (go_at_call 252; refine (idx_noType xs _ _ _ _ HL.out).mono ?_; rintro e w' ⟨rfl, rfl⟩))
 go_ret
 exact ⟨by rw [← E.out]; rfl, rfl⟩
set_option maxHeartbeats 1000000 in
theorem idx_notThe (xs : List Int) (A : Option Addr) (n c : Nat) (t : Int) (b : Nat) (w : World) (hc : w.cell? ⟨b, 0, none⟩ = some (.int .i64 t)) (hl : Sees w A n c 1 (intCells xs)) :
  Calls Tryz.prog 252 #[.slice A n c, .func (.func 253) #[] #[.pointer (some ⟨b, 0, none⟩)]] w fun e w' => e = .returned (.int .i64 (findB (notThe t) xs)) ∧ w = w' := by
 have HL := Lib.hid hl
 have hcap := hl.2.1
 have hmax := hl.2.2.1
 have hlen := Lib.hid (intCells_len hl)
 unfold maxLen at hmax
 clear hl
 go_enter Tryz.func252, Tryz.ntmps252
 go_wp2_with fail
 go_loop [5, 8] (fun _ i => ∃ k : Nat, k ≤ n ∧ i = .int .i64 k ∧ ∀ x ∈ xs.take k, (notThe t) x = false) (fun _ i => n - (intOf i).toNat)
 case atStart => exact ⟨0, by omega, rfl, by simp⟩
 case round =>
  obtain ⟨k, hk, rfl, hno⟩ := hrel
  have HN := Lib.hid hno
  clear hno
  by_cases hlk : k < n
  ·obtain ⟨g, o, x, rfl, hx, c1⟩ := ints_at HL.out hlk
   have HX := Lib.hid hx
   clear hx
   generalize hB : (notThe t) x = b
   cases b with
   | true =>
    have E := Lib.hid (findB_some HN.out HX.out hB)
    have HB := Lib.hid hB
    clear hB
    go_wp2_with (first | (go_at_call 253; refine (all1_any _ _ _ _ hc).mono ?_; rintro e w' ⟨rfl, rfl⟩; rw [HB.out]))
    go_ret
    exact ⟨by rw [E.out]; rfl, rfl⟩
   | false =>
    have HB := Lib.hid hB
    clear hB
    go_wp2_with (first | (go_at_call 253; refine (all1_any _ _ _ _ hc).mono ?_; rintro e w' ⟨rfl, rfl⟩; rw [HB.out]))
    go_round
    case rel => exact ⟨k + 1, by omega, by go_num, take_next HN.out HX.out HB.out⟩
    case measure => simp [intOf]; omega
  ·have E := Lib.hid (findB_none (p := (notThe t)) (l := xs) (by have := HN.out; rwa [List.take_of_length_le (by rw [hlen.out]; omega)] at this))
   go_wp2_with fail
   go_ret
   exact ⟨by rw [E.out]; rfl, rfl⟩
theorem any_notThe (xs : List Int) (A : Option Addr) (n c : Nat) (t : Int) (b : Nat) (w : World) (hc : w.cell? ⟨b, 0, none⟩ = some (.int .i64 t)) (hl : Sees w A n c 1 (intCells xs)) :
  Calls Tryz.prog 218 #[.slice A n c, .func (.func 253) #[] #[.pointer (some ⟨b, 0, none⟩)]] w fun e w' => e = .returned (.bool (xs.any (notThe t))) ∧ w = w' := by
 have HL := Lib.hid hl
 have E := Lib.hid (findB_any (notThe t) xs)
 clear hl
 go_enter Tryz.func218, Tryz.ntmps218
 go_wp2_with (first | (go_at_call 252; refine (idx_notThe xs _ _ _ t b w hc HL.out).mono ?_; rintro e w' ⟨rfl, rfl⟩))
 go_ret
 exact ⟨by rw [← E.out]; rfl, rfl⟩
def allThe (xs : List Int) (t : Int) : Bool := !xs.any (notThe t)
theorem all_any (xs : List Int) (A : Option Addr) (n c : Nat) (t : Int) (w : World) (hl : Sees w A n c 1 (intCells xs)) :
  Calls Tryz.prog 220 #[.slice A n c, .int .i64 t] w fun e w' => e = .returned (.bool (allThe xs t)) ∧ Below w.heap.size w w' := by
 have hb0 : Below w.heap.size w (w.alloc (.cells #[.int .i64 t] 3)) := (Below.refl _ _).alloc (Nat.le_refl _) _
 have HL := Lib.hid (hl.keep hb0)
 have HC := Lib.hid (show (w.alloc (.cells #[.int .i64 t] 3)).cell? ⟨w.heap.size, 0, none⟩ = some (.int .i64 t) by simp)
 have HB := Lib.hid hb0
 clear hl hb0
 go_enter Tryz.func220, Tryz.ntmps220
 go_wp2_with (first | (go_at_call 218; refine (any_notThe xs _ _ _ t _ _ HC.out HL.out).mono ?_; rintro e w' ⟨rfl, rfl⟩))
 go_ret
 exact ⟨by unfold allThe; rfl, HB.out⟩
end Go.Proofs.YtpbbkpfaphjdoaaGreatDoor
namespace Go.Proofs.YtpbbkpfaphjdoaaGreatDoor
open Go.ChangeShapes Go.WideShapes Go.ChangeAt Go.RowKit
inductive Ex where
 | mk (op name : ByteArray) (val : Val) (A : Option Addr) (c : Nat) (args : List Ex) (pos : Int) : Ex
namespace Ex
def op : Ex → ByteArray | .mk o _ _ _ _ _ _ => o
def name : Ex → ByteArray | .mk _ n _ _ _ _ _ => n
def val : Ex → Val | .mk _ _ v _ _ _ _ => v
def A : Ex → Option Addr | .mk _ _ _ a _ _ _ => a
def c : Ex → Nat | .mk _ _ _ _ c _ _ => c
def args : Ex → List Ex | .mk _ _ _ _ _ l _ => l
def pos : Ex → Int | .mk _ _ _ _ _ _ p => p
end Ex
def exV (e : Ex) : Value := .agg #[.string e.op, .string e.name, .int .i64 e.val.type, .int .i64 e.val.n, .string e.val.s, .slice e.A e.args.length e.c, .int .i64 e.pos]
def exCells (e : Ex) : List Value := [.string e.op, .string e.name, .int .i64 e.val.type, .int .i64 e.val.n, .string e.val.s, .slice e.A e.args.length e.c, .int .i64 e.pos]
def exsCells (l : List Ex) : List Value := l.flatMap exCells
theorem exsCells_length (l : List Ex) : (exsCells l).length = l.length * 7 := by
 induction l with
 | nil => rfl
 | cons c l ih => simp only [exsCells, List.flatMap_cons, List.length_append, List.length_cons] at *; simp [exCells, ih]; omega
theorem exsCells_at : ∀ {l : List Ex} {k : Nat} {e : Ex}, l[k]? = some e → ∀ j u, (exCells e)[j]? = some u → (exsCells l)[k * 7 + j]? = some u
 | x :: l, 0, c, h, j, u, hu => by
  simp at h; subst h
  have hj : j < 7 := (List.getElem?_eq_some_iff.1 hu).1
  rw [Nat.zero_mul, Nat.zero_add]
  show (exCells x ++ exsCells l)[j]? = some u
  rw [List.getElem?_append_left (by exact hj)]; exact hu
 | x :: l, k + 1, c, h, j, u, hu => by
  have ih := exsCells_at (l := l) (k := k) (by simpa using h) j u hu
  show (exCells x ++ exsCells l)[(k + 1) * 7 + j]? = some u
  rw [List.getElem?_append_right (by show 7 ≤ _; omega), show (k + 1) * 7 + j - (exCells x).length = k * 7 + j by show (k + 1) * 7 + j - 7 = _; omega]
  exact ih
 | [], k, c, h, _, _, _ => by simp at h
inductive SeesEx (w : World) : Ex → Prop
 | mk {e : Ex} (hs : Sees w e.A e.args.length e.c 7 (exsCells e.args)) (ho : e.op.size ≤ maxLen) (hn : e.name.size ≤ maxLen) (hv : e.val.wf) (hp : fits e.pos) (ha : ∀ a ∈ e.args, SeesEx w a) : SeesEx w e
theorem SeesEx.keep {w w' : World} {e : Ex} (h : SeesEx w e) (hb : Below w.heap.size w w') : SeesEx w' e := by
 induction h with
 | mk hs ho hn hv hp _ ih => exact .mk (hs.keep hb) ho hn hv hp ih
theorem SeesEx.parts {w : World} {e : Ex} (h : SeesEx w e) : Sees w e.A e.args.length e.c 7 (exsCells e.args) ∧ e.op.size ≤ maxLen ∧ e.name.size ≤ maxLen ∧ e.val.wf ∧ fits e.pos ∧ ∀ a ∈ e.args, SeesEx w a := by
 cases h with
 | mk hs ho hn hv hp ha => exact ⟨hs, ho, hn, hv, hp, ha⟩
theorem SeesEx.at_ {w : World} {e : Ex} (h : SeesEx w e) {k : Nat} (hk : k < e.args.length) :
  ∃ g o x, e.A = some ⟨g, o, none⟩ ∧ g < w.heap.size ∧ e.args[k]? = some x ∧ SeesEx w x ∧
   w.cell? ⟨g, o + k * 7, none⟩ = some (.string x.op) ∧ w.cell? ⟨g, o + k * 7 + 1, none⟩ = some (.string x.name) ∧
   w.cell? ⟨g, o + k * 7 + 2, none⟩ = some (.int .i64 x.val.type) ∧ w.cell? ⟨g, o + k * 7 + 3, none⟩ = some (.int .i64 x.val.n) ∧ w.cell? ⟨g, o + k * 7 + 4, none⟩ = some (.string x.val.s) ∧
   w.cell? ⟨g, o + k * 7 + 5, none⟩ = some (.slice x.A x.args.length x.c) ∧ w.cell? ⟨g, o + k * 7 + 6, none⟩ = some (.int .i64 x.pos) := by
 obtain ⟨hs, _, _, _, _, ha⟩ := h.parts
 obtain ⟨g, o, e1, hg, hc⟩ := hs.2.2.2.2 (by omega)
 have hl : e.args[k]? = some e.args[k] := List.getElem?_eq_getElem hk
 have key := fun j u hu => hc (k * 7 + j) u (exsCells_at hl j u hu)
 refine ⟨g, o, _, e1, hg, hl, ha _ (List.getElem_mem hk), key 0 _ rfl, ?_, ?_, ?_, ?_, ?_, ?_⟩
 ·exact key 1 _ rfl
 ·exact key 2 _ rfl
 ·exact key 3 _ rfl
 ·exact key 4 _ rfl
 ·exact key 5 _ rfl
 ·exact key 6 _ rfl
theorem ex_lt {e a : Ex} (h : a ∈ e.args) : SizeOf.sizeOf a < SizeOf.sizeOf e := by
 cases e with
 | mk o n v A c l p =>
  have := List.sizeOf_lt_of_mem (show a ∈ l from h)
  simp only [Ex.mk.sizeOf_spec]; omega
end Go.Proofs.YtpbbkpfaphjdoaaGreatDoor
