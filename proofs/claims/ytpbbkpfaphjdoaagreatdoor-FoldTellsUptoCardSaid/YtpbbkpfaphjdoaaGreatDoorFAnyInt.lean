/- Lists of numbers; slices.ContainsFunc over them with the closures of package kind; kind.all. -/
import Derived.Test.YtpbbkpfaphjdoaaGreatDoorFWords
import Derived.Test.YtpbbkpfaphjdoaaGreatDoorFVals
namespace Go.Proofs.YtpbbkpfaphjdoaaGreatDoor
open Go.ChangeShapes Go.WideShapes Go.ChangeAt Go.RowKit
def intCells (xs : List Int) : List Value := xs.map (.int .i64)
theorem intCells_at {xs : List Int} {k : Nat} {u : Value} (h : (intCells xs)[k]? = some u) : ∃ x, xs[k]? = some x ∧ u = .int .i64 x := by
 unfold intCells at h
 rw [List.getElem?_map] at h
 cases hx : xs[k]? with
 | none => rw [hx] at h; cases h
 | some x => rw [hx] at h; exact ⟨x, rfl, by simpa using h.symm⟩
theorem intCells_len {w : World} {A : Option Addr} {n c : Nat} {xs : List Int} (h : Sees w A n c 1 (intCells xs)) : xs.length = n := by have := h.1; simpa [intCells] using this
theorem ints_at {w : World} {A : Option Addr} {n c : Nat} {xs : List Int} (h : Sees w A n c 1 (intCells xs)) {k : Nat} (hk : k < n) :
  ∃ g o x, A = some ⟨g, o, none⟩ ∧ xs[k]? = some x ∧ w.cell? ⟨g, o + k, none⟩ = some (.int .i64 x) := by
 obtain ⟨g, o, u, e, hu, hc⟩ := h.at_ hk
 obtain ⟨x, hx, rfl⟩ := intCells_at hu
 exact ⟨g, o, x, e, hx, hc⟩
theorem intSlice : SliceTy Tryz.prog 68 3 (.int .i64 0) 1 8 := SliceTy.of Tryz.underlying68 (by kernel_rfl) rfl (by decide) (by decide)
theorem own_keep {w w' : World} {B e size : Nat} {v : Value} {n : Nat} {xs : List Value} (h : w.ownsRow B e size v n xs) (hb : Below w.heap.size w w') : w'.ownsRow B e size v n xs := by
 refine ⟨h.1, ?_⟩
 rcases h.2 with ⟨rfl, rfl⟩ | ⟨g, cap, cur, rfl, h1, h2, h3⟩
 ·exact Or.inl ⟨rfl, rfl⟩
 ·exact Or.inr ⟨g, cap, cur, rfl, h1, (hb.block g (Array.getElem?_eq_some_iff.1 h2).1).trans h2, h3⟩
def findB {α : Type} (p : α → Bool) (l : List α) : Int := match l.findIdx? p with | some i => i | none => -1
theorem findB_none {α : Type} {p : α → Bool} {l : List α} (h : ∀ c ∈ l, p c = false) : findB p l = -1 := by
 unfold findB; rw [List.findIdx?_eq_none_iff.2 h]
theorem findB_some {α : Type} {p : α → Bool} {l : List α} {k : Nat} {c : α} (h : ∀ x ∈ l.take k, p x = false) (hk : l[k]? = some c) (hc : p c = true) : findB p l = k := by
 have : l.findIdx? p = some k := by
  obtain ⟨hlt, rfl⟩ := List.getElem?_eq_some_iff.1 hk
  rw [List.findIdx?_eq_some_iff_getElem]
  refine ⟨hlt, hc, fun j hj => ?_⟩
  have := h l[j] (List.mem_take_iff_getElem.2 ⟨j, by omega, rfl⟩)
  simp [this]
 unfold findB; rw [this]
theorem findB_any {α : Type} (p : α → Bool) (l : List α) : decide (0 ≤ findB p l) = l.any p := by
 unfold findB
 cases h : l.findIdx? p with
 | none =>
  have := List.findIdx?_eq_none_iff.1 h
  simp only [show ¬ (0 : Int) ≤ -1 by omega, decide_false]
  exact (List.any_eq_false.2 fun x hx => by simp [this x hx]).symm
 | some i =>
  obtain ⟨hi, h1, _⟩ := List.findIdx?_eq_some_iff_getElem.1 h
  simp only [show (0 : Int) ≤ (i : Int) by omega, decide_true]
  exact (List.any_eq_true.2 ⟨_, List.getElem_mem hi, h1⟩).symm
theorem take_next {α : Type} {p : α → Bool} {l : List α} {k : Nat} {c : α} (h : ∀ x ∈ l.take k, p x = false) (hk : l[k]? = some c) (hc : p c = false) : ∀ x ∈ l.take (k + 1), p x = false := by
 intro y hy
 rw [List.take_add_one, hk] at hy
 rcases List.mem_append.1 hy with hy | hy
 ·exact h y hy
 ·simp at hy; subst hy; exact hc
def noType (t : Int) : Bool := !decide (1 ≤ t ∧ t ≤ 3)
def notThe (t x : Int) : Bool := x != t
theorem rule1_any (t : Int) (w : World) :
  Calls Tryz.prog 219 #[.int .i64 t] w fun e w' => e = .returned (.bool (noType t)) ∧ w = w' := by
 go_enter Tryz.func219, Tryz.ntmps219
 go_wp2_with (first | (go_at_call 52; refine (vtype_at _ _).mono ?_; rintro e w' ⟨rfl, rfl⟩))
 go_ret
 exact ⟨by rw [show noType t = (!decide (1 ≤ t) || !decide (t ≤ 3)) by unfold noType; rw [Bool.decide_and, Bool.not_and]]; rfl, rfl⟩
theorem all1_any (t x : Int) (b : Nat) (w : World) (hc : w.cell? ⟨b, 0, none⟩ = some (.int .i64 t)) :
  Calls Tryz.prog 253 #[.int .i64 x, .pointer (some ⟨b, 0, none⟩)] w fun e w' => e = .returned (.bool (notThe t x)) ∧ w = w' := by
 go_enter Tryz.func253, Tryz.ntmps253
 go_wp2
 go_ret
 exact ⟨by unfold notThe; rfl, rfl⟩
set_option maxHeartbeats 1000000 in
theorem idx_noType (xs : List Int) (A : Option Addr) (n c : Nat) (w : World) (hl : Sees w A n c 1 (intCells xs)) :
  Calls Tryz.prog 252 #[.slice A n c, .func (.func 219) #[] #[]] w fun e w' => e = .returned (.int .i64 (findB noType xs)) ∧ w = w' := by
 have HL := Lib.hid hl
 have hcap := hl.2.1
 have hmax := hl.2.2.1
 have hlen := Lib.hid (intCells_len hl)
 unfold maxLen at hmax
 clear hl
 go_enter Tryz.func252, Tryz.ntmps252
 go_wp2_with fail
 go_loop [5, 8] (fun _ i => ∃ k : Nat, k ≤ n ∧ i = .int .i64 k ∧ ∀ x ∈ xs.take k, noType x = false) (fun _ i => n - (intOf i).toNat)
 case atStart => exact ⟨0, by omega, rfl, by simp⟩
 case round =>
  obtain ⟨k, hk, rfl, hno⟩ := hrel
  have HN := Lib.hid hno
  clear hno
  by_cases hlk : k < n
  ·obtain ⟨g, o, x, rfl, hx, c1⟩ := ints_at HL.out hlk
   have HX := Lib.hid hx
   clear hx
   generalize hB : noType x = b
   cases b with
   | true =>
    have E := Lib.hid (findB_some HN.out HX.out hB)
    have HB := Lib.hid hB
    clear hB
    go_wp2_with (first | (go_at_call 219; refine (rule1_any _ _).mono ?_; rintro e w' ⟨rfl, rfl⟩; rw [HB.out]))
    go_ret
    exact ⟨by rw [E.out]; rfl, rfl⟩
   | false =>
    have HB := Lib.hid hB
    clear hB
    go_wp2_with (first | (go_at_call 219; refine (rule1_any _ _).mono ?_; rintro e w' ⟨rfl, rfl⟩; rw [HB.out]))
    go_round
    case rel => exact ⟨k + 1, by omega, by go_num, take_next HN.out HX.out HB.out⟩
    case measure => simp [intOf]; omega
  ·have E := Lib.hid (findB_none (p := noType) (l := xs) (by have := HN.out; rwa [List.take_of_length_le (by rw [hlen.out]; omega)] at this))
   go_wp2_with fail
   go_ret
   exact ⟨by rw [E.out]; rfl, rfl⟩
theorem any_noType (xs : List Int) (A : Option Addr) (n c : Nat) (w : World) (hl : Sees w A n c 1 (intCells xs)) :
  Calls Tryz.prog 218 #[.slice A n c, .func (.func 219) #[] #[]] w fun e w' => e = .returned (.bool (xs.any noType)) ∧ w = w' := by
 have HL := Lib.hid hl
 have E := Lib.hid (findB_any noType xs)
 clear hl
 go_enter Tryz.func218, Tryz.ntmps218
 go_wp2_with (first | (go_at_call 252; refine (idx_noType xs _ _ _ _ HL.out).mono ?_; rintro e w' ⟨rfl, rfl⟩))
 go_ret
 exact ⟨by rw [← E.out]; rfl, rfl⟩
set_option maxHeartbeats 1000000 in
theorem idx_notThe (xs : List Int) (A : Option Addr) (n c : Nat) (t : Int) (b : Nat) (w : World) (hc : w.cell? ⟨b, 0, none⟩ = some (.int .i64 t)) (hl : Sees w A n c 1 (intCells xs)) :
  Calls Tryz.prog 252 #[.slice A n c, .func (.func 253) #[] #[.pointer (some ⟨b, 0, none⟩)]] w fun e w' => e = .returned (.int .i64 (findB (notThe t) xs)) ∧ w = w' := by
 have HL := Lib.hid hl
 have hcap := hl.2.1
 have hmax := hl.2.2.1
 have hlen := Lib.hid (intCells_len hl)
 unfold maxLen at hmax
 clear hl
 go_enter Tryz.func252, Tryz.ntmps252
 go_wp2_with fail
 go_loop [5, 8] (fun _ i => ∃ k : Nat, k ≤ n ∧ i = .int .i64 k ∧ ∀ x ∈ xs.take k, (notThe t) x = false) (fun _ i => n - (intOf i).toNat)
 case atStart => exact ⟨0, by omega, rfl, by simp⟩
 case round =>
  obtain ⟨k, hk, rfl, hno⟩ := hrel
  have HN := Lib.hid hno
  clear hno
  by_cases hlk : k < n
  ·obtain ⟨g, o, x, rfl, hx, c1⟩ := ints_at HL.out hlk
   have HX := Lib.hid hx
   clear hx
   generalize hB : (notThe t) x = b
   cases b with
   | true =>
    have E := Lib.hid (findB_some HN.out HX.out hB)
    have HB := Lib.hid hB
    clear hB
    go_wp2_with (first | (go_at_call 253; refine (all1_any _ _ _ _ hc).mono ?_; rintro e w' ⟨rfl, rfl⟩; rw [HB.out]))
    go_ret
    exact ⟨by rw [E.out]; rfl, rfl⟩
   | false =>
    have HB := Lib.hid hB
    clear hB
    go_wp2_with (first | (go_at_call 253; refine (all1_any _ _ _ _ hc).mono ?_; rintro e w' ⟨rfl, rfl⟩; rw [HB.out]))
    go_round
    case rel => exact ⟨k + 1, by omega, by go_num, take_next HN.out HX.out HB.out⟩
    case measure => simp [intOf]; omega
  ·have E := Lib.hid (findB_none (p := (notThe t)) (l := xs) (by have := HN.out; rwa [List.take_of_length_le (by rw [hlen.out]; omega)] at this))
   go_wp2_with fail
   go_ret
   exact ⟨by rw [E.out]; rfl, rfl⟩
theorem any_notThe (xs : List Int) (A : Option Addr) (n c : Nat) (t : Int) (b : Nat) (w : World) (hc : w.cell? ⟨b, 0, none⟩ = some (.int .i64 t)) (hl : Sees w A n c 1 (intCells xs)) :
  Calls Tryz.prog 218 #[.slice A n c, .func (.func 253) #[] #[.pointer (some ⟨b, 0, none⟩)]] w fun e w' => e = .returned (.bool (xs.any (notThe t))) ∧ w = w' := by
 have HL := Lib.hid hl
 have E := Lib.hid (findB_any (notThe t) xs)
 clear hl
 go_enter Tryz.func218, Tryz.ntmps218
 go_wp2_with (first | (go_at_call 252; refine (idx_notThe xs _ _ _ t b w hc HL.out).mono ?_; rintro e w' ⟨rfl, rfl⟩))
 go_ret
 exact ⟨by rw [← E.out]; rfl, rfl⟩
def allThe (xs : List Int) (t : Int) : Bool := !xs.any (notThe t)
theorem all_any (xs : List Int) (A : Option Addr) (n c : Nat) (t : Int) (w : World) (hl : Sees w A n c 1 (intCells xs)) :
  Calls Tryz.prog 220 #[.slice A n c, .int .i64 t] w fun e w' => e = .returned (.bool (allThe xs t)) ∧ Below w.heap.size w w' := by
 have hb0 : Below w.heap.size w (w.alloc (.cells #[.int .i64 t] 3)) := (Below.refl _ _).alloc (Nat.le_refl _) _
 have HL := Lib.hid (hl.keep hb0)
 have HC := Lib.hid (show (w.alloc (.cells #[.int .i64 t] 3)).cell? ⟨w.heap.size, 0, none⟩ = some (.int .i64 t) by simp)
 have HB := Lib.hid hb0
 clear hl hb0
 go_enter Tryz.func220, Tryz.ntmps220
 go_wp2_with (first | (go_at_call 218; refine (any_notThe xs _ _ _ t _ _ HC.out HL.out).mono ?_; rintro e w' ⟨rfl, rfl⟩))
 go_ret
 exact ⟨by unfold allThe; rfl, HB.out⟩
end Go.Proofs.YtpbbkpfaphjdoaaGreatDoor
