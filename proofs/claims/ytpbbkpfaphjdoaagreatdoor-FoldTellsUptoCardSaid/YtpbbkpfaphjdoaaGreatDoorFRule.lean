/- kind.Rule, walked: the type of an operation, at any text and any types. -/
import Derived.Test.YtpbbkpfaphjdoaaGreatDoorFAnyInt
import Derived.Test.YtpbbkpfaphjdoaaGreatDoorFArity
namespace Go.Proofs.YtpbbkpfaphjdoaaGreatDoor
open Go.ChangeShapes Go.WideShapes Go.ChangeAt Go.RowKit
def isOpB (s : ByteArray) : Bool := Lib.containsS opsB s
def grp (s : ByteArray) : Nat :=
 if s.data.toList = [111, 114] ∨ s.data.toList = [97, 110, 100] ∨ s.data.toList = [110, 111, 116] then 0
 else if s.data.toList = [61] ∨ s.data.toList = [60, 62] ∨ s.data.toList = [60] ∨ s.data.toList = [60, 61] ∨ s.data.toList = [62] ∨ s.data.toList = [62, 61] then 1
 else if s.data.toList = [108, 101, 110] then 2
 else if s.data.toList = [105, 102] then 3
 else 4
def fitsGrp (g : Nat) (ts : List Int) : Bool := match g with
 | 0 => allThe ts 2
 | 1 => (ts.getD 0 0) == (ts.getD 1 0)
 | 2 => allThe ts 3
 | 3 => (ts.getD 0 0 == 2) && (ts.getD 1 0 == ts.getD 2 0)
 | _ => allThe ts 1
def typeGrp (g : Nat) (ts : List Int) : Int := match g with
 | 0 => 2
 | 1 => 2
 | 2 => 1
 | 3 => ts.getD 1 0
 | _ => 1
def ruleErr (s : ByteArray) (ts : List Int) : Int :=
 if isOpB s = false ∨ ts.any noType = true then 1 else if (ts.length : Int) ≠ arityOf s then 3 else if fitsGrp (grp s) ts = true then 0 else 8
def ruleTy (s : ByteArray) (ts : List Int) : Int := if ruleErr s ts = 0 then typeGrp (grp s) ts else 0
def RuleSays (t k : Int) (w : World) (e : Ending) (w' : World) : Prop := e = .returned (.tuple #[.int .i64 t, errV k]) ∧ Below w.heap.size w w'
section
variable (s : ByteArray) (ts : List Int) (A : Option Addr) (n c : Nat) (w : World) (hO : OpsT w) (hT : LevelsT w) (hl : Sees w A n c 1 (intCells ts))
include hO
theorem rule_no (h : isOpB s = false) : Calls Tryz.prog 183 #[.string s, .slice A n c] w (RuleSays 0 1 w) := by
 have HO := Lib.hid hO
 have H := Lib.hid (show Lib.containsS opsB s = false from h)
 clear hO h
 go_enter Tryz.func183, Tryz.ntmps183
 go_wp2_with (first | (go_at_call 120; refine (contains_any _ _ _ _ _ _ HO.out).mono ?_; rintro e w' ⟨rfl, rfl⟩; rw [H.out]))
 go_ret2
 exact ⟨rfl, Below.refl _ _⟩
include hl
theorem rule_bad (h : isOpB s = true) (hb : ts.any noType = true) : Calls Tryz.prog 183 #[.string s, .slice A n c] w (RuleSays 0 1 w) := by
 have HO := Lib.hid hO
 have HL := Lib.hid hl
 have H := Lib.hid (show Lib.containsS opsB s = true from h)
 have HB := Lib.hid hb
 clear hO hl h hb
 go_enter Tryz.func183, Tryz.ntmps183
 go_wp2_with (first
  | (go_at_call 120; refine (contains_any _ _ _ _ _ _ HO.out).mono ?_; rintro e w' ⟨rfl, rfl⟩; rw [H.out])
  | (go_at_call 218; refine (any_noType _ _ _ _ _ HL.out).mono ?_; rintro e w' ⟨rfl, rfl⟩; rw [HB.out]))
 go_ret2
 exact ⟨rfl, Below.refl _ _⟩
include hT
theorem rule_shape (h : isOpB s = true) (hb : ts.any noType = false) (ha : (ts.length : Int) ≠ arityOf s) : Calls Tryz.prog 183 #[.string s, .slice A n c] w (RuleSays 0 3 w) := by
 have HO := Lib.hid hO
 have HL := Lib.hid hl
 have HT := Lib.hid hT
 have H := Lib.hid (show Lib.containsS opsB s = true from h)
 have HB := Lib.hid hb
 have hn := intCells_len hl
 have hm := hl.2.1
 have hm2 := hl.2.2.1
 unfold maxLen at hm2
 rw [hn] at ha
 generalize hk : arityOf s = k at ha
 have HK := Lib.hid hk
 have e1 : ((n : Int) != k) = true := by simpa using ha
 clear hO hl h hb hT hn ha hk
 go_enter Tryz.func183, Tryz.ntmps183
 go_wp2_with (first
  | (go_at_call 120; refine (contains_any _ _ _ _ _ _ HO.out).mono ?_; rintro e w' ⟨rfl, rfl⟩; rw [H.out])
  | (go_at_call 218; refine (any_noType _ _ _ _ _ HL.out).mono ?_; rintro e w' ⟨rfl, rfl⟩; rw [HB.out])
  | (go_at_call 212; refine (arity_any _ _ HT.out).mono ?_; rintro e w' ⟨rfl, rfl⟩; rw [HK.out]))
 go_ret2
 exact ⟨rfl, Below.refl _ _⟩
end
set_option maxHeartbeats 2000000 in
theorem rule_or (ts : List Int) (A : Option Addr) (c : Nat) (w : World) (hO : OpsT w) (hT : LevelsT w) (hl : Sees w A 2 c 1 (intCells ts)) (hb : ts.any noType = false) :
  Calls Tryz.prog 183 #[.string ⟨#[111, 114]⟩, .slice A 2 c] w (RuleSays (if fitsGrp 0 ts = true then typeGrp 0 ts else 0) (if fitsGrp 0 ts = true then 0 else 8) w) := by
 have HO := Lib.hid hO
 have HL := Lib.hid hl
 have HT := Lib.hid hT
 have H := Lib.hid (show Lib.containsS opsB ⟨#[111, 114]⟩ = true by decide)
 have HB := Lib.hid hb
 have HK := Lib.hid (show arityOf ⟨#[111, 114]⟩ = 2 by decide)
 have hm := hl.2.1
 have HF := Lib.hid (show fitsGrp 0 ts = allThe ts 2 from rfl)
 rw [HF.out]
 clear HF hO hl hb hT
 generalize hf : allThe ts 2 = b
 have E := Lib.hid hf
 clear hf
 cases b
 all_goals
  go_enter Tryz.func183, Tryz.ntmps183
  go_wp2_with (first
   | (go_at_call 120; refine (contains_any _ _ _ _ _ _ HO.out).mono ?_; rintro e w' ⟨rfl, rfl⟩; rw [H.out])
   | (go_at_call 218; refine (any_noType _ _ _ _ _ HL.out).mono ?_; rintro e w' ⟨rfl, rfl⟩; rw [HB.out])
   | (go_at_call 212; refine (arity_any _ _ HT.out).mono ?_; rintro e w' ⟨rfl, rfl⟩; rw [HK.out]))
  refine (all_any ts _ _ _ _ _ HL.out).mono ?_
  rintro e w1 ⟨rfl, hb1⟩
  rw [E.out]
  go_wp2_with fail
  go_ret2
  exact ⟨rfl, hb1⟩
set_option maxHeartbeats 2000000 in
theorem rule_and (ts : List Int) (A : Option Addr) (c : Nat) (w : World) (hO : OpsT w) (hT : LevelsT w) (hl : Sees w A 2 c 1 (intCells ts)) (hb : ts.any noType = false) :
  Calls Tryz.prog 183 #[.string ⟨#[97, 110, 100]⟩, .slice A 2 c] w (RuleSays (if fitsGrp 0 ts = true then typeGrp 0 ts else 0) (if fitsGrp 0 ts = true then 0 else 8) w) := by
 have HO := Lib.hid hO
 have HL := Lib.hid hl
 have HT := Lib.hid hT
 have H := Lib.hid (show Lib.containsS opsB ⟨#[97, 110, 100]⟩ = true by decide)
 have HB := Lib.hid hb
 have HK := Lib.hid (show arityOf ⟨#[97, 110, 100]⟩ = 2 by decide)
 have hm := hl.2.1
 have HF := Lib.hid (show fitsGrp 0 ts = allThe ts 2 from rfl)
 rw [HF.out]
 clear HF hO hl hb hT
 generalize hf : allThe ts 2 = b
 have E := Lib.hid hf
 clear hf
 cases b
 all_goals
  go_enter Tryz.func183, Tryz.ntmps183
  go_wp2_with (first
   | (go_at_call 120; refine (contains_any _ _ _ _ _ _ HO.out).mono ?_; rintro e w' ⟨rfl, rfl⟩; rw [H.out])
   | (go_at_call 218; refine (any_noType _ _ _ _ _ HL.out).mono ?_; rintro e w' ⟨rfl, rfl⟩; rw [HB.out])
   | (go_at_call 212; refine (arity_any _ _ HT.out).mono ?_; rintro e w' ⟨rfl, rfl⟩; rw [HK.out]))
  refine (all_any ts _ _ _ _ _ HL.out).mono ?_
  rintro e w1 ⟨rfl, hb1⟩
  rw [E.out]
  go_wp2_with fail
  go_ret2
  exact ⟨rfl, hb1⟩
set_option maxHeartbeats 2000000 in
theorem rule_not (ts : List Int) (A : Option Addr) (c : Nat) (w : World) (hO : OpsT w) (hT : LevelsT w) (hl : Sees w A 1 c 1 (intCells ts)) (hb : ts.any noType = false) :
  Calls Tryz.prog 183 #[.string ⟨#[110, 111, 116]⟩, .slice A 1 c] w (RuleSays (if fitsGrp 0 ts = true then typeGrp 0 ts else 0) (if fitsGrp 0 ts = true then 0 else 8) w) := by
 have HO := Lib.hid hO
 have HL := Lib.hid hl
 have HT := Lib.hid hT
 have H := Lib.hid (show Lib.containsS opsB ⟨#[110, 111, 116]⟩ = true by decide)
 have HB := Lib.hid hb
 have HK := Lib.hid (show arityOf ⟨#[110, 111, 116]⟩ = 1 by decide)
 have hm := hl.2.1
 have HF := Lib.hid (show fitsGrp 0 ts = allThe ts 2 from rfl)
 rw [HF.out]
 clear HF hO hl hb hT
 generalize hf : allThe ts 2 = b
 have E := Lib.hid hf
 clear hf
 cases b
 all_goals
  go_enter Tryz.func183, Tryz.ntmps183
  go_wp2_with (first
   | (go_at_call 120; refine (contains_any _ _ _ _ _ _ HO.out).mono ?_; rintro e w' ⟨rfl, rfl⟩; rw [H.out])
   | (go_at_call 218; refine (any_noType _ _ _ _ _ HL.out).mono ?_; rintro e w' ⟨rfl, rfl⟩; rw [HB.out])
   | (go_at_call 212; refine (arity_any _ _ HT.out).mono ?_; rintro e w' ⟨rfl, rfl⟩; rw [HK.out]))
  refine (all_any ts _ _ _ _ _ HL.out).mono ?_
  rintro e w1 ⟨rfl, hb1⟩
  rw [E.out]
  go_wp2_with fail
  go_ret2
  exact ⟨rfl, hb1⟩
set_option maxHeartbeats 2000000 in
theorem rule_eq (ts : List Int) (A : Option Addr) (c : Nat) (w : World) (hO : OpsT w) (hT : LevelsT w) (hl : Sees w A 2 c 1 (intCells ts)) (hb : ts.any noType = false) :
  Calls Tryz.prog 183 #[.string ⟨#[61]⟩, .slice A 2 c] w (RuleSays (if fitsGrp 1 ts = true then typeGrp 1 ts else 0) (if fitsGrp 1 ts = true then 0 else 8) w) := by
 have HO := Lib.hid hO
 have HL := Lib.hid hl
 have HT := Lib.hid hT
 have H := Lib.hid (show Lib.containsS opsB ⟨#[61]⟩ = true by decide)
 have HB := Lib.hid hb
 have HK := Lib.hid (show arityOf ⟨#[61]⟩ = 2 by decide)
 have hm := hl.2.1
 obtain ⟨g, o, x, rfl, hx, c0⟩ := ints_at hl (k := 0) (by omega)
 rw [Nat.add_zero] at c0
 obtain ⟨g', o', y, e, hy, c1⟩ := ints_at hl (k := 1) (by omega)
 cases e
 rw [show fitsGrp 1 ts = (x == y) by unfold fitsGrp; simp [List.getD, hx, hy]]
 clear hO hl hb hT hx hy
 by_cases hxy : x = y
 ·have e1 : (x == y) = true := by simpa using hxy
  rw [e1]
  clear hxy
  go_enter Tryz.func183, Tryz.ntmps183
  go_wp2_with (first
   | (go_at_call 120; refine (contains_any _ _ _ _ _ _ HO.out).mono ?_; rintro e w' ⟨rfl, rfl⟩; rw [H.out])
   | (go_at_call 218; refine (any_noType _ _ _ _ _ HL.out).mono ?_; rintro e w' ⟨rfl, rfl⟩; rw [HB.out])
   | (go_at_call 212; refine (arity_any _ _ HT.out).mono ?_; rintro e w' ⟨rfl, rfl⟩; rw [HK.out]))
  go_quiet (fail)
  go_wp2_with fail
  go_ret2
  exact ⟨rfl, below_drewN (Below.refl _ _) nq⟩
 ·have e1 : (x == y) = false := by simpa using hxy
  rw [e1]
  clear hxy
  go_enter Tryz.func183, Tryz.ntmps183
  go_wp2_with (first
   | (go_at_call 120; refine (contains_any _ _ _ _ _ _ HO.out).mono ?_; rintro e w' ⟨rfl, rfl⟩; rw [H.out])
   | (go_at_call 218; refine (any_noType _ _ _ _ _ HL.out).mono ?_; rintro e w' ⟨rfl, rfl⟩; rw [HB.out])
   | (go_at_call 212; refine (arity_any _ _ HT.out).mono ?_; rintro e w' ⟨rfl, rfl⟩; rw [HK.out]))
  go_quiet (fail)
  go_wp2_with fail
  go_ret2
  exact ⟨rfl, below_drewN (Below.refl _ _) nq⟩
set_option maxHeartbeats 2000000 in
theorem rule_ne (ts : List Int) (A : Option Addr) (c : Nat) (w : World) (hO : OpsT w) (hT : LevelsT w) (hl : Sees w A 2 c 1 (intCells ts)) (hb : ts.any noType = false) :
  Calls Tryz.prog 183 #[.string ⟨#[60, 62]⟩, .slice A 2 c] w (RuleSays (if fitsGrp 1 ts = true then typeGrp 1 ts else 0) (if fitsGrp 1 ts = true then 0 else 8) w) := by
 have HO := Lib.hid hO
 have HL := Lib.hid hl
 have HT := Lib.hid hT
 have H := Lib.hid (show Lib.containsS opsB ⟨#[60, 62]⟩ = true by decide)
 have HB := Lib.hid hb
 have HK := Lib.hid (show arityOf ⟨#[60, 62]⟩ = 2 by decide)
 have hm := hl.2.1
 obtain ⟨g, o, x, rfl, hx, c0⟩ := ints_at hl (k := 0) (by omega)
 rw [Nat.add_zero] at c0
 obtain ⟨g', o', y, e, hy, c1⟩ := ints_at hl (k := 1) (by omega)
 cases e
 rw [show fitsGrp 1 ts = (x == y) by unfold fitsGrp; simp [List.getD, hx, hy]]
 clear hO hl hb hT hx hy
 by_cases hxy : x = y
 ·have e1 : (x == y) = true := by simpa using hxy
  rw [e1]
  clear hxy
  go_enter Tryz.func183, Tryz.ntmps183
  go_wp2_with (first
   | (go_at_call 120; refine (contains_any _ _ _ _ _ _ HO.out).mono ?_; rintro e w' ⟨rfl, rfl⟩; rw [H.out])
   | (go_at_call 218; refine (any_noType _ _ _ _ _ HL.out).mono ?_; rintro e w' ⟨rfl, rfl⟩; rw [HB.out])
   | (go_at_call 212; refine (arity_any _ _ HT.out).mono ?_; rintro e w' ⟨rfl, rfl⟩; rw [HK.out]))
  go_quiet (fail)
  go_wp2_with fail
  go_ret2
  exact ⟨rfl, below_drewN (Below.refl _ _) nq⟩
 ·have e1 : (x == y) = false := by simpa using hxy
  rw [e1]
  clear hxy
  go_enter Tryz.func183, Tryz.ntmps183
  go_wp2_with (first
   | (go_at_call 120; refine (contains_any _ _ _ _ _ _ HO.out).mono ?_; rintro e w' ⟨rfl, rfl⟩; rw [H.out])
   | (go_at_call 218; refine (any_noType _ _ _ _ _ HL.out).mono ?_; rintro e w' ⟨rfl, rfl⟩; rw [HB.out])
   | (go_at_call 212; refine (arity_any _ _ HT.out).mono ?_; rintro e w' ⟨rfl, rfl⟩; rw [HK.out]))
  go_quiet (fail)
  go_wp2_with fail
  go_ret2
  exact ⟨rfl, below_drewN (Below.refl _ _) nq⟩
set_option maxHeartbeats 2000000 in
theorem rule_lt (ts : List Int) (A : Option Addr) (c : Nat) (w : World) (hO : OpsT w) (hT : LevelsT w) (hl : Sees w A 2 c 1 (intCells ts)) (hb : ts.any noType = false) :
  Calls Tryz.prog 183 #[.string ⟨#[60]⟩, .slice A 2 c] w (RuleSays (if fitsGrp 1 ts = true then typeGrp 1 ts else 0) (if fitsGrp 1 ts = true then 0 else 8) w) := by
 have HO := Lib.hid hO
 have HL := Lib.hid hl
 have HT := Lib.hid hT
 have H := Lib.hid (show Lib.containsS opsB ⟨#[60]⟩ = true by decide)
 have HB := Lib.hid hb
 have HK := Lib.hid (show arityOf ⟨#[60]⟩ = 2 by decide)
 have hm := hl.2.1
 obtain ⟨g, o, x, rfl, hx, c0⟩ := ints_at hl (k := 0) (by omega)
 rw [Nat.add_zero] at c0
 obtain ⟨g', o', y, e, hy, c1⟩ := ints_at hl (k := 1) (by omega)
 cases e
 rw [show fitsGrp 1 ts = (x == y) by unfold fitsGrp; simp [List.getD, hx, hy]]
 clear hO hl hb hT hx hy
 by_cases hxy : x = y
 ·have e1 : (x == y) = true := by simpa using hxy
  rw [e1]
  clear hxy
  go_enter Tryz.func183, Tryz.ntmps183
  go_wp2_with (first
   | (go_at_call 120; refine (contains_any _ _ _ _ _ _ HO.out).mono ?_; rintro e w' ⟨rfl, rfl⟩; rw [H.out])
   | (go_at_call 218; refine (any_noType _ _ _ _ _ HL.out).mono ?_; rintro e w' ⟨rfl, rfl⟩; rw [HB.out])
   | (go_at_call 212; refine (arity_any _ _ HT.out).mono ?_; rintro e w' ⟨rfl, rfl⟩; rw [HK.out]))
  go_quiet (fail)
  go_wp2_with fail
  go_ret2
  exact ⟨rfl, below_drewN (Below.refl _ _) nq⟩
 ·have e1 : (x == y) = false := by simpa using hxy
  rw [e1]
  clear hxy
  go_enter Tryz.func183, Tryz.ntmps183
  go_wp2_with (first
   | (go_at_call 120; refine (contains_any _ _ _ _ _ _ HO.out).mono ?_; rintro e w' ⟨rfl, rfl⟩; rw [H.out])
   | (go_at_call 218; refine (any_noType _ _ _ _ _ HL.out).mono ?_; rintro e w' ⟨rfl, rfl⟩; rw [HB.out])
   | (go_at_call 212; refine (arity_any _ _ HT.out).mono ?_; rintro e w' ⟨rfl, rfl⟩; rw [HK.out]))
  go_quiet (fail)
  go_wp2_with fail
  go_ret2
  exact ⟨rfl, below_drewN (Below.refl _ _) nq⟩
set_option maxHeartbeats 2000000 in
theorem rule_le (ts : List Int) (A : Option Addr) (c : Nat) (w : World) (hO : OpsT w) (hT : LevelsT w) (hl : Sees w A 2 c 1 (intCells ts)) (hb : ts.any noType = false) :
  Calls Tryz.prog 183 #[.string ⟨#[60, 61]⟩, .slice A 2 c] w (RuleSays (if fitsGrp 1 ts = true then typeGrp 1 ts else 0) (if fitsGrp 1 ts = true then 0 else 8) w) := by
 have HO := Lib.hid hO
 have HL := Lib.hid hl
 have HT := Lib.hid hT
 have H := Lib.hid (show Lib.containsS opsB ⟨#[60, 61]⟩ = true by decide)
 have HB := Lib.hid hb
 have HK := Lib.hid (show arityOf ⟨#[60, 61]⟩ = 2 by decide)
 have hm := hl.2.1
 obtain ⟨g, o, x, rfl, hx, c0⟩ := ints_at hl (k := 0) (by omega)
 rw [Nat.add_zero] at c0
 obtain ⟨g', o', y, e, hy, c1⟩ := ints_at hl (k := 1) (by omega)
 cases e
 rw [show fitsGrp 1 ts = (x == y) by unfold fitsGrp; simp [List.getD, hx, hy]]
 clear hO hl hb hT hx hy
 by_cases hxy : x = y
 ·have e1 : (x == y) = true := by simpa using hxy
  rw [e1]
  clear hxy
  go_enter Tryz.func183, Tryz.ntmps183
  go_wp2_with (first
   | (go_at_call 120; refine (contains_any _ _ _ _ _ _ HO.out).mono ?_; rintro e w' ⟨rfl, rfl⟩; rw [H.out])
   | (go_at_call 218; refine (any_noType _ _ _ _ _ HL.out).mono ?_; rintro e w' ⟨rfl, rfl⟩; rw [HB.out])
   | (go_at_call 212; refine (arity_any _ _ HT.out).mono ?_; rintro e w' ⟨rfl, rfl⟩; rw [HK.out]))
  go_quiet (fail)
  go_wp2_with fail
  go_ret2
  exact ⟨rfl, below_drewN (Below.refl _ _) nq⟩
 ·have e1 : (x == y) = false := by simpa using hxy
  rw [e1]
  clear hxy
  go_enter Tryz.func183, Tryz.ntmps183
  go_wp2_with (first
   | (go_at_call 120; refine (contains_any _ _ _ _ _ _ HO.out).mono ?_; rintro e w' ⟨rfl, rfl⟩; rw [H.out])
   | (go_at_call 218; refine (any_noType _ _ _ _ _ HL.out).mono ?_; rintro e w' ⟨rfl, rfl⟩; rw [HB.out])
   | (go_at_call 212; refine (arity_any _ _ HT.out).mono ?_; rintro e w' ⟨rfl, rfl⟩; rw [HK.out]))
  go_quiet (fail)
  go_wp2_with fail
  go_ret2
  exact ⟨rfl, below_drewN (Below.refl _ _) nq⟩
set_option maxHeartbeats 2000000 in
theorem rule_gt (ts : List Int) (A : Option Addr) (c : Nat) (w : World) (hO : OpsT w) (hT : LevelsT w) (hl : Sees w A 2 c 1 (intCells ts)) (hb : ts.any noType = false) :
  Calls Tryz.prog 183 #[.string ⟨#[62]⟩, .slice A 2 c] w (RuleSays (if fitsGrp 1 ts = true then typeGrp 1 ts else 0) (if fitsGrp 1 ts = true then 0 else 8) w) := by
 have HO := Lib.hid hO
 have HL := Lib.hid hl
 have HT := Lib.hid hT
 have H := Lib.hid (show Lib.containsS opsB ⟨#[62]⟩ = true by decide)
 have HB := Lib.hid hb
 have HK := Lib.hid (show arityOf ⟨#[62]⟩ = 2 by decide)
 have hm := hl.2.1
 obtain ⟨g, o, x, rfl, hx, c0⟩ := ints_at hl (k := 0) (by omega)
 rw [Nat.add_zero] at c0
 obtain ⟨g', o', y, e, hy, c1⟩ := ints_at hl (k := 1) (by omega)
 cases e
 rw [show fitsGrp 1 ts = (x == y) by unfold fitsGrp; simp [List.getD, hx, hy]]
 clear hO hl hb hT hx hy
 by_cases hxy : x = y
 ·have e1 : (x == y) = true := by simpa using hxy
  rw [e1]
  clear hxy
  go_enter Tryz.func183, Tryz.ntmps183
  go_wp2_with (first
   | (go_at_call 120; refine (contains_any _ _ _ _ _ _ HO.out).mono ?_; rintro e w' ⟨rfl, rfl⟩; rw [H.out])
   | (go_at_call 218; refine (any_noType _ _ _ _ _ HL.out).mono ?_; rintro e w' ⟨rfl, rfl⟩; rw [HB.out])
   | (go_at_call 212; refine (arity_any _ _ HT.out).mono ?_; rintro e w' ⟨rfl, rfl⟩; rw [HK.out]))
  go_quiet (fail)
  go_wp2_with fail
  go_ret2
  exact ⟨rfl, below_drewN (Below.refl _ _) nq⟩
 ·have e1 : (x == y) = false := by simpa using hxy
  rw [e1]
  clear hxy
  go_enter Tryz.func183, Tryz.ntmps183
  go_wp2_with (first
   | (go_at_call 120; refine (contains_any _ _ _ _ _ _ HO.out).mono ?_; rintro e w' ⟨rfl, rfl⟩; rw [H.out])
   | (go_at_call 218; refine (any_noType _ _ _ _ _ HL.out).mono ?_; rintro e w' ⟨rfl, rfl⟩; rw [HB.out])
   | (go_at_call 212; refine (arity_any _ _ HT.out).mono ?_; rintro e w' ⟨rfl, rfl⟩; rw [HK.out]))
  go_quiet (fail)
  go_wp2_with fail
  go_ret2
  exact ⟨rfl, below_drewN (Below.refl _ _) nq⟩
set_option maxHeartbeats 2000000 in
theorem rule_ge (ts : List Int) (A : Option Addr) (c : Nat) (w : World) (hO : OpsT w) (hT : LevelsT w) (hl : Sees w A 2 c 1 (intCells ts)) (hb : ts.any noType = false) :
  Calls Tryz.prog 183 #[.string ⟨#[62, 61]⟩, .slice A 2 c] w (RuleSays (if fitsGrp 1 ts = true then typeGrp 1 ts else 0) (if fitsGrp 1 ts = true then 0 else 8) w) := by
 have HO := Lib.hid hO
 have HL := Lib.hid hl
 have HT := Lib.hid hT
 have H := Lib.hid (show Lib.containsS opsB ⟨#[62, 61]⟩ = true by decide)
 have HB := Lib.hid hb
 have HK := Lib.hid (show arityOf ⟨#[62, 61]⟩ = 2 by decide)
 have hm := hl.2.1
 obtain ⟨g, o, x, rfl, hx, c0⟩ := ints_at hl (k := 0) (by omega)
 rw [Nat.add_zero] at c0
 obtain ⟨g', o', y, e, hy, c1⟩ := ints_at hl (k := 1) (by omega)
 cases e
 rw [show fitsGrp 1 ts = (x == y) by unfold fitsGrp; simp [List.getD, hx, hy]]
 clear hO hl hb hT hx hy
 by_cases hxy : x = y
 ·have e1 : (x == y) = true := by simpa using hxy
  rw [e1]
  clear hxy
  go_enter Tryz.func183, Tryz.ntmps183
  go_wp2_with (first
   | (go_at_call 120; refine (contains_any _ _ _ _ _ _ HO.out).mono ?_; rintro e w' ⟨rfl, rfl⟩; rw [H.out])
   | (go_at_call 218; refine (any_noType _ _ _ _ _ HL.out).mono ?_; rintro e w' ⟨rfl, rfl⟩; rw [HB.out])
   | (go_at_call 212; refine (arity_any _ _ HT.out).mono ?_; rintro e w' ⟨rfl, rfl⟩; rw [HK.out]))
  go_quiet (fail)
  go_wp2_with fail
  go_ret2
  exact ⟨rfl, below_drewN (Below.refl _ _) nq⟩
 ·have e1 : (x == y) = false := by simpa using hxy
  rw [e1]
  clear hxy
  go_enter Tryz.func183, Tryz.ntmps183
  go_wp2_with (first
   | (go_at_call 120; refine (contains_any _ _ _ _ _ _ HO.out).mono ?_; rintro e w' ⟨rfl, rfl⟩; rw [H.out])
   | (go_at_call 218; refine (any_noType _ _ _ _ _ HL.out).mono ?_; rintro e w' ⟨rfl, rfl⟩; rw [HB.out])
   | (go_at_call 212; refine (arity_any _ _ HT.out).mono ?_; rintro e w' ⟨rfl, rfl⟩; rw [HK.out]))
  go_quiet (fail)
  go_wp2_with fail
  go_ret2
  exact ⟨rfl, below_drewN (Below.refl _ _) nq⟩
set_option maxHeartbeats 2000000 in
theorem rule_add (ts : List Int) (A : Option Addr) (c : Nat) (w : World) (hO : OpsT w) (hT : LevelsT w) (hl : Sees w A 2 c 1 (intCells ts)) (hb : ts.any noType = false) :
  Calls Tryz.prog 183 #[.string ⟨#[43]⟩, .slice A 2 c] w (RuleSays (if fitsGrp 4 ts = true then typeGrp 4 ts else 0) (if fitsGrp 4 ts = true then 0 else 8) w) := by
 have HO := Lib.hid hO
 have HL := Lib.hid hl
 have HT := Lib.hid hT
 have H := Lib.hid (show Lib.containsS opsB ⟨#[43]⟩ = true by decide)
 have HB := Lib.hid hb
 have HK := Lib.hid (show arityOf ⟨#[43]⟩ = 2 by decide)
 have hm := hl.2.1
 have HF := Lib.hid (show fitsGrp 4 ts = allThe ts 1 from rfl)
 rw [HF.out]
 clear HF hO hl hb hT
 generalize hf : allThe ts 1 = b
 have E := Lib.hid hf
 clear hf
 cases b
 all_goals
  go_enter Tryz.func183, Tryz.ntmps183
  go_wp2_with (first
   | (go_at_call 120; refine (contains_any _ _ _ _ _ _ HO.out).mono ?_; rintro e w' ⟨rfl, rfl⟩; rw [H.out])
   | (go_at_call 218; refine (any_noType _ _ _ _ _ HL.out).mono ?_; rintro e w' ⟨rfl, rfl⟩; rw [HB.out])
   | (go_at_call 212; refine (arity_any _ _ HT.out).mono ?_; rintro e w' ⟨rfl, rfl⟩; rw [HK.out]))
  refine (all_any ts _ _ _ _ _ HL.out).mono ?_
  rintro e w1 ⟨rfl, hb1⟩
  rw [E.out]
  go_wp2_with fail
  go_ret2
  exact ⟨rfl, hb1⟩
set_option maxHeartbeats 2000000 in
theorem rule_sub (ts : List Int) (A : Option Addr) (c : Nat) (w : World) (hO : OpsT w) (hT : LevelsT w) (hl : Sees w A 2 c 1 (intCells ts)) (hb : ts.any noType = false) :
  Calls Tryz.prog 183 #[.string ⟨#[45]⟩, .slice A 2 c] w (RuleSays (if fitsGrp 4 ts = true then typeGrp 4 ts else 0) (if fitsGrp 4 ts = true then 0 else 8) w) := by
 have HO := Lib.hid hO
 have HL := Lib.hid hl
 have HT := Lib.hid hT
 have H := Lib.hid (show Lib.containsS opsB ⟨#[45]⟩ = true by decide)
 have HB := Lib.hid hb
 have HK := Lib.hid (show arityOf ⟨#[45]⟩ = 2 by decide)
 have hm := hl.2.1
 have HF := Lib.hid (show fitsGrp 4 ts = allThe ts 1 from rfl)
 rw [HF.out]
 clear HF hO hl hb hT
 generalize hf : allThe ts 1 = b
 have E := Lib.hid hf
 clear hf
 cases b
 all_goals
  go_enter Tryz.func183, Tryz.ntmps183
  go_wp2_with (first
   | (go_at_call 120; refine (contains_any _ _ _ _ _ _ HO.out).mono ?_; rintro e w' ⟨rfl, rfl⟩; rw [H.out])
   | (go_at_call 218; refine (any_noType _ _ _ _ _ HL.out).mono ?_; rintro e w' ⟨rfl, rfl⟩; rw [HB.out])
   | (go_at_call 212; refine (arity_any _ _ HT.out).mono ?_; rintro e w' ⟨rfl, rfl⟩; rw [HK.out]))
  refine (all_any ts _ _ _ _ _ HL.out).mono ?_
  rintro e w1 ⟨rfl, hb1⟩
  rw [E.out]
  go_wp2_with fail
  go_ret2
  exact ⟨rfl, hb1⟩
set_option maxHeartbeats 2000000 in
theorem rule_mul (ts : List Int) (A : Option Addr) (c : Nat) (w : World) (hO : OpsT w) (hT : LevelsT w) (hl : Sees w A 2 c 1 (intCells ts)) (hb : ts.any noType = false) :
  Calls Tryz.prog 183 #[.string ⟨#[42]⟩, .slice A 2 c] w (RuleSays (if fitsGrp 4 ts = true then typeGrp 4 ts else 0) (if fitsGrp 4 ts = true then 0 else 8) w) := by
 have HO := Lib.hid hO
 have HL := Lib.hid hl
 have HT := Lib.hid hT
 have H := Lib.hid (show Lib.containsS opsB ⟨#[42]⟩ = true by decide)
 have HB := Lib.hid hb
 have HK := Lib.hid (show arityOf ⟨#[42]⟩ = 2 by decide)
 have hm := hl.2.1
 have HF := Lib.hid (show fitsGrp 4 ts = allThe ts 1 from rfl)
 rw [HF.out]
 clear HF hO hl hb hT
 generalize hf : allThe ts 1 = b
 have E := Lib.hid hf
 clear hf
 cases b
 all_goals
  go_enter Tryz.func183, Tryz.ntmps183
  go_wp2_with (first
   | (go_at_call 120; refine (contains_any _ _ _ _ _ _ HO.out).mono ?_; rintro e w' ⟨rfl, rfl⟩; rw [H.out])
   | (go_at_call 218; refine (any_noType _ _ _ _ _ HL.out).mono ?_; rintro e w' ⟨rfl, rfl⟩; rw [HB.out])
   | (go_at_call 212; refine (arity_any _ _ HT.out).mono ?_; rintro e w' ⟨rfl, rfl⟩; rw [HK.out]))
  refine (all_any ts _ _ _ _ _ HL.out).mono ?_
  rintro e w1 ⟨rfl, hb1⟩
  rw [E.out]
  go_wp2_with fail
  go_ret2
  exact ⟨rfl, hb1⟩
set_option maxHeartbeats 2000000 in
theorem rule_div (ts : List Int) (A : Option Addr) (c : Nat) (w : World) (hO : OpsT w) (hT : LevelsT w) (hl : Sees w A 2 c 1 (intCells ts)) (hb : ts.any noType = false) :
  Calls Tryz.prog 183 #[.string ⟨#[47]⟩, .slice A 2 c] w (RuleSays (if fitsGrp 4 ts = true then typeGrp 4 ts else 0) (if fitsGrp 4 ts = true then 0 else 8) w) := by
 have HO := Lib.hid hO
 have HL := Lib.hid hl
 have HT := Lib.hid hT
 have H := Lib.hid (show Lib.containsS opsB ⟨#[47]⟩ = true by decide)
 have HB := Lib.hid hb
 have HK := Lib.hid (show arityOf ⟨#[47]⟩ = 2 by decide)
 have hm := hl.2.1
 have HF := Lib.hid (show fitsGrp 4 ts = allThe ts 1 from rfl)
 rw [HF.out]
 clear HF hO hl hb hT
 generalize hf : allThe ts 1 = b
 have E := Lib.hid hf
 clear hf
 cases b
 all_goals
  go_enter Tryz.func183, Tryz.ntmps183
  go_wp2_with (first
   | (go_at_call 120; refine (contains_any _ _ _ _ _ _ HO.out).mono ?_; rintro e w' ⟨rfl, rfl⟩; rw [H.out])
   | (go_at_call 218; refine (any_noType _ _ _ _ _ HL.out).mono ?_; rintro e w' ⟨rfl, rfl⟩; rw [HB.out])
   | (go_at_call 212; refine (arity_any _ _ HT.out).mono ?_; rintro e w' ⟨rfl, rfl⟩; rw [HK.out]))
  refine (all_any ts _ _ _ _ _ HL.out).mono ?_
  rintro e w1 ⟨rfl, hb1⟩
  rw [E.out]
  go_wp2_with fail
  go_ret2
  exact ⟨rfl, hb1⟩
set_option maxHeartbeats 2000000 in
theorem rule_rem (ts : List Int) (A : Option Addr) (c : Nat) (w : World) (hO : OpsT w) (hT : LevelsT w) (hl : Sees w A 2 c 1 (intCells ts)) (hb : ts.any noType = false) :
  Calls Tryz.prog 183 #[.string ⟨#[37]⟩, .slice A 2 c] w (RuleSays (if fitsGrp 4 ts = true then typeGrp 4 ts else 0) (if fitsGrp 4 ts = true then 0 else 8) w) := by
 have HO := Lib.hid hO
 have HL := Lib.hid hl
 have HT := Lib.hid hT
 have H := Lib.hid (show Lib.containsS opsB ⟨#[37]⟩ = true by decide)
 have HB := Lib.hid hb
 have HK := Lib.hid (show arityOf ⟨#[37]⟩ = 2 by decide)
 have hm := hl.2.1
 have HF := Lib.hid (show fitsGrp 4 ts = allThe ts 1 from rfl)
 rw [HF.out]
 clear HF hO hl hb hT
 generalize hf : allThe ts 1 = b
 have E := Lib.hid hf
 clear hf
 cases b
 all_goals
  go_enter Tryz.func183, Tryz.ntmps183
  go_wp2_with (first
   | (go_at_call 120; refine (contains_any _ _ _ _ _ _ HO.out).mono ?_; rintro e w' ⟨rfl, rfl⟩; rw [H.out])
   | (go_at_call 218; refine (any_noType _ _ _ _ _ HL.out).mono ?_; rintro e w' ⟨rfl, rfl⟩; rw [HB.out])
   | (go_at_call 212; refine (arity_any _ _ HT.out).mono ?_; rintro e w' ⟨rfl, rfl⟩; rw [HK.out]))
  refine (all_any ts _ _ _ _ _ HL.out).mono ?_
  rintro e w1 ⟨rfl, hb1⟩
  rw [E.out]
  go_wp2_with fail
  go_ret2
  exact ⟨rfl, hb1⟩
set_option maxHeartbeats 2000000 in
theorem rule_neg (ts : List Int) (A : Option Addr) (c : Nat) (w : World) (hO : OpsT w) (hT : LevelsT w) (hl : Sees w A 1 c 1 (intCells ts)) (hb : ts.any noType = false) :
  Calls Tryz.prog 183 #[.string ⟨#[110, 101, 103]⟩, .slice A 1 c] w (RuleSays (if fitsGrp 4 ts = true then typeGrp 4 ts else 0) (if fitsGrp 4 ts = true then 0 else 8) w) := by
 have HO := Lib.hid hO
 have HL := Lib.hid hl
 have HT := Lib.hid hT
 have H := Lib.hid (show Lib.containsS opsB ⟨#[110, 101, 103]⟩ = true by decide)
 have HB := Lib.hid hb
 have HK := Lib.hid (show arityOf ⟨#[110, 101, 103]⟩ = 1 by decide)
 have hm := hl.2.1
 have HF := Lib.hid (show fitsGrp 4 ts = allThe ts 1 from rfl)
 rw [HF.out]
 clear HF hO hl hb hT
 generalize hf : allThe ts 1 = b
 have E := Lib.hid hf
 clear hf
 cases b
 all_goals
  go_enter Tryz.func183, Tryz.ntmps183
  go_wp2_with (first
   | (go_at_call 120; refine (contains_any _ _ _ _ _ _ HO.out).mono ?_; rintro e w' ⟨rfl, rfl⟩; rw [H.out])
   | (go_at_call 218; refine (any_noType _ _ _ _ _ HL.out).mono ?_; rintro e w' ⟨rfl, rfl⟩; rw [HB.out])
   | (go_at_call 212; refine (arity_any _ _ HT.out).mono ?_; rintro e w' ⟨rfl, rfl⟩; rw [HK.out]))
  refine (all_any ts _ _ _ _ _ HL.out).mono ?_
  rintro e w1 ⟨rfl, hb1⟩
  rw [E.out]
  go_wp2_with fail
  go_ret2
  exact ⟨rfl, hb1⟩
set_option maxHeartbeats 2000000 in
theorem rule_len (ts : List Int) (A : Option Addr) (c : Nat) (w : World) (hO : OpsT w) (hT : LevelsT w) (hl : Sees w A 1 c 1 (intCells ts)) (hb : ts.any noType = false) :
  Calls Tryz.prog 183 #[.string ⟨#[108, 101, 110]⟩, .slice A 1 c] w (RuleSays (if fitsGrp 2 ts = true then typeGrp 2 ts else 0) (if fitsGrp 2 ts = true then 0 else 8) w) := by
 have HO := Lib.hid hO
 have HL := Lib.hid hl
 have HT := Lib.hid hT
 have H := Lib.hid (show Lib.containsS opsB ⟨#[108, 101, 110]⟩ = true by decide)
 have HB := Lib.hid hb
 have HK := Lib.hid (show arityOf ⟨#[108, 101, 110]⟩ = 1 by decide)
 have hm := hl.2.1
 have HF := Lib.hid (show fitsGrp 2 ts = allThe ts 3 from rfl)
 rw [HF.out]
 clear HF hO hl hb hT
 generalize hf : allThe ts 3 = b
 have E := Lib.hid hf
 clear hf
 cases b
 all_goals
  go_enter Tryz.func183, Tryz.ntmps183
  go_wp2_with (first
   | (go_at_call 120; refine (contains_any _ _ _ _ _ _ HO.out).mono ?_; rintro e w' ⟨rfl, rfl⟩; rw [H.out])
   | (go_at_call 218; refine (any_noType _ _ _ _ _ HL.out).mono ?_; rintro e w' ⟨rfl, rfl⟩; rw [HB.out])
   | (go_at_call 212; refine (arity_any _ _ HT.out).mono ?_; rintro e w' ⟨rfl, rfl⟩; rw [HK.out]))
  refine (all_any ts _ _ _ _ _ HL.out).mono ?_
  rintro e w1 ⟨rfl, hb1⟩
  rw [E.out]
  go_wp2_with fail
  go_ret2
  exact ⟨rfl, hb1⟩
set_option maxHeartbeats 2000000 in
theorem rule_if (ts : List Int) (A : Option Addr) (c : Nat) (w : World) (hO : OpsT w) (hT : LevelsT w) (hl : Sees w A 3 c 1 (intCells ts)) (hb : ts.any noType = false) :
  Calls Tryz.prog 183 #[.string ⟨#[105, 102]⟩, .slice A 3 c] w (RuleSays (if fitsGrp 3 ts = true then typeGrp 3 ts else 0) (if fitsGrp 3 ts = true then 0 else 8) w) := by
 have HO := Lib.hid hO
 have HL := Lib.hid hl
 have HT := Lib.hid hT
 have H := Lib.hid (show Lib.containsS opsB ⟨#[105, 102]⟩ = true by decide)
 have HB := Lib.hid hb
 have HK := Lib.hid (show arityOf ⟨#[105, 102]⟩ = 3 by decide)
 have hm := hl.2.1
 obtain ⟨g, o, x, rfl, hx, c0⟩ := ints_at hl (k := 0) (by omega)
 rw [Nat.add_zero] at c0
 obtain ⟨g', o', y, e, hy, c1⟩ := ints_at hl (k := 1) (by omega)
 cases e
 obtain ⟨g', o', z, e, hz, c2⟩ := ints_at hl (k := 2) (by omega)
 cases e
 rw [show fitsGrp 3 ts = ((x == 2) && (y == z)) by unfold fitsGrp; simp [List.getD, hx, hy, hz], show typeGrp 3 ts = y by unfold typeGrp; simp [List.getD, hy]]
 clear hO hl hb hT hx hy hz
 by_cases hx2 : x = 2
 ·subst hx2
  by_cases hyz : y = z
  ·have e1 : (y == z) = true := by simpa using hyz
   rw [e1]
   clear hyz
   go_enter Tryz.func183, Tryz.ntmps183
   go_wp2_with (first
   | (go_at_call 120; refine (contains_any _ _ _ _ _ _ HO.out).mono ?_; rintro e w' ⟨rfl, rfl⟩; rw [H.out])
   | (go_at_call 218; refine (any_noType _ _ _ _ _ HL.out).mono ?_; rintro e w' ⟨rfl, rfl⟩; rw [HB.out])
   | (go_at_call 212; refine (arity_any _ _ HT.out).mono ?_; rintro e w' ⟨rfl, rfl⟩; rw [HK.out]))
   go_quiet (fail)
   go_wp2_with fail
   go_ret2
   exact ⟨rfl, below_drewN (Below.refl _ _) nq⟩
  ·have e1 : (y == z) = false := by simpa using hyz
   rw [e1]
   clear hyz
   go_enter Tryz.func183, Tryz.ntmps183
   go_wp2_with (first
   | (go_at_call 120; refine (contains_any _ _ _ _ _ _ HO.out).mono ?_; rintro e w' ⟨rfl, rfl⟩; rw [H.out])
   | (go_at_call 218; refine (any_noType _ _ _ _ _ HL.out).mono ?_; rintro e w' ⟨rfl, rfl⟩; rw [HB.out])
   | (go_at_call 212; refine (arity_any _ _ HT.out).mono ?_; rintro e w' ⟨rfl, rfl⟩; rw [HK.out]))
   go_quiet (fail)
   go_wp2_with fail
   go_ret2
   exact ⟨rfl, below_drewN (Below.refl _ _) nq⟩
 ·have e1 : (x == 2) = false := by simpa using hx2
  rw [e1]
  clear hx2
  go_enter Tryz.func183, Tryz.ntmps183
  go_wp2_with (first
   | (go_at_call 120; refine (contains_any _ _ _ _ _ _ HO.out).mono ?_; rintro e w' ⟨rfl, rfl⟩; rw [H.out])
   | (go_at_call 218; refine (any_noType _ _ _ _ _ HL.out).mono ?_; rintro e w' ⟨rfl, rfl⟩; rw [HB.out])
   | (go_at_call 212; refine (arity_any _ _ HT.out).mono ?_; rintro e w' ⟨rfl, rfl⟩; rw [HK.out]))
  go_quiet (fail)
  go_wp2_with fail
  go_ret2
  exact ⟨rfl, below_drewN (Below.refl _ _) nq⟩
theorem ops_cases {s : ByteArray} (h : isOpB s = true) : s = ⟨#[111, 114]⟩ ∨ s = ⟨#[97, 110, 100]⟩ ∨ s = ⟨#[110, 111, 116]⟩ ∨ s = ⟨#[61]⟩ ∨ s = ⟨#[60, 62]⟩ ∨ s = ⟨#[60]⟩ ∨ s = ⟨#[60, 61]⟩ ∨ s = ⟨#[62]⟩ ∨ s = ⟨#[62, 61]⟩ ∨ s = ⟨#[43]⟩ ∨ s = ⟨#[45]⟩ ∨ s = ⟨#[42]⟩ ∨ s = ⟨#[47]⟩ ∨ s = ⟨#[37]⟩ ∨ s = ⟨#[110, 101, 103]⟩ ∨ s = ⟨#[108, 101, 110]⟩ ∨ s = ⟨#[105, 102]⟩ := by
 have := (Lib.containsS_iff opsB s).1 h
 simpa [opsB, opsL, mkB] using this
theorem rule_any (s : ByteArray) (ts : List Int) (A : Option Addr) (n c : Nat) (w : World) (hO : OpsT w) (hT : LevelsT w) (hl : Sees w A n c 1 (intCells ts)) :
  Calls Tryz.prog 183 #[.string s, .slice A n c] w (RuleSays (ruleTy s ts) (ruleErr s ts) w) := by
 have hn := intCells_len hl
 by_cases h1 : isOpB s = true
 ·cases h2 : ts.any noType with
  | true =>
   have e : ruleErr s ts = 1 := by unfold ruleErr; rw [if_pos (Or.inr h2)]
   unfold ruleTy; rw [e, if_neg (by decide)]
   exact rule_bad s ts A n c w hO hl h1 h2
  | false =>
   by_cases h3 : (ts.length : Int) = arityOf s
   ·have e : ruleErr s ts = if fitsGrp (grp s) ts = true then 0 else 8 := by
     unfold ruleErr; rw [if_neg (by simp [h1, h2]), if_neg (by simpa using h3)]
    have e2 : ruleTy s ts = if fitsGrp (grp s) ts = true then typeGrp (grp s) ts else 0 := by
     unfold ruleTy; rw [e]; by_cases hf : fitsGrp (grp s) ts = true <;> simp [hf]
    rw [e, e2]
    clear e e2
    rw [hn] at h3
    rcases ops_cases h1 with rfl | rfl | rfl | rfl | rfl | rfl | rfl | rfl | rfl | rfl | rfl | rfl | rfl | rfl | rfl | rfl | rfl
    ·rw [show arityOf ⟨#[111, 114]⟩ = 2 by decide] at h3
     obtain rfl : n = 2 := by omega
     exact rule_or ts A c w hO hT hl h2
    ·rw [show arityOf ⟨#[97, 110, 100]⟩ = 2 by decide] at h3
     obtain rfl : n = 2 := by omega
     exact rule_and ts A c w hO hT hl h2
    ·rw [show arityOf ⟨#[110, 111, 116]⟩ = 1 by decide] at h3
     obtain rfl : n = 1 := by omega
     exact rule_not ts A c w hO hT hl h2
    ·rw [show arityOf ⟨#[61]⟩ = 2 by decide] at h3
     obtain rfl : n = 2 := by omega
     exact rule_eq ts A c w hO hT hl h2
    ·rw [show arityOf ⟨#[60, 62]⟩ = 2 by decide] at h3
     obtain rfl : n = 2 := by omega
     exact rule_ne ts A c w hO hT hl h2
    ·rw [show arityOf ⟨#[60]⟩ = 2 by decide] at h3
     obtain rfl : n = 2 := by omega
     exact rule_lt ts A c w hO hT hl h2
    ·rw [show arityOf ⟨#[60, 61]⟩ = 2 by decide] at h3
     obtain rfl : n = 2 := by omega
     exact rule_le ts A c w hO hT hl h2
    ·rw [show arityOf ⟨#[62]⟩ = 2 by decide] at h3
     obtain rfl : n = 2 := by omega
     exact rule_gt ts A c w hO hT hl h2
    ·rw [show arityOf ⟨#[62, 61]⟩ = 2 by decide] at h3
     obtain rfl : n = 2 := by omega
     exact rule_ge ts A c w hO hT hl h2
    ·rw [show arityOf ⟨#[43]⟩ = 2 by decide] at h3
     obtain rfl : n = 2 := by omega
     exact rule_add ts A c w hO hT hl h2
    ·rw [show arityOf ⟨#[45]⟩ = 2 by decide] at h3
     obtain rfl : n = 2 := by omega
     exact rule_sub ts A c w hO hT hl h2
    ·rw [show arityOf ⟨#[42]⟩ = 2 by decide] at h3
     obtain rfl : n = 2 := by omega
     exact rule_mul ts A c w hO hT hl h2
    ·rw [show arityOf ⟨#[47]⟩ = 2 by decide] at h3
     obtain rfl : n = 2 := by omega
     exact rule_div ts A c w hO hT hl h2
    ·rw [show arityOf ⟨#[37]⟩ = 2 by decide] at h3
     obtain rfl : n = 2 := by omega
     exact rule_rem ts A c w hO hT hl h2
    ·rw [show arityOf ⟨#[110, 101, 103]⟩ = 1 by decide] at h3
     obtain rfl : n = 1 := by omega
     exact rule_neg ts A c w hO hT hl h2
    ·rw [show arityOf ⟨#[108, 101, 110]⟩ = 1 by decide] at h3
     obtain rfl : n = 1 := by omega
     exact rule_len ts A c w hO hT hl h2
    ·rw [show arityOf ⟨#[105, 102]⟩ = 3 by decide] at h3
     obtain rfl : n = 3 := by omega
     exact rule_if ts A c w hO hT hl h2
   ·have e : ruleErr s ts = 3 := by unfold ruleErr; rw [if_neg (by simp [h1, h2]), if_pos h3]
    unfold ruleTy; rw [e, if_neg (by decide)]
    exact rule_shape s ts A n c w hO hT hl h1 h2 h3
 ·have h1' : isOpB s = false := by simpa using h1
  have e : ruleErr s ts = 1 := by unfold ruleErr; rw [if_pos (Or.inl h1')]
  unfold ruleTy; rw [e, if_neg (by decide)]
  exact rule_no s A n c w hO h1'
end Go.Proofs.YtpbbkpfaphjdoaaGreatDoor
