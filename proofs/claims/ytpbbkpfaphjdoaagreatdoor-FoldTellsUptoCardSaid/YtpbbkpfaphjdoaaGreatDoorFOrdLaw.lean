/- agg.of, agg.Total.plus, agg.Total.value, walked: numbers of 128 bits. agg.One: how one aggregate lies; (One).sort, (*Acc).Count's kind of cell: walked. Memory of an accumulator: what only some blocks may change; the row of its aggregates; sums and edges stored in it. Aggregates, plain: what adding a row, joining, telling come to. No program in sight. sluiceref1.Order, walked, of two values that are right and of one type; sluicesame.Vals over two lists that are the same. Values are in one order, plain. -/
import Derived.Test.YtpbbkpfaphjdoaaGreatDoorFErr
import Derived.Test.YtpbbkpfaphjdoaaGreatDoorFWords
import Derived.IntWalk
import Derived.Laws.Externs
import Derived.StillTailTactics
import Derived.Deep.QuietTactic
import Derived.BigQuiet
import Derived.Deep.RegionHeld3
import Derived.Test.YtpbbkpfaphjdoaaGreatDoorFVals
import Derived.Test.YtpbbkpfaphjdoaaGreatDoorFOnly
namespace Go.Proofs.YtpbbkpfaphjdoaaGreatDoor
open Go.ChangeShapes Go.WideShapes Go.ChangeAt Go.RowKit
def fits64 (t : Int) : Prop := -9223372036854775808 ≤ t ∧ t ≤ 9223372036854775807
instance (t : Int) : Decidable (fits64 t) := inferInstanceAs (Decidable (_ ∧ _))
end Go.Proofs.YtpbbkpfaphjdoaaGreatDoor
namespace Go.Proofs.YtpbbkpfaphjdoaaGreatDoor
open Go.ChangeShapes Go.WideShapes Go.ChangeAt Go.RowKit
structure One where
 what : ByteArray
 type : Int
 sum : Int
 edge : Val
def isCount (s : ByteArray) : Prop := s.data.toList = [99, 111, 117, 110, 116]
instance (s : ByteArray) : Decidable (isCount s) := inferInstanceAs (Decidable (_ = _))
end Go.Proofs.YtpbbkpfaphjdoaaGreatDoor
namespace Go.Proofs.YtpbbkpfaphjdoaaGreatDoor
open Go.ChangeShapes Go.WideShapes Go.ChangeAt Go.RowKit
section
variable {w : World} {B g cap k : Nat} {l : List One} {o : One}
end
end Go.Proofs.YtpbbkpfaphjdoaaGreatDoor
namespace Go.Proofs.YtpbbkpfaphjdoaaGreatDoor
open Go.RowKit
theorem cb_anti : ∀ a b : List UInt8, Lib.compareBytes b a = - Lib.compareBytes a b
 | [], [] => rfl
 | [], _ :: _ => rfl
 | _ :: _, [] => rfl
 | a :: l1, b :: l2 => by
  rw [Lib.compareBytes, Lib.compareBytes]
  by_cases h1 : a < b
  ·have h2 : ¬ b < a := by simp only [UInt8.lt_iff_toNat_lt] at *; omega
   rw [if_pos h1, if_neg h2, if_pos h1]; rfl
  ·by_cases h2 : b < a
   ·rw [if_pos h2, if_neg h1, if_pos h2]
   ·rw [if_neg h2, if_neg h1, if_neg h1, if_neg h2, cb_anti l1 l2]
theorem cb_zero : ∀ {a b : List UInt8}, Lib.compareBytes a b = 0 → a = b
 | [], [], _ => rfl
 | [], _ :: _, h => by simp [Lib.compareBytes] at h
 | _ :: _, [], h => by simp [Lib.compareBytes] at h
 | a :: l1, b :: l2, h => by
  rw [Lib.compareBytes] at h
  by_cases h1 : a < b
  ·rw [if_pos h1] at h; omega
  ·by_cases h2 : b < a
   ·rw [if_neg h1, if_pos h2] at h; omega
   ·rw [if_neg h1, if_neg h2] at h
    have : a = b := by
     apply UInt8.toNat_inj.1
     simp only [UInt8.lt_iff_toNat_lt] at *; omega
    rw [this, cb_zero h]
structure Kd where
 what : ByteArray
 type : Int
def isSum (s : ByteArray) : Prop := s.data.toList = [115, 117, 109]
instance (s : ByteArray) : Decidable (isSum s) := inferInstanceAs (Decidable (_ = _))
section
variable {α : Type} {f : One → α → One} {l : List One} {r : List α} {j : Nat} {o : One} {x : α}
end
end Go.Proofs.YtpbbkpfaphjdoaaGreatDoor
namespace Go.Proofs.YtpbbkpfaphjdoaaGreatDoor
open Go.ChangeShapes Go.WideShapes Go.ChangeAt Go.RowKit
theorem right_parts {v : Val} (h : vcheck v = 0) : (v.type = 3 ∧ v.n = 0) ∨ (v.type ≠ 3 ∧ v.s.data.toList = []) := by
 unfold vcheck at h
 by_cases h1 : v.type = 1
 ·rw [if_pos h1] at h
  right
  refine ⟨by omega, ?_⟩
  split at h
  ·assumption
  ·omega
 ·rw [if_neg h1] at h
  by_cases h2 : v.type = 2
  ·rw [if_pos h2] at h
   right
   refine ⟨by omega, ?_⟩
   split at h
   ·split at h
    ·assumption
    ·omega
   ·omega
  ·rw [if_neg h2] at h
   by_cases h3 : v.type = 3
   ·rw [if_pos h3] at h
    left
    refine ⟨h3, ?_⟩
    split at h
    ·omega
    ·split at h
     ·omega
     ·split at h
      ·omega
      ·omega
   ·rw [if_neg h3] at h; omega
set_option maxHeartbeats 1000000 in
theorem rorder_num (a b : Val) (w : World) (ha : a.s.data.toList = []) (hb : b.s.data.toList = []) :
  Calls Tryz.prog 33 #[.agg #[.int .i64 a.type, .int .i64 a.n, .string a.s], .agg #[.int .i64 b.type, .int .i64 b.n, .string b.s]] w fun e w' => e = .returned (.int .i64 (Lib.compareInt a.n b.n)) ∧ Below w.heap.size w w' := by
 obtain ⟨t, n, s⟩ := a
 obtain ⟨t2, m, s2⟩ := b
 have hs : s = ⟨#[]⟩ := Go.WideShapes.bytes_inj ha
 have hs2 : s2 = ⟨#[]⟩ := Go.WideShapes.bytes_inj hb
 subst hs hs2
 clear ha hb
 show Calls Tryz.prog 33 #[.agg #[.int .i64 t, .int .i64 n, .string ⟨#[]⟩], .agg #[.int .i64 t2, .int .i64 m, .string ⟨#[]⟩]] w fun e w' => e = .returned (.int .i64 (Lib.compareInt n m)) ∧ Below w.heap.size w w'
 generalize hc : Lib.compareInt n m = c
 unfold Lib.compareInt at hc
 by_cases h1 : n < m
 ·have d1 : decide (n < m) = true := decide_eq_true h1
  rw [if_pos h1] at hc
  have HC := Lib.hid hc
  clear hc h1
  go_enter Tryz.func33, Tryz.ntmps33
  go_wp2_with fail
  go_ret
  exact ⟨by rw [← HC.out]; rfl, ((Below.refl _ _).alloc (Nat.le_refl _) _).alloc (by simp) _⟩
 ·have d1 : decide (n < m) = false := decide_eq_false h1
  rw [if_neg h1] at hc
  by_cases h2 : m < n
  ·have d2 : decide (m < n) = true := decide_eq_true h2
   rw [if_pos h2] at hc
   have HC := Lib.hid hc
   clear hc h1 h2
   go_enter Tryz.func33, Tryz.ntmps33
   go_wp2_with fail
   go_ret
   exact ⟨by rw [← HC.out]; rfl, ((Below.refl _ _).alloc (Nat.le_refl _) _).alloc (by simp) _⟩
  ·have d2 : decide (m < n) = false := decide_eq_false h2
   rw [if_neg h2] at hc
   have HC := Lib.hid hc
   clear hc h1 h2
   go_enter Tryz.func33, Tryz.ntmps33
   go_wp2_with fail
   go_ret
   exact ⟨by rw [← HC.out]; rfl, ((Below.refl _ _).alloc (Nat.le_refl _) _).alloc (by simp) _⟩
theorem less_cb : ∀ a b : List UInt8, Op.bytesLess a b = decide (Lib.compareBytes a b < 0)
 | [], [] => rfl
 | [], _ :: _ => rfl
 | _ :: _, [] => rfl
 | a :: l, b :: m => by
  rw [Op.bytesLess, Lib.compareBytes]
  by_cases h1 : a < b
  ·simp [h1]
  ·by_cases h2 : b < a
   ·have : ¬ a = b := fun e => by subst e; exact h1 h2
    simp [h1, h2, this]
   ·have : a = b := by
     apply UInt8.toNat_inj.1
     simp only [UInt8.lt_iff_toNat_lt] at *; omega
    subst this
    simp [less_cb l m]
theorem less_eq {a b : List UInt8} (h : Op.bytesLess a b = false) : (a == b) = !Op.bytesLess b a := by
 rw [less_cb] at h ⊢
 have h1 := cb_anti a b
 by_cases e : a = b
 ·subst e
  have : (a == a) = true := by simp
  rw [this, h]; rfl
 ·have e1 : (a == b) = false := by simpa using e
  have : Lib.compareBytes a b ≠ 0 := fun k => e (cb_zero k)
  have h2 : ¬ Lib.compareBytes a b < 0 := by simpa using h
  rw [e1, decide_eq_true (by omega)]; rfl
set_option maxHeartbeats 1000000 in
theorem rorder_text (a b : Val) (w : World) (ha : a.n = 0) (hb : b.n = 0) (bl bg : Bool) (hl : Op.bytesLess a.s.toList b.s.toList = bl) (hg : Op.bytesLess b.s.toList a.s.toList = bg) :
  Calls Tryz.prog 33 #[.agg #[.int .i64 a.type, .int .i64 a.n, .string a.s], .agg #[.int .i64 b.type, .int .i64 b.n, .string b.s]] w fun e w' => e = .returned (.int .i64 (if bl then -1 else if bg then 1 else 0)) ∧ Below w.heap.size w w' := by
 obtain ⟨t, n, s⟩ := a
 obtain ⟨t2, m, s2⟩ := b
 simp only at ha hb hl hg
 subst ha hb
 have he : bl = false → (s.toList == s2.toList) = !bg := fun e => by rw [← hg]; exact less_eq (hl.trans e)
 show Calls Tryz.prog 33 #[.agg #[.int .i64 t, .int .i64 0, .string s], .agg #[.int .i64 t2, .int .i64 0, .string s2]] w _
 cases bl with
 | true =>
  go_enter Tryz.func33, Tryz.ntmps33
  go_wp2_with fail
  go_ret
  exact ⟨rfl, ((Below.refl _ _).alloc (Nat.le_refl _) _).alloc (by simp) _⟩
 | false =>
  cases bg with
  | true =>
   have he1 : (s.toList == s2.toList) = false := he rfl
   clear he
   go_enter Tryz.func33, Tryz.ntmps33
   go_wp2_with fail
   go_ret
   exact ⟨rfl, ((Below.refl _ _).alloc (Nat.le_refl _) _).alloc (by simp) _⟩
  | false =>
   have he1 : (s.toList == s2.toList) = true := he rfl
   clear he
   go_enter Tryz.func33, Tryz.ntmps33
   go_wp2_with fail
   go_ret
   exact ⟨rfl, ((Below.refl _ _).alloc (Nat.le_refl _) _).alloc (by simp) _⟩
theorem cb_sign : ∀ a b : List UInt8, (if decide (Lib.compareBytes a b < 0) then (-1 : Int) else if decide (Lib.compareBytes b a < 0) then 1 else 0) = Lib.compareBytes a b
 | [], [] => rfl
 | [], _ :: _ => rfl
 | _ :: _, [] => rfl
 | a :: l, b :: m => by
  rw [Lib.compareBytes, Lib.compareBytes]
  by_cases h1 : a < b
  ·simp [h1]
  ·by_cases h2 : b < a
   ·simp [h1, h2]
   ·simp only [h1, h2, if_false]; exact cb_sign l m
theorem rorder_any (a b : Val) (w : World) (ha : vcheck a = 0) (hb : vcheck b = 0) (ht : a.type = b.type) :
  Calls Tryz.prog 33 #[.agg #[.int .i64 a.type, .int .i64 a.n, .string a.s], .agg #[.int .i64 b.type, .int .i64 b.n, .string b.s]] w fun e w' => e = .returned (.int .i64 (vorder a b)) ∧ Below w.heap.size w w' := by
 rcases right_parts ha with ⟨h3, hn⟩ | ⟨h3, hs⟩
 ·rcases right_parts hb with ⟨_, hm⟩ | ⟨k3, _⟩
  ·have := rorder_text a b w hn hm _ _ rfl rfl
   rw [Lib.toList_data, Lib.toList_data, less_cb, less_cb, cb_sign] at this
   unfold vorder
   rw [if_pos h3]
   exact this
  ·exact absurd (ht.symm.trans h3) k3
 ·rcases right_parts hb with ⟨k3, _⟩ | ⟨_, hs2⟩
  ·exact absurd (ht.trans k3) h3
  ·unfold vorder
   rw [if_neg h3]
   exact rorder_num a b w hs hs2
end Go.Proofs.YtpbbkpfaphjdoaaGreatDoor
namespace Go.Proofs.YtpbbkpfaphjdoaaGreatDoor
end Go.Proofs.YtpbbkpfaphjdoaaGreatDoor
