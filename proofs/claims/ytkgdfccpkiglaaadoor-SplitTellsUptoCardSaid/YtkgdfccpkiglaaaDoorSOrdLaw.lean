/- agg.of, agg.Total.plus, agg.Total.value, walked: numbers of 128 bits. agg.One: how one aggregate lies; (One).sort, (*Acc).Count's kind of cell: walked. Memory of an accumulator: what only some blocks may change; the row of its aggregates; sums and edges stored in it. Aggregates, plain: what adding a row, joining, telling come to. No program in sight. sluiceref1.Order, walked, of two values that are right and of one type; sluicesame.Vals over two lists that are the same. Values are in one order, plain. -/
import Derived.Test.YtkgdfccpkiglaaaDoorSShelf
import Derived.Test.YtkgdfccpkiglaaaDoorSWords
import Derived.IntWalk
import Derived.Laws.Externs
import Derived.StillTailTactics
import Derived.Deep.QuietTactic
import Derived.BigQuiet
import Derived.Deep.RegionHeld3
import Derived.Test.YtkgdfccpkiglaaaDoorSVals
import Derived.Test.YtkgdfccpkiglaaaDoorSOnly
namespace Go.Proofs.YtkgdfccpkiglaaaDoor
open Go.ChangeShapes Go.WideShapes Go.ChangeAt Go.RowKit
def fits64 (t : Int) : Prop := -9223372036854775808 ≤ t ∧ t ≤ 9223372036854775807
instance (t : Int) : Decidable (fits64 t) := inferInstanceAs (Decidable (_ ∧ _))
end Go.Proofs.YtkgdfccpkiglaaaDoor
namespace Go.Proofs.YtkgdfccpkiglaaaDoor
open Go.ChangeShapes Go.WideShapes Go.ChangeAt Go.RowKit
structure One where
 what : ByteArray
 type : Int
 sum : Int
 edge : Val
def isCount (s : ByteArray) : Prop := s.data.toList = [99, 111, 117, 110, 116]
instance (s : ByteArray) : Decidable (isCount s) := inferInstanceAs (Decidable (_ = _))
end Go.Proofs.YtkgdfccpkiglaaaDoor
namespace Go.Proofs.YtkgdfccpkiglaaaDoor
open Go.ChangeShapes Go.WideShapes Go.ChangeAt Go.RowKit
section
variable {w : World} {B g cap k : Nat} {l : List One} {o : One}
end
end Go.Proofs.YtkgdfccpkiglaaaDoor
namespace Go.Proofs.YtkgdfccpkiglaaaDoor
open Go.RowKit
theorem cb_anti : ∀ a b : List UInt8, Lib.compareBytes b a = - Lib.compareBytes a b
 | [], [] => rfl
 | [], _ :: _ => rfl
 | _ :: _, [] => rfl
 | a :: l1, b :: l2 => by
  rw [Lib.compareBytes, Lib.compareBytes]
  by_cases h1 : a < b
  ·have h2 : ¬ b < a := by simp only [UInt8.lt_iff_toNat_lt] at *; omega
   rw [if_pos h1, if_neg h2, if_pos h1]; rfl
  ·by_cases h2 : b < a
   ·rw [if_pos h2, if_neg h1, if_pos h2]
   ·rw [if_neg h2, if_neg h1, if_neg h1, if_neg h2, cb_anti l1 l2]
theorem cb_zero : ∀ {a b : List UInt8}, Lib.compareBytes a b = 0 → a = b
 | [], [], _ => rfl
 | [], _ :: _, h => by simp [Lib.compareBytes] at h
 | _ :: _, [], h => by simp [Lib.compareBytes] at h
 | a :: l1, b :: l2, h => by
  rw [Lib.compareBytes] at h
  by_cases h1 : a < b
  ·rw [if_pos h1] at h; omega
  ·by_cases h2 : b < a
   ·rw [if_neg h1, if_pos h2] at h; omega
   ·rw [if_neg h1, if_neg h2] at h
    have : a = b := by
     apply UInt8.toNat_inj.1
     simp only [UInt8.lt_iff_toNat_lt] at *; omega
    rw [this, cb_zero h]
structure Kd where
 what : ByteArray
 type : Int
def isSum (s : ByteArray) : Prop := s.data.toList = [115, 117, 109]
instance (s : ByteArray) : Decidable (isSum s) := inferInstanceAs (Decidable (_ = _))
section
variable {α : Type} {f : One → α → One} {l : List One} {r : List α} {j : Nat} {o : One} {x : α}
end
end Go.Proofs.YtkgdfccpkiglaaaDoor
namespace Go.Proofs.YtkgdfccpkiglaaaDoor
open Go.ChangeShapes Go.WideShapes Go.ChangeAt Go.RowKit
theorem right_parts {v : Val} (h : vcheck v = 0) : (v.type = 3 ∧ v.n = 0) ∨ (v.type ≠ 3 ∧ v.s.data.toList = []) := by
 unfold vcheck at h
 by_cases h1 : v.type = 1
 ·rw [if_pos h1] at h
  right
  refine ⟨by omega, ?_⟩
  split at h
  ·assumption
  ·omega
 ·rw [if_neg h1] at h
  by_cases h2 : v.type = 2
  ·rw [if_pos h2] at h
   right
   refine ⟨by omega, ?_⟩
   split at h
   ·split at h
    ·assumption
    ·omega
   ·omega
  ·rw [if_neg h2] at h
   by_cases h3 : v.type = 3
   ·rw [if_pos h3] at h
    left
    refine ⟨h3, ?_⟩
    split at h
    ·omega
    ·split at h
     ·omega
     ·split at h
      ·omega
      ·omega
   ·rw [if_neg h3] at h; omega
set_option maxHeartbeats 1000000 in
theorem rorder_num (a b : Val) (w : World) (ha : a.s.data.toList = []) (hb : b.s.data.toList = []) :
  Calls Tryd.prog 29 #[.agg #[.int .i64 a.type, .int .i64 a.n, .string a.s], .agg #[.int .i64 b.type, .int .i64 b.n, .string b.s]] w fun e w' => e = .returned (.int .i64 (Lib.compareInt a.n b.n)) ∧ Below w.heap.size w w' := by
 obtain ⟨t, n, s⟩ := a
 obtain ⟨t2, m, s2⟩ := b
 have hs : s = ⟨#[]⟩ := Go.WideShapes.bytes_inj ha
 have hs2 : s2 = ⟨#[]⟩ := Go.WideShapes.bytes_inj hb
 subst hs hs2
 clear ha hb
 show Calls Tryd.prog 29 #[.agg #[.int .i64 t, .int .i64 n, .string ⟨#[]⟩], .agg #[.int .i64 t2, .int .i64 m, .string ⟨#[]⟩]] w fun e w' => e = .returned (.int .i64 (Lib.compareInt n m)) ∧ Below w.heap.size w w'
 generalize hc : Lib.compareInt n m = c
 unfold Lib.compareInt at hc
 by_cases h1 : n < m
 ·have d1 : decide (n < m) = true := decide_eq_true h1
  rw [if_pos h1] at hc
  have HC := Lib.hid hc
  clear hc h1
  go_enter Tryd.func29, Tryd.ntmps29
  go_wp2_with fail
  go_ret
  exact ⟨by rw [← HC.out]; rfl, ((Below.refl _ _).alloc (Nat.le_refl _) _).alloc (by simp) _⟩
 ·have d1 : decide (n < m) = false := decide_eq_false h1
  rw [if_neg h1] at hc
  by_cases h2 : m < n
  ·have d2 : decide (m < n) = true := decide_eq_true h2
   rw [if_pos h2] at hc
   have HC := Lib.hid hc
   clear hc h1 h2
   go_enter Tryd.func29, Tryd.ntmps29
   go_wp2_with fail
   go_ret
   exact ⟨by rw [← HC.out]; rfl, ((Below.refl _ _).alloc (Nat.le_refl _) _).alloc (by simp) _⟩
  ·have d2 : decide (m < n) = false := decide_eq_false h2
   rw [if_neg h2] at hc
   have HC := Lib.hid hc
   clear hc h1 h2
   go_enter Tryd.func29, Tryd.ntmps29
   go_wp2_with fail
   go_ret
   exact ⟨by rw [← HC.out]; rfl, ((Below.refl _ _).alloc (Nat.le_refl _) _).alloc (by simp) _⟩
theorem less_cb : ∀ a b : List UInt8, Op.bytesLess a b = decide (Lib.compareBytes a b < 0)
 | [], [] => rfl
 | [], _ :: _ => rfl
 | _ :: _, [] => rfl
 | a :: l, b :: m => by
  rw [Op.bytesLess, Lib.compareBytes]
  by_cases h1 : a < b
  ·simp [h1]
  ·by_cases h2 : b < a
   ·have : ¬ a = b := fun e => by subst e; exact h1 h2
    simp [h1, h2, this]
   ·have : a = b := by
     apply UInt8.toNat_inj.1
     simp only [UInt8.lt_iff_toNat_lt] at *; omega
    subst this
    simp [less_cb l m]
theorem less_eq {a b : List UInt8} (h : Op.bytesLess a b = false) : (a == b) = !Op.bytesLess b a := by
 rw [less_cb] at h ⊢
 have h1 := cb_anti a b
 by_cases e : a = b
 ·subst e
  have : (a == a) = true := by simp
  rw [this, h]; rfl
 ·have e1 : (a == b) = false := by simpa using e
  have : Lib.compareBytes a b ≠ 0 := fun k => e (cb_zero k)
  have h2 : ¬ Lib.compareBytes a b < 0 := by simpa using h
  rw [e1, decide_eq_true (by omega)]; rfl
set_option maxHeartbeats 1000000 in
theorem rorder_text (a b : Val) (w : World) (ha : a.n = 0) (hb : b.n = 0) (bl bg : Bool) (hl : Op.bytesLess a.s.toList b.s.toList = bl) (hg : Op.bytesLess b.s.toList a.s.toList = bg) :
  Calls Tryd.prog 29 #[.agg #[.int .i64 a.type, .int .i64 a.n, .string a.s], .agg #[.int .i64 b.type, .int .i64 b.n, .string b.s]] w fun e w' => e = .returned (.int .i64 (if bl then -1 else if bg then 1 else 0)) ∧ Below w.heap.size w w' := by
 obtain ⟨t, n, s⟩ := a
 obtain ⟨t2, m, s2⟩ := b
 simp only at ha hb hl hg
 subst ha hb
 have he : bl = false → (s.toList == s2.toList) = !bg := fun e => by rw [← hg]; exact less_eq (hl.trans e)
 show Calls Tryd.prog 29 #[.agg #[.int .i64 t, .int .i64 0, .string s], .agg #[.int .i64 t2, .int .i64 0, .string s2]] w _
 cases bl with
 | true =>
  go_enter Tryd.func29, Tryd.ntmps29
  go_wp2_with fail
  go_ret
  exact ⟨rfl, ((Below.refl _ _).alloc (Nat.le_refl _) _).alloc (by simp) _⟩
 | false =>
  cases bg with
  | true =>
   have he1 : (s.toList == s2.toList) = false := he rfl
   clear he
   go_enter Tryd.func29, Tryd.ntmps29
   go_wp2_with fail
   go_ret
   exact ⟨rfl, ((Below.refl _ _).alloc (Nat.le_refl _) _).alloc (by simp) _⟩
  | false =>
   have he1 : (s.toList == s2.toList) = true := he rfl
   clear he
   go_enter Tryd.func29, Tryd.ntmps29
   go_wp2_with fail
   go_ret
   exact ⟨rfl, ((Below.refl _ _).alloc (Nat.le_refl _) _).alloc (by simp) _⟩
theorem cb_sign : ∀ a b : List UInt8, (if decide (Lib.compareBytes a b < 0) then (-1 : Int) else if decide (Lib.compareBytes b a < 0) then 1 else 0) = Lib.compareBytes a b
 | [], [] => rfl
 | [], _ :: _ => rfl
 | _ :: _, [] => rfl
 | a :: l, b :: m => by
  rw [Lib.compareBytes, Lib.compareBytes]
  by_cases h1 : a < b
  ·simp [h1]
  ·by_cases h2 : b < a
   ·simp [h1, h2]
   ·simp only [h1, h2, if_false]; exact cb_sign l m
theorem rorder_any (a b : Val) (w : World) (ha : vcheck a = 0) (hb : vcheck b = 0) (ht : a.type = b.type) :
  Calls Tryd.prog 29 #[.agg #[.int .i64 a.type, .int .i64 a.n, .string a.s], .agg #[.int .i64 b.type, .int .i64 b.n, .string b.s]] w fun e w' => e = .returned (.int .i64 (vorder a b)) ∧ Below w.heap.size w w' := by
 rcases right_parts ha with ⟨h3, hn⟩ | ⟨h3, hs⟩
 ·rcases right_parts hb with ⟨_, hm⟩ | ⟨k3, _⟩
  ·have := rorder_text a b w hn hm _ _ rfl rfl
   rw [Lib.toList_data, Lib.toList_data, less_cb, less_cb, cb_sign] at this
   unfold vorder
   rw [if_pos h3]
   exact this
  ·exact absurd (ht.symm.trans h3) k3
 ·rcases right_parts hb with ⟨k3, _⟩ | ⟨_, hs2⟩
  ·exact absurd (ht.trans k3) h3
  ·unfold vorder
   rw [if_neg h3]
   exact rorder_num a b w hs hs2
set_option maxHeartbeats 1000000 in
theorem sameVals_any (A E : Option Addr) (n c d : Nat) (l : List Val) (w : World) (hl : SeesVals w A n c l) (hm : SeesVals w E n d l) :
  Calls Tryd.prog 25 #[.slice A n c, .slice E n d] w fun e w' => e = .returned (.bool true) ∧ Below w.heap.size w w' := by
 have HL := Lib.hid hl
 have HM := Lib.hid hm
 have hcap := hl.2.2.1
 have hmax := hl.2.2.2.1
 have hcap2 := hm.2.2.1
 have hmax2 := hm.2.2.2.1
 unfold maxLen at hmax hmax2
 have e0 : ((n : Int) != n) = false := by simp
 clear hl hm
 go_enter Tryd.func25, Tryd.ntmps25
 go_wp2_with fail
 go_loopw [5] (fun i wr => ∃ k : Nat, k ≤ n ∧ i = .int .i64 k ∧ Below w.heap.size w wr) (fun i _ => n - (intOf i).toNat)
 case atStart => exact ⟨0, by omega, rfl, Below.refl _ _⟩
 case round =>
  obtain ⟨k, hk, rfl, hb⟩ := hrel
  have HB := Lib.hid hb
  by_cases hlk : k < n
  ·obtain ⟨g, o, x, rfl, -, hx, a0, a1, a2⟩ := (HL.out.keep hb).at_ hlk
   obtain ⟨g2, o2, y, rfl, -, hy, b0, b1, b2⟩ := (HM.out.keep hb).at_ hlk
   obtain rfl : x = y := by rw [hx] at hy; exact Option.some.inj hy
   clear hb hx hy
   go_wp2_with fail
   go_quiet (fail)
   go_wp2_with fail
   go_roundw
   case rel => exact ⟨k + 1, by omega, by go_num, below_drewN HB.out nq⟩
   case measure => simp [intOf]; omega
  ·clear hb
   go_wp2_with fail
   go_ret
   exact ⟨rfl, HB.out⟩
end Go.Proofs.YtkgdfccpkiglaaaDoor
namespace Go.Proofs.YtkgdfccpkiglaaaDoor
theorem u8_lt {a b : UInt8} : a < b ↔ a.toNat < b.toNat := UInt8.lt_iff_toNat_lt
theorem ob_neg : ∀ a b : List UInt8, Lib.compareBytes b a = - Lib.compareBytes a b
 | [], [] => rfl
 | [], _ :: _ => rfl
 | _ :: _, [] => rfl
 | a :: p, b :: q => by
  rw [Lib.compareBytes, Lib.compareBytes]
  by_cases h1 : a < b
  ·have h2 : ¬ b < a := by rw [u8_lt] at h1 ⊢; omega
   simp [h1, h2]
  ·by_cases h2 : b < a
   ·simp [h1, h2]
   ·simp only [h1, h2, if_false]; exact ob_neg p q
theorem ob_zero : ∀ a b : List UInt8, Lib.compareBytes a b = 0 ↔ a = b
 | [], [] => by simp [Lib.compareBytes]
 | [], _ :: _ => by simp [Lib.compareBytes]
 | _ :: _, [] => by simp [Lib.compareBytes]
 | a :: p, b :: q => by
  rw [Lib.compareBytes]
  by_cases h1 : a < b
  ·have : a ≠ b := fun e => by rw [e, u8_lt] at h1; omega
   simp [h1, this]
  ·by_cases h2 : b < a
   ·have : a ≠ b := fun e => by rw [e, u8_lt] at h2; omega
    simp [h1, h2, this]
   ·have : a = b := UInt8.toNat_inj.1 (by rw [u8_lt] at h1 h2; omega)
    simp [this, ob_zero p q]
theorem ob_trans : ∀ a b c : List UInt8, Lib.compareBytes a b ≤ 0 → Lib.compareBytes b c ≤ 0 → Lib.compareBytes a c ≤ 0
 | [], _, [], _, _ => by simp [Lib.compareBytes]
 | [], _, _ :: _, _, _ => by simp [Lib.compareBytes]
 | _ :: _, [], _, h, _ => by simp [Lib.compareBytes] at h
 | _ :: _, _ :: _, [], _, h => by simp [Lib.compareBytes] at h
 | a :: p, b :: q, c :: r, h1, h2 => by
  rw [Lib.compareBytes] at h1 h2 ⊢
  by_cases p1 : a < b
  ·by_cases q1 : b < c
   ·have : a < c := by rw [u8_lt] at p1 q1 ⊢; omega
    simp [this]
   ·by_cases q2 : c < b
    ·simp [q1, q2] at h2
    ·have : a < c := by rw [u8_lt] at p1 q1 q2 ⊢; omega
     simp [this]
  ·by_cases p2 : b < a
   ·simp [p1, p2] at h1
   ·by_cases q1 : b < c
    ·have : a < c := by rw [u8_lt] at p1 p2 q1 ⊢; omega
     simp [this]
    ·by_cases q2 : c < b
     ·simp [q1, q2] at h2
     ·have r1 : ¬ a < c := by rw [u8_lt] at p1 p2 q1 q2 ⊢; omega
      have r2 : ¬ c < a := by rw [u8_lt] at p1 p2 q1 q2 ⊢; omega
      simp only [p1, p2, q1, q2, r1, r2, if_false] at h1 h2 ⊢
      exact ob_trans p q r h1 h2
def cmpErr (a b : Val) : Int := if vcheck a ≠ 0 then vcheck a else if vcheck b ≠ 0 then vcheck b else if a.type ≠ b.type then 8 else 0
theorem cmpErr_zero {a b : Val} (h : cmpErr a b = 0) : vcheck a = 0 ∧ vcheck b = 0 ∧ a.type = b.type := by
 unfold cmpErr at h
 split at h
 ·rename_i h1; exact (h1 h).elim
 rename_i h1
 split at h
 ·rename_i h2; exact (h2 h).elim
 rename_i h2
 split at h
 ·omega
 rename_i h3
 exact ⟨by simpa using h1, by simpa using h2, by simpa using h3⟩
theorem ord_neg {a b : Val} (h : a.type = b.type) : vorder b a = - vorder a b := by
 unfold vorder
 rw [← h]
 by_cases h3 : a.type = 3
 ·rw [if_pos h3, if_pos h3]; exact ob_neg _ _
 ·rw [if_neg h3, if_neg h3]; unfold Lib.compareInt; split <;> split <;> first | omega | (split <;> omega)
theorem toList_inj {s t : ByteArray} (h : s.data.toList = t.data.toList) : s = t := by
 obtain ⟨⟨a⟩⟩ := s; obtain ⟨⟨b⟩⟩ := t; simp at h; rw [h]
theorem ord_zero {a b : Val} (ha : vcheck a = 0) (hb : vcheck b = 0) (h : a.type = b.type) : vorder a b = 0 ↔ a = b := by
 obtain ⟨t, n, s⟩ := a
 obtain ⟨t2, n2, s2⟩ := b
 obtain rfl : t = t2 := h
 unfold vorder
 simp only
 by_cases h3 : t = 3
 ·rw [if_pos h3, ob_zero]
  rcases right_parts ha with ⟨_, h1⟩ | ⟨h1, _⟩
  ·rcases right_parts hb with ⟨_, h2⟩ | ⟨h2, _⟩
   ·simp only at h1 h2
    subst h1 h2
    exact ⟨fun e => by rw [toList_inj e], fun e => by injection e with _ _ e; rw [e]⟩
   ·exact (h2 h3).elim
  ·exact (h1 h3).elim
 ·rw [if_neg h3]
  rcases right_parts ha with ⟨h1, _⟩ | ⟨_, h1⟩
  ·exact (h3 h1).elim
  ·rcases right_parts hb with ⟨h2, _⟩ | ⟨_, h2⟩
   ·exact (h3 h2).elim
   ·have : s = s2 := toList_inj (by simp only at h1 h2; rw [h1, h2])
    subst this
    unfold Lib.compareInt
    constructor
    ·intro e
     have : n = n2 := by split at e <;> first | omega | (split at e <;> omega)
     rw [this]
    ·intro e
     injection e with _ e
     subst e
     simp
theorem ord_trans {a b c : Val} (h1 : a.type = b.type) (h3 : vorder a b ≤ 0) (h4 : vorder b c ≤ 0) : vorder a c ≤ 0 := by
 unfold vorder at h3 h4 ⊢
 rw [← h1] at h4
 by_cases h : a.type = 3
 ·rw [if_pos h] at h3 h4 ⊢; exact ob_trans _ _ _ h3 h4
 ·rw [if_neg h] at h3 h4 ⊢
  unfold Lib.compareInt at h3 h4 ⊢
  split
  ·omega
  ·split
   ·exfalso
    split at h3
    ·split at h4
     ·omega
     ·split at h4 <;> omega
    ·split at h3
     ·omega
     ·split at h4
      ·omega
      ·split at h4 <;> omega
   ·omega
end Go.Proofs.YtkgdfccpkiglaaaDoor
