/- '[]byte(s)' in a walk: what it makes shows s's bytes. No program in sight. row.Name, walked. -/
import Derived.Test.YtpbbkpfaphjdoaaGreatDoorFWords
import Derived.Laws.IdiomStrings
import Derived.Lib.Strings
namespace Go.Proofs.YtpbbkpfaphjdoaaGreatDoor
open Go.RowKit
def byteCells (l : List UInt8) : List Value := l.map fun b => .int .u8 (b.toNat : Int)
theorem byteCells_get {l : List UInt8} {k : Nat} (h : k < l.length) : (byteCells l)[k]? = some (.int .u8 (l[k].toNat : Int)) := by
 unfold byteCells; rw [List.getElem?_map, List.getElem?_eq_getElem h]; rfl
theorem byteCells_at {l : List UInt8} {k : Nat} {b : UInt8} (h : l[k]? = some b) : (byteCells l)[k]? = some (.int .u8 (b.toNat : Int)) := by
 unfold byteCells; rw [List.getElem?_map, h]; rfl
theorem bytes_conv {P : Program} (w : World) (src dst e : TypeId) (s : ByteArray) (hs : P.underlying src = some .string) (hd : P.underlying dst = some (.slice e)) (he : P.underlying e = some (.int .u8)) :
  ∃ (C : Array Value) (c m : Nat), (convert src dst (.string s)).run P w = .ok (.slice (some ⟨w.heap.size, 0, none⟩) s.size c) (w.drew.alloc (.cells C e (m, m + 1))) ∧
   (∀ k, k < s.data.toList.length → (w.alloc (.cells C e (m, m + 1))).cell? ⟨w.heap.size, k, none⟩ = (byteCells s.data.toList)[k]?) ∧ s.size ≤ c := by
 refine ⟨_, _, _, run_bytes_of_string w src dst e s hs hd he, fun k hk => ?_, grownCap_ge w _ 0 e⟩
 have h0 : (w.alloc (.cells (bytesRow s (grownCap w s.size 0 e)) e ((bytesRow s (grownCap w s.size 0 e)).size, (bytesRow s (grownCap w s.size 0 e)).size + 1))).heap[w.heap.size]? =
   some (.cells (bytesRow s (grownCap w s.size 0 e)) e ((bytesRow s (grownCap w s.size 0 e)).size, (bytesRow s (grownCap w s.size 0 e)).size + 1)) := heap_alloc_new w _
 rw [cell_of_row _ _ _ _ _ _ h0]
 have hk' : k < s.data.size := by simpa using hk
 rw [byteCells_get hk]
 unfold bytesRow
 rw [Array.getElem?_append_left (by simpa using hk')]
 simp only [Array.getElem?_map, Option.map_eq_some_iff]
 exact ⟨_, Array.getElem?_eq_getElem hk', by simp⟩
end Go.Proofs.YtpbbkpfaphjdoaaGreatDoor
namespace Go.Proofs.YtpbbkpfaphjdoaaGreatDoor
open Go.ChangeShapes Go.WideShapes Go.ChangeAt Go.RowKit
def letterB (c : UInt8) : Bool := 97 ≤ c.toNat && c.toNat ≤ 122
def nameOk (l : List UInt8) : Bool := l.all letterB && (!l.isEmpty && decide (l.length ≤ 8))
theorem size_eq (s : ByteArray) : s.data.toList.length = s.size := by rw [Array.length_toList]; rfl
theorem all_take_succ {l : List UInt8} {k : Nat} {b : UInt8} {p : UInt8 → Bool} (h : (l.take k).all p = true) (hk : l[k]? = some b) (hc : p b = true) : (l.take (k + 1)).all p = true := by
 rw [List.take_add_one, hk, List.all_append, h]; simp [hc]
theorem all_false {l : List UInt8} {k : Nat} {b : UInt8} {p : UInt8 → Bool} (hk : l[k]? = some b) (hc : p b = false) : l.all p = false := by
 rw [List.all_eq_false]; exact ⟨_, List.mem_of_getElem? hk, by simp [hc]⟩
set_option maxHeartbeats 1000000 in
theorem rname_any (s : ByteArray) (w : World) (hs : s.size ≤ maxLen) :
  Calls Tryz.prog 51 #[.string s] w fun e w' => e = .returned (.bool (nameOk s.data.toList)) ∧ Below w.heap.size w w' := by
 obtain ⟨C, c, m, hconv, hcell, hcap⟩ := bytes_conv (P := Tryz.prog) w 9 168 5 s Tryz.underlying9 Tryz.underlying168 Tryz.underlying5
 have hcell' := Lib.hid hcell
 have hsz' := Lib.hid (size_eq s)
 unfold maxLen at hs
 clear hcell
 go_enter Tryz.func51, Tryz.ntmps51
 go_wp2_with fail
 clear hconv
 go_loop [4, 8] (fun ch i => ∃ k : Nat, k ≤ s.size ∧ i = .int .i64 k ∧ (s.data.toList.take k).all letterB = true) (fun _ i => s.size - (intOf i).toNat)
 case atStart => exact ⟨0, by omega, rfl, by simp⟩
 case round =>
  obtain ⟨k, hk, rfl, hall⟩ := hrel
  have HA := Lib.hid hall
  clear hall
  by_cases hlt : k < s.size
  ·obtain ⟨b, hb⟩ : ∃ b, s.data.toList[k]? = some b := ⟨_, List.getElem?_eq_getElem (by rw [hsz'.out]; exact hlt)⟩
   have h1 := hcell'.out k (by rw [hsz'.out]; exact hlt)
   rw [byteCells_at hb] at h1
   have HB := Lib.hid hb
   have hr : (b.toNat : Int) < 256 := by have := UInt8.toNat_lt b; omega
   clear hb
   by_cases hL : letterB b = true
   ·have q : 97 ≤ (b.toNat : Int) ∧ (b.toNat : Int) ≤ 122 := by
     unfold letterB at hL; simp only [Bool.and_eq_true, decide_eq_true_eq] at hL; omega
    have HL := Lib.hid hL
    clear hL
    obtain ⟨q1, q2⟩ := q
    generalize (b.toNat : Int) = x at *
    go_wp2
    all_goals go_round
    case rel => exact ⟨k + 1, by omega, by go_num, all_take_succ HA.out HB.out HL.out⟩
    case measure => simp [intOf]; omega
   ·have q : ¬ (97 ≤ (b.toNat : Int) ∧ (b.toNat : Int) ≤ 122) := by
     intro q
     apply hL
     unfold letterB; simp only [Bool.and_eq_true, decide_eq_true_eq]; omega
    have E := Lib.hid (all_false HB.out (by simpa using hL))
    clear hL
    generalize (b.toNat : Int) = x at *
    go_wp2
    all_goals go_ret
    all_goals exact ⟨by unfold nameOk; rw [E.out]; rfl, ((Below.refl _ _).alloc (Nat.le_refl _) _).drew⟩
  ·have hall : s.data.toList.all letterB = true := by have := HA.out; rwa [List.take_of_length_le (by rw [hsz'.out]; omega)] at this
   have E := Lib.hid hall
   clear hall HA
   by_cases h0 : s.size = 0
   ·have q0 : s.data.toList = [] := List.eq_nil_of_length_eq_zero (by rw [hsz'.out]; exact h0)
    have q : s.toList = [] := by rw [Lib.toList_data]; exact q0
    have Q0 := Lib.hid q0
    clear q0 h0
    go_wp2
    all_goals go_ret
    all_goals exact ⟨by rw [Q0.out]; rfl, ((Below.refl _ _).alloc (Nat.le_refl _) _).drew⟩
   ·have q0 : ¬ s.data.toList = [] := fun e => h0 (by rw [← hsz'.out, e]; rfl)
    have q : ¬ s.toList = [] := by rw [Lib.toList_data]; exact q0
    have q1 : s.toList.isEmpty = false := by cases hh : s.toList with | nil => exact absurd hh q | cons a b => rfl
    have q2 : (!s.toList.isEmpty) = true := by rw [q1]; rfl
    have e1 : nameOk s.data.toList = decide (s.size ≤ 8) := by
     unfold nameOk
     rw [E.out, hsz'.out]
     cases hh : s.data.toList with
     | nil => exact absurd hh q0
     | cons a b => simp
    have E1 := Lib.hid e1
    clear q0 h0 e1
    go_wp2
    all_goals go_ret
    all_goals exact ⟨by rw [E1.out]; simp; omega, ((Below.refl _ _).alloc (Nat.le_refl _) _).drew⟩
end Go.Proofs.YtpbbkpfaphjdoaaGreatDoor
