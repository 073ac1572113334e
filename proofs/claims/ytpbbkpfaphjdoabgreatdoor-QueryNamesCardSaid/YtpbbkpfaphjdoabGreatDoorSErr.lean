/- From the reading of an argument to what a walk sees: slices of whatever elements. No program in sight. '[]byte(s)' in a walk: what it makes shows s's bytes. No program in sight. row.Name, walked. An error of the program: nil, or an Errno. -/
import Derived.Test.YtpbbkpfaphjdoabGreatDoorSWords
import Derived.Deep.Slices
import Derived.ChangeArms
import Derived.DataReads
import Derived.Laws.IdiomStrings
import Derived.Lib.Strings
namespace Go.Proofs.YtpbbkpfaphjdoabGreatDoor
open Go.ChangeShapes Go.WideShapes Go.ChangeAt Go.RowKit
theorem flatten_length {α : Type} {size : Nat} : ∀ {css : List (List α)}, (∀ u ∈ css, u.length = size) → css.flatten.length = css.length * size
 | [], _ => by simp
 | c :: css, h => by
  have ih := flatten_length (css := css) fun u hu => h u (List.mem_cons_of_mem _ hu)
  rw [List.flatten_cons, List.length_append, ih, h c List.mem_cons_self, List.length_cons, Nat.add_mul]; omega
theorem flatten_get {α : Type} {size : Nat} : ∀ {css : List (List α)} {j : Nat} {u : α}, (∀ c ∈ css, c.length = size) → css.flatten[j]? = some u → ∃ k i c, j = k * size + i ∧ i < size ∧ css[k]? = some c ∧ c[i]? = some u
 | [], j, u, _, h => by simp at h
 | c :: css, j, u, hl, h => by
  have h0 := hl c List.mem_cons_self
  rw [List.flatten_cons] at h
  by_cases hj : j < c.length
  ·rw [List.getElem?_append_left hj] at h
   exact ⟨0, j, c, by omega, by omega, rfl, h⟩
  ·rw [List.getElem?_append_right (by omega)] at h
   obtain ⟨k, i, c', e, hi, hc, hu⟩ := flatten_get (fun x hx => hl x (List.mem_cons_of_mem _ hx)) h
   exact ⟨k + 1, i, c', by rw [Nat.add_mul]; omega, hi, by simpa using hc, hu⟩
section
variable {H : Type} {enc : TypeId × Value → H} {P : Program} {w : World}
theorem open_sees {t e : TypeId} {size fuel : Nat} {cs : List Value} {x : DataW H × List MemPlace} (ht : P.underlying t = some (.slice e)) (hC : P.cellsOf e = size) (hpos : 0 < size)
  (h : DataW.trod enc P w 0 (fun _ => true) true fuel t cs = some x) (R : List Value → DataW H → Prop)
  (hR : ∀ m cs' y, fuel = m + 1 → DataW.trod enc P w 0 (fun _ => true) true m e cs' = some y → R cs' y.1) :
  ∃ (A : Option Addr) (n c : Nat) (css : List (List Value)) (ds : List (DataW H)), cs = [.slice A n c] ∧ css.length = n ∧ ds.length = n ∧ Sees w A n c size css.flatten ∧
   (∀ u ∈ css, u.length = size) ∧ (∀ (k : Nat) (u : List Value), css[k]? = some u → ∃ d : DataW H, ds[k]? = some d ∧ R u d) ∧ ((x.1 = .nil ∧ n = 0 ∧ c = 0) ∨ ∃ sp, x.1 = .slice ds sp ∧ ds.length + sp.length = c) := by
 rcases DataW.trod_slice ht h with ⟨rfl, rfl⟩ | ⟨a, len, cap, elems, rest, m, hf, rfl, rfl, _, hl, hm, hlen, hel, hsp, _⟩
 ·exact ⟨none, 0, 0, [], [], rfl, rfl, rfl, Sees.nil _ _, by simp, by simp, Or.inl ⟨rfl, rfl, rfl⟩⟩
 ·have key : ∀ i, i < len → ∃ cs', w.cells? 0 (a.add (i * size)) size = some cs' ∧ ∃ y, elems[i]? = some y ∧ DataW.trod enc P w 0 (fun _ => true) true m e cs' = some y := by
   intro i hi
   have h1 := hel i hi
   rw [List.getElem?_eq_getElem (by omega), hC] at h1
   obtain ⟨cs', h2, h3⟩ := Option.bind_eq_some_iff.1 h1
   exact ⟨cs', h2, _, List.getElem?_eq_getElem (by omega), h3⟩
  obtain ⟨f, hf'⟩ := Go.Deep.choose_lt (α := List Value) (p := fun i cs' => w.cells? 0 (a.add (i * size)) size = some cs' ∧ ∃ y, elems[i]? = some y ∧ DataW.trod enc P w 0 (fun _ => true) true m e cs' = some y) key
  have hcss : ∀ k u, ((List.range len).map f)[k]? = some u → k < len ∧ u = f k := by
   intro k u hu
   rw [List.getElem?_map] at hu
   by_cases hk : k < len
   ·rw [List.getElem?_range hk] at hu; exact ⟨hk, by simpa using hu.symm⟩
   ·rw [List.getElem?_eq_none (by simpa using Nat.le_of_not_lt hk)] at hu; cases hu
  have hsz : ∀ u ∈ (List.range len).map f, u.length = size := by
   intro u hu
   obtain ⟨k, hk⟩ := List.mem_iff_getElem?.1 hu
   obtain ⟨hk1, rfl⟩ := hcss k u hk
   exact (World.cells?_some (hf' k hk1).1).2.1
  refine ⟨some a, len, cap, (List.range len).map f, elems.map (·.1), rfl, by simp, by simpa using hlen, ⟨?_, hl, hm, (fun e => by cases e), fun hp => ?_⟩, hsz, ?_, Or.inr ⟨rest.map (·.1), rfl, ?_⟩⟩
  ·rw [flatten_length hsz]; simp
  ·obtain ⟨g, o, sp⟩ := a
   have h0 := (World.cells?_some (hf' 0 hp).1).2.2 0 (by omega)
   have hlen0 := (World.cells?_some (hf' 0 hp).1).2.1
   rw [List.getElem?_eq_getElem (by omega)] at h0
   simp only [Nat.zero_mul] at h0
   have hspot : sp = none := by simpa [Addr.add] using World.cell?_spot h0
   subst hspot
   refine ⟨g, o, rfl, ?_, fun j u hu => ?_⟩
   ·have := World.block_lt_of_cell? w _ h0
    simpa [Addr.add] using this
   ·obtain ⟨k, i, c', rfl, hi, hc', hu'⟩ := flatten_get hsz hu
    obtain ⟨hk, rfl⟩ := hcss k c' hc'
    have := (World.cells?_some (hf' k hk).1).2.2 i hi
    rw [addr_addN, addr_addN] at this
    rw [show o + (k * size + i) = o + k * size + i by omega, this]
    exact hu'
  ·intro k u hu
   obtain ⟨hk, rfl⟩ := hcss k u hu
   obtain ⟨y, hy, ht'⟩ := (hf' k hk).2
   exact ⟨y.1, by rw [List.getElem?_map, hy]; rfl, hR m _ y hf ht'⟩
  ·have := (hsp rfl).1
   simp only [List.length_map]; omega
end
end Go.Proofs.YtpbbkpfaphjdoabGreatDoor
namespace Go.Proofs.YtpbbkpfaphjdoabGreatDoor
open Go.RowKit
def byteCells (l : List UInt8) : List Value := l.map fun b => .int .u8 (b.toNat : Int)
theorem byteCells_get {l : List UInt8} {k : Nat} (h : k < l.length) : (byteCells l)[k]? = some (.int .u8 (l[k].toNat : Int)) := by
 unfold byteCells; rw [List.getElem?_map, List.getElem?_eq_getElem h]; rfl
theorem byteCells_at {l : List UInt8} {k : Nat} {b : UInt8} (h : l[k]? = some b) : (byteCells l)[k]? = some (.int .u8 (b.toNat : Int)) := by
 unfold byteCells; rw [List.getElem?_map, h]; rfl
theorem bytes_conv {P : Program} (w : World) (src dst e : TypeId) (s : ByteArray) (hs : P.underlying src = some .string) (hd : P.underlying dst = some (.slice e)) (he : P.underlying e = some (.int .u8)) :
  ∃ (C : Array Value) (c m : Nat), (convert src dst (.string s)).run P w = .ok (.slice (some ⟨w.heap.size, 0, none⟩) s.size c) (w.drew.alloc (.cells C e (m, m + 1))) ∧
   (∀ k, k < s.data.toList.length → (w.alloc (.cells C e (m, m + 1))).cell? ⟨w.heap.size, k, none⟩ = (byteCells s.data.toList)[k]?) ∧ s.size ≤ c := by
 refine ⟨_, _, _, run_bytes_of_string w src dst e s hs hd he, fun k hk => ?_, grownCap_ge w _ 0 e⟩
 have h0 : (w.alloc (.cells (bytesRow s (grownCap w s.size 0 e)) e ((bytesRow s (grownCap w s.size 0 e)).size, (bytesRow s (grownCap w s.size 0 e)).size + 1))).heap[w.heap.size]? =
   some (.cells (bytesRow s (grownCap w s.size 0 e)) e ((bytesRow s (grownCap w s.size 0 e)).size, (bytesRow s (grownCap w s.size 0 e)).size + 1)) := heap_alloc_new w _
 rw [cell_of_row _ _ _ _ _ _ h0]
 have hk' : k < s.data.size := by simpa using hk
 rw [byteCells_get hk]
 unfold bytesRow
 rw [Array.getElem?_append_left (by simpa using hk')]
 simp only [Array.getElem?_map, Option.map_eq_some_iff]
 exact ⟨_, Array.getElem?_eq_getElem hk', by simp⟩
end Go.Proofs.YtpbbkpfaphjdoabGreatDoor
namespace Go.Proofs.YtpbbkpfaphjdoabGreatDoor
open Go.ChangeShapes Go.WideShapes Go.ChangeAt Go.RowKit
def letterB (c : UInt8) : Bool := 97 ≤ c.toNat && c.toNat ≤ 122
def nameOk (l : List UInt8) : Bool := l.all letterB && (!l.isEmpty && decide (l.length ≤ 8))
theorem size_eq (s : ByteArray) : s.data.toList.length = s.size := by rw [Array.length_toList]; rfl
theorem all_take_succ {l : List UInt8} {k : Nat} {b : UInt8} {p : UInt8 → Bool} (h : (l.take k).all p = true) (hk : l[k]? = some b) (hc : p b = true) : (l.take (k + 1)).all p = true := by
 rw [List.take_add_one, hk, List.all_append, h]; simp [hc]
theorem all_false {l : List UInt8} {k : Nat} {b : UInt8} {p : UInt8 → Bool} (hk : l[k]? = some b) (hc : p b = false) : l.all p = false := by
 rw [List.all_eq_false]; exact ⟨_, List.mem_of_getElem? hk, by simp [hc]⟩
set_option maxHeartbeats 1000000 in
theorem rname_any (s : ByteArray) (w : World) (hs : s.size ≤ maxLen) :
  Calls Tryz.prog 25 #[.string s] w fun e w' => e = .returned (.bool (nameOk s.data.toList)) ∧ Below w.heap.size w w' := by
 obtain ⟨C, c, m, hconv, hcell, hcap⟩ := bytes_conv (P := Tryz.prog) w 9 105 5 s Tryz.underlying9 Tryz.underlying105 Tryz.underlying5
 have hcell' := Lib.hid hcell
 have hsz' := Lib.hid (size_eq s)
 unfold maxLen at hs
 clear hcell
 go_enter Tryz.func25, Tryz.ntmps25
 go_wp2_with fail
 clear hconv
 go_loop [4, 8] (fun ch i => ∃ k : Nat, k ≤ s.size ∧ i = .int .i64 k ∧ (s.data.toList.take k).all letterB = true) (fun _ i => s.size - (intOf i).toNat)
 case atStart => exact ⟨0, by omega, rfl, by simp⟩
 case round =>
  obtain ⟨k, hk, rfl, hall⟩ := hrel
  have HA := Lib.hid hall
  clear hall
  by_cases hlt : k < s.size
  ·obtain ⟨b, hb⟩ : ∃ b, s.data.toList[k]? = some b := ⟨_, List.getElem?_eq_getElem (by rw [hsz'.out]; exact hlt)⟩
   have h1 := hcell'.out k (by rw [hsz'.out]; exact hlt)
   rw [byteCells_at hb] at h1
   have HB := Lib.hid hb
   have hr : (b.toNat : Int) < 256 := by have := UInt8.toNat_lt b; omega
   clear hb
   by_cases hL : letterB b = true
   ·have q : 97 ≤ (b.toNat : Int) ∧ (b.toNat : Int) ≤ 122 := by
     unfold letterB at hL; simp only [Bool.and_eq_true, decide_eq_true_eq] at hL; omega
    have HL := Lib.hid hL
    clear hL
    obtain ⟨q1, q2⟩ := q
    generalize (b.toNat : Int) = x at *
    go_wp2
    all_goals go_round
    case rel => exact ⟨k + 1, by omega, by go_num, all_take_succ HA.out HB.out HL.out⟩
    case measure => simp [intOf]; omega
   ·have q : ¬ (97 ≤ (b.toNat : Int) ∧ (b.toNat : Int) ≤ 122) := by
     intro q
     apply hL
     unfold letterB; simp only [Bool.and_eq_true, decide_eq_true_eq]; omega
    have E := Lib.hid (all_false HB.out (by simpa using hL))
    clear hL
    generalize (b.toNat : Int) = x at *
    go_wp2
    all_goals go_ret
    all_goals exact ⟨by unfold nameOk; rw [E.out]; rfl, ((Below.refl _ _).alloc (Nat.le_refl _) _).drew⟩
  ·have hall : s.data.toList.all letterB = true := by have := HA.out; rwa [List.take_of_length_le (by rw [hsz'.out]; omega)] at this
   have E := Lib.hid hall
   clear hall HA
   by_cases h0 : s.size = 0
   ·have q0 : s.data.toList = [] := List.eq_nil_of_length_eq_zero (by rw [hsz'.out]; exact h0)
    have q : s.toList = [] := by rw [Lib.toList_data]; exact q0
    have Q0 := Lib.hid q0
    clear q0 h0
    go_wp2
    all_goals go_ret
    all_goals exact ⟨by rw [Q0.out]; rfl, ((Below.refl _ _).alloc (Nat.le_refl _) _).drew⟩
   ·have q0 : ¬ s.data.toList = [] := fun e => h0 (by rw [← hsz'.out, e]; rfl)
    have q : ¬ s.toList = [] := by rw [Lib.toList_data]; exact q0
    have q1 : s.toList.isEmpty = false := by cases hh : s.toList with | nil => exact absurd hh q | cons a b => rfl
    have q2 : (!s.toList.isEmpty) = true := by rw [q1]; rfl
    have e1 : nameOk s.data.toList = decide (s.size ≤ 8) := by
     unfold nameOk
     rw [E.out, hsz'.out]
     cases hh : s.data.toList with
     | nil => exact absurd hh q0
     | cons a b => simp
    have E1 := Lib.hid e1
    clear q0 h0 e1
    go_wp2
    all_goals go_ret
    all_goals exact ⟨by rw [E1.out]; simp; omega, ((Below.refl _ _).alloc (Nat.le_refl _) _).drew⟩
end Go.Proofs.YtpbbkpfaphjdoabGreatDoor
namespace Go.Proofs.YtpbbkpfaphjdoabGreatDoor
open Go.RowKit
def errV (k : Int) : Value := if k = 0 then .nilIface else .iface 62 (.int .i64 k)
theorem errV_ne {k : Int} (h : k ≠ 0) : errV k = .iface 62 (.int .i64 k) := by unfold errV; rw [if_neg h]
theorem errV_zero : errV 0 = .nilIface := rfl
end Go.Proofs.YtpbbkpfaphjdoabGreatDoor
