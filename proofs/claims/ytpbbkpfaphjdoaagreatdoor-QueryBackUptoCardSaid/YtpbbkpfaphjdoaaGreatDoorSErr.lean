/- Small laws for the walks: a slice type's facts in one word; append of one element onto a row of the call's own, with 'Below' handed on; reading a row. No program in sight. Words for memory: 'Sees w A n c size xs': the slice value '.slice A n c' shows the cells xs (size cells an element), nil and empty let in; append of such a slice onto a row of the call's own. No program in sight. From the reading of an argument to what a walk sees: slices of whatever elements. No program in sight. '[]byte(s)' in a walk: what it makes shows s's bytes. No program in sight. row.Name, walked. An error of the program: nil, or an Errno. -/
import Derived.Test.YtpbbkpfaphjdoaaGreatDoorRows
import Derived.WalkKit
import Derived.ProofKit
import Derived.OpenShut
import Derived.JoinedCond
import Derived.WalkLawsBesides
import Derived.WalkSpells
import Derived.OwnWalk
import Derived.Lib.Hide
import Derived.Carry
import Derived.Deep.Draws
import Derived.Below
import Derived.Laws.OwnMore
import Derived.Laws.AppendOwnNone
import Derived.Laws.Rows
import Derived.Deep.Slices
import Derived.ChangeArms
import Derived.DataReads
import Derived.Laws.IdiomStrings
import Derived.Lib.Strings
namespace Go.Proofs.YtpbbkpfaphjdoaaGreatDoor
open Go.ChangeShapes Go.WideShapes Go.ChangeAt Go.RowKit
def SliceTy (P : Program) (t e : TypeId) (z : Value) (size bytes : Nat) : Prop :=
 P.underlying t = some (.slice e) ∧ 0 < size ∧ 0 < bytes ∧ z.cells.size = size ∧ ∃ i, P.info? e = some i ∧ i.zero = some z ∧ i.size = size ∧ i.bytes = bytes
theorem SliceTy.of {P : Program} {t e : TypeId} {z : Value} {size bytes : Nat} (ht : P.underlying t = some (.slice e))
  (h : (P.info? e).map (fun i => (i.zero, i.size, i.bytes)) = some (some z, size, bytes)) (h1 : z.cells.size = size) (h2 : 0 < size) (h3 : 0 < bytes) : SliceTy P t e z size bytes := by
 obtain ⟨i0, hi, hz0, hz1, hz2⟩ := info_parts h
 exact ⟨ht, h2, h3, h1, i0, hi, hz0, hz1, hz2⟩
theorem addr_add0 (b j : Nat) : (⟨b, 0, none⟩ : Addr).add j = ⟨b, j, none⟩ := by unfold Addr.add; split <;> simp_all
theorem cells_new (w : World) (cs : Array Value) (e : TypeId) (j : Nat) : (w.alloc (.cells cs e)).cell? ((⟨w.heap.size, 0, none⟩ : Addr).add j) = cs[j]? := by
 rw [addr_add0, cell_of_row _ _ _ _ _ _ (heap_alloc_new w _)]
theorem wpList_append_one {P : Program} {t e : TypeId} {z : Value} {size bytes : Nat} (hS : SliceTy P t e z size bytes)
  {ops : Array Oper} {rest : List Oper} {o : Oper} {a : Act} {Q : Exit → Act → World → Prop} (hgd : o.guard = none) (s x : Operand)
  (ho : o.op = .call { callee := .builtin .append, args := #[s, x], argTypes := #[t, t] })
  {B : Nat} {w0 wr : World} {v : Value} {n : Nat} {xs : List Value} {cs : Array Value} {c : Nat}
  (hs : a.eval s = v) (hx : a.eval x = .slice (some ⟨wr.heap.size, 0, none⟩) 1 c)
  (hown : wr.ownsRow B e size v n xs) (hb : Below B w0 wr) (hB : B ≤ w0.heap.size) (hcs : cs.size = size) (h1 : ∀ u ∈ cs.toList, u.oneCell' = true)
  (hn : (n + 1) * bytes ≤ 140737488355328)
  (h : ∀ v' w1, w1.ownsRow B e size v' (n + 1) (xs ++ cs.toList) → Below B w0 w1 → v' ≠ .slice none 0 0 → wpList P ops Q rest (a.put o.dst v') w1) :
  wpList P ops Q (o :: rest) a (wr.alloc (.cells cs e)) := by
 obtain ⟨ht, h2, h3, hzs, i, hi, hz, hsz, hby⟩ := hS
 have hB' := hb.size
 have hm : n + 1 ≤ (n + 1) * bytes := Nat.le_mul_of_pos_right _ h3
 refine wpList_append_own _ hgd s x t ho B e i z size bytes ht hi hz hsz hby hzs h2 v n xs hs (hown.alloc _) ⟨wr.heap.size, 0, none⟩ 1 c cs.toList hx (by simpa using hcs) ?_ h1 (by unfold maxLen; omega) hn (by simp; omega) ?_
 ·intro j u hu
  rw [cells_new]; simpa using hu
 ·intro v' w1 hown' hg hv
  refine h v' w1 hown' ?_ (fun e => by have := (hv.1 e).2; omega)
  refine (hb.alloc (by omega) _).grown hg (by simp; omega) ?_
  intro k hk
  exact (hown.lt k hk).1
theorem own_shape {w : World} {B e size : Nat} {v : Value} {n : Nat} {xs : List Value} (h : w.ownsRow B e size v n xs) : ∃ A c, v = .slice A n c := by
 rcases h.2 with ⟨rfl, rfl⟩ | ⟨g, cap, cur, rfl, _⟩
 ·exact ⟨_, _, rfl⟩
 ·exact ⟨_, _, rfl⟩
end Go.Proofs.YtpbbkpfaphjdoaaGreatDoor
namespace Go.Proofs.YtpbbkpfaphjdoaaGreatDoor
open Go.RowKit
def Sees (w : World) (A : Option Addr) (n c size : Nat) (xs : List Value) : Prop :=
 xs.length = n * size ∧ n ≤ c ∧ c ≤ maxLen ∧ (A = none → n = 0 ∧ c = 0) ∧
  (0 < n → ∃ g o, A = some ⟨g, o, none⟩ ∧ g < w.heap.size ∧ ∀ j u, xs[j]? = some u → w.cell? ⟨g, o + j, none⟩ = some u)
theorem addr_addN (b o j : Nat) : (⟨b, o, none⟩ : Addr).add j = ⟨b, o + j, none⟩ := by unfold Addr.add; split <;> simp_all
section
variable {w w' : World} {A : Option Addr} {n c size : Nat} {xs : List Value}
theorem Sees.nil (w : World) (size : Nat) : Sees w none 0 0 size [] := ⟨by simp, Nat.le_refl _, Nat.zero_le _, fun _ => ⟨rfl, rfl⟩, fun h => absurd h (by omega)⟩
theorem Sees.keep (h : Sees w A n c size xs) (hb : Below w.heap.size w w') : Sees w' A n c size xs :=
 ⟨h.1, h.2.1, h.2.2.1, h.2.2.2.1, fun hn => by
  obtain ⟨g, o, e, hg, hc⟩ := h.2.2.2.2 hn
  exact ⟨g, o, e, Nat.lt_of_lt_of_le hg hb.size, fun k u hu => (hb.cell (p := ⟨g, o + k, none⟩) hg).trans (hc k u hu)⟩⟩
theorem Sees.drewN (h : Sees w A n c size xs) (q : Nat) : Sees (w.drewN q) A n c size xs := h
theorem Sees.of_own {B e : Nat} {v : Value} (h : w.ownsRow B e size v n xs) : ∃ A c, v = .slice A n c ∧ Sees w A n c size xs := by
 have hl := h.1
 rcases h.2 with ⟨rfl, rfl⟩ | ⟨g, cap, cur, rfl, hb, hh, hnc, hcm, _⟩
 ·exact ⟨none, 0, rfl, hl, Nat.le_refl _, Nat.zero_le _, fun _ => ⟨rfl, rfl⟩, fun h => absurd h (by omega)⟩
 ·refine ⟨_, _, rfl, hl, hnc, hcm, (fun h => by cases h), fun _ => ⟨g, 0, rfl, (Array.getElem?_eq_some_iff.1 hh).1, fun k u hu => ?_⟩⟩
  have := h.cells (g := g) rfl k u hu
  rwa [addr_addN] at this
theorem Sees.at_ (h : Sees w A n c 1 xs) {k : Nat} (hk : k < n) : ∃ g o u, A = some ⟨g, o, none⟩ ∧ xs[k]? = some u ∧ w.cell? ⟨g, o + k, none⟩ = some u := by
 obtain ⟨g, o, e, _, hc⟩ := h.2.2.2.2 (by omega)
 have hl : k < xs.length := by have := h.1; omega
 exact ⟨g, o, _, e, List.getElem?_eq_getElem hl, hc k _ (List.getElem?_eq_getElem hl)⟩
end
theorem below_drewN {B : Nat} {a w : World} (h : Below B a w) (n : Nat) : Below B a (w.drewN n) := ⟨h.os, h.tape, h.output, h.size, h.block⟩
theorem wpList_append_src {P : Program} {t e : TypeId} {z : Value} {size bytes : Nat} (hS : SliceTy P t e z size bytes)
  {ops : Array Oper} {rest : List Oper} {o : Oper} {a : Act} {Q : Exit → Act → World → Prop} (hgd : o.guard = none) (s x : Operand)
  (ho : o.op = .call { callee := .builtin .append, args := #[s, x], argTypes := #[t, t] })
  {B : Nat} {w0 wr : World} {v : Value} {n m : Nat} {xs ys : List Value} {A : Option Addr} {c : Nat}
  (hs : a.eval s = v) (hx : a.eval x = .slice A m c)
  (hown : wr.ownsRow B e size v n xs) (hsee : Sees wr A m c size ys) (hb : Below B w0 wr) (hB : B ≤ w0.heap.size) (h1 : ∀ u ∈ ys, u.oneCell' = true)
  (hn : (n + m) * bytes ≤ 140737488355328)
  (h : ∀ v' w1, w1.ownsRow B e size v' (n + m) (xs ++ ys) → Below B w0 w1 → wr.grownBy w1 v.ownBlock → wpList P ops Q rest (a.put o.dst v') w1) :
  wpList P ops Q (o :: rest) a wr := by
 obtain ⟨ht, h2, h3, hzs, i, hi, hz, hsz, hby⟩ := hS
 have hB' := hb.size
 have hm : n + m ≤ (n + m) * bytes := Nat.le_mul_of_pos_right _ h3
 obtain ⟨k1, k2, k3, k4, k5⟩ := hsee
 have hrow : ∀ k, v.ownBlock = some k → B ≤ k := fun k hk => (hown.lt k hk).1
 rcases A with _ | ad
 ·obtain ⟨rfl, rfl⟩ := k4 rfl
  have hy : ys = [] := List.eq_nil_of_length_eq_zero (by simpa using k1)
  subst hy
  refine wpList_append_own_none hgd s x t ho B e i size ht hi v n xs hs hown hx ?_
  exact h v wr (by simpa using hown) hb (World.grownBy.refl wr _)
 ·have hcells : ∀ j u, ys[j]? = some u → wr.cell? (ad.add j) = some u := by
   intro j u hu
   rcases Nat.eq_zero_or_pos m with rfl | hp
   ·have hy : ys = [] := List.eq_nil_of_length_eq_zero (by simpa using k1)
    subst hy
    simp at hu
   ·obtain ⟨g, o', e1, _, hc⟩ := k5 hp
    injection e1 with e1
    subst e1
    rw [addr_addN]
    exact hc j u hu
  refine wpList_append_own _ hgd s x t ho B e i z size bytes ht hi hz hsz hby hzs h2 v n xs hs hown ad m c ys hx k1 hcells h1 (by unfold maxLen; omega) hn (by omega) ?_
  intro v' w1 hown' hg hv
  exact h v' w1 hown' (hb.grown hg (by omega) hrow) hg
theorem below_step {w a b : World} (h : Below w.heap.size w a) (hb : Below a.heap.size a b) : Below w.heap.size w b := h.trans (hb.mono h.size)
end Go.Proofs.YtpbbkpfaphjdoaaGreatDoor
namespace Go.Proofs.YtpbbkpfaphjdoaaGreatDoor
open Go.ChangeShapes Go.WideShapes Go.ChangeAt Go.RowKit
theorem flatten_length {α : Type} {size : Nat} : ∀ {css : List (List α)}, (∀ u ∈ css, u.length = size) → css.flatten.length = css.length * size
 | [], _ => by simp
 | c :: css, h => by
  have ih := flatten_length (css := css) fun u hu => h u (List.mem_cons_of_mem _ hu)
  rw [List.flatten_cons, List.length_append, ih, h c List.mem_cons_self, List.length_cons, Nat.add_mul]; omega
theorem flatten_get {α : Type} {size : Nat} : ∀ {css : List (List α)} {j : Nat} {u : α}, (∀ c ∈ css, c.length = size) → css.flatten[j]? = some u → ∃ k i c, j = k * size + i ∧ i < size ∧ css[k]? = some c ∧ c[i]? = some u
 | [], j, u, _, h => by simp at h
 | c :: css, j, u, hl, h => by
  have h0 := hl c List.mem_cons_self
  rw [List.flatten_cons] at h
  by_cases hj : j < c.length
  ·rw [List.getElem?_append_left hj] at h
   exact ⟨0, j, c, by omega, by omega, rfl, h⟩
  ·rw [List.getElem?_append_right (by omega)] at h
   obtain ⟨k, i, c', e, hi, hc, hu⟩ := flatten_get (fun x hx => hl x (List.mem_cons_of_mem _ hx)) h
   exact ⟨k + 1, i, c', by rw [Nat.add_mul]; omega, hi, by simpa using hc, hu⟩
section
variable {H : Type} {enc : TypeId × Value → H} {P : Program} {w : World}
theorem open_sees {t e : TypeId} {size fuel : Nat} {cs : List Value} {x : DataW H × List MemPlace} (ht : P.underlying t = some (.slice e)) (hC : P.cellsOf e = size) (hpos : 0 < size)
  (h : DataW.trod enc P w 0 (fun _ => true) true fuel t cs = some x) (R : List Value → DataW H → Prop)
  (hR : ∀ m cs' y, fuel = m + 1 → DataW.trod enc P w 0 (fun _ => true) true m e cs' = some y → R cs' y.1) :
  ∃ (A : Option Addr) (n c : Nat) (css : List (List Value)) (ds : List (DataW H)), cs = [.slice A n c] ∧ css.length = n ∧ ds.length = n ∧ Sees w A n c size css.flatten ∧
   (∀ u ∈ css, u.length = size) ∧ (∀ (k : Nat) (u : List Value), css[k]? = some u → ∃ d : DataW H, ds[k]? = some d ∧ R u d) ∧ ((x.1 = .nil ∧ n = 0 ∧ c = 0) ∨ ∃ sp, x.1 = .slice ds sp ∧ ds.length + sp.length = c) := by
 rcases DataW.trod_slice ht h with ⟨rfl, rfl⟩ | ⟨a, len, cap, elems, rest, m, hf, rfl, rfl, _, hl, hm, hlen, hel, hsp, _⟩
 ·exact ⟨none, 0, 0, [], [], rfl, rfl, rfl, Sees.nil _ _, by simp, by simp, Or.inl ⟨rfl, rfl, rfl⟩⟩
 ·have key : ∀ i, i < len → ∃ cs', w.cells? 0 (a.add (i * size)) size = some cs' ∧ ∃ y, elems[i]? = some y ∧ DataW.trod enc P w 0 (fun _ => true) true m e cs' = some y := by
   intro i hi
   have h1 := hel i hi
   rw [List.getElem?_eq_getElem (by omega), hC] at h1
   obtain ⟨cs', h2, h3⟩ := Option.bind_eq_some_iff.1 h1
   exact ⟨cs', h2, _, List.getElem?_eq_getElem (by omega), h3⟩
  obtain ⟨f, hf'⟩ := Go.Deep.choose_lt (α := List Value) (p := fun i cs' => w.cells? 0 (a.add (i * size)) size = some cs' ∧ ∃ y, elems[i]? = some y ∧ DataW.trod enc P w 0 (fun _ => true) true m e cs' = some y) key
  have hcss : ∀ k u, ((List.range len).map f)[k]? = some u → k < len ∧ u = f k := by
   intro k u hu
   rw [List.getElem?_map] at hu
   by_cases hk : k < len
   ·rw [List.getElem?_range hk] at hu; exact ⟨hk, by simpa using hu.symm⟩
   ·rw [List.getElem?_eq_none (by simpa using Nat.le_of_not_lt hk)] at hu; cases hu
  have hsz : ∀ u ∈ (List.range len).map f, u.length = size := by
   intro u hu
   obtain ⟨k, hk⟩ := List.mem_iff_getElem?.1 hu
   obtain ⟨hk1, rfl⟩ := hcss k u hk
   exact (World.cells?_some (hf' k hk1).1).2.1
  refine ⟨some a, len, cap, (List.range len).map f, elems.map (·.1), rfl, by simp, by simpa using hlen, ⟨?_, hl, hm, (fun e => by cases e), fun hp => ?_⟩, hsz, ?_, Or.inr ⟨rest.map (·.1), rfl, ?_⟩⟩
  ·rw [flatten_length hsz]; simp
  ·obtain ⟨g, o, sp⟩ := a
   have h0 := (World.cells?_some (hf' 0 hp).1).2.2 0 (by omega)
   have hlen0 := (World.cells?_some (hf' 0 hp).1).2.1
   rw [List.getElem?_eq_getElem (by omega)] at h0
   simp only [Nat.zero_mul] at h0
   have hspot : sp = none := by simpa [Addr.add] using World.cell?_spot h0
   subst hspot
   refine ⟨g, o, rfl, ?_, fun j u hu => ?_⟩
   ·have := World.block_lt_of_cell? w _ h0
    simpa [Addr.add] using this
   ·obtain ⟨k, i, c', rfl, hi, hc', hu'⟩ := flatten_get hsz hu
    obtain ⟨hk, rfl⟩ := hcss k c' hc'
    have := (World.cells?_some (hf' k hk).1).2.2 i hi
    rw [addr_addN, addr_addN] at this
    rw [show o + (k * size + i) = o + k * size + i by omega, this]
    exact hu'
  ·intro k u hu
   obtain ⟨hk, rfl⟩ := hcss k u hu
   obtain ⟨y, hy, ht'⟩ := (hf' k hk).2
   exact ⟨y.1, by rw [List.getElem?_map, hy]; rfl, hR m _ y hf ht'⟩
  ·have := (hsp rfl).1
   simp only [List.length_map]; omega
end
end Go.Proofs.YtpbbkpfaphjdoaaGreatDoor
namespace Go.Proofs.YtpbbkpfaphjdoaaGreatDoor
open Go.RowKit
def byteCells (l : List UInt8) : List Value := l.map fun b => .int .u8 (b.toNat : Int)
theorem byteCells_get {l : List UInt8} {k : Nat} (h : k < l.length) : (byteCells l)[k]? = some (.int .u8 (l[k].toNat : Int)) := by
 unfold byteCells; rw [List.getElem?_map, List.getElem?_eq_getElem h]; rfl
theorem byteCells_at {l : List UInt8} {k : Nat} {b : UInt8} (h : l[k]? = some b) : (byteCells l)[k]? = some (.int .u8 (b.toNat : Int)) := by
 unfold byteCells; rw [List.getElem?_map, h]; rfl
theorem bytes_conv {P : Program} (w : World) (src dst e : TypeId) (s : ByteArray) (hs : P.underlying src = some .string) (hd : P.underlying dst = some (.slice e)) (he : P.underlying e = some (.int .u8)) :
  ∃ (C : Array Value) (c m : Nat), (convert src dst (.string s)).run P w = .ok (.slice (some ⟨w.heap.size, 0, none⟩) s.size c) (w.drew.alloc (.cells C e (m, m + 1))) ∧
   (∀ k, k < s.data.toList.length → (w.alloc (.cells C e (m, m + 1))).cell? ⟨w.heap.size, k, none⟩ = (byteCells s.data.toList)[k]?) ∧ s.size ≤ c := by
 refine ⟨_, _, _, run_bytes_of_string w src dst e s hs hd he, fun k hk => ?_, grownCap_ge w _ 0 e⟩
 have h0 : (w.alloc (.cells (bytesRow s (grownCap w s.size 0 e)) e ((bytesRow s (grownCap w s.size 0 e)).size, (bytesRow s (grownCap w s.size 0 e)).size + 1))).heap[w.heap.size]? =
   some (.cells (bytesRow s (grownCap w s.size 0 e)) e ((bytesRow s (grownCap w s.size 0 e)).size, (bytesRow s (grownCap w s.size 0 e)).size + 1)) := heap_alloc_new w _
 rw [cell_of_row _ _ _ _ _ _ h0]
 have hk' : k < s.data.size := by simpa using hk
 rw [byteCells_get hk]
 unfold bytesRow
 rw [Array.getElem?_append_left (by simpa using hk')]
 simp only [Array.getElem?_map, Option.map_eq_some_iff]
 exact ⟨_, Array.getElem?_eq_getElem hk', by simp⟩
end Go.Proofs.YtpbbkpfaphjdoaaGreatDoor
namespace Go.Proofs.YtpbbkpfaphjdoaaGreatDoor
open Go.ChangeShapes Go.WideShapes Go.ChangeAt Go.RowKit
def letterB (c : UInt8) : Bool := 97 ≤ c.toNat && c.toNat ≤ 122
def nameOk (l : List UInt8) : Bool := l.all letterB && (!l.isEmpty && decide (l.length ≤ 8))
theorem size_eq (s : ByteArray) : s.data.toList.length = s.size := by rw [Array.length_toList]; rfl
theorem all_take_succ {l : List UInt8} {k : Nat} {b : UInt8} {p : UInt8 → Bool} (h : (l.take k).all p = true) (hk : l[k]? = some b) (hc : p b = true) : (l.take (k + 1)).all p = true := by
 rw [List.take_add_one, hk, List.all_append, h]; simp [hc]
theorem all_false {l : List UInt8} {k : Nat} {b : UInt8} {p : UInt8 → Bool} (hk : l[k]? = some b) (hc : p b = false) : l.all p = false := by
 rw [List.all_eq_false]; exact ⟨_, List.mem_of_getElem? hk, by simp [hc]⟩
set_option maxHeartbeats 1000000 in
theorem rname_any (s : ByteArray) (w : World) (hs : s.size ≤ maxLen) :
  Calls Tryz.prog 51 #[.string s] w fun e w' => e = .returned (.bool (nameOk s.data.toList)) ∧ Below w.heap.size w w' := by
 obtain ⟨C, c, m, hconv, hcell, hcap⟩ := bytes_conv (P := Tryz.prog) w 9 168 5 s Tryz.underlying9 Tryz.underlying168 Tryz.underlying5
 have hcell' := Lib.hid hcell
 have hsz' := Lib.hid (size_eq s)
 unfold maxLen at hs
 clear hcell
 go_enter Tryz.func51, Tryz.ntmps51
 go_wp2_with fail
 clear hconv
 go_loop [4, 8] (fun ch i => ∃ k : Nat, k ≤ s.size ∧ i = .int .i64 k ∧ (s.data.toList.take k).all letterB = true) (fun _ i => s.size - (intOf i).toNat)
 case atStart => exact ⟨0, by omega, rfl, by simp⟩
 case round =>
  obtain ⟨k, hk, rfl, hall⟩ := hrel
  have HA := Lib.hid hall
  clear hall
  by_cases hlt : k < s.size
  ·obtain ⟨b, hb⟩ : ∃ b, s.data.toList[k]? = some b := ⟨_, List.getElem?_eq_getElem (by rw [hsz'.out]; exact hlt)⟩
   have h1 := hcell'.out k (by rw [hsz'.out]; exact hlt)
   rw [byteCells_at hb] at h1
   have HB := Lib.hid hb
   have hr : (b.toNat : Int) < 256 := by have := UInt8.toNat_lt b; omega
   clear hb
   by_cases hL : letterB b = true
   ·have q : 97 ≤ (b.toNat : Int) ∧ (b.toNat : Int) ≤ 122 := by
     unfold letterB at hL; simp only [Bool.and_eq_true, decide_eq_true_eq] at hL; omega
    have HL := Lib.hid hL
    clear hL
    obtain ⟨q1, q2⟩ := q
    generalize (b.toNat : Int) = x at *
    go_wp2
    all_goals go_round
    case rel => exact ⟨k + 1, by omega, by go_num, all_take_succ HA.out HB.out HL.out⟩
    case measure => simp [intOf]; omega
   ·have q : ¬ (97 ≤ (b.toNat : Int) ∧ (b.toNat : Int) ≤ 122) := by
     intro q
     apply hL
     unfold letterB; simp only [Bool.and_eq_true, decide_eq_true_eq]; omega
    have E := Lib.hid (all_false HB.out (by simpa using hL))
    clear hL
    generalize (b.toNat : Int) = x at *
    go_wp2
    all_goals go_ret
    all_goals exact ⟨by unfold nameOk; rw [E.out]; rfl, ((Below.refl _ _).alloc (Nat.le_refl _) _).drew⟩
  ·have hall : s.data.toList.all letterB = true := by have := HA.out; rwa [List.take_of_length_le (by rw [hsz'.out]; omega)] at this
   have E := Lib.hid hall
   clear hall HA
   by_cases h0 : s.size = 0
   ·have q0 : s.data.toList = [] := List.eq_nil_of_length_eq_zero (by rw [hsz'.out]; exact h0)
    have q : s.toList = [] := by rw [Lib.toList_data]; exact q0
    have Q0 := Lib.hid q0
    clear q0 h0
    go_wp2
    all_goals go_ret
    all_goals exact ⟨by rw [Q0.out]; rfl, ((Below.refl _ _).alloc (Nat.le_refl _) _).drew⟩
   ·have q0 : ¬ s.data.toList = [] := fun e => h0 (by rw [← hsz'.out, e]; rfl)
    have q : ¬ s.toList = [] := by rw [Lib.toList_data]; exact q0
    have q1 : s.toList.isEmpty = false := by cases hh : s.toList with | nil => exact absurd hh q | cons a b => rfl
    have q2 : (!s.toList.isEmpty) = true := by rw [q1]; rfl
    have e1 : nameOk s.data.toList = decide (s.size ≤ 8) := by
     unfold nameOk
     rw [E.out, hsz'.out]
     cases hh : s.data.toList with
     | nil => exact absurd hh q0
     | cons a b => simp
    have E1 := Lib.hid e1
    clear q0 h0 e1
    go_wp2
    all_goals go_ret
    all_goals exact ⟨by rw [E1.out]; simp; omega, ((Below.refl _ _).alloc (Nat.le_refl _) _).drew⟩
end Go.Proofs.YtpbbkpfaphjdoaaGreatDoor
namespace Go.Proofs.YtpbbkpfaphjdoaaGreatDoor
open Go.RowKit
def errV (k : Int) : Value := if k = 0 then .nilIface else .iface 32 (.int .i64 k)
theorem errV_ne {k : Int} (h : k ≠ 0) : errV k = .iface 32 (.int .i64 k) := by unfold errV; rw [if_neg h]
theorem errV_zero : errV 0 = .nilIface := rfl
end Go.Proofs.YtpbbkpfaphjdoaaGreatDoor
