/- row.find, row.Find, row.Schema and val.Type, walked; the plain words of schemas. -/
import Derived.Test.YteoheaahlokdiaaDoorRowName
import Derived.Test.YteoheaahlokdiaaDoorErr
import Derived.StillTailTactics
import Derived.Deep.QuietTactic
import Derived.BigQuiet
namespace Go.Proofs.YteoheaahlokdiaaDoor
open Go.ChangeShapes Go.WideShapes Go.ChangeAt Go.RowKit

structure Col where
  name : ByteArray
  type : Int
def colCells (c : Col) : List Value := [.string c.name, .int .i64 c.type]
def colsCells (l : List Col) : List Value := l.flatMap colCells
theorem colsCells_length (l : List Col) : (colsCells l).length = l.length * 2 := by
  induction l with
  | nil => rfl
  | cons c l ih => simp only [colsCells, List.flatMap_cons, List.length_append, List.length_cons] at *; simp [colCells, ih]; omega
theorem colsCells_at : ∀ {l : List Col} {k : Nat} {c : Col}, l[k]? = some c → (colsCells l)[k * 2]? = some (.string c.name) ∧ (colsCells l)[k * 2 + 1]? = some (.int .i64 c.type)
  | x :: l, 0, c, h => by simp at h; subst h; exact ⟨rfl, rfl⟩
  | x :: l, k + 1, c, h => by
    have ih := colsCells_at (l := l) (k := k) (by simpa using h)
    have e : colsCells (x :: l) = .string x.name :: .int .i64 x.type :: colsCells l := rfl
    rw [e, show (k + 1) * 2 = k * 2 + 1 + 1 by omega]
    simpa using ih
  | [], k, c, h => by simp at h

/-- A slice of columns, seen. -/
def SeesCols (w : World) (A : Option Addr) (n c : Nat) (l : List Col) : Prop := l.length = n ∧ Sees w A n c 2 (colsCells l)
theorem SeesCols.keep {w w' : World} {A : Option Addr} {n c : Nat} {l : List Col} (h : SeesCols w A n c l) (hb : Below w.heap.size w w') : SeesCols w' A n c l := ⟨h.1, h.2.keep hb⟩
theorem SeesCols.at_ {w : World} {A : Option Addr} {n c : Nat} {l : List Col} (h : SeesCols w A n c l) {k : Nat} (hk : k < n) :
    ∃ g o x, A = some ⟨g, o, none⟩ ∧ g < w.heap.size ∧ l[k]? = some x ∧ w.cell? ⟨g, o + k * 2, none⟩ = some (.string x.name) ∧ w.cell? ⟨g, o + k * 2 + 1, none⟩ = some (.int .i64 x.type) := by
  obtain ⟨g, o, e, hg, hc⟩ := h.2.2.2.2.2 (by omega)
  have hl : l[k]? = some (l[k]'(by have := h.1; omega)) := List.getElem?_eq_getElem _
  obtain ⟨h1, h2⟩ := colsCells_at hl
  exact ⟨g, o, _, e, hg, hl, hc _ _ h1, hc _ _ h2⟩

/-- The place of a column of a name; -1: there is none. -/
def isName (s : ByteArray) (c : Col) : Bool := decide (c.name = s)
def findCol (l : List Col) (s : ByteArray) : Int := match l.findIdx? (isName s) with | some i => i | none => -1
theorem findCol_none {l : List Col} {s : ByteArray} (h : ∀ c ∈ l, isName s c = false) : findCol l s = -1 := by
  unfold findCol; rw [List.findIdx?_eq_none_iff.2 h]
theorem findCol_some {l : List Col} {s : ByteArray} {k : Nat} {c : Col} (h : ∀ x ∈ l.take k, isName s x = false) (hk : l[k]? = some c) (hc : isName s c = true) : findCol l s = k := by
  have : l.findIdx? (isName s) = some k := by
    obtain ⟨hlt, rfl⟩ := List.getElem?_eq_some_iff.1 hk
    rw [List.findIdx?_eq_some_iff_getElem]
    refine ⟨hlt, hc, fun j hj => ?_⟩
    have := h l[j] (List.mem_take_iff_getElem.2 ⟨j, by omega, rfl⟩)
    simp [this]
  unfold findCol; rw [this]
theorem str_beq (a b : ByteArray) : (a.toList == b.toList) = decide (a = b) := by
  rw [Lib.toList_data, Lib.toList_data]
  by_cases h : a = b
  · simp [h]
  · have : ¬ a.data.toList = b.data.toList := fun e => h (Go.WideShapes.bytes_inj e)
    rw [beq_eq_false_iff_ne.2 this, decide_eq_false h]

theorem vtype_any (t : Int) (w : World) :
    Calls Tryd.prog 61 #[.int .i64 t] w fun e w' => e = .returned (.bool (decide (1 ≤ t ∧ t ≤ 3))) ∧ w = w' := by
  by_cases h0 : 1 ≤ t
  · by_cases h1 : t ≤ 3
    · go_enter Tryd.func61, Tryd.ntmps61
      go_wp2
      go_ret
      exact ⟨by simp [h0, h1], rfl⟩
    · go_enter Tryd.func61, Tryd.ntmps61
      go_wp2
      go_ret
      exact ⟨by simp; omega, rfl⟩
  · go_enter Tryd.func61, Tryd.ntmps61
    go_wp2
    go_ret
    exact ⟨by simp; omega, rfl⟩

/-- The closure of find: is it the name? -/
theorem rfind1_any (nm s : ByteArray) (t : Int) (b : Nat) (w : World) (hc : w.cell? ⟨b, 0, none⟩ = some (.string s)) (hlt : b < w.heap.size) :
    Calls Tryd.prog 135 #[.agg #[.string nm, .int .i64 t], .pointer (some ⟨b, 0, none⟩)] w fun e w' => e = .returned (.bool (nm.toList == s.toList)) ∧ Below w.heap.size w w' := by
  have hc' : (w.alloc (.cells #[.string nm, .int .i64 t] 51)).cell? ⟨b, 0, none⟩ = some (.string s) := by
    rw [World.cell?_alloc_lt _ _ ⟨b, 0, none⟩ hlt]; exact hc
  go_enter Tryd.func135, Tryd.ntmps135
  go_wp2
  go_ret
  exact ⟨rfl, ((Below.refl _ _).alloc (Nat.le_refl _) _)⟩

set_option maxHeartbeats 1000000 in
theorem rindex_any (l : List Col) (s : ByteArray) (A : Option Addr) (n c b : Nat) (w : World) (hl : SeesCols w A n c l) (hc : w.cell? ⟨b, 0, none⟩ = some (.string s)) (hlt : b < w.heap.size) :
    Calls Tryd.prog 134 #[.slice A n c, .func (.func 135) #[] #[.pointer (some ⟨b, 0, none⟩)]] w fun e w' => e = .returned (.int .i64 (findCol l s)) ∧ Below w.heap.size w w' := by
  have HL := Lib.hid hl
  have hcap := hl.2.2.1
  have hmax := hl.2.2.2.1
  unfold maxLen at hmax
  have HC := Lib.hid hc
  clear hl hc
  go_enter Tryd.func134, Tryd.ntmps134
  go_wp2_with fail
  go_loopw [5, 8] (fun _ i wr => ∃ k : Nat, k ≤ n ∧ i = .int .i64 k ∧ Below w.heap.size w wr ∧ ∀ x ∈ l.take k, isName s x = false) (fun _ i _ => n - (intOf i).toNat)
  case atStart => exact ⟨0, by omega, rfl, Below.refl _ _, by simp⟩
  case round =>
    obtain ⟨k, hk, rfl, hb, hno⟩ := hrel
    have HN := Lib.hid hno
    have HB := Lib.hid hb
    have hsz := hb.size
    clear hno
    by_cases hlk : k < n
    · obtain ⟨g, o, x, rfl, hg, hx, c1, c2⟩ := (HL.out.keep hb).at_ hlk
      have cb : wr.cell? ⟨b, 0, none⟩ = some (.string s) := (hb.cell (p := ⟨b, 0, none⟩) hlt).trans HC.out
      have HX := Lib.hid hx
      clear hb hx
      by_cases hn : isName s x = true
      · have e1 : (x.name.toList == s.toList) = true := by rw [str_beq]; exact hn
        have E := Lib.hid (findCol_some HN.out HX.out hn)
        clear hn
        go_wp2_with (first | (go_at_call 135; refine (rfind1_any _ _ _ _ _ cb (by omega)).mono ?_; rintro e w' ⟨rfl, hb2⟩))
        go_ret
        exact ⟨by rw [E.out]; rfl, below_step HB.out hb2⟩
      · have hn' : isName s x = false := by simpa using hn
        have e1 : (x.name.toList == s.toList) = false := by rw [str_beq]; exact hn'
        have E := Lib.hid hn'
        clear hn hn'
        go_wp2_with (first | (go_at_call 135; refine (rfind1_any _ _ _ _ _ cb (by omega)).mono ?_; rintro e w' ⟨rfl, hb2⟩))
        go_roundw
        case rel => exact ⟨k + 1, by omega, by go_num, below_step HB.out hb2, fun y hy => by
          rw [List.take_add_one, HX.out] at hy
          rcases List.mem_append.1 hy with hy | hy
          · exact HN.out y hy
          · simp at hy; subst hy; exact E.out⟩
        case measure => simp [intOf]; omega
    · have e : findCol l s = -1 := findCol_none (by have := HN.out; rwa [List.take_of_length_le (by rw [HL.out.1]; omega)] at this)
      have E := Lib.hid e
      clear e hb
      go_wp2_with fail
      go_ret
      exact ⟨by rw [E.out]; rfl, HB.out⟩

theorem rfind_any (l : List Col) (s : ByteArray) (A : Option Addr) (n c : Nat) (w : World) (hl : SeesCols w A n c l) :
    Calls Tryd.prog 96 #[.slice A n c, .string s] w fun e w' => e = .returned (.int .i64 (findCol l s)) ∧ Below w.heap.size w w' := by
  have hb0 : Below w.heap.size w (w.alloc (.cells #[.string s] 9)) := (Below.refl _ _).alloc (Nat.le_refl _) _
  have HL := Lib.hid (hl.keep hb0)
  have hc : (w.alloc (.cells #[.string s] 9)).cell? ⟨w.heap.size, 0, none⟩ = some (.string s) := by simp
  have HC := Lib.hid hc
  clear hl hc
  go_enter Tryd.func96, Tryd.ntmps96
  go_wp2_with (first | (go_at_call 134; refine (rindex_any l s _ _ _ _ _ HL.out HC.out (by simp)).mono ?_; rintro e w' ⟨rfl, hb⟩))
  go_ret
  exact ⟨rfl, below_step hb0 hb⟩

theorem rFind_none (l : List Col) (s : ByteArray) (A : Option Addr) (n c : Nat) (w : World) (hl : SeesCols w A n c l) (h : findCol l s < 0) :
    Calls Tryd.prog 105 #[.slice A n c, .string s] w fun e w' => e = .returned (.tuple #[.int .i64 0, .iface 73 (.int .i64 5)]) ∧ Below w.heap.size w w' := by
  have HL := Lib.hid hl
  clear hl
  generalize hk : findCol l s = k at h
  have HK := Lib.hid hk
  clear hk
  go_enter Tryd.func105, Tryd.ntmps105
  go_wp2_with (first | (go_at_call 96; refine (rfind_any l s _ _ _ _ HL.out).mono ?_; rintro e w' ⟨rfl, hb⟩; rw [HK.out]))
  go_ret2
  exact ⟨rfl, hb⟩
theorem rFind_some (l : List Col) (s : ByteArray) (A : Option Addr) (n c : Nat) (w : World) (hl : SeesCols w A n c l) (h : 0 ≤ findCol l s) :
    Calls Tryd.prog 105 #[.slice A n c, .string s] w fun e w' => e = .returned (.tuple #[.int .i64 (findCol l s), .nilIface]) ∧ Below w.heap.size w w' := by
  have HL := Lib.hid hl
  clear hl
  generalize hk : findCol l s = k at h ⊢
  have HK := Lib.hid hk
  clear hk
  go_enter Tryd.func105, Tryd.ntmps105
  go_wp2_with (first | (go_at_call 96; refine (rfind_any l s _ _ _ _ HL.out).mono ?_; rintro e w' ⟨rfl, hb⟩; rw [HK.out]))
  go_ret2
  exact ⟨rfl, hb⟩
end Go.Proofs.YteoheaahlokdiaaDoor
