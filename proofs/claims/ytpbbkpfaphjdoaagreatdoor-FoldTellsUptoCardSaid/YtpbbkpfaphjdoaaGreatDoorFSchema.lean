/- row.find, row.Find, row.Schema and val.Type, walked; the plain words of schemas. row.Schema, walked. -/
import Derived.Test.YtpbbkpfaphjdoaaGreatDoorFRowName
import Derived.Test.YtpbbkpfaphjdoaaGreatDoorFErr
import Derived.StillTailTactics
import Derived.Deep.QuietTactic
import Derived.BigQuiet
namespace Go.Proofs.YtpbbkpfaphjdoaaGreatDoor
open Go.ChangeShapes Go.WideShapes Go.ChangeAt Go.RowKit
structure Col where
 name : ByteArray
 type : Int
def colCells (c : Col) : List Value := [.string c.name, .int .i64 c.type]
def colsCells (l : List Col) : List Value := l.flatMap colCells
theorem colsCells_at : ∀ {l : List Col} {k : Nat} {c : Col}, l[k]? = some c → (colsCells l)[k * 2]? = some (.string c.name) ∧ (colsCells l)[k * 2 + 1]? = some (.int .i64 c.type)
 | x :: l, 0, c, h => by simp at h; subst h; exact ⟨rfl, rfl⟩
 | x :: l, k + 1, c, h => by
  have ih := colsCells_at (l := l) (k := k) (by simpa using h)
  have e : colsCells (x :: l) = .string x.name :: .int .i64 x.type :: colsCells l := rfl
  rw [e, show (k + 1) * 2 = k * 2 + 1 + 1 by omega]
  simpa using ih
 | [], k, c, h => by simp at h
def SeesCols (w : World) (A : Option Addr) (n c : Nat) (l : List Col) : Prop := l.length = n ∧ Sees w A n c 2 (colsCells l)
theorem SeesCols.keep {w w' : World} {A : Option Addr} {n c : Nat} {l : List Col} (h : SeesCols w A n c l) (hb : Below w.heap.size w w') : SeesCols w' A n c l := ⟨h.1, h.2.keep hb⟩
theorem SeesCols.at_ {w : World} {A : Option Addr} {n c : Nat} {l : List Col} (h : SeesCols w A n c l) {k : Nat} (hk : k < n) :
  ∃ g o x, A = some ⟨g, o, none⟩ ∧ g < w.heap.size ∧ l[k]? = some x ∧ w.cell? ⟨g, o + k * 2, none⟩ = some (.string x.name) ∧ w.cell? ⟨g, o + k * 2 + 1, none⟩ = some (.int .i64 x.type) := by
 obtain ⟨g, o, e, hg, hc⟩ := h.2.2.2.2.2 (by omega)
 have hl : l[k]? = some (l[k]'(by have := h.1; omega)) := List.getElem?_eq_getElem _
 obtain ⟨h1, h2⟩ := colsCells_at hl
 exact ⟨g, o, _, e, hg, hl, hc _ _ h1, hc _ _ h2⟩
def isName (s : ByteArray) (c : Col) : Bool := decide (c.name = s)
def findCol (l : List Col) (s : ByteArray) : Int := match l.findIdx? (isName s) with | some i => i | none => -1
theorem findCol_none {l : List Col} {s : ByteArray} (h : ∀ c ∈ l, isName s c = false) : findCol l s = -1 := by
 unfold findCol; rw [List.findIdx?_eq_none_iff.2 h]
theorem findCol_some {l : List Col} {s : ByteArray} {k : Nat} {c : Col} (h : ∀ x ∈ l.take k, isName s x = false) (hk : l[k]? = some c) (hc : isName s c = true) : findCol l s = k := by
 have : l.findIdx? (isName s) = some k := by
  obtain ⟨hlt, rfl⟩ := List.getElem?_eq_some_iff.1 hk
  rw [List.findIdx?_eq_some_iff_getElem]
  refine ⟨hlt, hc, fun j hj => ?_⟩
  have := h l[j] (List.mem_take_iff_getElem.2 ⟨j, by omega, rfl⟩)
  simp [this]
 unfold findCol; rw [this]
theorem str_beq (a b : ByteArray) : (a.toList == b.toList) = decide (a = b) := by
 rw [Lib.toList_data, Lib.toList_data]
 by_cases h : a = b
 ·simp [h]
 ·have : ¬ a.data.toList = b.data.toList := fun e => h (Go.WideShapes.bytes_inj e)
  rw [beq_eq_false_iff_ne.2 this, decide_eq_false h]
theorem vtype_any (t : Int) (w : World) :
  Calls Tryz.prog 52 #[.int .i64 t] w fun e w' => e = .returned (.bool (decide (1 ≤ t ∧ t ≤ 3))) ∧ w = w' := by
 by_cases h0 : 1 ≤ t
 ·by_cases h1 : t ≤ 3
  ·go_enter Tryz.func52, Tryz.ntmps52
   go_wp2
   go_ret
   exact ⟨by simp [h0, h1], rfl⟩
  ·go_enter Tryz.func52, Tryz.ntmps52
   go_wp2
   go_ret
   exact ⟨by simp; omega, rfl⟩
 ·go_enter Tryz.func52, Tryz.ntmps52
  go_wp2
  go_ret
  exact ⟨by simp; omega, rfl⟩
theorem rfind1_any (nm s : ByteArray) (t : Int) (b : Nat) (w : World) (hc : w.cell? ⟨b, 0, none⟩ = some (.string s)) (hlt : b < w.heap.size) :
  Calls Tryz.prog 123 #[.agg #[.string nm, .int .i64 t], .pointer (some ⟨b, 0, none⟩)] w fun e w' => e = .returned (.bool (nm.toList == s.toList)) ∧ Below w.heap.size w w' := by
 have hc' : (w.alloc (.cells #[.string nm, .int .i64 t] 103)).cell? ⟨b, 0, none⟩ = some (.string s) := by
  rw [World.cell?_alloc_lt _ _ ⟨b, 0, none⟩ hlt]; exact hc
 go_enter Tryz.func123, Tryz.ntmps123
 go_wp2
 go_ret
 exact ⟨rfl, ((Below.refl _ _).alloc (Nat.le_refl _) _)⟩
set_option maxHeartbeats 1000000 in
theorem rindex_any (l : List Col) (s : ByteArray) (A : Option Addr) (n c b : Nat) (w : World) (hl : SeesCols w A n c l) (hc : w.cell? ⟨b, 0, none⟩ = some (.string s)) (hlt : b < w.heap.size) :
  Calls Tryz.prog 122 #[.slice A n c, .func (.func 123) #[] #[.pointer (some ⟨b, 0, none⟩)]] w fun e w' => e = .returned (.int .i64 (findCol l s)) ∧ Below w.heap.size w w' := by
 have HL := Lib.hid hl
 have hcap := hl.2.2.1
 have hmax := hl.2.2.2.1
 unfold maxLen at hmax
 have HC := Lib.hid hc
 clear hl hc
 go_enter Tryz.func122, Tryz.ntmps122
 go_wp2_with fail
 go_loopw [5, 8] (fun _ i wr => ∃ k : Nat, k ≤ n ∧ i = .int .i64 k ∧ Below w.heap.size w wr ∧ ∀ x ∈ l.take k, isName s x = false) (fun _ i _ => n - (intOf i).toNat)
 case atStart => exact ⟨0, by omega, rfl, Below.refl _ _, by simp⟩
 case round =>
  obtain ⟨k, hk, rfl, hb, hno⟩ := hrel
  have HN := Lib.hid hno
  have HB := Lib.hid hb
  have hsz := hb.size
  clear hno
  by_cases hlk : k < n
  ·obtain ⟨g, o, x, rfl, hg, hx, c1, c2⟩ := (HL.out.keep hb).at_ hlk
   have cb : wr.cell? ⟨b, 0, none⟩ = some (.string s) := (hb.cell (p := ⟨b, 0, none⟩) hlt).trans HC.out
   have HX := Lib.hid hx
   clear hb hx
   by_cases hn : isName s x = true
   ·have e1 : (x.name.toList == s.toList) = true := by rw [str_beq]; exact hn
    have E := Lib.hid (findCol_some HN.out HX.out hn)
    clear hn
    go_wp2_with (first | (go_at_call 123; refine (rfind1_any _ _ _ _ _ cb (by omega)).mono ?_; rintro e w' ⟨rfl, hb2⟩))
    go_ret
    exact ⟨by rw [E.out]; rfl, below_step HB.out hb2⟩
   ·have hn' : isName s x = false := by simpa using hn
    have e1 : (x.name.toList == s.toList) = false := by rw [str_beq]; exact hn'
    have E := Lib.hid hn'
    clear hn hn'
    go_wp2_with (first | (go_at_call 123; refine (rfind1_any _ _ _ _ _ cb (by omega)).mono ?_; rintro e w' ⟨rfl, hb2⟩))
    go_roundw
    case rel => exact ⟨k + 1, by omega, by go_num, below_step HB.out hb2, fun y hy => by
     rw [List.take_add_one, HX.out] at hy
     rcases List.mem_append.1 hy with hy | hy
     ·exact HN.out y hy
     ·simp at hy; subst hy; exact E.out⟩
    case measure => simp [intOf]; omega
  ·have e : findCol l s = -1 := findCol_none (by have := HN.out; rwa [List.take_of_length_le (by rw [HL.out.1]; omega)] at this)
   have E := Lib.hid e
   clear e hb
   go_wp2_with fail
   go_ret
   exact ⟨by rw [E.out]; rfl, HB.out⟩
theorem rfind_any (l : List Col) (s : ByteArray) (A : Option Addr) (n c : Nat) (w : World) (hl : SeesCols w A n c l) :
  Calls Tryz.prog 53 #[.slice A n c, .string s] w fun e w' => e = .returned (.int .i64 (findCol l s)) ∧ Below w.heap.size w w' := by
 have hb0 : Below w.heap.size w (w.alloc (.cells #[.string s] 9)) := (Below.refl _ _).alloc (Nat.le_refl _) _
 have HL := Lib.hid (hl.keep hb0)
 have hc : (w.alloc (.cells #[.string s] 9)).cell? ⟨w.heap.size, 0, none⟩ = some (.string s) := by simp
 have HC := Lib.hid hc
 clear hl hc
 go_enter Tryz.func53, Tryz.ntmps53
 go_wp2_with (first | (go_at_call 122; refine (rindex_any l s _ _ _ _ _ HL.out HC.out (by simp)).mono ?_; rintro e w' ⟨rfl, hb⟩))
 go_ret
 exact ⟨rfl, below_step hb0 hb⟩
theorem rFind_none (l : List Col) (s : ByteArray) (A : Option Addr) (n c : Nat) (w : World) (hl : SeesCols w A n c l) (h : findCol l s < 0) :
  Calls Tryz.prog 119 #[.slice A n c, .string s] w fun e w' => e = .returned (.tuple #[.int .i64 0, .iface 32 (.int .i64 5)]) ∧ Below w.heap.size w w' := by
 have HL := Lib.hid hl
 clear hl
 generalize hk : findCol l s = k at h
 have HK := Lib.hid hk
 clear hk
 go_enter Tryz.func119, Tryz.ntmps119
 go_wp2_with (first | (go_at_call 53; refine (rfind_any l s _ _ _ _ HL.out).mono ?_; rintro e w' ⟨rfl, hb⟩; rw [HK.out]))
 go_ret2
 exact ⟨rfl, hb⟩
theorem rFind_some (l : List Col) (s : ByteArray) (A : Option Addr) (n c : Nat) (w : World) (hl : SeesCols w A n c l) (h : 0 ≤ findCol l s) :
  Calls Tryz.prog 119 #[.slice A n c, .string s] w fun e w' => e = .returned (.tuple #[.int .i64 (findCol l s), .nilIface]) ∧ Below w.heap.size w w' := by
 have HL := Lib.hid hl
 clear hl
 generalize hk : findCol l s = k at h ⊢
 have HK := Lib.hid hk
 clear hk
 go_enter Tryz.func119, Tryz.ntmps119
 go_wp2_with (first | (go_at_call 53; refine (rfind_any l s _ _ _ _ HL.out).mono ?_; rintro e w' ⟨rfl, hb⟩; rw [HK.out]))
 go_ret2
 exact ⟨rfl, hb⟩
end Go.Proofs.YtpbbkpfaphjdoaaGreatDoor
namespace Go.Proofs.YtpbbkpfaphjdoaaGreatDoor
open Go.ChangeShapes Go.WideShapes Go.ChangeAt Go.RowKit
def firstErr (f : Nat → Int) : Nat → Int
 | 0 => 0
 | n + 1 => if firstErr f n = 0 then f n else firstErr f n
theorem firstErr_hit {f : Nat → Int} {k : Nat} (h : firstErr f k = 0) (hk : f k ≠ 0) : ∀ m, k < m → firstErr f m = f k
 | 0, h' => by omega
 | m + 1, h' => by
  by_cases e : k = m
  ·subst e; simp [firstErr, h]
  ·have ih := firstErr_hit h hk m (by omega)
   unfold firstErr; rw [ih, if_neg hk]
theorem firstErr_next {f : Nat → Int} {k : Nat} (h : firstErr f k = 0) (hk : f k = 0) : firstErr f (k + 1) = 0 := by simp [firstErr, h, hk]
def schemaAt (l : List Col) (k : Nat) : Int := match l[k]? with
 | none => 0
 | some c => if nameOk c.name.data.toList = false then 2 else if ¬ (1 ≤ c.type ∧ c.type ≤ 3) then 1 else if 0 ≤ findCol (l.take k) c.name then 7 else 0
def schemaErr (l : List Col) : Int := if l.length = 0 then 5 else if 6 < l.length then 4 else firstErr (schemaAt l) l.length
theorem colsCells_take (l : List Col) (k : Nat) : colsCells (l.take k) = (colsCells l).take (k * 2) := by
 induction l generalizing k with
 | nil => simp [colsCells]
 | cons c l ih =>
  cases k with
  | zero => simp [colsCells]
  | succ k =>
   have e : colsCells (c :: l) = .string c.name :: .int .i64 c.type :: colsCells l := rfl
   have e2 : colsCells ((c :: l).take (k + 1)) = .string c.name :: .int .i64 c.type :: colsCells (l.take k) := rfl
   rw [e, e2, ih, show (k + 1) * 2 = k * 2 + 1 + 1 by omega]
   rfl
theorem SeesCols.take {w : World} {A : Option Addr} {n c k : Nat} {l : List Col} (h : SeesCols w A n c l) (hk : k ≤ n) : SeesCols w A k c (l.take k) := by
 obtain ⟨h0, h1, h2, h3, h4, h5⟩ := h
 refine ⟨by rw [List.length_take]; omega, by rw [colsCells_take, List.length_take]; omega, by omega, h3, fun e => ?_, fun hp => ?_⟩
 ·have := h4 e; omega
 ·obtain ⟨g, o, e, hg, hc⟩ := h5 (by omega)
  refine ⟨g, o, e, hg, fun j u hu => hc j u ?_⟩
  rw [colsCells_take, List.getElem?_take] at hu
  split at hu
  ·exact hu
  ·cases hu
set_option maxHeartbeats 1000000 in
set_option maxRecDepth 100000 in
theorem rschema_any (l : List Col) (A : Option Addr) (n c : Nat) (w : World) (hl : SeesCols w A n c l) (hs : ∀ x ∈ l, x.name.size ≤ maxLen) :
  Calls Tryz.prog 12 #[.slice A n c] w fun e w' => e = .returned (errV (schemaErr l)) ∧ Below w.heap.size w w' := by
 have HL := Lib.hid hl
 have HS := Lib.hid hs
 have hcap := hl.2.2.1
 have hmax := hl.2.2.2.1
 have hlen := hl.1
 unfold maxLen at hmax
 clear hl hs
 by_cases h0 : n = 0
 ·subst h0
  have E : Hid (errV (schemaErr l) = .iface 32 (.int .i64 5)) := by unfold schemaErr; rw [if_pos hlen]; rfl
  clear hlen
  go_enter Tryz.func12, Tryz.ntmps12
  go_wp2
  go_ret
  exact ⟨by rw [E.out]; rfl, Below.refl _ _⟩
 ·by_cases h6 : 6 < n
  ·have E : Hid (errV (schemaErr l) = .iface 32 (.int .i64 4)) := by unfold schemaErr; rw [if_neg (by omega), if_pos (by omega)]; rfl
   have e1 : ((n : Int) == 0) = false := by simp; omega
   clear hlen h0
   go_enter Tryz.func12, Tryz.ntmps12
   go_wp2
   go_ret
   exact ⟨by rw [E.out]; rfl, Below.refl _ _⟩
  ·have E := Lib.hid (show schemaErr l = firstErr (schemaAt l) n by unfold schemaErr; rw [if_neg (by omega), if_neg (by omega), hlen])
   have e1 : ((n : Int) == 0) = false := by simp; omega
   have e2 : n ≤ 6 := by omega
   clear hlen h0 h6
   go_enter Tryz.func12, Tryz.ntmps12
   go_wp2_with fail
   clear e1
   go_loopw [17] (fun i wr => ∃ k : Nat, k ≤ n ∧ i = .int .i64 k ∧ Below w.heap.size w wr ∧ firstErr (schemaAt l) k = 0) (fun i _ => n - (intOf i).toNat)
   case atStart => exact ⟨0, by omega, rfl, Below.refl _ _, rfl⟩
   case round =>
    obtain ⟨k, hk, rfl, hb, hno⟩ := hrel
    have HN := Lib.hid hno
    have HB := Lib.hid hb
    have hsz := hb.size
    clear hno
    by_cases hlk : k < n
    ·obtain ⟨g, o, x, rfl, hg, hx, c1, c2⟩ := (HL.out.keep hb).at_ hlk
     have HX := Lib.hid hx
     have HT := Lib.hid ((HL.out.keep hb).take (Nat.le_of_lt hlk))
     have hxs := HS.out x (List.mem_of_getElem? hx)
     have hsA : schemaAt l k = if nameOk x.name.data.toList = false then 2 else if ¬ (1 ≤ x.type ∧ x.type ≤ 3) then 1 else if 0 ≤ findCol (l.take k) x.name then 7 else 0 := by
      unfold schemaAt; rw [hx]
     have HA := Lib.hid hsA
     clear hb hx hsA
     by_cases hn : nameOk x.name.data.toList = true
     ·by_cases ht : 1 ≤ x.type ∧ x.type ≤ 3
      ·obtain ⟨ht1, ht2⟩ := ht
       have et : decide (1 ≤ x.type ∧ x.type ≤ 3) = true := by simp; omega
       generalize hf : findCol (l.take k) x.name = z at HA
       have HF := Lib.hid hf
       have HNm := Lib.hid hn
       clear hf hn
       go_wp2_with (first
        | (go_at_call 51; refine (rname_any _ _ hxs).mono ?_; rintro e w1 ⟨rfl, hb1⟩; rw [HNm.out]; have cx1 : w1.cell? ⟨wr.heap.size, 0, none⟩ = some (.string x.name) := (hb1.cell (p := ⟨wr.heap.size, 0, none⟩) (by simp)).trans (by simp); have cx2 : w1.cell? ⟨wr.heap.size, 1, none⟩ = some (.int .i64 x.type) := (hb1.cell (p := ⟨wr.heap.size, 1, none⟩) (by simp)).trans (by simp); have HB1 := Lib.hid hb1; clear hb1)
        | (go_at_call 52; refine (vtype_any _ _).mono ?_; rintro e w' ⟨rfl, rfl⟩; rw [et]))
       have HT1 := Lib.hid ((HT.out.keep ((Below.refl wr.heap.size wr).alloc (Nat.le_refl _) _)).keep HB1.out)
       have HB2 := Lib.hid (below_step (below_step HB.out ((Below.refl wr.heap.size wr).alloc (Nat.le_refl _) _)) HB1.out)
       have hkc : k ≤ c := by omega
       have hkc' : (k : Int) ≤ (c : Int) := by omega
       have hkc2 : ¬ c < k := by omega
       go_still_tail 5, (by kernel_rfl)
       change wpList _ _ _ _ _ w1.drew
       have HT2 := Lib.hid (show SeesCols w1.drew _ _ _ _ from HT1.out)
       have HB3 := Lib.hid (HB2.out.drew)
       generalize w1.drew = w2 at HT2 HB3 ⊢
       by_cases hz : 0 ≤ z
       ·have ER := Lib.hid (show schemaErr l = 7 by
         have h7 : schemaAt l k = 7 := by rw [HA.out, if_neg (by rw [HNm.out]; simp), if_neg (by simp; omega), if_pos hz]
         rw [E.out, firstErr_hit HN.out (by rw [h7]; decide) n hlk, h7])
        go_wp2_with (first | (go_at_call 53; refine (rfind_any _ _ _ _ _ _ HT2.out).mono ?_; rintro e w3 ⟨rfl, hb3⟩; rw [HF.out]))
        go_ret
        exact ⟨by rw [ER.out]; rfl, below_step HB3.out hb3⟩
       ·have h0 := Lib.hid (show schemaAt l k = 0 by rw [HA.out, if_neg (by rw [HNm.out]; simp), if_neg (by simp; omega), if_neg hz])
        go_wp2_with (first | (go_at_call 53; refine (rfind_any _ _ _ _ _ _ HT2.out).mono ?_; rintro e w3 ⟨rfl, hb3⟩; rw [HF.out]))
        go_roundw
        case rel => exact ⟨k + 1, by omega, by go_num, below_step HB3.out hb3, firstErr_next HN.out h0.out⟩
        case measure => simp [intOf]; omega
      ·have et : decide (1 ≤ x.type ∧ x.type ≤ 3) = false := by simpa using ht
       have ER := Lib.hid (show schemaErr l = 1 by
        have h7 : schemaAt l k = 1 := by rw [HA.out, if_neg (by rw [hn]; simp), if_pos ht]
        rw [E.out, firstErr_hit HN.out (by rw [h7]; decide) n hlk, h7])
       have HNm := Lib.hid hn
       clear hn ht HA
       go_wp2_with (first
        | (go_at_call 51; refine (rname_any _ _ hxs).mono ?_; rintro e w1 ⟨rfl, hb1⟩; rw [HNm.out]; have cx2 : w1.cell? ⟨wr.heap.size, 1, none⟩ = some (.int .i64 x.type) := (hb1.cell (p := ⟨wr.heap.size, 1, none⟩) (by simp)).trans (by simp); have HB1 := Lib.hid hb1; clear hb1)
        | (go_at_call 52; refine (vtype_any _ _).mono ?_; rintro e w' ⟨rfl, rfl⟩; rw [et]))
       go_ret
       exact ⟨by rw [ER.out]; rfl, below_step (below_step HB.out ((Below.refl wr.heap.size wr).alloc (Nat.le_refl _) _)) HB1.out⟩
     ·have hn' : nameOk x.name.data.toList = false := by simpa using hn
      have ER := Lib.hid (show schemaErr l = 2 by
       have h7 : schemaAt l k = 2 := by rw [HA.out, if_pos hn']
       rw [E.out, firstErr_hit HN.out (by rw [h7]; decide) n hlk, h7])
      have HNm := Lib.hid hn'
      clear hn hn' HA
      go_wp2_with (first
       | (go_at_call 51; refine (rname_any _ _ hxs).mono ?_; rintro e w1 ⟨rfl, hb1⟩; rw [HNm.out]; have HB1 := Lib.hid hb1; clear hb1))
      go_ret
      exact ⟨by rw [ER.out]; rfl, below_step (below_step HB.out ((Below.refl wr.heap.size wr).alloc (Nat.le_refl _) _)) HB1.out⟩
    ·obtain rfl : n = k := by omega
     have ER := Lib.hid (show schemaErr l = 0 by rw [E.out]; exact HN.out)
     go_wp2_with fail
     go_ret
     exact ⟨by rw [ER.out]; rfl, HB.out⟩
end Go.Proofs.YtpbbkpfaphjdoaaGreatDoor
