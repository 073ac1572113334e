/- The document's answer (package sluiceref1), walked: plain, Val, Letters, Word, Name, Find, Schema, signs, Arity say what the program says. -/
import Derived.Test.YtpbbkpfaphjdoaaGreatDoorFSchema
import Derived.Test.YtpbbkpfaphjdoaaGreatDoorFTreeName
import Derived.Test.YtpbbkpfaphjdoaaGreatDoorFArity
import Derived.Test.YtpbbkpfaphjdoaaGreatDoorFVals
import Derived.Test.YtpbbkpfaphjdoaaGreatDoorFRefVal
namespace Go.Proofs.YtpbbkpfaphjdoaaGreatDoor
open Go.ChangeShapes Go.WideShapes Go.ChangeAt Go.RowKit
set_option maxHeartbeats 1000000 in
theorem rletters_any (s : ByteArray) (w : World) (hs : s.size ≤ maxLen) :
  Calls Tryz.prog 137 #[.string s] w fun e w' => e = .returned (.bool (nameOk s.data.toList)) ∧ w = w' := by
 have hsz' := Lib.hid (size_eq s)
 unfold maxLen at hs
 by_cases h0 : s.data.toList = []
 ·have e0 := str_empty h0
  have E := Lib.hid (show nameOk s.data.toList = false by unfold nameOk; rw [h0]; rfl)
  clear h0
  go_enter Tryz.func137, Tryz.ntmps137
  go_wp2_with fail
  go_ret
  exact ⟨by rw [E.out]; rfl, rfl⟩
 have e0 := str_some h0
 by_cases h8 : 8 < s.size
 ·have d8 : decide (8 < (s.size : Int)) = true := decide_eq_true (by omega)
  have E := Lib.hid (show nameOk s.data.toList = false by unfold nameOk; rw [size_eq]; simp; intro _ _; omega)
  clear h0 h8
  go_enter Tryz.func137, Tryz.ntmps137
  go_wp2_with fail
  go_ret
  exact ⟨by rw [E.out]; rfl, rfl⟩
 have d8 : decide (8 < (s.size : Int)) = false := decide_eq_false (by omega)
 have HO := Lib.hid (show (!s.data.toList.isEmpty && decide (s.data.toList.length ≤ 8)) = true by
  rw [size_eq]
  simp only [Bool.and_eq_true, Bool.not_eq_true', decide_eq_true_eq]
  exact ⟨by cases hh : s.data.toList with | nil => exact absurd hh h0 | cons _ _ => rfl, by omega⟩)
 clear h0 h8
 go_enter Tryz.func137, Tryz.ntmps137
 go_wp2_with fail
 go_loop [2, 3] (fun _ i => ∃ k : Nat, k ≤ s.size ∧ i = .int .i64 k ∧ (s.data.toList.take k).all letterB = true) (fun _ i => s.size - (intOf i).toNat)
 case atStart => exact ⟨0, by omega, rfl, by simp⟩
 case round =>
  obtain ⟨k, hk, rfl, hall⟩ := hrel
  have HA := Lib.hid hall
  clear hall
  by_cases hlt : k < s.size
  ·obtain ⟨b, hb⟩ : ∃ b, s.data.toList[k]? = some b := ⟨_, List.getElem?_eq_getElem (by rw [hsz'.out]; exact hlt)⟩
   have HB := Lib.hid hb
   have eb := byte_at hlt hb
   have hr : (b.toNat : Int) < 256 := by have := UInt8.toNat_lt b; omega
   clear hb
   by_cases hL : letterB b = true
   ·have q : 97 ≤ (b.toNat : Int) ∧ (b.toNat : Int) ≤ 122 := by
     unfold letterB at hL; simp only [Bool.and_eq_true, decide_eq_true_eq] at hL; omega
    have HL := Lib.hid hL
    clear hL
    obtain ⟨q1, q2⟩ := q
    have d1 : decide ((b.toNat : Int) < 97) = false := by simp; omega
    have d2 : decide (122 < (b.toNat : Int)) = false := by simp; omega
    go_wp2_with fail
    go_round
    case rel => exact ⟨k + 1, by omega, by go_num, all_take_succ HA.out HB.out HL.out⟩
    case measure => simp [intOf]; omega
   ·have E := Lib.hid (all_false HB.out (by simpa using hL))
    by_cases h1 : (b.toNat : Int) < 97
    ·have d1 : decide ((b.toNat : Int) < 97) = true := decide_eq_true h1
     clear hL h1
     go_wp2_with fail
     go_ret
     exact ⟨by unfold nameOk; rw [E.out, HO.out]; rfl, rfl⟩
    ·have d1 : decide ((b.toNat : Int) < 97) = false := decide_eq_false h1
     have d2 : decide (122 < (b.toNat : Int)) = true := by
      refine decide_eq_true ?_
      by_cases h2 : 122 < (b.toNat : Int)
      ·exact h2
      ·exact absurd (by unfold letterB; simp only [Bool.and_eq_true, decide_eq_true_eq]; omega) hL
     clear hL h1
     go_wp2_with fail
     go_ret
     exact ⟨by unfold nameOk; rw [E.out, HO.out]; rfl, rfl⟩
  ·have hall : s.data.toList.all letterB = true := by have := HA.out; rwa [List.take_of_length_le (by rw [hsz'.out]; omega)] at this
   have E := Lib.hid hall
   clear hall HA
   go_wp2_with fail
   go_ret
   exact ⟨by unfold nameOk; rw [E.out, HO.out]; rfl, rfl⟩
theorem contains_hit {zs : List ByteArray} {k : Nat} {s : ByteArray} (h : zs[k]? = some s) : Lib.containsS zs s = true := (Lib.containsS_iff zs s).2 (List.mem_of_getElem? h)
theorem contains_none {zs : List ByteArray} {s : ByteArray} (h : ∀ x ∈ zs, x ≠ s) : Lib.containsS zs s = false := by
 cases hh : Lib.containsS zs s with
 | false => rfl
 | true => exact absurd rfl (h s ((Lib.containsS_iff zs s).1 hh))
theorem strs_at {w : World} {A : Option Addr} {n c : Nat} {zs : List ByteArray} (h : Sees w A n c 1 (strCells zs)) {k : Nat} (hk : k < n) :
  ∃ g o z, A = some ⟨g, o, none⟩ ∧ zs[k]? = some z ∧ w.cell? ⟨g, o + k, none⟩ = some (.string z) := by
 obtain ⟨g, o, u, e, hu, hc⟩ := h.at_ hk
 obtain ⟨z, hz, rfl⟩ := strCells_at hu
 exact ⟨g, o, z, e, hz, hc⟩
theorem strCells_len {w : World} {A : Option Addr} {n c : Nat} {zs : List ByteArray} (h : Sees w A n c 1 (strCells zs)) : zs.length = n := by have := h.1; simpa [strCells] using this
theorem ne_next {zs : List ByteArray} {s z : ByteArray} {k : Nat} (h : ∀ x ∈ zs.take k, x ≠ s) (hk : zs[k]? = some z) (hz : z ≠ s) : ∀ x ∈ zs.take (k + 1), x ≠ s := by
 intro x hx
 rw [List.take_add_one, hk] at hx
 rcases List.mem_append.1 hx with hx | hx
 ·exact h x hx
 ·simp at hx; subst hx; exact hz
set_option maxHeartbeats 1000000 in
theorem rword_any (s : ByteArray) (w : World) :
  Calls Tryz.prog 178 #[.string s] w fun e w' => e = .returned (.bool (Lib.containsS wordsB s)) ∧ Below w.heap.size w w' := by
 obtain ⟨w0, hw0⟩ : ∃ w0, w.alloc (.cells #[(.string ⟨#[111, 114]⟩), (.string ⟨#[97, 110, 100]⟩), (.string ⟨#[110, 111, 116]⟩), (.string ⟨#[116, 114, 117, 101]⟩), (.string ⟨#[102, 97, 108, 115, 101]⟩), (.string ⟨#[108, 101, 110]⟩), (.string ⟨#[105, 102]⟩), (.string ⟨#[115, 101, 108, 101, 99, 116]⟩), (.string ⟨#[97, 115]⟩), (.string ⟨#[102, 114, 111, 109]⟩), (.string ⟨#[119, 104, 101, 114, 101]⟩), (.string ⟨#[103, 114, 111, 117, 112]⟩), (.string ⟨#[98, 121]⟩), (.string ⟨#[119, 105, 110, 100, 111, 119]⟩), (.string ⟨#[115, 108, 105, 100, 101]⟩), (.string ⟨#[99, 111, 117, 110, 116]⟩), (.string ⟨#[115, 117, 109]⟩), (.string ⟨#[108, 101, 97, 115, 116]⟩), (.string ⟨#[109, 111, 115, 116]⟩)] 9) = w0 := ⟨_, rfl⟩
 have hs : Sees w0 (some ⟨w.heap.size, 0, none⟩) 19 19 1 (strCells wordsB) := by rw [← hw0]; exact seesNew w (strCells wordsB) _ 19 1 rfl (by decide)
 have hb : Below w.heap.size w w0 := by rw [← hw0]; exact belowNew _ _
 have HS := Lib.hid hs
 have HB := Lib.hid hb
 have HW0 := Lib.hid hw0
 clear hs hb hw0
 go_enter Tryz.func178, Tryz.ntmps178
 go_wp2_with (first | rw [HW0.out])
 go_loop [2, 4] (fun _ i => ∃ k : Nat, k ≤ 19 ∧ i = .int .i64 k ∧ ∀ x ∈ wordsB.take k, x ≠ s) (fun _ i => 19 - (intOf i).toNat)
 case atStart => exact ⟨0, by omega, rfl, by simp⟩
 case round =>
  obtain ⟨k, hk, rfl, hno⟩ := hrel
  have HN := Lib.hid hno
  clear hno
  by_cases hlk : k < 19
  ·obtain ⟨g, o, z, e, hz, c1⟩ := strs_at HS.out hlk
   cases e
   rw [Nat.zero_add] at c1
   have HZ := Lib.hid hz
   clear hz
   by_cases hzs : z = s
   ·subst hzs
    have E := Lib.hid (contains_hit HZ.out)
    have e1 : (z.toList == z.toList) = true := by simp
    go_wp2_with fail
    go_ret
    exact ⟨by rw [E.out]; rfl, HB.out⟩
   ·have e1 : (z.toList == s.toList) = false := by rw [str_beq]; simpa using hzs
    have E := Lib.hid (ne_next HN.out HZ.out hzs)
    clear hzs
    go_wp2_with fail
    go_round
    case rel => exact ⟨k + 1, by omega, by go_num, E.out⟩
    case measure => simp [intOf]; omega
  ·have E := Lib.hid (contains_none (zs := wordsB) (s := s) (by have := HN.out; rwa [List.take_of_length_le (show wordsB.length ≤ k by show 19 ≤ k; omega)] at this))
   go_wp2_with fail
   go_ret
   exact ⟨by rw [E.out]; rfl, HB.out⟩
theorem rtname_any (s : ByteArray) (w : World) (hs : s.size ≤ maxLen) :
  Calls Tryz.prog 130 #[.string s] w fun e w' => e = .returned (.bool (treeName s)) ∧ Below w.heap.size w w' := by
 have T1 := Lib.hid (rletters_any s w hs)
 have T2 := Lib.hid (rword_any s w)
 unfold treeName
 clear hs
 generalize nameOk s.data.toList = a at T1 ⊢
 generalize Lib.containsS wordsB s = b at T2 ⊢
 cases a
 all_goals
  go_enter Tryz.func130, Tryz.ntmps130
  go_wp2_with fail
  refine (T1.out).mono ?_
  rintro e w' ⟨rfl, rfl⟩
  go_wp2_with fail
  refine (T2.out).mono ?_
  rintro e w' ⟨rfl, hb⟩
  go_wp2_with fail
  go_ret
  exact ⟨rfl, hb⟩
set_option maxHeartbeats 1000000 in
theorem rfindR_any (l : List Col) (s : ByteArray) (A : Option Addr) (n c : Nat) (w : World) (hl : SeesCols w A n c l) :
  Calls Tryz.prog 70 #[.slice A n c, .string s] w fun e w' => e = .returned (.int .i64 (findCol l s)) ∧ w = w' := by
 have HL := Lib.hid hl
 have hcap := hl.2.2.1
 have hmax := hl.2.2.2.1
 unfold maxLen at hmax
 clear hl
 go_enter Tryz.func70, Tryz.ntmps70
 go_wp2_with fail
 go_loop [4, 5] (fun _ i => ∃ k : Nat, k ≤ n ∧ i = .int .i64 k ∧ ∀ x ∈ l.take k, isName s x = false) (fun _ i => n - (intOf i).toNat)
 case atStart => exact ⟨0, by omega, rfl, by simp⟩
 case round =>
  obtain ⟨k, hk, rfl, hno⟩ := hrel
  have HN := Lib.hid hno
  clear hno
  by_cases hlk : k < n
  ·obtain ⟨g, o, x, rfl, hg, hx, c1, c2⟩ := HL.out.at_ hlk
   have HX := Lib.hid hx
   clear hx
   by_cases hn : isName s x = true
   ·have e1 : (x.name.toList == s.toList) = true := by rw [str_beq]; exact hn
    have E := Lib.hid (findCol_some HN.out HX.out hn)
    clear hn
    go_wp2_with fail
    go_ret
    exact ⟨by rw [E.out]; rfl, rfl⟩
   ·have hn' : isName s x = false := by simpa using hn
    have e1 : (x.name.toList == s.toList) = false := by rw [str_beq]; exact hn'
    have E := Lib.hid hn'
    clear hn hn'
    go_wp2_with fail
    go_round
    case rel => exact ⟨k + 1, by omega, by go_num, take_next HN.out HX.out E.out⟩
    case measure => simp [intOf]; omega
  ·have E := Lib.hid (findCol_none (l := l) (s := s) (by have := HN.out; rwa [List.take_of_length_le (by rw [HL.out.1]; omega)] at this))
   go_wp2_with fail
   go_ret
   exact ⟨by rw [E.out]; rfl, rfl⟩
theorem findCol_get' {l : List Col} {s : ByteArray} (h : 0 ≤ findCol l s) : ∃ (k : Nat) (x : Col), findCol l s = k ∧ l[k]? = some x ∧ x.name = s := by
 unfold findCol at h ⊢
 cases hh : l.findIdx? (isName s) with
 | none => rw [hh] at h; simp at h
 | some i =>
  obtain ⟨hi, h1, _⟩ := List.findIdx?_eq_some_iff_getElem.1 hh
  exact ⟨i, l[i], rfl, List.getElem?_eq_getElem hi, by simpa [isName] using h1⟩
theorem findCol_first {l : List Col} {k : Nat} {x : Col} (hx : l[k]? = some x) : findCol l x.name ≠ k ↔ 0 ≤ findCol (l.take k) x.name := by
 have hself : isName x.name x = true := by simp [isName]
 constructor
 ·intro h
  by_cases hn : ∀ y ∈ l.take k, isName x.name y = false
  ·exact absurd (findCol_some hn hx hself) h
  ·unfold findCol
   cases hh : (l.take k).findIdx? (isName x.name) with
   | none => exact absurd (List.findIdx?_eq_none_iff.1 hh) (by simpa using hn)
   | some i => simp
 ·intro h e
  obtain ⟨j, y, hj, hy, hyn⟩ := findCol_get' h
  have hjk : j < k := by have := (List.getElem?_eq_some_iff.1 hy).1; simp at this; omega
  have hy2 : l[j]? = some y := by rw [List.getElem?_take_of_lt hjk] at hy; exact hy
  have hh : l.findIdx? (isName x.name) = some k := by
   unfold findCol at e
   cases hh : l.findIdx? (isName x.name) with
   | none => rw [hh] at e; exact absurd (show (-1 : Int) = k from e) (by omega)
   | some i => rw [hh] at e; congr 1; exact Int.ofNat.inj e
  obtain ⟨_, _, h3⟩ := List.findIdx?_eq_some_iff_getElem.1 hh
  have := h3 j hjk
  obtain ⟨hl, rfl⟩ := List.getElem?_eq_some_iff.1 hy2
  simp [isName, hyn] at this
set_option maxHeartbeats 1000000 in
theorem rschemaR_any (l : List Col) (A : Option Addr) (n c : Nat) (w : World) (hl : SeesCols w A n c l) (hs : ∀ x ∈ l, x.name.size ≤ maxLen) :
  Calls Tryz.prog 67 #[.slice A n c] w fun e w' => e = .returned (.int .i64 (schemaErr l)) ∧ w = w' := by
 have HL := Lib.hid hl
 have HS := Lib.hid hs
 have hcap := hl.2.2.1
 have hmax := hl.2.2.2.1
 have hlen := Lib.hid hl.1
 unfold maxLen at hmax
 have E0 := Lib.hid (show schemaErr l = if l.length = 0 then 5 else if 6 < l.length then 4 else firstErr (schemaAt l) l.length from rfl)
 rw [hlen.out] at E0
 clear hl hs
 by_cases h0 : n = 0
 ·have E := Lib.hid (show schemaErr l = 5 by rw [E0.out, if_pos h0])
  clear E0
  subst h0
  go_enter Tryz.func67, Tryz.ntmps67
  go_wp2_with fail
  go_ret
  exact ⟨by rw [E.out]; rfl, rfl⟩
 have d0 : ((n : Int) == 0) = false := by simp; omega
 by_cases h6 : 6 < n
 ·have d6 : decide (6 < (n : Int)) = true := decide_eq_true (by omega)
  have E := Lib.hid (show schemaErr l = 4 by rw [E0.out, if_neg h0, if_pos h6])
  clear h0 h6
  go_enter Tryz.func67, Tryz.ntmps67
  go_wp2_with fail
  go_ret
  exact ⟨by rw [E.out]; rfl, rfl⟩
 have d6 : decide (6 < (n : Int)) = false := decide_eq_false (by omega)
 have E := Lib.hid (show schemaErr l = firstErr (schemaAt l) n by rw [E0.out, if_neg h0, if_neg h6])
 clear E0
 go_enter Tryz.func67, Tryz.ntmps67
 go_wp2_with fail
 go_loop [2, 3] (fun _ i => ∃ k : Nat, k ≤ n ∧ i = .int .i64 k ∧ firstErr (schemaAt l) k = 0) (fun _ i => n - (intOf i).toNat)
 case atStart => exact ⟨0, by omega, rfl, rfl⟩
 case round =>
  obtain ⟨k, hk, rfl, hno⟩ := hrel
  have HN := Lib.hid hno
  clear hno
  by_cases hlk : k < n
  ·obtain ⟨g, o, x, rfl, hg, hx, c1, c2⟩ := HL.out.at_ hlk
   have HX := Lib.hid hx
   have HSA := Lib.hid (show schemaAt l k = if nameOk x.name.data.toList = false then 2 else if ¬ (1 ≤ x.type ∧ x.type ≤ 3) then 1 else if 0 ≤ findCol (l.take k) x.name then 7 else 0 by unfold schemaAt; rw [hx])
   have FF := Lib.hid (findCol_first hx)
   have TL := Lib.hid (rletters_any x.name w (HS.out x (List.mem_of_getElem? hx)))
   have TF := Lib.hid (rfindR_any l x.name _ n c w HL.out)
   clear hx
   generalize nameOk x.name.data.toList = nk at TL HSA
   generalize findCol l x.name = fc at TF FF
   generalize findCol (l.take k) x.name = ft at HSA FF
   cases nk with
   | false =>
    have EH := Lib.hid (firstErr_hit HN.out (show schemaAt l k ≠ 0 by rw [HSA.out, if_pos rfl]; decide) n hlk)
    have ES := Lib.hid (show schemaAt l k = 2 by rw [HSA.out, if_pos rfl])
    go_wp2_with fail
    refine (TL.out).mono ?_
    rintro e w' ⟨rfl, rfl⟩
    go_wp2_with fail
    go_ret
    exact ⟨by rw [E.out, EH.out, ES.out]; rfl, rfl⟩
   | true =>
    by_cases ht : 1 ≤ x.type ∧ x.type ≤ 3
    ·have t1 : decide (x.type < 1) = false := decide_eq_false (by omega)
     have t2 : decide (3 < x.type) = false := decide_eq_false (by omega)
     by_cases hf : 0 ≤ ft
     ·have EH := Lib.hid (firstErr_hit HN.out (show schemaAt l k ≠ 0 by rw [HSA.out, if_neg (by decide), if_neg (by simp [ht]), if_pos hf]; decide) n hlk)
      have ES := Lib.hid (show schemaAt l k = 7 by rw [HSA.out, if_neg (by decide), if_neg (by simp [ht]), if_pos hf])
      have e1 : (fc != (k : Int)) = true := by simpa using FF.out.2 hf
      clear ht hf
      go_wp2_with fail
      refine (TL.out).mono ?_
      rintro e w' ⟨rfl, rfl⟩
      go_wp2_with fail
      refine (TF.out).mono ?_
      rintro e w' ⟨rfl, rfl⟩
      go_wp2_with fail
      go_ret
      exact ⟨by rw [E.out, EH.out, ES.out]; rfl, rfl⟩
     ·have ES := Lib.hid (firstErr_next HN.out (show schemaAt l k = 0 by rw [HSA.out, if_neg (by decide), if_neg (by simp [ht]), if_neg hf]))
      have e1 : (fc != (k : Int)) = false := by
       by_cases h : fc = k
       ·simp [h]
       ·exact absurd (FF.out.1 h) hf
      clear ht hf
      go_wp2_with fail
      refine (TL.out).mono ?_
      rintro e w' ⟨rfl, rfl⟩
      go_wp2_with fail
      refine (TF.out).mono ?_
      rintro e w' ⟨rfl, rfl⟩
      go_wp2_with fail
      go_round
      case rel => exact ⟨k + 1, by omega, by go_num, ES.out⟩
      case measure => simp [intOf]; omega
    ·have EH := Lib.hid (firstErr_hit HN.out (show schemaAt l k ≠ 0 by rw [HSA.out, if_neg (by decide), if_pos ht]; decide) n hlk)
     have ES := Lib.hid (show schemaAt l k = 1 by rw [HSA.out, if_neg (by decide), if_pos ht])
     by_cases h1 : x.type < 1
     ·have t1 : decide (x.type < 1) = true := decide_eq_true h1
      clear ht h1
      go_wp2_with fail
      refine (TL.out).mono ?_
      rintro e w' ⟨rfl, rfl⟩
      go_wp2_with fail
      go_ret
      exact ⟨by rw [E.out, EH.out, ES.out]; rfl, rfl⟩
     ·have t1 : decide (x.type < 1) = false := decide_eq_false h1
      have t2 : decide (3 < x.type) = true := decide_eq_true (by omega)
      clear ht h1
      go_wp2_with fail
      refine (TL.out).mono ?_
      rintro e w' ⟨rfl, rfl⟩
      go_wp2_with fail
      go_ret
      exact ⟨by rw [E.out, EH.out, ES.out]; rfl, rfl⟩
  ·obtain rfl : n = k := by omega
   go_wp2_with fail
   go_ret
   exact ⟨by rw [E.out, HN.out]; rfl, rfl⟩
end Go.Proofs.YtpbbkpfaphjdoaaGreatDoor
