/- The document's reading of numbers and values (sluiceref1.Number, Read), walked. -/
import Derived.Test.YtpbbkpfaphjdoaaGreatDoorNumLaw
import Derived.Test.YtpbbkpfaphjdoaaGreatDoorRefVal
import Derived.Test.YtpbbkpfaphjdoaaGreatDoorLexNum
import Derived.Test.YtpbbkpfaphjdoaaGreatDoorOwn3
import Derived.Test.YtpbbkpfaphjdoaaGreatDoorArity
namespace Go.Proofs.YtpbbkpfaphjdoaaGreatDoor
open Go.ChangeShapes Go.WideShapes Go.ChangeAt Go.RowKit

def numSays (o : Option Nat) (w : World) (e : Ending) (w' : World) : Prop := e = .returned (.tuple #[.int .i64 ((o.getD 0 : Nat) : Int), .bool o.isSome]) ∧ w = w'
theorem numP_none {l : List UInt8} (h : l = [] ∨ (l.head? = some 48 ∧ 1 < l.length) ∨ 19 < l.length ∨ l.all isD = false ∨ 9223372036854775807 < decN l) : numP l = none := by unfold numP; rw [if_pos h]
theorem numP_mid {l : List UInt8} (h0 : ¬ l = []) (h48 : ¬ (l.head? = some 48 ∧ 1 < l.length)) (h19 : ¬ 19 < l.length) : numP l = if l.all isD = true ∧ decN l ≤ 9223372036854775807 then some (decN l) else none := by
  by_cases hc : l.all isD = true ∧ decN l ≤ 9223372036854775807
  · rw [if_pos hc]
    unfold numP
    rw [if_neg]
    rintro (h | h | h | h | h)
    · exact h0 h
    · exact h48 h
    · exact h19 h
    · rw [hc.1] at h; cases h
    · omega
  · rw [if_neg hc]
    apply numP_none
    by_cases ha : l.all isD = true
    · exact Or.inr (Or.inr (Or.inr (Or.inr (by
        have : ¬ decN l ≤ 9223372036854775807 := fun h => hc ⟨ha, h⟩
        omega))))
    · exact Or.inr (Or.inr (Or.inr (Or.inl (by simpa using ha))))
theorem decN_take {l : List UInt8} {k : Nat} {b : UInt8} (h : l[k]? = some b) : decN (l.take (k + 1)) = decN (l.take k) * 10 + (b.toNat - 48) := by
  rw [List.take_add_one, h]; exact decN_snoc _ _
theorem pow10_mono {n m : Nat} (h : n ≤ m) : 10 ^ n ≤ 10 ^ m := Nat.pow_le_pow_right (by omega) h
set_option maxHeartbeats 2000000 in
set_option maxRecDepth 100000 in
theorem rnumber_any (s : ByteArray) (hs : s.size ≤ maxLen) (w : World) :
    Calls Tryz.prog 91 #[.string s] w (numSays (numP s.data.toList) w) := by
  have hsz := size_eq s
  unfold maxLen at hs
  by_cases h0 : s.data.toList = []
  · have e0 := str_empty h0
    rw [numP_none (Or.inl h0)]
    clear h0 hsz
    go_enter Tryz.func91, Tryz.ntmps91
    go_wp2_with fail
    go_ret2
    exact ⟨rfl, rfl⟩
  have e0 := str_some h0
  have h0s : 0 < s.size := by
    rw [← hsz]
    cases h : s.data.toList with
    | nil => exact (h0 h).elim
    | cons c r => simp
  obtain ⟨c, r, hl⟩ : ∃ c r, s.data.toList = c :: r := by
    cases h : s.data.toList with
    | nil => exact (h0 h).elim
    | cons c r => exact ⟨c, r, rfl⟩
  have hb0 : s[0]'h0s = c := byte_at h0s (by rw [hl]; rfl)
  by_cases h48 : c = 48 ∧ 1 < s.size
  · obtain ⟨rfl, h1⟩ := h48
    have d0 : (((s[0]'h0s).toNat : Int) == 48) = true := by rw [hb0]; rfl
    have d1 : decide (1 < (s.size : Int)) = true := decide_eq_true (by omega)
    rw [numP_none (Or.inr (Or.inl ⟨by rw [hl]; rfl, by rw [hsz]; exact h1⟩))]
    clear h0 hsz hl hb0 h1
    go_enter Tryz.func91, Tryz.ntmps91
    go_wp2_with fail
    go_ret2
    exact ⟨rfl, rfl⟩
  have hg : ((((s[0]'h0s).toNat : Int) == 48) = false) ∨ (((((s[0]'h0s).toNat : Int) == 48) = true) ∧ decide (1 < (s.size : Int)) = false) := by
    by_cases h1 : c = 48
    · exact Or.inr ⟨by rw [hb0, h1]; rfl, decide_eq_false (fun h => h48 ⟨h1, by omega⟩)⟩
    · refine Or.inl ?_
      rw [hb0]
      refine beq_eq_false_iff_ne.2 (fun e => h1 (UInt8.toNat_inj.1 ?_))
      show c.toNat = 48
      omega
  by_cases h19 : 19 < s.size
  · have d2 : decide (19 < (s.size : Int)) = true := decide_eq_true (by omega)
    rw [numP_none (Or.inr (Or.inr (Or.inl (by rw [hsz]; exact h19))))]
    clear h0 hsz hl hb0 h48 h19
    rcases hg with d0 | ⟨d0, d1⟩
    all_goals
      go_enter Tryz.func91, Tryz.ntmps91
      go_wp2_with fail
      go_ret2
      exact ⟨rfl, rfl⟩
  have d2 : decide (19 < (s.size : Int)) = false := decide_eq_false (by omega)
  have HSZ := Lib.hid hsz
  have HE := Lib.hid (numP_mid h0 (fun h => h48 ⟨by rw [hl] at h; simpa using h.1, by rw [← hsz]; exact h.2⟩) (by rw [hsz]; exact h19))
  clear h0 hsz hl hb0 h48
  rcases hg with d0 | ⟨d0, d1⟩
  all_goals
    go_enter Tryz.func91, Tryz.ntmps91
    go_wp2_with fail
    clear d0 d2
    go_loop [4, 5] (fun nv iv => ∃ k : Nat, k ≤ s.size ∧ iv = .int .i64 k ∧ nv = .int .u64 (decN (s.data.toList.take k)) ∧ (s.data.toList.take k).all isD = true) (fun _ iv => s.size - (intOf iv).toNat)
    case atStart => exact ⟨0, by omega, rfl, rfl, rfl⟩
    case round =>
      obtain ⟨k, hk, rfl, rfl, hall⟩ := hrel
      have HA := Lib.hid hall
      clear hall
      by_cases hlt : k < s.size
      · obtain ⟨b, hb⟩ : ∃ b, s.data.toList[k]? = some b := ⟨_, List.getElem?_eq_getElem (by rw [HSZ.out]; exact hlt)⟩
        have HB := Lib.hid hb
        have eb := byte_at hlt hb
        by_cases hD : isD b = true
        · obtain ⟨-, q2, q3⟩ := dig_of hD
          have HD := Lib.hid hD
          have HN := Lib.hid (decN_take hb)
          have hlt2 := decN_lt HA.out
          rw [List.length_take, HSZ.out] at hlt2
          have hp := pow10_mono (n := min k s.size) (m := 18) (by omega)
          have h18 : (10 : Nat) ^ 18 = 1000000000000000000 := by decide
          obtain ⟨D, hDd⟩ : ∃ D, D = decN (s.data.toList.take k) := ⟨_, rfl⟩
          rw [← hDd] at hlt2 HN ⊢
          have hDl : D < 1000000000000000000 := by omega
          have u1 : decide (((s[k]'hlt).toNat : Int) < 48) = false := by rw [eb]; exact decide_eq_false (by omega)
          have u2 : decide (57 < ((s[k]'hlt).toNat : Int)) = false := by rw [eb]; exact decide_eq_false (by omega)
          have hb3 : 48 ≤ ((s[k]'hlt).toNat : Int) ∧ ((s[k]'hlt).toNat : Int) < 58 := by rw [eb]; omega
          have HBT := Lib.hid (show ((s[k]'hlt).toNat : Int) = b.toNat by rw [eb])
          clear hb eb hD hlt2 hp h18 hDd q2 q3
          go_wp2_with fail
          go_round
          case rel => exact ⟨k + 1, by omega, by go_num, congrArg (Value.int .u64) (by have h1 := HN.out; have h2 := HBT.out; omega), all_take_succ HA.out HB.out HD.out⟩
          case measure => simp [intOf]; omega
        · have E := Lib.hid (all_false hb (by simpa using hD))
          have HE2 := Lib.hid (show numP s.data.toList = none by rw [HE.out, if_neg]; rintro ⟨h, -⟩; rw [E.out] at h; cases h)
          have hnd : ((s[k]'hlt).toNat : Int) < 48 ∨ (¬ ((s[k]'hlt).toNat : Int) < 48 ∧ 57 < ((s[k]'hlt).toNat : Int)) := by
            rw [eb]
            have : ¬ (48 ≤ b.toNat ∧ b.toNat ≤ 57) := fun h => hD (decide_eq_true h)
            omega
          clear hb eb hD
          rcases hnd with h1 | ⟨h1, h2⟩
          · have u1 : decide (((s[k]'hlt).toNat : Int) < 48) = true := decide_eq_true h1
            clear h1
            go_wp2_with fail
            go_ret2
            exact ⟨by rw [HE2.out]; rfl, rfl⟩
          · have u1 : decide (((s[k]'hlt).toNat : Int) < 48) = false := decide_eq_false h1
            have u2 : decide (57 < ((s[k]'hlt).toNat : Int)) = true := decide_eq_true h2
            clear h1 h2
            go_wp2_with fail
            go_ret2
            exact ⟨by rw [HE2.out]; rfl, rfl⟩
      · obtain rfl : k = s.size := by omega
        have HTK := Lib.hid (show s.data.toList.take s.size = s.data.toList from List.take_of_length_le (by rw [HSZ.out]; exact Nat.le_refl _))
        rw [HTK.out] at HA ⊢
        have hlt2 := decN_lt HA.out
        rw [HSZ.out] at hlt2
        have hp := pow10_mono (n := s.size) (m := 19) (by omega)
        have h19' : (10 : Nat) ^ 19 = 10000000000000000000 := by decide
        obtain ⟨D, hDd⟩ : ∃ D, D = decN s.data.toList := ⟨_, rfl⟩
        rw [← hDd] at hlt2 HE ⊢
        have hDl : D < 10000000000000000000 := by omega
        clear hlt2 hp h19' hDd
        by_cases hbig : D ≤ 9223372036854775807
        · have u3 : decide (9223372036854775807 < (D : Int)) = false := decide_eq_false (by omega)
          have HE2 := Lib.hid (show numP s.data.toList = some D by rw [HE.out, if_pos ⟨HA.out, hbig⟩])
          have HWR := Lib.hid (show IntKind.i64.wrap (D : Int) = (D : Int) by rw [IntKind.wrap_i64]; omega)
          go_wp2_with fail
          go_ret2
          exact ⟨by rw [HE2.out]; rfl, rfl⟩
        · have u3 : decide (9223372036854775807 < (D : Int)) = true := decide_eq_true (by omega)
          have HE2 := Lib.hid (show numP s.data.toList = none by rw [HE.out, if_neg]; rintro ⟨-, h⟩; exact hbig h)
          clear hbig
          go_wp2_with fail
          go_ret2
          exact ⟨by rw [HE2.out]; rfl, rfl⟩
/-! ### values -/
def readSays (r : Val × Int) (w : World) (e : Ending) (w' : World) : Prop := e = .returned (.tuple #[valV r.1, .int .i64 r.2]) ∧ Below w.heap.size w w'
theorem readP_num {l : List UInt8} (h1 : l ≠ tTrue) (h2 : l ≠ tFalse) (h3 : l.head? ≠ some 39) : readP l = readM l := by
  unfold readP; rw [if_neg h1, if_neg h2, if_neg h3, readN_eq]
set_option maxHeartbeats 2000000 in
set_option maxRecDepth 100000 in
theorem rread_true (s : ByteArray) (h : s.data.toList = tTrue) (w : World) :
    Calls Tryz.prog 35 #[.string s] w (readSays (readP s.data.toList) w) := by
  obtain ⟨w0, hw0⟩ : ∃ w0, w.alloc (.cells #[.int .i64 0, .int .i64 0, .string ⟨#[]⟩] 23) = w0 := ⟨_, rfl⟩
  have HB := Lib.hid (show Below w.heap.size w w0 by rw [← hw0]; exact belowNew' _ _)
  have HV := Lib.hid (show Own3 w0 w.heap.size noVal by rw [← hw0]; exact own3_new w noVal)
  have HW := Lib.hid hw0
  clear hw0
  obtain ⟨o0, o1, o2, z0, z1, z2, hlt⟩ := HV.out.cells
  have e1 : (s.toList == [116, 114, 117, 101]) = true := by rw [Lib.toList_data, h]; rfl
  have HR := Lib.hid (show readP s.data.toList = (truthV true, 0) by rw [h]; rfl)
  clear h
  go_enter Tryz.func35, Tryz.ntmps35
  go_wp2_with (first | rw [HW.out])
  have HO4 := own3_set HV.out 2 1 ⟨#[]⟩
  have HB4 := Lib.hid (below_set3 HB.out (Nat.le_refl _) 2 1 ⟨#[]⟩)
  generalize ((w0.setCell ⟨w.heap.size, 0, none⟩ (.int .i64 2)).setCell ⟨w.heap.size, 1, none⟩ (.int .i64 1)).setCell ⟨w.heap.size, 2, none⟩ (.string ⟨#[]⟩) = w4 at HO4 HB4 ⊢
  clear o0 o1 o2 z0 z1 z2 hlt
  obtain ⟨o0, o1, o2, z0, z1, z2, hlt⟩ := HO4.cells
  refine bodyPost_ret (v := .tuple #[valV ⟨2, 1, ⟨#[]⟩⟩, .int .i64 0]) (by simp [results, Tryz.results35, go_sem, o0, o1, o2, valV]) rfl ⟨?_, HB4.out⟩
  rw [HR.out]; rfl
set_option maxHeartbeats 2000000 in
set_option maxRecDepth 100000 in
theorem rread_false (s : ByteArray) (h : s.data.toList = tFalse) (w : World) :
    Calls Tryz.prog 35 #[.string s] w (readSays (readP s.data.toList) w) := by
  obtain ⟨w0, hw0⟩ : ∃ w0, w.alloc (.cells #[.int .i64 0, .int .i64 0, .string ⟨#[]⟩] 23) = w0 := ⟨_, rfl⟩
  have HB := Lib.hid (show Below w.heap.size w w0 by rw [← hw0]; exact belowNew' _ _)
  have HV := Lib.hid (show Own3 w0 w.heap.size noVal by rw [← hw0]; exact own3_new w noVal)
  have HW := Lib.hid hw0
  clear hw0
  obtain ⟨o0, o1, o2, z0, z1, z2, hlt⟩ := HV.out.cells
  have e1 : (s.toList == [116, 114, 117, 101]) = false := by rw [Lib.toList_data, h]; rfl
  have e2 : (s.toList == [102, 97, 108, 115, 101]) = true := by rw [Lib.toList_data, h]; rfl
  have HR := Lib.hid (show readP s.data.toList = (truthV false, 0) by rw [h]; rfl)
  clear h
  go_enter Tryz.func35, Tryz.ntmps35
  go_wp2_with (first | rw [HW.out])
  have HO4 := own3_set HV.out 2 0 ⟨#[]⟩
  have HB4 := Lib.hid (below_set3 HB.out (Nat.le_refl _) 2 0 ⟨#[]⟩)
  generalize ((w0.setCell ⟨w.heap.size, 0, none⟩ (.int .i64 2)).setCell ⟨w.heap.size, 1, none⟩ (.int .i64 0)).setCell ⟨w.heap.size, 2, none⟩ (.string ⟨#[]⟩) = w4 at HO4 HB4 ⊢
  clear o0 o1 o2 z0 z1 z2 hlt
  obtain ⟨o0, o1, o2, z0, z1, z2, hlt⟩ := HO4.cells
  refine bodyPost_ret (v := .tuple #[valV ⟨2, 0, ⟨#[]⟩⟩, .int .i64 0]) (by simp [results, Tryz.results35, go_sem, o0, o1, o2, valV]) rfl ⟨?_, HB4.out⟩
  rw [HR.out]; rfl
set_option maxHeartbeats 2000000 in
set_option maxRecDepth 100000 in
theorem rread_empty (s : ByteArray) (h : s.data.toList = []) (w : World) :
    Calls Tryz.prog 35 #[.string s] w (readSays (readP s.data.toList) w) := by
  obtain ⟨w0, hw0⟩ : ∃ w0, w.alloc (.cells #[.int .i64 0, .int .i64 0, .string ⟨#[]⟩] 23) = w0 := ⟨_, rfl⟩
  have HB := Lib.hid (show Below w.heap.size w w0 by rw [← hw0]; exact belowNew' _ _)
  have HV := Lib.hid (show Own3 w0 w.heap.size noVal by rw [← hw0]; exact own3_new w noVal)
  have HW := Lib.hid hw0
  clear hw0
  obtain ⟨o0, o1, o2, z0, z1, z2, hlt⟩ := HV.out.cells
  have e1 : (s.toList == [116, 114, 117, 101]) = false := by rw [Lib.toList_data, h]; rfl
  have e2 : (s.toList == [102, 97, 108, 115, 101]) = false := by rw [Lib.toList_data, h]; rfl
  have e3 := str_empty h
  have HR := Lib.hid (show readP s.data.toList = (noVal, 2) by rw [h]; rfl)
  clear h
  go_enter Tryz.func35, Tryz.ntmps35
  go_wp2_with (first | rw [HW.out])
  have HO4 := own3_set HV.out 0 0 ⟨#[]⟩
  have HB4 := Lib.hid (below_set3 HB.out (Nat.le_refl _) 0 0 ⟨#[]⟩)
  generalize ((w0.setCell ⟨w.heap.size, 0, none⟩ (.int .i64 0)).setCell ⟨w.heap.size, 1, none⟩ (.int .i64 0)).setCell ⟨w.heap.size, 2, none⟩ (.string ⟨#[]⟩) = w4 at HO4 HB4 ⊢
  clear o0 o1 o2 z0 z1 z2 hlt
  obtain ⟨o0, o1, o2, z0, z1, z2, hlt⟩ := HO4.cells
  refine bodyPost_ret (v := .tuple #[valV ⟨0, 0, ⟨#[]⟩⟩, .int .i64 2]) (by simp [results, Tryz.results35, go_sem, o0, o1, o2, valV]) rfl ⟨?_, HB4.out⟩
  rw [HR.out]; rfl
set_option maxHeartbeats 2000000 in
set_option maxRecDepth 100000 in
theorem rread_num (s : ByteArray) (c : UInt8) (r : List UInt8) (hl : s.data.toList = c :: r) (h1 : s.data.toList ≠ tTrue) (h2 : s.data.toList ≠ tFalse) (hs : s.size ≤ maxLen) (h3 : c ≠ 39) (w : World) :
    Calls Tryz.prog 35 #[.string s] w (readSays (readP s.data.toList) w) := by
  obtain ⟨w0, hw0⟩ : ∃ w0, w.alloc (.cells #[.int .i64 0, .int .i64 0, .string ⟨#[]⟩] 23) = w0 := ⟨_, rfl⟩
  have HB := Lib.hid (show Below w.heap.size w w0 by rw [← hw0]; exact belowNew' _ _)
  have HV := Lib.hid (show Own3 w0 w.heap.size noVal by rw [← hw0]; exact own3_new w noVal)
  have HW := Lib.hid hw0
  clear hw0
  obtain ⟨o0, o1, o2, z0, z1, z2, hlt⟩ := HV.out.cells
  have hsz := size_eq s
  have h0s : 0 < s.size := by rw [← hsz, hl]; simp
  have hb0 : s[0]'h0s = c := byte_at h0s (by rw [hl]; rfl)
  have e1 := str_ne h1
  have e2 := str_ne h2
  have e3 := str_some (s := s) (by rw [hl]; simp)
  unfold tTrue at e1
  unfold tFalse at e2
  have d39 : (((s[0]'h0s).toNat : Int) == 39) = false := by
    rw [hb0]
    refine beq_eq_false_iff_ne.2 (fun e => h3 (UInt8.toNat_inj.1 ?_))
    show c.toNat = 39
    omega
  have HN := Lib.hid (readP_num h1 h2 (by rw [hl]; simpa using h3))
  by_cases hM : s.data.toList = minL
  · have eM : (s.toList == [45, 57, 50, 50, 51, 51, 55, 50, 48, 51, 54, 56, 53, 52, 55, 55, 53, 56, 48, 56]) = true := by rw [Lib.toList_data, hM]; rfl
    have HR := Lib.hid (show readP s.data.toList = (ofV (-9223372036854775808), 0) by rw [HN.out, hM]; rfl)
    clear hM hl h1 h2 h3 hb0 hsz HN
    go_enter Tryz.func35, Tryz.ntmps35
    go_wp2_with (first | rw [HW.out])
    have HO4 := own3_set HV.out 1 (-9223372036854775808) ⟨#[]⟩
    have HB4 := Lib.hid (below_set3 HB.out (Nat.le_refl _) 1 (-9223372036854775808) ⟨#[]⟩)
    generalize ((w0.setCell ⟨w.heap.size, 0, none⟩ (.int .i64 1)).setCell ⟨w.heap.size, 1, none⟩ (.int .i64 (-9223372036854775808))).setCell ⟨w.heap.size, 2, none⟩ (.string ⟨#[]⟩) = w4 at HO4 HB4 ⊢
    clear o0 o1 o2 z0 z1 z2 hlt
    obtain ⟨o0, o1, o2, z0, z1, z2, hlt⟩ := HO4.cells
    refine bodyPost_ret (v := .tuple #[valV ⟨1, (-9223372036854775808), ⟨#[]⟩⟩, .int .i64 0]) (by simp [results, Tryz.results35, go_sem, o0, o1, o2, valV]) rfl ⟨?_, HB4.out⟩
    rw [HR.out]; rfl
  have eM : (s.toList == [45, 57, 50, 50, 51, 51, 55, 50, 48, 51, 54, 56, 53, 52, 55, 55, 53, 56, 48, 56]) = false := str_ne hM
  by_cases h45 : c = 45
  · subst h45
    have d45 : (((s[0]'h0s).toNat : Int) == 45) = true := by rw [hb0]; rfl
    have hext : (s.extract 1 s.size).data.toList = r := by rw [ext_list, hl, List.take_of_length_le (by simp [← hsz, hl])]; rfl
    have TN := Lib.hid (rnumber_any (s.extract 1 s.size) (by rw [ByteArray.size_extract]; omega) w0)
    unfold numSays at TN
    rw [hext] at TN
    have HX := Lib.hid (show readP s.data.toList = match numP r with | none => (noVal, 2) | some n => if n = 0 then (noVal, 2) else (ofV (-(n : Int)), 0) by
      rw [HN.out]; unfold readM; rw [if_neg hM, hl, if_pos (show (45 :: r).head? = some 45 from rfl)]; rfl)
    clear hM hl h1 h2 h3 hb0 hsz hext HN
    have hfit : ∀ n, numP r = some n → n ≤ 9223372036854775807 := fun n h => ((numP_iff r n).1 h).2
    cases hn : numP r with
    | none =>
      rw [hn] at TN HX
      have HR := Lib.hid (show readP s.data.toList = (noVal, 2) from HX.out)
      clear hn hfit
      go_enter Tryz.func35, Tryz.ntmps35
      go_wp2_with (first | rw [HW.out])
      refine (TN.out).mono ?_
      rintro e w' ⟨rfl, rfl⟩
      go_wp2_with fail
      have HO4 := own3_set HV.out 0 0 ⟨#[]⟩
      have HB4 := Lib.hid (below_set3 HB.out (Nat.le_refl _) 0 0 ⟨#[]⟩)
      generalize ((w0.setCell ⟨w.heap.size, 0, none⟩ (.int .i64 0)).setCell ⟨w.heap.size, 1, none⟩ (.int .i64 0)).setCell ⟨w.heap.size, 2, none⟩ (.string ⟨#[]⟩) = w4 at HO4 HB4 ⊢
      clear o0 o1 o2 z0 z1 z2 hlt
      obtain ⟨o0, o1, o2, z0, z1, z2, hlt⟩ := HO4.cells
      refine bodyPost_ret (v := .tuple #[valV ⟨0, 0, ⟨#[]⟩⟩, .int .i64 2]) (by simp [results, Tryz.results35, go_sem, o0, o1, o2, valV]) rfl ⟨?_, HB4.out⟩
      rw [HR.out]; rfl
    | some n =>
      rw [hn] at TN HX
      have hf := hfit n hn
      clear hn hfit
      by_cases hn0 : n = 0
      · subst hn0
        have HR := Lib.hid (show readP s.data.toList = (noVal, 2) from HX.out)
        go_enter Tryz.func35, Tryz.ntmps35
        go_wp2_with (first | rw [HW.out])
        refine (TN.out).mono ?_
        rintro e w' ⟨rfl, rfl⟩
        go_wp2_with fail
        have HO4 := own3_set HV.out 0 0 ⟨#[]⟩
        have HB4 := Lib.hid (below_set3 HB.out (Nat.le_refl _) 0 0 ⟨#[]⟩)
        generalize ((w0.setCell ⟨w.heap.size, 0, none⟩ (.int .i64 0)).setCell ⟨w.heap.size, 1, none⟩ (.int .i64 0)).setCell ⟨w.heap.size, 2, none⟩ (.string ⟨#[]⟩) = w4 at HO4 HB4 ⊢
        clear o0 o1 o2 z0 z1 z2 hlt
        obtain ⟨o0, o1, o2, z0, z1, z2, hlt⟩ := HO4.cells
        refine bodyPost_ret (v := .tuple #[valV ⟨0, 0, ⟨#[]⟩⟩, .int .i64 2]) (by simp [results, Tryz.results35, go_sem, o0, o1, o2, valV]) rfl ⟨?_, HB4.out⟩
        rw [HR.out]; rfl
      · have HR := Lib.hid (show readP s.data.toList = (ofV (-(n : Int)), 0) by rw [HX.out]; exact if_neg hn0)
        have dn : ((n : Int) == 0) = false := beq_eq_false_iff_ne.2 (by omega)
        clear hn0
        go_enter Tryz.func35, Tryz.ntmps35
        go_wp2_with (first | rw [HW.out])
        refine (TN.out).mono ?_
        rintro e w' ⟨rfl, rfl⟩
        go_wp2_with fail
        have HO4 := own3_set HV.out 1 (-(n : Int)) ⟨#[]⟩
        have HB4 := Lib.hid (below_set3 HB.out (Nat.le_refl _) 1 (-(n : Int)) ⟨#[]⟩)
        generalize ((w0.setCell ⟨w.heap.size, 0, none⟩ (.int .i64 1)).setCell ⟨w.heap.size, 1, none⟩ (.int .i64 (-(n : Int)))).setCell ⟨w.heap.size, 2, none⟩ (.string ⟨#[]⟩) = w4 at HO4 HB4 ⊢
        clear o0 o1 o2 z0 z1 z2 hlt
        obtain ⟨o0, o1, o2, z0, z1, z2, hlt⟩ := HO4.cells
        refine bodyPost_ret (v := .tuple #[valV ⟨1, (-(n : Int)), ⟨#[]⟩⟩, .int .i64 0]) (by simp [results, Tryz.results35, go_sem, o0, o1, o2, valV]) rfl ⟨?_, HB4.out⟩
        rw [HR.out]; rfl
  · have d45 : (((s[0]'h0s).toNat : Int) == 45) = false := by
      rw [hb0]
      refine beq_eq_false_iff_ne.2 (fun e => h45 (UInt8.toNat_inj.1 ?_))
      show c.toNat = 45
      omega
    have TN := Lib.hid (rnumber_any s hs w0)
    unfold numSays at TN
    have HX := Lib.hid (show readP s.data.toList = match numP s.data.toList with | none => (noVal, 2) | some n => (ofV n, 0) by
      rw [HN.out]; unfold readM; rw [if_neg hM, if_neg (by rw [hl]; simpa using h45)]; rfl)
    have hfit : ∀ n, numP s.data.toList = some n → n ≤ 9223372036854775807 := fun n h => ((numP_iff _ n).1 h).2
    clear hM hl h1 h2 h3 hb0 hsz HN h45
    generalize numP s.data.toList = np at TN HX hfit
    cases np with
    | none =>
      have HR := Lib.hid (show readP s.data.toList = (noVal, 2) from HX.out)
      clear hfit
      go_enter Tryz.func35, Tryz.ntmps35
      go_wp2_with (first | rw [HW.out])
      refine (TN.out).mono ?_
      rintro e w' ⟨rfl, rfl⟩
      go_wp2_with fail
      have HO4 := own3_set HV.out 0 0 ⟨#[]⟩
      have HB4 := Lib.hid (below_set3 HB.out (Nat.le_refl _) 0 0 ⟨#[]⟩)
      generalize ((w0.setCell ⟨w.heap.size, 0, none⟩ (.int .i64 0)).setCell ⟨w.heap.size, 1, none⟩ (.int .i64 0)).setCell ⟨w.heap.size, 2, none⟩ (.string ⟨#[]⟩) = w4 at HO4 HB4 ⊢
      clear o0 o1 o2 z0 z1 z2 hlt
      obtain ⟨o0, o1, o2, z0, z1, z2, hlt⟩ := HO4.cells
      refine bodyPost_ret (v := .tuple #[valV ⟨0, 0, ⟨#[]⟩⟩, .int .i64 2]) (by simp [results, Tryz.results35, go_sem, o0, o1, o2, valV]) rfl ⟨?_, HB4.out⟩
      rw [HR.out]; rfl
    | some n =>
      have HR := Lib.hid (show readP s.data.toList = (ofV n, 0) from HX.out)
      have hf := hfit n rfl
      clear hfit
      go_enter Tryz.func35, Tryz.ntmps35
      go_wp2_with (first | rw [HW.out])
      refine (TN.out).mono ?_
      rintro e w' ⟨rfl, rfl⟩
      go_wp2_with fail
      have HO4 := own3_set HV.out 1 (n : Int) ⟨#[]⟩
      have HB4 := Lib.hid (below_set3 HB.out (Nat.le_refl _) 1 (n : Int) ⟨#[]⟩)
      generalize ((w0.setCell ⟨w.heap.size, 0, none⟩ (.int .i64 1)).setCell ⟨w.heap.size, 1, none⟩ (.int .i64 (n : Int))).setCell ⟨w.heap.size, 2, none⟩ (.string ⟨#[]⟩) = w4 at HO4 HB4 ⊢
      clear o0 o1 o2 z0 z1 z2 hlt
      obtain ⟨o0, o1, o2, z0, z1, z2, hlt⟩ := HO4.cells
      refine bodyPost_ret (v := .tuple #[valV ⟨1, (n : Int), ⟨#[]⟩⟩, .int .i64 0]) (by simp [results, Tryz.results35, go_sem, o0, o1, o2, valV]) rfl ⟨?_, HB4.out⟩
      rw [HR.out]; rfl
end Go.Proofs.YtpbbkpfaphjdoaaGreatDoor
