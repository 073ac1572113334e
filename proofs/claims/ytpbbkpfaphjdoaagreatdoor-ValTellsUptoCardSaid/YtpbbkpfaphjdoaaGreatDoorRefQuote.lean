/- The document's reading of a text that begins with a quote, and of any text (sluiceref1.Read), walked. -/
import Derived.Test.YtpbbkpfaphjdoaaGreatDoorRefRead
namespace Go.Proofs.YtpbbkpfaphjdoaaGreatDoor
open Go.ChangeShapes Go.WideShapes Go.ChangeAt Go.RowKit

theorem drop_cons {l : List UInt8} {i : Nat} {b : UInt8} (h : l[i]? = some b) : l.drop i = b :: l.drop (i + 1) := by
  obtain ⟨hl, he⟩ := List.getElem?_eq_some_iff.1 h
  rw [List.drop_eq_getElem_cons hl, he]
theorem textOk_mk (m : List UInt8) : textOk ⟨m.toArray⟩ = m.all plainB := rfl
theorem map_app (o : Option (List UInt8)) (t u : List UInt8) : (o.map (u ++ ·)).map (t ++ ·) = o.map ((t ++ u) ++ ·) := by cases o <;> simp
set_option maxHeartbeats 4000000 in
set_option maxRecDepth 100000 in
theorem rread_quote (s : ByteArray) (r : List UInt8) (hl : s.data.toList = 39 :: r) (hs : s.size ≤ maxLen) (w : World) :
    Calls Tryz.prog 35 #[.string s] w (readSays (readQ r) w) := by
  obtain ⟨w0, hw0⟩ : ∃ w0, w.alloc (.cells #[.int .i64 0, .int .i64 0, .string ⟨#[]⟩] 23) = w0 := ⟨_, rfl⟩
  have HB := Lib.hid (show Below w.heap.size w w0 by rw [← hw0]; exact belowNew' _ _)
  have HV := Lib.hid (show Own3 w0 w.heap.size noVal by rw [← hw0]; exact own3_new w noVal)
  have HW := Lib.hid hw0
  clear hw0
  obtain ⟨o0, o1, o2, z0, z1, z2, hlt⟩ := HV.out.cells
  have hsz := size_eq s
  have h0s : 0 < s.size := by rw [← hsz, hl]; simp
  have hb0 : s[0]'h0s = 39 := byte_at h0s (by rw [hl]; rfl)
  have e1 : (s.toList == [116, 114, 117, 101]) = false := by rw [Lib.toList_data, hl]; rfl
  have e2 : (s.toList == [102, 97, 108, 115, 101]) = false := by rw [Lib.toList_data, hl]; rfl
  have e3 := str_some (s := s) (by rw [hl]; simp)
  have d39 : (((s[0]'h0s).toNat : Int) == 39) = true := by rw [hb0]; rfl
  have HSZ := Lib.hid hsz
  have HD1 := Lib.hid (show s.data.toList.drop 1 = r by rw [hl]; rfl)
  unfold maxLen at hs
  clear hsz hl hb0
  go_enter Tryz.func35, Tryz.ntmps35
  go_wp2_with (first | rw [HW.out])
  clear e1 e2 e3 d39
  go_loop [4, 5] (fun tv iv => ∃ (i : Nat) (t : List UInt8), 1 ≤ i ∧ i ≤ s.size ∧ iv = .int .i64 i ∧ tv = .string ⟨t.toArray⟩ ∧ t.length + 1 ≤ i ∧ unq r = (unq (s.data.toList.drop i)).map (t ++ ·)) (fun _ iv => s.size - (intOf iv).toNat)
  case atStart => exact ⟨1, [], by omega, by omega, rfl, rfl, by simp, by rw [HD1.out]; cases unq r <;> simp⟩
  case round =>
    obtain ⟨i, t, hi1, hi, rfl, rfl, htl, hu⟩ := hrel
    have HU := Lib.hid hu
    clear hu
    by_cases hlt2 : i < s.size
    · obtain ⟨b, hb⟩ : ∃ b, s.data.toList[i]? = some b := ⟨_, List.getElem?_eq_getElem (by rw [HSZ.out]; exact hlt2)⟩
      have hdr := drop_cons hb
      have eb := byte_at hlt2 hb
      have hext := ext_one hb
      have o1' : ¬ 9223372036854775807 < t.length + 1 := by omega
      by_cases h39 : b = 39
      · subst h39
        have e39 : (((s[i]'hlt2).toNat : Int) == 39) = true := by rw [eb]; rfl
        by_cases hend : i + 1 = s.size
        · have eE : ((i : Int) + 1 == (s.size : Int)) = true := by rw [← hend]; exact beq_iff_eq.2 (by omega)
          have hu2 : unq r = some t := by rw [HU.out, hdr, List.drop_of_length_le (by rw [HSZ.out]; omega), unq_last]; simp
          have HR0 := Lib.hid (show readQ r = if t.all plainB = true then (if 40 < t.length then (noVal, 4) else (⟨3, 0, ⟨t.toArray⟩⟩, 0)) else (noVal, 2) by unfold readQ; rw [hu2])
          have TP := Lib.hid (rplain_any ⟨t.toArray⟩ w0 (by unfold maxLen; show t.length ≤ _; omega))
          rw [textOk_mk] at TP
          have dge : decide ((s.size : Int) ≤ (i : Int)) = false := decide_eq_false (by omega)
          clear hb hdr eb hext hu2 hend
          by_cases hpl : t.all plainB = true
          · rw [hpl] at TP
            by_cases h40 : 40 < t.length
            · have d40 : decide ((40 : Int) < (t.length : Int)) = true := decide_eq_true (by omega)
              have HR := Lib.hid (show readQ r = (noVal, 4) by rw [HR0.out, if_pos hpl, if_pos h40])
              clear hpl h40
              go_wp2_with fail
              refine (TP.out).mono ?_
              rintro e w' ⟨rfl, rfl⟩
              go_wp2_with fail
              have HO4 := own3_set HV.out 0 0 ⟨#[]⟩
              have HB4 := Lib.hid (below_set3 HB.out (Nat.le_refl _) 0 0 ⟨#[]⟩)
              generalize ((w0.setCell ⟨w.heap.size, 0, none⟩ (.int .i64 0)).setCell ⟨w.heap.size, 1, none⟩ (.int .i64 0)).setCell ⟨w.heap.size, 2, none⟩ (.string ⟨#[]⟩) = w4 at HO4 HB4 ⊢
              clear o0 o1 o2 z0 z1 z2 hlt
              obtain ⟨o0, o1, o2, z0, z1, z2, hlt⟩ := HO4.cells
              refine bodyPost_ret (v := .tuple #[valV ⟨0, 0, ⟨#[]⟩⟩, .int .i64 4]) (by simp [results, Tryz.results35, go_sem, o0, o1, o2, valV]) rfl ⟨?_, HB4.out⟩
              rw [HR.out]; try rfl
            · have d40 : decide ((40 : Int) < (t.length : Int)) = false := decide_eq_false (by omega)
              have HR := Lib.hid (show readQ r = (⟨3, 0, ⟨t.toArray⟩⟩, 0) by rw [HR0.out, if_pos hpl, if_neg h40])
              clear hpl h40
              go_wp2_with fail
              refine (TP.out).mono ?_
              rintro e w' ⟨rfl, rfl⟩
              go_wp2_with fail
              have HO4 := own3_set HV.out 3 0 ⟨t.toArray⟩
              have HB4 := Lib.hid (below_set3 HB.out (Nat.le_refl _) 3 0 ⟨t.toArray⟩)
              generalize ((w0.setCell ⟨w.heap.size, 0, none⟩ (.int .i64 3)).setCell ⟨w.heap.size, 1, none⟩ (.int .i64 0)).setCell ⟨w.heap.size, 2, none⟩ (.string ⟨t.toArray⟩) = w4 at HO4 HB4 ⊢
              clear o0 o1 o2 z0 z1 z2 hlt
              obtain ⟨o0, o1, o2, z0, z1, z2, hlt⟩ := HO4.cells
              refine bodyPost_ret (v := .tuple #[valV ⟨3, 0, ⟨t.toArray⟩⟩, .int .i64 0]) (by simp [results, Tryz.results35, go_sem, o0, o1, o2, valV]) rfl ⟨?_, HB4.out⟩
              rw [HR.out]; try rfl
          · rw [show t.all plainB = false by simpa using hpl] at TP
            have HR := Lib.hid (show readQ r = (noVal, 2) by rw [HR0.out, if_neg hpl])
            clear hpl
            go_wp2_with fail
            refine (TP.out).mono ?_
            rintro e w' ⟨rfl, rfl⟩
            go_wp2_with fail
            have HO4 := own3_set HV.out 0 0 ⟨#[]⟩
            have HB4 := Lib.hid (below_set3 HB.out (Nat.le_refl _) 0 0 ⟨#[]⟩)
            generalize ((w0.setCell ⟨w.heap.size, 0, none⟩ (.int .i64 0)).setCell ⟨w.heap.size, 1, none⟩ (.int .i64 0)).setCell ⟨w.heap.size, 2, none⟩ (.string ⟨#[]⟩) = w4 at HO4 HB4 ⊢
            clear o0 o1 o2 z0 z1 z2 hlt
            obtain ⟨o0, o1, o2, z0, z1, z2, hlt⟩ := HO4.cells
            refine bodyPost_ret (v := .tuple #[valV ⟨0, 0, ⟨#[]⟩⟩, .int .i64 2]) (by simp [results, Tryz.results35, go_sem, o0, o1, o2, valV]) rfl ⟨?_, HB4.out⟩
            rw [HR.out]; try rfl
        · have eE : ((i : Int) + 1 == (s.size : Int)) = false := beq_eq_false_iff_ne.2 (by omega)
          have hlt3 : i + 1 < s.size := by omega
          obtain ⟨c, hc⟩ : ∃ c, s.data.toList[i + 1]? = some c := ⟨_, List.getElem?_eq_getElem (by rw [HSZ.out]; exact hlt3)⟩
          have hdr2 := drop_cons hc
          have ec := byte_at hlt3 hc
          have hext2 := ext_one hc
          by_cases hc39 : c = 39
          · subst hc39
            have e40 : (((s[i + 1]'hlt3).toNat : Int) != 39) = false := by rw [ec]; rfl
            have HU2 := Lib.hid (show unq r = (unq (s.data.toList.drop (i + 1 + 1))).map ((t ++ [39]) ++ ·) by
              rw [HU.out, hdr, hdr2, unq_two, show (fun x : List UInt8 => 39 :: x) = (fun x => [39] ++ x) from rfl, map_app])
            have HAP := Lib.hid (bytes_app t [39])
            clear hb hdr eb hext hc hdr2 ec
            go_wp2_with fail
            go_round
            case rel => exact ⟨i + 1 + 1, t ++ [39], by omega, by omega, by go_num, congrArg Value.string (by exact HAP.out), by simp; omega, HU2.out⟩
            case measure => simp [intOf]; omega
          · have e40 : (((s[i + 1]'hlt3).toNat : Int) != 39) = true := by
              rw [ec]
              refine bne_iff_ne.2 (fun e => hc39 (UInt8.toNat_inj.1 ?_))
              show c.toNat = 39
              omega
            have HR := Lib.hid (show readQ r = (noVal, 2) by unfold readQ; rw [HU.out, hdr, hdr2, unq_bad hc39]; rfl)
            clear hb hdr eb hext hc hdr2 ec hext2 hc39
            go_wp2_with fail
            have HO4 := own3_set HV.out 0 0 ⟨#[]⟩
            have HB4 := Lib.hid (below_set3 HB.out (Nat.le_refl _) 0 0 ⟨#[]⟩)
            generalize ((w0.setCell ⟨w.heap.size, 0, none⟩ (.int .i64 0)).setCell ⟨w.heap.size, 1, none⟩ (.int .i64 0)).setCell ⟨w.heap.size, 2, none⟩ (.string ⟨#[]⟩) = w4 at HO4 HB4 ⊢
            clear o0 o1 o2 z0 z1 z2 hlt
            obtain ⟨o0, o1, o2, z0, z1, z2, hlt⟩ := HO4.cells
            refine bodyPost_ret (v := .tuple #[valV ⟨0, 0, ⟨#[]⟩⟩, .int .i64 2]) (by simp [results, Tryz.results35, go_sem, o0, o1, o2, valV]) rfl ⟨?_, HB4.out⟩
            rw [HR.out]; try rfl
      · have e39 : (((s[i]'hlt2).toNat : Int) == 39) = false := by
          rw [eb]
          refine beq_eq_false_iff_ne.2 (fun e => h39 (UInt8.toNat_inj.1 ?_))
          show b.toNat = 39
          omega
        have HU2 := Lib.hid (show unq r = (unq (s.data.toList.drop (i + 1))).map ((t ++ [b]) ++ ·) by
          rw [HU.out, hdr, unq_cons h39, show (fun x : List UInt8 => b :: x) = (fun x => [b] ++ x) from rfl, map_app])
        have HAP := Lib.hid (bytes_app t [b])
        have HEX := Lib.hid hext
        clear hb hdr eb hext h39
        go_wp2_with fail
        go_round
        case rel => exact ⟨i + 1, t ++ [b], by omega, by omega, by go_num, congrArg Value.string (by rw [HEX.out]; exact HAP.out), by simp; omega, HU2.out⟩
        case measure => simp [intOf]; omega
    · obtain rfl : i = s.size := by omega
      have HR := Lib.hid (show readQ r = (noVal, 2) by unfold readQ; rw [HU.out, List.drop_of_length_le (by rw [HSZ.out]; exact Nat.le_refl _)]; rfl)
      have TP := Lib.hid (rplain_any ⟨t.toArray⟩ w0 (by unfold maxLen; show t.length ≤ _; omega))
      go_wp2_with fail
      refine (TP.out).mono ?_
      rintro e w' ⟨rfl, rfl⟩
      go_wp2_with fail
      have HO4 := own3_set HV.out 0 0 ⟨#[]⟩
      have HB4 := Lib.hid (below_set3 HB.out (Nat.le_refl _) 0 0 ⟨#[]⟩)
      generalize ((w0.setCell ⟨w.heap.size, 0, none⟩ (.int .i64 0)).setCell ⟨w.heap.size, 1, none⟩ (.int .i64 0)).setCell ⟨w.heap.size, 2, none⟩ (.string ⟨#[]⟩) = w4 at HO4 HB4 ⊢
      clear o0 o1 o2 z0 z1 z2 hlt
      obtain ⟨o0, o1, o2, z0, z1, z2, hlt⟩ := HO4.cells
      refine bodyPost_ret (v := .tuple #[valV ⟨0, 0, ⟨#[]⟩⟩, .int .i64 2]) (by simp [results, Tryz.results35, go_sem, o0, o1, o2, valV]) rfl ⟨?_, HB4.out⟩
      rw [HR.out]; try rfl
/-- R.Read of any text. -/
theorem rread_any (s : ByteArray) (hs : s.size ≤ maxLen) (w : World) :
    Calls Tryz.prog 35 #[.string s] w (readSays (readP s.data.toList) w) := by
  by_cases h1 : s.data.toList = tTrue
  · exact rread_true s h1 w
  by_cases h2 : s.data.toList = tFalse
  · exact rread_false s h2 w
  cases hl : s.data.toList with
  | nil => rw [← hl]; exact rread_empty s hl w
  | cons c r =>
    by_cases h3 : c = 39
    · subst h3
      rw [readP_quote]
      exact rread_quote s r hl hs w
    · rw [← hl]
      exact rread_num s c r hl h1 h2 hs h3 w
end Go.Proofs.YtpbbkpfaphjdoaaGreatDoor
