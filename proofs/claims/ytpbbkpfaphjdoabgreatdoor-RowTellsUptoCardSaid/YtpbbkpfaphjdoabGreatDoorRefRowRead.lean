/- sluiceref1.ReadRow, walked: a text as values, by the document's way. -/
import Derived.Test.YtpbbkpfaphjdoabGreatDoorRowParse
import Derived.Test.YtpbbkpfaphjdoabGreatDoorRefQuote
namespace Go.Proofs.YtpbbkpfaphjdoabGreatDoor
open Go.ChangeShapes Go.WideShapes Go.ChangeAt Go.RowKit

def RReadRowSays (r : List Val × Int) (w : World) (e : Ending) (w' : World) : Prop := ∃ A n c, e = .returned (.tuple #[.slice A n c, .int .i64 r.2]) ∧ SeesVals w' A n c r.1 ∧ Below w.heap.size w w'
theorem no_vals (w w' : World) (k : Int) (h : Below w.heap.size w w') : RReadRowSays ([], k) w (.returned (.tuple #[.slice none 0 0, .int .i64 k])) w' :=
  ⟨none, 0, 0, rfl, ⟨rfl, Sees.nil _ _⟩, h⟩
/-- How far the text is cut. -/
def CutAt (l : List UInt8) (size k f : Nat) (q : Bool) (done : List (List UInt8)) : Prop :=
  (k ≤ size ∧ f ≤ k ∧ cutR l = done ++ cutF q ((l.drop f).take (k - f)) (l.drop k)) ∨ (k = size + 1 ∧ cutR l = done)
set_option maxHeartbeats 8000000 in
set_option maxRecDepth 100000 in
theorem rreadRow_any (s : ByteArray) (hs : s.size ≤ 2000000) (w : World) : Calls Tryz.prog 12 #[.string s] w (RReadRowSays (readRow s.data.toList) w) := by
  by_cases h0 : s.data.toList = []
  · have e0 := str_empty h0
    have HR := Lib.hid (show readRow s.data.toList = ([], 0) by unfold readRow; rw [if_pos h0])
    clear h0
    go_enter Tryz.func12, Tryz.ntmps12
    go_wp2_with fail
    go_ret2
    rw [HR.out]
    exact no_vals _ _ 0 (Below.refl _ _)
  have e0 := str_some h0
  have HSZ := Lib.hid (size_eq s)
  have HE := Lib.hid (show readRow s.data.toList = if (cutR s.data.toList).any (fun p => decide ((readP p).2 = 2)) = true then ([], 2) else if (cutR s.data.toList).any badP = true ∨ 6 < (cutR s.data.toList).length then ([], 4) else ((cutR s.data.toList).map fstP, 0) by unfold readRow; rw [if_neg h0]; rfl)
  have TQ := Lib.hid (fun (f k : Nat) (w' : World) => rread_any (s.extract f k) (by
    have : (s.extract f k).size ≤ s.size := by rw [ByteArray.size_extract]; omega
    unfold maxLen; omega) w')
  unfold readSays at TQ
  have HXP := Lib.hid (fun (f k : Nat) => show (s.extract f k).data.toList = (s.data.toList.drop f).take (k - f) by rw [ext_cut, data_mkB])
  clear h0
  go_enter Tryz.func12, Tryz.ntmps12
  go_wp2_with fail
  clear e0
  go_loopw [4, 5, 6, 7, 8] (fun out fv qv sv iv wx => ∃ (k f : Nat) (q fl : Bool) (done : List (List UInt8)), f ≤ s.size + 1 ∧ k ≤ s.size + 1 ∧ iv = .int .i64 k ∧ sv = .int .i64 f ∧ qv = .bool q ∧ fv = .bool fl ∧ done.length ≤ k ∧ wx.ownsRow w.heap.size 52 3 out done.length (valsCells (done.map fstP)) ∧ done.any badP = fl ∧ (∀ p ∈ done, (readP p).2 ≠ 2) ∧ CutAt s.data.toList s.size k f q done ∧ Below w.heap.size w wx) (fun _ _ _ _ iv _ => s.size + 1 - (intOf iv).toNat)
  case atStart => exact ⟨0, 0, false, false, [], by omega, by omega, rfl, rfl, rfl, rfl, by simp, World.ownsRow_nil _ _ _ _, rfl, (fun p hp => by simp at hp), Or.inl ⟨by omega, by omega, rfl⟩, Below.refl _ _⟩
  case round =>
    obtain ⟨k, f, q, fl, done, hf, hk, rfl, rfl, rfl, rfl, hdl, hown, hbd, hno, hcut, hb⟩ := hrel
    have HBD := Lib.hid hbd
    have HNO := Lib.hid hno
    have HB := Lib.hid hb
    have HOW := Lib.hid hown
    clear hbd hno hown hb
    rcases hcut with ⟨hks, hfk, hcut⟩ | ⟨hks, hcut⟩
    · by_cases hlk : k < s.size
      · obtain ⟨b, hbk⟩ : ∃ b, s.data.toList[k]? = some b := ⟨_, List.getElem?_eq_getElem (by rw [HSZ.out]; exact hlk)⟩
        have eb := byte_at hlk hbk
        have hst := hcut
        rw [cut_step hbk] at hst
        have htk := take_step hfk hbk
        have hbe : ∀ x : UInt8, ((b.toNat : Int) == (x.toNat : Int)) = (b == x) := by
          intro x
          by_cases h : b = x
          · rw [h]; simp
          · rw [show (b == x) = false from beq_eq_false_iff_ne.2 h]
            exact beq_eq_false_iff_ne.2 (fun e => h (UInt8.toNat_inj.1 (by omega)))
        have e39 := hbe 39
        have e44 := hbe 44
        have hne : ∀ x : UInt8, ((b.toNat : Int) != (x.toNat : Int)) = !(b == x) := fun x => by rw [bne, hbe x]
        have n44 := hne 44
        rw [show ((44 : UInt8).toNat : Int) = 44 from rfl] at n44
        rw [show ((39 : UInt8).toNat : Int) = 39 from rfl] at e39
        rw [show ((44 : UInt8).toNat : Int) = 44 from rfl] at e44
        clear hbe hne hcut
        by_cases h39 : b = 39
        · rw [if_pos h39, ← htk] at hst
          have HST := Lib.hid (show CutAt s.data.toList s.size (k + 1) f (!q) done from Or.inl ⟨by omega, by omega, hst⟩)
          rw [show (b == 39) = true by rw [h39]; rfl] at e39
          rw [show (b == 44) = false by rw [h39]; rfl] at e44 n44
          rw [Bool.not_false] at n44
          clear hst htk hbk h39
          go_wp2_with fail
          go_roundw
          case rel => exact ⟨k + 1, f, !q, fl, done, by omega, by omega, by go_num, rfl, rfl, rfl, by omega, HOW.out, HBD.out, HNO.out, HST.out, HB.out⟩
          case measure => simp [intOf]; omega
        · rw [if_neg h39] at hst
          rw [show (b == 39) = false from beq_eq_false_iff_ne.2 h39] at e39
          by_cases h44 : b = 44 ∧ q = false
          · obtain ⟨h44, rfl⟩ := h44
            rw [if_pos ⟨h44, rfl⟩] at hst
            have HST := Lib.hid hst
            have HINV := Lib.hid (show CutAt s.data.toList s.size (k + 1) (k + 1) false (done ++ [(s.data.toList.drop f).take (k - f)]) from Or.inl ⟨by omega, by omega, by rw [hst, Nat.sub_self]; simp⟩)
            rw [show (b == 44) = true by rw [h44]; rfl] at e44 n44
            rw [Bool.not_true] at n44
            clear hst htk hbk h39 h44
            have hpp : (s.data.toList.drop f).take (k - f) ∈ cutR s.data.toList := by rw [HST.out]; simp
            have TX := Lib.hid (TQ.out f k wr)
            rw [HXP.out] at TX
            generalize (s.data.toList.drop f).take (k - f) = pc at TX HINV hpp
            have HXB := Lib.hid (show valsCells ((done ++ [pc]).map fstP) = valsCells (done.map fstP) ++ [.int .i64 (readP pc).1.type, .int .i64 (readP pc).1.n, .string (readP pc).1.s] by rw [List.map_append]; exact valsCells_snoc2 _ _)
            have HNB := Lib.hid (show (done ++ [pc]).any badP = (fl || badP pc) by rw [List.any_append, HBD.out]; simp)
            have HNX := Lib.hid (show (readP pc).2 ≠ 2 → ∀ z ∈ done ++ [pc], (readP z).2 ≠ 2 from fun h z hz => by
              rcases List.mem_append.1 hz with hz | hz
              · exact HNO.out z hz
              · simp at hz; rw [hz]; exact h)
            have HBP := Lib.hid (show badP pc = decide ((readP pc).2 ≠ 0) from rfl)
            have he := readP_err pc
            have HEP := Lib.hid (show (readP pc).2 = 2 → readRow s.data.toList = ([], 2) from fun h => by rw [HE.out, if_pos (List.any_eq_true.2 ⟨pc, hpp, decide_eq_true h⟩)])
            clear hpp HST
            generalize badP pc = bp at HNB HBP
            generalize (readP pc).1 = v at TX HXB
            generalize (readP pc).2 = er at TX HNX HBP he HEP
            unfold valV at TX
            rcases he with rfl | rfl | rfl
            · as_aux_lemma =>
                have HNX := Lib.hid (HNX.out (by decide))
                have HBP := Lib.hid (HBP.out.trans (show decide ((0 : Int) ≠ 0) = false from rfl))
                obtain rfl := HBP.out
                clear HEP
                go_wp2_with fail
                refine (TX.out).mono ?_
                rintro e w2 ⟨rfl, hb2⟩
                obtain ⟨w3, hw3⟩ : ∃ w3, w2.alloc (.cells #[.int .i64 v.type, .int .i64 v.n, .string v.s] 52) = w3 := ⟨_, rfl⟩
                have hbx := belowNew' w2 (.cells #[.int .i64 v.type, .int .i64 v.n, .string v.s] 52)
                have hox := own3_new w2 v
                rw [hw3] at hbx hox
                obtain ⟨q0, q1, q2, -, -, -, -⟩ := hox.cells
                have hb3 := below_step hb2 hbx
                have hown3 := own_keep HOW.out hb3
                have hc3 := HB.out.trans (hb3.mono HB.out.size)
                have HW3 := Lib.hid hw3
                clear hb2 hbx hb3 hw3 hox
                cases fl
                · skip
                  go_wp2_with (first
                    | rw [HW3.out]
                    | (at_builtin; refine wpList_append_one valRow rfl _ _ rfl rfl rfl hown3 hc3 (Nat.le_refl _) rfl (by intro u hu; simp at hu; rcases hu with rfl | rfl | rfl <;> rfl) (by omega) ?_; intro v1 w6 hown6 hb6 _))
                  go_roundw
                  case rel => exact ⟨k + 1, k + 1, _, false, done ++ [pc], by omega, by omega, by go_num, by go_num, rfl, rfl, by rw [List.length_append, List.length_singleton]; omega, by rw [HXB.out, List.length_append]; exact hown6, HNB.out, HNX.out, HINV.out, hb6⟩
                  case measure => simp [intOf]; omega
                · skip
                  go_wp2_with (first
                    | rw [HW3.out]
                    | (at_builtin; refine wpList_append_one valRow rfl _ _ rfl rfl rfl hown3 hc3 (Nat.le_refl _) rfl (by intro u hu; simp at hu; rcases hu with rfl | rfl | rfl <;> rfl) (by omega) ?_; intro v1 w6 hown6 hb6 _))
                  go_roundw
                  case rel => exact ⟨k + 1, k + 1, _, true, done ++ [pc], by omega, by omega, by go_num, by go_num, rfl, rfl, by rw [List.length_append, List.length_singleton]; omega, by rw [HXB.out, List.length_append]; exact hown6, HNB.out, HNX.out, HINV.out, hb6⟩
                  case measure => simp [intOf]; omega
            · as_aux_lemma =>
                have HR := Lib.hid (HEP.out rfl)
                clear HINV HNX HBP HEP
                go_wp2_with fail
                refine (TX.out).mono ?_
                rintro e w2 ⟨rfl, hb2⟩
                have HB2 := Lib.hid (HB.out.trans (hb2.mono HB.out.size))
                obtain ⟨w3, hw3⟩ : ∃ w3, w2.alloc (.cells #[.int .i64 v.type, .int .i64 v.n, .string v.s] 52) = w3 := ⟨_, rfl⟩
                have hbx := belowNew' w2 (.cells #[.int .i64 v.type, .int .i64 v.n, .string v.s] 52)
                rw [hw3] at hbx
                have HB3 := Lib.hid (HB2.out.trans (hbx.mono HB2.out.size))
                have HW3 := Lib.hid hw3
                clear hb2 hbx hw3
                go_wp2_with (first | rw [HW3.out])
                go_ret2
                rw [HR.out]
                exact no_vals _ _ 2 HB3.out
            · as_aux_lemma =>
                have HNX := Lib.hid (HNX.out (by decide))
                have HBP := Lib.hid (HBP.out.trans (show decide ((4 : Int) ≠ 0) = true from rfl))
                obtain rfl := HBP.out
                clear HEP
                go_wp2_with fail
                refine (TX.out).mono ?_
                rintro e w2 ⟨rfl, hb2⟩
                obtain ⟨w3, hw3⟩ : ∃ w3, w2.alloc (.cells #[.int .i64 v.type, .int .i64 v.n, .string v.s] 52) = w3 := ⟨_, rfl⟩
                have hbx := belowNew' w2 (.cells #[.int .i64 v.type, .int .i64 v.n, .string v.s] 52)
                have hox := own3_new w2 v
                rw [hw3] at hbx hox
                obtain ⟨q0, q1, q2, -, -, -, -⟩ := hox.cells
                have hb3 := below_step hb2 hbx
                have hown3 := own_keep HOW.out hb3
                have hc3 := HB.out.trans (hb3.mono HB.out.size)
                have HW3 := Lib.hid hw3
                clear hb2 hbx hb3 hw3 hox
                cases fl
                · skip
                  go_wp2_with (first
                    | rw [HW3.out]
                    | (at_builtin; refine wpList_append_one valRow rfl _ _ rfl rfl rfl hown3 hc3 (Nat.le_refl _) rfl (by intro u hu; simp at hu; rcases hu with rfl | rfl | rfl <;> rfl) (by omega) ?_; intro v1 w6 hown6 hb6 _))
                  go_roundw
                  case rel => exact ⟨k + 1, k + 1, _, true, done ++ [pc], by omega, by omega, by go_num, by go_num, rfl, rfl, by rw [List.length_append, List.length_singleton]; omega, by rw [HXB.out, List.length_append]; exact hown6, HNB.out, HNX.out, HINV.out, hb6⟩
                  case measure => simp [intOf]; omega
                · skip
                  go_wp2_with (first
                    | rw [HW3.out]
                    | (at_builtin; refine wpList_append_one valRow rfl _ _ rfl rfl rfl hown3 hc3 (Nat.le_refl _) rfl (by intro u hu; simp at hu; rcases hu with rfl | rfl | rfl <;> rfl) (by omega) ?_; intro v1 w6 hown6 hb6 _))
                  go_roundw
                  case rel => exact ⟨k + 1, k + 1, _, true, done ++ [pc], by omega, by omega, by go_num, by go_num, rfl, rfl, by rw [List.length_append, List.length_singleton]; omega, by rw [HXB.out, List.length_append]; exact hown6, HNB.out, HNX.out, HINV.out, hb6⟩
                  case measure => simp [intOf]; omega
          · rw [if_neg h44, ← htk] at hst
            have HST := Lib.hid (show CutAt s.data.toList s.size (k + 1) f q done from Or.inl ⟨by omega, by omega, hst⟩)
            have hway : (b == 44) = false ∨ ((b == 44) = true ∧ q = true) := by
              by_cases h : b = 44
              · refine Or.inr ⟨by rw [h]; rfl, ?_⟩
                cases q with
                | true => rfl
                | false => exact (h44 ⟨h, rfl⟩).elim
              · exact Or.inl (beq_eq_false_iff_ne.2 h)
            clear hst htk hbk h39 h44
            rcases hway with h | ⟨h, rfl⟩
            all_goals
              rw [h] at e44 n44
              simp only [Bool.not_false, Bool.not_true] at n44
              clear h
              go_wp2_with fail
              go_roundw
              case rel => exact ⟨k + 1, f, _, fl, done, by omega, by omega, by go_num, rfl, rfl, rfl, by omega, HOW.out, HBD.out, HNO.out, HST.out, HB.out⟩
              case measure => simp [intOf]; omega
      · obtain rfl : k = s.size := by omega
        have hst : cutR s.data.toList = done ++ [(s.data.toList.drop f).take (s.size - f)] := by rw [hcut, show s.data.toList.drop s.size = [] from List.drop_of_length_le (by rw [HSZ.out]; exact Nat.le_refl _)]; rfl
        have HST := Lib.hid hst
        have HINV := Lib.hid (show CutAt s.data.toList s.size (s.size + 1) (s.size + 1) q (done ++ [(s.data.toList.drop f).take (s.size - f)]) from Or.inr ⟨rfl, hst⟩)
        clear hst hcut
        have hpp : (s.data.toList.drop f).take (s.size - f) ∈ cutR s.data.toList := by rw [HST.out]; simp
        have TX := Lib.hid (TQ.out f s.size wr)
        rw [HXP.out] at TX
        generalize (s.data.toList.drop f).take (s.size - f) = pc at TX HINV hpp
        have HXB := Lib.hid (show valsCells ((done ++ [pc]).map fstP) = valsCells (done.map fstP) ++ [.int .i64 (readP pc).1.type, .int .i64 (readP pc).1.n, .string (readP pc).1.s] by rw [List.map_append]; exact valsCells_snoc2 _ _)
        have HNB := Lib.hid (show (done ++ [pc]).any badP = (fl || badP pc) by rw [List.any_append, HBD.out]; simp)
        have HNX := Lib.hid (show (readP pc).2 ≠ 2 → ∀ z ∈ done ++ [pc], (readP z).2 ≠ 2 from fun h z hz => by
          rcases List.mem_append.1 hz with hz | hz
          · exact HNO.out z hz
          · simp at hz; rw [hz]; exact h)
        have HBP := Lib.hid (show badP pc = decide ((readP pc).2 ≠ 0) from rfl)
        have he := readP_err pc
        have HEP := Lib.hid (show (readP pc).2 = 2 → readRow s.data.toList = ([], 2) from fun h => by rw [HE.out, if_pos (List.any_eq_true.2 ⟨pc, hpp, decide_eq_true h⟩)])
        clear hpp HST
        generalize badP pc = bp at HNB HBP
        generalize (readP pc).1 = v at TX HXB
        generalize (readP pc).2 = er at TX HNX HBP he HEP
        unfold valV at TX
        rcases he with rfl | rfl | rfl
        · as_aux_lemma =>
            have HNX := Lib.hid (HNX.out (by decide))
            have HBP := Lib.hid (HBP.out.trans (show decide ((0 : Int) ≠ 0) = false from rfl))
            obtain rfl := HBP.out
            clear HEP
            go_wp2_with fail
            refine (TX.out).mono ?_
            rintro e w2 ⟨rfl, hb2⟩
            obtain ⟨w3, hw3⟩ : ∃ w3, w2.alloc (.cells #[.int .i64 v.type, .int .i64 v.n, .string v.s] 52) = w3 := ⟨_, rfl⟩
            have hbx := belowNew' w2 (.cells #[.int .i64 v.type, .int .i64 v.n, .string v.s] 52)
            have hox := own3_new w2 v
            rw [hw3] at hbx hox
            obtain ⟨q0, q1, q2, -, -, -, -⟩ := hox.cells
            have hb3 := below_step hb2 hbx
            have hown3 := own_keep HOW.out hb3
            have hc3 := HB.out.trans (hb3.mono HB.out.size)
            have HW3 := Lib.hid hw3
            clear hb2 hbx hb3 hw3 hox
            cases fl
            · skip
              go_wp2_with (first
                | rw [HW3.out]
                | (at_builtin; refine wpList_append_one valRow rfl _ _ rfl rfl rfl hown3 hc3 (Nat.le_refl _) rfl (by intro u hu; simp at hu; rcases hu with rfl | rfl | rfl <;> rfl) (by omega) ?_; intro v1 w6 hown6 hb6 _))
              go_roundw
              case rel => exact ⟨s.size + 1, s.size + 1, _, false, done ++ [pc], by omega, by omega, by go_num, by go_num, rfl, rfl, by rw [List.length_append, List.length_singleton]; omega, by rw [HXB.out, List.length_append]; exact hown6, HNB.out, HNX.out, HINV.out, hb6⟩
              case measure => simp [intOf]
            · skip
              go_wp2_with (first
                | rw [HW3.out]
                | (at_builtin; refine wpList_append_one valRow rfl _ _ rfl rfl rfl hown3 hc3 (Nat.le_refl _) rfl (by intro u hu; simp at hu; rcases hu with rfl | rfl | rfl <;> rfl) (by omega) ?_; intro v1 w6 hown6 hb6 _))
              go_roundw
              case rel => exact ⟨s.size + 1, s.size + 1, _, true, done ++ [pc], by omega, by omega, by go_num, by go_num, rfl, rfl, by rw [List.length_append, List.length_singleton]; omega, by rw [HXB.out, List.length_append]; exact hown6, HNB.out, HNX.out, HINV.out, hb6⟩
              case measure => simp [intOf]
        · as_aux_lemma =>
            have HR := Lib.hid (HEP.out rfl)
            clear HINV HNX HBP HEP
            go_wp2_with fail
            refine (TX.out).mono ?_
            rintro e w2 ⟨rfl, hb2⟩
            have HB2 := Lib.hid (HB.out.trans (hb2.mono HB.out.size))
            obtain ⟨w3, hw3⟩ : ∃ w3, w2.alloc (.cells #[.int .i64 v.type, .int .i64 v.n, .string v.s] 52) = w3 := ⟨_, rfl⟩
            have hbx := belowNew' w2 (.cells #[.int .i64 v.type, .int .i64 v.n, .string v.s] 52)
            rw [hw3] at hbx
            have HB3 := Lib.hid (HB2.out.trans (hbx.mono HB2.out.size))
            have HW3 := Lib.hid hw3
            clear hb2 hbx hw3
            go_wp2_with (first | rw [HW3.out])
            go_ret2
            rw [HR.out]
            exact no_vals _ _ 2 HB3.out
        · as_aux_lemma =>
            have HNX := Lib.hid (HNX.out (by decide))
            have HBP := Lib.hid (HBP.out.trans (show decide ((4 : Int) ≠ 0) = true from rfl))
            obtain rfl := HBP.out
            clear HEP
            go_wp2_with fail
            refine (TX.out).mono ?_
            rintro e w2 ⟨rfl, hb2⟩
            obtain ⟨w3, hw3⟩ : ∃ w3, w2.alloc (.cells #[.int .i64 v.type, .int .i64 v.n, .string v.s] 52) = w3 := ⟨_, rfl⟩
            have hbx := belowNew' w2 (.cells #[.int .i64 v.type, .int .i64 v.n, .string v.s] 52)
            have hox := own3_new w2 v
            rw [hw3] at hbx hox
            obtain ⟨q0, q1, q2, -, -, -, -⟩ := hox.cells
            have hb3 := below_step hb2 hbx
            have hown3 := own_keep HOW.out hb3
            have hc3 := HB.out.trans (hb3.mono HB.out.size)
            have HW3 := Lib.hid hw3
            clear hb2 hbx hb3 hw3 hox
            cases fl
            · skip
              go_wp2_with (first
                | rw [HW3.out]
                | (at_builtin; refine wpList_append_one valRow rfl _ _ rfl rfl rfl hown3 hc3 (Nat.le_refl _) rfl (by intro u hu; simp at hu; rcases hu with rfl | rfl | rfl <;> rfl) (by omega) ?_; intro v1 w6 hown6 hb6 _))
              go_roundw
              case rel => exact ⟨s.size + 1, s.size + 1, _, true, done ++ [pc], by omega, by omega, by go_num, by go_num, rfl, rfl, by rw [List.length_append, List.length_singleton]; omega, by rw [HXB.out, List.length_append]; exact hown6, HNB.out, HNX.out, HINV.out, hb6⟩
              case measure => simp [intOf]
            · skip
              go_wp2_with (first
                | rw [HW3.out]
                | (at_builtin; refine wpList_append_one valRow rfl _ _ rfl rfl rfl hown3 hc3 (Nat.le_refl _) rfl (by intro u hu; simp at hu; rcases hu with rfl | rfl | rfl <;> rfl) (by omega) ?_; intro v1 w6 hown6 hb6 _))
              go_roundw
              case rel => exact ⟨s.size + 1, s.size + 1, _, true, done ++ [pc], by omega, by omega, by go_num, by go_num, rfl, rfl, by rw [List.length_append, List.length_singleton]; omega, by rw [HXB.out, List.length_append]; exact hown6, HNB.out, HNX.out, HINV.out, hb6⟩
              case measure => simp [intOf]
    · have HR0 := Lib.hid (show readRow s.data.toList = if fl = true ∨ 6 < done.length then ([], 4) else (done.map fstP, 0) by
        rw [HE.out, hcut, if_neg (by intro h; obtain ⟨p, h1, h2⟩ := List.any_eq_true.1 h; exact HNO.out p h1 (of_decide_eq_true h2)), HBD.out])
      obtain ⟨A', c', hv, hse⟩ := Sees.of_own HOW.out
      have HSV := Lib.hid hse
      clear hcut
      subst hv
      clear hse HOW
      have hdn : done.length ≤ 2000001 := by omega
      cases fl
      · by_cases h6 : 6 < done.length
        · have d6 : decide (6 < (done.length : Int)) = true := decide_eq_true (by omega)
          have HR := Lib.hid (show readRow s.data.toList = ([], 4) by rw [HR0.out, if_pos (Or.inr h6)])
          clear h6
          go_wp2_with fail
          go_ret2
          rw [HR.out]
          exact no_vals _ _ 4 HB.out
        · have d6 : decide (6 < (done.length : Int)) = false := decide_eq_false (by omega)
          have HR := Lib.hid (show readRow s.data.toList = (done.map fstP, 0) by rw [HR0.out, if_neg (by simp; omega)])
          clear h6
          go_wp2_with fail
          go_ret2
          exact ⟨A', done.length, c', by rw [HR.out]; rfl, ⟨by rw [HR.out, List.length_map], by rw [HR.out]; exact HSV.out⟩, HB.out⟩
      · have HR := Lib.hid (show readRow s.data.toList = ([], 4) by rw [HR0.out, if_pos (Or.inl rfl)])
        go_wp2_with fail
        go_ret2
        rw [HR.out]
        exact no_vals _ _ 4 HB.out
end Go.Proofs.YtpbbkpfaphjdoabGreatDoor
