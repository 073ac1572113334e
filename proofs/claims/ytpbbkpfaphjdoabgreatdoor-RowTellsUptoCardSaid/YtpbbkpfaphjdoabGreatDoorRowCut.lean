/- row.cut, walked: a text cut at each comma that is in no quote. -/
import Derived.Test.YtpbbkpfaphjdoabGreatDoorRowLaw
import Derived.Test.YtpbbkpfaphjdoabGreatDoorStrJoin
import Derived.Test.YtpbbkpfaphjdoabGreatDoorRefVal
namespace Go.Proofs.YtpbbkpfaphjdoabGreatDoor
open Go.ChangeShapes Go.WideShapes Go.ChangeAt Go.RowKit

theorem ext_cut {s : ByteArray} {i k : Nat} : s.extract i k = mkB ((s.data.toList.drop i).take (k - i)) := by
  unfold mkB
  rw [← mk_toList (s.extract i k)]
  simp only [ByteArray.data_extract, Array.toList_extract, List.extract_eq_take_drop]
theorem take_step {l : List UInt8} {f k : Nat} {b : UInt8} (hf : f ≤ k) (hb : l[k]? = some b) : (l.drop f).take (k + 1 - f) = (l.drop f).take (k - f) ++ [b] := by
  rw [show k + 1 - f = k - f + 1 by omega, List.take_add_one, List.getElem?_drop, show f + (k - f) = k by omega, hb]; rfl
theorem cut_step {l cur : List UInt8} {k : Nat} {b : UInt8} {q : Bool} (hb : l[k]? = some b) : cutF q cur (l.drop k) = if b = 39 then cutF (!q) (cur ++ [b]) (l.drop (k + 1)) else if b = 44 ∧ q = false then cur :: cutF q [] (l.drop (k + 1)) else cutF q (cur ++ [b]) (l.drop (k + 1)) := by
  obtain ⟨hl, he⟩ := List.getElem?_eq_some_iff.1 hb
  rw [List.drop_eq_getElem_cons hl, he, cutF]
def CutSays (l : List UInt8) (w : World) (e : Ending) (w' : World) : Prop := ∃ A c, e = .returned (.slice A (cutR l).length c) ∧ Sees w' A (cutR l).length c 1 (strCells ((cutR l).map mkB)) ∧ Below w.heap.size w w'
set_option maxHeartbeats 2000000 in
set_option maxRecDepth 100000 in
theorem rowCut_any (s : ByteArray) (hs : s.size ≤ 2000000) (w : World) : Calls Tryz.prog 35 #[.string s] w (CutSays s.data.toList w) := by
  obtain ⟨C, c, m, hconv, hcell, hcap⟩ := bytes_conv (P := Tryz.prog) w 9 105 5 s Tryz.underlying9 Tryz.underlying105 Tryz.underlying5
  have HCELL := Lib.hid hcell
  have HSZ := Lib.hid (size_eq s)
  clear hcell
  go_enter Tryz.func35, Tryz.ntmps35
  go_wp2_with fail
  have hb0 : Below w.heap.size w (w.alloc (.cells C 5 (m, m + 1))).drew := ((Below.refl _ _).alloc (Nat.le_refl _) _).drew
  have hlt0 : w.heap.size < (w.alloc (.cells C 5 (m, m + 1))).drew.heap.size := by show _ < (w.alloc (.cells C 5 (m, m + 1))).heap.size; simp
  have hc0 : ∀ k, k < s.size → (w.alloc (.cells C 5 (m, m + 1))).drew.cell? ⟨w.heap.size, k, none⟩ = (byteCells s.data.toList)[k]? := fun k hk => HCELL.out k (by rw [HSZ.out]; exact hk)
  generalize (w.alloc (.cells C 5 (m, m + 1))).drew = w0 at hb0 hlt0 hc0 ⊢
  have HB0 := Lib.hid hb0
  have HLT := Lib.hid hlt0
  have HC0 := Lib.hid hc0
  clear hconv hb0 hlt0 hc0 HCELL
  go_loopw [2, 3, 4, 10] (fun out fv qv iv wx => ∃ (k f : Nat) (q : Bool) (done : List (List UInt8)), f ≤ k ∧ k ≤ s.size ∧ iv = .int .i64 k ∧ fv = .int .i64 f ∧ qv = .bool q ∧ done.length ≤ k ∧ wx.ownsRow w0.heap.size 9 1 out done.length (strCells (done.map mkB)) ∧ cutR s.data.toList = done ++ cutF q ((s.data.toList.drop f).take (k - f)) (s.data.toList.drop k) ∧ Below w0.heap.size w0 wx) (fun _ _ _ iv _ => s.size - (intOf iv).toNat)
  case atStart => exact ⟨0, 0, false, [], by omega, by omega, rfl, rfl, rfl, by simp, World.ownsRow_nil _ _ _ _, rfl, Below.refl _ _⟩
  case round =>
    obtain ⟨k, f, q, done, hf, hk, rfl, rfl, rfl, hdl, hown, hcut, hb⟩ := hrel
    have HCUT := Lib.hid hcut
    have HB := Lib.hid hb
    have HOW := Lib.hid hown
    clear hcut hown
    by_cases hlk : k < s.size
    · obtain ⟨b, hbk⟩ : ∃ b, s.data.toList[k]? = some b := ⟨_, List.getElem?_eq_getElem (by rw [HSZ.out]; exact hlk)⟩
      have h1 := (hb.cell (p := ⟨w.heap.size, k, none⟩) HLT.out).trans (HC0.out k hlk)
      rw [byteCells_at hbk] at h1
      have hst := HCUT.out
      rw [cut_step hbk] at hst
      have htk := take_step hf hbk
      have hbe : ∀ x : UInt8, ((b.toNat : Int) == (x.toNat : Int)) = (b == x) := by
        intro x
        by_cases h : b = x
        · rw [h]; simp
        · rw [show (b == x) = false from beq_eq_false_iff_ne.2 h]
          exact beq_eq_false_iff_ne.2 (fun e => h (UInt8.toNat_inj.1 (by omega)))
      have e39 := hbe 39
      have e44 := hbe 44
      rw [show ((39 : UInt8).toNat : Int) = 39 from rfl] at e39
      rw [show ((44 : UInt8).toNat : Int) = 44 from rfl] at e44
      clear hb hbe
      by_cases h39 : b = 39
      · rw [if_pos h39, ← htk] at hst
        have HST := Lib.hid hst
        rw [show (b == 39) = true by rw [h39]; rfl] at e39
        clear hst htk hbk h39 e44
        go_wp2_with fail
        go_roundw
        case rel => exact ⟨k + 1, f, !q, done, by omega, by omega, by go_num, rfl, rfl, by omega, HOW.out, HST.out, HB.out⟩
        case measure => simp [intOf]; omega
      · rw [if_neg h39] at hst
        rw [show (b == 39) = false from beq_eq_false_iff_ne.2 h39] at e39
        by_cases h44 : b = 44 ∧ q = false
        · obtain ⟨h44, rfl⟩ := h44
          rw [if_pos ⟨h44, rfl⟩] at hst
          have HST := Lib.hid (show cutR s.data.toList = (done ++ [(s.data.toList.drop f).take (k - f)]) ++ cutF false ((s.data.toList.drop (k + 1)).take (k + 1 - (k + 1))) (s.data.toList.drop (k + 1)) by rw [hst, Nat.sub_self]; simp)
          rw [show (b == 44) = true by rw [h44]; rfl] at e44
          have HXB := Lib.hid (show strCells ((done ++ [(s.data.toList.drop f).take (k - f)]).map mkB) = strCells (done.map mkB) ++ [.string (s.extract f k)] by rw [List.map_append, ext_cut]; simp [strCells])
          have hown1 := HOW.out
          have hc1 := HB.out
          clear hst htk hbk h39 h44
          go_wp2_with (first
            | (at_builtin; refine wpList_append_one strSlice rfl _ _ rfl rfl rfl hown1 hc1 (Nat.le_refl _) rfl (by intro u hu; simp at hu; subst hu; rfl) (by omega) ?_; intro v1 w6 hown6 hb6 _))
          go_roundw
          case rel => exact ⟨k + 1, k + 1, false, done ++ [(s.data.toList.drop f).take (k - f)], by omega, by omega, by go_num, by go_num, rfl, by simp; omega, by rw [HXB.out, List.length_append]; exact hown6, HST.out, hb6⟩
          case measure => simp [intOf]; omega
        · rw [if_neg h44, ← htk] at hst
          have HST := Lib.hid hst
          have hway : (b == 44) = false ∨ ((b == 44) = true ∧ q = true) := by
            by_cases h : b = 44
            · refine Or.inr ⟨by rw [h]; rfl, ?_⟩
              cases q with
              | true => rfl
              | false => exact (h44 ⟨h, rfl⟩).elim
            · exact Or.inl (beq_eq_false_iff_ne.2 h)
          clear hst htk hbk h39 h44
          rcases hway with h | ⟨h, rfl⟩
          all_goals
            rw [h] at e44
            clear h
            go_wp2_with fail
            go_roundw
            case rel => exact ⟨k + 1, f, _, done, by omega, by omega, by go_num, rfl, rfl, by omega, HOW.out, HST.out, HB.out⟩
            case measure => simp [intOf]; omega
    · obtain rfl : k = s.size := by omega
      have HST := Lib.hid (show cutR s.data.toList = done ++ [(s.data.toList.drop f).take (s.size - f)] by rw [HCUT.out, show s.data.toList.drop s.size = [] from List.drop_of_length_le (by rw [HSZ.out]; exact Nat.le_refl _)]; rfl)
      have HXB := Lib.hid (show strCells ((done ++ [(s.data.toList.drop f).take (s.size - f)]).map mkB) = strCells (done.map mkB) ++ [.string (s.extract f s.size)] by rw [List.map_append, ext_cut]; simp [strCells])
      have hown1 := HOW.out
      have hc1 := HB.out
      clear hb
      go_wp2_with (first
        | (at_builtin; refine wpList_append_one strSlice rfl _ _ rfl rfl rfl hown1 hc1 (Nat.le_refl _) rfl (by intro u hu; simp at hu; subst hu; rfl) (by omega) ?_; intro v1 w6 hown6 hb6 _))
      go_ret
      obtain ⟨A', c', hv, hse⟩ := Sees.of_own hown6
      refine ⟨A', c', ?_, ?_, below_step HB0.out hb6⟩
      · rw [HST.out, List.length_append]; exact congrArg Ending.returned hv
      · rw [HST.out, HXB.out, List.length_append]; exact hse
end Go.Proofs.YtpbbkpfaphjdoabGreatDoor
