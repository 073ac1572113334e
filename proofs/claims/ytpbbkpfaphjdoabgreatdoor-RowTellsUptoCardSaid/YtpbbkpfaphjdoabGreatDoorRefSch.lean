/- sluiceref1.Cut, ReadSchema, walked: a text as a schema, by the document's way. -/
import Derived.Test.YtpbbkpfaphjdoabGreatDoorSchParse
import Derived.Test.YtpbbkpfaphjdoabGreatDoorRefRowShow
import Derived.Test.YtpbbkpfaphjdoabGreatDoorRefBase
namespace Go.Proofs.YtpbbkpfaphjdoabGreatDoor
open Go.ChangeShapes Go.WideShapes Go.ChangeAt Go.RowKit

theorem cutG_step {l cur : List UInt8} {k : Nat} {b c : UInt8} (hb : l[k]? = some b) : cutG c cur (l.drop k) = if b = c then cur :: cutG c [] (l.drop (k + 1)) else cutG c (cur ++ [b]) (l.drop (k + 1)) := by
  obtain ⟨hl, he⟩ := List.getElem?_eq_some_iff.1 hb
  rw [List.drop_eq_getElem_cons hl, he, cutG]
def RCutSays (c : UInt8) (l : List UInt8) (w : World) (e : Ending) (w' : World) : Prop := ∃ A d, e = .returned (.slice A (cutC c l).length d) ∧ Sees w' A (cutC c l).length d 1 (strCells ((cutC c l).map mkB)) ∧ Below w.heap.size w w'
set_option maxHeartbeats 2000000 in
set_option maxRecDepth 100000 in
theorem rcut_any (s : ByteArray) (c : UInt8) (hs : s.size ≤ 2000000) (w : World) : Calls Tryz.prog 38 #[.string s, .int .u8 (c.toNat : Int)] w (RCutSays c s.data.toList w) := by
  have HSZ := Lib.hid (size_eq s)
  go_enter Tryz.func38, Tryz.ntmps38
  go_wp2_with fail
  go_loopw [5, 6, 7] (fun out fv iv wx => ∃ (k f : Nat) (done : List (List UInt8)), f ≤ k ∧ k ≤ s.size ∧ iv = .int .i64 k ∧ fv = .int .i64 f ∧ done.length ≤ k ∧ wx.ownsRow w.heap.size 9 1 out done.length (strCells (done.map mkB)) ∧ cutC c s.data.toList = done ++ cutG c ((s.data.toList.drop f).take (k - f)) (s.data.toList.drop k) ∧ Below w.heap.size w wx) (fun _ _ iv _ => s.size - (intOf iv).toNat)
  case atStart => exact ⟨0, 0, [], by omega, by omega, rfl, rfl, by simp, World.ownsRow_nil _ _ _ _, rfl, Below.refl _ _⟩
  case round =>
    obtain ⟨k, f, done, hf, hk, rfl, rfl, hdl, hown, hcut, hb⟩ := hrel
    have HCUT := Lib.hid hcut
    have HB := Lib.hid hb
    have HOW := Lib.hid hown
    clear hcut hown hb
    by_cases hlk : k < s.size
    · obtain ⟨b, hbk⟩ : ∃ b, s.data.toList[k]? = some b := ⟨_, List.getElem?_eq_getElem (by rw [HSZ.out]; exact hlk)⟩
      have eb := byte_at hlk hbk
      have hst := HCUT.out
      rw [cutG_step hbk] at hst
      have htk := take_step hf hbk
      by_cases hc : b = c
      · rw [if_pos hc] at hst
        have ec : ((b.toNat : Int) == (c.toNat : Int)) = true := by rw [hc]; simp
        have HST := Lib.hid (show cutC c s.data.toList = (done ++ [(s.data.toList.drop f).take (k - f)]) ++ cutG c ((s.data.toList.drop (k + 1)).take (k + 1 - (k + 1))) (s.data.toList.drop (k + 1)) by rw [hst, Nat.sub_self]; simp)
        have HXB := Lib.hid (show strCells ((done ++ [(s.data.toList.drop f).take (k - f)]).map mkB) = strCells (done.map mkB) ++ [.string (s.extract f k)] by rw [List.map_append, ext_cut]; simp [strCells])
        have hown1 := HOW.out
        have hc1 := HB.out
        clear hst htk hbk hc
        go_wp2_with (first
          | (at_builtin; refine wpList_append_one strSlice rfl _ _ rfl rfl rfl hown1 hc1 (Nat.le_refl _) rfl (by intro u hu; simp at hu; subst hu; rfl) (by omega) ?_; intro v1 w6 hown6 hb6 _))
        go_roundw
        case rel => exact ⟨k + 1, k + 1, done ++ [(s.data.toList.drop f).take (k - f)], by omega, by omega, by go_num, by go_num, by simp; omega, by rw [HXB.out, List.length_append]; exact hown6, HST.out, hb6⟩
        case measure => simp [intOf]; omega
      · rw [if_neg hc, ← htk] at hst
        have ec : ((b.toNat : Int) == (c.toNat : Int)) = false := beq_eq_false_iff_ne.2 (fun e => hc (UInt8.toNat_inj.1 (by omega)))
        have HST := Lib.hid hst
        clear hst htk hbk hc
        go_wp2_with fail
        go_roundw
        case rel => exact ⟨k + 1, f, done, by omega, by omega, by go_num, rfl, by omega, HOW.out, HST.out, HB.out⟩
        case measure => simp [intOf]; omega
    · obtain rfl : k = s.size := by omega
      have HST := Lib.hid (show cutC c s.data.toList = done ++ [(s.data.toList.drop f).take (s.size - f)] by rw [HCUT.out, show s.data.toList.drop s.size = [] from List.drop_of_length_le (by rw [HSZ.out]; exact Nat.le_refl _)]; rfl)
      have HXB := Lib.hid (show strCells ((done ++ [(s.data.toList.drop f).take (s.size - f)]).map mkB) = strCells (done.map mkB) ++ [.string (s.extract f s.size)] by rw [List.map_append, ext_cut]; simp [strCells])
      have hown1 := HOW.out
      have hc1 := HB.out
      go_wp2_with (first
        | (at_builtin; refine wpList_append_one strSlice rfl _ _ rfl rfl rfl hown1 hc1 (Nat.le_refl _) rfl (by intro u hu; simp at hu; subst hu; rfl) (by omega) ?_; intro v1 w6 hown6 hb6 _))
      go_ret
      obtain ⟨A', c', hv, hse⟩ := Sees.of_own hown6
      refine ⟨A', c', ?_, ?_, hb6⟩
      · rw [HST.out, List.length_append]; exact congrArg Ending.returned hv
      · rw [HST.out, HXB.out, List.length_append]; exact hse

def RReadSchSays (r : List Col × Int) (w : World) (e : Ending) (w' : World) : Prop := ∃ A n c, e = .returned (.tuple #[.slice A n c, .int .i64 r.2]) ∧ SeesCols w' A n c r.1 ∧ Below w.heap.size w w'
theorem no_rcols (w w' : World) (k : Int) (h : Below w.heap.size w w') : RReadSchSays ([], k) w (.returned (.tuple #[.slice none 0 0, .int .i64 k])) w' :=
  ⟨none, 0, 0, rfl, ⟨rfl, Sees.nil _ _⟩, h⟩
theorem tyOf_range (l : List UInt8) : 0 ≤ tyOf l ∧ tyOf l ≤ 3 := by
  unfold tyOf
  split
  · omega
  split
  · omega
  split
  · omega
  · omega
theorem tyOf_is (l : List UInt8) (j : Nat) (h : 1 ≤ j ∧ j ≤ 3) : ((mkB l).toList == (mkB (tyName j)).toList) = decide (tyOf l = j) := by
  have hq : ((mkB l).toList == (mkB (tyName j)).toList) = decide (l = tyName j) := by
    rw [Lib.toList_data, Lib.toList_data, data_mkB, data_mkB]
    by_cases e : l = tyName j
    · simp [e]
    · simp [e]
  rw [hq]
  congr 1
  apply propext
  constructor
  · rintro rfl
    exact tyOf_name (by omega)
  · intro e
    have := (tyName_of (l := l) (by omega)).1
    rw [e] at this
    exact this.symm
set_option maxHeartbeats 8000000 in
set_option maxRecDepth 100000 in
theorem rreadSch_any (s : ByteArray) (hs : s.size ≤ 2000000) (w : World) : Calls Tryz.prog 17 #[.string s] w (RReadSchSays (readSch s.data.toList) w) := by
  have HSZ := Lib.hid (size_eq s)
  have TC := Lib.hid (rcut_any s 44 hs w)
  have HE := Lib.hid (show readSch s.data.toList = if (cutC 44 s.data.toList).any (fun p => (colOf p).isNone) = true then ([], 2) else if schemaErr ((cutC 44 s.data.toList).filterMap colOf) ≠ 0 then ([], schemaErr ((cutC 44 s.data.toList).filterMap colOf)) else ((cutC 44 s.data.toList).filterMap colOf, 0) from rfl)
  have hcnt : (cutC 44 s.data.toList).length ≤ 2000001 := by have := cutG_count 44 s.data.toList []; rw [HSZ.out] at this; exact Nat.le_trans this (by omega)
  have HPL := Lib.hid (fun p (hp : p ∈ cutC 44 s.data.toList) => show p.length ≤ 2000000 from Nat.le_trans (cutG_len 44 _ _ p hp) (by rw [HSZ.out]; simpa using hs))
  have TCUT := Lib.hid (fun (q : ByteArray) (hq : q.size ≤ 2000000) (w' : World) => rcut_any q 32 hq w')
  rw [show ((44 : UInt8).toNat : Int) = 44 from rfl] at TC
  rw [show ((32 : UInt8).toNat : Int) = 32 from rfl] at TCUT
  unfold RCutSays at TC TCUT
  generalize cutC 44 s.data.toList = ps at TC HE HPL hcnt
  clear hs
  go_enter Tryz.func17, Tryz.ntmps17
  go_wp2_with fail
  refine (TC.out).mono ?_
  rintro e w1 ⟨A, c, rfl, hse, hb1⟩
  have HB1 := Lib.hid hb1
  have HSE := Lib.hid hse
  have hcc := hse.2.1
  have hcm := hse.2.2.1
  unfold maxLen at hcm
  clear hse hb1 TC
  obtain ⟨n, hn⟩ : ∃ n, n = ps.length := ⟨_, rfl⟩
  have HN := Lib.hid hn
  rw [← hn] at HSE hcc hcnt ⊢
  clear hn
  go_wp2_with fail
  go_loopw [4, 6] (fun out iv wx => ∃ (k : Nat), k ≤ n ∧ iv = .int .i64 k ∧ wx.ownsRow w1.heap.size 61 2 out k (colsCells ((ps.take k).filterMap colOf)) ∧ (ps.take k).any (fun p => (colOf p).isNone) = false ∧ (∀ x ∈ (ps.take k).filterMap colOf, x.name.size ≤ 2000000) ∧ Below w1.heap.size w1 wx) (fun _ iv _ => n - (intOf iv).toNat)
  case atStart => exact ⟨0, by omega, rfl, World.ownsRow_nil _ _ _ _, rfl, (fun x hx => by simp at hx), Below.refl _ _⟩
  case round =>
    obtain ⟨k, hk, rfl, hown, hno, hnm, hb⟩ := hrel
    have HNO := Lib.hid hno
    have HNM := Lib.hid hnm
    have HB := Lib.hid hb
    have HBw := Lib.hid (below_step HB1.out hb)
    clear hno hnm
    by_cases hlk : k < n
    · obtain ⟨g, o, u, rfl, hu, c0⟩ := (HSE.out.keep hb).at_ hlk
      obtain ⟨z, hz, rfl⟩ := strCells_at hu
      rw [List.getElem?_map] at hz
      obtain ⟨p, hp, rfl⟩ := Option.map_eq_some_iff.1 hz
      have hpl := HPL.out p (List.mem_of_getElem? hp)
      have TX := Lib.hid (TCUT.out (mkB p) (by show p.length ≤ _; exact hpl) wr)
      rw [data_mkB] at TX
      have HCO := Lib.hid (show colOf p = match cutC 32 p with | [a, b] => if tyOf b = 0 ∨ nameOk a = false then none else some ⟨mkB a, tyOf b⟩ | _ => none from rfl)
      have HMEM := Lib.hid (List.mem_of_getElem? hp)
      have HEP := Lib.hid (show colOf p = none → readSch s.data.toList = ([], 2) from fun h => by rw [HE.out, if_pos (List.any_eq_true.2 ⟨p, HMEM.out, by rw [h]; rfl⟩)])
      have HFS := Lib.hid (filter_step hp)
      have HNX := Lib.hid (show (colOf p).isNone = false → (ps.take (k + 1)).any (fun p => (colOf p).isNone) = false from fun h => by
        rw [List.take_add_one, hp, List.any_append, HNO.out]; simp [h])
      have hall : ∀ y ∈ cutC 32 p, y.length ≤ 2000000 := fun y hy => by
        have := cutG_len 32 p [] y hy
        simp at this; omega
      have hpc : (cutC 32 p).length ≤ 2000001 := by have := cutG_count 32 p []; exact Nat.le_trans this (by omega)
      generalize cutC 32 p = ws at TX HCO hall hpc
      clear hu hz hp hb hpl
      have HOW := Lib.hid hown
      have HALL := Lib.hid hall
      clear hown hall
      by_cases h2 : ws.length = 2
      · obtain ⟨a, b, rfl⟩ : ∃ a b, ws = [a, b] := by
          match ws, h2 with
          | [a, b], _ => exact ⟨a, b, rfl⟩
        have hal : a.length ≤ 2000000 := HALL.out a (by simp)
        have hbl : b.length ≤ 2000000 := HALL.out b (by simp)
        have HCO2 := Lib.hid (show colOf p = if tyOf b = 0 ∨ nameOk a = false then none else some ⟨mkB a, tyOf b⟩ from HCO.out)
        have HTI := Lib.hid (tyOf_is b)
        have htr := tyOf_range b
        have HAL := Lib.hid hal
        have TNM := Lib.hid (fun (w' : World) => rletters_any (mkB a) w' (by show a.length ≤ _; unfold maxLen; omega))
        rw [data_mkB] at TNM
        clear HCO HALL h2 hpc hal hbl
        go_wp2_with fail
        refine (TX.out).mono ?_
        rintro e w2 ⟨A2, d2, rfl, hs2, hb2⟩
        have HB2 := Lib.hid (below_step HBw.out hb2)
        have HC2 := Lib.hid (below_step HB.out hb2)
        have HO2 := Lib.hid (own_keep HOW.out hb2)
        obtain ⟨g2, o2, rfl, hg2, hcs⟩ := hs2.2.2.2.2 (by simp)
        have HPA := Lib.hid (show w2.cell? ⟨g2, o2, none⟩ = some (.string (mkB a)) from hcs 0 (.string (mkB a)) rfl)
        have HPB := Lib.hid (hcs 1 (.string (mkB b)) rfl)
        have hd2 := hs2.2.1
        have hd3 := hs2.2.2.1
        unfold maxLen at hd3
        simp only [List.length_cons, List.length_nil] at hd2
        clear hs2 hb2 hcs TX
        go_wp2_with fail
        go_loopw [8, 9] (fun tv jv wy => ∃ j : Nat, 1 ≤ j ∧ j ≤ 4 ∧ jv = .int .i64 j ∧ tv = .int .i64 (if tyOf b < j then tyOf b else 0) ∧ Below w2.heap.size w2 wy) (fun _ jv _ => 4 - (intOf jv).toNat)
        case atStart => exact ⟨1, by omega, by omega, rfl, by congr 1; split <;> omega, Below.refl _ _⟩
        case round =>
          obtain ⟨j, hj1, hj4, rfl, rfl, hb3⟩ := hrel
          generalize htj : (if tyOf b < (j : Int) then tyOf b else 0) = tj
          have HTJ := Lib.hid htj
          clear htj
          have HB3 := Lib.hid hb3
          have PA := (hb3.cell (p := ⟨g2, o2, none⟩) hg2).trans HPA.out
          have PB := (hb3.cell (p := ⟨g2, o2 + 1, none⟩) hg2).trans HPB.out
          by_cases hj : j ≤ 3
          · have dj : decide ((j : Int) ≤ 3) = true := decide_eq_true (by omega)
            have dn : decide (j ≤ 3) = true := decide_eq_true hj
            have TN := Lib.hid (rtypeName_any (j : Int) ⟨by omega, by omega⟩ wr)
            have hti := HTI.out j ⟨hj1, hj⟩
            by_cases hq : tyOf b = j
            · rw [decide_eq_true hq] at hti
              have HNT := Lib.hid (show (j : Int) = if tyOf b < ((j + 1 : Nat) : Int) then tyOf b else 0 by rw [if_pos (by omega)]; exact hq.symm)
              clear hq hb3
              go_wp2_with fail
              refine (TN.out).mono ?_
              rintro e w4 ⟨rfl, hb4⟩
              have PB := (HB3.out.trans (hb4.mono HB3.out.size)).cell (p := ⟨g2, o2 + 1, none⟩) hg2 |>.trans HPB.out
              have HB4 := Lib.hid (HB3.out.trans (hb4.mono HB3.out.size))
              clear hb4
              go_wp2_with fail
              go_roundw
              case rel => exact ⟨j + 1, by omega, by omega, by go_num, by rw [← HNT.out], HB4.out⟩
              case measure => simp [intOf]; omega
            · rw [decide_eq_false hq] at hti
              have HNT := Lib.hid (show tj = if tyOf b < ((j + 1 : Nat) : Int) then tyOf b else 0 by
                rw [← HTJ.out]
                by_cases h : tyOf b < j
                · rw [if_pos h, if_pos (by omega)]
                · rw [if_neg h, if_neg (by omega)])
              clear hq hb3
              go_wp2_with fail
              refine (TN.out).mono ?_
              rintro e w4 ⟨rfl, hb4⟩
              have PB := (HB3.out.trans (hb4.mono HB3.out.size)).cell (p := ⟨g2, o2 + 1, none⟩) hg2 |>.trans HPB.out
              have HB4 := Lib.hid (HB3.out.trans (hb4.mono HB3.out.size))
              clear hb4
              go_wp2_with fail
              go_roundw
              case rel => exact ⟨j + 1, by omega, by omega, by go_num, by rw [← HNT.out], HB4.out⟩
              case measure => simp [intOf]; omega
          · obtain rfl : j = 4 := by omega
            obtain rfl : tyOf b = tj := by rw [← HTJ.out, if_pos (show tyOf b < ((4 : Nat) : Int) by omega)]
            have dj : decide (((4 : Nat) : Int) ≤ 3) = false := by decide
            have HB4 := Lib.hid (below_step HB2.out hb3)
            have HC4 := Lib.hid (below_step HC2.out hb3)
            have HO4 := Lib.hid (own_keep HO2.out hb3)
            clear hb3 hj HTI HPB htr
            by_cases hz : tyOf b = 0
            · have HR := Lib.hid (HEP.out (by rw [HCO2.out, if_pos (Or.inl hz)]))
              rw [hz]
              clear hz HCO2
              go_wp2_with fail
              refine (TNM.out _).mono ?_
              rintro e w5 ⟨rfl, rfl⟩
              go_wp2_with fail
              go_ret2
              rw [HR.out]
              exact no_rcols _ _ 2 HB4.out
            · have ez : (tyOf b == 0) = false := by simpa using hz
              cases hnk : nameOk a with
              | false =>
                have HR := Lib.hid (HEP.out (by rw [HCO2.out, if_pos (Or.inr hnk)]))
                rw [hnk] at TNM
                generalize tyOf b = ty at ez ⊢
                clear hz HCO2 hnk
                go_wp2_with fail
                refine (TNM.out _).mono ?_
                rintro e w5 ⟨rfl, rfl⟩
                go_wp2_with fail
                go_ret2
                rw [HR.out]
                exact no_rcols _ _ 2 HB4.out
              | true =>
                have hco : colOf p = some ⟨mkB a, tyOf b⟩ := by rw [HCO2.out, if_neg (by rw [hnk]; simp [hz])]
                have HFX := Lib.hid (show (ps.take (k + 1)).filterMap colOf = (ps.take k).filterMap colOf ++ [⟨mkB a, tyOf b⟩] by rw [HFS.out, hco]; rfl)
                have HXB := Lib.hid (show colsCells ((ps.take (k + 1)).filterMap colOf) = colsCells ((ps.take k).filterMap colOf) ++ [.string (mkB a), .int .i64 (tyOf b)] by rw [HFX.out]; exact colsCells_snoc _ _)
                have HNX2 := Lib.hid (HNX.out (by rw [hco]; rfl))
                have HNM2 := Lib.hid (show ∀ x ∈ (ps.take (k + 1)).filterMap colOf, x.name.size ≤ 2000000 from fun x hx => by
                  rw [HFX.out] at hx
                  rcases List.mem_append.1 hx with hx | hx
                  · exact HNM.out x hx
                  · simp at hx; rw [hx]; show a.length ≤ _; exact HAL.out)
                rw [hnk] at TNM
                clear hz HCO2 hnk hco HFX
                generalize tyOf b = ty at ez HXB ⊢
                have hown4 := HO4.out
                have hc4 := HC4.out
                go_wp2_with fail
                refine (TNM.out _).mono ?_
                rintro e w5 ⟨rfl, rfl⟩
                go_wp2_with (first
                  | (at_builtin; refine wpList_append_one colSlice rfl _ _ rfl rfl rfl hown4 hc4 (Nat.le_refl _) rfl (by intro u hu; simp at hu; rcases hu with rfl | rfl <;> rfl) (by omega) ?_; intro v1 w6 hown6 hb6 _))
                go_roundw
                case rel => exact ⟨k + 1, by omega, by go_num, by rw [HXB.out]; exact hown6, HNX2.out, HNM2.out, hb6⟩
                case measure => simp [intOf]; omega
      · have HR := Lib.hid (HEP.out (by
          rw [HCO.out]
          match ws, h2 with
          | [], _ => rfl
          | [_], _ => rfl
          | [_, _], h => exact (h rfl).elim
          | _ :: _ :: _ :: _, _ => rfl))
        have e2 : ((ws.length : Int) == 2) = false := by simp; omega
        clear HCO h2 HALL
        go_wp2_with fail
        refine (TX.out).mono ?_
        rintro e w2 ⟨A2, d2, rfl, hs2, hb2⟩
        have HB2 := Lib.hid (below_step HBw.out hb2)
        clear hs2 hb2
        go_wp2_with fail
        go_ret2
        rw [HR.out]
        exact no_rcols _ _ 2 HB2.out
    · obtain rfl : k = n := by omega
      have HTK := Lib.hid (show ps.take k = ps from List.take_of_length_le (by rw [HN.out]; exact Nat.le_refl _))
      rw [HTK.out] at hown HNO HNM
      obtain ⟨A', c', rfl, hse⟩ := Sees.of_own hown
      have HLEN := Lib.hid (show (ps.filterMap colOf).length = k by
        have := hse.1
        rw [colsCells_length] at this; omega)
      have HSC := Lib.hid (show SeesCols wr A' k c' (ps.filterMap colOf) from ⟨HLEN.out, hse⟩)
      have TS := Lib.hid (rschemaR_any (ps.filterMap colOf) A' k c' wr HSC.out (fun x hx => Nat.le_trans (HNM.out x hx) (by unfold maxLen; omega)))
      have HR0 := Lib.hid (show readSch s.data.toList = if schemaErr (ps.filterMap colOf) ≠ 0 then ([], schemaErr (ps.filterMap colOf)) else (ps.filterMap colOf, 0) by
        rw [HE.out, HNO.out, if_neg (by decide)])
      clear hown hse hb
      by_cases h0 : schemaErr (ps.filterMap colOf) = 0
      · rw [if_neg (by simp [h0])] at HR0
        rw [h0] at TS
        clear h0
        go_wp2_with fail
        refine (TS.out).mono ?_
        rintro e w2 ⟨rfl, rfl⟩
        go_wp2_with fail
        go_ret2
        exact ⟨A', k, c', by rw [HR0.out]; rfl, by rw [HR0.out]; exact HSC.out, HBw.out⟩
      · rw [if_pos h0] at HR0
        generalize schemaErr (ps.filterMap colOf) = se at TS HR0 h0
        have e0 : (se != 0) = true := by simpa using h0
        clear h0
        go_wp2_with fail
        refine (TS.out).mono ?_
        rintro e w2 ⟨rfl, rfl⟩
        go_wp2_with fail
        go_ret2
        rw [HR0.out]
        exact no_rcols _ _ _ HBw.out
end Go.Proofs.YtpbbkpfaphjdoabGreatDoor
