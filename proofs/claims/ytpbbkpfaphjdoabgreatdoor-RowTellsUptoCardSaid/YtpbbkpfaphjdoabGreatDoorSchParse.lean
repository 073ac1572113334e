/- row.ParseSchema, walked: a text as a schema. -/
import Derived.Test.YtpbbkpfaphjdoabGreatDoorSchPrint
import Derived.Test.YtpbbkpfaphjdoabGreatDoorRowParse
import Derived.Lib.SlicesS
namespace Go.Proofs.YtpbbkpfaphjdoabGreatDoor
open Go.ChangeShapes Go.WideShapes Go.ChangeAt Go.RowKit

theorem colSlice : SliceTy Tryz.prog 22 61 (.agg #[.string ⟨#[]⟩, .int .i64 0]) 2 24 := SliceTy.of Tryz.underlying22 (by kernel_rfl) rfl (by decide) (by decide)
theorem sees_alloc (w : World) (xs : List Value) (T : TypeId) (hx : xs.length ≤ maxLen) : Sees (w.alloc (.cells xs.toArray T)) (some ⟨w.heap.size, 0, none⟩) xs.length xs.length 1 xs := by
  refine ⟨by simp, Nat.le_refl _, hx, (fun e => by cases e), fun _ => ⟨_, _, rfl, by simp, fun j u hu => ?_⟩⟩
  rw [Nat.zero_add, cell_of_row _ _ _ _ _ _ (heap_alloc_new w _)]
  simpa using hu
theorem split_any (s : ByteArray) (hs : s.size ≤ 2000000) (w : World) (hT : TextT w) :
    Calls Tryz.prog 39 #[.string s, .string ⟨#[44]⟩] w fun e w' => ∃ A c, e = .returned (.slice A (cutC 44 s.data.toList).length c) ∧ Sees w' A (cutC 44 s.data.toList).length c 1 (strCells ((cutC 44 s.data.toList).map mkB)) ∧ Below w.heap.size w w' := by
  obtain ⟨m, hm, hlt⟩ := hT.2
  have hcut : (Lib.splitB ⟨#[44]⟩ 0 (Lib.countB s ⟨#[44]⟩) s).map (·.data.toList) = cutC 44 s.data.toList := by
    rw [Lib.splitB_data, ← split_eq]; rfl
  have hsp : Lib.splitB ⟨#[44]⟩ 0 (Lib.countB s ⟨#[44]⟩) s = (cutC 44 s.data.toList).map mkB := by
    rw [← hcut, List.map_map]
    conv => lhs; rw [← List.map_id (Lib.splitB ⟨#[44]⟩ 0 (Lib.countB s ⟨#[44]⟩) s)]
    exact List.map_congr_left fun x _ => rfl
  have hlen : Lib.countB s ⟨#[44]⟩ + 1 = (cutC 44 s.data.toList).length := by
    have := Lib.splitB_all ⟨#[44]⟩ (by decide) 0 _ s rfl
    rw [hsp, List.length_map] at this
    exact this.symm
  refine (Tryz.strings_Split s ⟨#[44]⟩ m w (by omega) hm (by decide)).mono ?_
  rintro e w' ⟨rfl, rfl⟩
  rw [hsp, hlen]
  have hc := cutG_count 44 s.data.toList []
  rw [size_eq] at hc
  have h1 := sees_alloc w (strCells ((cutC 44 s.data.toList).map mkB)) 9 (by simp only [strCells, List.length_map]; unfold maxLen; unfold cutC; omega)
  simp only [strCells, List.length_map] at h1
  exact ⟨_, _, rfl, h1, belowNew' _ _⟩
theorem ix_types (l : List UInt8) : (Lib.idxOfS typesB (mkB l) < 1 ∧ tyOf l = 0) ∨ (1 ≤ Lib.idxOfS typesB (mkB l) ∧ Lib.idxOfS typesB (mkB l) = tyOf l) := by
  have hq : ∀ x : List UInt8, (mkB x = mkB l) = (l = x) := fun x => propext ⟨fun h => by rw [← data_mkB l, ← h, data_mkB], fun h => by rw [h]⟩
  show ((if mkB [] = mkB l then ((0 : Nat) : Int) else if mkB tyInt = mkB l then ((0 + 1 : Nat) : Int) else if mkB tyBool = mkB l then ((0 + 1 + 1 : Nat) : Int) else if mkB tyText = mkB l then ((0 + 1 + 1 + 1 : Nat) : Int) else -1) < 1 ∧ _) ∨ (1 ≤ (if mkB [] = mkB l then ((0 : Nat) : Int) else if mkB tyInt = mkB l then ((0 + 1 : Nat) : Int) else if mkB tyBool = mkB l then ((0 + 1 + 1 : Nat) : Int) else if mkB tyText = mkB l then ((0 + 1 + 1 + 1 : Nat) : Int) else -1) ∧ (if mkB [] = mkB l then ((0 : Nat) : Int) else if mkB tyInt = mkB l then ((0 + 1 : Nat) : Int) else if mkB tyBool = mkB l then ((0 + 1 + 1 : Nat) : Int) else if mkB tyText = mkB l then ((0 + 1 + 1 + 1 : Nat) : Int) else -1) = _)
  simp only [hq]
  unfold tyOf
  by_cases h0 : l = []
  · subst h0; left; decide
  by_cases h1 : l = tyInt
  · subst h1; right; decide
  by_cases h2 : l = tyBool
  · subst h2; right; decide
  by_cases h3 : l = tyText
  · subst h3; right; decide
  · left
    rw [if_neg h0, if_neg h1, if_neg h2, if_neg h3, if_neg h1, if_neg h2, if_neg h3]
    exact ⟨by omega, rfl⟩
theorem index_types (x : ByteArray) (w : World) (hT : TypesT w) : Calls Tryz.prog 41 #[.slice (some ⟨0, 0, none⟩) 4 4, .string x] w fun e w' => e = .returned (.int .i64 (Lib.idxOfS typesB x)) ∧ w' = w := by
  obtain ⟨g, o, e, hg, hc⟩ := hT.2.2.2.2 (by omega)
  injection e with e
  injection e with e1 e2
  subst e1 e2
  have h := Tryz.slices_Index_string 0 0 4 4 typesB x w (by decide) (by decide) (fun j hj => by
    have hl : typesB[j]? = some typesB[j] := List.getElem?_eq_getElem hj
    rw [List.getD_eq_getElem?_getD, hl]
    exact hc j _ (strCells_get hl))
  exact h
theorem colsCells_snoc (l : List Col) (x : Col) : colsCells (l ++ [x]) = colsCells l ++ [.string x.name, .int .i64 x.type] := by unfold colsCells; rw [List.flatMap_append]; rfl
theorem filter_step {ps : List (List UInt8)} {k : Nat} {p : List UInt8} (h : ps[k]? = some p) : (ps.take (k + 1)).filterMap colOf = (ps.take k).filterMap colOf ++ (colOf p).toList := by
  rw [List.take_add_one, h, List.filterMap_append]
  cases hc : colOf p <;> simp [hc]
def SchParseSays (r : List Col × Int) (w : World) (e : Ending) (w' : World) : Prop := ∃ A n c, e = .returned (.tuple #[.slice A n c, errV r.2]) ∧ SeesCols w' A n c r.1 ∧ Below w.heap.size w w'
theorem no_cols (w w' : World) (k : Int) (h : Below w.heap.size w w') (hk : k ≠ 0) : SchParseSays ([], k) w (.returned (.tuple #[.slice none 0 0, .iface 62 (.int .i64 k)])) w' :=
  ⟨none, 0, 0, by rw [errV_ne hk], ⟨rfl, Sees.nil _ _⟩, h⟩
set_option maxHeartbeats 4000000 in
set_option maxRecDepth 100000 in
theorem schParse_any (s : ByteArray) (hs : s.size ≤ 2000000) (w : World) (hT : TextT w) (hY : TypesT w) : Calls Tryz.prog 18 #[.string s] w (SchParseSays (readSch s.data.toList) w) := by
  have HSZ := Lib.hid (size_eq s)
  have TC := Lib.hid (split_any s hs w hT)
  have HE := Lib.hid (show readSch s.data.toList = if (cutC 44 s.data.toList).any (fun p => (colOf p).isNone) = true then ([], 2) else if schemaErr ((cutC 44 s.data.toList).filterMap colOf) ≠ 0 then ([], schemaErr ((cutC 44 s.data.toList).filterMap colOf)) else ((cutC 44 s.data.toList).filterMap colOf, 0) from rfl)
  have hcnt : (cutC 44 s.data.toList).length ≤ 2000001 := by have := cutG_count 44 s.data.toList []; rw [HSZ.out] at this; exact Nat.le_trans this (by omega)
  have HPL := Lib.hid (fun p (hp : p ∈ cutC 44 s.data.toList) => show p.length ≤ 2000000 from Nat.le_trans (cutG_len 44 _ _ p hp) (by rw [HSZ.out]; simpa using hs))
  obtain ⟨m, hm, hml⟩ := hT.2
  have TCUT := Lib.hid (fun (q : ByteArray) (hq : q.size ≤ 2000000) (w' : World) (h : Below w.heap.size w w') => Tryz.strings_Cut q ⟨#[32]⟩ m w' (by omega) ((h.cell (p := ⟨3, 0, none⟩) hml).trans hm))
  have TIX := Lib.hid (fun (x : ByteArray) (w' : World) (h : Below w.heap.size w w') => index_types x w' (hY.keep h))
  generalize cutC 44 s.data.toList = ps at TC HE HPL hcnt
  clear hT hY hm hml hs
  go_enter Tryz.func18, Tryz.ntmps18
  go_wp2_with fail
  refine (TC.out).mono ?_
  rintro e w1 ⟨A, c, rfl, hse, hb1⟩
  have HB1 := Lib.hid hb1
  have HSE := Lib.hid hse
  have hcc := hse.2.1
  have hcm := hse.2.2.1
  unfold maxLen at hcm
  clear hse hb1 TC
  obtain ⟨n, hn⟩ : ∃ n, n = ps.length := ⟨_, rfl⟩
  have HN := Lib.hid hn
  rw [← hn] at HSE hcc hcnt ⊢
  clear hn
  go_wp2_with fail
  go_loopw [4, 15] (fun out iv wx => ∃ (k : Nat), k ≤ n ∧ iv = .int .i64 k ∧ wx.ownsRow w1.heap.size 61 2 out k (colsCells ((ps.take k).filterMap colOf)) ∧ (ps.take k).any (fun p => (colOf p).isNone) = false ∧ (∀ x ∈ (ps.take k).filterMap colOf, x.name.size ≤ 2000000) ∧ Below w1.heap.size w1 wx) (fun _ iv _ => n - (intOf iv).toNat)
  case atStart => exact ⟨0, by omega, rfl, World.ownsRow_nil _ _ _ _, rfl, (fun x hx => by simp at hx), Below.refl _ _⟩
  case round =>
    obtain ⟨k, hk, rfl, hown, hno, hnm, hb⟩ := hrel
    have HNO := Lib.hid hno
    have HNM := Lib.hid hnm
    have HB := Lib.hid hb
    have HBw := Lib.hid (below_step HB1.out hb)
    clear hno hnm
    by_cases hlk : k < n
    · obtain ⟨g, o, u, rfl, hu, c0⟩ := (HSE.out.keep hb).at_ hlk
      obtain ⟨z, hz, rfl⟩ := strCells_at hu
      rw [List.getElem?_map] at hz
      obtain ⟨p, hp, rfl⟩ := Option.map_eq_some_iff.1 hz
      have hpl := HPL.out p (List.mem_of_getElem? hp)
      have TX := Lib.hid (TCUT.out (mkB p) (by show p.length ≤ _; exact hpl) wr HBw.out)
      rw [data_mkB] at TX
      have HCO := Lib.hid (colOf_cut p)
      have HMEM := Lib.hid (List.mem_of_getElem? hp)
      have HEP := Lib.hid (show colOf p = none → readSch s.data.toList = ([], 2) from fun h => by rw [HE.out, if_pos (List.any_eq_true.2 ⟨p, HMEM.out, by rw [h]; rfl⟩)])
      have HFS := Lib.hid (filter_step hp)
      have HNX := Lib.hid (show (colOf p).isNone = false → (ps.take (k + 1)).any (fun p => (colOf p).isNone) = false from fun h => by
        rw [List.take_add_one, hp, List.any_append, HNO.out]; simp [h])
      have hal : (Lib.cut p [32]).1.length ≤ 2000000 := by
        rcases cut_of 32 p with ⟨_, h2⟩ | ⟨_, _, h3⟩
        · have : (Lib.cut p [32]).1.length ≤ p.length := by
            unfold Lib.cut
            split
            · simp; omega
            · exact Nat.le_refl _
          omega
        · have := congrArg List.length h3
          rw [List.length_append] at this
          omega
      generalize (Lib.cut p [32]).1 = a at TX HCO hal
      generalize (Lib.cut p [32]).2.1 = b at TX HCO
      generalize (Lib.cut p [32]).2.2 = is at TX HCO
      have TNM := Lib.hid (fun (w' : World) => rname_any (mkB a) w' (by show a.length ≤ _; unfold maxLen; omega))
      rw [data_mkB] at TNM
      have HIX := Lib.hid (ix_types b)
      have TI := Lib.hid (fun (w' : World) (h : Below w.heap.size w w') => TIX.out (mkB b) w' h)
      generalize Lib.idxOfS typesB (mkB b) = ix at TI HIX
      clear hu hz hp hb hpl
      have HAL := Lib.hid hal
      have HOW := Lib.hid hown
      clear hal hown
      rw [show (⟨a.toArray⟩ : ByteArray) = mkB a from rfl, show (⟨b.toArray⟩ : ByteArray) = mkB b from rfl] at TX
      cases is with
      | false =>
        as_aux_lemma =>
          have HR := Lib.hid (HEP.out (by rw [HCO.out, if_neg (by simp)]))
          clear HIX HCO
          go_wp2_with fail
          refine (TX.out).mono ?_
          rintro e w2 ⟨rfl, q, rfl⟩
          have HB2 := Lib.hid (below_drewN HBw.out q)
          go_wp2_with fail
          refine (TI.out _ HB2.out).mono ?_
          rintro e w2 ⟨rfl, rfl⟩
          go_wp2_with fail
          go_ret2
          rw [HR.out]
          exact no_cols _ _ 2 HB2.out (by decide)
      | true =>
        by_cases hix : ix < 1
        · as_aux_lemma =>
            have HR := Lib.hid (HEP.out (by
              rw [HCO.out, if_neg]
              rcases HIX.out with ⟨_, h⟩ | ⟨h, _⟩
              · simp [h]
              · omega))
            have dix : decide (ix < 1) = true := decide_eq_true hix
            clear HIX HCO hix
            go_wp2_with fail
            refine (TX.out).mono ?_
            rintro e w2 ⟨rfl, q, rfl⟩
            have HB2 := Lib.hid (below_drewN HBw.out q)
            go_wp2_with fail
            refine (TI.out _ HB2.out).mono ?_
            rintro e w2 ⟨rfl, rfl⟩
            go_wp2_with fail
            go_ret2
            rw [HR.out]
            exact no_cols _ _ 2 HB2.out (by decide)
        · have dix : decide (ix < 1) = false := decide_eq_false hix
          have HTY := Lib.hid (show ix = tyOf b ∧ tyOf b ≠ 0 from by
            rcases HIX.out with ⟨h, _⟩ | ⟨h1, h2⟩
            · omega
            · exact ⟨h2, by omega⟩)
          clear HIX hix
          cases hnk : nameOk a with
          | false =>
            as_aux_lemma =>
              have HR := Lib.hid (HEP.out (by rw [HCO.out, if_neg (by simp [hnk])]))
              rw [hnk] at TNM
              clear HCO hnk
              go_wp2_with fail
              refine (TX.out).mono ?_
              rintro e w2 ⟨rfl, q, rfl⟩
              have HB2 := Lib.hid (below_drewN HBw.out q)
              go_wp2_with fail
              refine (TI.out _ HB2.out).mono ?_
              rintro e w2 ⟨rfl, rfl⟩
              go_wp2_with fail
              refine (TNM.out _).mono ?_
              rintro e w2 ⟨rfl, hb2⟩
              have HB3 := Lib.hid (below_step HB2.out hb2)
              clear hb2
              go_wp2_with fail
              go_ret2
              rw [HR.out]
              exact no_cols _ _ 2 HB3.out (by decide)
          | true =>
            as_aux_lemma =>
              have hco : colOf p = some ⟨mkB a, ix⟩ := by rw [HCO.out, if_pos ⟨rfl, HTY.out.2, hnk⟩, HTY.out.1]
              have HFX := Lib.hid (show (ps.take (k + 1)).filterMap colOf = (ps.take k).filterMap colOf ++ [⟨mkB a, ix⟩] by rw [HFS.out, hco]; rfl)
              have HXB := Lib.hid (show colsCells ((ps.take (k + 1)).filterMap colOf) = colsCells ((ps.take k).filterMap colOf) ++ [.string (mkB a), .int .i64 ix] by rw [HFX.out]; exact colsCells_snoc _ _)
              have HNX2 := Lib.hid (HNX.out (by rw [hco]; rfl))
              have HNM2 := Lib.hid (show ∀ x ∈ (ps.take (k + 1)).filterMap colOf, x.name.size ≤ 2000000 from fun x hx => by
                rw [HFX.out] at hx
                rcases List.mem_append.1 hx with hx | hx
                · exact HNM.out x hx
                · simp at hx; rw [hx]; show a.length ≤ _; exact HAL.out)
              rw [hnk] at TNM
              clear HCO hnk hco
              go_wp2_with fail
              refine (TX.out).mono ?_
              rintro e w2 ⟨rfl, q, rfl⟩
              have HB2 := Lib.hid (below_drewN HBw.out q)
              have HC2 := Lib.hid (below_drewN HB.out q)
              have HO2 := Lib.hid (own_keep HOW.out (below_drewN (Below.refl _ _) q))
              go_wp2_with fail
              refine (TI.out _ HB2.out).mono ?_
              rintro e w2 ⟨rfl, rfl⟩
              go_wp2_with fail
              refine (TNM.out _).mono ?_
              rintro e w3 ⟨rfl, hb3⟩
              have hown3 := own_keep HO2.out hb3
              have hc3 := HC2.out.trans (hb3.mono HC2.out.size)
              clear hb3
              go_wp2_with (first
                | (at_builtin; refine wpList_append_one colSlice rfl _ _ rfl rfl rfl hown3 hc3 (Nat.le_refl _) rfl (by intro u hu; simp at hu; rcases hu with rfl | rfl <;> rfl) (by omega) ?_; intro v1 w6 hown6 hb6 _))
              go_roundw
              case rel => exact ⟨k + 1, by omega, by go_num, by rw [HXB.out]; exact hown6, HNX2.out, HNM2.out, hb6⟩
              case measure => simp [intOf]; omega
    · obtain rfl : k = n := by omega
      have HTK := Lib.hid (show ps.take k = ps from List.take_of_length_le (by rw [HN.out]; exact Nat.le_refl _))
      rw [HTK.out] at hown HNO HNM
      obtain ⟨A', c', rfl, hse⟩ := Sees.of_own hown
      have HLEN := Lib.hid (show (ps.filterMap colOf).length = k by
        have := hse.1
        rw [colsCells_length] at this; omega)
      have HSC := Lib.hid (show SeesCols wr A' k c' (ps.filterMap colOf) from ⟨HLEN.out, hse⟩)
      have TS := Lib.hid (rschema_any (ps.filterMap colOf) A' k c' wr HSC.out (fun x hx => Nat.le_trans (HNM.out x hx) (by unfold maxLen; omega)))
      have HR0 := Lib.hid (show readSch s.data.toList = if schemaErr (ps.filterMap colOf) ≠ 0 then ([], schemaErr (ps.filterMap colOf)) else (ps.filterMap colOf, 0) by
        rw [HE.out, HNO.out, if_neg (by decide)])
      clear hown hse hb
      by_cases h0 : schemaErr (ps.filterMap colOf) = 0
      · rw [if_neg (by simp [h0])] at HR0
        rw [h0, errV_zero] at TS
        clear h0
        go_wp2_with fail
        refine (TS.out).mono ?_
        rintro e w2 ⟨rfl, hb2⟩
        have HSC2 := Lib.hid (HSC.out.keep hb2)
        have HB2 := Lib.hid (below_step HBw.out hb2)
        clear hb2
        go_wp2_with fail
        go_ret2
        exact ⟨A', k, c', by rw [HR0.out]; rfl, by rw [HR0.out]; exact HSC2.out, HB2.out⟩
      · rw [if_pos h0] at HR0
        have HZ := Lib.hid h0
        rw [errV_ne h0] at TS
        clear h0
        go_wp2_with fail
        refine (TS.out).mono ?_
        rintro e w2 ⟨rfl, hb2⟩
        have HB2 := Lib.hid (below_step HBw.out hb2)
        clear hb2
        go_wp2_with fail
        go_ret2
        rw [HR0.out]
        exact no_cols _ _ _ HB2.out HZ.out
end Go.Proofs.YtpbbkpfaphjdoabGreatDoor
