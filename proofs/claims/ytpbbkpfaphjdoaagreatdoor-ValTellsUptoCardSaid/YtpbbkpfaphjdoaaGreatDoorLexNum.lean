/- Package lex: a number at the beginning of a text, walked. -/
import Derived.Test.YtpbbkpfaphjdoaaGreatDoorLexFns
import Derived.Shelf.Strconv.AtoiAll
namespace Go.Proofs.YtpbbkpfaphjdoaaGreatDoor
open Go.ChangeShapes Go.WideShapes Go.ChangeAt Go.RowKit

/-- The library's errors of numbers lie as they were laid. -/
structure NumT (w : World) : Prop where
  rng : ∃ te pe, w.cell? ⟨8, 0, none⟩ = some (.iface te pe) ∧ 8 < w.heap.size
  syn : ∃ te pe, w.cell? ⟨7, 0, none⟩ = some (.iface te pe) ∧ 7 < w.heap.size
theorem NumT.keep {w w' : World} (h : NumT w) (hb : Below w.heap.size w w') : NumT w' := by
  obtain ⟨⟨a, b, h1, h2⟩, ⟨c, d, h3, h4⟩⟩ := h
  exact ⟨⟨a, b, (hb.cell (p := ⟨8, 0, none⟩) h2).trans h1, Nat.lt_of_lt_of_le h2 hb.size⟩, ⟨c, d, (hb.cell (p := ⟨7, 0, none⟩) h4).trans h3, Nat.lt_of_lt_of_le h4 hb.size⟩⟩
theorem ext_list (s : ByteArray) (a b : Nat) : (s.extract a b).data.toList = (s.data.toList.drop a).take (b - a) := by
  simp only [ByteArray.data_extract]
  simp only [Array.toList_extract, List.extract_eq_take_drop]
/-- Atoi of digits. -/
def atoiSays (l : List UInt8) (w : World) : Ending → World → Prop := fun e w' =>
  if numOk l = true then e = .returned (.tuple #[.int .i64 (decN l), .nilIface]) ∧ Below w.heap.size w w'
  else ∃ N t, e = .returned (.tuple #[.int .i64 (Lib.atoiSat l), .iface t (.pointer (some ⟨N, 0, none⟩))]) ∧ Below w.heap.size w w'
theorem atoi_any (s : ByteArray) (hs : s.size ≤ 281474976710656) (hn : s.data.toList ≠ []) (hd : s.data.toList.all isD = true) (w : World) (hT : NumT w) :
    Calls Tryz.prog 96 #[.string s] w (atoiSays s.data.toList w) := by
  have ha := atoi_digits hn hd
  unfold atoiSays
  by_cases hok : numOk s.data.toList = true
  · rw [if_pos hok] at ha
    refine (Tryz.strconv_Atoi_ok s (by omega) _ ha w).mono ?_
    rintro e w' ⟨rfl, h⟩
    rw [if_pos hok]
    refine ⟨rfl, ?_⟩
    rcases h with rfl | ⟨t, rfl⟩
    · exact Below.refl _ _
    · exact Lib.bytesWorld_below _ _ _
  · rw [if_neg hok] at ha
    obtain ⟨⟨te, pe, h1, h2⟩, _⟩ := hT
    refine (Tryz.strconv_Atoi_range s hs ha _ w h1 (Or.inr ⟨te, pe, rfl⟩)).mono ?_
    rintro e w' ⟨N, rfl, _, _, hb⟩
    rw [if_neg hok]
    exact ⟨N, _, rfl, hb⟩

def numBad (l : List UInt8) : Prop := (1 < (l.takeWhile isD).length ∧ l.head? = some 48) ∨ (l.dropWhile isD).head?.any isL = true
instance (l : List UInt8) : Decidable (numBad l) := by unfold numBad; infer_instance
def numN (l : List UInt8) : Nat := if numBad l then 0 else if numOk (l.takeWhile isD) = true then (l.takeWhile isD).length else 0
def numE (l : List UInt8) : Int := if numBad l then 2 else if numOk (l.takeWhile isD) = true then 0 else 1
theorem dw_drop (p : UInt8 → Bool) (l : List UInt8) : l.dropWhile p = l.drop (l.takeWhile p).length := by
  have h := List.takeWhile_append_dropWhile (p := p) (l := l)
  conv => rhs; rw [← h]
  generalize l.dropWhile p = b at h ⊢
  have : ((l.takeWhile p ++ b).takeWhile p).length = (l.takeWhile p).length := by rw [h]
  rw [this, List.drop_left]
set_option maxHeartbeats 8000000 in
set_option maxRecDepth 100000 in
theorem number_any (s : ByteArray) (c : UInt8) (r : List UInt8) (hl : s.data.toList = c :: r) (hc : isD c = true) (hs : s.size ≤ 400) (w : World) (hT : NumT w) :
    Calls Tryz.prog 208 #[.string s] w fun e w' => e = .returned (.tuple #[.int .i64 (numN s.data.toList), .int .i64 (numE s.data.toList)]) ∧ Below w.heap.size w w' := by
  have hsz := size_eq s
  have TS := Lib.hid (span_digit s (by unfold maxLen; omega) w)
  have h1n : 1 ≤ spanN isD s := by unfold spanN; rw [hl, List.takeWhile_cons, if_pos hc]; simp
  have hnl : spanN isD s ≤ s.size := by unfold spanN; rw [← hsz]; exact tw_len _ _
  have hdl : (s.extract 0 (spanN isD s)).data.toList = s.data.toList.takeWhile isD := by
    rw [ext_list, List.drop_zero, Nat.sub_zero]; exact tw_take _ _
  have TA := Lib.hid (fun w' hT => atoi_any (s.extract 0 (spanN isD s)) (by rw [← size_eq, hdl]; have := tw_len isD s.data.toList; omega) (by rw [hdl, hl, List.takeWhile_cons, if_pos hc]; simp) (by rw [hdl]; exact tw_all _ _) w' hT)
  rw [hdl] at TA
  have h0s : 0 < s.size := by omega
  have hb0 : s[0]'h0s = c := byte_at h0s (by rw [hl]; rfl)
  have hdr := dw_drop isD s.data.toList
  have HT := Lib.hid hT
  have HBAD := Lib.hid (show numBad s.data.toList ↔ (1 < spanN isD s ∧ c = 48) ∨ (∃ h : spanN isD s < s.size, isL (s[spanN isD s]'h) = true) by
    unfold numBad
    rw [hdr, hl, List.head?_cons, ← hl]
    refine or_congr (and_congr Iff.rfl (by simp)) ?_
    rw [List.head?_drop]
    show Option.any isL (s.data.toList[spanN isD s]?) = true ↔ _
    by_cases h : spanN isD s < s.size
    · rw [List.getElem?_eq_getElem (by rw [hsz]; exact h)]
      have := byte_at h (List.getElem?_eq_getElem (by rw [hsz]; exact h))
      rw [← this]
      simp [h]
    · rw [List.getElem?_eq_none (by rw [hsz]; omega)]
      simp [h])
  have HN := Lib.hid (show (s.data.toList.takeWhile isD).length = spanN isD s from rfl)
  unfold atoiSays at TA
  have HX := Lib.hid (show numBad s.data.toList → numN s.data.toList = 0 ∧ numE s.data.toList = 2 from fun h => by unfold numN numE; rw [if_pos h, if_pos h]; exact ⟨rfl, rfl⟩)
  have HY := Lib.hid (show ¬ numBad s.data.toList → numN s.data.toList = (if numOk (s.data.toList.takeWhile isD) = true then spanN isD s else 0) ∧ numE s.data.toList = (if numOk (s.data.toList.takeWhile isD) = true then 0 else 1) from fun h => by unfold numN numE; rw [if_neg h, if_neg h]; exact ⟨rfl, rfl⟩)
  clear hT hdr hdl HN
  generalize numOk (s.data.toList.takeWhile isD) = ok at TA HY
  generalize decN (s.data.toList.takeWhile isD) = dn at TA
  generalize Lib.atoiSat (s.data.toList.takeWhile isD) = ds at TA
  generalize numN s.data.toList = rn at HX HY ⊢
  generalize numE s.data.toList = re at HX HY ⊢
  generalize spanN isD s = n at *
  have D0 := Lib.hid hb0
  clear hl hc
  by_cases hA : 1 < n ∧ c = 48
  · obtain ⟨rfl, rfl⟩ := HX.out (HBAD.out.2 (Or.inl hA))
    obtain ⟨hA1, rfl⟩ := hA
    have d1 : decide (1 < (n : Int)) = true := decide_eq_true (by omega)
    have d2 : (((s[0]'h0s).toNat : Int) == 48) = true := by rw [hb0]; rfl
    clear hb0
    go_enter Tryz.func208, Tryz.ntmps208
    go_wp2_with fail
    refine (TS.out).mono ?_
    rintro e w1 ⟨rfl, rfl⟩
    go_wp2_with fail
    go_ret2
    exact ⟨rfl, Below.refl _ _⟩
  by_cases hA1 : 1 < n
  · have d1 : decide (1 < (n : Int)) = true := decide_eq_true (by omega)
    have hc48 : c ≠ 48 := fun e => hA ⟨hA1, e⟩
    have d2 : (((s[0]'h0s).toNat : Int) == 48) = false := by
      rw [hb0]
      refine beq_eq_false_iff_ne.2 (fun e => hc48 (UInt8.toNat_inj.1 ?_))
      show c.toNat = 48
      omega
    clear hb0
    by_cases hlt : n < s.size
    · have d3 : decide ((n : Int) < (s.size : Int)) = true := decide_eq_true (by omega)
      have TL := Lib.hid (lletter (s[n]'hlt) w)
      generalize hx : isL (s[n]'hlt) = x at TL
      cases x with
      | true =>
        obtain ⟨rfl, rfl⟩ := HX.out (HBAD.out.2 (Or.inr ⟨hlt, hx⟩))
        clear hx
        go_enter Tryz.func208, Tryz.ntmps208
        go_wp2_with fail
        refine (TS.out).mono ?_
        rintro e w1 ⟨rfl, rfl⟩
        go_wp2_with fail
        refine (TL.out).mono ?_
        rintro e w1 ⟨rfl, rfl⟩
        go_wp2_with fail
        go_ret2
        exact ⟨rfl, Below.refl _ _⟩
      | false =>
        obtain ⟨rfl, rfl⟩ := HY.out (fun h => by
          rcases HBAD.out.1 h with h | ⟨_, h⟩
          · exact hA h
          · rw [hx] at h; cases h)
        clear hx
        cases ok
        all_goals go_enter Tryz.func208, Tryz.ntmps208
        all_goals go_wp2_with fail
        all_goals refine (TS.out).mono ?_
        all_goals rintro e w1 ⟨rfl, rfl⟩
        all_goals go_wp2_with fail
        all_goals refine (TL.out).mono ?_
        all_goals rintro e w1 ⟨rfl, rfl⟩
        all_goals go_wp2_with fail
        all_goals refine (TA.out _ HT.out).mono ?_
        · rintro e w1 h
          rw [if_neg (by decide)] at h
          obtain ⟨N, t, rfl, hb⟩ := h
          go_wp2_with fail
          go_ret2
          exact ⟨rfl, hb⟩
        · rintro e w1 h
          rw [if_pos (by trivial)] at h
          obtain ⟨rfl, hb⟩ := h
          go_wp2_with fail
          go_ret2
          exact ⟨rfl, hb⟩
    · have d3 : decide ((n : Int) < (s.size : Int)) = false := decide_eq_false (by omega)
      obtain ⟨rfl, rfl⟩ := HY.out (fun h => by
        rcases HBAD.out.1 h with h | ⟨h, _⟩
        · exact hA h
        · exact hlt h)
      cases ok
      all_goals go_enter Tryz.func208, Tryz.ntmps208
      all_goals go_wp2_with fail
      all_goals refine (TS.out).mono ?_
      all_goals rintro e w1 ⟨rfl, rfl⟩
      all_goals go_wp2_with fail
      all_goals refine (TA.out _ HT.out).mono ?_
      · rintro e w1 h
        rw [if_neg (by decide)] at h
        obtain ⟨N, t, rfl, hb⟩ := h
        go_wp2_with fail
        go_ret2
        exact ⟨rfl, hb⟩
      · rintro e w1 h
        rw [if_pos (by trivial)] at h
        obtain ⟨rfl, hb⟩ := h
        go_wp2_with fail
        go_ret2
        exact ⟨rfl, hb⟩
  · have d1 : decide (1 < (n : Int)) = false := decide_eq_false (by omega)
    clear hb0
    by_cases hlt : n < s.size
    · have d3 : decide ((n : Int) < (s.size : Int)) = true := decide_eq_true (by omega)
      have TL := Lib.hid (lletter (s[n]'hlt) w)
      generalize hx : isL (s[n]'hlt) = x at TL
      cases x with
      | true =>
        obtain ⟨rfl, rfl⟩ := HX.out (HBAD.out.2 (Or.inr ⟨hlt, hx⟩))
        clear hx
        go_enter Tryz.func208, Tryz.ntmps208
        go_wp2_with fail
        refine (TS.out).mono ?_
        rintro e w1 ⟨rfl, rfl⟩
        go_wp2_with fail
        refine (TL.out).mono ?_
        rintro e w1 ⟨rfl, rfl⟩
        go_wp2_with fail
        go_ret2
        exact ⟨rfl, Below.refl _ _⟩
      | false =>
        obtain ⟨rfl, rfl⟩ := HY.out (fun h => by
          rcases HBAD.out.1 h with h | ⟨_, h⟩
          · exact hA h
          · rw [hx] at h; cases h)
        clear hx
        cases ok
        all_goals go_enter Tryz.func208, Tryz.ntmps208
        all_goals go_wp2_with fail
        all_goals refine (TS.out).mono ?_
        all_goals rintro e w1 ⟨rfl, rfl⟩
        all_goals go_wp2_with fail
        all_goals refine (TL.out).mono ?_
        all_goals rintro e w1 ⟨rfl, rfl⟩
        all_goals go_wp2_with fail
        all_goals refine (TA.out _ HT.out).mono ?_
        · rintro e w1 h
          rw [if_neg (by decide)] at h
          obtain ⟨N, t, rfl, hb⟩ := h
          go_wp2_with fail
          go_ret2
          exact ⟨rfl, hb⟩
        · rintro e w1 h
          rw [if_pos (by trivial)] at h
          obtain ⟨rfl, hb⟩ := h
          go_wp2_with fail
          go_ret2
          exact ⟨rfl, hb⟩
    · have d3 : decide ((n : Int) < (s.size : Int)) = false := decide_eq_false (by omega)
      obtain ⟨rfl, rfl⟩ := HY.out (fun h => by
        rcases HBAD.out.1 h with h | ⟨h, _⟩
        · exact hA h
        · exact hlt h)
      cases ok
      all_goals go_enter Tryz.func208, Tryz.ntmps208
      all_goals go_wp2_with fail
      all_goals refine (TS.out).mono ?_
      all_goals rintro e w1 ⟨rfl, rfl⟩
      all_goals go_wp2_with fail
      all_goals refine (TA.out _ HT.out).mono ?_
      · rintro e w1 h
        rw [if_neg (by decide)] at h
        obtain ⟨N, t, rfl, hb⟩ := h
        go_wp2_with fail
        go_ret2
        exact ⟨rfl, hb⟩
      · rintro e w1 h
        rw [if_pos (by trivial)] at h
        obtain ⟨rfl, hb⟩ := h
        go_wp2_with fail
        go_ret2
        exact ⟨rfl, hb⟩
end Go.Proofs.YtpbbkpfaphjdoaaGreatDoor
