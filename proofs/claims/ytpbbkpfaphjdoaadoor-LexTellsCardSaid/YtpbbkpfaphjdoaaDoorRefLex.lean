/- The document's words of any text (sluiceref1.Tokens), walked; sluicesame.Tokens at the same words. -/
import Derived.Test.YtpbbkpfaphjdoaaDoorRefQuote
import Derived.Test.YtpbbkpfaphjdoaaDoorLexAll
namespace Go.Proofs.YtpbbkpfaphjdoaaDoor
open Go.ChangeShapes Go.WideShapes Go.ChangeAt Go.RowKit

theorem ext_two {s : ByteArray} {i k : Nat} : s.extract i k = ⟨((s.data.toList.drop i).take (k - i)).toArray⟩ := by rw [← mk_toList (s.extract i k), ext_list]
/-- How far it goes on so. -/
theorem tw_at {p : UInt8 → Bool} {l : List UInt8} {i k : Nat} (hik : i ≤ k) (hk : k ≤ l.length) (ha : ((l.drop i).take (k - i)).all p = true) (he : ∀ b, l[k]? = some b → p b = false) : ((l.drop i).takeWhile p).length = k - i := by
  have h := tw_app ((l.drop i).take (k - i)) ((l.drop i).drop (k - i)) ha (fun x hx => by
    rw [List.head?_drop, List.getElem?_drop, show i + (k - i) = k by omega] at hx
    exact he x hx)
  rw [List.take_append_drop] at h
  rw [h.1, List.length_take, List.length_drop]; omega
theorem all_step {p : UInt8 → Bool} {l : List UInt8} {i k : Nat} {b : UInt8} (hik : i ≤ k) (ha : ((l.drop i).take (k - i)).all p = true) (hb : l[k]? = some b) (hp : p b = true) : ((l.drop i).take (k + 1 - i)).all p = true := by
  rw [show k + 1 - i = k - i + 1 by omega]
  exact all_take_succ ha (by rw [List.getElem?_drop, show i + (k - i) = k by omega]; exact hb) hp
def oneL : List UInt8 := [40, 41, 44, 43, 45, 42, 47, 37, 61, 60, 62]
theorem one_step {b x : UInt8} {j : Nat} (hx : oneL[j]? = some x) : (oneL.take (j + 1)).contains b = ((oneL.take j).contains b || (b == x)) := by
  rw [List.take_add_one, hx, Bool.eq_iff_iff]
  simp
theorem one_sign (c : UInt8) : sign1 c = oneL.contains c := by
  unfold sign1 oneL
  simp only [List.contains_cons, List.contains_nil, Bool.or_false]
  simp only [Bool.or_assoc]
  have e : ∀ a : UInt8, decide (c = a) = (c == a) := fun a => by by_cases h : c = a <;> simp [h]
  simp only [e]
theorem tokD {l r : List UInt8} {c : UInt8} (hl : l = c :: r) (hD : isD c = true) {n : Nat} (hn : (l.takeWhile isD).length = n) :
    tokP l = ((if (1 < n ∧ c = 48) ∨ (l.drop n).head?.any isL = true then (0, 2, 2) else match numP (l.take n) with | some _ => (n, 2, 0) | none => (0, 2, 1)) : Nat × Int × Int) := by
  have h1 : l.take n = l.takeWhile isD := by rw [← hn, tw_take]
  have h2 : l.drop n = l.dropWhile isD := by rw [← hn, dw_drop]
  subst hl
  rw [tokP_D r hD, h1, h2, hn]
  by_cases hc : (1 < n ∧ c = 48) ∨ ((c :: r).dropWhile isD).head?.any isL = true
  · rw [if_pos hc, if_pos hc]
  · have hne : (c :: r).takeWhile isD = c :: r.takeWhile isD := by rw [List.takeWhile_cons, if_pos hD]
    rw [if_neg hc, if_neg hc, numP_digits (by rw [hne]; simp) (tw_all _ _) (fun h => hc (Or.inl ⟨by rw [← hn]; exact h.2, by have := h.1; rw [hne] at this; simpa using this⟩))]
    by_cases ho : numOk ((c :: r).takeWhile isD) = true
    · rw [if_pos ho, if_pos ho]
    · rw [if_neg ho, if_neg ho]
def RLexSays (r : LexR) (w : World) (e : Ending) (w' : World) : Prop := ∃ A n c, e = .returned (.tuple #[.slice A n c, .int .i64 r.how, .int .i64 r.pos]) ∧ SeesToks w' A n c r.toks ∧ Below w.heap.size w w'
set_option maxHeartbeats 8000000 in
set_option maxRecDepth 100000 in
theorem rtokens_any (s : ByteArray) (hs : s.size ≤ maxLen) (w : World) :
    Calls Tryd.prog 25 #[.string s] w (RLexSays (lexS s.data.toList) w) := by
  have HSZ := Lib.hid (size_eq s)
  unfold maxLen at hs
  by_cases h4 : 400 < s.size
  · have d4 : decide (400 < (s.size : Int)) = true := decide_eq_true (by omega)
    have HE := Lib.hid (show lexS s.data.toList = .bad 4 0 by unfold lexS; rw [HSZ.out, if_pos h4])
    clear h4
    go_enter Tryd.func25, Tryd.ntmps25
    go_wp2_with fail
    go_ret3
    exact ⟨none, 0, 0, by rw [HE.out]; rfl, ⟨by rw [HE.out]; rfl, by rw [HE.out]; exact Sees.nil _ _⟩, Below.refl _ _⟩
  have d4 : decide (400 < (s.size : Int)) = false := decide_eq_false (by omega)
  have h400 : s.size ≤ 400 := by omega
  have HE := Lib.hid (lexS_len (s := s.data.toList) (by rw [HSZ.out]; exact h400))
  clear h4 hs
  go_enter Tryd.func25, Tryd.ntmps25
  go_wp2_with fail
  clear d4
  go_loopw [5, 6] (fun out iv wx => ∃ (i : Nat) (done : List Tok), i ≤ s.size ∧ iv = .int .i64 i ∧ done.length ≤ i ∧ wx.ownsRow w.heap.size 51 3 out done.length (toksCells done) ∧ lexP s.data.toList 0 = (lexP (s.data.toList.drop i) i).pre done ∧ Below w.heap.size w wx) (fun _ iv _ => s.size - (intOf iv).toNat)
  case atStart => exact ⟨0, [], by omega, rfl, Nat.le_refl _, World.ownsRow_nil _ _ _ _, by rw [LexR.pre_nil]; rfl, Below.refl _ _⟩
  case round =>
    obtain ⟨i, done, hi, rfl, hdl, hown, hlx, hb⟩ := hrel
    have HLX := Lib.hid hlx
    have HBR := Lib.hid hb
    have HOW := Lib.hid hown
    clear hlx hown hb
    by_cases hlt : i < s.size
    · obtain ⟨b, hbk⟩ : ∃ b, s.data.toList[i]? = some b := ⟨_, List.getElem?_eq_getElem (by rw [HSZ.out]; exact hlt)⟩
      have eb := byte_at hlt hbk
      have hdr := drop_cons hbk
      by_cases hbl : b = 32 ∨ b = 10
      · have HL2 := Lib.hid (show lexP s.data.toList 0 = (lexP (s.data.toList.drop (i + 1)) (i + 1)).pre done by rw [HLX.out, hdr, lexP_blank hbl])
        clear hbk hdr
        rcases hbl with rfl | rfl
        · have e1 : (((s[i]'hlt).toNat : Int) == 32) = true := by rw [eb]; rfl
          clear eb
          go_wp2_with fail
          go_roundw
          case rel => exact ⟨i + 1, done, by omega, by go_num, by omega, HOW.out, HL2.out, HBR.out⟩
          case measure => simp [intOf]; omega
        · have e1 : (((s[i]'hlt).toNat : Int) == 32) = false := by rw [eb]; rfl
          have e2 : (((s[i]'hlt).toNat : Int) == 10) = true := by rw [eb]; rfl
          clear eb
          go_wp2_with fail
          go_roundw
          case rel => exact ⟨i + 1, done, by omega, by go_num, by omega, HOW.out, HL2.out, HBR.out⟩
          case measure => simp [intOf]; omega
      · have hnb := hbl
        rw [isB_or, ← eb] at hbl
        simp only [not_or, Bool.not_eq_true] at hbl
        obtain ⟨e1, e2⟩ := hbl
        have TL := Lib.hid (fun w' => rletter (s[i]'hlt) w')
        have TD := Lib.hid (fun w' => rdigit (s[i]'hlt) w')
        -- what a word read, or a fault, does to all
        have HOK := Lib.hid (fun (k : Nat) (kd : Int) (hik : i ≤ k) (ht : tokP (s.data.toList.drop i) = (k - i, kd, 0)) => show lexP s.data.toList 0 = (lexP (s.data.toList.drop k) k).pre (done ++ [⟨kd, (s.data.toList.drop i).take (k - i), i⟩]) by
          rw [HLX.out, hdr, lexP_tok hnb (by rw [← hdr]; exact ht), LexR.pre_pre, ← hdr, List.drop_drop, show i + (k - i) = k by omega])
        have HBAD := Lib.hid (fun (n : Nat) (kd er : Int) (he : er ≠ 0) (ht : tokP (s.data.toList.drop i) = (n, kd, er)) => show lexS s.data.toList = .bad er i by
          rw [HE.out, HLX.out, hdr, lexP_bad hnb (by rw [← hdr]; exact ht) he]; rfl)
        have HDR := Lib.hid hdr
        have HBK := Lib.hid hbk
        have HEB := Lib.hid eb
        clear hbk hdr hnb
        by_cases hL : isL b = true
        · as_aux_lemma =>
          rw [show isL (s[i]'hlt) = true by rw [eb]; exact hL] at TL
          clear eb
          generalize isD (s[i]'hlt) = dd at TD
          have HT := Lib.hid (fun k (h : ((s.data.toList.drop i).takeWhile isLD).length = k - i) => show tokP (s.data.toList.drop i) = (k - i, 1, 0) by rw [← h]; rw [HDR.out]; exact tokP_L _ hL)
          have hbLD : isLD b = true := by unfold isLD; rw [hL]; rfl
          clear hL
          go_wp2_with fail
          refine (TL.out _).mono ?_
          rintro e w' ⟨rfl, rfl⟩
          go_wp2_with fail
          refine (TD.out _).mono ?_
          rintro e w' ⟨rfl, rfl⟩
          have HLD := Lib.hid hbLD
          clear hbLD
          go_wp2_with fail
          go_loopw [10] (fun kv wx => ∃ k : Nat, i ≤ k ∧ k ≤ s.size ∧ kv = .int .i64 k ∧ ((s.data.toList.drop i).take (k - i)).all isLD = true ∧ wx = wr) (fun kv _ => s.size - (intOf kv).toNat)
          case atStart => exact ⟨i, Nat.le_refl _, hi, rfl, by rw [Nat.sub_self]; rfl, rfl⟩
          case round =>
            obtain ⟨k, hik, hk, rfl, hall, rfl⟩ := hrel
            have HA := Lib.hid hall
            clear hall
            by_cases hlk : k < s.size
            · obtain ⟨x, hx⟩ : ∃ x, s.data.toList[k]? = some x := ⟨_, List.getElem?_eq_getElem (by rw [HSZ.out]; exact hlk)⟩
              have ex := byte_at hlk hx
              have TL2 := Lib.hid (fun w' => rletter (s[k]'hlk) w')
              have TD2 := Lib.hid (fun w' => rdigit (s[k]'hlk) w')
              by_cases hxL : isL x = true
              · rw [show isL (s[k]'hlk) = true by rw [ex]; exact hxL] at TL2
                have HS := Lib.hid (all_step hik HA.out hx (show isLD x = true by unfold isLD; rw [hxL]; rfl))
                clear hx ex hxL
                go_wp2_with fail
                refine (TL2.out _).mono ?_
                rintro e w' ⟨rfl, rfl⟩
                go_wp2_with fail
                go_roundw
                case rel => exact ⟨k + 1, by omega, by omega, by go_num, HS.out, by first | trivial | rfl⟩
                case measure => simp [intOf]; omega
              · rw [show isL (s[k]'hlk) = false by rw [ex]; simpa using hxL] at TL2
                by_cases hxD : isD x = true
                · rw [show isD (s[k]'hlk) = true by rw [ex]; exact hxD] at TD2
                  have HS := Lib.hid (all_step hik HA.out hx (show isLD x = true by unfold isLD; rw [hxD]; simp))
                  clear hx ex hxL hxD
                  go_wp2_with fail
                  refine (TL2.out _).mono ?_
                  rintro e w' ⟨rfl, rfl⟩
                  go_wp2_with fail
                  refine (TD2.out _).mono ?_
                  rintro e w' ⟨rfl, rfl⟩
                  go_wp2_with fail
                  go_roundw
                  case rel => exact ⟨k + 1, by omega, by omega, by go_num, HS.out, by first | trivial | rfl⟩
                  case measure => simp [intOf]; omega
                · rw [show isD (s[k]'hlk) = false by rw [ex]; simpa using hxD] at TD2
                  have HTW := tw_at (p := isLD) hik (by rw [HSZ.out]; exact hk) HA.out (fun y hy => by obtain rfl : x = y := Option.some.inj (hx.symm.trans hy); unfold isLD; rw [show isL x = false by simpa using hxL, show isD x = false by simpa using hxD]; rfl)
                  have hgt : i < k := by
                    have h := HTW
                    rw [HDR.out, List.takeWhile_cons, if_pos HLD.out] at h
                    simp at h; omega
                  have HL2 := Lib.hid (HOK.out k 1 hik (HT.out k HTW))
                  clear HTW
                  clear hx ex hxL hxD
                  go_wp2_with fail
                  refine (TL2.out _).mono ?_
                  rintro e w' ⟨rfl, rfl⟩
                  go_wp2_with fail
                  refine (TD2.out _).mono ?_
                  rintro e w' ⟨rfl, rfl⟩
                  have hown1 := HOW.out
                  have hc1 := HBR.out
                  go_wp2_with (first
                    | (at_builtin; refine wpList_append_one tokSlice rfl _ _ rfl rfl rfl hown1 hc1 (Nat.le_refl _) rfl (by intro u hu; simp at hu; rcases hu with rfl | rfl | rfl <;> rfl) (by omega) ?_; intro v1 w4 hown4 hb5 _))
                  go_roundw
                  case rel => exact ⟨k, done ++ [⟨1, (s.data.toList.drop i).take (k - i), i⟩], by omega, by go_num, by simp; omega, by
                    rw [toksCells_snoc, List.length_append, ← ext_two]; exact hown4, HL2.out, hb5⟩
                  case measure => simp [intOf]; omega
            · obtain rfl : k = s.size := by omega
              have HTW := tw_at (p := isLD) hik (by rw [HSZ.out]; exact hk) HA.out (fun y hy => by rw [List.getElem?_eq_none (by rw [HSZ.out]; exact Nat.le_refl _)] at hy; cases hy)
              have hgt : i < s.size := by
                have h := HTW
                rw [HDR.out, List.takeWhile_cons, if_pos HLD.out] at h
                simp at h; omega
              have HL2 := Lib.hid (HOK.out s.size 1 hik (HT.out s.size HTW))
              clear HTW
              have hown1 := HOW.out
              have hc1 := HBR.out
              go_wp2_with (first
                | (at_builtin; refine wpList_append_one tokSlice rfl _ _ rfl rfl rfl hown1 hc1 (Nat.le_refl _) rfl (by intro u hu; simp at hu; rcases hu with rfl | rfl | rfl <;> rfl) (by omega) ?_; intro v1 w4 hown4 hb5 _))
              go_roundw
              case rel => exact ⟨s.size, done ++ [⟨1, (s.data.toList.drop i).take (s.size - i), i⟩], by omega, by go_num, by simp; omega, by
                rw [toksCells_snoc, List.length_append, ← ext_two]; exact hown4, HL2.out, hb5⟩
              case measure => simp [intOf]; omega
        rw [show isL (s[i]'hlt) = false by rw [eb]; simpa using hL] at TL
        by_cases hD' : isD b = true
        · as_aux_lemma =>
          rw [show isD (s[i]'hlt) = true by rw [eb]; exact hD'] at TD
          have HD := Lib.hid hD'
          clear eb hL hD'
          go_wp2_with fail
          refine (TL.out _).mono ?_
          rintro e w' ⟨rfl, rfl⟩
          go_wp2_with fail
          refine (TD.out _).mono ?_
          rintro e w' ⟨rfl, rfl⟩
          go_wp2_with fail
          go_loopw [10] (fun kv wx => ∃ k : Nat, i ≤ k ∧ k ≤ s.size ∧ kv = .int .i64 k ∧ ((s.data.toList.drop i).take (k - i)).all isD = true ∧ wx = wr) (fun kv _ => s.size - (intOf kv).toNat)
          case atStart => exact ⟨i, Nat.le_refl _, hi, rfl, by rw [Nat.sub_self]; rfl, rfl⟩
          case round =>
            obtain ⟨k, hik, hk, rfl, hall, rfl⟩ := hrel
            have HA := Lib.hid hall
            clear hall
            by_cases hlk : k < s.size
            · obtain ⟨x, hx⟩ : ∃ x, s.data.toList[k]? = some x := ⟨_, List.getElem?_eq_getElem (by rw [HSZ.out]; exact hlk)⟩
              have ex := byte_at hlk hx
              have TL2 := Lib.hid (fun w' => rletter (s[k]'hlk) w')
              have TD2 := Lib.hid (fun w' => rdigit (s[k]'hlk) w')
              by_cases hxD : isD x = true
              · rw [show isD (s[k]'hlk) = true by rw [ex]; exact hxD] at TD2
                have HS := Lib.hid (all_step hik HA.out hx hxD)
                clear hx ex hxD
                go_wp2_with fail
                refine (TD2.out _).mono ?_
                rintro e w' ⟨rfl, rfl⟩
                go_wp2_with fail
                go_roundw
                case rel => exact ⟨k + 1, by omega, by omega, by go_num, HS.out, by first | trivial | rfl⟩
                case measure => simp [intOf]; omega
              · rw [show isD (s[k]'hlk) = false by rw [ex]; simpa using hxD] at TD2
                have HTW := tw_at (p := isD) hik (by rw [HSZ.out]; exact hk) HA.out (fun y hy => by obtain rfl : x = y := Option.some.inj (hx.symm.trans hy); simpa using hxD)
                have hgt : i < k := by
                  have h := HTW
                  rw [HDR.out, List.takeWhile_cons, if_pos HD.out] at h
                  simp at h; omega
                have HTD := Lib.hid (tokD HDR.out HD.out HTW)
                have hhd : ((s.data.toList.drop i).drop (k - i)).head? = s.data.toList[k]? := by rw [List.head?_drop, List.getElem?_drop, show i + (k - i) = k by omega]
                clear HTW
                by_cases hxL : isL x = true
                · rw [show isL (s[k]'hlk) = true by rw [ex]; exact hxL] at TL2
                  have HL := Lib.hid (HBAD.out 0 2 2 (by decide) (by rw [HTD.out, if_pos (Or.inr (by rw [hhd, hx]; exact hxL))]))
                  clear hx ex hxL hhd hxD
                  go_wp2_with fail
                  refine (TD2.out _).mono ?_
                  rintro e w' ⟨rfl, rfl⟩
                  go_wp2_with fail
                  refine (TL2.out _).mono ?_
                  rintro e w' ⟨rfl, rfl⟩
                  go_wp2_with fail
                  go_ret3
                  exact ⟨none, 0, 0, by rw [HL.out]; rfl, ⟨by rw [HL.out]; rfl, by rw [HL.out]; exact Sees.nil _ _⟩, HBR.out⟩
                rw [show isL (s[k]'hlk) = false by rw [ex]; simpa using hxL] at TL2
                have hany : ¬ ((s.data.toList.drop i).drop (k - i)).head?.any isL = true := by rw [hhd, hx]; exact hxL
                clear hx ex hxL hhd hxD
                by_cases h48 : b = 48 ∧ i + 1 < k
                · have d48 : (((s[i]'hlt).toNat : Int) == 48) = true := by rw [HEB.out, h48.1]; rfl
                  have dk : decide ((i : Int) + 1 < (k : Int)) = true := decide_eq_true (by have := h48.2; omega)
                  have HL := Lib.hid (HBAD.out 0 2 2 (by decide) (by rw [HTD.out, if_pos (Or.inl ⟨by omega, h48.1⟩)]))
                  clear h48 hany
                  go_wp2_with fail
                  refine (TD2.out _).mono ?_
                  rintro e w' ⟨rfl, rfl⟩
                  go_wp2_with fail
                  refine (TL2.out _).mono ?_
                  rintro e w' ⟨rfl, rfl⟩
                  go_wp2_with fail
                  go_ret3
                  exact ⟨none, 0, 0, by rw [HL.out]; rfl, ⟨by rw [HL.out]; rfl, by rw [HL.out]; exact Sees.nil _ _⟩, HBR.out⟩
                have hg : ((((s[i]'hlt).toNat : Int) == 48) = false) ∨ (((((s[i]'hlt).toNat : Int) == 48) = true) ∧ decide ((i : Int) + 1 < (k : Int)) = false) := by
                  by_cases h1 : b = 48
                  · exact Or.inr ⟨by rw [HEB.out, h1]; rfl, decide_eq_false (fun h => h48 ⟨h1, by omega⟩)⟩
                  · refine Or.inl ?_
                    rw [HEB.out]
                    refine beq_eq_false_iff_ne.2 (fun e => h1 (UInt8.toNat_inj.1 ?_))
                    show b.toNat = 48
                    omega
                have HTD2 := Lib.hid (show tokP (s.data.toList.drop i) = ((match numP ((s.data.toList.drop i).take (k - i)) with | some _ => (k - i, 2, 0) | none => (0, 2, 1)) : Nat × Int × Int) by
                  rw [HTD.out, if_neg]
                  rintro (h | h)
                  · exact h48 ⟨h.2, by omega⟩
                  · exact hany h)
                have TN := Lib.hid (fun w' => rnumber_any (s.extract i k) (by rw [ByteArray.size_extract]; unfold maxLen; omega) w')
                unfold numSays at TN
                rw [show (s.extract i k).data.toList = (s.data.toList.drop i).take (k - i) from ext_list _ _ _] at TN
                generalize numP ((s.data.toList.drop i).take (k - i)) = np at TN HTD2
                clear h48 hany HTD
                cases np with
                | none =>
                  have HL := Lib.hid (HBAD.out 0 2 1 (by decide) HTD2.out)
                  rcases hg with d48 | ⟨d48, dk⟩
                  · skip
                    go_wp2_with fail
                    refine (TD2.out _).mono ?_
                    rintro e w' ⟨rfl, rfl⟩
                    go_wp2_with fail
                    refine (TL2.out _).mono ?_
                    rintro e w' ⟨rfl, rfl⟩
                    go_wp2_with fail
                    refine (TN.out _).mono ?_
                    rintro e w' ⟨rfl, rfl⟩
                    go_wp2_with fail
                    go_ret3
                    exact ⟨none, 0, 0, by rw [HL.out]; rfl, ⟨by rw [HL.out]; rfl, by rw [HL.out]; exact Sees.nil _ _⟩, HBR.out⟩
                  · skip
                    go_wp2_with fail
                    refine (TD2.out _).mono ?_
                    rintro e w' ⟨rfl, rfl⟩
                    go_wp2_with fail
                    refine (TL2.out _).mono ?_
                    rintro e w' ⟨rfl, rfl⟩
                    go_wp2_with fail
                    refine (TN.out _).mono ?_
                    rintro e w' ⟨rfl, rfl⟩
                    go_wp2_with fail
                    go_ret3
                    exact ⟨none, 0, 0, by rw [HL.out]; rfl, ⟨by rw [HL.out]; rfl, by rw [HL.out]; exact Sees.nil _ _⟩, HBR.out⟩
                | some nv =>
                  have HL2 := Lib.hid (HOK.out k 2 hik HTD2.out)
                  rcases hg with d48 | ⟨d48, dk⟩
                  · skip
                    go_wp2_with fail
                    refine (TD2.out _).mono ?_
                    rintro e w' ⟨rfl, rfl⟩
                    go_wp2_with fail
                    refine (TL2.out _).mono ?_
                    rintro e w' ⟨rfl, rfl⟩
                    go_wp2_with fail
                    refine (TN.out _).mono ?_
                    rintro e w' ⟨rfl, rfl⟩
                    have hown1 := HOW.out
                    have hc1 := HBR.out
                    go_wp2_with (first
                      | (at_builtin; refine wpList_append_one tokSlice rfl _ _ rfl rfl rfl hown1 hc1 (Nat.le_refl _) rfl (by intro u hu; simp at hu; rcases hu with rfl | rfl | rfl <;> rfl) (by omega) ?_; intro v1 w4 hown4 hb5 _))
                    go_roundw
                    case rel => exact ⟨k, done ++ [⟨2, (s.data.toList.drop i).take (k - i), i⟩], by omega, by go_num, by simp; omega, by
                      rw [toksCells_snoc, List.length_append, ← ext_two]; exact hown4, HL2.out, hb5⟩
                    case measure => simp [intOf]; omega
                  · skip
                    go_wp2_with fail
                    refine (TD2.out _).mono ?_
                    rintro e w' ⟨rfl, rfl⟩
                    go_wp2_with fail
                    refine (TL2.out _).mono ?_
                    rintro e w' ⟨rfl, rfl⟩
                    go_wp2_with fail
                    refine (TN.out _).mono ?_
                    rintro e w' ⟨rfl, rfl⟩
                    have hown1 := HOW.out
                    have hc1 := HBR.out
                    go_wp2_with (first
                      | (at_builtin; refine wpList_append_one tokSlice rfl _ _ rfl rfl rfl hown1 hc1 (Nat.le_refl _) rfl (by intro u hu; simp at hu; rcases hu with rfl | rfl | rfl <;> rfl) (by omega) ?_; intro v1 w4 hown4 hb5 _))
                    go_roundw
                    case rel => exact ⟨k, done ++ [⟨2, (s.data.toList.drop i).take (k - i), i⟩], by omega, by go_num, by simp; omega, by
                      rw [toksCells_snoc, List.length_append, ← ext_two]; exact hown4, HL2.out, hb5⟩
                    case measure => simp [intOf]; omega
            · obtain rfl : k = s.size := by omega
              have HTW := tw_at (p := isD) hik (by rw [HSZ.out]; exact hk) HA.out (fun y hy => by rw [List.getElem?_eq_none (by rw [HSZ.out]; exact Nat.le_refl _)] at hy; cases hy)
              have hgt : i < s.size := by
                have h := HTW
                rw [HDR.out, List.takeWhile_cons, if_pos HD.out] at h
                simp at h; omega
              have HTD := Lib.hid (tokD HDR.out HD.out HTW)
              have hhd : ((s.data.toList.drop i).drop (s.size - i)).head? = s.data.toList[s.size]? := by rw [List.head?_drop, List.getElem?_drop, show i + (s.size - i) = s.size by omega]
              clear HTW
              have hany : ¬ ((s.data.toList.drop i).drop (s.size - i)).head?.any isL = true := by rw [hhd, List.getElem?_eq_none (by rw [HSZ.out]; exact Nat.le_refl _)]; decide
              clear hhd
              by_cases h48 : b = 48 ∧ i + 1 < s.size
              · have d48 : (((s[i]'hlt).toNat : Int) == 48) = true := by rw [HEB.out, h48.1]; rfl
                have dk : decide ((i : Int) + 1 < (s.size : Int)) = true := decide_eq_true (by have := h48.2; omega)
                have HL := Lib.hid (HBAD.out 0 2 2 (by decide) (by rw [HTD.out, if_pos (Or.inl ⟨by omega, h48.1⟩)]))
                clear h48 hany
                go_wp2_with fail
                go_ret3
                exact ⟨none, 0, 0, by rw [HL.out]; rfl, ⟨by rw [HL.out]; rfl, by rw [HL.out]; exact Sees.nil _ _⟩, HBR.out⟩
              have hg : ((((s[i]'hlt).toNat : Int) == 48) = false) ∨ (((((s[i]'hlt).toNat : Int) == 48) = true) ∧ decide ((i : Int) + 1 < (s.size : Int)) = false) := by
                by_cases h1 : b = 48
                · exact Or.inr ⟨by rw [HEB.out, h1]; rfl, decide_eq_false (fun h => h48 ⟨h1, by omega⟩)⟩
                · refine Or.inl ?_
                  rw [HEB.out]
                  refine beq_eq_false_iff_ne.2 (fun e => h1 (UInt8.toNat_inj.1 ?_))
                  show b.toNat = 48
                  omega
              have HTD2 := Lib.hid (show tokP (s.data.toList.drop i) = ((match numP ((s.data.toList.drop i).take (s.size - i)) with | some _ => (s.size - i, 2, 0) | none => (0, 2, 1)) : Nat × Int × Int) by
                rw [HTD.out, if_neg]
                rintro (h | h)
                · exact h48 ⟨h.2, by omega⟩
                · exact hany h)
              have TN := Lib.hid (fun w' => rnumber_any (s.extract i s.size) (by rw [ByteArray.size_extract]; unfold maxLen; omega) w')
              unfold numSays at TN
              rw [show (s.extract i s.size).data.toList = (s.data.toList.drop i).take (s.size - i) from ext_list _ _ _] at TN
              generalize numP ((s.data.toList.drop i).take (s.size - i)) = np at TN HTD2
              clear h48 hany HTD
              cases np with
              | none =>
                have HL := Lib.hid (HBAD.out 0 2 1 (by decide) HTD2.out)
                rcases hg with d48 | ⟨d48, dk⟩
                · skip
                  go_wp2_with fail
                  refine (TN.out _).mono ?_
                  rintro e w' ⟨rfl, rfl⟩
                  go_wp2_with fail
                  go_ret3
                  exact ⟨none, 0, 0, by rw [HL.out]; rfl, ⟨by rw [HL.out]; rfl, by rw [HL.out]; exact Sees.nil _ _⟩, HBR.out⟩
                · skip
                  go_wp2_with fail
                  refine (TN.out _).mono ?_
                  rintro e w' ⟨rfl, rfl⟩
                  go_wp2_with fail
                  go_ret3
                  exact ⟨none, 0, 0, by rw [HL.out]; rfl, ⟨by rw [HL.out]; rfl, by rw [HL.out]; exact Sees.nil _ _⟩, HBR.out⟩
              | some nv =>
                have HL2 := Lib.hid (HOK.out s.size 2 hik HTD2.out)
                rcases hg with d48 | ⟨d48, dk⟩
                · skip
                  go_wp2_with fail
                  refine (TN.out _).mono ?_
                  rintro e w' ⟨rfl, rfl⟩
                  have hown1 := HOW.out
                  have hc1 := HBR.out
                  go_wp2_with (first
                    | (at_builtin; refine wpList_append_one tokSlice rfl _ _ rfl rfl rfl hown1 hc1 (Nat.le_refl _) rfl (by intro u hu; simp at hu; rcases hu with rfl | rfl | rfl <;> rfl) (by omega) ?_; intro v1 w4 hown4 hb5 _))
                  go_roundw
                  case rel => exact ⟨s.size, done ++ [⟨2, (s.data.toList.drop i).take (s.size - i), i⟩], by omega, by go_num, by simp; omega, by
                    rw [toksCells_snoc, List.length_append, ← ext_two]; exact hown4, HL2.out, hb5⟩
                  case measure => simp [intOf]; omega
                · skip
                  go_wp2_with fail
                  refine (TN.out _).mono ?_
                  rintro e w' ⟨rfl, rfl⟩
                  have hown1 := HOW.out
                  have hc1 := HBR.out
                  go_wp2_with (first
                    | (at_builtin; refine wpList_append_one tokSlice rfl _ _ rfl rfl rfl hown1 hc1 (Nat.le_refl _) rfl (by intro u hu; simp at hu; rcases hu with rfl | rfl | rfl <;> rfl) (by omega) ?_; intro v1 w4 hown4 hb5 _))
                  go_roundw
                  case rel => exact ⟨s.size, done ++ [⟨2, (s.data.toList.drop i).take (s.size - i), i⟩], by omega, by go_num, by simp; omega, by
                    rw [toksCells_snoc, List.length_append, ← ext_two]; exact hown4, HL2.out, hb5⟩
                  case measure => simp [intOf]; omega
        rw [show isD (s[i]'hlt) = false by rw [eb]; simpa using hD'] at TD
        by_cases hQ : b = 39
        · as_aux_lemma =>
          subst hQ
          have d39 : (((s[i]'hlt).toNat : Int) == 39) = true := by rw [eb]; rfl
          have HQT := Lib.hid (show tokP (s.data.toList.drop i) = (quoN (s.data.toList.drop (i + 1)), 3, quoE (s.data.toList.drop (i + 1))) by rw [HDR.out]; exact quoT_tok _)
          clear eb hL hD'
          go_wp2_with fail
          refine (TL.out _).mono ?_
          rintro e w' ⟨rfl, rfl⟩
          go_wp2_with fail
          refine (TD.out _).mono ?_
          rintro e w' ⟨rfl, rfl⟩
          go_wp2_with fail
          go_loopw [10] (fun kv wx => ∃ k : Nat, i + 1 ≤ k ∧ k ≤ s.size ∧ kv = .int .i64 k ∧ qlen (s.data.toList.drop (i + 1)) = (qlen (s.data.toList.drop k)).map (· + (k - (i + 1))) ∧ wx = wr) (fun kv _ => s.size - (intOf kv).toNat)
          case atStart => exact ⟨i + 1, Nat.le_refl _, by omega, by go_num, by rw [Nat.sub_self]; cases qlen (s.data.toList.drop (i + 1)) <;> rfl, rfl⟩
          case round =>
            obtain ⟨k, hik, hk, rfl, hq, rfl⟩ := hrel
            have HQ := Lib.hid hq
            clear hq
            by_cases hlk : k < s.size
            · obtain ⟨x, hx⟩ : ∃ x, s.data.toList[k]? = some x := ⟨_, List.getElem?_eq_getElem (by rw [HSZ.out]; exact hlk)⟩
              have ex := byte_at hlk hx
              have hdx := drop_cons hx
              by_cases hx39 : x = 39
              · subst hx39
                have f1 : (((s[k]'hlk).toNat : Int) != 39) = false := by rw [ex]; rfl
                have f2 : (((s[k]'hlk).toNat : Int) == 39) = true := by rw [ex]; rfl
                have hend : (k + 1 = s.size ∨ ∃ (h : k + 1 < s.size) (y : UInt8), s.data.toList[k + 1]? = some y) := by
                  by_cases h : k + 1 < s.size
                  · exact Or.inr ⟨h, _, List.getElem?_eq_getElem (by rw [HSZ.out]; exact h)⟩
                  · exact Or.inl (by omega)
                have hstop : (s.data.toList.drop (k + 1)).head? ≠ some 39 → qlen (s.data.toList.drop (i + 1)) = some (k - i) := by
                  intro h
                  rw [HQ.out, hdx, qlen_end h]
                  show some (1 + (k - (i + 1))) = some (k - i)
                  congr 1; omega
                have hgo : ∀ z, (s.data.toList.drop (k + 1)) = 39 :: z → qlen (s.data.toList.drop (i + 1)) = (qlen z).map (· + (k + 1 + 1 - (i + 1))) := by
                  intro z h
                  rw [HQ.out, hdx, h, qlen_two]
                  cases qlen z with
                  | none => rfl
                  | some n => simp; omega
                rcases hend with hend | ⟨hlk2, y, hy⟩
                · have f3 : decide ((k : Int) + 1 < (s.size : Int)) = false := decide_eq_false (by omega)
                  have HS := Lib.hid (hstop (by rw [List.drop_of_length_le (by rw [HSZ.out]; omega)]; decide))
                  clear hgo hstop hx ex hdx hend
                  have TR := Lib.hid (fun w' => rread_any (s.extract i (k + 1)) (by rw [ByteArray.size_extract]; unfold maxLen; omega) w')
                  have hxt : (s.extract i (k + 1)).data.toList = 39 :: (s.data.toList.drop (i + 1)).take (k - i) := by
                    rw [ext_list, HDR.out, show k + 1 - i = (k - i) + 1 by omega, List.take_succ_cons]
                  unfold readSays at TR
                  rw [hxt, readP_quote] at TR
                  have HN := Lib.hid (show quoN (s.data.toList.drop (i + 1)) = (if (readQ ((s.data.toList.drop (i + 1)).take (k - i))).2 = 0 then k - i + 1 else 0) ∧ quoE (s.data.toList.drop (i + 1)) = (readQ ((s.data.toList.drop (i + 1)).take (k - i))).2 by unfold quoN quoE; rw [HS.out]; exact ⟨rfl, rfl⟩)
                  generalize (readQ ((s.data.toList.drop (i + 1)).take (k - i))).1 = v at TR
                  generalize (readQ ((s.data.toList.drop (i + 1)).take (k - i))).2 = er at TR HN
                  unfold valV at TR
                  have fge : decide ((s.size : Int) ≤ (k : Int)) = false := decide_eq_false (by omega)
                  clear hxt HS
                  by_cases her : er = 0
                  · subst her
                    have HL2 := Lib.hid (HOK.out (k + 1) 3 (by omega) (by rw [HQT.out, HN.out.1, HN.out.2, if_pos rfl, show k + 1 - i = k - i + 1 by omega]))
                    clear HN
                    go_wp2_with fail
                    refine (TR.out _).mono ?_
                    rintro e w2 ⟨rfl, hb2⟩
                    have hbn := belowNew' w2 (.cells #[.int .i64 v.type, .int .i64 v.n, .string v.s] 54)
                    obtain ⟨w3, hw3⟩ : ∃ w3, w2.alloc (.cells #[.int .i64 v.type, .int .i64 v.n, .string v.s] 54) = w3 := ⟨_, rfl⟩
                    rw [hw3] at hbn
                    have hb3 := below_step hb2 hbn
                    have hown1 := own_keep HOW.out hb3
                    have hc1 := HBR.out.trans (hb3.mono HBR.out.size)
                    have HW3 := Lib.hid hw3
                    clear hw3 hbn hb2 hb3
                    go_wp2_with (first
                      | rw [HW3.out]
                      | (at_builtin; refine wpList_append_one tokSlice rfl _ _ rfl rfl rfl hown1 hc1 (Nat.le_refl _) rfl (by intro u hu; simp at hu; rcases hu with rfl | rfl | rfl <;> rfl) (by omega) ?_; intro v1 w4 hown4 hb5 _))
                    go_roundw
                    case rel => exact ⟨k + 1, done ++ [⟨3, (s.data.toList.drop i).take (k + 1 - i), i⟩], by omega, by go_num, by simp; omega, by
                      rw [toksCells_snoc, List.length_append, ← ext_two]; exact hown4, HL2.out, hb5⟩
                    case measure => simp [intOf]; omega
                  · have HL := Lib.hid (HBAD.out 0 3 er her (by rw [HQT.out, HN.out.1, HN.out.2, if_neg her]))
                    have fer : (er != 0) = true := bne_iff_ne.2 her
                    clear HN her
                    go_wp2_with fail
                    refine (TR.out _).mono ?_
                    rintro e w2 ⟨rfl, hb2⟩
                    have hbn := belowNew' w2 (.cells #[.int .i64 v.type, .int .i64 v.n, .string v.s] 54)
                    have HB3 := Lib.hid (HBR.out.trans ((below_step hb2 hbn).mono HBR.out.size))
                    clear hbn hb2
                    go_wp2_with fail
                    go_ret3
                    exact ⟨none, 0, 0, by rw [HL.out]; rfl, ⟨by rw [HL.out]; rfl, by rw [HL.out]; exact Sees.nil _ _⟩, HB3.out⟩
                · have f3 : decide ((k : Int) + 1 < (s.size : Int)) = true := decide_eq_true (by omega)
                  have ey := byte_at hlk2 hy
                  have hdy := drop_cons hy
                  by_cases hy39 : y = 39
                  · subst hy39
                    have f4 : (((s[k + 1]'hlk2).toNat : Int) == 39) = true := by rw [ey]; rfl
                    have HS := Lib.hid (hgo _ hdy)
                    clear hgo hstop hx ex hdx hy ey hdy
                    go_wp2_with fail
                    go_roundw
                    case rel => exact ⟨k + 1 + 1, by omega, by omega, by go_num, HS.out, by first | trivial | rfl⟩
                    case measure => simp [intOf]; omega
                  · have f4 : (((s[k + 1]'hlk2).toNat : Int) == 39) = false := by
                      rw [ey]
                      refine beq_eq_false_iff_ne.2 (fun e => hy39 (UInt8.toNat_inj.1 ?_))
                      show y.toNat = 39
                      omega
                    have HS := Lib.hid (hstop (by rw [hdy]; simpa using hy39))
                    clear hgo hstop hx ex hdx hy ey hdy hy39
                    have TR := Lib.hid (fun w' => rread_any (s.extract i (k + 1)) (by rw [ByteArray.size_extract]; unfold maxLen; omega) w')
                    have hxt : (s.extract i (k + 1)).data.toList = 39 :: (s.data.toList.drop (i + 1)).take (k - i) := by
                      rw [ext_list, HDR.out, show k + 1 - i = (k - i) + 1 by omega, List.take_succ_cons]
                    unfold readSays at TR
                    rw [hxt, readP_quote] at TR
                    have HN := Lib.hid (show quoN (s.data.toList.drop (i + 1)) = (if (readQ ((s.data.toList.drop (i + 1)).take (k - i))).2 = 0 then k - i + 1 else 0) ∧ quoE (s.data.toList.drop (i + 1)) = (readQ ((s.data.toList.drop (i + 1)).take (k - i))).2 by unfold quoN quoE; rw [HS.out]; exact ⟨rfl, rfl⟩)
                    generalize (readQ ((s.data.toList.drop (i + 1)).take (k - i))).1 = v at TR
                    generalize (readQ ((s.data.toList.drop (i + 1)).take (k - i))).2 = er at TR HN
                    unfold valV at TR
                    have fge : decide ((s.size : Int) ≤ (k : Int)) = false := decide_eq_false (by omega)
                    clear hxt HS
                    by_cases her : er = 0
                    · subst her
                      have HL2 := Lib.hid (HOK.out (k + 1) 3 (by omega) (by rw [HQT.out, HN.out.1, HN.out.2, if_pos rfl, show k + 1 - i = k - i + 1 by omega]))
                      clear HN
                      go_wp2_with fail
                      refine (TR.out _).mono ?_
                      rintro e w2 ⟨rfl, hb2⟩
                      have hbn := belowNew' w2 (.cells #[.int .i64 v.type, .int .i64 v.n, .string v.s] 54)
                      obtain ⟨w3, hw3⟩ : ∃ w3, w2.alloc (.cells #[.int .i64 v.type, .int .i64 v.n, .string v.s] 54) = w3 := ⟨_, rfl⟩
                      rw [hw3] at hbn
                      have hb3 := below_step hb2 hbn
                      have hown1 := own_keep HOW.out hb3
                      have hc1 := HBR.out.trans (hb3.mono HBR.out.size)
                      have HW3 := Lib.hid hw3
                      clear hw3 hbn hb2 hb3
                      go_wp2_with (first
                        | rw [HW3.out]
                        | (at_builtin; refine wpList_append_one tokSlice rfl _ _ rfl rfl rfl hown1 hc1 (Nat.le_refl _) rfl (by intro u hu; simp at hu; rcases hu with rfl | rfl | rfl <;> rfl) (by omega) ?_; intro v1 w4 hown4 hb5 _))
                      go_roundw
                      case rel => exact ⟨k + 1, done ++ [⟨3, (s.data.toList.drop i).take (k + 1 - i), i⟩], by omega, by go_num, by simp; omega, by
                        rw [toksCells_snoc, List.length_append, ← ext_two]; exact hown4, HL2.out, hb5⟩
                      case measure => simp [intOf]; omega
                    · have HL := Lib.hid (HBAD.out 0 3 er her (by rw [HQT.out, HN.out.1, HN.out.2, if_neg her]))
                      have fer : (er != 0) = true := bne_iff_ne.2 her
                      clear HN her
                      go_wp2_with fail
                      refine (TR.out _).mono ?_
                      rintro e w2 ⟨rfl, hb2⟩
                      have hbn := belowNew' w2 (.cells #[.int .i64 v.type, .int .i64 v.n, .string v.s] 54)
                      have HB3 := Lib.hid (HBR.out.trans ((below_step hb2 hbn).mono HBR.out.size))
                      clear hbn hb2
                      go_wp2_with fail
                      go_ret3
                      exact ⟨none, 0, 0, by rw [HL.out]; rfl, ⟨by rw [HL.out]; rfl, by rw [HL.out]; exact Sees.nil _ _⟩, HB3.out⟩
              · have f1 : (((s[k]'hlk).toNat : Int) != 39) = true := by
                  rw [ex]
                  refine bne_iff_ne.2 (fun e => hx39 (UInt8.toNat_inj.1 ?_))
                  show x.toNat = 39
                  omega
                have f2 : (((s[k]'hlk).toNat : Int) == 39) = false := by
                  rw [ex]
                  refine beq_eq_false_iff_ne.2 (fun e => hx39 (UInt8.toNat_inj.1 ?_))
                  show x.toNat = 39
                  omega
                have HS := Lib.hid (show qlen (s.data.toList.drop (i + 1)) = (qlen (s.data.toList.drop (k + 1))).map (· + (k + 1 - (i + 1))) by
                  rw [HQ.out, hdx, qlen_cons hx39]
                  cases qlen (s.data.toList.drop (k + 1)) with
                  | none => rfl
                  | some n => simp; omega)
                clear hx ex hdx hx39
                go_wp2_with fail
                go_roundw
                case rel => exact ⟨k + 1, by omega, by omega, by go_num, HS.out, by first | trivial | rfl⟩
                case measure => simp [intOf]; omega
            · obtain rfl : k = s.size := by omega
              have hqn : qlen (s.data.toList.drop (i + 1)) = none := by rw [HQ.out, List.drop_of_length_le (by rw [HSZ.out]; exact Nat.le_refl _)]; rfl
              have HL := Lib.hid (HBAD.out 0 3 2 (by decide) (by rw [HQT.out]; unfold quoN quoE; rw [hqn]))
              have fge : decide ((s.size : Int) ≤ (s.size : Int)) = true := decide_eq_true (Int.le_refl _)
              clear hqn
              go_wp2_with fail
              go_ret3
              exact ⟨none, 0, 0, by rw [HL.out]; rfl, ⟨by rw [HL.out]; rfl, by rw [HL.out]; exact Sees.nil _ _⟩, HBR.out⟩
        have d39 : (((s[i]'hlt).toNat : Int) == 39) = false := by
          rw [eb]
          refine beq_eq_false_iff_ne.2 (fun e => hQ (UInt8.toNat_inj.1 ?_))
          show b.toNat = 39
          omega
        have hST : tokP (s.data.toList.drop i) = if sgnN (s.data.toList.drop i) = 0 then (0, 0, 2) else (sgnN (s.data.toList.drop i), 4, 0) := by rw [HDR.out, tokP_S _ hL hD' hQ]
        have hbe : ∀ k : UInt8, (((s[i]'hlt).toNat : Int) == (k.toNat : Int)) = (b == k) := by
          intro k
          rw [eb]
          by_cases h : b = k
          · rw [h]; simp
          · rw [show (b == k) = false from beq_eq_false_iff_ne.2 h]
            exact beq_eq_false_iff_ne.2 (fun e => h (UInt8.toNat_inj.1 (by omega)))
        have hb60 := hbe 60
        have hb62 := hbe 62
        rw [show ((60 : UInt8).toNat : Int) = 60 from rfl] at hb60
        rw [show ((62 : UInt8).toNat : Int) = 62 from rfl] at hb62
        have HBE := Lib.hid hbe
        have HST := Lib.hid hST
        have HNQ := Lib.hid hQ
        clear hbe hST eb hL hD' hQ
        have key : (∃ (h : i + 1 < s.size) (d : UInt8), s.data.toList[i + 1]? = some d ∧ ((b = 60 ∧ (d = 62 ∨ d = 61)) ∨ (b = 62 ∧ d = 61))) ∨ ¬ (∃ d, s.data.toList[i + 1]? = some d ∧ ((b = 60 ∧ (d = 62 ∨ d = 61)) ∨ (b = 62 ∧ d = 61))) := by
          by_cases h : ∃ d, s.data.toList[i + 1]? = some d ∧ ((b = 60 ∧ (d = 62 ∨ d = 61)) ∨ (b = 62 ∧ d = 61))
          · obtain ⟨d, h1, h2⟩ := h
            exact Or.inl ⟨by have := (List.getElem?_eq_some_iff.1 h1).1; rw [HSZ.out] at this; exact this, d, h1, h2⟩
          · exact Or.inr h
        rcases key with ⟨hl1, d, hd, hp⟩ | hno
        · have ed := byte_at hl1 hd
          have hdd := drop_cons hd
          have HL2 := Lib.hid (HOK.out (i + 2) 4 (by omega) (by
            rw [HST.out, HDR.out, hdd, sgnN_two _ hp, if_neg (by decide), show i + 2 - i = 2 by omega]))
          clear hd hdd
          rcases hp with ⟨rfl, rfl | rfl⟩ | ⟨rfl, rfl⟩
          · as_aux_lemma =>
            have g1 : (((s[i]'hlt).toNat : Int) == 60) = true := hb60
            have g2 : (((s[i]'hlt).toNat : Int) == 62) = false := hb62
            have g3 : (((s[i + 1]'hl1).toNat : Int) == 62) = true := by rw [ed]; rfl
            have g4 : (((s[i + 1]'hl1).toNat : Int) == 61) = false := by rw [ed]; rfl
            have g5 : decide ((i : Int) + 1 < (s.size : Int)) = true := decide_eq_true (by omega)
            clear ed hb60 hb62
            go_wp2_with fail
            refine (TL.out _).mono ?_
            rintro e w' ⟨rfl, rfl⟩
            go_wp2_with fail
            refine (TD.out _).mono ?_
            rintro e w' ⟨rfl, rfl⟩
            have hown1 := HOW.out
            have hc1 := HBR.out
            go_wp2_with (first
              | (at_builtin; refine wpList_append_one tokSlice rfl _ _ rfl rfl rfl hown1 hc1 (Nat.le_refl _) rfl (by intro u hu; simp at hu; rcases hu with rfl | rfl | rfl <;> rfl) (by omega) ?_; intro v1 w4 hown4 hb5 _))
            go_roundw
            case rel => exact ⟨i + 2, done ++ [⟨4, (s.data.toList.drop i).take (i + 2 - i), i⟩], by omega, by go_num, by simp; omega, by
              rw [toksCells_snoc, List.length_append, ← ext_two]; exact hown4, HL2.out, hb5⟩
            case measure => simp [intOf]; omega
          · as_aux_lemma =>
            have g1 : (((s[i]'hlt).toNat : Int) == 60) = true := hb60
            have g2 : (((s[i]'hlt).toNat : Int) == 62) = false := hb62
            have g3 : (((s[i + 1]'hl1).toNat : Int) == 62) = false := by rw [ed]; rfl
            have g4 : (((s[i + 1]'hl1).toNat : Int) == 61) = true := by rw [ed]; rfl
            have g5 : decide ((i : Int) + 1 < (s.size : Int)) = true := decide_eq_true (by omega)
            clear ed hb60 hb62
            go_wp2_with fail
            refine (TL.out _).mono ?_
            rintro e w' ⟨rfl, rfl⟩
            go_wp2_with fail
            refine (TD.out _).mono ?_
            rintro e w' ⟨rfl, rfl⟩
            have hown1 := HOW.out
            have hc1 := HBR.out
            go_wp2_with (first
              | (at_builtin; refine wpList_append_one tokSlice rfl _ _ rfl rfl rfl hown1 hc1 (Nat.le_refl _) rfl (by intro u hu; simp at hu; rcases hu with rfl | rfl | rfl <;> rfl) (by omega) ?_; intro v1 w4 hown4 hb5 _))
            go_roundw
            case rel => exact ⟨i + 2, done ++ [⟨4, (s.data.toList.drop i).take (i + 2 - i), i⟩], by omega, by go_num, by simp; omega, by
              rw [toksCells_snoc, List.length_append, ← ext_two]; exact hown4, HL2.out, hb5⟩
            case measure => simp [intOf]; omega
          · as_aux_lemma =>
            have g1 : (((s[i]'hlt).toNat : Int) == 60) = false := hb60
            have g2 : (((s[i]'hlt).toNat : Int) == 62) = true := hb62
            have g3 : (((s[i + 1]'hl1).toNat : Int) == 62) = false := by rw [ed]; rfl
            have g4 : (((s[i + 1]'hl1).toNat : Int) == 61) = true := by rw [ed]; rfl
            have g5 : decide ((i : Int) + 1 < (s.size : Int)) = true := decide_eq_true (by omega)
            clear ed hb60 hb62
            go_wp2_with fail
            refine (TL.out _).mono ?_
            rintro e w' ⟨rfl, rfl⟩
            go_wp2_with fail
            refine (TD.out _).mono ?_
            rintro e w' ⟨rfl, rfl⟩
            have hown1 := HOW.out
            have hc1 := HBR.out
            go_wp2_with (first
              | (at_builtin; refine wpList_append_one tokSlice rfl _ _ rfl rfl rfl hown1 hc1 (Nat.le_refl _) rfl (by intro u hu; simp at hu; rcases hu with rfl | rfl | rfl <;> rfl) (by omega) ?_; intro v1 w4 hown4 hb5 _))
            go_roundw
            case rel => exact ⟨i + 2, done ++ [⟨4, (s.data.toList.drop i).take (i + 2 - i), i⟩], by omega, by go_num, by simp; omega, by
              rw [toksCells_snoc, List.length_append, ← ext_two]; exact hown4, HL2.out, hb5⟩
            case measure => simp [intOf]; omega
        have HS1 := Lib.hid (show sgnN (s.data.toList.drop i) = if sign1 b = true then 1 else 0 by
          rw [HDR.out]
          exact sgnN_one _ (fun d hd hp => hno ⟨d, by rw [List.head?_drop] at hd; exact hd, hp⟩))
        have HOKS := Lib.hid (fun h : sign1 b = true => HOK.out (i + 1) 4 (by omega) (by rw [HST.out, HS1.out, if_pos h, if_neg (by decide), show i + 1 - i = 1 by omega]))
        have HNOS := Lib.hid (fun h : ¬ sign1 b = true => HBAD.out 0 0 2 (by decide) (by rw [HST.out, HS1.out, if_neg h, if_pos rfl]))
        rw [one_sign] at HOKS HNOS
        clear HS1 HST
        have hways : (decide ((i : Int) + 1 < (s.size : Int)) = false) ∨ ∃ h : i + 1 < s.size, (decide ((i : Int) + 1 < (s.size : Int)) = true) ∧ (((((s[i]'hlt).toNat : Int) == 60) = true ∧ (((s[i + 1]'h).toNat : Int) == 62) = false ∧ (((s[i + 1]'h).toNat : Int) == 61) = false ∧ (((s[i]'hlt).toNat : Int) == 62) = false) ∨
            ((((s[i]'hlt).toNat : Int) == 60) = false ∧ (((s[i]'hlt).toNat : Int) == 62) = true ∧ (((s[i + 1]'h).toNat : Int) == 61) = false) ∨ ((((s[i]'hlt).toNat : Int) == 60) = false ∧ (((s[i]'hlt).toNat : Int) == 62) = false)) := by
          by_cases h : i + 1 < s.size
          · refine Or.inr ⟨h, decide_eq_true (by omega), ?_⟩
            obtain ⟨d, hd⟩ : ∃ d, s.data.toList[i + 1]? = some d := ⟨_, List.getElem?_eq_getElem (by rw [HSZ.out]; exact h)⟩
            have ed := byte_at h hd
            have hde : ∀ k : UInt8, (((s[i + 1]'h).toNat : Int) == (k.toNat : Int)) = (d == k) := by
              intro k
              rw [ed]
              by_cases h : d = k
              · rw [h]; simp
              · rw [show (d == k) = false from beq_eq_false_iff_ne.2 h]
                exact beq_eq_false_iff_ne.2 (fun e => h (UInt8.toNat_inj.1 (by omega)))
            have hd62 := hde 62
            have hd61 := hde 61
            rw [show ((62 : UInt8).toNat : Int) = 62 from rfl] at hd62
            rw [show ((61 : UInt8).toNat : Int) = 61 from rfl] at hd61
            rw [hb60, hb62, hd62, hd61]
            by_cases c1 : b = 60
            · subst c1
              refine Or.inl ⟨rfl, ?_, ?_, rfl⟩
              · exact beq_eq_false_iff_ne.2 (fun e => hno ⟨d, hd, Or.inl ⟨rfl, Or.inl e⟩⟩)
              · exact beq_eq_false_iff_ne.2 (fun e => hno ⟨d, hd, Or.inl ⟨rfl, Or.inr e⟩⟩)
            · by_cases c2 : b = 62
              · subst c2
                exact Or.inr (Or.inl ⟨rfl, rfl, beq_eq_false_iff_ne.2 (fun e => hno ⟨d, hd, Or.inr ⟨rfl, e⟩⟩)⟩)
              · exact Or.inr (Or.inr ⟨beq_eq_false_iff_ne.2 c1, beq_eq_false_iff_ne.2 c2⟩)
          · exact Or.inl (decide_eq_false (by omega))
        clear hno hb60 hb62
        rcases hways with g5 | ⟨hl1, g5, ⟨g1, g3, g4, g2⟩ | ⟨g1, g2, g4⟩ | ⟨g1, g2⟩⟩
        · as_aux_lemma =>
          go_wp2_with fail
          refine (TL.out _).mono ?_
          rintro e w' ⟨rfl, rfl⟩
          go_wp2_with fail
          refine (TD.out _).mono ?_
          rintro e w' ⟨rfl, rfl⟩
          go_wp2_with fail
          clear g5
          go_loopw [16, 17] (fun okv jv wx => ∃ j : Nat, j ≤ 11 ∧ jv = .int .i64 j ∧ okv = .bool ((oneL.take j).contains b) ∧ wx = wr) (fun _ jv _ => 11 - (intOf jv).toNat)
          case atStart => exact ⟨0, by omega, rfl, rfl, rfl⟩
          case round =>
            obtain ⟨j, hj, rfl, rfl, rfl⟩ := hrel
            by_cases hj1 : j < 11
            · have hjs : j < (⟨#[40, 41, 44, 43, 45, 42, 47, 37, 61, 60, 62]⟩ : ByteArray).size := hj1
              obtain ⟨x, hx⟩ : ∃ x, oneL[j]? = some x := ⟨_, List.getElem?_eq_getElem hj1⟩
              have ex : (⟨#[40, 41, 44, 43, 45, 42, 47, 37, 61, 60, 62]⟩ : ByteArray)[j]'hjs = x := byte_at hjs hx
              have HT := Lib.hid (one_step (b := b) hx)
              have ee : (((s[i]'hlt).toNat : Int) == (((⟨#[40, 41, 44, 43, 45, 42, 47, 37, 61, 60, 62]⟩ : ByteArray)[j]'hjs).toNat : Int)) = (b == x) := by rw [ex]; exact HBE.out x
              clear hx ex
              generalize (oneL.take j).contains b = q1 at HT ⊢
              generalize (b == x) = q2 at HT ee
              cases q1 with
              | true =>
                clear ee
                go_wp2_with fail
                go_roundw
                case rel => exact ⟨j + 1, by omega, by go_num, by rw [HT.out]; rfl, by first | trivial | rfl⟩
                case measure => simp [intOf]; omega
              | false =>
                go_wp2_with fail
                go_roundw
                case rel => exact ⟨j + 1, by omega, by go_num, by rw [HT.out]; rfl, by first | trivial | rfl⟩
                case measure => simp [intOf]; omega
            · obtain rfl : j = 11 := by omega
              rw [show oneL.take 11 = oneL from rfl]
              generalize oneL.contains b = q1 at HOKS HNOS ⊢
              cases q1 with
              | true =>
                have HL2 := Lib.hid (HOKS.out rfl)
                have hown1 := HOW.out
                have hc1 := HBR.out
                go_wp2_with (first
                  | (at_builtin; refine wpList_append_one tokSlice rfl _ _ rfl rfl rfl hown1 hc1 (Nat.le_refl _) rfl (by intro u hu; simp at hu; rcases hu with rfl | rfl | rfl <;> rfl) (by omega) ?_; intro v1 w4 hown4 hb5 _))
                go_roundw
                case rel => exact ⟨i + 1, done ++ [⟨4, (s.data.toList.drop i).take (i + 1 - i), i⟩], by omega, by go_num, by simp; omega, by
                  rw [toksCells_snoc, List.length_append, ← ext_two]; exact hown4, HL2.out, hb5⟩
                case measure => simp [intOf]; omega
              | false =>
                have HL := Lib.hid (HNOS.out (by decide))
                go_wp2_with fail
                go_ret3
                exact ⟨none, 0, 0, by rw [HL.out]; rfl, ⟨by rw [HL.out]; rfl, by rw [HL.out]; exact Sees.nil _ _⟩, HBR.out⟩
        · as_aux_lemma =>
          go_wp2_with fail
          refine (TL.out _).mono ?_
          rintro e w' ⟨rfl, rfl⟩
          go_wp2_with fail
          refine (TD.out _).mono ?_
          rintro e w' ⟨rfl, rfl⟩
          go_wp2_with fail
          clear g1 g2 g3 g4 g5
          go_loopw [16, 17] (fun okv jv wx => ∃ j : Nat, j ≤ 11 ∧ jv = .int .i64 j ∧ okv = .bool ((oneL.take j).contains b) ∧ wx = wr) (fun _ jv _ => 11 - (intOf jv).toNat)
          case atStart => exact ⟨0, by omega, rfl, rfl, rfl⟩
          case round =>
            obtain ⟨j, hj, rfl, rfl, rfl⟩ := hrel
            by_cases hj1 : j < 11
            · have hjs : j < (⟨#[40, 41, 44, 43, 45, 42, 47, 37, 61, 60, 62]⟩ : ByteArray).size := hj1
              obtain ⟨x, hx⟩ : ∃ x, oneL[j]? = some x := ⟨_, List.getElem?_eq_getElem hj1⟩
              have ex : (⟨#[40, 41, 44, 43, 45, 42, 47, 37, 61, 60, 62]⟩ : ByteArray)[j]'hjs = x := byte_at hjs hx
              have HT := Lib.hid (one_step (b := b) hx)
              have ee : (((s[i]'hlt).toNat : Int) == (((⟨#[40, 41, 44, 43, 45, 42, 47, 37, 61, 60, 62]⟩ : ByteArray)[j]'hjs).toNat : Int)) = (b == x) := by rw [ex]; exact HBE.out x
              clear hx ex
              generalize (oneL.take j).contains b = q1 at HT ⊢
              generalize (b == x) = q2 at HT ee
              cases q1 with
              | true =>
                clear ee
                go_wp2_with fail
                go_roundw
                case rel => exact ⟨j + 1, by omega, by go_num, by rw [HT.out]; rfl, by first | trivial | rfl⟩
                case measure => simp [intOf]; omega
              | false =>
                go_wp2_with fail
                go_roundw
                case rel => exact ⟨j + 1, by omega, by go_num, by rw [HT.out]; rfl, by first | trivial | rfl⟩
                case measure => simp [intOf]; omega
            · obtain rfl : j = 11 := by omega
              rw [show oneL.take 11 = oneL from rfl]
              generalize oneL.contains b = q1 at HOKS HNOS ⊢
              cases q1 with
              | true =>
                have HL2 := Lib.hid (HOKS.out rfl)
                have hown1 := HOW.out
                have hc1 := HBR.out
                go_wp2_with (first
                  | (at_builtin; refine wpList_append_one tokSlice rfl _ _ rfl rfl rfl hown1 hc1 (Nat.le_refl _) rfl (by intro u hu; simp at hu; rcases hu with rfl | rfl | rfl <;> rfl) (by omega) ?_; intro v1 w4 hown4 hb5 _))
                go_roundw
                case rel => exact ⟨i + 1, done ++ [⟨4, (s.data.toList.drop i).take (i + 1 - i), i⟩], by omega, by go_num, by simp; omega, by
                  rw [toksCells_snoc, List.length_append, ← ext_two]; exact hown4, HL2.out, hb5⟩
                case measure => simp [intOf]; omega
              | false =>
                have HL := Lib.hid (HNOS.out (by decide))
                go_wp2_with fail
                go_ret3
                exact ⟨none, 0, 0, by rw [HL.out]; rfl, ⟨by rw [HL.out]; rfl, by rw [HL.out]; exact Sees.nil _ _⟩, HBR.out⟩
        · as_aux_lemma =>
          go_wp2_with fail
          refine (TL.out _).mono ?_
          rintro e w' ⟨rfl, rfl⟩
          go_wp2_with fail
          refine (TD.out _).mono ?_
          rintro e w' ⟨rfl, rfl⟩
          go_wp2_with fail
          clear g1 g2 g4 g5
          go_loopw [16, 17] (fun okv jv wx => ∃ j : Nat, j ≤ 11 ∧ jv = .int .i64 j ∧ okv = .bool ((oneL.take j).contains b) ∧ wx = wr) (fun _ jv _ => 11 - (intOf jv).toNat)
          case atStart => exact ⟨0, by omega, rfl, rfl, rfl⟩
          case round =>
            obtain ⟨j, hj, rfl, rfl, rfl⟩ := hrel
            by_cases hj1 : j < 11
            · have hjs : j < (⟨#[40, 41, 44, 43, 45, 42, 47, 37, 61, 60, 62]⟩ : ByteArray).size := hj1
              obtain ⟨x, hx⟩ : ∃ x, oneL[j]? = some x := ⟨_, List.getElem?_eq_getElem hj1⟩
              have ex : (⟨#[40, 41, 44, 43, 45, 42, 47, 37, 61, 60, 62]⟩ : ByteArray)[j]'hjs = x := byte_at hjs hx
              have HT := Lib.hid (one_step (b := b) hx)
              have ee : (((s[i]'hlt).toNat : Int) == (((⟨#[40, 41, 44, 43, 45, 42, 47, 37, 61, 60, 62]⟩ : ByteArray)[j]'hjs).toNat : Int)) = (b == x) := by rw [ex]; exact HBE.out x
              clear hx ex
              generalize (oneL.take j).contains b = q1 at HT ⊢
              generalize (b == x) = q2 at HT ee
              cases q1 with
              | true =>
                clear ee
                go_wp2_with fail
                go_roundw
                case rel => exact ⟨j + 1, by omega, by go_num, by rw [HT.out]; rfl, by first | trivial | rfl⟩
                case measure => simp [intOf]; omega
              | false =>
                go_wp2_with fail
                go_roundw
                case rel => exact ⟨j + 1, by omega, by go_num, by rw [HT.out]; rfl, by first | trivial | rfl⟩
                case measure => simp [intOf]; omega
            · obtain rfl : j = 11 := by omega
              rw [show oneL.take 11 = oneL from rfl]
              generalize oneL.contains b = q1 at HOKS HNOS ⊢
              cases q1 with
              | true =>
                have HL2 := Lib.hid (HOKS.out rfl)
                have hown1 := HOW.out
                have hc1 := HBR.out
                go_wp2_with (first
                  | (at_builtin; refine wpList_append_one tokSlice rfl _ _ rfl rfl rfl hown1 hc1 (Nat.le_refl _) rfl (by intro u hu; simp at hu; rcases hu with rfl | rfl | rfl <;> rfl) (by omega) ?_; intro v1 w4 hown4 hb5 _))
                go_roundw
                case rel => exact ⟨i + 1, done ++ [⟨4, (s.data.toList.drop i).take (i + 1 - i), i⟩], by omega, by go_num, by simp; omega, by
                  rw [toksCells_snoc, List.length_append, ← ext_two]; exact hown4, HL2.out, hb5⟩
                case measure => simp [intOf]; omega
              | false =>
                have HL := Lib.hid (HNOS.out (by decide))
                go_wp2_with fail
                go_ret3
                exact ⟨none, 0, 0, by rw [HL.out]; rfl, ⟨by rw [HL.out]; rfl, by rw [HL.out]; exact Sees.nil _ _⟩, HBR.out⟩
        · as_aux_lemma =>
          go_wp2_with fail
          refine (TL.out _).mono ?_
          rintro e w' ⟨rfl, rfl⟩
          go_wp2_with fail
          refine (TD.out _).mono ?_
          rintro e w' ⟨rfl, rfl⟩
          go_wp2_with fail
          clear g1 g2 g5
          go_loopw [16, 17] (fun okv jv wx => ∃ j : Nat, j ≤ 11 ∧ jv = .int .i64 j ∧ okv = .bool ((oneL.take j).contains b) ∧ wx = wr) (fun _ jv _ => 11 - (intOf jv).toNat)
          case atStart => exact ⟨0, by omega, rfl, rfl, rfl⟩
          case round =>
            obtain ⟨j, hj, rfl, rfl, rfl⟩ := hrel
            by_cases hj1 : j < 11
            · have hjs : j < (⟨#[40, 41, 44, 43, 45, 42, 47, 37, 61, 60, 62]⟩ : ByteArray).size := hj1
              obtain ⟨x, hx⟩ : ∃ x, oneL[j]? = some x := ⟨_, List.getElem?_eq_getElem hj1⟩
              have ex : (⟨#[40, 41, 44, 43, 45, 42, 47, 37, 61, 60, 62]⟩ : ByteArray)[j]'hjs = x := byte_at hjs hx
              have HT := Lib.hid (one_step (b := b) hx)
              have ee : (((s[i]'hlt).toNat : Int) == (((⟨#[40, 41, 44, 43, 45, 42, 47, 37, 61, 60, 62]⟩ : ByteArray)[j]'hjs).toNat : Int)) = (b == x) := by rw [ex]; exact HBE.out x
              clear hx ex
              generalize (oneL.take j).contains b = q1 at HT ⊢
              generalize (b == x) = q2 at HT ee
              cases q1 with
              | true =>
                clear ee
                go_wp2_with fail
                go_roundw
                case rel => exact ⟨j + 1, by omega, by go_num, by rw [HT.out]; rfl, by first | trivial | rfl⟩
                case measure => simp [intOf]; omega
              | false =>
                go_wp2_with fail
                go_roundw
                case rel => exact ⟨j + 1, by omega, by go_num, by rw [HT.out]; rfl, by first | trivial | rfl⟩
                case measure => simp [intOf]; omega
            · obtain rfl : j = 11 := by omega
              rw [show oneL.take 11 = oneL from rfl]
              generalize oneL.contains b = q1 at HOKS HNOS ⊢
              cases q1 with
              | true =>
                have HL2 := Lib.hid (HOKS.out rfl)
                have hown1 := HOW.out
                have hc1 := HBR.out
                go_wp2_with (first
                  | (at_builtin; refine wpList_append_one tokSlice rfl _ _ rfl rfl rfl hown1 hc1 (Nat.le_refl _) rfl (by intro u hu; simp at hu; rcases hu with rfl | rfl | rfl <;> rfl) (by omega) ?_; intro v1 w4 hown4 hb5 _))
                go_roundw
                case rel => exact ⟨i + 1, done ++ [⟨4, (s.data.toList.drop i).take (i + 1 - i), i⟩], by omega, by go_num, by simp; omega, by
                  rw [toksCells_snoc, List.length_append, ← ext_two]; exact hown4, HL2.out, hb5⟩
                case measure => simp [intOf]; omega
              | false =>
                have HL := Lib.hid (HNOS.out (by decide))
                go_wp2_with fail
                go_ret3
                exact ⟨none, 0, 0, by rw [HL.out]; rfl, ⟨by rw [HL.out]; rfl, by rw [HL.out]; exact Sees.nil _ _⟩, HBR.out⟩
    · obtain rfl : i = s.size := by omega
      have HL2 := Lib.hid (show lexS s.data.toList = .ok done by
        rw [HE.out, HLX.out, List.drop_of_length_le (by rw [HSZ.out]; exact Nat.le_refl _), lexP_nil]
        show LexR.ok (done ++ []) = _
        rw [List.append_nil])
      obtain ⟨A, c, rfl, hse⟩ := Sees.of_own HOW.out
      have HSE := Lib.hid hse
      clear hse
      go_wp2_with fail
      go_ret3
      exact ⟨A, done.length, c, by rw [HL2.out]; rfl, ⟨by rw [HL2.out]; rfl, by rw [HL2.out]; exact HSE.out⟩, HBR.out⟩
end Go.Proofs.YtpbbkpfaphjdoaaDoor
