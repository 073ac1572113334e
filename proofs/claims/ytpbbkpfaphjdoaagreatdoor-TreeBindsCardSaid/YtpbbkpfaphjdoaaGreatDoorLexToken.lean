/- Package lex: any word at the beginning of a text, walked. -/
import Derived.Test.YtpbbkpfaphjdoaaGreatDoorLexTok
import Derived.Test.YtpbbkpfaphjdoaaGreatDoorArity
namespace Go.Proofs.YtpbbkpfaphjdoaaGreatDoor
open Go.ChangeShapes Go.WideShapes Go.ChangeAt Go.RowKit

def signB : List ByteArray := signL.map mkB
/-- What lex.signs holds. -/
def SignsT (w : World) : Prop := Sees w (some ⟨3, 0, none⟩) 14 14 1 (strCells signB)
theorem SignsT.keep {w w' : World} (h : SignsT w) (hb : Below w.heap.size w w') : SignsT w' := Sees.keep h hb
theorem gSigns : Tryz.prog.globalNamed "sluicebook/lex.signs" = some 3 := by kernel_rfl
theorem tSigns : (Tryz.prog.globals[3]?).map (·.type) = some 235 := by kernel_rfl
theorem signsT_of {W : World} {l : List (String × DataW Unit)} (h : laidMet Tryz.prog l W) (hx : ("sluicebook/lex.signs", Rows.laid_sluicebook_lex_signs) ∈ l) : SignsT W := by
  obtain ⟨g, t, cs, fuel, p, hg, ht, hv, hd⟩ := laid_var h hx
  obtain rfl := Option.some.inj (gSigns.symm.trans hg)
  obtain rfl := Option.some.inj (tSigns.symm.trans ht)
  have hd' : DataW.trod (fun _ => ()) Tryz.prog W 0 (fun _ => true) false fuel 235 cs.toList = some (.agg (signL.map litS), p) := hd
  have hel := open_arr_strs Tryz.underlying235 Tryz.underlying9 cellsS hd'
  have hc : ∀ (i : Nat) (s : ByteArray), signB[i]? = some s → W.cell? ⟨3, i, none⟩ = some (.string s) := by
    intro i s hs
    unfold signB at hs
    rw [List.getElem?_map] at hs
    obtain ⟨l, hl, rfl⟩ := Option.map_eq_some_iff.1 hs
    have hi : i < 14 := (List.getElem?_eq_some_iff.1 hl).1
    have := hel i l hl hi
    rw [World.var?_cell hg hv i, ← Array.getElem?_toList]
    exact this
  refine ⟨rfl, Nat.le_refl _, by unfold maxLen; omega, (fun e => by cases e), fun _ => ⟨_, _, rfl, World.block_lt_of_cell? W _ (hc 0 _ rfl), fun j u hu => ?_⟩⟩
  obtain ⟨s, hs, rfl⟩ := strCells_at hu
  rw [Nat.zero_add]
  exact hc j s hs
theorem SignsT.at_ {w : World} (h : SignsT w) {k : Nat} {l : List UInt8} (hl : signL[k]? = some l) : w.cell? ⟨3, k, none⟩ = some (.string (mkB l)) := by
  obtain ⟨g, o, e, _, hc⟩ := h.2.2.2.2 (by omega)
  injection e with e
  injection e with e1 e2
  subst e1 e2
  have := hc k (.string (mkB l)) (strCells_get (by unfold signB; rw [List.getElem?_map, hl]; rfl))
  rwa [Nat.zero_add] at this
theorem numT_tok {c : UInt8} (r : List UInt8) (h : isD c = true) : tokP (c :: r) = (numN (c :: r), 2, numE (c :: r)) := by
  rw [tokP_D r h]
  unfold numN numE
  by_cases hb : numBad (c :: r)
  · rw [if_pos hb, if_pos hb, if_pos (by rcases hb with ⟨h1, h2⟩ | h1; exact Or.inl ⟨h1, by simpa using h2⟩; exact Or.inr h1)]
  · rw [if_neg hb, if_neg hb, if_neg (fun hh => hb (by rcases hh with ⟨h1, h2⟩ | h1; exact Or.inl ⟨h1, by rw [h2]; rfl⟩; exact Or.inr h1))]
    split <;> rfl
theorem quoT_tok (r : List UInt8) : tokP (39 :: r) = (quoN r, 3, quoE r) := by
  rw [tokP_Q]
  unfold quoN quoE
  cases qlen r with
  | none => rfl
  | some m =>
    simp only
    split
    · rename_i h; rw [h]
    · rfl
theorem sgn_none {l : List UInt8} (h : ∀ x ∈ signL, x.isPrefixOf l = false) : sgnN l = 0 := by
  unfold sgnN
  rw [List.find?_eq_none.2 (fun x hx => by rw [h x hx]; decide)]
theorem sgn_at {l x : List UInt8} {k : Nat} (hx : signL[k]? = some x) (hno : ∀ y ∈ signL.take k, y.isPrefixOf l = false) (hp : x.isPrefixOf l = true) : sgnN l = x.length := by
  have hlt : k < signL.length := (List.getElem?_eq_some_iff.1 hx).1
  have hd : signL = signL.take k ++ x :: signL.drop (k + 1) := by
    rw [← (List.getElem?_eq_some_iff.1 hx).2, ← List.drop_eq_getElem_cons hlt, List.take_append_drop]
  have : signL.find? (·.isPrefixOf l) = some x := by
    rw [hd, List.find?_append, List.find?_eq_none.2 (fun y hy => by rw [hno y hy]; decide), List.find?_cons, hp]; rfl
  unfold sgnN
  rw [this]
def tokSays (l : List UInt8) (w : World) (e : Ending) (w' : World) : Prop := e = .returned (.tuple #[.int .i64 (tokP l).1, .int .i64 (tokP l).2.1, .int .i64 (tokP l).2.2]) ∧ Below w.heap.size w w'
set_option maxHeartbeats 8000000 in
set_option maxRecDepth 100000 in
theorem token_any (s : ByteArray) (c : UInt8) (r : List UInt8) (hl : s.data.toList = c :: r) (hs : s.size ≤ 400) (w : World) (hT : TextT w) (hN : NumT w) (hS : SignsT w) :
    Calls Tryz.prog 162 #[.string s] w (tokSays s.data.toList w) := by
  have hsz := size_eq s
  have h0s : 0 < s.size := by rw [← hsz, hl]; simp
  have hb0 : s[0]'h0s = c := byte_at h0s (by rw [hl]; rfl)
  have TL := Lib.hid (fun w' => lletter (s[0]'h0s) w')
  have TD := Lib.hid (fun w' => ldigit (s[0]'h0s) w')
  unfold tokSays
  by_cases hL : isL c = true
  · rw [show isL (s[0]'h0s) = true by rw [hb0]; exact hL] at TL
    have TS := Lib.hid (fun w' => span_word s (by unfold maxLen; omega) w')
    have HP := Lib.hid (show tokP s.data.toList = (spanN isLD s, 1, 0) by rw [hl, tokP_L r hL, ← hl]; rfl)
    rw [HP.out]
    clear hL hl hb0 hT hN hS hsz HP
    go_enter Tryz.func162, Tryz.ntmps162
    go_wp2_with fail
    refine (TL.out _).mono ?_
    rintro e w1 ⟨rfl, rfl⟩
    go_wp2_with fail
    refine (TS.out _).mono ?_
    rintro e w1 ⟨rfl, rfl⟩
    go_wp2_with fail
    go_ret3
    exact ⟨rfl, Below.refl _ _⟩
  rw [show isL (s[0]'h0s) = false by rw [hb0]; simpa using hL] at TL
  by_cases hD : isD c = true
  · rw [show isD (s[0]'h0s) = true by rw [hb0]; exact hD] at TD
    have TN := Lib.hid (number_any s c r hl hD hs w hN)
    have HP := Lib.hid (show tokP s.data.toList = (numN s.data.toList, 2, numE s.data.toList) by rw [hl, numT_tok r hD])
    rw [HP.out]
    clear hL hD hl hb0 hT hN hS hsz HP
    go_enter Tryz.func162, Tryz.ntmps162
    go_wp2_with fail
    refine (TL.out _).mono ?_
    rintro e w1 ⟨rfl, rfl⟩
    go_wp2_with fail
    refine (TD.out _).mono ?_
    rintro e w1 ⟨rfl, rfl⟩
    go_wp2_with fail
    refine (TN.out).mono ?_
    rintro e w1 ⟨rfl, hb1⟩
    have HB1 := Lib.hid hb1
    clear hb1
    go_wp2_with fail
    go_ret3
    exact ⟨rfl, HB1.out⟩
  rw [show isD (s[0]'h0s) = false by rw [hb0]; simpa using hD] at TD
  by_cases hQ : c = 39
  · subst hQ
    have d0 : (((s[0]'h0s).toNat : Int) == 39) = true := by rw [hb0]; rfl
    have TQ := Lib.hid (quote_any s r hl hs w hT)
    have HP := Lib.hid (show tokP s.data.toList = (quoN r, 3, quoE r) by rw [hl, quoT_tok r])
    rw [HP.out]
    clear hL hD hl hb0 hT hN hS hsz HP
    go_enter Tryz.func162, Tryz.ntmps162
    go_wp2_with fail
    refine (TL.out _).mono ?_
    rintro e w1 ⟨rfl, rfl⟩
    go_wp2_with fail
    refine (TD.out _).mono ?_
    rintro e w1 ⟨rfl, rfl⟩
    go_wp2_with fail
    refine (TQ.out).mono ?_
    rintro e w1 ⟨rfl, hb1⟩
    have HB1 := Lib.hid hb1
    clear hb1
    go_wp2_with fail
    go_ret3
    exact ⟨rfl, HB1.out⟩
  have d0 : (((s[0]'h0s).toNat : Int) == 39) = false := by
    rw [hb0]
    refine beq_eq_false_iff_ne.2 (fun e => hQ (UInt8.toNat_inj.1 ?_))
    show c.toNat = 39
    omega
  have c0 := hS.at_ (k := 0) (l := [60, 62]) rfl
  have c1 := hS.at_ (k := 1) (l := [60, 61]) rfl
  have c2 := hS.at_ (k := 2) (l := [62, 61]) rfl
  have c3 := hS.at_ (k := 3) (l := [40]) rfl
  have c4 := hS.at_ (k := 4) (l := [41]) rfl
  have c5 := hS.at_ (k := 5) (l := [44]) rfl
  have c6 := hS.at_ (k := 6) (l := [43]) rfl
  have c7 := hS.at_ (k := 7) (l := [45]) rfl
  have c8 := hS.at_ (k := 8) (l := [42]) rfl
  have c9 := hS.at_ (k := 9) (l := [47]) rfl
  have c10 := hS.at_ (k := 10) (l := [37]) rfl
  have c11 := hS.at_ (k := 11) (l := [61]) rfl
  have c12 := hS.at_ (k := 12) (l := [60]) rfl
  have c13 := hS.at_ (k := 13) (l := [62]) rfl
  have i0 : ∀ w, (Instr.index 235 (.agg #[.string (mkB [60, 62]), .string (mkB [60, 61]), .string (mkB [62, 61]), .string (mkB [40]), .string (mkB [41]), .string (mkB [44]), .string (mkB [43]), .string (mkB [45]), .string (mkB [42]), .string (mkB [47]), .string (mkB [37]), .string (mkB [61]), .string (mkB [60]), .string (mkB [62])]) (.int .i64 0)).run Tryz.prog w = .ok (.string (mkB [60, 62])) w := fun _ => by kernel_rfl
  have i1 : ∀ w, (Instr.index 235 (.agg #[.string (mkB [60, 62]), .string (mkB [60, 61]), .string (mkB [62, 61]), .string (mkB [40]), .string (mkB [41]), .string (mkB [44]), .string (mkB [43]), .string (mkB [45]), .string (mkB [42]), .string (mkB [47]), .string (mkB [37]), .string (mkB [61]), .string (mkB [60]), .string (mkB [62])]) (.int .i64 1)).run Tryz.prog w = .ok (.string (mkB [60, 61])) w := fun _ => by kernel_rfl
  have i2 : ∀ w, (Instr.index 235 (.agg #[.string (mkB [60, 62]), .string (mkB [60, 61]), .string (mkB [62, 61]), .string (mkB [40]), .string (mkB [41]), .string (mkB [44]), .string (mkB [43]), .string (mkB [45]), .string (mkB [42]), .string (mkB [47]), .string (mkB [37]), .string (mkB [61]), .string (mkB [60]), .string (mkB [62])]) (.int .i64 2)).run Tryz.prog w = .ok (.string (mkB [62, 61])) w := fun _ => by kernel_rfl
  have i3 : ∀ w, (Instr.index 235 (.agg #[.string (mkB [60, 62]), .string (mkB [60, 61]), .string (mkB [62, 61]), .string (mkB [40]), .string (mkB [41]), .string (mkB [44]), .string (mkB [43]), .string (mkB [45]), .string (mkB [42]), .string (mkB [47]), .string (mkB [37]), .string (mkB [61]), .string (mkB [60]), .string (mkB [62])]) (.int .i64 3)).run Tryz.prog w = .ok (.string (mkB [40])) w := fun _ => by kernel_rfl
  have i4 : ∀ w, (Instr.index 235 (.agg #[.string (mkB [60, 62]), .string (mkB [60, 61]), .string (mkB [62, 61]), .string (mkB [40]), .string (mkB [41]), .string (mkB [44]), .string (mkB [43]), .string (mkB [45]), .string (mkB [42]), .string (mkB [47]), .string (mkB [37]), .string (mkB [61]), .string (mkB [60]), .string (mkB [62])]) (.int .i64 4)).run Tryz.prog w = .ok (.string (mkB [41])) w := fun _ => by kernel_rfl
  have i5 : ∀ w, (Instr.index 235 (.agg #[.string (mkB [60, 62]), .string (mkB [60, 61]), .string (mkB [62, 61]), .string (mkB [40]), .string (mkB [41]), .string (mkB [44]), .string (mkB [43]), .string (mkB [45]), .string (mkB [42]), .string (mkB [47]), .string (mkB [37]), .string (mkB [61]), .string (mkB [60]), .string (mkB [62])]) (.int .i64 5)).run Tryz.prog w = .ok (.string (mkB [44])) w := fun _ => by kernel_rfl
  have i6 : ∀ w, (Instr.index 235 (.agg #[.string (mkB [60, 62]), .string (mkB [60, 61]), .string (mkB [62, 61]), .string (mkB [40]), .string (mkB [41]), .string (mkB [44]), .string (mkB [43]), .string (mkB [45]), .string (mkB [42]), .string (mkB [47]), .string (mkB [37]), .string (mkB [61]), .string (mkB [60]), .string (mkB [62])]) (.int .i64 6)).run Tryz.prog w = .ok (.string (mkB [43])) w := fun _ => by kernel_rfl
  have i7 : ∀ w, (Instr.index 235 (.agg #[.string (mkB [60, 62]), .string (mkB [60, 61]), .string (mkB [62, 61]), .string (mkB [40]), .string (mkB [41]), .string (mkB [44]), .string (mkB [43]), .string (mkB [45]), .string (mkB [42]), .string (mkB [47]), .string (mkB [37]), .string (mkB [61]), .string (mkB [60]), .string (mkB [62])]) (.int .i64 7)).run Tryz.prog w = .ok (.string (mkB [45])) w := fun _ => by kernel_rfl
  have i8 : ∀ w, (Instr.index 235 (.agg #[.string (mkB [60, 62]), .string (mkB [60, 61]), .string (mkB [62, 61]), .string (mkB [40]), .string (mkB [41]), .string (mkB [44]), .string (mkB [43]), .string (mkB [45]), .string (mkB [42]), .string (mkB [47]), .string (mkB [37]), .string (mkB [61]), .string (mkB [60]), .string (mkB [62])]) (.int .i64 8)).run Tryz.prog w = .ok (.string (mkB [42])) w := fun _ => by kernel_rfl
  have i9 : ∀ w, (Instr.index 235 (.agg #[.string (mkB [60, 62]), .string (mkB [60, 61]), .string (mkB [62, 61]), .string (mkB [40]), .string (mkB [41]), .string (mkB [44]), .string (mkB [43]), .string (mkB [45]), .string (mkB [42]), .string (mkB [47]), .string (mkB [37]), .string (mkB [61]), .string (mkB [60]), .string (mkB [62])]) (.int .i64 9)).run Tryz.prog w = .ok (.string (mkB [47])) w := fun _ => by kernel_rfl
  have i10 : ∀ w, (Instr.index 235 (.agg #[.string (mkB [60, 62]), .string (mkB [60, 61]), .string (mkB [62, 61]), .string (mkB [40]), .string (mkB [41]), .string (mkB [44]), .string (mkB [43]), .string (mkB [45]), .string (mkB [42]), .string (mkB [47]), .string (mkB [37]), .string (mkB [61]), .string (mkB [60]), .string (mkB [62])]) (.int .i64 10)).run Tryz.prog w = .ok (.string (mkB [37])) w := fun _ => by kernel_rfl
  have i11 : ∀ w, (Instr.index 235 (.agg #[.string (mkB [60, 62]), .string (mkB [60, 61]), .string (mkB [62, 61]), .string (mkB [40]), .string (mkB [41]), .string (mkB [44]), .string (mkB [43]), .string (mkB [45]), .string (mkB [42]), .string (mkB [47]), .string (mkB [37]), .string (mkB [61]), .string (mkB [60]), .string (mkB [62])]) (.int .i64 11)).run Tryz.prog w = .ok (.string (mkB [61])) w := fun _ => by kernel_rfl
  have i12 : ∀ w, (Instr.index 235 (.agg #[.string (mkB [60, 62]), .string (mkB [60, 61]), .string (mkB [62, 61]), .string (mkB [40]), .string (mkB [41]), .string (mkB [44]), .string (mkB [43]), .string (mkB [45]), .string (mkB [42]), .string (mkB [47]), .string (mkB [37]), .string (mkB [61]), .string (mkB [60]), .string (mkB [62])]) (.int .i64 12)).run Tryz.prog w = .ok (.string (mkB [60])) w := fun _ => by kernel_rfl
  have i13 : ∀ w, (Instr.index 235 (.agg #[.string (mkB [60, 62]), .string (mkB [60, 61]), .string (mkB [62, 61]), .string (mkB [40]), .string (mkB [41]), .string (mkB [44]), .string (mkB [43]), .string (mkB [45]), .string (mkB [42]), .string (mkB [47]), .string (mkB [37]), .string (mkB [61]), .string (mkB [60]), .string (mkB [62])]) (.int .i64 13)).run Tryz.prog w = .ok (.string (mkB [62])) w := fun _ => by kernel_rfl
  have hI : ∀ (k : Nat) (x : List UInt8), signL[k]? = some x → ∀ w, (Instr.index 235 (.agg #[.string (mkB [60, 62]), .string (mkB [60, 61]), .string (mkB [62, 61]), .string (mkB [40]), .string (mkB [41]), .string (mkB [44]), .string (mkB [43]), .string (mkB [45]), .string (mkB [42]), .string (mkB [47]), .string (mkB [37]), .string (mkB [61]), .string (mkB [60]), .string (mkB [62])]) (.int .i64 k)).run Tryz.prog w = .ok (.string (mkB x)) w := by
    intro k x hx w
    have hk : k < 14 := (List.getElem?_eq_some_iff.1 hx).1
    obtain rfl | rfl | rfl | rfl | rfl | rfl | rfl | rfl | rfl | rfl | rfl | rfl | rfl | rfl : k = 0 ∨ k = 1 ∨ k = 2 ∨ k = 3 ∨ k = 4 ∨ k = 5 ∨ k = 6 ∨ k = 7 ∨ k = 8 ∨ k = 9 ∨ k = 10 ∨ k = 11 ∨ k = 12 ∨ k = 13 := by omega
    · obtain rfl := Option.some.inj (show some [60, 62] = some x from hx); exact i0 w
    · obtain rfl := Option.some.inj (show some [60, 61] = some x from hx); exact i1 w
    · obtain rfl := Option.some.inj (show some [62, 61] = some x from hx); exact i2 w
    · obtain rfl := Option.some.inj (show some [40] = some x from hx); exact i3 w
    · obtain rfl := Option.some.inj (show some [41] = some x from hx); exact i4 w
    · obtain rfl := Option.some.inj (show some [44] = some x from hx); exact i5 w
    · obtain rfl := Option.some.inj (show some [43] = some x from hx); exact i6 w
    · obtain rfl := Option.some.inj (show some [45] = some x from hx); exact i7 w
    · obtain rfl := Option.some.inj (show some [42] = some x from hx); exact i8 w
    · obtain rfl := Option.some.inj (show some [47] = some x from hx); exact i9 w
    · obtain rfl := Option.some.inj (show some [37] = some x from hx); exact i10 w
    · obtain rfl := Option.some.inj (show some [61] = some x from hx); exact i11 w
    · obtain rfl := Option.some.inj (show some [60] = some x from hx); exact i12 w
    · obtain rfl := Option.some.inj (show some [62] = some x from hx); exact i13 w
  clear i0 i1 i2 i3 i4 i5 i6 i7 i8 i9 i10 i11 i12 i13
  have HI := Lib.hid hI
  have TP := Lib.hid (fun x w' => Tryz.strings_HasPrefix s (mkB x) w')
  have HP := Lib.hid (show tokP s.data.toList = if sgnN s.data.toList = 0 then (0, 0, 2) else (sgnN s.data.toList, 4, 0) by rw [hl, tokP_S r hL hD hQ])
  clear hL hD hQ hl hb0 hT hN hS hsz hI
  go_enter Tryz.func162, Tryz.ntmps162
  go_wp2_with fail
  refine (TL.out _).mono ?_
  rintro e w1 ⟨rfl, rfl⟩
  go_wp2_with fail
  refine (TD.out _).mono ?_
  rintro e w1 ⟨rfl, rfl⟩
  go_wp2_with fail
  clear c0 c1 c2 c3 c4 c5 c6 c7 c8 c9 c10 c11 c12 c13
  have hrs : ∀ x : List UInt8, (mkB x).data.toList = x := fun x => data_mkB x
  go_loop [7, 36] (fun _ i => ∃ k : Nat, k ≤ 14 ∧ i = .int .i64 k ∧ ∀ y ∈ signL.take k, y.isPrefixOf s.data.toList = false) (fun _ i => 14 - (intOf i).toNat)
  case atStart => exact ⟨0, by omega, rfl, by simp⟩
  case round =>
    obtain ⟨k, hk, rfl, hno⟩ := hrel
    have HN := Lib.hid hno
    clear hno
    by_cases hlt : k < 14
    · obtain ⟨x, hx⟩ : ∃ x, signL[k]? = some x := ⟨_, List.getElem?_eq_getElem hlt⟩
      have ik := HI.out k x hx
      have TX := Lib.hid (TP.out x)
      rw [show Lib.hasPrefix s.data.toList (mkB x).data.toList = x.isPrefixOf s.data.toList by rw [data_mkB]; rfl] at TX
      have hxs : (mkB x).size = x.length := rfl
      generalize hP : x.isPrefixOf s.data.toList = b at TX
      cases b with
      | true =>
        have E := Lib.hid (sgn_at hx HN.out hP)
        have hx0 : 0 < x.length := by
          have : ∀ y ∈ signL, 0 < y.length := by decide
          exact this x (List.mem_of_getElem? hx)
        have HE := Lib.hid (show tokP s.data.toList = (x.length, 4, 0) by rw [HP.out, E.out, if_neg (by omega)])
        clear hP hx
        go_wp2_with fail
        refine (TX.out _).mono ?_
        rintro e w2 ⟨rfl, rfl⟩
        go_wp2_with fail
        go_ret3
        exact ⟨by rw [HE.out]; rfl, Below.refl _ _⟩
      | false =>
        have HN2 := Lib.hid (show ∀ y ∈ signL.take (k + 1), y.isPrefixOf s.data.toList = false from take_next (p := fun y : List UInt8 => y.isPrefixOf s.data.toList) HN.out hx hP)
        clear hP hx
        go_wp2_with fail
        refine (TX.out _).mono ?_
        rintro e w2 ⟨rfl, rfl⟩
        go_wp2_with fail
        go_round
        case rel => exact ⟨k + 1, by omega, by go_num, HN2.out⟩
        case measure => simp [intOf]; omega
    · obtain rfl : k = 14 := by omega
      have E := Lib.hid (sgn_none (l := s.data.toList) (by have := HN.out; rwa [show signL.take 14 = signL from rfl] at this))
      go_wp2_with fail
      go_ret3
      exact ⟨by rw [HP.out, E.out, if_pos rfl]; rfl, Below.refl _ _⟩
end Go.Proofs.YtpbbkpfaphjdoaaGreatDoor
