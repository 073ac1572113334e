/- Package lex: the words of any text; words joined: walked. -/
import Derived.Test.YtpbbkpfaphjdoaaGreatDoorLexToken
import Derived.Test.YtpbbkpfaphjdoaaGreatDoorOwn2
import Derived.Test.YtpbbkpfaphjdoaaGreatDoorNumLaw
import Derived.Test.YtpbbkpfaphjdoaaGreatDoorStrJoin
namespace Go.Proofs.YtpbbkpfaphjdoaaGreatDoor
open Go.ChangeShapes Go.WideShapes Go.ChangeAt Go.RowKit

def tokCells (t : Tok) : List Value := [.int .i64 t.kind, .string ⟨t.text.toArray⟩, .int .i64 t.at_]
def toksCells (l : List Tok) : List Value := l.flatMap tokCells
theorem toksCells_snoc (l : List Tok) (t : Tok) : toksCells (l ++ [t]) = toksCells l ++ [.int .i64 t.kind, .string ⟨t.text.toArray⟩, .int .i64 t.at_] := by unfold toksCells tokCells; rw [List.flatMap_append]; rfl
theorem toksCells_length (l : List Tok) : (toksCells l).length = l.length * 3 := by
  induction l with
  | nil => rfl
  | cons c l ih => simp only [toksCells, List.flatMap_cons, List.length_append, List.length_cons] at *; simp [tokCells, ih]; omega
theorem toksCells_at : ∀ {l : List Tok} {k : Nat} {v : Tok}, l[k]? = some v → (toksCells l)[k * 3]? = some (.int .i64 v.kind) ∧ (toksCells l)[k * 3 + 1]? = some (.string ⟨v.text.toArray⟩) ∧ (toksCells l)[k * 3 + 2]? = some (.int .i64 v.at_)
  | x :: l, 0, c, h => by simp at h; subst h; exact ⟨rfl, rfl, rfl⟩
  | x :: l, k + 1, c, h => by
    have ih := toksCells_at (l := l) (k := k) (by simpa using h)
    have e : toksCells (x :: l) = .int .i64 x.kind :: .string ⟨x.text.toArray⟩ :: .int .i64 x.at_ :: toksCells l := rfl
    rw [e, show (k + 1) * 3 = k * 3 + 1 + 1 + 1 by omega]
    simpa using ih
  | [], k, c, h => by simp at h
/-- A slice of words, seen. -/
def SeesToks (w : World) (A : Option Addr) (n c : Nat) (l : List Tok) : Prop := l.length = n ∧ Sees w A n c 3 (toksCells l)
theorem SeesToks.keep {w w' : World} {A : Option Addr} {n c : Nat} {l : List Tok} (h : SeesToks w A n c l) (hb : Below w.heap.size w w') : SeesToks w' A n c l := ⟨h.1, h.2.keep hb⟩
theorem SeesToks.at_ {w : World} {A : Option Addr} {n c : Nat} {l : List Tok} (h : SeesToks w A n c l) {k : Nat} (hk : k < n) :
    ∃ g o x, A = some ⟨g, o, none⟩ ∧ g < w.heap.size ∧ l[k]? = some x ∧ w.cell? ⟨g, o + k * 3, none⟩ = some (.int .i64 x.kind) ∧ w.cell? ⟨g, o + k * 3 + 1, none⟩ = some (.string ⟨x.text.toArray⟩) ∧ w.cell? ⟨g, o + k * 3 + 2, none⟩ = some (.int .i64 x.at_) := by
  obtain ⟨g, o, e, hg, hc⟩ := h.2.2.2.2.2 (by omega)
  have hl : l[k]? = some (l[k]'(by have := h.1; omega)) := List.getElem?_eq_getElem _
  obtain ⟨h1, h2, h3⟩ := toksCells_at hl
  exact ⟨g, o, _, e, hg, hl, hc _ _ h1, hc _ _ h2, hc _ _ h3⟩
theorem tokSlice : SliceTy Tryz.prog 107 115 (.agg #[.int .i64 0, .string ⟨#[]⟩, .int .i64 0]) 3 32 := SliceTy.of Tryz.underlying107 (by kernel_rfl) rfl (by decide) (by decide)
def LexR.toks : LexR → List Tok
  | .ok l => l
  | .bad _ _ => []
def LexR.how : LexR → Int
  | .ok _ => 0
  | .bad e _ => e
def LexR.pos : LexR → Int
  | .ok _ => 0
  | .bad _ p => p
/-- What a text's words are told as. -/
def LexSays (r : LexR) (w : World) (e : Ending) (w' : World) : Prop := ∃ A n c, e = .returned (.tuple #[.slice A n c, .agg #[.int .i64 r.how, .int .i64 r.pos]]) ∧ SeesToks w' A n c r.toks ∧ Below w.heap.size w w'
/-- Words that were read lie in the text. -/
theorem lexS_len {s : List UInt8} (h : s.length ≤ 400) : lexS s = lexP s 0 := by unfold lexS; rw [if_neg (by omega)]
theorem isB_or {b : UInt8} : (b = 32 ∨ b = 10) ↔ (((b.toNat : Int) == 32) = true ∨ ((b.toNat : Int) == 10) = true) := by
  have e : ∀ k : UInt8, b = k ↔ b.toNat = k.toNat := fun k => ⟨fun h => by rw [h], UInt8.toNat_inj.1⟩
  rw [e, e, beq_iff_eq, beq_iff_eq, show (32 : UInt8).toNat = 32 from rfl, show (10 : UInt8).toNat = 10 from rfl]
  omega
theorem ext_tail {s : ByteArray} {k : Nat} {b : UInt8} (hk : s.data.toList[k]? = some b) : (s.extract k s.size).data.toList = b :: s.data.toList.drop (k + 1) ∧ s.data.toList.drop k = b :: s.data.toList.drop (k + 1) := by
  obtain ⟨hl, he⟩ := List.getElem?_eq_some_iff.1 hk
  have h1 : s.data.toList.drop k = b :: s.data.toList.drop (k + 1) := by rw [List.drop_eq_getElem_cons hl, he]
  refine ⟨?_, h1⟩
  rw [ext_list, List.take_of_length_le (by rw [List.length_drop, size_eq]; exact Nat.le_refl _), h1]
theorem ext_mid (s : ByteArray) (k n : Nat) : s.extract k (k + n) = ⟨((s.data.toList.drop k).take n).toArray⟩ := by
  rw [← mk_toList (s.extract k (k + n)), ext_list, Nat.add_sub_cancel_left]
set_option maxHeartbeats 2000000 in
set_option maxRecDepth 100000 in
theorem tokens_any (s : ByteArray) (hs : s.size ≤ maxLen) (w : World) (hT : TextT w) (hN : NumT w) (hS : SignsT w) :
    Calls Tryz.prog 101 #[.string s] w (LexSays (lexS s.data.toList) w) := by
  have hsz' := Lib.hid (size_eq s)
  unfold maxLen at hs
  obtain ⟨w0, hw0⟩ : ∃ w0, w.alloc (.cells #[.int .i64 0, .int .i64 0] 34) = w0 := ⟨_, rfl⟩
  have hb0 : Below w.heap.size w w0 := by rw [← hw0]; exact belowNew' _ _
  have HV := Lib.hid (show Own2 w0 w.heap.size 0 0 by rw [← hw0]; exact own2_new w 0 0)
  have HB := Lib.hid hb0
  have HW := Lib.hid hw0
  by_cases h4 : 400 < s.size
  · have d4 : decide (400 < (s.size : Int)) = true := decide_eq_true (by omega)
    have HE := Lib.hid (show lexS s.data.toList = .bad 4 0 by unfold lexS; rw [hsz'.out, if_pos h4])
    clear hT hN hS h4 hw0 hb0
    obtain ⟨o0, o1, z0, z1, hlt⟩ := HV.out.cells
    go_enter Tryz.func101, Tryz.ntmps101
    go_wp2_with (first | rw [HW.out])
    have HO4 := own2_set HV.out 4 0
    have HB4 := Lib.hid (below_set2 HB.out (Nat.le_refl _) (.int .i64 4) (.int .i64 0))
    generalize (w0.setCell ⟨w.heap.size, 0, none⟩ (.int .i64 4)).setCell ⟨w.heap.size, 1, none⟩ (.int .i64 0) = w4 at HO4 HB4 ⊢
    clear o0 o1 z0 z1 hlt
    obtain ⟨o0, o1, z0, z1, hlt⟩ := HO4.cells
    refine bodyPost_ret (v := .tuple #[.slice none 0 0, .agg #[.int .i64 4, .int .i64 0]]) (by simp [results, Tryz.results101, go_sem, o0, o1]) rfl ⟨none, 0, 0, ?_, ⟨by rw [HE.out]; rfl, by rw [HE.out]; exact Sees.nil _ _⟩, HB4.out⟩
    rw [HE.out]; rfl
  have d4 : decide (400 < (s.size : Int)) = false := decide_eq_false (by omega)
  have h400 : s.size ≤ 400 := by omega
  have HE := Lib.hid (lexS_len (s := s.data.toList) (by rw [hsz'.out]; exact h400))
  have HT := Lib.hid (hT.keep hb0)
  have HN := Lib.hid (hN.keep hb0)
  have HS := Lib.hid (hS.keep hb0)
  have HLT := Lib.hid (show w.heap.size < w0.heap.size by rw [← hw0]; simp)
  clear hT hN hS h4 hw0 hb0 hs
  go_enter Tryz.func101, Tryz.ntmps101
  go_wp2_with (first | rw [HW.out])
  clear d4
  go_loopw [4, 5] (fun out at_ wr => ∃ (k : Nat) (done : List Tok), k ≤ s.size ∧ at_ = .int .i64 k ∧ done.length ≤ k ∧ wr.ownsRow w0.heap.size 115 3 out done.length (toksCells done) ∧ lexP s.data.toList 0 = (lexP (s.data.toList.drop k) k).pre done ∧ Below w0.heap.size w0 wr) (fun _ at_ _ => s.size - (intOf at_).toNat)
  case atStart => exact ⟨0, [], by omega, rfl, Nat.le_refl _, World.ownsRow_nil _ _ _ _, by rw [LexR.pre_nil]; rfl, Below.refl _ _⟩
  case round =>
    obtain ⟨k, done, hk, rfl, hdl, hown, hlx, hb⟩ := hrel
    have HLX := Lib.hid hlx
    have HBR := Lib.hid hb
    clear hlx
    by_cases hlt : k < s.size
    · obtain ⟨b, hbk⟩ : ∃ b, s.data.toList[k]? = some b := ⟨_, List.getElem?_eq_getElem (by rw [hsz'.out]; exact hlt)⟩
      have eb := byte_at hlt hbk
      obtain ⟨x1, x2⟩ := ext_tail hbk
      by_cases hbl : b = 32 ∨ b = 10
      · have HL2 := Lib.hid (show lexP s.data.toList 0 = (lexP (s.data.toList.drop (k + 1)) (k + 1)).pre done by rw [HLX.out, x2, lexP_blank hbl])
        have HOW := Lib.hid hown
        clear x1 x2 hbk hown
        rcases hbl with rfl | rfl
        · have e1 : (((s[k]'hlt).toNat : Int) == 32) = true := by rw [eb]; rfl
          clear eb hb
          go_wp2_with fail
          go_roundw
          case rel => exact ⟨k + 1, done, by omega, by go_num, by omega, HOW.out, HL2.out, HBR.out⟩
          case measure => simp [intOf]; omega
        · have e1 : (((s[k]'hlt).toNat : Int) == 32) = false := by rw [eb]; rfl
          have e2 : (((s[k]'hlt).toNat : Int) == 10) = true := by rw [eb]; rfl
          clear eb hb
          go_wp2_with fail
          go_roundw
          case rel => exact ⟨k + 1, done, by omega, by go_num, by omega, HOW.out, HL2.out, HBR.out⟩
          case measure => simp [intOf]; omega
      · have hnb := hbl
        rw [isB_or, ← eb] at hbl
        simp only [not_or, Bool.not_eq_true] at hbl
        obtain ⟨e1, e2⟩ := hbl
        have TK := Lib.hid (token_any (s.extract k s.size) b _ x1 (by rw [ByteArray.size_extract]; omega) wr (HT.out.keep hb) (HN.out.keep hb) (HS.out.keep hb))
        unfold tokSays at TK
        rw [x1] at TK
        have hle : (tokP (b :: s.data.toList.drop (k + 1))).2.2 = 0 → 1 ≤ (tokP (b :: s.data.toList.drop (k + 1))).1 ∧ (tokP (b :: s.data.toList.drop (k + 1))).1 ≤ (b :: s.data.toList.drop (k + 1)).length := tokP_le
        have hll : (b :: s.data.toList.drop (k + 1)).length = s.size - k := by rw [← x2, List.length_drop, hsz'.out]
        obtain ⟨n, kd, er, htk⟩ : ∃ n kd er, tokP (b :: s.data.toList.drop (k + 1)) = (n, kd, er) := ⟨_, _, _, rfl⟩
        rw [htk, hll] at hle
        rw [htk] at TK
        have HOW := Lib.hid hown
        by_cases he : er = 0
        · subst he
          obtain ⟨hn1, hn2⟩ := hle rfl
          have HL2 := Lib.hid (show lexP s.data.toList 0 = (lexP (s.data.toList.drop (k + n)) (k + n)).pre (done ++ [⟨kd, (s.data.toList.drop k).take n, k⟩]) by
            rw [HLX.out, x2, lexP_tok hnb htk, LexR.pre_pre, ← x2, List.drop_drop])
          have HX := Lib.hid (ext_mid s k n)
          clear x1 x2 hbk hown eb hnb htk hle hll
          go_wp2_with fail
          refine (TK.out).mono ?_
          rintro e w1 ⟨rfl, hb1⟩
          have hown1 := own_keep HOW.out hb1
          have hc1 := HBR.out.trans (hb1.mono HBR.out.size)
          clear hb1 hb
          go_wp2_with (first
            | (at_builtin; refine wpList_append_one tokSlice rfl _ _ rfl rfl rfl hown1 hc1 (Nat.le_refl _) rfl (by intro u hu; simp at hu; rcases hu with rfl | rfl | rfl <;> rfl) (by omega) ?_; intro v1 w4 hown4 hb5 _))
          go_roundw
          case rel => exact ⟨k + n, done ++ [⟨kd, (s.data.toList.drop k).take n, k⟩], by omega, by go_num, by simp; omega, by
            rw [toksCells_snoc, List.length_append, ← HX.out]; exact hown4, HL2.out, hb5⟩
          case measure => simp [intOf]; omega
        · have HL2 := Lib.hid (show lexS s.data.toList = .bad er k by rw [HE.out, HLX.out, x2, lexP_bad hnb htk he]; rfl)
          have e3 : (er != 0) = true := bne_iff_ne.2 he
          clear x1 x2 hbk hown eb hnb htk hle hll he
          go_wp2_with fail
          refine (TK.out).mono ?_
          rintro e w1 ⟨rfl, hb1⟩
          have HB1 := Lib.hid (HBR.out.trans (hb1.mono HBR.out.size))
          clear hb1 hb
          have HV2 := Lib.hid (HV.out.keep HB1.out)
          obtain ⟨o0, o1, z0, z1, hlt2⟩ := HV2.out.cells
          go_wp2_with fail
          have HO4 := own2_set HV2.out er k
          have HB4 := Lib.hid (below_set2 (below_step HB.out HB1.out) (Nat.le_refl _) (.int .i64 er) (.int .i64 k))
          generalize (w1.setCell ⟨w.heap.size, 0, none⟩ (.int .i64 er)).setCell ⟨w.heap.size, 1, none⟩ (.int .i64 k) = w4 at HO4 HB4 ⊢
          clear o0 o1 z0 z1 hlt2
          obtain ⟨o0, o1, z0, z1, hlt2⟩ := HO4.cells
          refine bodyPost_ret (v := .tuple #[.slice none 0 0, .agg #[.int .i64 er, .int .i64 k]]) (by simp [results, Tryz.results101, go_sem, o0, o1]) rfl ⟨none, 0, 0, ?_, ⟨by rw [HL2.out]; rfl, by rw [HL2.out]; exact Sees.nil _ _⟩, HB4.out⟩
          rw [HL2.out]; rfl
    · obtain rfl : k = s.size := by omega
      have HL2 := Lib.hid (show lexS s.data.toList = .ok done by
        rw [HE.out, HLX.out, List.drop_of_length_le (by rw [hsz'.out]; exact Nat.le_refl _), lexP_nil]
        show LexR.ok (done ++ []) = _
        rw [List.append_nil])
      obtain ⟨A, c, rfl⟩ := own_shape hown
      have HOW := Lib.hid hown
      have HV2 := Lib.hid (HV.out.keep hb)
      clear hb hown
      obtain ⟨o0, o1, z0, z1, hlt2⟩ := HV2.out.cells
      go_wp2_with fail
      have HO4 := own2_set HV2.out 0 0
      have HOW4 := Lib.hid (own_off (own_off HOW.out HLT.out 0 (.int .i64 0)) HLT.out 1 (.int .i64 0))
      have HB4 := Lib.hid (below_set2 (below_step HB.out HBR.out) (Nat.le_refl _) (.int .i64 0) (.int .i64 0))
      generalize (wr.setCell ⟨w.heap.size, 0, none⟩ (.int .i64 0)).setCell ⟨w.heap.size, 1, none⟩ (.int .i64 0) = w4 at HO4 HB4 HOW4 ⊢
      clear o0 o1 z0 z1 hlt2
      obtain ⟨o0, o1, z0, z1, hlt2⟩ := HO4.cells
      obtain ⟨A', c', he', hse⟩ := Sees.of_own HOW4.out
      injection he' with he1 _ he2
      subst he1 he2
      refine bodyPost_ret (v := .tuple #[.slice A done.length c, .agg #[.int .i64 0, .int .i64 0]]) (by simp [results, Tryz.results101, go_sem, o0, o1]) rfl ⟨A, done.length, c, ?_, ⟨by rw [HL2.out]; rfl, by rw [HL2.out]; exact hse⟩, HB4.out⟩
      rw [HL2.out]; rfl
/-- .. with names for the fault's numbers (a store of zeros into a new cell is no step of a walk). -/
theorem tokens_hp (s : ByteArray) (hs : s.size ≤ maxLen) (w : World) (hT : TextT w) (hN : NumT w) (hS : SignsT w) :
    Calls Tryz.prog 101 #[.string s] w fun e w' => ∃ A n c h p, e = .returned (.tuple #[.slice A n c, .agg #[.int .i64 h, .int .i64 p]]) ∧ h = (lexS s.data.toList).how ∧ p = (lexS s.data.toList).pos ∧ SeesToks w' A n c (lexS s.data.toList).toks ∧ Below w.heap.size w w' :=
  (tokens_any s hs w hT hN hS).mono fun _ _ ⟨A, n, c, h1, h2, h3⟩ => ⟨A, n, c, _, _, h1, rfl, rfl, h2, h3⟩
/-! ### joined -/
def tokB (t : Tok) : ByteArray := ⟨t.text.toArray⟩
theorem tokB_data (t : Tok) : (tokB t).data.toList = t.text := rfl
theorem tokB_map (l : List Tok) : (l.map tokB).map (·.data.toList) = l.map (·.text) := by rw [List.map_map]; rfl
theorem join_len : ∀ (l : List Tok), (∀ t ∈ l, t.text.length ≤ 400) → (Lib.join (l.map (·.text)) [32]).length ≤ l.length * 401
  | [], _ => Nat.zero_le _
  | t :: l, h => by
    rw [List.map_cons, Lib.join_cons, List.length_append, Lib.joinTail_length, List.length_cons]
    have h1 := h t (by simp)
    have h2 : Lib.lens (l.map (·.text)) ≤ l.length * 400 := by
      clear h1
      induction l with
      | nil => simp [Lib.lens]
      | cons u l ih =>
        have h3 := h u (by simp)
        have := ih (fun x hx => h x (by rcases List.mem_cons.1 hx with rfl | hx <;> simp [*]))
        simp only [Lib.lens, List.map_cons, List.sum_cons, List.length_cons] at this ⊢
        omega
    simp only [List.length_map, List.length_cons, List.length_nil]
    omega
theorem strCells_snoc (l : List ByteArray) (s : ByteArray) : strCells (l ++ [s]) = strCells l ++ [.string s] := by simp [strCells]
end Go.Proofs.YtpbbkpfaphjdoaaGreatDoor
