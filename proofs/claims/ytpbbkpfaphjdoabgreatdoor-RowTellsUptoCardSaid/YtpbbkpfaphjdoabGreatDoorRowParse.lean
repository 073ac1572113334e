/- row.Parse, walked: a text as values. -/
import Derived.Test.YtpbbkpfaphjdoabGreatDoorRowCut
import Derived.Test.YtpbbkpfaphjdoabGreatDoorParse
import Derived.Test.YtpbbkpfaphjdoabGreatDoorErrEq
namespace Go.Proofs.YtpbbkpfaphjdoabGreatDoor
open Go.ChangeShapes Go.WideShapes Go.ChangeAt Go.RowKit

theorem valRow : SliceTy Tryz.prog 23 52 (.agg #[.int .i64 0, .int .i64 0, .string ⟨#[]⟩]) 3 32 := SliceTy.of Tryz.underlying23 (by kernel_rfl) rfl (by decide) (by decide)
theorem piece_len {l p : List UInt8} (h : p ∈ cutR l) : p.length ≤ l.length := by
  have hj := (cutF_back l [] false).1
  have key : ∀ (ps : List (List UInt8)), p ∈ ps → p.length ≤ (Lib.join ps [44]).length := by
    intro ps hp
    cases ps with
    | nil => cases hp
    | cons x r =>
      rw [Lib.join_cons, List.length_append, Lib.joinTail_length]
      rcases List.mem_cons.1 hp with rfl | hp
      · omega
      · have : p.length ≤ Lib.lens r := by
          clear hj
          induction r with
          | nil => cases hp
          | cons y r ih =>
            simp only [Lib.lens, List.map_cons, List.sum_cons] at ih ⊢
            rcases List.mem_cons.1 hp with rfl | hp
            · omega
            · have := ih (List.mem_cons_of_mem _ (by assumption)) hp; omega
        omega
  have := key _ h
  rw [show cutR l = cutF false [] l from rfl, hj] at this
  simpa using this
theorem cutF_count : ∀ (l cur : List UInt8) (q : Bool), (cutF q cur l).length ≤ l.length + 1
  | [], cur, q => by rw [cutF]; simp
  | b :: l, cur, q => by
    rw [cutF]
    have h1 := cutF_count l (cur ++ [b]) (!q)
    have h2 := cutF_count l (cur ++ [b]) q
    have h3 := cutF_count l [] q
    split
    · simp; omega
    · split
      · simp; omega
      · simp; omega
theorem valsCells_snoc2 (l : List Val) (v : Val) : valsCells (l ++ [v]) = valsCells l ++ [.int .i64 v.type, .int .i64 v.n, .string v.s] := by unfold valsCells valCells; rw [List.flatMap_append]; rfl
def RowParseSays (r : List Val × Int) (w : World) (e : Ending) (w' : World) : Prop := ∃ A n c, e = .returned (.tuple #[.slice A n c, errV r.2]) ∧ SeesVals w' A n c r.1 ∧ Below w.heap.size w w'
def fstP (p : List UInt8) : Val := (readP p).1
def badP (p : List UInt8) : Bool := decide ((readP p).2 ≠ 0)
set_option maxHeartbeats 4000000 in
set_option maxRecDepth 100000 in
theorem rowParse_any (s : ByteArray) (hs : s.size ≤ 2000000) (w : World) (hT : TextT w) (hN : NumT w) : Calls Tryz.prog 13 #[.string s] w (RowParseSays (readRow s.data.toList) w) := by
  by_cases h0 : s.data.toList = []
  · have e0 := str_empty h0
    have HR := Lib.hid (show readRow s.data.toList = ([], 0) by unfold readRow; rw [if_pos h0])
    clear h0 hT hN
    go_enter Tryz.func13, Tryz.ntmps13
    go_wp2_with fail
    go_ret2
    exact ⟨none, 0, 0, by rw [HR.out]; rfl, ⟨by rw [HR.out]; rfl, by rw [HR.out]; exact Sees.nil _ _⟩, Below.refl _ _⟩
  have e0 := str_some h0
  have HSZ := Lib.hid (size_eq s)
  have TC := Lib.hid (rowCut_any s hs w)
  have HE := Lib.hid (show readRow s.data.toList = if (cutR s.data.toList).any (fun p => decide ((readP p).2 = 2)) = true then ([], 2) else if (cutR s.data.toList).any badP = true ∨ 6 < (cutR s.data.toList).length then ([], 4) else ((cutR s.data.toList).map fstP, 0) by unfold readRow; rw [if_neg h0]; rfl)
  have HPL := Lib.hid (fun p (hp : p ∈ cutR s.data.toList) => Nat.le_trans (piece_len hp) (by rw [HSZ.out]; exact hs))
  have TQ := Lib.hid (fun (q : ByteArray) (hq : q.size ≤ 2000000) (w' : World) (h : Below w.heap.size w w') => parse_any q hq w' (hT.keep h) (hN.keep h))
  have hcnt : (cutR s.data.toList).length ≤ 2000001 := by have := cutF_count s.data.toList [] false; rw [HSZ.out] at this; exact Nat.le_trans this (by omega)
  unfold CutSays at TC
  unfold ParseSays at TQ
  generalize cutR s.data.toList = ps at TC HE HPL hcnt
  clear h0 hT hN
  go_enter Tryz.func13, Tryz.ntmps13
  go_wp2_with fail
  refine (TC.out).mono ?_
  rintro e w1 ⟨A, c, rfl, hse, hb1⟩
  have HB1 := Lib.hid hb1
  have HSE := Lib.hid hse
  have hcc := hse.2.1
  have hcm := hse.2.2.1
  unfold maxLen at hcm
  clear hse hb1 TC e0
  obtain ⟨n, hn⟩ : ∃ n, n = ps.length := ⟨_, rfl⟩
  have HN := Lib.hid hn
  rw [← hn] at HSE hcc hcnt ⊢
  clear hn
  go_wp2_with fail
  go_loopw [4, 5, 15] (fun out fv iv wx => ∃ (k : Nat) (q : Bool), k ≤ n ∧ iv = .int .i64 k ∧ fv = .bool q ∧ wx.ownsRow w1.heap.size 52 3 out k (valsCells ((ps.take k).map fstP)) ∧ (ps.take k).any badP = q ∧ (∀ p ∈ ps.take k, (readP p).2 ≠ 2) ∧ Below w1.heap.size w1 wx) (fun _ _ iv _ => n - (intOf iv).toNat)
  case atStart => exact ⟨0, false, by omega, rfl, rfl, World.ownsRow_nil _ _ _ _, rfl, (fun p hp => by simp at hp), Below.refl _ _⟩
  case round =>
    obtain ⟨k, q, hk, rfl, rfl, hown, hbd, hno, hb⟩ := hrel
    have HBD := Lib.hid hbd
    have HNO := Lib.hid hno
    have HB := Lib.hid hb
    clear hbd hno
    by_cases hlk : k < n
    · obtain ⟨g, o, u, rfl, hu, c0⟩ := (HSE.out.keep hb).at_ hlk
      obtain ⟨z, hz, rfl⟩ := strCells_at hu
      rw [List.getElem?_map] at hz
      obtain ⟨p, hp, rfl⟩ := Option.map_eq_some_iff.1 hz
      have TX := Lib.hid (TQ.out (mkB p) (by show p.length ≤ _; exact HPL.out p (List.mem_of_getElem? hp)) wr (below_step HB1.out hb))
      rw [data_mkB] at TX
      have HXB := Lib.hid (show valsCells ((ps.take (k + 1)).map fstP) = valsCells ((ps.take k).map fstP) ++ [.int .i64 (readP p).1.type, .int .i64 (readP p).1.n, .string (readP p).1.s] by rw [List.take_add_one, hp, List.map_append]; exact valsCells_snoc2 _ _)
      have HMEM := Lib.hid (List.mem_of_getElem? hp)
      have HNB := Lib.hid (show (ps.take (k + 1)).any badP = (q || badP p) by rw [List.take_add_one, hp, List.any_append, HBD.out]; simp)
      have HNX := Lib.hid (show (readP p).2 ≠ 2 → ∀ z ∈ ps.take (k + 1), (readP z).2 ≠ 2 from fun h z hz => by
        rw [List.take_add_one, hp] at hz
        rcases List.mem_append.1 hz with hz | hz
        · exact HNO.out z hz
        · simp at hz; rw [hz]; exact h)
      have HBP := Lib.hid (show badP p = decide ((readP p).2 ≠ 0) from rfl)
      have he := readP_err p
      have HEP := Lib.hid (show (readP p).2 = 2 → readRow s.data.toList = ([], 2) from fun h => by rw [HE.out, if_pos (List.any_eq_true.2 ⟨p, HMEM.out, decide_eq_true h⟩)])
      have HOW := Lib.hid hown
      clear hu hz hp hown
      generalize badP p = bp at HNB HBP
      generalize (readP p).1 = v at TX HXB
      generalize (readP p).2 = er at TX HNX HBP he HEP
      unfold valV at TX
      have n2 := nilEq 2
      have q42 := errEq 4 2
      have q22 := errEq 2 2
      rcases he with rfl | rfl | rfl
      · as_aux_lemma =>
        rw [errV_zero] at TX
        have HNX := Lib.hid (HNX.out (by decide))
        have HBP := Lib.hid (HBP.out.trans (show decide ((0 : Int) ≠ 0) = false from rfl))
        obtain rfl := HBP.out
        clear hb
        go_wp2_with fail
        refine (TX.out).mono ?_
        rintro e w2 ⟨rfl, hb2⟩
        obtain ⟨w3, hw3⟩ : ∃ w3, w2.alloc (.cells #[.int .i64 v.type, .int .i64 v.n, .string v.s] 52) = w3 := ⟨_, rfl⟩
        have hbx := belowNew' w2 (.cells #[.int .i64 v.type, .int .i64 v.n, .string v.s] 52)
        have hox := own3_new w2 v
        rw [hw3] at hbx hox
        obtain ⟨q0, q1, q2, -, -, -, -⟩ := hox.cells
        have hb3 := below_step hb2 hbx
        have hown3 := own_keep HOW.out hb3
        have hc3 := HB.out.trans (hb3.mono HB.out.size)
        have HW3 := Lib.hid hw3
        clear hb2 hbx hb3 hw3 hox
        cases q
        · skip
          go_wp2_with (first
            | rw [HW3.out]
            | (at_builtin; refine wpList_append_one valRow rfl _ _ rfl rfl rfl hown3 hc3 (Nat.le_refl _) rfl (by intro u hu; simp at hu; rcases hu with rfl | rfl | rfl <;> rfl) (by omega) ?_; intro v1 w6 hown6 hb6 _))
          go_roundw
          case rel => exact ⟨k + 1, false, by omega, by go_num, rfl, by rw [HXB.out]; exact hown6, HNB.out, HNX.out, hb6⟩
          case measure => simp [intOf]; omega
        · skip
          go_wp2_with (first
            | rw [HW3.out]
            | (at_builtin; refine wpList_append_one valRow rfl _ _ rfl rfl rfl hown3 hc3 (Nat.le_refl _) rfl (by intro u hu; simp at hu; rcases hu with rfl | rfl | rfl <;> rfl) (by omega) ?_; intro v1 w6 hown6 hb6 _))
          go_roundw
          case rel => exact ⟨k + 1, true, by omega, by go_num, rfl, by rw [HXB.out]; exact hown6, HNB.out, HNX.out, hb6⟩
          case measure => simp [intOf]; omega
      · as_aux_lemma =>
        rw [errV_ne (by decide)] at TX
        have HR := Lib.hid (HEP.out rfl)
        clear hb
        go_wp2_with fail
        refine (TX.out).mono ?_
        rintro e w2 ⟨rfl, hb2⟩
        have HB2 := Lib.hid (below_step (below_step HB1.out HB.out) hb2)
        have hbx := belowNew' w2 (.cells #[.int .i64 v.type, .int .i64 v.n, .string v.s] 52)
        have HB3 := Lib.hid (below_step HB2.out hbx)
        clear hb2 hbx
        go_wp2_with fail
        go_ret2
        exact ⟨none, 0, 0, by rw [HR.out]; rfl, ⟨by rw [HR.out]; rfl, by rw [HR.out]; exact Sees.nil _ _⟩, HB3.out⟩
      · as_aux_lemma =>
        rw [errV_ne (by decide)] at TX
        have HNX := Lib.hid (HNX.out (by decide))
        have HBP := Lib.hid (HBP.out.trans (show decide ((4 : Int) ≠ 0) = true from rfl))
        obtain rfl := HBP.out
        clear hb
        go_wp2_with fail
        refine (TX.out).mono ?_
        rintro e w2 ⟨rfl, hb2⟩
        obtain ⟨w3, hw3⟩ : ∃ w3, w2.alloc (.cells #[.int .i64 v.type, .int .i64 v.n, .string v.s] 52) = w3 := ⟨_, rfl⟩
        have hbx := belowNew' w2 (.cells #[.int .i64 v.type, .int .i64 v.n, .string v.s] 52)
        have hox := own3_new w2 v
        rw [hw3] at hbx hox
        obtain ⟨q0, q1, q2, -, -, -, -⟩ := hox.cells
        have hb3 := below_step hb2 hbx
        have hown3 := own_keep HOW.out hb3
        have hc3 := HB.out.trans (hb3.mono HB.out.size)
        have HW3 := Lib.hid hw3
        clear hb2 hbx hb3 hw3 hox
        cases q
        · skip
          go_wp2_with (first
            | rw [HW3.out]
            | (at_builtin; refine wpList_append_one valRow rfl _ _ rfl rfl rfl hown3 hc3 (Nat.le_refl _) rfl (by intro u hu; simp at hu; rcases hu with rfl | rfl | rfl <;> rfl) (by omega) ?_; intro v1 w6 hown6 hb6 _))
          go_roundw
          case rel => exact ⟨k + 1, true, by omega, by go_num, rfl, by rw [HXB.out]; exact hown6, HNB.out, HNX.out, hb6⟩
          case measure => simp [intOf]; omega
        · skip
          go_wp2_with (first
            | rw [HW3.out]
            | (at_builtin; refine wpList_append_one valRow rfl _ _ rfl rfl rfl hown3 hc3 (Nat.le_refl _) rfl (by intro u hu; simp at hu; rcases hu with rfl | rfl | rfl <;> rfl) (by omega) ?_; intro v1 w6 hown6 hb6 _))
          go_roundw
          case rel => exact ⟨k + 1, true, by omega, by go_num, rfl, by rw [HXB.out]; exact hown6, HNB.out, HNX.out, hb6⟩
          case measure => simp [intOf]; omega
    · obtain rfl : k = n := by omega
      have HTK := Lib.hid (show ps.take k = ps from List.take_of_length_le (by rw [HN.out]; exact Nat.le_refl _))
      rw [HTK.out] at hown HBD HNO
      have HR0 := Lib.hid (show readRow s.data.toList = if q = true ∨ 6 < k then ([], 4) else (ps.map fstP, 0) by
        rw [HE.out, if_neg (by intro h; obtain ⟨p, h1, h2⟩ := List.any_eq_true.1 h; exact HNO.out p h1 (of_decide_eq_true h2)), HBD.out, ← HN.out])
      obtain ⟨A', c', rfl, hse⟩ := Sees.of_own hown
      have HSV := Lib.hid hse
      clear hown hse hb
      cases q
      · by_cases h6 : 6 < k
        · have d6 : decide (6 < (k : Int)) = true := decide_eq_true (by omega)
          have HR := Lib.hid (show readRow s.data.toList = ([], 4) by rw [HR0.out, if_pos (Or.inr h6)])
          clear h6
          go_wp2_with fail
          go_ret2
          exact ⟨none, 0, 0, by rw [HR.out]; rfl, ⟨by rw [HR.out]; rfl, by rw [HR.out]; exact Sees.nil _ _⟩, below_step HB1.out HB.out⟩
        · have d6 : decide (6 < (k : Int)) = false := decide_eq_false (by omega)
          have HR := Lib.hid (show readRow s.data.toList = (ps.map fstP, 0) by rw [HR0.out, if_neg (by simp; omega)])
          clear h6
          go_wp2_with fail
          go_ret2
          exact ⟨A', k, c', by rw [HR.out]; rfl, ⟨by rw [HR.out, List.length_map]; exact HN.out.symm, by rw [HR.out]; exact HSV.out⟩, below_step HB1.out HB.out⟩
      · have HR := Lib.hid (show readRow s.data.toList = ([], 4) by rw [HR0.out, if_pos (Or.inl rfl)])
        go_wp2_with fail
        go_ret2
        exact ⟨none, 0, 0, by rw [HR.out]; rfl, ⟨by rw [HR.out]; rfl, by rw [HR.out]; exact Sees.nil _ _⟩, below_step HB1.out HB.out⟩
end Go.Proofs.YtpbbkpfaphjdoabGreatDoor
