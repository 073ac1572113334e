/- Of the law WindowTells: the card Rows.WindowTellsCardSaid, without any condition of ours: whatever the five numbers, it returns true. -/
import Derived.Test.YthnemdjihddmnaaDoorFrame
import Derived.Test.YthnemdjihddmnaaDoorRefWin
import Derived.Test.YthnemdjihddmnaaDoorSameInts
import Derived.Test.YthnemdjihddmnaaDoorLaidErr
import Derived.Deep.DeepHandedRow
namespace Go.Proofs.YthnemdjihddmnaaDoor.wtells
open Go.ChangeShapes Go.WideShapes Go.ChangeAt Go.RowKit
open Win

theorem errIs0 : ErrIs .nilIface 0 := Or.inl ⟨rfl, rfl⟩
theorem errIs (k : Int) (h : k ≠ 0) : ErrIs (.iface 51 (.int .i64 k)) k := Or.inr ⟨rfl, h⟩
def Guard (a b : Int) : Prop := (decide (a < -1) = true) ∨ (decide (a < -1) = false ∧ decide (1000000 < a) = true) ∨ (decide (a < -1) = false ∧ decide (1000000 < a) = false ∧ decide (b < a) = true) ∨ (decide (a < -1) = false ∧ decide (1000000 < a) = false ∧ decide (b < a) = false ∧ decide (1001000 < b) = true)
def Good (a b : Int) : Prop := decide (a < -1) = false ∧ decide (1000000 < a) = false ∧ decide (b < a) = false ∧ decide (1001000 < b) = false
theorem guard_or (a b : Int) : Guard a b ∨ Good a b := by
  unfold Guard Good
  by_cases h1 : a < -1
  · exact Or.inl (Or.inl (by simpa using h1))
  · by_cases h2 : 1000000 < a
    · exact Or.inl (Or.inr (Or.inl ⟨by simpa using h1, by simpa using h2⟩))
    · by_cases h3 : b < a
      · exact Or.inl (Or.inr (Or.inr (Or.inl ⟨by simpa using h1, by simpa using h2, by simpa using h3⟩)))
      · by_cases h4 : 1001000 < b
        · exact Or.inl (Or.inr (Or.inr (Or.inr ⟨by simpa using h1, by simpa using h2, by simpa using h3, by simpa using h4⟩)))
        · exact Or.inr ⟨by simpa using h1, by simpa using h2, by simpa using h3, by simpa using h4⟩
theorem sees0 (w : World) : Sees w none 0 0 1 (ints []) := Sees.nil w 1

set_option maxHeartbeats 4000000 in
set_option maxRecDepth 100000 in
theorem walk_bad (t size slide a b : Int) (w : World) (hg : ErrT w) (hw : ¬ winOk size slide) (hd : Guard a b ∨ Good a b) :
    Calls Tryd.prog 4 #[.int .i64 t, .int .i64 size, .int .i64 slide, .int .i64 a, .int .i64 b] w fun e w' => e = .returned (.bool true) ∧ Below w.heap.size w w' := by
  have HG := Lib.hid hg
  have HW := Lib.hid hw
  have HS := Lib.hid (show ¬ (winOk size slide ∧ 0 ≤ t ∧ t ≤ 1000000) from fun h => hw h.1)
  have HD := Lib.hid (show ¬ doneOk a b size slide from fun h => hw h.1)
  have E1 := Lib.hid (errIs 1 (by decide))
  clear hg hw
  obtain ⟨tb, htb⟩ : ∃ tb, decide (0 ≤ t ∧ t ≤ 1000000) = tb := ⟨_, rfl⟩
  have HT := Lib.hid htb
  clear htb
  cases tb <;> rcases hd with (d1 | ⟨d1, d2⟩ | ⟨d1, d2, d3⟩ | ⟨d1, d2, d3, d4⟩) | ⟨d1, d2, d3, d4⟩
  all_goals
    go_enter Tryd.func4, Tryd.ntmps4
    go_wp2_with fail
    refine (rwindow_bad _ _ _ HW.out).mono ?_
    rintro e w' ⟨rfl, rfl⟩
    go_wp2_with fail
    refine (wcheck_bad _ _ _ HW.out).mono ?_
    rintro e w' ⟨rfl, rfl⟩
    go_wp2_with fail
    refine (same_err _ 1 1 _ HG.out E1.out).mono ?_
    rintro e w1 ⟨rfl, hb1⟩
    have B1 := Lib.hid hb1
    have G1 := Lib.hid (HG.out.keep hb1)
    clear hb1
    go_wp2_with fail
    refine (rtime_any _ _).mono ?_
    rintro e w' ⟨rfl, rfl⟩
    rw [HT.out]
    go_wp2_with fail
    refine (wstarts_bad _ _ _ _ HS.out).mono ?_
    rintro e w' ⟨rfl, rfl⟩
    go_wp2_with fail
    refine (same_err _ 1 1 _ G1.out E1.out).mono ?_
    rintro e w2 ⟨rfl, hb2⟩
    have B2 := Lib.hid (below_step B1.out hb2)
    have G2 := Lib.hid (G1.out.keep hb2)
    clear hb2
    go_wp2_with fail
    refine (same_ints none none 0 0 0 0 [] [] _ (sees0 _) (sees0 _)).mono ?_
    rintro e w' ⟨rfl, q1, rfl⟩
    go_wp2_with fail
    refine (wdone_bad _ _ _ _ _ HD.out).mono ?_
    rintro e w' ⟨rfl, rfl⟩
    go_wp2_with fail
    refine (same_err _ 1 1 _ (show ErrT (w2.drewN q1) from G2.out) E1.out).mono ?_
    rintro e w3 ⟨rfl, hb3⟩
    have B3 := Lib.hid (below_stepN B2.out hb3)
    clear hb3
    go_wp2_with fail
    refine (same_ints none none 0 0 0 0 [] [] _ (sees0 _) (sees0 _)).mono ?_
    rintro e w' ⟨rfl, q2, rfl⟩
    go_wp2_with fail
    go_ret
    exact ⟨rfl, below_drewN B3.out q2⟩

set_option maxHeartbeats 4000000 in
set_option maxRecDepth 100000 in
theorem ok_time_good (t size slide a b F J FT JT : Int) (w : World) (hg : ErrT w) (hw : winOk size slide) (ht : 0 ≤ t ∧ t ≤ 1000000) (hd : Good a b) (hF : fst size slide a = F) (hJ : idx size slide b = J) (hFT : fst size slide t = FT) (hJT : idx size slide (t + size) = JT) :
    Calls Tryd.prog 4 #[.int .i64 t, .int .i64 size, .int .i64 slide, .int .i64 a, .int .i64 b] w fun e w' => e = .returned (.bool true) ∧ Below w.heap.size w w' := by
  have HG := Lib.hid hg
  have HW := Lib.hid hw
  have HF := Lib.hid hF
  have HJ := Lib.hid hJ
  have HFT := Lib.hid hFT
  have HJT := Lib.hid hJT
  have E1 := Lib.hid (errIs 1 (by decide))
  have E4 := Lib.hid (errIs 4 (by decide))
  have E0 := Lib.hid errIs0
  have T := Lib.hid (show decide (0 ≤ t ∧ t ≤ 1000000) = true by simpa using ht)
  have HT := Lib.hid (show 0 ≤ t ∧ t ≤ 1000000 from ht)
  have HD := Lib.hid (show doneOk a b size slide by unfold Good at hd; simp at hd; exact ⟨hw, by omega, by omega, by omega, by omega⟩)
  clear hg hw hF hJ hFT hJT ht
  obtain ⟨d1, d2, d3, d4⟩ := hd
  all_goals
    go_enter Tryd.func4, Tryd.ntmps4
    go_wp2_with fail
    refine (rwindow_ok _ _ _ HW.out).mono ?_
    rintro e w' ⟨rfl, rfl⟩
    go_wp2_with fail
    refine (wcheck_ok _ _ _ HW.out).mono ?_
    rintro e w' ⟨rfl, rfl⟩
    go_wp2_with fail
    refine (same_err _ 0 0 _ HG.out E0.out).mono ?_
    rintro e w1 ⟨rfl, hb1⟩
    have B1 := Lib.hid hb1
    have G1 := Lib.hid (HG.out.keep hb1)
    clear hb1
    go_wp2_with fail
    refine (rtime_any _ _).mono ?_
    rintro e w' ⟨rfl, rfl⟩
    rw [T.out]
    go_wp2_with fail
    refine (rstarts_F t size slide FT JT HFT.out HJT.out _ HW.out HT.out.1 HT.out.2).mono ?_
    rintro e w2 ⟨v2, rfl, ho2, hb2⟩
    obtain ⟨A2, c2, rfl, s2⟩ := Sees.of_own ho2
    have S2 := Lib.hid s2
    have B2 := Lib.hid (below_step B1.out hb2)
    have G2 := Lib.hid (G1.out.keep hb2)
    clear ho2 s2 hb2
    go_wp2_with fail
    refine (wstarts_F t size slide FT HFT.out _ HW.out HT.out.1 HT.out.2).mono ?_
    rw [HJT.out]
    rintro e w3 ⟨v3, rfl, ho3, hb3⟩
    obtain ⟨A3, c3, rfl, s3⟩ := Sees.of_own ho3
    have S3 := Lib.hid s3
    have S23 := Lib.hid (S2.out.keep hb3)
    have B3 := Lib.hid (below_step B2.out hb3)
    have G3 := Lib.hid (G2.out.keep hb3)
    clear ho3 s3 hb3
    go_wp2_with fail
    refine (same_err _ 0 0 _ G3.out E0.out).mono ?_
    rintro e w4 ⟨rfl, hb4⟩
    have S4 := Lib.hid (S3.out.keep hb4)
    have S24 := Lib.hid (S23.out.keep hb4)
    have B4 := Lib.hid (below_step B3.out hb4)
    have G4 := Lib.hid (G3.out.keep hb4)
    clear hb4
    go_wp2_with fail
    refine (same_ints _ _ _ _ _ _ _ _ _ S4.out S24.out).mono ?_
    rintro e w' ⟨rfl, q4, rfl⟩
    rw [decide_eq_true (rfl : wins slide FT JT = wins slide FT JT)]
    go_wp2_with fail
    refine (rdone_F a b size slide F J _ HF.out HJ.out rfl _ HD.out).mono ?_
    rintro e w5 (⟨hc, v5, rfl, ho5, hb5⟩ | ⟨hc, rfl, hb5⟩)
    · obtain ⟨A5, c5, rfl, s5⟩ := Sees.of_own ho5
      have S5 := Lib.hid s5
      have B5 := Lib.hid (below_stepN B4.out hb5)
      have G5 := Lib.hid (ErrT.keep (show ErrT (w4.drewN q4) from G4.out) hb5)
      have HC := Lib.hid hc
      clear ho5 s5 hb5 hc
      go_wp2_with fail
      refine (wdone_F a b size slide F HF.out _ HD.out).mono ?_
      rw [HJ.out]
      rintro e w6 (⟨_, v6, rfl, ho6, hb6⟩ | ⟨hc, _⟩)
      · obtain ⟨A6, c6, rfl, s6⟩ := Sees.of_own ho6
        have S6 := Lib.hid s6
        have S56 := Lib.hid (S5.out.keep hb6)
        have B6 := Lib.hid (below_step B5.out hb6)
        have G6 := Lib.hid (G5.out.keep hb6)
        clear ho6 s6 hb6
        go_wp2_with fail
        refine (same_err _ 0 0 _ G6.out E0.out).mono ?_
        rintro e w7 ⟨rfl, hb7⟩
        have S7 := Lib.hid (S6.out.keep hb7)
        have S57 := Lib.hid (S56.out.keep hb7)
        have B7 := Lib.hid (below_step B6.out hb7)
        clear hb7
        go_wp2_with fail
        refine (same_ints _ _ _ _ _ _ _ _ _ S7.out S57.out).mono ?_
        rintro e w' ⟨rfl, q7, rfl⟩
        rw [decide_eq_true (rfl : wins slide F J = wins slide F J)]
        go_wp2_with fail
        go_ret
        exact ⟨rfl, below_drewN B7.out q7⟩
      · exfalso; have := HC.out; omega
    · have B5 := Lib.hid (below_stepN B4.out hb5)
      have G5 := Lib.hid (ErrT.keep (show ErrT (w4.drewN q4) from G4.out) hb5)
      have HC := Lib.hid hc
      clear hb5 hc
      go_wp2_with fail
      refine (wdone_F a b size slide F HF.out _ HD.out).mono ?_
      rw [HJ.out]
      rintro e w6 (⟨hc, _⟩ | ⟨_, rfl, hb6⟩)
      · exfalso; have := HC.out; omega
      · have B6 := Lib.hid (below_step B5.out hb6)
        have G6 := Lib.hid (G5.out.keep hb6)
        clear hb6
        go_wp2_with fail
        refine (same_err _ 4 4 _ G6.out E4.out).mono ?_
        rintro e w7 ⟨rfl, hb7⟩
        have B7 := Lib.hid (below_step B6.out hb7)
        clear hb7
        go_wp2_with fail
        refine (same_ints none none 0 0 0 0 [] [] _ (sees0 _) (sees0 _)).mono ?_
        rintro e w' ⟨rfl, q7, rfl⟩
        go_wp2_with fail
        go_ret
        exact ⟨rfl, below_drewN B7.out q7⟩

set_option maxHeartbeats 4000000 in
set_option maxRecDepth 100000 in
theorem ok_time_bad (t size slide a b F J FT JT : Int) (w : World) (hg : ErrT w) (hw : winOk size slide) (ht : 0 ≤ t ∧ t ≤ 1000000) (hd : Guard a b) (hF : fst size slide a = F) (hJ : idx size slide b = J) (hFT : fst size slide t = FT) (hJT : idx size slide (t + size) = JT) :
    Calls Tryd.prog 4 #[.int .i64 t, .int .i64 size, .int .i64 slide, .int .i64 a, .int .i64 b] w fun e w' => e = .returned (.bool true) ∧ Below w.heap.size w w' := by
  have HG := Lib.hid hg
  have HW := Lib.hid hw
  have HF := Lib.hid hF
  have HJ := Lib.hid hJ
  have HFT := Lib.hid hFT
  have HJT := Lib.hid hJT
  have E1 := Lib.hid (errIs 1 (by decide))
  have E4 := Lib.hid (errIs 4 (by decide))
  have E0 := Lib.hid errIs0
  have T := Lib.hid (show decide (0 ≤ t ∧ t ≤ 1000000) = true by simpa using ht)
  have HT := Lib.hid (show 0 ≤ t ∧ t ≤ 1000000 from ht)
  have HD := Lib.hid (show ¬ doneOk a b size slide by unfold Guard at hd; simp at hd; unfold doneOk; omega)
  clear hg hw hF hJ hFT hJT ht
  rcases hd with d1 | ⟨d1, d2⟩ | ⟨d1, d2, d3⟩ | ⟨d1, d2, d3, d4⟩
  all_goals
    go_enter Tryd.func4, Tryd.ntmps4
    go_wp2_with fail
    refine (rwindow_ok _ _ _ HW.out).mono ?_
    rintro e w' ⟨rfl, rfl⟩
    go_wp2_with fail
    refine (wcheck_ok _ _ _ HW.out).mono ?_
    rintro e w' ⟨rfl, rfl⟩
    go_wp2_with fail
    refine (same_err _ 0 0 _ HG.out E0.out).mono ?_
    rintro e w1 ⟨rfl, hb1⟩
    have B1 := Lib.hid hb1
    have G1 := Lib.hid (HG.out.keep hb1)
    clear hb1
    go_wp2_with fail
    refine (rtime_any _ _).mono ?_
    rintro e w' ⟨rfl, rfl⟩
    rw [T.out]
    go_wp2_with fail
    refine (rstarts_F t size slide FT JT HFT.out HJT.out _ HW.out HT.out.1 HT.out.2).mono ?_
    rintro e w2 ⟨v2, rfl, ho2, hb2⟩
    obtain ⟨A2, c2, rfl, s2⟩ := Sees.of_own ho2
    have S2 := Lib.hid s2
    have B2 := Lib.hid (below_step B1.out hb2)
    have G2 := Lib.hid (G1.out.keep hb2)
    clear ho2 s2 hb2
    go_wp2_with fail
    refine (wstarts_F t size slide FT HFT.out _ HW.out HT.out.1 HT.out.2).mono ?_
    rw [HJT.out]
    rintro e w3 ⟨v3, rfl, ho3, hb3⟩
    obtain ⟨A3, c3, rfl, s3⟩ := Sees.of_own ho3
    have S3 := Lib.hid s3
    have S23 := Lib.hid (S2.out.keep hb3)
    have B3 := Lib.hid (below_step B2.out hb3)
    have G3 := Lib.hid (G2.out.keep hb3)
    clear ho3 s3 hb3
    go_wp2_with fail
    refine (same_err _ 0 0 _ G3.out E0.out).mono ?_
    rintro e w4 ⟨rfl, hb4⟩
    have S4 := Lib.hid (S3.out.keep hb4)
    have S24 := Lib.hid (S23.out.keep hb4)
    have B4 := Lib.hid (below_step B3.out hb4)
    have G4 := Lib.hid (G3.out.keep hb4)
    clear hb4
    go_wp2_with fail
    refine (same_ints _ _ _ _ _ _ _ _ _ S4.out S24.out).mono ?_
    rintro e w' ⟨rfl, q4, rfl⟩
    rw [decide_eq_true (rfl : wins slide FT JT = wins slide FT JT)]
    go_wp2_with fail
    refine (wdone_bad _ _ _ _ _ HD.out).mono ?_
    rintro e w' ⟨rfl, rfl⟩
    go_wp2_with fail
    refine (same_err _ 1 1 _ (show ErrT (w4.drewN q4) from G4.out) E1.out).mono ?_
    rintro e w5 ⟨rfl, hb5⟩
    have B5 := Lib.hid (below_stepN B4.out hb5)
    clear hb5
    go_wp2_with fail
    refine (same_ints none none 0 0 0 0 [] [] _ (sees0 _) (sees0 _)).mono ?_
    rintro e w' ⟨rfl, q5, rfl⟩
    go_wp2_with fail
    go_ret
    exact ⟨rfl, below_drewN B5.out q5⟩

set_option maxHeartbeats 4000000 in
set_option maxRecDepth 100000 in
theorem ok_none_good (t size slide a b F J FT JT : Int) (w : World) (hg : ErrT w) (hw : winOk size slide) (ht : ¬ (0 ≤ t ∧ t ≤ 1000000)) (hd : Good a b) (hF : fst size slide a = F) (hJ : idx size slide b = J) (hFT : fst size slide t = FT) (hJT : idx size slide (t + size) = JT) :
    Calls Tryd.prog 4 #[.int .i64 t, .int .i64 size, .int .i64 slide, .int .i64 a, .int .i64 b] w fun e w' => e = .returned (.bool true) ∧ Below w.heap.size w w' := by
  have HG := Lib.hid hg
  have HW := Lib.hid hw
  have HF := Lib.hid hF
  have HJ := Lib.hid hJ
  have HFT := Lib.hid hFT
  have HJT := Lib.hid hJT
  have E1 := Lib.hid (errIs 1 (by decide))
  have E4 := Lib.hid (errIs 4 (by decide))
  have E0 := Lib.hid errIs0
  have T := Lib.hid (show decide (0 ≤ t ∧ t ≤ 1000000) = false by simpa using ht)
  have HT := Lib.hid (show ¬ (winOk size slide ∧ 0 ≤ t ∧ t ≤ 1000000) from fun h => ht h.2)
  have HD := Lib.hid (show doneOk a b size slide by unfold Good at hd; simp at hd; exact ⟨hw, by omega, by omega, by omega, by omega⟩)
  clear hg hw hF hJ hFT hJT ht
  obtain ⟨d1, d2, d3, d4⟩ := hd
  all_goals
    go_enter Tryd.func4, Tryd.ntmps4
    go_wp2_with fail
    refine (rwindow_ok _ _ _ HW.out).mono ?_
    rintro e w' ⟨rfl, rfl⟩
    go_wp2_with fail
    refine (wcheck_ok _ _ _ HW.out).mono ?_
    rintro e w' ⟨rfl, rfl⟩
    go_wp2_with fail
    refine (same_err _ 0 0 _ HG.out E0.out).mono ?_
    rintro e w1 ⟨rfl, hb1⟩
    have B1 := Lib.hid hb1
    have G1 := Lib.hid (HG.out.keep hb1)
    clear hb1
    go_wp2_with fail
    refine (rtime_any _ _).mono ?_
    rintro e w' ⟨rfl, rfl⟩
    rw [T.out]
    go_wp2_with fail
    refine (wstarts_bad _ _ _ _ HT.out).mono ?_
    rintro e w' ⟨rfl, rfl⟩
    go_wp2_with fail
    refine (same_err _ 1 1 _ G1.out E1.out).mono ?_
    rintro e w4 ⟨rfl, hb4⟩
    have B4 := Lib.hid (below_step B1.out hb4)
    have G4 := Lib.hid (G1.out.keep hb4)
    clear hb4
    go_wp2_with fail
    refine (same_ints none none 0 0 0 0 [] [] _ (sees0 _) (sees0 _)).mono ?_
    rintro e w' ⟨rfl, q4, rfl⟩
    go_wp2_with fail
    refine (rdone_F a b size slide F J _ HF.out HJ.out rfl _ HD.out).mono ?_
    rintro e w5 (⟨hc, v5, rfl, ho5, hb5⟩ | ⟨hc, rfl, hb5⟩)
    · obtain ⟨A5, c5, rfl, s5⟩ := Sees.of_own ho5
      have S5 := Lib.hid s5
      have B5 := Lib.hid (below_stepN B4.out hb5)
      have G5 := Lib.hid (ErrT.keep (show ErrT (w4.drewN q4) from G4.out) hb5)
      have HC := Lib.hid hc
      clear ho5 s5 hb5 hc
      go_wp2_with fail
      refine (wdone_F a b size slide F HF.out _ HD.out).mono ?_
      rw [HJ.out]
      rintro e w6 (⟨_, v6, rfl, ho6, hb6⟩ | ⟨hc, _⟩)
      · obtain ⟨A6, c6, rfl, s6⟩ := Sees.of_own ho6
        have S6 := Lib.hid s6
        have S56 := Lib.hid (S5.out.keep hb6)
        have B6 := Lib.hid (below_step B5.out hb6)
        have G6 := Lib.hid (G5.out.keep hb6)
        clear ho6 s6 hb6
        go_wp2_with fail
        refine (same_err _ 0 0 _ G6.out E0.out).mono ?_
        rintro e w7 ⟨rfl, hb7⟩
        have S7 := Lib.hid (S6.out.keep hb7)
        have S57 := Lib.hid (S56.out.keep hb7)
        have B7 := Lib.hid (below_step B6.out hb7)
        clear hb7
        go_wp2_with fail
        refine (same_ints _ _ _ _ _ _ _ _ _ S7.out S57.out).mono ?_
        rintro e w' ⟨rfl, q7, rfl⟩
        rw [decide_eq_true (rfl : wins slide F J = wins slide F J)]
        go_wp2_with fail
        go_ret
        exact ⟨rfl, below_drewN B7.out q7⟩
      · exfalso; have := HC.out; omega
    · have B5 := Lib.hid (below_stepN B4.out hb5)
      have G5 := Lib.hid (ErrT.keep (show ErrT (w4.drewN q4) from G4.out) hb5)
      have HC := Lib.hid hc
      clear hb5 hc
      go_wp2_with fail
      refine (wdone_F a b size slide F HF.out _ HD.out).mono ?_
      rw [HJ.out]
      rintro e w6 (⟨hc, _⟩ | ⟨_, rfl, hb6⟩)
      · exfalso; have := HC.out; omega
      · have B6 := Lib.hid (below_step B5.out hb6)
        have G6 := Lib.hid (G5.out.keep hb6)
        clear hb6
        go_wp2_with fail
        refine (same_err _ 4 4 _ G6.out E4.out).mono ?_
        rintro e w7 ⟨rfl, hb7⟩
        have B7 := Lib.hid (below_step B6.out hb7)
        clear hb7
        go_wp2_with fail
        refine (same_ints none none 0 0 0 0 [] [] _ (sees0 _) (sees0 _)).mono ?_
        rintro e w' ⟨rfl, q7, rfl⟩
        go_wp2_with fail
        go_ret
        exact ⟨rfl, below_drewN B7.out q7⟩

set_option maxHeartbeats 4000000 in
set_option maxRecDepth 100000 in
theorem ok_none_bad (t size slide a b F J FT JT : Int) (w : World) (hg : ErrT w) (hw : winOk size slide) (ht : ¬ (0 ≤ t ∧ t ≤ 1000000)) (hd : Guard a b) (hF : fst size slide a = F) (hJ : idx size slide b = J) (hFT : fst size slide t = FT) (hJT : idx size slide (t + size) = JT) :
    Calls Tryd.prog 4 #[.int .i64 t, .int .i64 size, .int .i64 slide, .int .i64 a, .int .i64 b] w fun e w' => e = .returned (.bool true) ∧ Below w.heap.size w w' := by
  have HG := Lib.hid hg
  have HW := Lib.hid hw
  have HF := Lib.hid hF
  have HJ := Lib.hid hJ
  have HFT := Lib.hid hFT
  have HJT := Lib.hid hJT
  have E1 := Lib.hid (errIs 1 (by decide))
  have E4 := Lib.hid (errIs 4 (by decide))
  have E0 := Lib.hid errIs0
  have T := Lib.hid (show decide (0 ≤ t ∧ t ≤ 1000000) = false by simpa using ht)
  have HT := Lib.hid (show ¬ (winOk size slide ∧ 0 ≤ t ∧ t ≤ 1000000) from fun h => ht h.2)
  have HD := Lib.hid (show ¬ doneOk a b size slide by unfold Guard at hd; simp at hd; unfold doneOk; omega)
  clear hg hw hF hJ hFT hJT ht
  rcases hd with d1 | ⟨d1, d2⟩ | ⟨d1, d2, d3⟩ | ⟨d1, d2, d3, d4⟩
  all_goals
    go_enter Tryd.func4, Tryd.ntmps4
    go_wp2_with fail
    refine (rwindow_ok _ _ _ HW.out).mono ?_
    rintro e w' ⟨rfl, rfl⟩
    go_wp2_with fail
    refine (wcheck_ok _ _ _ HW.out).mono ?_
    rintro e w' ⟨rfl, rfl⟩
    go_wp2_with fail
    refine (same_err _ 0 0 _ HG.out E0.out).mono ?_
    rintro e w1 ⟨rfl, hb1⟩
    have B1 := Lib.hid hb1
    have G1 := Lib.hid (HG.out.keep hb1)
    clear hb1
    go_wp2_with fail
    refine (rtime_any _ _).mono ?_
    rintro e w' ⟨rfl, rfl⟩
    rw [T.out]
    go_wp2_with fail
    refine (wstarts_bad _ _ _ _ HT.out).mono ?_
    rintro e w' ⟨rfl, rfl⟩
    go_wp2_with fail
    refine (same_err _ 1 1 _ G1.out E1.out).mono ?_
    rintro e w4 ⟨rfl, hb4⟩
    have B4 := Lib.hid (below_step B1.out hb4)
    have G4 := Lib.hid (G1.out.keep hb4)
    clear hb4
    go_wp2_with fail
    refine (same_ints none none 0 0 0 0 [] [] _ (sees0 _) (sees0 _)).mono ?_
    rintro e w' ⟨rfl, q4, rfl⟩
    go_wp2_with fail
    refine (wdone_bad _ _ _ _ _ HD.out).mono ?_
    rintro e w' ⟨rfl, rfl⟩
    go_wp2_with fail
    refine (same_err _ 1 1 _ (show ErrT (w4.drewN q4) from G4.out) E1.out).mono ?_
    rintro e w5 ⟨rfl, hb5⟩
    have B5 := Lib.hid (below_stepN B4.out hb5)
    clear hb5
    go_wp2_with fail
    refine (same_ints none none 0 0 0 0 [] [] _ (sees0 _) (sees0 _)).mono ?_
    rintro e w' ⟨rfl, q5, rfl⟩
    go_wp2_with fail
    go_ret
    exact ⟨rfl, below_drewN B5.out q5⟩

theorem walk (t size slide a b : Int) (w : World) (hg : ErrT w) :
    Calls Tryd.prog 4 #[.int .i64 t, .int .i64 size, .int .i64 slide, .int .i64 a, .int .i64 b] w fun e w' => e = .returned (.bool true) ∧ Below w.heap.size w w' := by
  by_cases hw : winOk size slide
  · by_cases ht : 0 ≤ t ∧ t ≤ 1000000
    · rcases guard_or a b with hd | hd
      · exact ok_time_bad t size slide a b _ _ _ _ w hg hw ht hd rfl rfl rfl rfl
      · exact ok_time_good t size slide a b _ _ _ _ w hg hw ht hd rfl rfl rfl rfl
    · rcases guard_or a b with hd | hd
      · exact ok_none_bad t size slide a b _ _ _ _ w hg hw ht hd rfl rfl rfl rfl
      · exact ok_none_good t size slide a b _ _ _ _ w hg hw ht hd rfl rfl rfl rfl
  · exact walk_bad t size slide a b w hg hw (guard_or a b)

set_option maxRecDepth 100000 in
theorem contract (H : Type) (enc : TypeId × Value → H) (W : World) (base : Nat) (args : Array Value) (ds gs : List (DataW H)) (before : List MemPlace)
    (hval : ∀ (j : Nat) t v, Tryd.f4.params[j]? = some t → args[j]? = some v → Value.okWide Tryd.prog W .any base t v)
    (hW : DataW.Whole enc Tryd.prog Tryd.f4.params.toList Rows.windowTellsSpec.vars false W args.toList ds gs before)
    (hsz : (DataW.weightsEach Tryd.prog (Tryd.f4.params.toList ++ (OpenSpec.ofChange Rows.windowTellsSpec).bare.plain.varTypes Tryd.prog) (ds ++ gs)).all (· ≤ reachBytes) = true) (hL : laidMetH Tryd.prog Rows.windowTellsRow.laid W) :
    Calls Tryd.prog 4 args W fun e W' => ∃ v, e = .returned v ∧ Rows.windowTellsSpec.post enc Tryd.prog Tryd.f4 false true false false W args v W' := by
  have hW' := hW
  obtain ⟨p, q, hA0, hV, rfl, hfz, hnd⟩ := hW
  have hA : DataW.TrodAll enc Tryd.prog W 0 (fun _ => true) true Tryd.f4.params.toList args.toList ds p := hA0
  rw [Tryd.params4] at hA hval
  obtain ⟨v0, vs0, d0, ds0, p0, q0, hargs, rfl, rfl, h0, r0⟩ := trodAll_cons hA
  obtain ⟨v1, vs1, d1, ds1, p1, q1, rfl, rfl, rfl, h1, r1⟩ := trodAll_cons r0
  obtain ⟨v2, vs2, d2, ds2, p2, q2, rfl, rfl, rfl, h2, r2⟩ := trodAll_cons r1
  obtain ⟨v3, vs3, d3, ds3, p3, q3, rfl, rfl, rfl, h3, r3⟩ := trodAll_cons r2
  obtain ⟨v4, vs4, d4, ds4, p4, q4, rfl, rfl, rfl, h4, r4⟩ := trodAll_cons r3
  obtain ⟨rfl, rfl, rfl⟩ := trodAll_nil r4
  obtain rfl : args = #[v0, v1, v2, v3, v4] := by cases args; simp_all
  obtain ⟨rfl, rfl⟩ := trodVars_none hV
  obtain ⟨a0, rfl, rfl, rfl, w0⟩ := open_int Tryd.underlying3 (hval 0 3 v0 rfl rfl) h0
  obtain ⟨a1, rfl, rfl, rfl, w1⟩ := open_int Tryd.underlying3 (hval 1 3 v1 rfl rfl) h1
  obtain ⟨a2, rfl, rfl, rfl, w2⟩ := open_int Tryd.underlying3 (hval 2 3 v2 rfl rfl) h2
  obtain ⟨a3, rfl, rfl, rfl, w3⟩ := open_int Tryd.underlying3 (hval 3 3 v3 rfl rfl) h3
  obtain ⟨a4, rfl, rfl, rfl, w4⟩ := open_int Tryd.underlying3 (hval 4 3 v4 rfl rfl) h4
  refine (walk a0 a1 a2 a3 a4 W (errT_of_laid hL)).mono fun e W' ⟨he, hb⟩ => ?_
  subst he
  exact ⟨_, rfl, law_post laidOut Tryd.underlying4 (by kernel_rfl) rfl (by rw [Tryd.params4]; intro t ht; simp only [List.mem_cons, List.not_mem_nil, or_false] at ht; rcases ht with rfl | rfl | rfl | rfl | rfl; all_goals exact ⟨by kernel_rfl, of_decide_eq_true (by kernel_rfl)⟩) hW' rfl hb⟩

theorem reads (os : Os) {H : Type} (enc : TypeId × Value → H) : ∃ places, DataW.whole enc Tryd.prog ((laidWorld_err os).forCall (fun _ _ => 0) ⟨#[], #[.int .i64 0, .int .i64 0, .int .i64 0, .int .i64 0, .int .i64 0], []⟩).memory Tryd.f4.params.toList Rows.windowTellsSpec.vars false (#[.int .i64 0, .int .i64 0, .int .i64 0, .int .i64 0, .int .i64 0] : Array Value).toList 8 = some ([.lit (.int .i64 0), .lit (.int .i64 0), .lit (.int .i64 0), .lit (.int .i64 0), .lit (.int .i64 0)], [], places) :=
  ⟨[], by kernel_rfl⟩

set_option maxRecDepth 100000 in
theorem lifted (os : Os) (started : os.Started) (H : Type) (enc : TypeId × Value → H) (F : Stop.Interp) :
    ReturnsInHanded {} Tryd.checked os 4 .any ((OpenSpec.ofChange Rows.windowTellsSpec).preRow enc Tryd.prog Tryd.f4 Rows.windowTellsRow.domain false Rows.windowTellsRow.laid) (((OpenSpec.ofChange Rows.windowTellsSpec).at F).post enc Tryd.prog Tryd.f4 false true false false) := by
  obtain ⟨places, hx⟩ := reads os enc
  refine returnsInHanded_of_row (C := Tryd.checked) (s := OpenSpec.ofChange Rows.windowTellsSpec) own started (by kernel_rfl) Tryd.func4
    (witness_row_at (enc := enc) (C := Tryd.checked) false (laidWorld_err os) #[.int .i64 0, .int .i64 0, .int .i64 0, .int .i64 0, .int .i64 0] rfl (by kernel_rfl) (by kernel_rfl) (by kernel_rfl)
      (OpenSpec.preRow_of_cond 8 hx (by kernel_rfl) (fun k hk => by cases hk) (by kernel_rfl) (laid_met_err os _))) ?_
  intro W base args ds gs before hval hW _ _ hsz hL _ _
  exact contract H enc W base args ds gs before hval hW hsz hL

theorem said : Rows.WindowTellsSaid :=
  OpenClaim.holds_of_cond 4 Tryd.f4 rfl rfl rfl rfl rfl rfl rfl ⟨rfl, rfl, rfl, rfl, rfl⟩ rfl rfl rfl rfl rfl (by kernel_rfl) Tryd.func4 (by kernel_rfl)
    (of_decide_eq_true (by kernel_rfl)) (by unfold Func.isWrapper; first | (rw [if_pos (by decide +kernel)]; kernel_rfl) | (rw [if_neg (by decide +kernel)]; exact ⟨rfl, rfl⟩))
    (fun os started H enc _ F => by rw [OpenClaim.pre_eq_preRow]; exact lifted os started H enc F)

theorem plain (f : FuncId) (fn : Func) (hf : Tryd.pinned.checked.prog.funcNamed "sluicebook/sluicelaw2.WindowTells" = some f) (hfn : Tryd.pinned.checked.prog.funcs[f]? = some fn) :
    true = Tryd.pinned.checked.prog.looks [] ∧ ∀ (j : Nat) t, fn.params[j]? = some t → Tryd.pinned.checked.prog.wantsStandIn t = false := by
  obtain rfl : f = 4 := Option.some.inj ((show Tryd.prog.funcNamed "sluicebook/sluicelaw2.WindowTells" = some 4 by kernel_rfl).symm.trans hf) |>.symm
  obtain rfl : fn = Tryd.f4 := (Option.some.inj (Tryd.func4.symm.trans hfn)).symm
  refine ⟨by kernel_rfl, fun j t ht => ?_⟩
  rw [Tryd.params4] at ht
  have hm := Array.mem_of_getElem? ht
  simp only [List.mem_toArray, List.mem_cons, List.not_mem_nil, or_false] at hm
  rcases hm with rfl | rfl | rfl | rfl | rfl
  · exact (show Tryd.prog.wantsStandIn 3 = false by kernel_rfl)
  · exact (show Tryd.prog.wantsStandIn 3 = false by kernel_rfl)
  · exact (show Tryd.prog.wantsStandIn 3 = false by kernel_rfl)
  · exact (show Tryd.prog.wantsStandIn 3 = false by kernel_rfl)
  · exact (show Tryd.prog.wantsStandIn 3 = false by kernel_rfl)

theorem card : Rows.WindowTellsCardSaid :=
  Claim7.holds_tied_plain_at .later [] _ _ _ _ said (fun _ h => by cases h) (by kernel_rfl) (fun _ h => by cases h) windowTells_row_tie rfl ⟨rfl, rfl⟩ (by kernel_rfl) rfl plain (by kernel_rfl)
#print axioms card
end Go.Proofs.YthnemdjihddmnaaDoor.wtells
