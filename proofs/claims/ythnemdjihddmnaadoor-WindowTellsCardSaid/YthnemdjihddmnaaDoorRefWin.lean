/- The reference's windows (sluiceref2: Window, Time, Starts, Done), walked. -/
import Derived.Test.YthnemdjihddmnaaDoorWindow
namespace Go.Proofs.YthnemdjihddmnaaDoor
open Go.ChangeShapes Go.WideShapes Go.ChangeAt Go.RowKit
open Win

instance (size slide : Int) : Decidable (winOk size slide) := by unfold winOk; infer_instance

theorem rwindow_ok (size slide : Int) (w : World) (h : winOk size slide) :
    Calls Tryd.prog 13 #[.int .i64 size, .int .i64 slide] w fun e w' => e = .returned (.bool true) ∧ w = w' := by
  obtain ⟨h1, h2, h3, h4, h5⟩ := h
  have d1 : decide (1 ≤ size) = true := by simpa using h1
  have d2 : decide (size ≤ 1000) = true := by simpa using h2
  have d3 : decide (1 ≤ slide) = true := by simpa using h3
  have d4 : decide (slide ≤ size) = true := by simpa using h4
  have d5 : decide (size ≤ 10 * slide) = true := by simpa using h5
  go_enter Tryd.func13, Tryd.ntmps13
  go_wp2
  go_ret
  exact ⟨rfl, rfl⟩
theorem rwindow_bad (size slide : Int) (w : World) (h : ¬ winOk size slide) :
    Calls Tryd.prog 13 #[.int .i64 size, .int .i64 slide] w fun e w' => e = .returned (.bool false) ∧ w = w' := by
  unfold winOk at h
  by_cases h1 : 1 ≤ size
  · have d1 : decide (1 ≤ size) = true := by simpa using h1
    by_cases h2 : size ≤ 1000
    · have d2 : decide (size ≤ 1000) = true := by simpa using h2
      by_cases h3 : 1 ≤ slide
      · have d3 : decide (1 ≤ slide) = true := by simpa using h3
        by_cases h4 : slide ≤ size
        · have d4 : decide (slide ≤ size) = true := by simpa using h4
          have d5 : decide (size ≤ 10 * slide) = false := by have : ¬ size ≤ 10 * slide := fun h5 => h ⟨h1, h2, h3, h4, h5⟩; simpa using this
          clear h
          go_enter Tryd.func13, Tryd.ntmps13
          go_wp2
          go_ret
          exact ⟨rfl, rfl⟩
        · have d4 : decide (slide ≤ size) = false := by simpa using h4
          clear h
          go_enter Tryd.func13, Tryd.ntmps13
          go_wp2
          go_ret
          exact ⟨rfl, rfl⟩
      · have d3 : decide (1 ≤ slide) = false := by simpa using h3
        clear h
        go_enter Tryd.func13, Tryd.ntmps13
        go_wp2
        go_ret
        exact ⟨rfl, rfl⟩
    · have d2 : decide (size ≤ 1000) = false := by simpa using h2
      clear h
      go_enter Tryd.func13, Tryd.ntmps13
      go_wp2
      go_ret
      exact ⟨rfl, rfl⟩
  · have d1 : decide (1 ≤ size) = false := by simpa using h1
    clear h
    go_enter Tryd.func13, Tryd.ntmps13
    go_wp2
    go_ret
    exact ⟨rfl, rfl⟩
theorem rwindow_any (size slide : Int) (w : World) :
    Calls Tryd.prog 13 #[.int .i64 size, .int .i64 slide] w fun e w' => e = .returned (.bool (decide (winOk size slide))) ∧ w = w' := by
  by_cases h : winOk size slide
  · exact (rwindow_ok size slide w h).mono fun e w' ⟨he, hw⟩ => ⟨by rw [he, decide_eq_true h], hw⟩
  · exact (rwindow_bad size slide w h).mono fun e w' ⟨he, hw⟩ => ⟨by rw [he, decide_eq_false h], hw⟩
theorem rtime_any (a : Int) (w : World) :
    Calls Tryd.prog 15 #[.int .i64 a] w fun e w' => e = .returned (.bool (decide (0 ≤ a ∧ a ≤ 1000000))) ∧ w = w' := by
  by_cases h0 : 0 ≤ a
  · by_cases h1 : a ≤ 1000000
    · go_enter Tryd.func15, Tryd.ntmps15
      go_wp2
      go_ret
      exact ⟨by simp [h0, h1], rfl⟩
    · go_enter Tryd.func15, Tryd.ntmps15
      go_wp2
      go_ret
      exact ⟨by simp; omega, rfl⟩
  · go_enter Tryd.func15, Tryd.ntmps15
    go_wp2
    go_ret
    exact ⟨by simp; omega, rfl⟩

theorem wins_cons {slide i j : Int} (h : i < j) : wins slide i j = win slide i :: wins slide (i + 1) j := by
  have := wins_append (slide := slide) (i := i) (j := i + 1) (l := j) (by omega) (by omega)
  rw [← this]
  have e : wins slide i (i + 1) = [win slide i] := by
    have := wins_snoc (slide := slide) (i := i) 0
    simp only [Int.natCast_zero, Int.add_zero, wins_self, List.nil_append] at this
    simpa using this
  rw [e]; rfl

/-- Where the times' last window begins. -/
theorem last_win {a size slide : Int} : a - a % slide = win slide (idx size slide (a + size) - 1) := by
  unfold win idx
  rw [show a + size - size = a by omega, show a / slide + 1 - 1 = a / slide by omega]
  have := Int.ediv_mul_add_emod a slide
  omega

set_option maxHeartbeats 1000000 in
theorem rstarts_F (a size slide F J : Int) (hF : fst size slide a = F) (hJ : idx size slide (a + size) = J) (w : World) (h : winOk size slide) (h0 : 0 ≤ a) (ha : a ≤ 1000000) :
    Calls Tryd.prog 16 #[.int .i64 a, .int .i64 size, .int .i64 slide] w fun e w' => ∃ v, e = .returned v ∧
      w'.ownsRow w.heap.size 3 1 v (wins slide F J).length (ints (wins slide F J)) ∧ Below w.heap.size w w' := by
  have H := Lib.hid h
  have HF := Lib.hid hF
  have HJ := Lib.hid hJ
  obtain ⟨b1, b2, b3, b4, b5⟩ := h
  have hf0 : 0 ≤ F := by rw [← hF]; exact fst_nonneg b3
  have G := Lib.hid (idx_gap (a := a) (b := a + size) H.out (by omega))
  have hL := last_win (a := a) (size := size) (slide := slide)
  rw [hJ] at hL
  have hm0 := Int.emod_nonneg a (show slide ≠ 0 by omega)
  have hm1 := Int.emod_lt_of_pos a (show 0 < slide by omega)
  have hJF : F ≤ J := by
    have e1 := fst_eq (size := size) (a := a) b3
    have e2 := idx_mono (size := size) (slide := slide) (a := a) (b := a + size) b3 (by omega)
    have e3 : 0 ≤ J := by rw [← hJ]; unfold idx; have := Int.ediv_nonneg (a := a + size - size) (b := slide) (by omega) (by omega); omega
    omega
  clear hF hJ
  have HL := Lib.hid hL
  clear hL
  go_enter Tryd.func16, Tryd.ntmps16
  go_wp2_with fail
  rw [HL.out]
  go_loopw [7, 8] (fun out s wr => ∃ k : Nat, (k : Int) ≤ J - F ∧ s = .int .i64 (win slide (J - 1 - k)) ∧
      wr.ownsRow w.heap.size 3 1 out k (ints (wins slide (J - k) J)) ∧ Below w.heap.size w wr)
    (fun _ s _ => (intOf s + slide + 1).toNat)
  case atStart => exact ⟨0, by omega, by simp, by rw [show J - ((0:Nat):Int) = J by omega, wins_self]; exact World.ownsRow_nil _ _ _ _, Below.refl _ _⟩
  case round =>
    obtain ⟨k, hk, rfl, hown, hb⟩ := hrel
    have hle : (k : Int) ≤ 1000 := by have := G.out; rw [HF.out, HJ.out] at this; omega
    have hlow : -slide ≤ win slide (J - 1 - k) := by
      have h1 := win_mono (slide := slide) (i := -1) (j := J - 1 - k) (by omega) (by omega)
      have h2 := win_succ slide (-1)
      rw [show (-1 : Int) + 1 = 0 by omega, win_zero] at h2
      omega
    have hhigh : win slide (J - 1 - k) ≤ a := by
      have := win_mono (slide := slide) (i := J - 1 - k) (j := J - 1) (by omega) (by omega)
      have := HL.out; omega
    by_cases hlt : F ≤ J - 1 - k
    · have x0 : 0 ≤ win slide (J - 1 - k) := win_nonneg (by omega) (by omega)
      have x1 : a - size < win slide (J - 1 - k) := by
        have := win_le_iff (size := size) (b := a) (j := J - 1 - k) b3
        have := idx_le_fst (size := size) (a := a) b3
        rw [HF.out] at this; omega
      have S := Lib.hid (win_succ slide (J - 1 - (k + 1 : Nat)))
      have C := Lib.hid (wins_cons (slide := slide) (i := J - 1 - k) (j := J) (by omega))
      have d1 : decide (0 ≤ win slide (J - 1 - k)) = true := by simpa using x0
      have d2 : decide (a - size < win slide (J - 1 - k)) = true := by simpa using x1
      have K1 := Lib.hid (show (k : Int) + 1 ≤ J - F by omega)
      obtain ⟨A, c, rfl, hsee⟩ := Sees.of_own hown
      have hbn := hb.size
      have hnew : (wr.alloc (.cells #[.int .i64 (win slide (J - 1 - k))] 3)).ownsRow w.heap.size 3 1 (.slice (some ⟨wr.heap.size, 0, none⟩) 1 1) 1 (ints [win slide (J - 1 - k)]) :=
        ⟨rfl, Or.inr ⟨wr.heap.size, 1, _, rfl, hbn, heap_alloc_new wr _, Nat.le_refl _, by unfold maxLen; omega, rfl, rfl⟩⟩
      have hsee' := hsee.keep ((Below.refl wr.heap.size wr).alloc (Nat.le_refl _) (.cells #[.int .i64 (win slide (J - 1 - k))] 3))
      have hb' : Below w.heap.size w (wr.alloc (.cells #[.int .i64 (win slide (J - 1 - k))] 3)) := hb.alloc hbn _
      have N1 := Lib.hid hnew
      have N2 := Lib.hid hsee'
      have N3 := Lib.hid hb'
      clear hnew hsee hsee' hb' hown hlt hk
      have hone : Hid (∀ l : List Int, ∀ u ∈ ints l, u.oneCell' = true) := fun l u hu => by
        unfold ints at hu
        obtain ⟨x, _, rfl⟩ := List.mem_map.1 hu
        rfl
      go_wp2_with (first
        | (at_builtin; refine wpList_append_src intSlice rfl _ _ rfl rfl rfl N1.out N2.out N3.out (Nat.le_refl _) (hone.out _) (by omega) ?_; intro v1 w1 hown1 hb1 _))
      go_roundw
      case rel => exact ⟨k + 1, by have := K1.out; omega, by
          have := S.out
          rw [show J - 1 - ((k + 1 : Nat) : Int) + 1 = J - 1 - k by omega] at this
          congr 1; omega, by
          rw [show J - ((k + 1 : Nat) : Int) = J - 1 - k by omega, C.out, show J - 1 - (k : Int) + 1 = J - k by omega, show k + 1 = 1 + k by omega]
          exact hown1, hb1⟩
      case measure => simp [intOf]; omega
    · have e : J - (k : Int) = F := by omega
      have E := Lib.hid e
      have hkl : (wins slide F J).length = k := by rw [wins_length]; omega
      have KL := Lib.hid hkl
      have x : win slide (J - 1 - k) < 0 ∨ win slide (J - 1 - k) ≤ a - size := by
        by_cases hF1 : F = 0
        · left
          have h2 := win_succ slide (J - 1 - k)
          rw [show J - 1 - (k : Int) + 1 = 0 by omega, win_zero] at h2
          omega
        · right
          have := (win_le_iff (size := size) (b := a) (j := J - 1 - k) b3).2 (by have := fst_eq (size := size) (a := a) b3; rw [HF.out] at this; omega)
          omega
      clear e hkl hlt hk
      by_cases x0 : 0 ≤ win slide (J - 1 - k)
      · have x1 : win slide (J - 1 - k) ≤ a - size := by omega
        have d1 : decide (0 ≤ win slide (J - 1 - k)) = true := by simpa using x0
        have d2 : decide (a - size < win slide (J - 1 - k)) = false := by simp; omega
        go_wp2
        go_ret
        rw [KL.out, ← E.out]
        exact ⟨_, rfl, hown, hb⟩
      · have d1 : decide (0 ≤ win slide (J - 1 - k)) = false := by simpa using x0
        go_wp2
        go_ret
        rw [KL.out, ← E.out]
        exact ⟨_, rfl, hown, hb⟩

def startIdx (a size slide : Int) : Int := if size < a then (a - size) / slide else 0
theorem startIdx_fst {a size slide : Int} (h : winOk size slide) : startIdx a size slide ≤ fst size slide a ∧ fst size slide a ≤ startIdx a size slide + 1 ∧ 0 ≤ startIdx a size slide := by
  unfold startIdx fst idx
  have h3 := h.2.2.1
  by_cases h1 : size < a
  · rw [if_pos h1, if_neg (by omega)]
    have := Int.ediv_nonneg (a := a - size) (b := slide) (by omega) (by omega)
    omega
  · rw [if_neg h1]
    by_cases h2 : a < size
    · rw [if_pos h2]; omega
    · rw [if_neg h2, show a - size = 0 by omega, Int.zero_ediv]; omega

set_option maxHeartbeats 2000000 in
/-- The reference's Done, from the loop's head on: whatever the first. -/
theorem rdone_F (a b size slide F J K : Int) (hF : fst size slide a = F) (hJ : idx size slide b = J) (hK : startIdx a size slide = K) (w : World) (h : doneOk a b size slide) :
    Calls Tryd.prog 18 #[.int .i64 a, .int .i64 b, .int .i64 size, .int .i64 slide] w fun e w' =>
      (J - F ≤ 300 ∧ ∃ v, e = .returned (.tuple #[v, .bool true]) ∧ w'.ownsRow w.heap.size 3 1 v (wins slide F J).length (ints (wins slide F J)) ∧ Below w.heap.size w w') ∨
      (300 < J - F ∧ e = .returned (.tuple #[.slice none 0 0, .bool false]) ∧ Below w.heap.size w w') := by
  obtain ⟨h, a1, a2, a3, a4⟩ := h
  have H := Lib.hid h
  have HF := Lib.hid hF
  have HJ := Lib.hid hJ
  have hKF := startIdx_fst (a := a) h
  rw [hF, hK] at hKF
  obtain ⟨k1, k2, k3⟩ := hKF
  obtain ⟨b1, b2, b3, b4, b5⟩ := h
  have hf0 : 0 ≤ F := by omega
  have hone : Hid (∀ l : List Int, ∀ u ∈ ints l, u.oneCell' = true) := fun l u hu => by
    unfold ints at hu
    obtain ⟨x, _, rfl⟩ := List.mem_map.1 hu
    rfl
  have hKw := Lib.hid (show (if size < a then (a - size) / slide * slide else 0) = win slide K by
    rw [← hK]; unfold startIdx; split <;> simp [win])
  have hKa : win slide K ≤ max 0 (a - size) := by
    rw [← hKw.out]
    split
    · have := Int.ediv_mul_le (a - size) (b := slide) (by omega); omega
    · omega
  have HKa := Lib.hid hKa
  have HKF := Lib.hid (And.intro k1 (And.intro k2 k3))
  clear hF hJ hK hKa k1 k2
  have e0 : (if size < a then (a - size) / slide * slide else 0) = if size < a then (a - size) / slide * slide else 0 := rfl
  clear e0
  by_cases hsa : size < a
  case' pos =>
    have hw := Lib.hid (show (a - size) / slide * slide = win slide K by have := hKw.out; rwa [if_pos hsa] at this)
    have hd0 := Int.ediv_nonneg (a := a - size) (b := slide) (by omega) (by omega)
    have hd1 := Int.ediv_le_self slide (show 0 ≤ a - size by omega)
    have hd2 := Int.ediv_mul_le (a - size) (b := slide) (by omega)
    have hd3 : 0 ≤ (a - size) / slide * slide := Int.mul_nonneg hd0 (by omega)
  case' neg =>
    have hw := Lib.hid (show (0 : Int) = win slide K by have := hKw.out; rwa [if_neg hsa] at this)
  all_goals
    go_enter Tryd.func18, Tryd.ntmps18
    go_wp2_with fail
    go_loopw [10, 12] (fun out s wr => ∃ (j : Int) (n : Nat), K ≤ j ∧ (j = K ∨ j ≤ J) ∧ s = .int .i64 (win slide j) ∧ (n : Int) = max 0 (j - F) ∧ n ≤ 300 ∧
        wr.ownsRow w.heap.size 3 1 out n (ints (wins slide F j)) ∧ Below w.heap.size w wr)
      (fun _ s _ => (b + 1 - intOf s).toNat)
    case atStart => exact ⟨K, 0, by omega, Or.inl rfl, by rw [hw.out], by have := HKF.out; omega, by omega, by rw [wins_empty (by have := HKF.out; omega)]; exact World.ownsRow_nil _ _ _ _, Below.refl _ _⟩
    case round =>
    obtain ⟨j, n, hj1, hj2, rfl, hn1, hn2, hown, hb⟩ := hrel
    obtain ⟨A, c, rfl⟩ := own_shape hown
    have x0 : 0 ≤ win slide j := win_nonneg (by omega) (by omega)
    have x1 : win slide j ≤ 1002000 := by
      rcases hj2 with rfl | hj2
      · have := HKa.out; omega
      · by_cases hjk : j = K
        · rw [hjk]; have := HKa.out; omega
        · have h1 := (win_le_iff (size := size) (b := b) (j := j - 1) b3).2 (by rw [HJ.out]; omega)
          have h2 := win_succ slide (j - 1)
          rw [show j - 1 + 1 = j by omega] at h2
          omega
    by_cases hlt : j < J
    · have x2 : win slide j + size ≤ b := (win_le_iff (size := size) (b := b) (j := j) b3).2 (by rw [HJ.out]; exact hlt)
      have S := Lib.hid (win_succ slide j)
      have HJ2 := Lib.hid hj2
      have HLT := Lib.hid hlt
      by_cases hjF : F ≤ j
      · have x3 : a < win slide j + size := by
          have := win_le_iff (size := size) (b := a) (j := j) b3
          have := idx_le_fst (size := size) (a := a) b3
          rw [HF.out] at this; omega
        obtain ⟨m, rfl⟩ : ∃ m : Nat, j = F + m := ⟨(j - F).toNat, by omega⟩
        have hnm : n = m := by omega
        subst hnm
        clear hj2 hlt hn1
        by_cases hm : n < 300
        · go_wp2_with (first
            | (at_builtin; refine wpList_append_one intSlice rfl _ _ rfl rfl rfl hown hb (Nat.le_refl _) rfl (by intro u hu; simp at hu; subst hu; rfl) (by omega) ?_; intro v1 w1 hown1 hb1' _))
          go_roundw
          case rel => exact ⟨F + n + 1, n + 1, by omega, Or.inr (by have := HLT.out; omega), by rw [S.out], by omega, by omega, by rw [wins_snoc]; simpa [ints] using hown1, hb1'⟩
          case measure => simp [intOf]; omega
        · have e3 : ((n : Int) == 300) = true := by simp; omega
          have hm' := Lib.hid hm
          clear hm
          go_wp2
          go_ret2
          exact Or.inr ⟨by have := HLT.out; have := hm'.out; omega, rfl, hb⟩
      · have x3 : win slide j + size ≤ a := by
          have := (win_le_iff (size := size) (b := a) (j := j) b3).2 (by
            have h1 := fst_eq (size := size) (a := a) b3
            rw [HF.out] at h1; omega)
          exact this
        have HjF := Lib.hid hjF
        have hn0 := Lib.hid hn1
        clear hj2 hlt hn1 hjF
        go_wp2_with fail
        go_roundw
        case rel => exact ⟨j + 1, n, by omega, Or.inr (by have := HLT.out; omega), by rw [S.out], by have := hn0.out; have := HjF.out; omega, by omega, by
            have h1 := HjF.out
            rw [wins_empty (by omega)] at hown ⊢
            exact hown, hb⟩
        case measure => simp [intOf]; omega
    · have x2 : b < win slide j + size := by
        have := win_le_iff (size := size) (b := b) (j := j) b3
        rw [HJ.out] at this; omega
      have E : Hid (wins slide F J = wins slide F j ∧ (wins slide F J).length = n) := by
        rcases hj2 with rfl | hj2
        · have := HKF.out
          rw [wins_empty (show J ≤ F by omega), wins_empty (show j ≤ F by omega)]
          exact ⟨rfl, by simp; omega⟩
        · rw [show J = j by omega]
          exact ⟨rfl, by rw [wins_length]; omega⟩
      have HN := Lib.hid (And.intro hn1 (And.intro hn2 (And.intro hlt hj2)))
      clear hn1 hlt hj2
      go_wp2
      go_ret2
      rw [E.out.2, E.out.1]
      exact Or.inl ⟨by have := HN.out; omega, _, rfl, hown, hb⟩
end Go.Proofs.YthnemdjihddmnaaDoor
