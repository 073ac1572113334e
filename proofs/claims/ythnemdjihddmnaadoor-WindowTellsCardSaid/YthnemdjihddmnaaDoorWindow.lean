/- THE PACKAGE window, walked: Check, Time, from, Starts, Done. -/
import Derived.Test.YthnemdjihddmnaaDoorWords
import Derived.Test.YthnemdjihddmnaaDoorWin
namespace Go.Proofs.YthnemdjihddmnaaDoor
open Go.ChangeShapes Go.WideShapes Go.ChangeAt Go.RowKit
open Win

def winOk (size slide : Int) : Prop := 1 ≤ size ∧ size ≤ 1000 ∧ 1 ≤ slide ∧ slide ≤ size ∧ size ≤ 10 * slide
def ints (l : List Int) : List Value := l.map (Value.int .i64)

theorem intSlice : SliceTy Tryd.prog 22 3 (.int .i64 0) 1 8 := SliceTy.of Tryd.underlying22 (by kernel_rfl) rfl (by decide) (by decide)

theorem wcheck_ok (size slide : Int) (w : World) (h : winOk size slide) :
    Calls Tryd.prog 14 #[.int .i64 size, .int .i64 slide] w fun e w' => e = .returned .nilIface ∧ w = w' := by
  obtain ⟨h1, h2, h3, h4, h5⟩ := h
  go_enter Tryd.func14, Tryd.ntmps14
  go_wp2
  go_ret
  exact ⟨rfl, rfl⟩

theorem wcheck_bad (size slide : Int) (w : World) (h : ¬ winOk size slide) :
    Calls Tryd.prog 14 #[.int .i64 size, .int .i64 slide] w fun e w' => e = .returned (.iface 51 (.int .i64 1)) ∧ w = w' := by
  unfold winOk at h
  by_cases h1 : 1 ≤ size
  · by_cases h2 : size ≤ 1000
    · by_cases h3 : 1 ≤ slide
      · by_cases h4 : slide ≤ size
        · have h5 : ¬ size ≤ 10 * slide := fun h5 => h ⟨h1, h2, h3, h4, h5⟩
          clear h
          go_enter Tryd.func14, Tryd.ntmps14
          go_wp2
          go_ret
          exact ⟨rfl, rfl⟩
        · clear h
          go_enter Tryd.func14, Tryd.ntmps14
          go_wp2
          go_ret
          exact ⟨rfl, rfl⟩
      · clear h
        go_enter Tryd.func14, Tryd.ntmps14
        go_wp2
        go_ret
        exact ⟨rfl, rfl⟩
    · clear h
      go_enter Tryd.func14, Tryd.ntmps14
      go_wp2
      go_ret
      exact ⟨rfl, rfl⟩
  · clear h
    go_enter Tryd.func14, Tryd.ntmps14
    go_wp2
    go_ret
    exact ⟨rfl, rfl⟩

theorem wtime_any (a : Int) (w : World) :
    Calls Tryd.prog 35 #[.int .i64 a] w fun e w' => e = .returned (.bool (decide (0 ≤ a ∧ a ≤ 1000000))) ∧ w = w' := by
  by_cases h0 : 0 ≤ a
  · by_cases h1 : a ≤ 1000000
    · go_enter Tryd.func35, Tryd.ntmps35
      go_wp2
      go_ret
      exact ⟨by simp [h0, h1], rfl⟩
    · go_enter Tryd.func35, Tryd.ntmps35
      go_wp2
      go_ret
      exact ⟨by simp; omega, rfl⟩
  · go_enter Tryd.func35, Tryd.ntmps35
    go_wp2
    go_ret
    exact ⟨by simp; omega, rfl⟩
theorem wtime_ok (a : Int) (w : World) (h0 : 0 ≤ a) (h : a ≤ 1000000) :
    Calls Tryd.prog 35 #[.int .i64 a] w fun e w' => e = .returned (.bool true) ∧ w = w' :=
  (wtime_any a w).mono fun e w' ⟨he, hw⟩ => ⟨by rw [he]; simp [h0, h], hw⟩
theorem wtime_bad (a : Int) (w : World) (h : ¬ (0 ≤ a ∧ a ≤ 1000000)) :
    Calls Tryd.prog 35 #[.int .i64 a] w fun e w' => e = .returned (.bool false) ∧ w = w' :=
  (wtime_any a w).mono fun e w' ⟨he, hw⟩ => ⟨by rw [he]; simp only [h, decide_false], hw⟩

theorem wfrom_any (a size slide : Int) (w : World) (h : winOk size slide) (ha : a ≤ 1000000) :
    Calls Tryd.prog 36 #[.int .i64 a, .int .i64 size, .int .i64 slide] w fun e w' => e = .returned (.int .i64 (win slide (fst size slide a))) ∧ w = w' := by
  obtain ⟨h1, h2, h3, h4, h5⟩ := h
  by_cases hlt : a < size
  · have e : win slide (fst size slide a) = 0 := by unfold fst; rw [if_pos hlt, win_zero]
    rw [e]
    clear e
    go_enter Tryd.func36, Tryd.ntmps36
    go_wp2
    go_ret
    exact ⟨rfl, rfl⟩
  · have hd : (a - size) / slide ≤ 1000000 := by
      have := Int.ediv_le_self slide (show 0 ≤ a - size by omega); omega
    have hd0 : 0 ≤ (a - size) / slide := Int.ediv_nonneg (by omega) (by omega)
    have hm : ((a - size) / slide + 1) * slide ≤ 1000001 * 1000 := Int.mul_le_mul (by omega) (by omega) (by omega) (by omega)
    have hm0 : 0 ≤ ((a - size) / slide + 1) * slide := Int.mul_nonneg (by omega) (by omega)
    have e : win slide (fst size slide a) = ((a - size) / slide + 1) * slide := by unfold fst; rw [if_neg hlt]; rfl
    rw [e]
    clear e
    go_enter Tryd.func36, Tryd.ntmps36
    go_wp2
    go_ret
    exact ⟨rfl, rfl⟩

/-- The windows that end above a and at b or below: how far their beginnings go, and how many they are. -/
theorem win_hi {size slide b F : Int} {k : Nat} (h : winOk size slide) (hk : F + k < idx size slide b) : win slide (F + k) + size ≤ b := (win_le_iff h.2.2.1).2 hk
theorem win_out {size slide b F : Int} {k : Nat} (h : winOk size slide) (hk : ¬ F + k < idx size slide b) : b < win slide (F + k) + size := by
  have := (win_le_iff (size := size) (b := b) (j := F + k) h.2.2.1); omega
theorem idx_gap {size slide a b : Int} (h : winOk size slide) (hab : b ≤ a + 1000 * slide) : idx size slide b - fst size slide a ≤ 1000 := by
  have h1 := idx_le_fst (size := size) (a := a) h.2.2.1
  have h2 : idx size slide b ≤ idx size slide a + 1000 := by
    unfold idx
    have : (b - size) / slide ≤ (a - size + slide * 1000) / slide := Int.ediv_le_ediv (by have := h.2.2.1; omega) (by rw [Int.mul_comm]; omega)
    rw [Int.add_mul_ediv_left _ _ (by have := h.2.2.1; omega)] at this
    omega
  omega

theorem win_fst {size slide a : Int} (h : winOk size slide) : win slide (fst size slide a) ≤ max 0 (a - size) + slide := by
  unfold fst
  have h3 := h.2.2.1
  split
  · rw [win_zero]; omega
  · unfold win idx
    have := Int.ediv_mul_le (a - size) (b := slide) (by omega)
    rw [Int.add_mul]; omega
theorem win_bound {size slide a b F : Int} {k : Nat} (h : winOk size slide) (hF : fst size slide a = F) (hk : (k : Int) ≤ max 0 (idx size slide b - F)) : win slide (F + k) ≤ max 0 (max (a - size) (b - size)) + slide := by
  rcases Nat.eq_zero_or_pos k with rfl | hp
  · have := win_fst (a := a) h
    rw [show F + ((0 : Nat) : Int) = F by omega, ← hF]; omega
  · have h1 := win_hi (b := b) (F := F) (k := k - 1) h (by omega)
    have h2 := win_succ slide (F + ((k - 1 : Nat) : Int))
    rw [show F + ((k - 1 : Nat) : Int) + 1 = F + k by omega] at h2
    omega
theorem wfrom_F (a size slide F : Int) (hF : fst size slide a = F) (w : World) (h : winOk size slide) (ha : a ≤ 1000000) :
    Calls Tryd.prog 36 #[.int .i64 a, .int .i64 size, .int .i64 slide] w fun e w' => e = .returned (.int .i64 (win slide F)) ∧ w = w' := by
  subst hF; exact wfrom_any a size slide w h ha
theorem wins_at_end {slide F j : Int} {k : Nat} (hk : (k : Int) ≤ max 0 (j - F)) (hn : ¬ F + k < j) : wins slide F j = wins slide F (F + k) ∧ (wins slide F j).length = k := by
  have ek : (j - F).toNat = k := by omega
  refine ⟨?_, by rw [wins_length, ek]⟩
  by_cases hp : 0 ≤ j - F
  · rw [show j = F + k by omega]
  · rw [wins_empty (by omega), wins_empty (by omega)]

set_option maxHeartbeats 400000 in
theorem wstarts_F (a size slide F : Int) (hF : fst size slide a = F) (w : World) (h : winOk size slide) (h0 : 0 ≤ a) (ha : a ≤ 1000000) :
    Calls Tryd.prog 11 #[.int .i64 a, .int .i64 size, .int .i64 slide] w fun e w' => ∃ v, e = .returned (.tuple #[v, .nilIface]) ∧
      w'.ownsRow w.heap.size 3 1 v (wins slide F (idx size slide (a + size))).length (ints (wins slide F (idx size slide (a + size)))) ∧ Below w.heap.size w w' := by
  have H := Lib.hid h
  have HF := Lib.hid hF
  obtain ⟨b1, b2, b3, b4, b5⟩ := h
  have hf0 : 0 ≤ F := by rw [← hF]; exact fst_nonneg b3
  have G := Lib.hid (idx_gap (a := a) (b := a + size) H.out (by omega))
  clear hF
  go_enter Tryd.func11, Tryd.ntmps11
  go_wp2_with (first
    | (go_at_call 14; refine (wcheck_ok _ _ _ H.out).mono ?_; rintro e w' ⟨rfl, rfl⟩)
    | (go_at_call 35; refine (wtime_ok _ _ h0 ha).mono ?_; rintro e w' ⟨rfl, rfl⟩)
    | (go_at_call 36; refine (wfrom_F _ _ _ F HF.out _ H.out ha).mono ?_; rintro e w' ⟨rfl, rfl⟩))
  go_loopw [8, 9] (fun out s wr => ∃ k : Nat, (k : Int) ≤ max 0 (idx size slide (a + size) - F) ∧ s = .int .i64 (win slide (F + k)) ∧
      wr.ownsRow w.heap.size 3 1 out k (ints (wins slide F (F + k))) ∧ Below w.heap.size w wr)
    (fun _ s _ => (a + 1 - intOf s).toNat)
  case atStart => exact ⟨0, by omega, by simp, by rw [show F + ((0:Nat):Int) = F by omega, wins_self]; exact World.ownsRow_nil _ _ _ _, Below.refl _ _⟩
  case round =>
    obtain ⟨k, hk, rfl, hown, hb⟩ := hrel
    have hle : (k : Int) ≤ 1000 := by have := G.out; rw [HF.out] at this; omega
    have hb2 : 0 ≤ win slide (F + k) := win_nonneg (by omega) (by omega)
    have hb3 := win_bound H.out HF.out hk
    by_cases hlt : F + k < idx size slide (a + size)
    · have hb1 : win slide (F + k) ≤ a := by have := win_hi H.out hlt; omega
      have S := Lib.hid (win_succ slide (F + k))
      have hlt' := Lib.hid hlt
      clear hlt hb3 hk
      go_wp2_with (first
        | (at_builtin; refine wpList_append_one intSlice rfl _ _ rfl rfl rfl hown hb (Nat.le_refl _) rfl (by intro u hu; simp at hu; subst hu; rfl) (by omega) ?_; intro v1 w1 hown1 hb1' _))
      go_roundw
      case rel => exact ⟨k + 1, by have := hlt'.out; omega, by rw [show F + ((k + 1 : Nat) : Int) = F + k + 1 by omega, S.out], by rw [show F + ((k + 1 : Nat) : Int) = F + k + 1 by omega, wins_snoc]; simpa [ints] using hown1, hb1'⟩
      case measure => simp [intOf]; omega
    · have hb1 : a < win slide (F + k) := by have := win_out H.out hlt; omega
      have E := Lib.hid (wins_at_end (slide := slide) hk hlt)
      clear hlt hk hb3
      go_wp2
      go_ret2
      rw [E.out.2, E.out.1]
      exact ⟨_, rfl, hown, hb⟩

/-- Starts of a time that is one, of a window that may be. -/
theorem wstarts_ok (a size slide : Int) (w : World) (h : winOk size slide) (h0 : 0 ≤ a) (ha : a ≤ 1000000) :
    Calls Tryd.prog 11 #[.int .i64 a, .int .i64 size, .int .i64 slide] w fun e w' => ∃ v, e = .returned (.tuple #[v, .nilIface]) ∧
      w'.ownsRow w.heap.size 3 1 v (wins slide (fst size slide a) (idx size slide (a + size))).length (ints (wins slide (fst size slide a) (idx size slide (a + size)))) ∧ Below w.heap.size w w' :=
  wstarts_F a size slide _ rfl w h h0 ha

/-- .. of what may not be. -/
theorem wstarts_bad (a size slide : Int) (w : World) (h : ¬ (winOk size slide ∧ 0 ≤ a ∧ a ≤ 1000000)) :
    Calls Tryd.prog 11 #[.int .i64 a, .int .i64 size, .int .i64 slide] w fun e w' => e = .returned (.tuple #[.slice none 0 0, .iface 51 (.int .i64 1)]) ∧ w = w' := by
  by_cases hw : winOk size slide
  · have ht : ¬ (0 ≤ a ∧ a ≤ 1000000) := fun ht => h ⟨hw, ht⟩
    have H := Lib.hid hw
    have T := Lib.hid ht
    clear h hw ht
    go_enter Tryd.func11, Tryd.ntmps11
    go_wp2_with (first
      | (go_at_call 14; refine (wcheck_ok _ _ _ H.out).mono ?_; rintro e w' ⟨rfl, rfl⟩)
      | (go_at_call 35; refine (wtime_bad _ _ T.out).mono ?_; rintro e w' ⟨rfl, rfl⟩))
    go_ret2
    exact ⟨rfl, rfl⟩
  · have H := Lib.hid hw
    clear h hw
    go_enter Tryd.func11, Tryd.ntmps11
    go_wp2_with (first
      | (go_at_call 14; refine (wcheck_bad _ _ _ H.out).mono ?_; rintro e w' ⟨rfl, rfl⟩))
    go_ret2
    exact ⟨rfl, rfl⟩

def doneOk (a b size slide : Int) : Prop := winOk size slide ∧ -1 ≤ a ∧ a ≤ 1000000 ∧ a ≤ b ∧ b ≤ 1001000

set_option maxHeartbeats 400000 in
theorem wdone_F (a b size slide F : Int) (hF : fst size slide a = F) (w : World) (h : doneOk a b size slide) :
    Calls Tryd.prog 19 #[.int .i64 a, .int .i64 b, .int .i64 size, .int .i64 slide] w fun e w' =>
      (idx size slide b - F ≤ 300 ∧ ∃ v, e = .returned (.tuple #[v, .nilIface]) ∧
        w'.ownsRow w.heap.size 3 1 v (wins slide F (idx size slide b)).length (ints (wins slide F (idx size slide b))) ∧ Below w.heap.size w w') ∨
      (300 < idx size slide b - F ∧ e = .returned (.tuple #[.slice none 0 0, .iface 51 (.int .i64 4)]) ∧ Below w.heap.size w w') := by
  obtain ⟨h, a1, a2, a3, a4⟩ := h
  have H := Lib.hid h
  have HF := Lib.hid hF
  obtain ⟨b1, b2, b3, b4, b5⟩ := h
  have hf0 : 0 ≤ F := by rw [← hF]; exact fst_nonneg b3
  clear hF
  have d1 : decide (a < -1) = false := by simp; omega
  have d2 : decide (1000000 < a) = false := by simp; omega
  have d3 : decide (b < a) = false := by simp; omega
  have d4 : decide (1001000 < b) = false := by simp; omega
  go_enter Tryd.func19, Tryd.ntmps19
  go_wp2_with (first
    | (go_at_call 14; refine (wcheck_ok _ _ _ H.out).mono ?_; rintro e w' ⟨rfl, rfl⟩)
    | (go_at_call 36; refine (wfrom_F _ _ _ F HF.out _ H.out (by omega)).mono ?_; rintro e w' ⟨rfl, rfl⟩))
  clear d1 d2 d3 d4
  go_loopw [10, 11] (fun out s wr => ∃ k : Nat, (k : Int) ≤ max 0 (idx size slide b - F) ∧ k ≤ 300 ∧ s = .int .i64 (win slide (F + k)) ∧
      wr.ownsRow w.heap.size 3 1 out k (ints (wins slide F (F + k))) ∧ Below w.heap.size w wr)
    (fun _ s _ => (b + 1 - intOf s).toNat)
  case atStart => exact ⟨0, by omega, by omega, by simp, by rw [show F + ((0:Nat):Int) = F by omega, wins_self]; exact World.ownsRow_nil _ _ _ _, Below.refl _ _⟩
  case round =>
    obtain ⟨k, hk, hle, rfl, hown, hb⟩ := hrel
    obtain ⟨A, c, rfl⟩ := own_shape hown
    have hb2 : 0 ≤ win slide (F + k) := win_nonneg (by omega) (by omega)
    have hb3 : win slide (F + k) ≤ 1002000 := by have := win_bound H.out HF.out hk; omega
    by_cases hlt : F + k < idx size slide b
    · have hb1 : win slide (F + k) + size ≤ b := win_hi H.out hlt
      have hlt' := Lib.hid hlt
      by_cases hm : k < 300
      · have S := Lib.hid (win_succ slide (F + k))
        clear hlt hb3 hk
        go_wp2_with (first
          | (at_builtin; refine wpList_append_one intSlice rfl _ _ rfl rfl rfl hown hb (Nat.le_refl _) rfl (by intro u hu; simp at hu; subst hu; rfl) (by omega) ?_; intro v1 w1 hown1 hb1' _))
        go_roundw
        case rel => exact ⟨k + 1, by have := hlt'.out; omega, by omega, by rw [show F + ((k + 1 : Nat) : Int) = F + k + 1 by omega, S.out], by rw [show F + ((k + 1 : Nat) : Int) = F + k + 1 by omega, wins_snoc]; simpa [ints] using hown1, hb1'⟩
        case measure => simp [intOf]; omega
      · have e3 : ((k : Int) == 300) = true := by simp; omega
        have hm' := Lib.hid hm
        clear hlt hb3 hk hm
        go_wp2
        go_ret2
        exact Or.inr ⟨by have := hlt'.out; have := hm'.out; omega, rfl, hb⟩
    · have hb1 : b < win slide (F + k) + size := win_out H.out hlt
      have E := Lib.hid (wins_at_end (slide := slide) hk hlt)
      have hk' := Lib.hid hk
      have hn' := Lib.hid hlt
      clear hlt hk
      go_wp2
      go_ret2
      rw [E.out.2, E.out.1]
      exact Or.inl ⟨by have := hk'.out; have := hn'.out; omega, _, rfl, hown, hb⟩

theorem wdone_ok (a b size slide : Int) (w : World) (h : doneOk a b size slide) :
    Calls Tryd.prog 19 #[.int .i64 a, .int .i64 b, .int .i64 size, .int .i64 slide] w fun e w' =>
      (idx size slide b - fst size slide a ≤ 300 ∧ ∃ v, e = .returned (.tuple #[v, .nilIface]) ∧
        w'.ownsRow w.heap.size 3 1 v (wins slide (fst size slide a) (idx size slide b)).length (ints (wins slide (fst size slide a) (idx size slide b))) ∧ Below w.heap.size w w') ∨
      (300 < idx size slide b - fst size slide a ∧ e = .returned (.tuple #[.slice none 0 0, .iface 51 (.int .i64 4)]) ∧ Below w.heap.size w w') :=
  wdone_F a b size slide _ rfl w h

theorem wdone_bad (a b size slide : Int) (w : World) (h : ¬ doneOk a b size slide) :
    Calls Tryd.prog 19 #[.int .i64 a, .int .i64 b, .int .i64 size, .int .i64 slide] w fun e w' =>
      e = .returned (.tuple #[.slice none 0 0, .iface 51 (.int .i64 1)]) ∧ w = w' := by
  by_cases hw : winOk size slide
  · have H := Lib.hid hw
    unfold doneOk at h
    have h' : ¬ (-1 ≤ a ∧ a ≤ 1000000 ∧ a ≤ b ∧ b ≤ 1001000) := fun x => h ⟨hw, x⟩
    clear h hw
    by_cases h1 : -1 ≤ a
    · have d1 : decide (a < -1) = false := by simp; omega
      by_cases h2 : a ≤ 1000000
      · have d2 : decide (1000000 < a) = false := by simp; omega
        by_cases h3 : a ≤ b
        · have d3 : decide (b < a) = false := by simp; omega
          have h4 : ¬ b ≤ 1001000 := fun x => h' ⟨h1, h2, h3, x⟩
          have d4 : decide (1001000 < b) = true := by simp; omega
          clear h'
          go_enter Tryd.func19, Tryd.ntmps19
          go_wp2_with (first | (go_at_call 14; refine (wcheck_ok _ _ _ H.out).mono ?_; rintro e w' ⟨rfl, rfl⟩))
          go_ret2
          exact ⟨rfl, rfl⟩
        · have d3 : decide (b < a) = true := by simp; omega
          clear h'
          go_enter Tryd.func19, Tryd.ntmps19
          go_wp2_with (first | (go_at_call 14; refine (wcheck_ok _ _ _ H.out).mono ?_; rintro e w' ⟨rfl, rfl⟩))
          go_ret2
          exact ⟨rfl, rfl⟩
      · have d2 : decide (1000000 < a) = true := by simp; omega
        clear h'
        go_enter Tryd.func19, Tryd.ntmps19
        go_wp2_with (first | (go_at_call 14; refine (wcheck_ok _ _ _ H.out).mono ?_; rintro e w' ⟨rfl, rfl⟩))
        go_ret2
        exact ⟨rfl, rfl⟩
    · have d1 : decide (a < -1) = true := by simp; omega
      clear h'
      go_enter Tryd.func19, Tryd.ntmps19
      go_wp2_with (first | (go_at_call 14; refine (wcheck_ok _ _ _ H.out).mono ?_; rintro e w' ⟨rfl, rfl⟩))
      go_ret2
      exact ⟨rfl, rfl⟩
  · have H := Lib.hid hw
    clear h hw
    go_enter Tryd.func19, Tryd.ntmps19
    go_wp2_with (first | (go_at_call 14; refine (wcheck_bad _ _ _ H.out).mono ?_; rintro e w' ⟨rfl, rfl⟩))
    go_ret2
    exact ⟨rfl, rfl⟩

theorem ints_get {slide F J : Int} {k : Nat} {u : Value} (h : (ints (wins slide F J))[k]? = some u) : u = .int .i64 (win slide (F + k)) := by
  unfold ints at h
  rw [List.getElem?_map] at h
  by_cases hk : (k : Int) < J - F
  · rw [wins_get hk] at h; simpa using h.symm
  · rw [List.getElem?_eq_none (by rw [wins_length]; omega)] at h; cases h
theorem ints_get' {slide F J : Int} {k n : Nat} (hn : (n : Int) = max 0 (J - F)) (hk : k < n) : (ints (wins slide F J))[k]? = some (.int .i64 (win slide (F + k))) := by
  unfold ints
  rw [List.getElem?_map, wins_get (by omega)]; rfl

/-- What Done tells: the windows, seen; or that they are too many, and nothing. -/
theorem wdone_see (a b size slide F J : Int) (hF : fst size slide a = F) (hJ : idx size slide b = J) (w : World) (h : doneOk a b size slide) :
    Calls Tryd.prog 19 #[.int .i64 a, .int .i64 b, .int .i64 size, .int .i64 slide] w fun e w' => ∃ (A : Option Addr) (n c : Nat) (ev : Value),
      e = .returned (.tuple #[.slice A n c, ev]) ∧ Below w.heap.size w w' ∧
      ((ev = .nilIface ∧ J - F ≤ 300 ∧ (n : Int) = max 0 (J - F) ∧ Sees w' A n c 1 (ints (wins slide F J))) ∨ (ev = .iface 51 (.int .i64 4) ∧ 300 < J - F ∧ A = none ∧ n = 0 ∧ c = 0)) := by
  refine (wdone_F a b size slide F hF w h).mono ?_
  rintro e w' (⟨h1, v, rfl, h2, h3⟩ | ⟨h1, rfl, h3⟩)
  · rw [hJ] at h1 h2
    obtain ⟨A, c, rfl, hs⟩ := Sees.of_own h2
    exact ⟨A, _, c, _, rfl, h3, Or.inl ⟨rfl, h1, by rw [wins_length]; omega, hs⟩⟩
  · rw [hJ] at h1
    exact ⟨none, 0, 0, _, rfl, h3, Or.inr ⟨rfl, h1, rfl, rfl, rfl⟩⟩

/-- Done of whatever numbers: nothing is wrong, and the windows are seen; or something is, and there are none. -/
theorem wdone_all (a b size slide : Int) (w : World) :
    Calls Tryd.prog 19 #[.int .i64 a, .int .i64 b, .int .i64 size, .int .i64 slide] w fun e w' => ∃ (A : Option Addr) (n c : Nat) (ev : Value),
      e = .returned (.tuple #[.slice A n c, ev]) ∧ Below w.heap.size w w' ∧
      ((ev = .nilIface ∧ doneOk a b size slide ∧ idx size slide b - fst size slide a ≤ 300 ∧ (n : Int) = max 0 (idx size slide b - fst size slide a) ∧ Sees w' A n c 1 (ints (wins slide (fst size slide a) (idx size slide b)))) ∨
        ((∃ x, ev = .iface 51 (.int .i64 x)) ∧ A = none ∧ n = 0 ∧ c = 0)) := by
  by_cases h : doneOk a b size slide
  · refine (wdone_see a b size slide _ _ rfl rfl w h).mono ?_
    rintro e w' ⟨A, n, c, ev, rfl, hb, hv⟩
    refine ⟨A, n, c, ev, rfl, hb, ?_⟩
    rcases hv with ⟨rfl, h1, h2, h3⟩ | ⟨rfl, h1, h2⟩
    · exact Or.inl ⟨rfl, h, h1, h2, h3⟩
    · exact Or.inr ⟨⟨4, rfl⟩, h2⟩
  · refine (wdone_bad a b size slide w h).mono ?_
    rintro e w' ⟨rfl, rfl⟩
    exact ⟨none, 0, 0, _, rfl, Below.refl _ _, Or.inr ⟨⟨1, rfl⟩, rfl, rfl, rfl⟩⟩
end Go.Proofs.YthnemdjihddmnaaDoor
