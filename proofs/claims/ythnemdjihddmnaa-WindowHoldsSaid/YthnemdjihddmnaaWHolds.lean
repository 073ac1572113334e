/- Of the law WindowHolds: the statement Rows.WindowHoldsSaid, without any condition: whatever the four numbers, it returns true. -/
import Derived.Test.YthnemdjihddmnaaFrame
import Derived.Test.YthnemdjihddmnaaWindow
import Derived.Test.YthnemdjihddmnaaSameInts
import Derived.Deep.DeepHandedRow
import Derived.Deep.QuietTactic
import Derived.BigQuiet
import Derived.Outline
namespace Go.Proofs.Ythnemdjihddmnaa.wholds
open Go.ChangeShapes Go.WideShapes Go.ChangeAt Go.RowKit
open Win

theorem fact_list : wins 2 (fst 4 2 7) (idx 4 2 (7 + 4)) = [4, 6] := by decide
theorem fact_ok : winOk 4 2 := by unfold winOk; omega

theorem count_pos {at_ size slide : Int} (h : winOk size slide) (h0 : 0 ≤ at_) : fst size slide at_ < idx size slide (at_ + size) := by
  have h3 := h.2.2.1
  have h4 := h.2.2.2.1
  rw [fst_eq h3]
  unfold idx
  rw [show at_ + size - size = at_ by omega]
  have h1 := Int.ediv_nonneg (a := at_) (b := slide) h0 (by omega)
  have h2 : (at_ - size) / slide + 1 ≤ at_ / slide := by
    have : (at_ - size) / slide ≤ (at_ + slide * (-1)) / slide := Int.ediv_le_ediv (by omega) (by omega)
    rw [Int.add_mul_ediv_left _ _ (by omega)] at this
    omega
  omega
theorem count_ten {at_ size slide : Int} (h : winOk size slide) : idx size slide (at_ + size) - fst size slide at_ ≤ 10 := by
  have h1 := idx_le_fst (size := size) (a := at_) h.2.2.1
  have h2 : idx size slide (at_ + size) ≤ idx size slide at_ + 10 := by
    unfold idx
    have : (at_ + size - size) / slide ≤ (at_ - size + slide * 10) / slide := Int.ediv_le_ediv (by have := h.2.2.1; omega) (by have := h.2.2.2.2; omega)
    rw [Int.add_mul_ediv_left _ _ (by have := h.2.2.1; omega)] at this
    omega
  omega

set_option maxHeartbeats 2000000 in
set_option maxRecDepth 100000 in
theorem walk_bad (a size slide tt : Int) (w : World) (h : ¬ (winOk size slide ∧ 0 ≤ a ∧ a ≤ 1000000)) :
    Calls Try.prog 4 #[.int .i64 a, .int .i64 size, .int .i64 slide, .int .i64 tt] w fun e w' => e = .returned (.bool true) ∧ Below w.heap.size w w' := by
  have H := Lib.hid h
  clear h
  go_enter Try.func4, Try.ntmps4
  go_wp2_with fail
  refine (wstarts_ok 7 4 2 _ fact_ok (by omega) (by omega)).mono ?_
  rintro e w1 ⟨v, rfl, hown, hb⟩
  rw [fact_list] at hown
  obtain ⟨A0, c, rfl, hsee⟩ := Sees.of_own hown
  obtain ⟨g, o, rfl, hg2, hcell⟩ := hsee.2.2.2.2 (by decide)
  have hc1 := hsee.2.1
  have hc2 := hsee.2.2.1
  have c0 : w1.cell? ⟨g, o, none⟩ = some (.int .i64 4) := hcell 0 _ rfl
  have c1 : w1.cell? ⟨g, o + 1, none⟩ = some (.int .i64 6) := hcell 1 _ rfl
  have hb' := Lib.hid hb
  clear hcell hown hb hsee
  unfold maxLen at hc2
  go_wp2_with fail
  refine (wstarts_bad _ _ _ _ H.out).mono ?_
  rintro e w2 ⟨rfl, rfl⟩
  go_wp2_with fail
  go_ret
  exact ⟨rfl, hb'.out⟩

theorem win_mod (slide j : Int) : win slide j % slide = 0 := by unfold win; exact Int.mul_emod_left j slide

theorem wins_join {size slide a b c : Int} (hs : 1 ≤ slide) (h1 : a ≤ b) (h2 : b ≤ c) :
    wins slide (fst size slide a) (idx size slide b) ++ wins slide (fst size slide b) (idx size slide c) = wins slide (fst size slide a) (idx size slide c) := by
  have e1 := fst_eq (size := size) (a := a) hs
  have e2 := fst_eq (size := size) (a := b) hs
  have m1 := idx_mono (size := size) hs h1
  have m2 := idx_mono (size := size) hs h2
  by_cases h : fst size slide a ≤ idx size slide b
  · rw [show fst size slide b = idx size slide b by have := fst_nonneg (size := size) (a := a) hs; omega]
    exact wins_append h m2
  · rw [wins_empty (by omega), show fst size slide b = fst size slide a by omega, List.nil_append]

set_option maxHeartbeats 4000000 in
set_option maxRecDepth 100000 in
theorem walk_good (a size slide tt F J : Int) (w : World) (h : winOk size slide) (h0 : 0 ≤ a) (ha : a ≤ 1000000) (hF : fst size slide a = F) (hJ : idx size slide (a + size) = J) :
    Calls Try.prog 4 #[.int .i64 a, .int .i64 size, .int .i64 slide, .int .i64 tt] w fun e w' => e = .returned (.bool true) ∧ Below w.heap.size w w' := by
  have H := Lib.hid h
  have HF := Lib.hid hF
  have HJ := Lib.hid hJ
  have hpos := count_pos h h0
  have hten := count_ten (at_ := a) h
  rw [hF, hJ] at hpos hten
  have hF0 : 0 ≤ F := by rw [← hF]; exact fst_nonneg h.2.2.1
  obtain ⟨b1, b2, b3, b4, b5⟩ := h
  clear hF hJ
  go_enter Try.func4, Try.ntmps4
  go_wp2_with fail
  refine (wstarts_ok 7 4 2 _ fact_ok (by omega) (by omega)).mono ?_
  rintro e w1 ⟨v, rfl, hown, hb⟩
  rw [fact_list] at hown
  obtain ⟨A0, c, rfl, hsee⟩ := Sees.of_own hown
  obtain ⟨g, o, rfl, hg2, hcell⟩ := hsee.2.2.2.2 (by decide)
  have hc1 := hsee.2.1
  have hc2 := hsee.2.2.1
  have c0 : w1.cell? ⟨g, o, none⟩ = some (.int .i64 4) := hcell 0 _ rfl
  have c1 : w1.cell? ⟨g, o + 1, none⟩ = some (.int .i64 6) := hcell 1 _ rfl
  have hb' := Lib.hid hb
  clear hcell hown hb hsee
  unfold maxLen at hc2
  go_wp2_with fail
  refine (wstarts_F a size slide F HF.out _ H.out h0 ha).mono ?_
  rintro e w2 ⟨v, rfl, hown, hb⟩
  rw [HJ.out] at hown
  clear c0 c1
  obtain ⟨n, hn⟩ : ∃ n : Nat, n = (wins slide F J).length := ⟨_, rfl⟩
  rw [← hn] at hown
  have hnJ : (n : Int) = max 0 (J - F) := by rw [hn, wins_length]; omega
  have hnJ' := Lib.hid hnJ
  have hn0 : 1 ≤ n := by omega
  have hn10 : n ≤ 10 := by omega
  clear hn
  obtain ⟨A2, c2, rfl, hsee⟩ := Sees.of_own hown
  obtain ⟨g2, o2, rfl, hg4, hcell⟩ := hsee.2.2.2.2 (by omega)
  have hc3 := hsee.2.1
  have hc4 := hsee.2.2.1
  have hcell' : Hid (∀ k : Nat, k < n → w2.cell? ⟨g2, o2 + k, none⟩ = some (.int .i64 (win slide (F + k)))) := fun k hk => hcell k _ (ints_get' hnJ hk)
  have hb2 := Lib.hid hb
  have hs2 := Lib.hid hsee
  have hs12 := hb.size
  clear hcell hown hb hnJ hsee
  unfold maxLen at hc4
  go_wp2_with fail
  go_loopw [13] (fun i wr => ∃ k q : Nat, k ≤ n ∧ i = .int .i64 k ∧ wr = w2.drewN q) (fun i _ => n - (intOf i).toNat)
  case atStart => exact ⟨0, 0, by omega, rfl, rfl⟩
  case round =>
    obtain ⟨k, q, hk, rfl, rfl⟩ := hrel
    by_cases hlt : k < n
    · have ck := hcell'.out k hlt
      have x0 : 0 ≤ win slide (F + k) := win_nonneg (by omega) (by omega)
      have x1 := win_hi (b := a + size) (F := F) (k := k) H.out (by rw [HJ.out]; have := hnJ'.out; omega)
      have x2 : a < win slide (F + k) + size := by
        have := (win_le_iff (size := size) (b := a) (j := F + k) b3)
        have := idx_le_fst (size := size) (a := a) b3
        rw [HF.out] at this; omega
      have xm := win_mod slide (F + k)
      have x3 : win slide (F + k) ≤ a := by omega
      have hS : k ≠ 0 → ∃ y, w2.cell? ⟨g2, o2 + (k - 1), none⟩ = some (.int .i64 y) ∧ y + slide = win slide (F + k) := fun hk0 => by
        refine ⟨win slide (F + (k - 1 : Nat)), hcell'.out (k - 1) (by omega), ?_⟩
        rw [← win_succ]; congr 1; omega
      have hS' := Lib.hid hS
      clear hS
      generalize win slide (F + k) = x at *
      have q1 : x.tmod slide = 0 := by rw [Int.tmod_eq_emod_of_nonneg x0]; exact xm
      have q0 : (slide == 0) = false := by simp; omega
      have q00 : ¬ slide = 0 := by omega
      clear xm
      have q2 : decide (x < 0) = false := by simp; omega
      have q3 : decide (a < x) = false := by simp; omega
      have q4 : decide (x + size ≤ a) = false := by simp; omega
      have s1 : IntKind.i64.wrap (x + size) = x + size := IntWalk.i64_in _ (by omega)
      by_cases hk0 : k = 0
      · have q5 : decide (0 < k) = false := by simp; omega
        clear hk0 hS'
        go_wp2
        go_quiet (fail)
        go_wp2
        go_roundw
        case rel => exact ⟨k + 1, q + nq, by omega, by go_num, by simp⟩
        case measure => simp [intOf]; omega
      · have q5 : decide (0 < k) = true := by simp; omega
        have q55 : 0 < k := by omega
        obtain ⟨y, hy, hyx⟩ := hS'.out hk0
        have q6 : (x != y + slide) = false := by simp [hyx]
        have s2 : IntKind.i64.wrap (y + slide) = y + slide := IntWalk.i64_in _ (by omega)
        have s3 : IntKind.i64.wrap ((k : Int) - 1) = (k : Int) - 1 := IntWalk.i64_in _ (by omega)
        have s4 : ((k : Int) - 1).toNat = k - 1 := by omega
        have hyx' := Lib.hid hyx
        clear hk0 hS' hyx
        go_wp2
        go_quiet (fail)
        go_wp2
        go_roundw
        case rel => exact ⟨k + 1, q + nq, by omega, by go_num, by simp⟩
        case measure => simp [intOf]; omega
    · obtain rfl : n = k := by omega
      clear hlt hk
      have xlo : 0 ≤ win slide F := win_nonneg (by omega) (by omega)
      have xhi : ∀ k : Nat, k < n → 0 ≤ win slide (F + k) ∧ win slide (F + k) ≤ a := fun k hk => by
        have := win_hi (b := a + size) (F := F) (k := k) H.out (by rw [HJ.out]; have := hnJ'.out; omega)
        have : 0 ≤ win slide (F + k) := win_nonneg (by omega) (by omega)
        omega
      have ck0 : w2.cell? ⟨g2, o2, none⟩ = some (.int .i64 (win slide (F + ((0 : Nat) : Int)))) := hcell'.out 0 (by omega)
      have ckn := hcell'.out (n - 1) (by omega)
      have y0 := xhi 0 (by omega)
      have yn := xhi (n - 1) (by omega)
      have z0 : win slide (F + ((0 : Nat) : Int)) < slide ∨ win slide (F + ((0 : Nat) : Int)) - slide + size ≤ a := by
        rw [show F + ((0 : Nat) : Int) = F by omega]
        by_cases hF1 : F = 0
        · left; rw [hF1, win_zero]; omega
        · right
          have := (win_le_iff (size := size) (b := a) (j := F - 1) b3).2 (by have := fst_eq (size := size) (a := a) b3; rw [HF.out] at this; omega)
          have e := win_succ slide (F - 1)
          rw [show F - 1 + 1 = F by omega] at e
          omega
      have zn : a < win slide (F + ((n - 1 : Nat) : Int)) + slide := by
        have e := win_succ slide (F + ((n - 1 : Nat) : Int))
        have := win_out (b := a + size) (F := F) (k := n) H.out (by rw [HJ.out]; have := hnJ'.out; omega)
        rw [show F + ((n - 1 : Nat) : Int) + 1 = F + n by omega] at e
        omega
      clear xhi xlo
      generalize win slide (F + ((0 : Nat) : Int)) = xa at *
      generalize win slide (F + ((n - 1 : Nat) : Int)) = xb at *
      have e0 : decide ((n : Int) < 1) = false := by simp; omega
      have e1 : decide (n < 1) = false := by simp; omega
      have e2 : decide ((10 : Int) < (n : Int)) = false := by simp; omega
      have e3 : decide (0 < n) = true := by simp; omega
      have e33 : 0 < n := by omega
      have e4 : ((n : Int) - 1).toNat = n - 1 := by omega
      have e5 : decide (slide ≤ xa) = true → decide (a < xa - slide + size) = false := by simp; omega
      have e6 : decide (xb + slide ≤ a) = false := by simp; omega
      go_wp2_with fail
      all_goals
        have ho1 := Lib.hid (show doneOk (-1) a size slide from ⟨H.out, by omega, by omega, by omega, by omega⟩)
        have ho2 := Lib.hid (show doneOk a (a + size) size slide from ⟨H.out, by omega, by omega, by omega, by omega⟩)
        clear e5 e6 z0 zn y0 yn ck0 ckn
        refine (wdone_see (-1) a size slide 0 _ (by unfold fst; rw [if_pos (by omega)]) rfl _ ho1.out).mono ?_
        rintro e w3 ⟨A3, m3, c3, ev3, rfl, hb3, hv3⟩
        have B3 := Lib.hid (below_stepN (below_step hb'.out hb2.out) hb3)
        have S2 := Lib.hid ((hs2.out.drewN q).keep hb3)
        have V3 := Lib.hid hv3
        clear hb3 hv3 hb' hb2 hs2 hcell'
        go_wp2_with fail
        refine (wdone_see a (a + size) size slide F J HF.out HJ.out _ ho2.out).mono ?_
        rintro e w4 ⟨A4, m4, c4, ev4, rfl, hb4, hv4⟩
        obtain ⟨rfl, _, hm4, hs4⟩ : ev4 = .nilIface ∧ J - F ≤ 300 ∧ (m4 : Int) = max 0 (J - F) ∧ Sees w4 A4 m4 c4 1 (ints (wins slide F J)) := by
          rcases hv4 with h | h
          · exact h
          · exfalso; have := h.2.1; omega
        obtain rfl : n = m4 := by have := hnJ'.out; omega
        have B4 := Lib.hid (below_step B3.out hb4)
        have S4 := Lib.hid hs4
        have S2' := Lib.hid (S2.out.keep hb4)
        have V3' : Hid ((ev3 = .nilIface ∧ (m3 : Int) = max 0 (idx size slide a) ∧ Sees w4 A3 m3 c3 1 (ints (wins slide 0 (idx size slide a)))) ∨ (ev3 = .iface 23 (.int .i64 4) ∧ A3 = none ∧ m3 = 0 ∧ c3 = 0)) := by
          rcases V3.out with ⟨h1, _, h2, h3⟩ | ⟨h1, _, h2⟩
          · exact Or.inl ⟨h1, by omega, h3.keep hb4⟩
          · exact Or.inr ⟨h1, h2⟩
        have hm4' := Lib.hid hm4
        obtain ⟨hd1, hd2⟩ : n ≤ c4 ∧ c4 ≤ maxLen := ⟨hs4.2.1, hs4.2.2.1⟩
        unfold maxLen at hd2
        clear hb4 hv4 hs4 V3 S2 B3 hm4
        go_wp2_with fail
        go_loopw [18] (fun i wr => ∃ k q : Nat, k ≤ n ∧ i = .int .i64 k ∧ wr = w4.drewN q) (fun i _ => n - (intOf i).toNat)
        case atStart => exact ⟨0, 0, by omega, rfl, rfl⟩
        case round =>
        obtain ⟨k, q, hk, rfl, rfl⟩ := hrel
        by_cases hlt : k < n
        · obtain ⟨ga, oa, ua, ea, hua, ca⟩ := S2'.out.at_ hlt
          injection ea with ea
          injection ea with ea1 ea2
          subst ea1 ea2
          obtain ⟨gb, ob, ub, rfl, hub, cb⟩ := S4.out.at_ hlt
          obtain rfl := ints_get hua
          obtain rfl := ints_get hub
          have e7 : (win slide (F + k) != win slide (F + k)) = false := by simp
          clear hua hub
          go_wp2
          go_quiet (fail)
          go_wp2
          go_roundw
          case rel => exact ⟨k + 1, q + nq, by omega, by go_num, by simp⟩
          case measure => simp [intOf]; omega
        · obtain rfl : n = k := by omega
          clear hlt hk
          go_wp2_with fail
          go_loopw [19] (fun i wr => ∃ k q : Nat, k ≤ m3 ∧ i = .int .i64 k ∧ wr = w4.drewN q) (fun i _ => m3 - (intOf i).toNat)
          case atStart => exact ⟨0, q, by omega, rfl, rfl⟩
          case round =>
          obtain ⟨k, q, hk, rfl, rfl⟩ := hrel
          by_cases hlt : k < m3
          · rcases V3'.out with ⟨rfl, hm3, hs3⟩ | ⟨_, _, h0', _⟩
            · obtain ⟨gc, oc, uc, rfl, huc, cc⟩ := hs3.at_ hlt
              obtain rfl := ints_get huc
              have hc3 := hs3.2.1
              have hc4' := hs3.2.2.1
              unfold maxLen at hc4'
              have hx1 : win slide (0 + k) + size ≤ a := win_hi H.out (by omega)
              have hx0 : 0 ≤ win slide (0 + k) := win_nonneg (by omega) (by omega)
              have f2 : decide (k < m3) = true := by simp; omega
              clear huc hm3 hs3
              generalize win slide (0 + k) = x at *
              have f3 : decide (a < x + size) = false := by simp; omega
              go_wp2
              go_roundw
              case rel => exact ⟨k + 1, q, by omega, by go_num, rfl⟩
              case measure => simp [intOf]; omega
            · omega
          · have f1 : decide (k < m3) = false := by simp; omega
            clear hlt hk
            by_cases htt : a ≤ tt ∧ tt ≤ a + 300
            · obtain ⟨ht1, ht2⟩ := htt
              have t1 : decide (tt < a) = false := by simp; omega
              have t2 : decide (a + 300 < tt) = false := by simp; omega
              go_wp2_with fail
              clear V3' S2' hm4' hd1 hd2
              refine (wdone_all a tt size slide _).mono ?_
              rintro e w5 ⟨A5, m5, c5, ev5, rfl, hb5, hv5⟩
              have B5 := Lib.hid (below_stepN B4.out hb5)
              have V5 := Lib.hid hv5
              clear hb5 hv5 B4
              go_wp2_with fail
              refine (wdone_all tt (a + size + 300) size slide _).mono ?_
              rintro e w6 ⟨A6, m6, c6, ev6, rfl, hb6, hv6⟩
              have B6 := Lib.hid (below_step B5.out hb6)
              have V6 := Lib.hid hv6
              have K6 := Lib.hid hb6
              clear hb6 hv6 B5
              go_wp2_with fail
              refine (wdone_all a (a + size + 300) size slide _).mono ?_
              rintro e w7 ⟨A7, m7, c7, ev7, rfl, hb7, hv7⟩
              have B7 := Lib.hid (below_step B6.out hb7)
              have V7 := Lib.hid hv7
              have K7 := Lib.hid hb7
              clear hb7 hv7 B6
              rcases V5.out with ⟨rfl, d5, g5, n5, s5⟩ | ⟨⟨x5, rfl⟩, _⟩
              · rcases V6.out with ⟨rfl, d6, g6, n6, s6⟩ | ⟨⟨x6, rfl⟩, _⟩
                · rcases V7.out with ⟨rfl, d7, g7, n7, s7⟩ | ⟨⟨x7, rfl⟩, _⟩
                  · have d7' := d7
                    obtain ⟨_, u1, u2, u3, u4⟩ := d7
                    have u5 : decide (1000000 < tt) = false := by have := d6.2.2.1; simp; omega
                    have u6 : decide (1001000 < a + size + 300) = false := by simp; omega
                    have G5 := Lib.hid (And.intro g5 n5)
                    have G6 := Lib.hid (And.intro g6 n6)
                    have G7 := Lib.hid (And.intro g7 n7)
                    have S5 := Lib.hid ((s5.keep K6.out).keep K7.out)
                    have S6 := Lib.hid (s6.keep K7.out)
                    have S7 := Lib.hid s7
                    have m5' : m5 ≤ 400 := by omega
                    have m6' : m6 ≤ 400 := by omega
                    have E7 := Lib.hid d7'
                    clear d5 d6 d7' g5 g6 g7 n5 n6 n7 s5 s6 s7 V5 V6 V7 u1 u2 u3 u4
                    have hone : ∀ l : List Int, ∀ u ∈ ints l, u.oneCell' = true := fun l u hu => by
                      unfold ints at hu
                      obtain ⟨x, _, rfl⟩ := List.mem_map.1 hu
                      rfl
                    have ON := Lib.hid hone
                    clear hone
                    go_wp2_with (first
                      | (at_builtin; refine wpList_append_src intSlice rfl (.tmp 280) (.tmp 281) rfl rfl rfl (World.ownsRow_nil _ w7.heap.size 3 1) S5.out (Below.refl _ _) (Nat.le_refl _) (ON.out _) (by omega) ?_; intro v8 w8 hown8 hb8 _)
                      | (at_builtin; refine wpList_append_src intSlice rfl (.tmp 283) (.tmp 284) rfl rfl rfl hown8 (S6.out.keep hb8) hb8 (Nat.le_refl _) (ON.out _) (by omega) ?_; intro v9 w9 hown9 hb9 _))
                    obtain ⟨A9, c9, rfl, s9⟩ := Sees.of_own hown9
                    have hs9 : Sees w9 A9 (0 + m5 + m6) c9 1 (ints (wins slide (fst size slide a) (idx size slide tt) ++ wins slide (fst size slide tt) (idx size slide (a + size + 300)))) := by
                      have := s9
                      simp only [List.nil_append, ints, ← List.map_append] at this
                      exact this
                    refine (same_ints A9 A7 _ _ _ _ _ _ _ hs9 (S7.out.keep hb9)).mono ?_
                    rintro e w10 ⟨rfl, q2, rfl⟩
                    go_wp2_with fail
                    go_ret
                    exact ⟨by rw [wins_join b3 ht1 (by omega)]; simp, below_drewN (below_step B7.out hb9) _⟩
                  · clear d5 g5 n5 s5 d6 g6 n6 s6 V5 V6 V7
                    go_wp2_with fail
                    go_ret
                    exact ⟨rfl, B7.out⟩
                · clear d5 g5 n5 s5 V5 V6 V7
                  go_wp2_with fail
                  go_ret
                  exact ⟨rfl, B7.out⟩
              · clear V5 V6 V7
                go_wp2_with fail
                go_ret
                exact ⟨rfl, B7.out⟩
            · have HT := Lib.hid htt
              clear htt
              by_cases ht1 : tt < a
              · have t1 : decide (tt < a) = true := by simp; omega
                go_wp2_with fail
                go_ret
                exact ⟨rfl, below_drewN B4.out q⟩
              · have t1 : decide (tt < a) = false := by simp; omega
                have t2 : decide (a + 300 < tt) = true := by have := HT.out; simp; omega
                go_wp2_with fail
                go_ret
                exact ⟨rfl, below_drewN B4.out q⟩

theorem walk (a size slide tt : Int) (w : World) :
    Calls Try.prog 4 #[.int .i64 a, .int .i64 size, .int .i64 slide, .int .i64 tt] w fun e w' => e = .returned (.bool true) ∧ Below w.heap.size w w' := by
  by_cases h : winOk size slide ∧ 0 ≤ a ∧ a ≤ 1000000
  · exact walk_good a size slide tt _ _ w h.1 h.2.1 h.2.2 rfl rfl
  · exact walk_bad a size slide tt w h

theorem contract (H : Type) (enc : TypeId × Value → H) (W : World) (base : Nat) (args : Array Value) (ds gs : List (DataW H)) (before : List MemPlace)
    (hval : ∀ (j : Nat) t v, Try.f4.params[j]? = some t → args[j]? = some v → Value.okWide Try.prog W .any base t v)
    (hW : DataW.Whole enc Try.prog Try.f4.params.toList Rows.windowHoldsSpec.vars false W args.toList ds gs before)
    (hsz : (DataW.weightsEach Try.prog (Try.f4.params.toList ++ (OpenSpec.ofChange Rows.windowHoldsSpec).bare.plain.varTypes Try.prog) (ds ++ gs)).all (· ≤ reachBytes) = true) :
    Calls Try.prog 4 args W fun e W' => ∃ v, e = .returned v ∧ Rows.windowHoldsSpec.post enc Try.prog Try.f4 false true false false W args v W' := by
  have hW' := hW
  obtain ⟨p, q, hA0, hV, rfl, hfz, hnd⟩ := hW
  have hA : DataW.TrodAll enc Try.prog W 0 (fun _ => true) true Try.f4.params.toList args.toList ds p := hA0
  rw [Try.params4] at hA hval
  obtain ⟨v0, vs0, d0, ds0, p0, q0, hargs, rfl, rfl, h0, r0⟩ := trodAll_cons hA
  obtain ⟨v1, vs1, d1, ds1, p1, q1, rfl, rfl, rfl, h1, r1⟩ := trodAll_cons r0
  obtain ⟨v2, vs2, d2, ds2, p2, q2, rfl, rfl, rfl, h2, r2⟩ := trodAll_cons r1
  obtain ⟨v3, vs3, d3, ds3, p3, q3, rfl, rfl, rfl, h3, r3⟩ := trodAll_cons r2
  obtain ⟨rfl, rfl, rfl⟩ := trodAll_nil r3
  obtain rfl : args = #[v0, v1, v2, v3] := by cases args; simp_all
  obtain ⟨rfl, rfl⟩ := trodVars_none hV
  obtain ⟨a0, rfl, rfl, rfl, w0⟩ := open_int Try.underlying3 (hval 0 3 v0 rfl rfl) h0
  obtain ⟨a1, rfl, rfl, rfl, w1⟩ := open_int Try.underlying3 (hval 1 3 v1 rfl rfl) h1
  obtain ⟨a2, rfl, rfl, rfl, w2⟩ := open_int Try.underlying3 (hval 2 3 v2 rfl rfl) h2
  obtain ⟨a3, rfl, rfl, rfl, w3⟩ := open_int Try.underlying3 (hval 3 3 v3 rfl rfl) h3
  refine (walk a0 a1 a2 a3 W).mono fun e W' ⟨he, hb⟩ => ?_
  subst he
  exact ⟨_, rfl, law_post laidOut Try.underlying4 (by kernel_rfl) rfl (by rw [Try.params4]; intro t ht; simp only [List.mem_cons, List.not_mem_nil, or_false] at ht; rcases ht with rfl | rfl | rfl | rfl; all_goals exact ⟨by kernel_rfl, of_decide_eq_true (by kernel_rfl)⟩) hW' rfl hb⟩

theorem reads (os : Os) {H : Type} (enc : TypeId × Value → H) : ∃ places, DataW.whole enc Try.prog ((World.holding Try.prog os ⟨#[], #[], []⟩).forCall (fun _ _ => 0) ⟨#[], #[.int .i64 0, .int .i64 0, .int .i64 0, .int .i64 0], []⟩).memory Try.f4.params.toList Rows.windowHoldsSpec.vars false (#[.int .i64 0, .int .i64 0, .int .i64 0, .int .i64 0] : Array Value).toList 8 = some ([.lit (.int .i64 0), .lit (.int .i64 0), .lit (.int .i64 0), .lit (.int .i64 0)], [], places) :=
  ⟨[], by kernel_rfl⟩

set_option maxRecDepth 100000 in
theorem lifted (os : Os) (started : os.Started) (H : Type) (enc : TypeId × Value → H) (F : Stop.Interp) :
    ReturnsInHanded {} Try.checked os 4 .any ((OpenSpec.ofChange Rows.windowHoldsSpec).preRow enc Try.prog Try.f4 Rows.windowHoldsRow.domain false Rows.windowHoldsRow.laid) (((OpenSpec.ofChange Rows.windowHoldsSpec).at F).post enc Try.prog Try.f4 false true false false) := by
  obtain ⟨places, hx⟩ := reads os enc
  refine returnsInHanded_of_row (C := Try.checked) (s := OpenSpec.ofChange Rows.windowHoldsSpec) own started (by kernel_rfl) Try.func4
    (witness_row_at (enc := enc) (C := Try.checked) false (World.holding Try.prog os ⟨#[], #[], []⟩) #[.int .i64 0, .int .i64 0, .int .i64 0, .int .i64 0] rfl (by kernel_rfl) (by kernel_rfl) (by kernel_rfl)
      (OpenSpec.preRow_of_cond 8 hx (by kernel_rfl) (fun k hk => by cases hk) (by kernel_rfl) (laidMet_nil _ _))) ?_
  intro W base args ds gs before hval hW _ _ hsz hL _ _
  exact contract H enc W base args ds gs before hval hW hsz

theorem said : Rows.WindowHoldsSaid :=
  OpenClaim.holds_of_cond 4 Try.f4 rfl rfl rfl rfl rfl rfl rfl ⟨rfl, rfl, rfl, rfl, rfl⟩ rfl rfl rfl rfl rfl (by kernel_rfl) Try.func4 (by kernel_rfl)
    (of_decide_eq_true (by kernel_rfl)) (by unfold Func.isWrapper; first | (rw [if_pos (by decide +kernel)]; kernel_rfl) | (rw [if_neg (by decide +kernel)]; exact ⟨rfl, rfl⟩))
    (fun os started H enc _ F => by rw [OpenClaim.pre_eq_preRow]; exact lifted os started H enc F)
#print axioms said
end Go.Proofs.Ythnemdjihddmnaa.wholds
