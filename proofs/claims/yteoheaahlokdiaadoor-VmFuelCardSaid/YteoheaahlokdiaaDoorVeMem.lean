/- The checker of code, as it lies: its block p, the states' block q; slices.Clone, slices.Equal of states, (*state).take: walked. -/
import Derived.Test.YteoheaahlokdiaaDoorVeLaw
import Derived.Test.YteoheaahlokdiaaDoorStepApp
import Derived.Deep.QuietTactic
import Derived.BigQuiet
namespace Go.Proofs.YteoheaahlokdiaaDoor
open Go.ChangeShapes Go.WideShapes Go.ChangeAt Go.RowKit

theorem stSlice : SliceTy Tryd.prog 103 3 (.int .i64 0) 1 8 := SliceTy.of Tryd.underlying103 (by kernel_rfl) rfl (by decide) (by decide)
theorem ints_one (l : List Int) : ∀ u ∈ intCells l, u.oneCell' = true := by
  intro u hu; unfold intCells at hu; obtain ⟨x, _, rfl⟩ := List.mem_map.1 hu; rfl
set_option maxHeartbeats 1000000 in
/-- A copy of a state that is known. -/
theorem cloneSt (a : Addr) (n c : Nat) (l : List Int) (w : World) (hl : Sees w (some a) n c 1 (intCells l)) (hn : n ≤ 1000000) :
    Calls Tryd.prog 121 #[.slice (some a) n c] w fun e w' => (∃ g c', e = .returned (.slice (some ⟨g, 0, none⟩) n c') ∧ w'.ownsRow w.heap.size 3 1 (.slice (some ⟨g, 0, none⟩) n c') n (intCells l)) ∧ Below w.heap.size w w' := by
  have q := fun (w : World) (a : Option Addr) (n c n' c' : Nat) => Lib.run_eql_slice_nil (P := Tryd.prog) w 103 _ a n c n' c' Tryd.underlying103
  have u := fun w => run_underlying (P := Tryd.prog) (w := w) Tryd.underlying103
  have HL := Lib.hid hl
  obtain ⟨i0, hi, hz0, hz1, hz2⟩ := stSlice.2.2.2.2
  have I0 := Lib.hid (⟨hi, hz0, hz1, hz2⟩ : Tryd.prog.info? 3 = some i0 ∧ i0.zero = some (.int .i64 0) ∧ i0.size = 1 ∧ i0.bytes = 8)
  clear hl hi hz0 hz1 hz2
  go_enter Tryd.func121, Tryd.ntmps121
  go_wp2_with (first | (at_builtin; refine wpList_append_own _ rfl _ _ 103 rfl w.heap.size 3 i0 (.int .i64 0) 1 8 Tryd.underlying103 I0.out.1 I0.out.2.1 I0.out.2.2.1 I0.out.2.2.2 rfl (by decide) _ _ _ rfl (World.ownsRow_made w #[] 0 (Nat.le_refl _) (Nat.zero_le _) rfl) a n c (intCells l) rfl HL.out.1 ?qc2 (ints_one l) (by unfold maxLen; omega) (by omega) (by simp) ?_))
  case qc2 =>
    intro j u hj
    have hn0 : 0 < n := by have := (List.getElem?_eq_some_iff.1 hj).1; have := HL.out.1; omega
    obtain ⟨g, o, e, _, hc⟩ := (HL.out.keep (show Below w.heap.size w (w.alloc (.cells #[] 3)) from (Below.refl _ _).alloc (Nat.le_refl _) _)).2.2.2.2 hn0
    injection e with e
    subst e
    rw [addr_addN]
    exact hc j u hj
  intro v' w1 hown hg hv
  obtain ⟨g, c', rfl⟩ : ∃ g c', v' = .slice (some ⟨g, 0, none⟩) n c' := by
    rcases hown.2 with ⟨e, _⟩ | ⟨g, cap, cur, e, _⟩
    · exact absurd e hv
    · exact ⟨g, cap, e⟩
  have HO := Lib.hid hown
  have HB := Lib.hid (show Below w.heap.size w w1 from ((Below.refl _ w).alloc (Nat.le_refl _) _).grown hg (by simp) (by intro k hk; simp [Value.ownBlock] at hk; omega))
  clear hown hg hv
  go_wp2_with fail
  go_ret
  exact ⟨⟨g, c', rfl, HO.out⟩, HB.out⟩

set_option maxHeartbeats 2000000 in
set_option maxRecDepth 100000 in
theorem equalSt (A E : Option Addr) (n c m d : Nat) (xs ys : List Int) (w : World) (hx : Sees w A n c 1 (intCells xs)) (hy : Sees w E m d 1 (intCells ys)) :
    Calls Tryd.prog 152 #[.slice A n c, .slice E m d] w fun e w' => e = .returned (.bool (decide (xs = ys))) ∧ Below w.heap.size w w' := by
  have HX := Lib.hid hx
  have HY := Lib.hid hy
  have HXL := Lib.hid (intCells_len hx)
  have HYL := Lib.hid (intCells_len hy)
  have h1 := hx.2.1
  have h2 := hx.2.2.1
  have h3 := hy.2.1
  have h4 := hy.2.2.1
  unfold maxLen at h2 h4
  clear hx hy
  by_cases hnm : n = m
  · subst hnm
    have e0 : ((n : Int) == n) = true := by simp
    go_enter Tryd.func152, Tryd.ntmps152
    go_wp2_with fail
    go_loopw [13] (fun u wx => ∃ k : Nat, k ≤ n ∧ u = .int .i64 k ∧ xs.take k = ys.take k ∧ Below w.heap.size w wx) (fun u _ => n - (intOf u).toNat)
    case atStart => exact ⟨0, by omega, rfl, rfl, Below.refl _ _⟩
    case round =>
      obtain ⟨k, hk, rfl, heq, hb⟩ := hrel
      have HEQ := Lib.hid heq
      have HB := Lib.hid hb
      clear heq hb
      by_cases hkn : k < n
      · obtain ⟨ga, oa, x, rfl, hx, qx⟩ := ints_at (HX.out.keep HB.out) hkn
        obtain ⟨gb, ob, y, rfl, hy, qy⟩ := ints_at (HY.out.keep HB.out) hkn
        have HXK := Lib.hid hx
        have HYK := Lib.hid hy
        clear hx hy
        by_cases hxy : x = y
        · subst hxy
          have e1 : (x == x) = true := by simp
          go_wp2_with fail
          go_quiet (fail)
          go_wp2_with fail
          go_roundw
          case rel => exact ⟨k + 1, by omega, by go_num, by rw [List.take_add_one, List.take_add_one, HEQ.out, HXK.out, HYK.out], below_drewN HB.out _⟩
          case measure => simp [intOf]; omega
        · have e1 : (x == y) = false := by simpa using hxy
          have NE := Lib.hid (show decide (xs = ys) = false from decide_eq_false (fun h => by rw [h, HYK.out] at HXK; exact hxy (Option.some.inj HXK.out).symm))
          clear hxy
          go_wp2_with fail
          go_quiet (fail)
          go_wp2_with fail
          go_ret
          exact ⟨by rw [NE.out]; rfl, below_drewN HB.out _⟩
      · obtain rfl : k = n := by omega
        have YE := Lib.hid (show decide (xs = ys) = true from decide_eq_true (by
          have := HEQ.out
          rwa [List.take_of_length_le (by rw [HXL.out]; exact Nat.le_refl _), List.take_of_length_le (by rw [HYL.out]; exact Nat.le_refl _)] at this))
        go_wp2_with fail
        go_ret
        exact ⟨by rw [YE.out]; rfl, HB.out⟩
  · have e0 : ((n : Int) == m) = false := beq_eq_false_iff_ne.2 (fun h => hnm (by omega))
    have NE := Lib.hid (show decide (xs = ys) = false from decide_eq_false (fun h => hnm (by rw [← HXL.out, ← HYL.out, h])))
    clear hnm
    go_enter Tryd.func152, Tryd.ntmps152
    go_wp2_with fail
    go_ret
    exact ⟨by rw [NE.out]; rfl, Below.refl _ _⟩

theorem box1 {w : World} {b : Nat} {x : Value} {T : TypeId} (h : w.heap[b]? = some (.cells #[x] T (0, 0))) : w.cell? ⟨b, 0, none⟩ = some x := by
  rw [cell_of_row _ _ _ _ _ _ h]; rfl
theorem box_free {w : World} {b i : Nat} {cs : Array Value} {T : TypeId} (h : w.heap[b]? = some (.cells cs T (0, 0))) : w.frozen? ⟨b, i, none⟩ = false := by
  unfold World.frozen?
  rw [show w.heap[(⟨b, i, none⟩ : Addr).block]? = _ from h]; simp
theorem box_set {w : World} {b i : Nat} {cs : Array Value} {T : TypeId} (u : Value) (h : w.heap[b]? = some (.cells cs T (0, 0))) : (w.setCell ⟨b, i, none⟩ u).heap[b]? = some (.cells (cs.setIfInBounds i u) T (0, 0)) := by
  unfold World.setCell
  rw [Array.getElem?_modify]
  simp only [if_true]
  rw [h]
  simp
set_option maxHeartbeats 1000000 in
theorem take_short (b g c m k : Nat) (w : World) (hb : w.heap[b]? = some (.cells #[.slice (some ⟨g, 0, none⟩) m c] 103 (0, 0))) (hmk : m < k) (_h1 : m ≤ c) (_h2 : c ≤ maxLen) (hk : k ≤ 1000) :
    Calls Tryd.prog 151 #[.pointer (some ⟨b, 0, none⟩), .int .i64 k] w fun e w' => e = .returned (.tuple #[.slice none 0 0, .bool false]) ∧ w = w' := by
  have hc := box1 hb
  have d0 : decide ((m : Int) - k < 0) = true := decide_eq_true (by omega)
  clear hb
  go_enter Tryd.func151, Tryd.ntmps151
  go_wp2_with fail
  go_ret2
  exact ⟨rfl, rfl⟩
theorem sees_drop {w : World} {g c j k : Nat} {l : List Int} (h : Sees w (some ⟨g, 0, none⟩) (j + k) c 1 (intCells l)) : Sees w (some ⟨g, j, none⟩) k (c - j) 1 (intCells (l.drop j)) := by
  have hl := intCells_len h
  have h1 := h.2.1
  have h2 := h.2.2.1
  refine ⟨by simp [intCells]; omega, by omega, by omega, (fun e => by cases e), fun hk => ?_⟩
  obtain ⟨g', o, e, hg, hc⟩ := h.2.2.2.2 (by omega)
  injection e with e
  injection e with e1 e2
  subst e1 e2
  refine ⟨g, j, rfl, hg, fun i u hu => ?_⟩
  have := hc (j + i) u (by unfold intCells at hu ⊢; rw [List.map_drop, List.getElem?_drop] at hu; exact hu)
  rwa [Nat.zero_add] at this
set_option maxHeartbeats 2000000 in
theorem take_ok (b g c j k : Nat) (l : List Int) (w : World) (hb : w.heap[b]? = some (.cells #[.slice (some ⟨g, 0, none⟩) (j + k) c] 103 (0, 0))) (hs : Sees w (some ⟨g, 0, none⟩) (j + k) c 1 (intCells l)) (hk : k ≤ 1000) :
    Calls Tryd.prog 151 #[.pointer (some ⟨b, 0, none⟩), .int .i64 k] w fun e w' => (∃ A' c', e = .returned (.tuple #[.slice A' k c', .bool true]) ∧ Sees w A' k c' 1 (intCells (l.drop j)) ∧ ∀ ad, A' = some ad → ad.block = g) ∧ w' = w.setCell ⟨b, 0, none⟩ (.slice (some ⟨g, 0, none⟩) j c) := by
  have hc := box1 hb
  have hf := box_free (i := 0) hb
  have h1 := hs.2.1
  have h2 := hs.2.2.1
  unfold maxLen at h2
  have HS := Lib.hid hs
  obtain ⟨m, hm⟩ : ∃ m : Nat, m = j + k := ⟨_, rfl⟩
  have ej : ((m : Nat) : Int) - k = j := by omega
  have d0 : decide ((j : Int) < 0) = false := decide_eq_false (by omega)
  rw [← hm] at hc h1
  have hjm : j ≤ m := by omega
  have HM := Lib.hid hm
  clear hs hb hm
  go_enter Tryd.func151, Tryd.ntmps151
  go_wp2_with fail
  · have hk0 : k = 0 := by have := HM.out; omega
    subst hk0
    have hj : m - c = 0 := by have := HM.out; omega
    subst h
    rw [hj]
    go_ret2
    refine ⟨⟨_, _, rfl, ⟨?_, Nat.le_refl _, Nat.zero_le _, (fun e => by cases e), fun h => absurd h (by omega)⟩, fun ad e => by injection e with e; rw [← e]⟩, rfl⟩
    have := intCells_len HS.out
    simp [intCells]; omega
  · have hj : m - j = k := by have := HM.out; omega
    rw [hj]
    go_ret2
    exact ⟨⟨_, _, rfl, sees_drop HS.out, fun ad e => by injection e with e; rw [← e]⟩, rfl⟩
end Go.Proofs.YteoheaahlokdiaaDoor
