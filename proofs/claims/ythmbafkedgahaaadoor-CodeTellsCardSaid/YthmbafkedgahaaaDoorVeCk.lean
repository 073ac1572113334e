/- The checker of code, as it lies: its block p, the states' block q; slices.Clone, slices.Equal of states, (*state).take: walked. The checker of code, as it lies: its block p, the states' block q; (*checker).reach, walked. -/
import Derived.Test.YthmbafkedgahaaaDoorVeLaw
import Derived.Test.YthmbafkedgahaaaDoorOnly
import Derived.Deep.QuietTactic
import Derived.BigQuiet
import Derived.Deep.RegionLaw
import Derived.Deep.CutRange
namespace Go.Proofs.YthmbafkedgahaaaDoor
open Go.ChangeShapes Go.WideShapes Go.ChangeAt Go.RowKit

theorem stSlice : SliceTy Tryd.prog 89 3 (.int .i64 0) 1 8 := SliceTy.of Tryd.underlying89 (by kernel_rfl) rfl (by decide) (by decide)
theorem ints_one (l : List Int) : ∀ u ∈ intCells l, u.oneCell' = true := by
  intro u hu; unfold intCells at hu; obtain ⟨x, _, rfl⟩ := List.mem_map.1 hu; rfl
set_option maxHeartbeats 1000000 in
/-- A copy of a state that is known. -/
theorem cloneSt (a : Addr) (n c : Nat) (l : List Int) (w : World) (hl : Sees w (some a) n c 1 (intCells l)) (hn : n ≤ 1000000) :
    Calls Tryd.prog 108 #[.slice (some a) n c] w fun e w' => (∃ g c', e = .returned (.slice (some ⟨g, 0, none⟩) n c') ∧ w'.ownsRow w.heap.size 3 1 (.slice (some ⟨g, 0, none⟩) n c') n (intCells l)) ∧ Below w.heap.size w w' := by
  have q := fun (w : World) (a : Option Addr) (n c n' c' : Nat) => Lib.run_eql_slice_nil (P := Tryd.prog) w 89 _ a n c n' c' Tryd.underlying89
  have u := fun w => run_underlying (P := Tryd.prog) (w := w) Tryd.underlying89
  have HL := Lib.hid hl
  obtain ⟨i0, hi, hz0, hz1, hz2⟩ := stSlice.2.2.2.2
  have I0 := Lib.hid (⟨hi, hz0, hz1, hz2⟩ : Tryd.prog.info? 3 = some i0 ∧ i0.zero = some (.int .i64 0) ∧ i0.size = 1 ∧ i0.bytes = 8)
  clear hl hi hz0 hz1 hz2
  go_enter Tryd.func108, Tryd.ntmps108
  go_wp2_with (first | (at_builtin; refine wpList_append_own _ rfl _ _ 89 rfl w.heap.size 3 i0 (.int .i64 0) 1 8 Tryd.underlying89 I0.out.1 I0.out.2.1 I0.out.2.2.1 I0.out.2.2.2 rfl (by decide) _ _ _ rfl (World.ownsRow_made w #[] 0 (Nat.le_refl _) (Nat.zero_le _) rfl) a n c (intCells l) rfl HL.out.1 ?qc2 (ints_one l) (by unfold maxLen; omega) (by omega) (by simp) ?_))
  case qc2 =>
    intro j u hj
    have hn0 : 0 < n := by have := (List.getElem?_eq_some_iff.1 hj).1; have := HL.out.1; omega
    obtain ⟨g, o, e, _, hc⟩ := (HL.out.keep (show Below w.heap.size w (w.alloc (.cells #[] 3)) from (Below.refl _ _).alloc (Nat.le_refl _) _)).2.2.2.2 hn0
    injection e with e
    subst e
    rw [addr_addN]
    exact hc j u hj
  intro v' w1 hown hg hv
  obtain ⟨g, c', rfl⟩ : ∃ g c', v' = .slice (some ⟨g, 0, none⟩) n c' := by
    rcases hown.2 with ⟨e, _⟩ | ⟨g, cap, cur, e, _⟩
    · exact absurd e hv
    · exact ⟨g, cap, e⟩
  have HO := Lib.hid hown
  have HB := Lib.hid (show Below w.heap.size w w1 from ((Below.refl _ w).alloc (Nat.le_refl _) _).grown hg (by simp) (by intro k hk; simp [Value.ownBlock] at hk; omega))
  clear hown hg hv
  go_wp2_with fail
  go_ret
  exact ⟨⟨g, c', rfl, HO.out⟩, HB.out⟩

set_option maxHeartbeats 2000000 in
set_option maxRecDepth 100000 in
theorem equalSt (A E : Option Addr) (n c m d : Nat) (xs ys : List Int) (w : World) (hx : Sees w A n c 1 (intCells xs)) (hy : Sees w E m d 1 (intCells ys)) :
    Calls Tryd.prog 141 #[.slice A n c, .slice E m d] w fun e w' => e = .returned (.bool (decide (xs = ys))) ∧ Below w.heap.size w w' := by
  have HX := Lib.hid hx
  have HY := Lib.hid hy
  have HXL := Lib.hid (intCells_len hx)
  have HYL := Lib.hid (intCells_len hy)
  have h1 := hx.2.1
  have h2 := hx.2.2.1
  have h3 := hy.2.1
  have h4 := hy.2.2.1
  unfold maxLen at h2 h4
  clear hx hy
  by_cases hnm : n = m
  · subst hnm
    have e0 : ((n : Int) == n) = true := by simp
    go_enter Tryd.func141, Tryd.ntmps141
    go_wp2_with fail
    go_loopw [13] (fun u wx => ∃ k : Nat, k ≤ n ∧ u = .int .i64 k ∧ xs.take k = ys.take k ∧ Below w.heap.size w wx) (fun u _ => n - (intOf u).toNat)
    case atStart => exact ⟨0, by omega, rfl, rfl, Below.refl _ _⟩
    case round =>
      obtain ⟨k, hk, rfl, heq, hb⟩ := hrel
      have HEQ := Lib.hid heq
      have HB := Lib.hid hb
      clear heq hb
      by_cases hkn : k < n
      · obtain ⟨ga, oa, x, rfl, hx, qx⟩ := ints_at (HX.out.keep HB.out) hkn
        obtain ⟨gb, ob, y, rfl, hy, qy⟩ := ints_at (HY.out.keep HB.out) hkn
        have HXK := Lib.hid hx
        have HYK := Lib.hid hy
        clear hx hy
        by_cases hxy : x = y
        · subst hxy
          have e1 : (x == x) = true := by simp
          go_wp2_with fail
          go_quiet (fail)
          go_wp2_with fail
          go_roundw
          case rel => exact ⟨k + 1, by omega, by go_num, by rw [List.take_add_one, List.take_add_one, HEQ.out, HXK.out, HYK.out], below_drewN HB.out _⟩
          case measure => simp [intOf]; omega
        · have e1 : (x == y) = false := by simpa using hxy
          have NE := Lib.hid (show decide (xs = ys) = false from decide_eq_false (fun h => by rw [h, HYK.out] at HXK; exact hxy (Option.some.inj HXK.out).symm))
          clear hxy
          go_wp2_with fail
          go_quiet (fail)
          go_wp2_with fail
          go_ret
          exact ⟨by rw [NE.out]; rfl, below_drewN HB.out _⟩
      · obtain rfl : k = n := by omega
        have YE := Lib.hid (show decide (xs = ys) = true from decide_eq_true (by
          have := HEQ.out
          rwa [List.take_of_length_le (by rw [HXL.out]; exact Nat.le_refl _), List.take_of_length_le (by rw [HYL.out]; exact Nat.le_refl _)] at this))
        go_wp2_with fail
        go_ret
        exact ⟨by rw [YE.out]; rfl, HB.out⟩
  · have e0 : ((n : Int) == m) = false := beq_eq_false_iff_ne.2 (fun h => hnm (by omega))
    have NE := Lib.hid (show decide (xs = ys) = false from decide_eq_false (fun h => hnm (by rw [← HXL.out, ← HYL.out, h])))
    clear hnm
    go_enter Tryd.func141, Tryd.ntmps141
    go_wp2_with fail
    go_ret
    exact ⟨by rw [NE.out]; rfl, Below.refl _ _⟩

theorem box1 {w : World} {b : Nat} {x : Value} {T : TypeId} (h : w.heap[b]? = some (.cells #[x] T (0, 0))) : w.cell? ⟨b, 0, none⟩ = some x := by
  rw [cell_of_row _ _ _ _ _ _ h]; rfl
theorem box_free {w : World} {b i : Nat} {cs : Array Value} {T : TypeId} (h : w.heap[b]? = some (.cells cs T (0, 0))) : w.frozen? ⟨b, i, none⟩ = false := by
  unfold World.frozen?
  rw [show w.heap[(⟨b, i, none⟩ : Addr).block]? = _ from h]; simp
theorem box_set {w : World} {b i : Nat} {cs : Array Value} {T : TypeId} (u : Value) (h : w.heap[b]? = some (.cells cs T (0, 0))) : (w.setCell ⟨b, i, none⟩ u).heap[b]? = some (.cells (cs.setIfInBounds i u) T (0, 0)) := by
  unfold World.setCell
  rw [Array.getElem?_modify]
  simp only [if_true]
  rw [h]
  simp
set_option maxHeartbeats 1000000 in
theorem take_short (b g c m k : Nat) (w : World) (hb : w.heap[b]? = some (.cells #[.slice (some ⟨g, 0, none⟩) m c] 89 (0, 0))) (hmk : m < k) (_h1 : m ≤ c) (_h2 : c ≤ maxLen) (hk : k ≤ 1000) :
    Calls Tryd.prog 140 #[.pointer (some ⟨b, 0, none⟩), .int .i64 k] w fun e w' => e = .returned (.tuple #[.slice none 0 0, .bool false]) ∧ w = w' := by
  have hc := box1 hb
  have d0 : decide ((m : Int) - k < 0) = true := decide_eq_true (by omega)
  clear hb
  go_enter Tryd.func140, Tryd.ntmps140
  go_wp2_with fail
  go_ret2
  exact ⟨rfl, rfl⟩
theorem sees_drop {w : World} {g c j k : Nat} {l : List Int} (h : Sees w (some ⟨g, 0, none⟩) (j + k) c 1 (intCells l)) : Sees w (some ⟨g, j, none⟩) k (c - j) 1 (intCells (l.drop j)) := by
  have hl := intCells_len h
  have h1 := h.2.1
  have h2 := h.2.2.1
  refine ⟨by simp [intCells]; omega, by omega, by omega, (fun e => by cases e), fun hk => ?_⟩
  obtain ⟨g', o, e, hg, hc⟩ := h.2.2.2.2 (by omega)
  injection e with e
  injection e with e1 e2
  subst e1 e2
  refine ⟨g, j, rfl, hg, fun i u hu => ?_⟩
  have := hc (j + i) u (by unfold intCells at hu ⊢; rw [List.map_drop, List.getElem?_drop] at hu; exact hu)
  rwa [Nat.zero_add] at this
set_option maxHeartbeats 2000000 in
theorem take_ok (b g c j k : Nat) (l : List Int) (w : World) (hb : w.heap[b]? = some (.cells #[.slice (some ⟨g, 0, none⟩) (j + k) c] 89 (0, 0))) (hs : Sees w (some ⟨g, 0, none⟩) (j + k) c 1 (intCells l)) (hk : k ≤ 1000) :
    Calls Tryd.prog 140 #[.pointer (some ⟨b, 0, none⟩), .int .i64 k] w fun e w' => (∃ A' c', e = .returned (.tuple #[.slice A' k c', .bool true]) ∧ Sees w A' k c' 1 (intCells (l.drop j)) ∧ ∀ ad, A' = some ad → ad.block = g) ∧ w' = w.setCell ⟨b, 0, none⟩ (.slice (some ⟨g, 0, none⟩) j c) := by
  have hc := box1 hb
  have hf := box_free (i := 0) hb
  have h1 := hs.2.1
  have h2 := hs.2.2.1
  unfold maxLen at h2
  have HS := Lib.hid hs
  obtain ⟨m, hm⟩ : ∃ m : Nat, m = j + k := ⟨_, rfl⟩
  have ej : ((m : Nat) : Int) - k = j := by omega
  have d0 : decide ((j : Int) < 0) = false := decide_eq_false (by omega)
  rw [← hm] at hc h1
  have hjm : j ≤ m := by omega
  have HM := Lib.hid hm
  clear hs hb hm
  go_enter Tryd.func140, Tryd.ntmps140
  go_wp2_with fail
  · have hk0 : k = 0 := by have := HM.out; omega
    subst hk0
    have hj : m - c = 0 := by have := HM.out; omega
    subst h
    rw [hj]
    go_ret2
    refine ⟨⟨_, _, rfl, ⟨?_, Nat.le_refl _, Nat.zero_le _, (fun e => by cases e), fun h => absurd h (by omega)⟩, fun ad e => by injection e with e; rw [← e]⟩, rfl⟩
    have := intCells_len HS.out
    simp [intCells]; omega
  · have hj : m - j = k := by have := HM.out; omega
    rw [hj]
    go_ret2
    exact ⟨⟨_, _, rfl, sees_drop HS.out, fun ad e => by injection e with e; rw [← e]⟩, rfl⟩
end Go.Proofs.YthmbafkedgahaaaDoor
namespace Go.Proofs.YthmbafkedgahaaaDoor
open Go.ChangeShapes Go.WideShapes Go.ChangeAt Go.RowKit

/-- A state in its cell. -/
def StV (p q : Nat) (w : World) (u : Value) : Option (List Int) → Prop
  | none => u = .slice none 0 0
  | some l => ∃ ad c, u = .slice (some ad) l.length c ∧ Sees w (some ad) l.length c 1 (intCells l) ∧ (0 < l.length → ad.block ≠ p ∧ ad.block ≠ q)
structure CkAt (w : World) (B p q : Nat) (C : Option Addr) (n cc : Nat) (K : Option Addr) (nk ck : Nat) (st : Sts) (most : Nat) : Prop where
  box : w.heap[p]? = some (.cells #[.slice C n cc, .slice K nk ck, .slice (some ⟨q, 0, none⟩) (n + 1) (n + 1), .int .i64 most] 92 (0, 0))
  row : ∃ us : Array Value, w.heap[q]? = some (.cells us 89 (0, 0)) ∧ us.size = n + 1 ∧ ∀ (k : Nat) (o : Option (List Int)), st[k]? = some o → ∃ u, us[k]? = some u ∧ StV p q w u o
  len : st.length = n + 1
  low : B ≤ p ∧ B ≤ q
  off : p ≠ q
theorem box4 {w : World} {b : Nat} {x y z t : Value} {T : TypeId} (h : w.heap[b]? = some (.cells #[x, y, z, t] T (0, 0))) : w.cell? ⟨b, 0, none⟩ = some x ∧ w.cell? ⟨b, 1, none⟩ = some y ∧ w.cell? ⟨b, 2, none⟩ = some z ∧ w.cell? ⟨b, 3, none⟩ = some t := by
  refine ⟨?_, ?_, ?_, ?_⟩ <;> (rw [cell_of_row _ _ _ _ _ _ h]; rfl)
theorem box5 {w : World} {b : Nat} {x y z t u : Value} {T : TypeId} (h : w.heap[b]? = some (.cells #[x, y, z, t, u] T (0, 0))) : w.cell? ⟨b, 0, none⟩ = some x ∧ w.cell? ⟨b, 1, none⟩ = some y ∧ w.cell? ⟨b, 2, none⟩ = some z ∧ w.cell? ⟨b, 3, none⟩ = some t ∧ w.cell? ⟨b, 4, none⟩ = some u := by
  refine ⟨?_, ?_, ?_, ?_, ?_⟩ <;> (rw [cell_of_row _ _ _ _ _ _ h]; rfl)
theorem box_lt {w : World} {b : Nat} {o : Obj} (h : w.heap[b]? = some o) : b < w.heap.size := (Array.getElem?_eq_some_iff.1 h).1
section
variable {w w' : World} {B p q : Nat} {C : Option Addr} {n cc : Nat} {K : Option Addr} {nk ck : Nat} {st : Sts} {most : Nat}
theorem StV.only {S : Nat → Prop} {u : Value} {o : Option (List Int)} (h : StV p q w u o) (hy : Only S w w') (hS : ∀ k, S k → k < w.heap.size → k = p ∨ k = q) : StV p q w' u o := by
  cases o with
  | none => exact h
  | some l =>
    obtain ⟨ad, c, e, hs, hf⟩ := h
    refine ⟨ad, c, e, hy.sees_far hs (fun h0 ad' e' hS' => ?_), hf⟩
    injection e' with e'
    subst e'
    obtain ⟨g, o, e2, hg, -⟩ := hs.2.2.2.2 h0
    injection e2 with e2
    subst e2
    rcases hS _ hS' hg with h1 | h1
    · exact (hf h0).1 h1
    · exact (hf h0).2 h1
theorem CkAt.keep (h : CkAt w B p q C n cc K nk ck st most) (hb : Below w.heap.size w w') : CkAt w' B p q C n cc K nk ck st most := by
  obtain ⟨us, h1, h2, h3⟩ := h.row
  refine ⟨(hb.block p (box_lt h.box)).trans h.box, ⟨us, (hb.block q (box_lt h1)).trans h1, h2, fun k o ho => ?_⟩, h.len, h.low, h.off⟩
  obtain ⟨u, hu, hs⟩ := h3 k o ho
  exact ⟨u, hu, hs.only (Only.of_below (S := fun _ => False) hb) (fun _ h _ => h.elim)⟩
/-- What a step's action leaves. -/
theorem CkAt.acted {m' : Nat} (h : CkAt w B p q C n cc K nk ck st most) (hy : Only (fun k => k = p ∨ w.heap.size ≤ k) w w')
    (hb : w'.heap[p]? = some (.cells #[.slice C n cc, .slice K nk ck, .slice (some ⟨q, 0, none⟩) (n + 1) (n + 1), .int .i64 m'] 92 (0, 0))) : CkAt w' B p q C n cc K nk ck st m' := by
  obtain ⟨us, h1, h2, h3⟩ := h.row
  have hq := box_lt h1
  refine ⟨hb, ⟨us, (hy.block q hq (fun e => e.elim (fun e => h.off e.symm) (fun e => by omega))).trans h1, h2, fun k o ho => ?_⟩, h.len, h.low, h.off⟩
  obtain ⟨u, hu, hs⟩ := h3 k o ho
  exact ⟨u, hu, hs.only hy (fun k hk hl => hk.elim Or.inl (fun e => by omega))⟩
theorem CkAt.stored {u : Value} {l : List Int} {i : Nat} (h : CkAt w B p q C n cc K nk ck st most) (hi : i ≤ n) (hu : StV p q w u (some l)) : CkAt (w.setCell ⟨q, i, none⟩ u) B p q C n cc K nk ck (st.set i (some l)) most := by
  obtain ⟨us, h1, h2, h3⟩ := h.row
  have hy : Only (fun k => k = q) w (w.setCell ⟨q, i, none⟩ u) := (Only.refl (fun k => k = q) w).setCell (p := ⟨q, i, none⟩) rfl u
  refine ⟨(hy.block p (box_lt h.box) h.off).trans h.box, ⟨_, box_set u h1, by simpa using h2, fun k o ho => ?_⟩, by rw [List.length_set]; exact h.len, h.low, h.off⟩
  rw [List.getElem?_set] at ho
  by_cases hk : i = k
  · subst hk
    rw [if_pos rfl] at ho
    have hlt : i < st.length := by rw [h.len]; omega
    rw [if_pos hlt] at ho
    injection ho with ho
    subst ho
    exact ⟨u, by rw [Array.getElem?_setIfInBounds_self]; rw [if_pos (by omega)], hu.only hy (fun k hk _ => Or.inr hk)⟩
  · rw [if_neg hk] at ho
    obtain ⟨v, hv, hs⟩ := h3 k o ho
    exact ⟨v, by rw [Array.getElem?_setIfInBounds_ne hk]; exact hv, hs.only hy (fun k hk _ => Or.inr hk)⟩
theorem CkAt.at_ (h : CkAt w B p q C n cc K nk ck st most) {i : Nat} (hi : i ≤ n) : ∃ u, w.cell? ⟨q, i, none⟩ = some u ∧ StV p q w u (st.getD i none) ∧ w.frozen? ⟨q, i, none⟩ = false := by
  obtain ⟨us, h1, h2, h3⟩ := h.row
  have hlt : i < st.length := by rw [h.len]; omega
  obtain ⟨u, hu, hs⟩ := h3 i _ (List.getElem?_eq_getElem hlt)
  refine ⟨u, by rw [cell_of_row _ _ _ _ _ _ h1]; exact hu, ?_, box_free h1⟩
  rw [List.getD_eq_getElem?_getD, List.getElem?_eq_getElem hlt]
  exact hs
end
def ReachSays (B p q : Nat) (C : Option Addr) (n cc : Nat) (K : Option Addr) (nk ck : Nat) (r : Int × Sts) (most : Nat) (w : World) (e : Ending) (w' : World) : Prop :=
  e = .returned (errV r.1) ∧ CkAt w' B p q C n cc K nk ck r.2 most ∧ Only (· = q) w w'
set_option maxHeartbeats 4000000 in
set_option maxRecDepth 100000 in
theorem reach_any (B p q : Nat) (C : Option Addr) (n cc : Nat) (K : Option Addr) (nk ck : Nat) (st : Sts) (most i c : Nat) (ad : Addr) (l : List Int) (w : World) (h : CkAt w B p q C n cc K nk ck st most) (hi : i ≤ n) (_hn : n ≤ 100000)
    (hs : Sees w (some ad) l.length c 1 (intCells l)) (hl : l.length ≤ 100000) (hfar : 0 < l.length → ad.block ≠ p ∧ ad.block ≠ q) :
    Calls Tryd.prog 110 #[.pointer (some ⟨p, 0, none⟩), .int .i64 i, .slice (some ad) l.length c] w (ReachSays B p q C n cc K nk ck (reachP st i l) most w) := by
  have qn := fun (w : World) (a : Option Addr) (n c n' c' : Nat) => Lib.run_eql_slice_nil (P := Tryd.prog) w 89 _ a n c n' c' Tryd.underlying89
  obtain ⟨-, -, k2, -⟩ := box4 h.box
  obtain ⟨u, ku, hu, fu⟩ := h.at_ hi
  have H := Lib.hid h
  have HS := Lib.hid hs
  have HF := Lib.hid hfar
  have hp := box_lt h.box
  have hq : q < w.heap.size := World.block_lt_of_cell? w _ ku
  have hi1 : i < n + 1 := by omega
  have hi2 : (i : Int) < (n : Int) + 1 := by omega
  unfold reachP
  cases hg : st.getD i none with
  | none =>
    rw [hg] at hu
    have hu : u = .slice none 0 0 := hu
    subst hu
    have T := Lib.hid (fun (w' : World) (hb : Below w.heap.size w w') => cloneSt ad l.length c l w' (hs.keep hb) (by omega))
    have BD := Lib.hid (show Below w.heap.size w w.drew from (Below.refl _ _).drew)
    obtain ⟨m, hm⟩ : ∃ m, m = l.length := ⟨_, rfl⟩
    rw [← hm] at T ⊢
    have HM := Lib.hid hm
    clear h hs hfar hg fu hm
    go_enter Tryd.func110, Tryd.ntmps110
    go_wp2_with fail
    have M := Lib.hid (fun (w3 : World) (hb : Below w.heap.size w w3) (g c' : Nat) (hown : w3.ownsRow w.heap.size 3 1 (.slice (some ⟨g, 0, none⟩) m c') m (intCells l)) => show (w3.cell? ⟨p, 2, none⟩ = some (.slice (some ⟨q, 0, none⟩) (n + 1) (n + 1)) ∧ w3.cell? ⟨q, i, none⟩ = some (.slice none 0 0) ∧ w3.frozen? ⟨q, i, none⟩ = false) ∧ ∃ w4, w3.setCell ⟨q, i, none⟩ (.slice (some ⟨g, 0, none⟩) m c') = w4 ∧ CkAt w4 B p q C n cc K nk ck (st.set i (some l)) most ∧ Only (· = q) w w4 ∧ w4.cell? ⟨p, 2, none⟩ = some (.slice (some ⟨q, 0, none⟩) (n + 1) (n + 1)) ∧ w4.cell? ⟨q, i, none⟩ = some (.slice (some ⟨g, 0, none⟩) m c') from by
      have h3 := H.out.keep hb
      have hst : StV p q w3 (.slice (some ⟨g, 0, none⟩) m c') (some l) := by
        obtain ⟨A, c2, e, hs⟩ := Sees.of_own hown
        injection e with e1 e2 e3
        subst e1 e3
        obtain rfl := HM.out
        refine ⟨_, _, rfl, hs, fun _ => ?_⟩
        have := (hown.lt g rfl).1
        exact ⟨fun e => by have e : g = p := e; omega, fun e => by have e : g = q := e; omega⟩
      have h4 := h3.stored (i := i) (by omega) hst
      refine ⟨⟨(box4 h3.box).2.2.1, (hb.cell (p := ⟨q, i, none⟩) (by assumption)).trans ku, ?_⟩, _, rfl, h4, ?_, (box4 h4.box).2.2.1, ?_⟩
      · obtain ⟨u, _, _, hf⟩ := h3.at_ (i := i) (by omega)
        exact hf
      · exact (Only.of_below hb).setCell (S := (· = q)) (p := ⟨q, i, none⟩) rfl _
      · obtain ⟨us, g1, g2, -⟩ := h3.row
        rw [cell_of_row _ _ _ _ _ _ (box_set (i := i) (.slice (some ⟨g, 0, none⟩) m c') g1), Array.getElem?_setIfInBounds_self, if_pos (by omega)])
    clear hu
    go_region_law (go_simp; go_at_call 108; refine (T.out _ BD.out).mono ?_; rintro e w3 ⟨⟨g, c', rfl, hown⟩, hb3⟩; obtain ⟨⟨q2, q3, q4⟩, w4, hw4, hck, hon, r2, r3⟩ := M.out w3 (BD.out.trans hb3) g c' hown; have HW4 := Lib.hid hw4; have HCK := Lib.hid hck; have HON := Lib.hid hon; have R2 := Lib.hid r2; have R3 := Lib.hid r3; clear hb3 hw4 hck hon hown r2 r3)
    all_goals
      rw [HW4.out]
      have r2 := R2.out
      have r3 := R3.out
      clear q2 q3 q4
      go_wp2_with fail
      go_ret
      exact ⟨rfl, HCK.out, HON.out⟩
  | some m =>
    rw [hg] at hu
    obtain ⟨ad2, c2, rfl, hs2, -⟩ := hu
    have T := Lib.hid (equalSt (some ad2) (some ad) m.length c2 l.length c m l w hs2 hs)
    obtain ⟨k1, hk1⟩ : ∃ k1, k1 = l.length := ⟨_, rfl⟩
    obtain ⟨k3, hk3⟩ : ∃ k3, k3 = m.length := ⟨_, rfl⟩
    rw [← hk1, ← hk3] at T
    rw [← hk1]
    rw [← hk3] at ku
    dsimp only
    obtain ⟨rk, hrk⟩ : ∃ rk : Int, rk = (if m = l then 0 else 3) := ⟨_, rfl⟩
    rw [← hrk]
    have HRK := Lib.hid hrk
    clear h hs hfar hg fu hs2 hk1 hk3 hrk
    go_enter Tryd.func110, Tryd.ntmps110
    go_wp2_with fail
    refine (T.out).mono ?_
    rintro e w1 ⟨rfl, hb⟩
    have HB := Lib.hid hb
    clear hb
    by_cases hml : m = l
    · obtain rfl : rk = 0 := HRK.out.trans (if_pos hml)
      rw [decide_eq_true hml]
      clear hml
      go_wp2_with fail
      go_ret
      exact ⟨rfl, H.out.keep HB.out, Only.of_below HB.out⟩
    · obtain rfl : rk = 3 := HRK.out.trans (if_neg hml)
      rw [decide_eq_false hml]
      clear hml
      go_wp2_with fail
      go_ret
      exact ⟨rfl, H.out.keep HB.out, Only.of_below HB.out⟩
end Go.Proofs.YthmbafkedgahaaaDoor
