/- What Join asks: slices.EqualFunc over aggregates of the same kinds; slices.Clone of aggregates: walked. -/
import Derived.Test.YtfdihajhhadidaaDoorAggCheck
namespace Go.Proofs.YtfdihajhhadidaaDoor
open Go.ChangeShapes Go.WideShapes Go.ChangeAt Go.RowKit

def oneV (o : One) : Value := .agg #[.string o.what, .int .i64 o.type, .int .i64 (hiOf o.sum), .int .u64 (loOf o.sum), .int .i64 o.edge.type, .int .i64 o.edge.n, .string o.edge.s]
theorem box7 {w : World} {b : Nat} {o : One} {T : TypeId} (h : w.heap[b]? = some (.cells #[.string o.what, .int .i64 o.type, .int .i64 (hiOf o.sum), .int .u64 (loOf o.sum), .int .i64 o.edge.type, .int .i64 o.edge.n, .string o.edge.s] T (0, 0))) :
    w.cell? ⟨b, 0, none⟩ = some (.string o.what) ∧ w.cell? ⟨b, 1, none⟩ = some (.int .i64 o.type) ∧ w.cell? ⟨b, 2, none⟩ = some (.int .i64 (hiOf o.sum)) ∧ w.cell? ⟨b, 3, none⟩ = some (.int .u64 (loOf o.sum)) ∧
    w.cell? ⟨b, 4, none⟩ = some (.int .i64 o.edge.type) ∧ w.cell? ⟨b, 5, none⟩ = some (.int .i64 o.edge.n) ∧ w.cell? ⟨b, 6, none⟩ = some (.string o.edge.s) := by
  refine ⟨?_, ?_, ?_, ?_, ?_, ?_, ?_⟩ <;> (rw [cell_of_row _ _ _ _ _ _ h]; rfl)
theorem seven_keep {W w' : World} {b : Nat} {v0 v1 v2 v3 v4 v5 v6 : Value} (hb : Below W.heap.size W w') (hlt : b < W.heap.size)
    (h : W.cell? ⟨b, 0, none⟩ = some v0 ∧ W.cell? ⟨b, 1, none⟩ = some v1 ∧ W.cell? ⟨b, 2, none⟩ = some v2 ∧ W.cell? ⟨b, 3, none⟩ = some v3 ∧ W.cell? ⟨b, 4, none⟩ = some v4 ∧ W.cell? ⟨b, 5, none⟩ = some v5 ∧ W.cell? ⟨b, 6, none⟩ = some v6) :
    w'.cell? ⟨b, 0, none⟩ = some v0 ∧ w'.cell? ⟨b, 1, none⟩ = some v1 ∧ w'.cell? ⟨b, 2, none⟩ = some v2 ∧ w'.cell? ⟨b, 3, none⟩ = some v3 ∧ w'.cell? ⟨b, 4, none⟩ = some v4 ∧ w'.cell? ⟨b, 5, none⟩ = some v5 ∧ w'.cell? ⟨b, 6, none⟩ = some v6 := by
  refine ⟨?_, ?_, ?_, ?_, ?_, ?_, ?_⟩ <;> rw [hb.cell hlt]
  · exact h.1
  · exact h.2.1
  · exact h.2.2.1
  · exact h.2.2.2.1
  · exact h.2.2.2.2.1
  · exact h.2.2.2.2.2.1
  · exact h.2.2.2.2.2.2
theorem box7_keep {w w' : World} {b : Nat} {o : One} {T : TypeId} (h : w.heap[b]? = some (.cells #[.string o.what, .int .i64 o.type, .int .i64 (hiOf o.sum), .int .u64 (loOf o.sum), .int .i64 o.edge.type, .int .i64 o.edge.n, .string o.edge.s] T (0, 0))) (hb : Below w.heap.size w w') :
    w'.heap[b]? = some (.cells #[.string o.what, .int .i64 o.type, .int .i64 (hiOf o.sum), .int .u64 (loOf o.sum), .int .i64 o.edge.type, .int .i64 o.edge.n, .string o.edge.s] T (0, 0)) := (hb.block b (Array.getElem?_eq_some_iff.1 h).1).trans h

set_option maxHeartbeats 2000000 in
set_option maxRecDepth 100000 in
theorem join1_any (x y : One) (hk : kdOf x = kdOf y) (w : World) :
    Calls Tryd.prog 44 #[oneV x, oneV y] w fun e w' => e = .returned (.bool true) ∧ Below w.heap.size w w' := by
  obtain ⟨w0, hw0⟩ : ∃ w0, w.alloc (.cells #[.string x.what, .int .i64 x.type, .int .i64 (hiOf x.sum), .int .u64 (loOf x.sum), .int .i64 x.edge.type, .int .i64 x.edge.n, .string x.edge.s] 94) = w0 := ⟨_, rfl⟩
  obtain ⟨w1, hw1⟩ : ∃ w1, w0.alloc (.cells #[.string y.what, .int .i64 y.type, .int .i64 (hiOf y.sum), .int .u64 (loOf y.sum), .int .i64 y.edge.type, .int .i64 y.edge.n, .string y.edge.s] 94) = w1 := ⟨_, rfl⟩
  have hb0 : Below w.heap.size w w0 := by rw [← hw0]; exact (Below.refl _ _).alloc (Nat.le_refl _) _
  have hb1 : Below w0.heap.size w0 w1 := by rw [← hw1]; exact (Below.refl _ _).alloc (Nat.le_refl _) _
  have hx0 := heap_alloc_new w (.cells #[.string x.what, .int .i64 x.type, .int .i64 (hiOf x.sum), .int .u64 (loOf x.sum), .int .i64 x.edge.type, .int .i64 x.edge.n, .string x.edge.s] 94)
  rw [hw0] at hx0
  have hx1 := box7_keep hx0 hb1
  have hy1 := heap_alloc_new w0 (.cells #[.string y.what, .int .i64 y.type, .int .i64 (hiOf y.sum), .int .u64 (loOf y.sum), .int .i64 y.edge.type, .int .i64 y.edge.n, .string y.edge.s] 94)
  rw [hw1] at hy1
  have hs0 : w0.heap.size = w.heap.size + 1 := by rw [← hw0]; simp
  rw [hs0] at hy1
  obtain ⟨x0, x1, x2, x3, x4, x5, x6⟩ := box7 hx1
  obtain ⟨y0, y1, y2, y3, y4, y5, y6⟩ := box7 hy1
  have lx : w.heap.size < w1.drew.heap.size := (Array.getElem?_eq_some_iff.1 hx1).1
  have ly : w.heap.size + 1 < w1.drew.heap.size := (Array.getElem?_eq_some_iff.1 hy1).1
  have HB1 := Lib.hid (below_step hb0 hb1)
  have HW0 := Lib.hid hw0
  have HW1 := Lib.hid hw1
  have HS0 := Lib.hid hs0
  have TX := Lib.hid (fun w' => sort_any x w')
  have TY := Lib.hid (fun w' => sort_any y w')
  have e1 : x.what = y.what := congrArg Kd.what hk
  have e2 : (sortOf x).type = (sortOf y).type := by
    have := congrArg Kd.type hk
    unfold sortOf; simp only [e1]; simp only [kdOf] at this; rw [this]
  rw [e1, e2] at TX
  have HE := Lib.hid e1
  unfold oneV
  rw [e1] at x0
  rw [e1] at HW0
  rw [e1]
  generalize (sortOf y).type = st at TX TY
  clear hk e1 e2 hb0 hb1 hw0 hw1 hx0 hx1 hy1 hs0
  go_enter Tryd.func44, Tryd.ntmps44
  go_wp2_with (first | rw [HW0.out] | rw [HW1.out] | rw [HS0.out])
  go_region_held3 (fun w' => w'.cell? ⟨w.heap.size, 0, none⟩ = some (.string y.what) ∧ w'.cell? ⟨w.heap.size, 1, none⟩ = some (.int .i64 x.type) ∧ w'.cell? ⟨w.heap.size, 2, none⟩ = some (.int .i64 (hiOf x.sum)) ∧ w'.cell? ⟨w.heap.size, 3, none⟩ = some (.int .u64 (loOf x.sum)) ∧ w'.cell? ⟨w.heap.size, 4, none⟩ = some (.int .i64 x.edge.type) ∧ w'.cell? ⟨w.heap.size, 5, none⟩ = some (.int .i64 x.edge.n) ∧ w'.cell? ⟨w.heap.size, 6, none⟩ = some (.string x.edge.s) ∧ w'.cell? ⟨w.heap.size + 1, 0, none⟩ = some (.string y.what) ∧ w'.cell? ⟨w.heap.size + 1, 1, none⟩ = some (.int .i64 y.type) ∧ w'.cell? ⟨w.heap.size + 1, 2, none⟩ = some (.int .i64 (hiOf y.sum)) ∧ w'.cell? ⟨w.heap.size + 1, 3, none⟩ = some (.int .u64 (loOf y.sum)) ∧ w'.cell? ⟨w.heap.size + 1, 4, none⟩ = some (.int .i64 y.edge.type) ∧ w'.cell? ⟨w.heap.size + 1, 5, none⟩ = some (.int .i64 y.edge.n) ∧ w'.cell? ⟨w.heap.size + 1, 6, none⟩ = some (.string y.edge.s)) (first | go_keep | exact ⟨r0, r1, r2, r3, r4, r5, r6, s0, s1, s2, s3, s4, s5, s6⟩ | exact ⟨q0, q1, q2, q3, q4, q5, q6, p0, p1, p2, p3, p4, p5, p6⟩)
    (first
      | (go_at_call 45; (with_reducible refine (TX.out _).mono ?_); rintro e w3 ⟨rfl, hb3⟩; have hs3 := hb3.size; obtain ⟨q0, q1, q2, q3, q4, q5, q6⟩ := seven_keep hb3 lx ⟨x0, x1, x2, x3, x4, x5, x6⟩; obtain ⟨p0, p1, p2, p3, p4, p5, p6⟩ := seven_keep hb3 ly ⟨y0, y1, y2, y3, y4, y5, y6⟩; have HB3 := Lib.hid (below_step HB1.out.drew hb3); clear hb3)
      | (go_at_call 45; (with_reducible refine (TY.out _).mono ?_); rintro e w4 ⟨rfl, hb4⟩; obtain ⟨r0, r1, r2, r3, r4, r5, r6⟩ := seven_keep hb4 (Nat.lt_of_lt_of_le lx hs3) ⟨q0, q1, q2, q3, q4, q5, q6⟩; obtain ⟨s0, s1, s2, s3, s4, s5, s6⟩ := seven_keep hb4 (Nat.lt_of_lt_of_le ly hs3) ⟨p0, p1, p2, p3, p4, p5, p6⟩; have HB4 := Lib.hid (below_step HB3.out hb4); clear hb4))
  go_wp2_with fail
  go_ret
  exact ⟨by simp, HB4.out⟩

theorem ones_at {w : World} {A : Option Addr} {n c k : Nat} {l : List One} {o : One} (h : Sees w A n c 7 (onesCells l)) (hk : l[k]? = some o) :
    ∃ g f, A = some ⟨g, f, none⟩ ∧ g < w.heap.size ∧ w.cell? ⟨g, f + k * 7, none⟩ = some (.string o.what) ∧ w.cell? ⟨g, f + k * 7 + 1, none⟩ = some (.int .i64 o.type) ∧ w.cell? ⟨g, f + k * 7 + 2, none⟩ = some (.int .i64 (hiOf o.sum)) ∧ w.cell? ⟨g, f + k * 7 + 3, none⟩ = some (.int .u64 (loOf o.sum)) ∧
      w.cell? ⟨g, f + k * 7 + 4, none⟩ = some (.int .i64 o.edge.type) ∧ w.cell? ⟨g, f + k * 7 + 5, none⟩ = some (.int .i64 o.edge.n) ∧ w.cell? ⟨g, f + k * 7 + 6, none⟩ = some (.string o.edge.s) := by
  have hlt : k < l.length := (List.getElem?_eq_some_iff.1 hk).1
  have hl := h.1
  rw [onesCells_length] at hl
  obtain ⟨g, f, e, hg, hc⟩ := h.2.2.2.2 (by omega)
  obtain ⟨a0, a1, a2, a3, a4, a5, a6⟩ := onesCells_at hk
  exact ⟨g, f, e, hg, hc _ _ a0, hc _ _ a1, hc _ _ a2, hc _ _ a3, hc _ _ a4, hc _ _ a5, hc _ _ a6⟩
theorem ones_len {w : World} {A : Option Addr} {n c : Nat} {l : List One} (h : Sees w A n c 7 (onesCells l)) : l.length = n := by
  have hl := h.1
  rw [onesCells_length] at hl
  omega
set_option maxHeartbeats 2000000 in
set_option maxRecDepth 100000 in
theorem equal_any (A E : Option Addr) (n c d : Nat) (l m : List One) (w : World) (hl : Sees w A n c 7 (onesCells l)) (hm : Sees w E n d 7 (onesCells m)) (hk : l.map kdOf = m.map kdOf) :
    Calls Tryd.prog 43 #[.slice A n c, .slice E n d, .func (.func 44) #[] #[]] w fun e w' => e = .returned (.bool true) ∧ Below w.heap.size w w' := by
  have HL := Lib.hid hl
  have HM := Lib.hid hm
  have HLL := Lib.hid (ones_len hl)
  have HML := Lib.hid (ones_len hm)
  have HK := Lib.hid hk
  have hcap := hl.2.1
  have hmax := hl.2.2.1
  have hcap2 := hm.2.1
  have hmax2 := hm.2.2.1
  unfold maxLen at hmax hmax2
  have e0 : ((n : Int) != n) = false := by simp
  clear hl hm hk
  go_enter Tryd.func43, Tryd.ntmps43
  go_wp2_with fail
  go_loopw [17] (fun i wr => ∃ k : Nat, k ≤ n ∧ i = .int .i64 k ∧ Below w.heap.size w wr) (fun i _ => n - (intOf i).toNat)
  case atStart => exact ⟨0, by omega, rfl, Below.refl _ _⟩
  case round =>
    obtain ⟨k, hkn, rfl, hb⟩ := hrel
    have HB := Lib.hid hb
    by_cases hlk : k < n
    · obtain ⟨x, hx⟩ : ∃ x, l[k]? = some x := ⟨_, List.getElem?_eq_getElem (by rw [HLL.out]; exact hlk)⟩
      obtain ⟨y, hy⟩ : ∃ y, m[k]? = some y := ⟨_, List.getElem?_eq_getElem (by rw [HML.out]; exact hlk)⟩
      have hxy : kdOf x = kdOf y := by
        have := congrArg (·[k]?) HK.out
        simp only [List.getElem?_map, hx, hy] at this
        simpa using this
      obtain ⟨ga, fa, rfl, hga, a0, a1, a2, a3, a4, a5, a6⟩ := ones_at (HL.out.keep hb) hx
      obtain ⟨gb, fb, rfl, hgb, b0, b1, b2, b3, b4, b5, b6⟩ := ones_at (HM.out.keep hb) hy
      obtain ⟨w1, hw1⟩ : ∃ w1, wr.alloc (.cells #[.string x.what, .int .i64 x.type, .int .i64 (hiOf x.sum), .int .u64 (loOf x.sum), .int .i64 x.edge.type, .int .i64 x.edge.n, .string x.edge.s] 94) = w1 := ⟨_, rfl⟩
      obtain ⟨w2, hw2⟩ : ∃ w2, w1.alloc (.cells #[.string y.what, .int .i64 y.type, .int .i64 (hiOf y.sum), .int .u64 (loOf y.sum), .int .i64 y.edge.type, .int .i64 y.edge.n, .string y.edge.s] 94) = w2 := ⟨_, rfl⟩
      have hb1 : Below wr.heap.size wr w1 := by rw [← hw1]; exact (Below.refl _ _).alloc (Nat.le_refl _) _
      have hb2 : Below w1.heap.size w1 w2 := by rw [← hw2]; exact (Below.refl _ _).alloc (Nat.le_refl _) _
      have hx0 := heap_alloc_new wr (.cells #[.string x.what, .int .i64 x.type, .int .i64 (hiOf x.sum), .int .u64 (loOf x.sum), .int .i64 x.edge.type, .int .i64 x.edge.n, .string x.edge.s] 94)
      rw [hw1] at hx0
      have hx1 := box7_keep hx0 hb2
      have hy1 := heap_alloc_new w1 (.cells #[.string y.what, .int .i64 y.type, .int .i64 (hiOf y.sum), .int .u64 (loOf y.sum), .int .i64 y.edge.type, .int .i64 y.edge.n, .string y.edge.s] 94)
      rw [hw2] at hy1
      obtain ⟨x0, x1, x2, x3, x4, x5, x6⟩ := box7 hx1
      obtain ⟨y0, y1, y2, y3, y4, y5, y6⟩ := box7 hy1
      obtain ⟨d0, d1, d2, d3, d4, d5, d6⟩ : w1.cell? ⟨gb, fb + k * 7, none⟩ = some (.string y.what) ∧ w1.cell? ⟨gb, fb + k * 7 + 1, none⟩ = some (.int .i64 y.type) ∧ w1.cell? ⟨gb, fb + k * 7 + 2, none⟩ = some (.int .i64 (hiOf y.sum)) ∧ w1.cell? ⟨gb, fb + k * 7 + 3, none⟩ = some (.int .u64 (loOf y.sum)) ∧ w1.cell? ⟨gb, fb + k * 7 + 4, none⟩ = some (.int .i64 y.edge.type) ∧ w1.cell? ⟨gb, fb + k * 7 + 5, none⟩ = some (.int .i64 y.edge.n) ∧ w1.cell? ⟨gb, fb + k * 7 + 6, none⟩ = some (.string y.edge.s) :=
        ⟨(hb1.cell hgb).trans b0, (hb1.cell hgb).trans b1, (hb1.cell hgb).trans b2, (hb1.cell hgb).trans b3, (hb1.cell hgb).trans b4, (hb1.cell hgb).trans b5, (hb1.cell hgb).trans b6⟩
      have HW1 := Lib.hid hw1
      have HW2 := Lib.hid hw2
      have HB2 := Lib.hid (below_step (below_step HB.out hb1) hb2)
      have T := Lib.hid (fun w' => join1_any x y hxy w')
      unfold oneV at T
      clear hx hy hxy hw1 hw2 hb1 hb2 hx0 hx1 hy1 hb
      go_wp2_with (first | rw [HW1.out] | rw [HW2.out] | (go_at_call 44; refine (T.out _).mono ?_; rintro e w3 ⟨rfl, hb3⟩; have HB3 := Lib.hid (below_step HB2.out hb3); clear hb3))
      go_roundw
      case rel => exact ⟨k + 1, by omega, by go_num, HB3.out⟩
      case measure => simp [intOf]; omega
    · clear hb
      go_wp2_with fail
      go_ret
      exact ⟨rfl, HB.out⟩
theorem oneSlice : SliceTy Tryd.prog 86 94 (.agg #[.string ⟨#[]⟩, .int .i64 0, .int .i64 0, .int .u64 0, .int .i64 0, .int .i64 0, .string ⟨#[]⟩]) 7 72 := SliceTy.of Tryd.underlying86 (by kernel_rfl) rfl (by decide) (by decide)
theorem ones_cell' : ∀ (l : List One), ∀ u ∈ onesCells l, u.oneCell' = true
  | [], u, h => by cases h
  | x :: l, u, h => by
    have e : onesCells (x :: l) = oneCells x ++ onesCells l := rfl
    rw [e] at h
    rcases List.mem_append.1 h with h | h
    · unfold oneCells at h
      simp only [List.mem_cons, List.not_mem_nil, or_false] at h
      rcases h with rfl | rfl | rfl | rfl | rfl | rfl | rfl <;> rfl
    · exact ones_cell' l u h
set_option maxHeartbeats 1000000 in
theorem cloneOnes_some (a : Addr) (n c : Nat) (l : List One) (w : World) (hl : Sees w (some a) n c 7 (onesCells l)) (hn : n ≤ 1000000) :
    Calls Tryd.prog 46 #[.slice (some a) n c] w fun e w' => (∃ A' c', e = .returned (.slice A' n c') ∧ Sees w' A' n c' 7 (onesCells l) ∧ ∀ ad, A' = some ad → w.heap.size ≤ ad.block) ∧ Below w.heap.size w w' := by
  have q := fun (w : World) (a : Option Addr) (n c n' c' : Nat) => Lib.run_eql_slice_nil (P := Tryd.prog) w 86 _ a n c n' c' Tryd.underlying86
  have u := fun w => run_underlying (P := Tryd.prog) (w := w) Tryd.underlying86
  have HL := Lib.hid hl
  clear hl
  go_enter Tryd.func46, Tryd.ntmps46
  go_wp2_with (first | (at_builtin; refine wpList_append_src oneSlice rfl _ _ rfl rfl rfl (World.ownsRow_made w #[] 0 (Nat.le_refl _) (Nat.zero_le _) rfl) (HL.out.keep ((Below.refl _ _).alloc (Nat.le_refl _) _)) ((Below.refl _ _).alloc (Nat.le_refl _) _) (Nat.le_refl _) (ones_cell' l) (by omega) ?_))
  intro v' w1 hown hb _
  obtain ⟨A', c', rfl, hs⟩ := Sees.of_own hown
  have HS := Lib.hid hs
  have HB := Lib.hid hb
  have HO := Lib.hid (show ∀ ad, A' = some ad → w.heap.size ≤ ad.block from fun ad e => by
    rcases hown.2 with ⟨e2, _⟩ | ⟨g, cap, cur, e2, hg, _⟩
    · injection e2 with e3; rw [e3] at e; cases e
    · injection e2 with e3; rw [e3] at e; injection e with e; rw [← e]; exact hg)
  clear hown hs hb
  go_wp2_with fail
  go_ret
  exact ⟨⟨A', c', rfl, HS.out, HO.out⟩, HB.out⟩
set_option maxHeartbeats 1000000 in
theorem cloneOnes_none (n c : Nat) (w : World) :
    Calls Tryd.prog 46 #[.slice none n c] w fun e w' => e = .returned (.slice none 0 0) ∧ w = w' := by
  have q := fun (w : World) (a : Option Addr) (n c n' c' : Nat) => Lib.run_eql_slice_nil (P := Tryd.prog) w 86 _ a n c n' c' Tryd.underlying86
  go_enter Tryd.func46, Tryd.ntmps46
  go_wp2_with fail
  go_ret
  exact ⟨rfl, rfl⟩
def CloneSays (n : Nat) (l : List One) (w : World) (e : Ending) (w' : World) : Prop := (∃ A' c', e = .returned (.slice A' n c') ∧ Sees w' A' n c' 7 (onesCells l) ∧ ∀ ad, A' = some ad → w.heap.size ≤ ad.block) ∧ Below w.heap.size w w'
theorem cloneOnes_any (A : Option Addr) (n c : Nat) (l : List One) (w : World) (hl : Sees w A n c 7 (onesCells l)) (hn : n ≤ 1000000) :
    Calls Tryd.prog 46 #[.slice A n c] w (CloneSays n l w) := by
  cases A with
  | some a => exact cloneOnes_some a n c l w hl hn
  | none =>
    obtain ⟨rfl, rfl⟩ := hl.2.2.2.1 rfl
    refine (cloneOnes_none 0 0 w).mono ?_
    rintro e w' ⟨rfl, rfl⟩
    exact ⟨⟨none, 0, rfl, hl, fun ad e => by cases e⟩, Below.refl _ _⟩
end Go.Proofs.YtfdihajhhadidaaDoor
