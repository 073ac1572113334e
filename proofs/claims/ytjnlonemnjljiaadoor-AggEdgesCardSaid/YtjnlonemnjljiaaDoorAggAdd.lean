/- agg.One.add, walked: a total and a value more, in the row of the aggregates. -/
import Derived.Test.YtjnlonemnjljiaaDoorAggOnly
import Derived.Deep.RegionLaw
namespace Go.Proofs.YtjnlonemnjljiaaDoor
open Go.ChangeShapes Go.WideShapes Go.ChangeAt Go.RowKit

def AddSays (B g k cap : Nat) (ones : List One) (o : One) (t : Int) (ed : Val) (first : Bool) (w : World) (e : Ending) (w' : World) : Prop :=
  e = .returned (.tuple #[]) ∧ OnesAt w' B g cap (ones.set k (addOne o t ed first)) ∧ Only (· = g) w w'
/-- Behind the call for the sum: what the store needs, and what holds behind it. -/
theorem add_mid {B g k cap : Nat} {ones : List One} {o : One} {w w0 w3 : World} {x y z x2 y2 : Value} {v : Int} {T1 T2 : TypeId} (hown : OnesAt w B g cap ones) (hk : ones[k]? = some o)
    (hb0 : Below w.heap.size w w0) (h1 : w0.heap[w.heap.size]? = some (.cells #[x2, y2] T1 (0, 0))) (h2 : w0.heap[w.heap.size + 1]? = some (.cells #[x, y, z] T2 (0, 0))) (hb : Below w0.drew.heap.size w0.drew w3) :
    ((∃ u, w3.cell? ⟨g, k * 7 + 2, none⟩ = some u) ∧ (∃ u, w3.cell? ⟨g, k * 7 + 3, none⟩ = some u) ∧ w3.frozen? ⟨g, k * 7 + 2, none⟩ = false ∧ w3.frozen? ⟨g, k * 7 + 3, none⟩ = false) ∧
    ∃ w4, (w3.setCell ⟨g, k * 7 + 2, none⟩ (.int .i64 (hiOf v))).setCell ⟨g, k * 7 + 2 + 1, none⟩ (.int .u64 (loOf v)) = w4 ∧ OnesAt w4 B g cap (ones.set k ⟨o.what, o.type, v, o.edge⟩) ∧ Only (· = g) w w4 ∧
      w4.heap[w.heap.size]? = some (.cells #[x2, y2] T1 (0, 0)) ∧ w4.heap[w.heap.size + 1]? = some (.cells #[x, y, z] T2 (0, 0)) ∧ w.heap.size + 1 < w4.heap.size := by
  have hg := hown.lt g rfl
  have hb3 : Below w.heap.size w w3 := below_step hb0.drew hb
  have h3 := own_keep hown hb3
  obtain ⟨⟨-, -, k2, k3, -⟩, f2, f3, -⟩ := OnesAt.facts h3 hk
  have e1 : w.heap.size < w0.drew.heap.size := (Array.getElem?_eq_some_iff.1 h1).1
  have e2 : w.heap.size + 1 < w0.drew.heap.size := (Array.getElem?_eq_some_iff.1 h2).1
  refine ⟨⟨⟨_, k2⟩, ⟨_, k3⟩, f2, f3⟩, _, rfl, OnesAt.setSum h3 hk v, Only.setCell (S := (· = g)) (Only.setCell (S := (· = g)) (Only.of_below hb3) rfl _) rfl _, ?_, ?_, ?_⟩
  · rw [heap_setCell_other _ _ _ _ (by simp; omega), heap_setCell_other _ _ _ _ (by simp; omega), hb.block _ e1]; exact h1
  · rw [heap_setCell_other _ _ _ _ (by simp; omega), heap_setCell_other _ _ _ _ (by simp; omega), hb.block _ e2]; exact h2
  · have := hb.size
    simp only [World.setCell, Array.size_modify]
    omega
theorem add_late {B g k cap b : Nat} {ones : List One} {o : One} {w w4 : World} {x y z : Value} {T : TypeId} (h : OnesAt w4 B g cap ones) (hk : ones[k]? = some o)
    (h2 : w4.heap[b]? = some (.cells #[x, y, z] T (0, 0))) (hy : Only (· = g) w w4) (w5 : World) (hb : Below w4.drew.heap.size w4.drew w5) :
    OnesAt w5 B g cap ones ∧ (w5.cell? ⟨b, 0, none⟩ = some x ∧ w5.cell? ⟨b, 1, none⟩ = some y ∧ w5.cell? ⟨b, 2, none⟩ = some z) ∧ w5.cell? ⟨g, k * 7, none⟩ = some (.string o.what) ∧
      w5.cell? ⟨g, k * 7 + 4, none⟩ = some (.int .i64 o.edge.type) ∧ w5.cell? ⟨g, k * 7 + 5, none⟩ = some (.int .i64 o.edge.n) ∧ w5.cell? ⟨g, k * 7 + 6, none⟩ = some (.string o.edge.s) ∧
      w5.frozen? ⟨g, k * 7 + 4, none⟩ = false ∧ w5.frozen? ⟨g, k * 7 + 5, none⟩ = false ∧ w5.frozen? ⟨g, k * 7 + 6, none⟩ = false ∧ Only (· = g) w w5 := by
  have h5 : OnesAt w5 B g cap ones := own_keep h (show Below w4.heap.size w4 w5 from ⟨hb.os, hb.tape, hb.output, hb.size, hb.block⟩)
  obtain ⟨⟨k0, -, -, -, k4, k5, k6⟩, -, -, f4, f5, f6⟩ := OnesAt.facts h5 hk
  refine ⟨h5, box3 (T := T) ((hb.block b (show b < w4.heap.size from (Array.getElem?_eq_some_iff.1 h2).1)).trans h2), k0, k4, k5, k6, f4, f5, f6, ?_⟩
  exact hy.trans (Only.of_below (show Below w4.heap.size w4 w5 from ⟨hb.os, hb.tape, hb.output, hb.size, hb.block⟩))
set_option maxHeartbeats 2000000 in
set_option maxRecDepth 100000 in
theorem add_first (B g k cap : Nat) (ones : List One) (o : One) (t : Int) (ed : Val) (w : World) (hown : OnesAt w B g cap ones) (hk : ones[k]? = some o) (h1 : small o.sum) (h2 : small t) :
    Calls Tryd.prog 34 #[.pointer (some ⟨g, k * 7, none⟩), totV t, valV ed, .bool true] w (AddSays B g k cap ones o t ed true w) := by
  obtain ⟨w0, hw0⟩ : ∃ w0, (w.alloc (.cells #[.int .i64 (hiOf t), .int .u64 (loOf t)] 85)).alloc (.cells #[.int .i64 ed.type, .int .i64 ed.n, .string ed.s] 29) = w0 := ⟨_, rfl⟩
  have hb0 : Below w.heap.size w w0 := by rw [← hw0]; exact ((Below.refl _ _).alloc (Nat.le_refl _) _).alloc (by simp) _
  have hB1 : w0.heap[w.heap.size]? = some (.cells #[.int .i64 (hiOf t), .int .u64 (loOf t)] 85 (0, 0)) := by
    rw [← hw0, Below.heap_alloc _ _ _ (by simp)]; exact heap_alloc_new w _
  have hB2 : w0.heap[w.heap.size + 1]? = some (.cells #[.int .i64 ed.type, .int .i64 ed.n, .string ed.s] 29 (0, 0)) := by
    rw [← hw0]
    have := heap_alloc_new (w.alloc (.cells #[.int .i64 (hiOf t), .int .u64 (loOf t)] 85)) (.cells #[.int .i64 ed.type, .int .i64 ed.n, .string ed.s] 29)
    simpa using this
  have HW0 := Lib.hid hw0
  obtain ⟨b0, b1⟩ := box2 hB1
  obtain ⟨⟨-, -, k2, k3, -⟩, -⟩ := OnesAt.facts (own_keep hown hb0) hk
  have T := Lib.hid (fun w' => plus_any o.sum t w' h1 h2)
  have HK := Lib.hid hk
  have HE := Lib.hid (show addOne o t ed true = ⟨o.what, o.type, o.sum + t, ed⟩ by simp [addOne, takes])
  have M := Lib.hid (fun w3 => add_mid (v := o.sum + t) (w3 := w3) hown hk hb0 hB1 hB2)
  unfold totV at T ⊢
  unfold valV
  clear hw0 hb0 hB1 hB2 hown hk h1 h2
  generalize hsum : o.sum + t = v at *
  clear hsum
  go_enter Tryd.func34, Tryd.ntmps34
  go_wp2_with (first | rw [HW0.out])
  go_region_law (go_simp; go_at_call 65; refine (T.out _).mono ?_; rintro e w3 ⟨rfl, hb3⟩; obtain ⟨⟨⟨u2, q2⟩, ⟨u3, q3⟩, f2, f3⟩, w4, hw4, ho4, hy4, hz1, hz2, -⟩ := M.out w3 hb3; have HW4 := Lib.hid hw4; have HO4 := Lib.hid ho4; have HY4 := Lib.hid hy4; have HZ4 := Lib.hid hz2; clear hb3 hw4 ho4 hy4 hz1 hz2)
  all_goals
    rw [HW4.out]
    obtain ⟨z0, z1, z2⟩ := box3 HZ4.out
    obtain ⟨⟨-, -, -, -, k4, k5, k6⟩, -, -, f4, f5, f6⟩ := OnesAt.facts HO4.out (List.getElem?_set_self (List.getElem?_eq_some_iff.1 HK.out).1)
    go_wp2_with fail
    go_end0
    refine ⟨rfl, ?_, Only.setCell (S := (· = g)) (Only.setCell (S := (· = g)) (Only.setCell (S := (· = g)) HY4.out rfl _) rfl _) rfl _⟩
    have := OnesAt.setEdge HO4.out (List.getElem?_set_self (List.getElem?_eq_some_iff.1 HK.out).1) ed
    rw [HE.out]
    simpa using this
set_option maxHeartbeats 2000000 in
set_option maxRecDepth 100000 in
theorem add_more (B g k cap : Nat) (ones : List One) (o : One) (t : Int) (ed : Val) (w : World) (hown : OnesAt w B g cap ones) (hk : ones[k]? = some o) (h1 : small o.sum) (h2 : small t) (bl bm bc bd : Bool) (hbl : isLeast o.what = bl) (hbm : isMost o.what = bm) (hbc : decide (vorder ed o.edge < 0) = bc) (hbd : decide (0 < vorder ed o.edge) = bd) :
    Calls Tryd.prog 34 #[.pointer (some ⟨g, k * 7, none⟩), totV t, valV ed, .bool false] w (AddSays B g k cap ones o t ed false w) := by
  obtain ⟨w0, hw0⟩ : ∃ w0, (w.alloc (.cells #[.int .i64 (hiOf t), .int .u64 (loOf t)] 85)).alloc (.cells #[.int .i64 ed.type, .int .i64 ed.n, .string ed.s] 29) = w0 := ⟨_, rfl⟩
  have hb0 : Below w.heap.size w w0 := by rw [← hw0]; exact ((Below.refl _ _).alloc (Nat.le_refl _) _).alloc (by simp) _
  have hB1 : w0.heap[w.heap.size]? = some (.cells #[.int .i64 (hiOf t), .int .u64 (loOf t)] 85 (0, 0)) := by
    rw [← hw0, Below.heap_alloc _ _ _ (by simp)]; exact heap_alloc_new w _
  have hB2 : w0.heap[w.heap.size + 1]? = some (.cells #[.int .i64 ed.type, .int .i64 ed.n, .string ed.s] 29 (0, 0)) := by
    rw [← hw0]
    have := heap_alloc_new (w.alloc (.cells #[.int .i64 (hiOf t), .int .u64 (loOf t)] 85)) (.cells #[.int .i64 ed.type, .int .i64 ed.n, .string ed.s] 29)
    simpa using this
  have HW0 := Lib.hid hw0
  obtain ⟨b0, b1⟩ := box2 hB1
  obtain ⟨⟨-, -, k2, k3, -⟩, -⟩ := OnesAt.facts (own_keep hown hb0) hk
  have T := Lib.hid (fun w' => plus_any o.sum t w' h1 h2)
  have HK := Lib.hid hk
  have HE := Lib.hid (show addOne o t ed false = ⟨o.what, o.type, o.sum + t, if ((bl && bc) || (bm && bd)) = true then ed else o.edge⟩ by subst hbl hbm hbc hbd; simp [addOne, takes])
  have e1 : (o.what.toList == [108, 101, 97, 115, 116]) = bl := by rw [Lib.toList_data]; exact hbl
  have e2 : (o.what.toList == [109, 111, 115, 116]) = bm := by rw [Lib.toList_data]; exact hbm
  have TO := Lib.hid (fun w' => vorder_any ed o.edge w')
  have LM := Lib.hid (show bl = true → bm = false from fun h => by subst hbl hbm; exact least_not_most h)
  generalize vorder ed o.edge = vc at hbc hbd TO
  have M := Lib.hid (fun w3 => add_mid (v := o.sum + t) (w3 := w3) hown hk hb0 hB1 hB2)
  unfold totV at T ⊢
  unfold valV at TO ⊢
  clear hw0 hb0 hB1 hB2 hown hk h1 h2 hbl hbm
  generalize hsum : o.sum + t = v at *
  clear hsum
  go_enter Tryd.func34, Tryd.ntmps34
  go_wp2_with (first | rw [HW0.out])
  go_region_law (go_simp; go_at_call 65; refine (T.out _).mono ?_; rintro e w3 ⟨rfl, hb3⟩; obtain ⟨⟨⟨u2, q2⟩, ⟨u3, q3⟩, f2, f3⟩, w4, hw4, ho4, hy4, hz1, hz2, -⟩ := M.out w3 hb3; have HW4 := Lib.hid hw4; have HO4 := Lib.hid ho4; have HY4 := Lib.hid hy4; have HZ4 := Lib.hid hz2; clear hb3 hw4 ho4 hy4 hz1 hz2)
  all_goals
    rw [HW4.out]
    obtain ⟨z0, z1, z2⟩ := box3 HZ4.out
    obtain ⟨⟨-, -, -, -, k4, k5, k6⟩, -, -, f4, f5, f6⟩ := OnesAt.facts HO4.out (List.getElem?_set_self (List.getElem?_eq_some_iff.1 HK.out).1)
    have LT := add_late (B := B) (g := g) (cap := cap) HO4.out (List.getElem?_set_self (List.getElem?_eq_some_iff.1 HK.out).1) HZ4.out HY4.out
    have HLT := Lib.hid LT
    clear LT
    go_wp2_with fail
    go_still_tail 5, (by kernel_rfl)
    change wpList _ _ _ _ _ w4.drew
    go_wp2_with fail
    refine (TO.out _).mono ?_
    rintro e w5 ⟨rfl, hb5⟩
    obtain ⟨ho5, ⟨z0, z1, z2⟩, c0, k4, k5, k6, f4, f5, f6, hy5⟩ := HLT.out w5 hb5
    have HO5 := Lib.hid ho5
    have HY5 := Lib.hid hy5
    clear hb5 ho5 hy5
    cases bl with
    | true =>
      obtain rfl := LM.out rfl
      cases bc with
      | true =>
        go_wp2_with fail
        go_end0
        refine ⟨rfl, ?_, Only.setCell (S := (· = g)) (Only.setCell (S := (· = g)) (Only.setCell (S := (· = g)) HY5.out rfl _) rfl _) rfl _⟩
        have := OnesAt.setEdge HO5.out (List.getElem?_set_self (List.getElem?_eq_some_iff.1 HK.out).1) ed
        rw [HE.out]
        simpa using this
      | false =>
        go_wp2_with fail
        go_end0
        refine ⟨rfl, ?_, HY5.out⟩
        rw [HE.out]
        exact HO5.out
    | false =>
      cases bm with
      | true =>
        cases bd with
        | true =>
          go_wp2_with fail
          go_end0
          refine ⟨rfl, ?_, Only.setCell (S := (· = g)) (Only.setCell (S := (· = g)) (Only.setCell (S := (· = g)) HY5.out rfl _) rfl _) rfl _⟩
          have := OnesAt.setEdge HO5.out (List.getElem?_set_self (List.getElem?_eq_some_iff.1 HK.out).1) ed
          rw [HE.out]
          simpa using this
        | false =>
          go_wp2_with fail
          go_end0
          refine ⟨rfl, ?_, HY5.out⟩
          rw [HE.out]
          exact HO5.out
      | false =>
        go_wp2_with fail
        go_end0
        refine ⟨rfl, ?_, HY5.out⟩
        rw [HE.out]
        exact HO5.out
theorem add_any (B g k cap : Nat) (ones : List One) (o : One) (t : Int) (ed : Val) (first : Bool) (w : World) (hown : OnesAt w B g cap ones) (hk : ones[k]? = some o) (h1 : small o.sum) (h2 : small t) :
    Calls Tryd.prog 34 #[.pointer (some ⟨g, k * 7, none⟩), totV t, valV ed, .bool first] w (AddSays B g k cap ones o t ed first w) := by
  cases first with
  | true => exact add_first B g k cap ones o t ed w hown hk h1 h2
  | false => exact add_more B g k cap ones o t ed w hown hk h1 h2 _ _ _ _ rfl rfl rfl rfl
end Go.Proofs.YtjnlonemnjljiaaDoor
