/- fold.Fold, walked: any expression over any columns made short. -/
import Derived.Test.YtidamhejeaadpaaDoorFoldOf
import Derived.Test.YtidamhejeaadpaaDoorFoldOwn
import Derived.BigRegion
namespace Go.Proofs.YtidamhejeaadpaaDoor
open Go.ChangeShapes Go.WideShapes Go.ChangeAt Go.RowKit

def FoldFnSays (cols : List Col) (e : Ex) (w : World) (r : Ending) (w' : World) : Prop :=
  ((typeOf cols e).h ≠ 0 ∧ r = .returned (.tuple #[exV zeroEx, errV (typeOf cols e).h]) ∧ Below w.heap.size w w') ∨
  ((typeOf cols e).h = 0 ∧ ∃ x, r = .returned (.tuple #[exV x, errV 0]) ∧ SeesS (fun b => w.heap.size ≤ b) w' x ∧ strip x = strip (foldE e) ∧ Below w.heap.size w w')
theorem good_of {w : World} {cols : List Col} {e : Ex} (he : SeesEx w e) (h : (typeOf cols e).h = 0) : Good cols e := ⟨(typeOf_ok h).1, (typeOf_ok h).2.1, wf_of_sees he⟩
set_option maxHeartbeats 4000000 in
set_option maxRecDepth 100000 in
theorem foldFn_any (e : Ex) (C : Option Addr) (p q : Nat) (cols : List Col) (w : World) (hT : Tables w) (hC : SeesCols w C p q cols) (hs : ∀ x ∈ cols, x.name.size ≤ maxLen) (he : SeesEx w e) :
    Calls Tryd.prog 14 #[exV e, .slice C p q] w (FoldFnSays cols e w) := by
  obtain ⟨w0, hw0, ho, hb, -⟩ := box_ex w e
  obtain ⟨w1, hw1⟩ : ∃ w1, w0.alloc (.cells #[.string ⟨#[]⟩, .string ⟨#[]⟩, .int .i64 0, .int .i64 0, .string ⟨#[]⟩, .slice none 0 0, .int .i64 0] 48) = w1 := ⟨_, rfl⟩
  have hb1 := belowNew' w0 (.cells #[.string ⟨#[]⟩, .string ⟨#[]⟩, .int .i64 0, .int .i64 0, .string ⟨#[]⟩, .slice none 0 0, .int .i64 0] 48)
  have hz : Own7 (w0.alloc (.cells #[.string ⟨#[]⟩, .string ⟨#[]⟩, .int .i64 0, .int .i64 0, .string ⟨#[]⟩, .slice none 0 0, .int .i64 0] 48)) w0.heap.size zeroEx := own7_new w0 zeroEx
  rw [hw1] at hb1 hz
  have HX1 := Lib.hid (ho.keep hb1)
  have HZ1 := Lib.hid hz
  have HB1 := Lib.hid (below_step hb hb1)
  have HLE := Lib.hid hb.size
  have HW0 := Lib.hid hw0
  have HW1 := Lib.hid hw1
  have HE := Lib.hid he
  have TK := Lib.hid (typeOf_any e C p q cols w1 (hT.keep HB1.out) (hC.keep HB1.out) hs (he.keep HB1.out))
  unfold ResSays resV exV at TK
  have HG := Lib.hid (fun h : (typeOf cols e).h = 0 => good_of he h)
  have HR1 := Lib.hid (fun (w' : World) (h : Below w.heap.size w w') (hh : (typeOf cols e).h ≠ 0) => show FoldFnSays cols e w (.returned (.tuple #[exV zeroEx, errV (typeOf cols e).h])) w' from Or.inl ⟨hh, rfl, h⟩)
  have HR2 := Lib.hid (fun (x : Ex) (w' : World) (hh : (typeOf cols e).h = 0) (h1 : SeesS (fun b => w.heap.size ≤ b) w' x) (h2 : strip x = strip (foldE e)) (h : Below w.heap.size w w') => show FoldFnSays cols e w (.returned (.tuple #[exV x, errV 0])) w' from Or.inr ⟨hh, x, rfl, h1, h2, h⟩)
  generalize (typeOf cols e).h = k at TK HG HR1 HR2
  generalize (typeOf cols e).t = tt at TK
  generalize (typeOf cols e).p = tp at TK
  obtain ⟨d0, d1, d2, d3, d4, d5, d6⟩ := HX1.out.cells
  have hl1 := HX1.out.lt
  unfold exV
  clear hT hC hs he hw0 hw1 hb hb1 ho hz
  by_cases hk : k = 0
  · have qk : (k != 0) = false := by simp [hk]
    go_enter Tryd.func14, Tryd.ntmps14
    go_wp2_with (first | rw [HW0.out] | rw [HW1.out])
    refine (TK.out).mono ?_
    rintro e' w2 ⟨rfl, hb2⟩
    obtain ⟨w3, hw3⟩ : ∃ w3, w2.alloc (.cells #[.int .i64 k, .int .i64 tp] 88) = w3 := ⟨_, rfl⟩
    have hb3 := belowNew' w2 (.cells #[.int .i64 k, .int .i64 tp] 88)
    have ho3 := heap_alloc_new w2 (.cells #[.int .i64 k, .int .i64 tp] 88)
    rw [hw3] at hb3 ho3
    obtain ⟨q0, q1⟩ : w3.cell? ⟨w2.heap.size, 0, none⟩ = some (.int .i64 k) ∧ w3.cell? ⟨w2.heap.size, 1, none⟩ = some (.int .i64 tp) := ⟨by rw [cell_of_row _ _ _ _ _ _ ho3]; rfl, by rw [cell_of_row _ _ _ _ _ _ ho3]; rfl⟩
    have HB23 := Lib.hid (below_step hb2 hb3)
    have HB3 := Lib.hid (HB1.out.trans (HB23.out.mono HB1.out.size))
    obtain ⟨d0, d1, d2, d3, d4, d5, d6⟩ := (HX1.out.keep HB23.out).cells
    have HZ3 := Lib.hid (HZ1.out.keep HB23.out)
    have T := Lib.hid (foldOf_any (cols := cols) _ e (Nat.le_refl _) (HG.out hk) (fun b => b < w3.heap.size) w3 (fun b h => h) (seesS_of (HE.out.keep HB3.out)))
    unfold FoldSays exV at T
    have HW3 := Lib.hid hw3
    have HK := Lib.hid hk
    clear hw3 hb2 hb3 ho3 hk TK
    go_wp2_with (first | rw [HW3.out])
    refine (T.out).mono ?_
    rintro e' w4 ⟨x, rfl, hsx, hstr, hb4⟩
    have hnx : nodesErr x = 0 := by
      rw [← strip_nodes, hstr, strip_nodes]
      exact (fold_good _ e (Nat.le_refl _) (HG.out HK.out)).1.nodes
    have T2 := Lib.hid (own_any _ x (Nat.le_refl _) hnx w4 hsx.see)
    unfold OwnSays exV at T2
    have HB4 := Lib.hid (HB3.out.trans (hb4.mono HB3.out.size))
    have HZ4 := Lib.hid (HZ3.out.keep hb4)
    have HSTR := Lib.hid hstr
    clear hsx hstr hb4 hnx T d0 d1 d2 d3 d4 d5 d6 q0 q1
    go_wp2_with fail
    refine (T2.out).mono ?_
    rintro e' w5 ⟨y, rfl, hsy, hstr2, hb5⟩
    have HB5 := Lib.hid (HB4.out.trans (hb5.mono HB4.out.size))
    have HZ5 := Lib.hid (HZ4.out.keep hb5)
    have HSY := Lib.hid (show SeesS (fun b => w.heap.size ≤ b ∧ b ≠ w0.heap.size) w5 y from hsy.mono fun b h => ⟨Nat.le_trans HB4.out.size h, by have := HZ4.out.lt; omega⟩)
    have HST2 := Lib.hid (hstr2.trans HSTR.out)
    clear hsy hstr2 hb5 T2
    go_wp2_with (first
      | (refine wpList_store7 rfl (.tmp 4) (.tmp 23) rfl (X := y) HZ5.out rfl (by rfl) ?_; intro w9 hz9 hb9 ha9 hs9))
    have HB9 := Lib.hid (hb9 w.heap.size w HB5.out HLE.out)
    have HS9 := Lib.hid (HSY.out.keep (w' := w9) ⟨by rw [hs9]; exact Nat.le_refl _, fun b hb _ => ha9 b hb.2⟩)
    clear hb9 ha9 hs9
    obtain ⟨o0, o1, o2, o3, o4, o5, o6⟩ := hz9.cells
    refine bodyPost_ret (v := .tuple #[exV y, errV 0]) ?_ rfl ?_
    · simp [results, Tryd.results14, go_sem, o0, o1, o2, o3, o4, o5, o6, exV, errV_zero]
    · exact HR2.out y w9 HK.out (HS9.out.mono fun b h => h.1) HST2.out HB9.out
  · have qk : (k != 0) = true := by simpa using hk
    go_enter Tryd.func14, Tryd.ntmps14
    go_wp2_with (first | rw [HW0.out] | rw [HW1.out])
    refine (TK.out).mono ?_
    rintro e' w2 ⟨rfl, hb2⟩
    obtain ⟨w3, hw3⟩ : ∃ w3, w2.alloc (.cells #[.int .i64 k, .int .i64 tp] 88) = w3 := ⟨_, rfl⟩
    have hb3 := belowNew' w2 (.cells #[.int .i64 k, .int .i64 tp] 88)
    have ho3 := heap_alloc_new w2 (.cells #[.int .i64 k, .int .i64 tp] 88)
    rw [hw3] at hb3 ho3
    obtain ⟨q0, q1⟩ : w3.cell? ⟨w2.heap.size, 0, none⟩ = some (.int .i64 k) ∧ w3.cell? ⟨w2.heap.size, 1, none⟩ = some (.int .i64 tp) := ⟨by rw [cell_of_row _ _ _ _ _ _ ho3]; rfl, by rw [cell_of_row _ _ _ _ _ _ ho3]; rfl⟩
    have HN2 := Lib.hid hb2.size
    have HB23 := Lib.hid (below_step hb2 hb3)
    have HB3 := Lib.hid (HB1.out.trans (HB23.out.mono HB1.out.size))
    have HZ3 := Lib.hid (HZ1.out.keep HB23.out)
    have hz3 := HZ3.out.lt
    have HW3 := Lib.hid hw3
    have HK := Lib.hid hk
    clear hw3 hb2 hb3 ho3 hk TK d0 d1 d2 d3 d4 d5 d6
    have bd := fun (w : World) => run_build w 48 #[] #[.string ⟨#[]⟩, .string ⟨#[]⟩, .int .i64 0, .int .i64 0, .string ⟨#[]⟩, .slice none 0 0, .int .i64 0] (show Tryd.prog.built _ _ = _ by kernel_rfl)
    obtain ⟨z0, z1, z2, z3, z4, z5, z6⟩ := HZ3.out.cells
    obtain ⟨f0, f1, f2, f3, f4, f5, f6⟩ := HZ3.out.frees
    go_wp2_with (first | rw [HW3.out])
    have hne : w2.heap.size ≠ w0.heap.size := Nat.ne_of_gt (Nat.lt_of_lt_of_le HZ1.out.lt HN2.out)
    have g1 : (w3.setCell ⟨w0.heap.size, 0, none⟩ (.string ⟨#[]⟩)).cell? ⟨w2.heap.size, 0, none⟩ = some (.int .i64 k) := by
      rw [World.cell?_of_block (w := w3) (a := ⟨w2.heap.size, 0, none⟩) (heap_setCell_other _ _ _ _ hne), q0]
    go_region
    have h6 : Own7 (putAll w3 w0.heap.size 0 [.string ⟨#[]⟩, .string ⟨#[]⟩, .int .i64 0, .int .i64 0, .string ⟨#[]⟩, .slice none 0 0, .int .i64 0]) w0.heap.size zeroEx := HZ3.out.put zeroEx
    have hb6 := putAll_below [.string ⟨#[]⟩, .string ⟨#[]⟩, .int .i64 0, .int .i64 0, .string ⟨#[]⟩, .slice none 0 0, .int .i64 0] _ _ _ w0.heap.size 0 HB3.out HLE.out
    simp only [putAll, Nat.zero_add, Nat.reduceAdd] at h6 hb6
    have HO6 := Own7.keep h6 ((Below.refl _ _).drew)
    have HB6 := Lib.hid hb6.drew
    clear h6 hb6
    generalize (((((((w3.setCell ⟨w0.heap.size, 0, none⟩ (.string ⟨#[]⟩)).setCell ⟨w0.heap.size, 1, none⟩ (.string ⟨#[]⟩)).setCell ⟨w0.heap.size, 2, none⟩ (.int .i64 0)).setCell ⟨w0.heap.size, 3, none⟩ (.int .i64 0)).setCell ⟨w0.heap.size, 4, none⟩ (.string ⟨#[]⟩)).setCell ⟨w0.heap.size, 5, none⟩ (.slice none 0 0)).setCell ⟨w0.heap.size, 6, none⟩ (.int .i64 0)).drew = w6 at HO6 HB6 ⊢
    clear z0 z1 z2 z3 z4 z5 z6 f0 f1 f2 f3 f4 f5 f6 g1 hne bd
    go_wp2_with fail
    obtain ⟨o0, o1, o2, o3, o4, o5, o6⟩ := HO6.cells
    refine bodyPost_ret (v := .tuple #[exV zeroEx, errV k]) ?_ rfl ?_
    · rw [errV_ne HK.out]
      simp [results, Tryd.results14, go_sem, o0, o1, o2, o3, o4, o5, o6, exV]
    · exact HR1.out w6 HB6.out HK.out
end Go.Proofs.YtidamhejeaadpaaDoor
