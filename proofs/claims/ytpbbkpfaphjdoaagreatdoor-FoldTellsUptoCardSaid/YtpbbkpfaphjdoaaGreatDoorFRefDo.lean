/- sluiceref1.truth, sluiceref1.Do: walked. -/
import Derived.Test.YtpbbkpfaphjdoaaGreatDoorFRefRec2
import Derived.Test.YtpbbkpfaphjdoaaGreatDoorFOrdLaw
import Derived.Test.YtpbbkpfaphjdoaaGreatDoorFRefVal
import Derived.Test.YtpbbkpfaphjdoaaGreatDoorFApply
namespace Go.Proofs.YtpbbkpfaphjdoaaGreatDoor
open Go.ChangeShapes Go.WideShapes Go.ChangeAt Go.RowKit
set_option maxHeartbeats 1000000 in
theorem rtruth_any (b : Bool) (w : World) :
  Calls Tryz.prog 139 #[.bool b] w fun e w' => e = .returned (valV (truthV b)) ∧ Below w.heap.size w w' := by
 have ho := own3_new w noVal
 have hb := belowNew w (.cells #[.int .i64 noVal.type, .int .i64 noVal.n, .string noVal.s] 23)
 obtain ⟨w0, hw0⟩ : ∃ w0, w.alloc (.cells #[.int .i64 0, .int .i64 0, .string ⟨#[]⟩] 23) = w0 := ⟨_, rfl⟩
 have HO := Lib.hid (show Own3 w0 w.heap.size noVal by rw [← hw0]; exact ho)
 have HB := Lib.hid (show Below w.heap.size w w0 by rw [← hw0]; exact hb)
 have HW := Lib.hid hw0
 clear ho hb hw0
 obtain ⟨o0, o1, o2, z0, z1, z2, hlt⟩ := HO.out.cells
 cases b
 all_goals
  go_enter Tryz.func139, Tryz.ntmps139
  go_wp2_with (first | rw [HW.out])
 ·have HO9 := own3_set HO.out 2 0 ⟨#[]⟩
  have HB9 := Lib.hid (below_set3 HB.out (Nat.le_refl _) 2 0 ⟨#[]⟩)
  generalize ((w0.setCell ⟨w.heap.size, 0, none⟩ (.int .i64 2)).setCell ⟨w.heap.size, 1, none⟩ (.int .i64 0)).setCell ⟨w.heap.size, 2, none⟩ (.string ⟨#[]⟩) = w9 at HO9 HB9 ⊢
  clear o0 o1 o2 z0 z1 z2 hlt
  obtain ⟨o0, o1, o2, z0, z1, z2, hlt⟩ := HO9.cells
  exact bodyPost_ret (v := valV (truthV false)) (by simp [results, Tryz.results139, go_sem, o0, o1, o2, valV, truthV]) rfl ⟨rfl, HB9.out⟩
 ·have HO9 := own3_set HO.out 2 1 ⟨#[]⟩
  have HB9 := Lib.hid (below_set3 HB.out (Nat.le_refl _) 2 1 ⟨#[]⟩)
  generalize ((w0.setCell ⟨w.heap.size, 0, none⟩ (.int .i64 2)).setCell ⟨w.heap.size, 1, none⟩ (.int .i64 1)).setCell ⟨w.heap.size, 2, none⟩ (.string ⟨#[]⟩) = w9 at HO9 HB9 ⊢
  clear o0 o1 o2 z0 z1 z2 hlt
  obtain ⟨o0, o1, o2, z0, z1, z2, hlt⟩ := HO9.cells
  exact bodyPost_ret (v := valV (truthV true)) (by simp [results, Tryz.results139, go_sem, o0, o1, o2, valV, truthV]) rfl ⟨rfl, HB9.out⟩
def RDoSays (v : Val) (k : Int) (w : World) (e : Ending) (w' : World) : Prop := e = .returned (.tuple #[valV v, .int .i64 k]) ∧ Below w.heap.size w w'
set_option maxHeartbeats 4000000 in
set_option maxRecDepth 100000 in
theorem rdo_or (l : List Val) (x y : Val) (A : Option Addr) (c : Nat) (w : World) (hl : SeesVals w A 2 c l) (h0 : l[0]? = some x) (h1 : l[1]? = some y) (bx : x.n = 0 ∨ x.n = 1) (bY : y.n = 0 ∨ y.n = 1) :
  Calls Tryz.prog 72 #[.string ⟨#[111, 114]⟩, .slice A 2 c] w (RDoSays (truthV (decide (0 < x.n + y.n))) (0) w) := by
 obtain ⟨w0, hw0⟩ : ∃ w0, w.alloc (.cells #[.int .i64 0, .int .i64 0, .string ⟨#[]⟩] 23) = w0 := ⟨_, rfl⟩
 have hb0 : Below w.heap.size w w0 := by rw [← hw0]; exact belowNew _ _
 have ho : Own3 w0 w.heap.size noVal := by rw [← hw0]; exact own3_new w noVal
 obtain ⟨g, o, x', rfl, hg, hx, c0, c1, c2⟩ := (hl.keep hb0).at_ (k := 0) (by omega)
 obtain rfl : x = x' := by rw [h0] at hx; exact Option.some.inj hx
 clear hx
 obtain ⟨g', o', q', e, _, hq, d0, d1, d2⟩ := (hl.keep hb0).at_ (k := 1) (by omega)
 cases e
 obtain rfl : y = q' := by rw [h1] at hq; exact Option.some.inj hq
 clear hq
 have hcap := hl.2.2.1
 have hmax := hl.2.2.2.1
 unfold maxLen at hmax
 simp only [Nat.zero_mul, Nat.add_zero, Nat.one_mul] at c0 c1 c2 d0 d1 d2
 have HO := Lib.hid ho
 have HB := Lib.hid hb0
 have HW0 := Lib.hid hw0
 clear hl h0 h1 ho hb0 hw0
 rcases bx with p1 | p1 <;> rcases bY with p2 | p2
 ·have HE := Lib.hid (show decide (0 < x.n + y.n) = false by rw [p1, p2]; rfl)
  have q1 : (x.n == 1) = false := by rw [p1]; rfl
  have q2 : (y.n == 1) = false := by rw [p2]; rfl
  clear p1 p2
  go_enter Tryz.func72, Tryz.ntmps72
  go_wp2_with (first | rw [HW0.out])
  refine (rtruth_any false w0).mono ?_
  rintro e w3 ⟨rfl, hb3⟩
  have HO3 := Lib.hid (HO.out.keep hb3)
  have HB3 := Lib.hid (below_step HB.out hb3)
  clear hb3
  obtain ⟨o0, o1, o2, z0, z1, z2, hlt⟩ := HO3.out.cells
  unfold valV truthV
  go_wp2_with fail
  rw [HE.out]
  have HO9 := own3_set HO3.out 2 0 ⟨#[]⟩
  have HB9 := Lib.hid (below_set3 HB3.out (Nat.le_refl _) 2 0 ⟨#[]⟩)
  generalize ((w3.setCell ⟨w.heap.size, 0, none⟩ (.int .i64 2)).setCell ⟨w.heap.size, 1, none⟩ (.int .i64 0)).setCell ⟨w.heap.size, 2, none⟩ (.string ⟨#[]⟩) = w9 at HO9 HB9 ⊢
  clear o0 o1 o2 z0 z1 z2 hlt
  obtain ⟨o0, o1, o2, z0, z1, z2, hlt⟩ := HO9.cells
  exact bodyPost_ret (v := .tuple #[valV (truthV false), .int .i64 (0)]) (by simp [results, Tryz.results72, go_sem, o0, o1, o2, valV, truthV]) rfl ⟨rfl, HB9.out⟩
 ·have HE := Lib.hid (show decide (0 < x.n + y.n) = true by rw [p1, p2]; rfl)
  have q1 : (x.n == 1) = false := by rw [p1]; rfl
  have q2 : (y.n == 1) = true := by rw [p2]; rfl
  clear p1 p2
  go_enter Tryz.func72, Tryz.ntmps72
  go_wp2_with (first | rw [HW0.out])
  refine (rtruth_any true w0).mono ?_
  rintro e w3 ⟨rfl, hb3⟩
  have HO3 := Lib.hid (HO.out.keep hb3)
  have HB3 := Lib.hid (below_step HB.out hb3)
  clear hb3
  obtain ⟨o0, o1, o2, z0, z1, z2, hlt⟩ := HO3.out.cells
  unfold valV truthV
  go_wp2_with fail
  rw [HE.out]
  have HO9 := own3_set HO3.out 2 1 ⟨#[]⟩
  have HB9 := Lib.hid (below_set3 HB3.out (Nat.le_refl _) 2 1 ⟨#[]⟩)
  generalize ((w3.setCell ⟨w.heap.size, 0, none⟩ (.int .i64 2)).setCell ⟨w.heap.size, 1, none⟩ (.int .i64 1)).setCell ⟨w.heap.size, 2, none⟩ (.string ⟨#[]⟩) = w9 at HO9 HB9 ⊢
  clear o0 o1 o2 z0 z1 z2 hlt
  obtain ⟨o0, o1, o2, z0, z1, z2, hlt⟩ := HO9.cells
  exact bodyPost_ret (v := .tuple #[valV (truthV true), .int .i64 (0)]) (by simp [results, Tryz.results72, go_sem, o0, o1, o2, valV, truthV]) rfl ⟨rfl, HB9.out⟩
 ·have HE := Lib.hid (show decide (0 < x.n + y.n) = true by rw [p1, p2]; rfl)
  have q1 : (x.n == 1) = true := by rw [p1]; rfl
  have q2 : (y.n == 1) = false := by rw [p2]; rfl
  clear p1 p2
  go_enter Tryz.func72, Tryz.ntmps72
  go_wp2_with (first | rw [HW0.out])
  refine (rtruth_any true w0).mono ?_
  rintro e w3 ⟨rfl, hb3⟩
  have HO3 := Lib.hid (HO.out.keep hb3)
  have HB3 := Lib.hid (below_step HB.out hb3)
  clear hb3
  obtain ⟨o0, o1, o2, z0, z1, z2, hlt⟩ := HO3.out.cells
  unfold valV truthV
  go_wp2_with fail
  rw [HE.out]
  have HO9 := own3_set HO3.out 2 1 ⟨#[]⟩
  have HB9 := Lib.hid (below_set3 HB3.out (Nat.le_refl _) 2 1 ⟨#[]⟩)
  generalize ((w3.setCell ⟨w.heap.size, 0, none⟩ (.int .i64 2)).setCell ⟨w.heap.size, 1, none⟩ (.int .i64 1)).setCell ⟨w.heap.size, 2, none⟩ (.string ⟨#[]⟩) = w9 at HO9 HB9 ⊢
  clear o0 o1 o2 z0 z1 z2 hlt
  obtain ⟨o0, o1, o2, z0, z1, z2, hlt⟩ := HO9.cells
  exact bodyPost_ret (v := .tuple #[valV (truthV true), .int .i64 (0)]) (by simp [results, Tryz.results72, go_sem, o0, o1, o2, valV, truthV]) rfl ⟨rfl, HB9.out⟩
 ·have HE := Lib.hid (show decide (0 < x.n + y.n) = true by rw [p1, p2]; rfl)
  have q1 : (x.n == 1) = true := by rw [p1]; rfl
  have q2 : (y.n == 1) = true := by rw [p2]; rfl
  clear p1 p2
  go_enter Tryz.func72, Tryz.ntmps72
  go_wp2_with (first | rw [HW0.out])
  refine (rtruth_any true w0).mono ?_
  rintro e w3 ⟨rfl, hb3⟩
  have HO3 := Lib.hid (HO.out.keep hb3)
  have HB3 := Lib.hid (below_step HB.out hb3)
  clear hb3
  obtain ⟨o0, o1, o2, z0, z1, z2, hlt⟩ := HO3.out.cells
  unfold valV truthV
  go_wp2_with fail
  rw [HE.out]
  have HO9 := own3_set HO3.out 2 1 ⟨#[]⟩
  have HB9 := Lib.hid (below_set3 HB3.out (Nat.le_refl _) 2 1 ⟨#[]⟩)
  generalize ((w3.setCell ⟨w.heap.size, 0, none⟩ (.int .i64 2)).setCell ⟨w.heap.size, 1, none⟩ (.int .i64 1)).setCell ⟨w.heap.size, 2, none⟩ (.string ⟨#[]⟩) = w9 at HO9 HB9 ⊢
  clear o0 o1 o2 z0 z1 z2 hlt
  obtain ⟨o0, o1, o2, z0, z1, z2, hlt⟩ := HO9.cells
  exact bodyPost_ret (v := .tuple #[valV (truthV true), .int .i64 (0)]) (by simp [results, Tryz.results72, go_sem, o0, o1, o2, valV, truthV]) rfl ⟨rfl, HB9.out⟩
set_option maxHeartbeats 4000000 in
set_option maxRecDepth 100000 in
theorem rdo_and (l : List Val) (x y : Val) (A : Option Addr) (c : Nat) (w : World) (hl : SeesVals w A 2 c l) (h0 : l[0]? = some x) (h1 : l[1]? = some y) (bx : x.n = 0 ∨ x.n = 1) (bY : y.n = 0 ∨ y.n = 1) :
  Calls Tryz.prog 72 #[.string ⟨#[97, 110, 100]⟩, .slice A 2 c] w (RDoSays (truthV (decide (1 < x.n + y.n))) (0) w) := by
 obtain ⟨w0, hw0⟩ : ∃ w0, w.alloc (.cells #[.int .i64 0, .int .i64 0, .string ⟨#[]⟩] 23) = w0 := ⟨_, rfl⟩
 have hb0 : Below w.heap.size w w0 := by rw [← hw0]; exact belowNew _ _
 have ho : Own3 w0 w.heap.size noVal := by rw [← hw0]; exact own3_new w noVal
 obtain ⟨g, o, x', rfl, hg, hx, c0, c1, c2⟩ := (hl.keep hb0).at_ (k := 0) (by omega)
 obtain rfl : x = x' := by rw [h0] at hx; exact Option.some.inj hx
 clear hx
 obtain ⟨g', o', q', e, _, hq, d0, d1, d2⟩ := (hl.keep hb0).at_ (k := 1) (by omega)
 cases e
 obtain rfl : y = q' := by rw [h1] at hq; exact Option.some.inj hq
 clear hq
 have hcap := hl.2.2.1
 have hmax := hl.2.2.2.1
 unfold maxLen at hmax
 simp only [Nat.zero_mul, Nat.add_zero, Nat.one_mul] at c0 c1 c2 d0 d1 d2
 have HO := Lib.hid ho
 have HB := Lib.hid hb0
 have HW0 := Lib.hid hw0
 clear hl h0 h1 ho hb0 hw0
 rcases bx with p1 | p1 <;> rcases bY with p2 | p2
 ·have HE := Lib.hid (show decide (1 < x.n + y.n) = false by rw [p1, p2]; rfl)
  have q1 : (x.n == 1) = false := by rw [p1]; rfl
  have q2 : (y.n == 1) = false := by rw [p2]; rfl
  clear p1 p2
  go_enter Tryz.func72, Tryz.ntmps72
  go_wp2_with (first | rw [HW0.out])
  refine (rtruth_any false w0).mono ?_
  rintro e w3 ⟨rfl, hb3⟩
  have HO3 := Lib.hid (HO.out.keep hb3)
  have HB3 := Lib.hid (below_step HB.out hb3)
  clear hb3
  obtain ⟨o0, o1, o2, z0, z1, z2, hlt⟩ := HO3.out.cells
  unfold valV truthV
  go_wp2_with fail
  rw [HE.out]
  have HO9 := own3_set HO3.out 2 0 ⟨#[]⟩
  have HB9 := Lib.hid (below_set3 HB3.out (Nat.le_refl _) 2 0 ⟨#[]⟩)
  generalize ((w3.setCell ⟨w.heap.size, 0, none⟩ (.int .i64 2)).setCell ⟨w.heap.size, 1, none⟩ (.int .i64 0)).setCell ⟨w.heap.size, 2, none⟩ (.string ⟨#[]⟩) = w9 at HO9 HB9 ⊢
  clear o0 o1 o2 z0 z1 z2 hlt
  obtain ⟨o0, o1, o2, z0, z1, z2, hlt⟩ := HO9.cells
  exact bodyPost_ret (v := .tuple #[valV (truthV false), .int .i64 (0)]) (by simp [results, Tryz.results72, go_sem, o0, o1, o2, valV, truthV]) rfl ⟨rfl, HB9.out⟩
 ·have HE := Lib.hid (show decide (1 < x.n + y.n) = false by rw [p1, p2]; rfl)
  have q1 : (x.n == 1) = false := by rw [p1]; rfl
  have q2 : (y.n == 1) = true := by rw [p2]; rfl
  clear p1 p2
  go_enter Tryz.func72, Tryz.ntmps72
  go_wp2_with (first | rw [HW0.out])
  refine (rtruth_any false w0).mono ?_
  rintro e w3 ⟨rfl, hb3⟩
  have HO3 := Lib.hid (HO.out.keep hb3)
  have HB3 := Lib.hid (below_step HB.out hb3)
  clear hb3
  obtain ⟨o0, o1, o2, z0, z1, z2, hlt⟩ := HO3.out.cells
  unfold valV truthV
  go_wp2_with fail
  rw [HE.out]
  have HO9 := own3_set HO3.out 2 0 ⟨#[]⟩
  have HB9 := Lib.hid (below_set3 HB3.out (Nat.le_refl _) 2 0 ⟨#[]⟩)
  generalize ((w3.setCell ⟨w.heap.size, 0, none⟩ (.int .i64 2)).setCell ⟨w.heap.size, 1, none⟩ (.int .i64 0)).setCell ⟨w.heap.size, 2, none⟩ (.string ⟨#[]⟩) = w9 at HO9 HB9 ⊢
  clear o0 o1 o2 z0 z1 z2 hlt
  obtain ⟨o0, o1, o2, z0, z1, z2, hlt⟩ := HO9.cells
  exact bodyPost_ret (v := .tuple #[valV (truthV false), .int .i64 (0)]) (by simp [results, Tryz.results72, go_sem, o0, o1, o2, valV, truthV]) rfl ⟨rfl, HB9.out⟩
 ·have HE := Lib.hid (show decide (1 < x.n + y.n) = false by rw [p1, p2]; rfl)
  have q1 : (x.n == 1) = true := by rw [p1]; rfl
  have q2 : (y.n == 1) = false := by rw [p2]; rfl
  clear p1 p2
  go_enter Tryz.func72, Tryz.ntmps72
  go_wp2_with (first | rw [HW0.out])
  refine (rtruth_any false w0).mono ?_
  rintro e w3 ⟨rfl, hb3⟩
  have HO3 := Lib.hid (HO.out.keep hb3)
  have HB3 := Lib.hid (below_step HB.out hb3)
  clear hb3
  obtain ⟨o0, o1, o2, z0, z1, z2, hlt⟩ := HO3.out.cells
  unfold valV truthV
  go_wp2_with fail
  rw [HE.out]
  have HO9 := own3_set HO3.out 2 0 ⟨#[]⟩
  have HB9 := Lib.hid (below_set3 HB3.out (Nat.le_refl _) 2 0 ⟨#[]⟩)
  generalize ((w3.setCell ⟨w.heap.size, 0, none⟩ (.int .i64 2)).setCell ⟨w.heap.size, 1, none⟩ (.int .i64 0)).setCell ⟨w.heap.size, 2, none⟩ (.string ⟨#[]⟩) = w9 at HO9 HB9 ⊢
  clear o0 o1 o2 z0 z1 z2 hlt
  obtain ⟨o0, o1, o2, z0, z1, z2, hlt⟩ := HO9.cells
  exact bodyPost_ret (v := .tuple #[valV (truthV false), .int .i64 (0)]) (by simp [results, Tryz.results72, go_sem, o0, o1, o2, valV, truthV]) rfl ⟨rfl, HB9.out⟩
 ·have HE := Lib.hid (show decide (1 < x.n + y.n) = true by rw [p1, p2]; rfl)
  have q1 : (x.n == 1) = true := by rw [p1]; rfl
  have q2 : (y.n == 1) = true := by rw [p2]; rfl
  clear p1 p2
  go_enter Tryz.func72, Tryz.ntmps72
  go_wp2_with (first | rw [HW0.out])
  refine (rtruth_any true w0).mono ?_
  rintro e w3 ⟨rfl, hb3⟩
  have HO3 := Lib.hid (HO.out.keep hb3)
  have HB3 := Lib.hid (below_step HB.out hb3)
  clear hb3
  obtain ⟨o0, o1, o2, z0, z1, z2, hlt⟩ := HO3.out.cells
  unfold valV truthV
  go_wp2_with fail
  rw [HE.out]
  have HO9 := own3_set HO3.out 2 1 ⟨#[]⟩
  have HB9 := Lib.hid (below_set3 HB3.out (Nat.le_refl _) 2 1 ⟨#[]⟩)
  generalize ((w3.setCell ⟨w.heap.size, 0, none⟩ (.int .i64 2)).setCell ⟨w.heap.size, 1, none⟩ (.int .i64 1)).setCell ⟨w.heap.size, 2, none⟩ (.string ⟨#[]⟩) = w9 at HO9 HB9 ⊢
  clear o0 o1 o2 z0 z1 z2 hlt
  obtain ⟨o0, o1, o2, z0, z1, z2, hlt⟩ := HO9.cells
  exact bodyPost_ret (v := .tuple #[valV (truthV true), .int .i64 (0)]) (by simp [results, Tryz.results72, go_sem, o0, o1, o2, valV, truthV]) rfl ⟨rfl, HB9.out⟩
set_option maxHeartbeats 4000000 in
set_option maxRecDepth 100000 in
theorem rdo_not (l : List Val) (x : Val) (A : Option Addr) (c : Nat) (w : World) (hl : SeesVals w A 1 c l) (h0 : l[0]? = some x) (bx : x.n = 0 ∨ x.n = 1) :
  Calls Tryz.prog 72 #[.string ⟨#[110, 111, 116]⟩, .slice A 1 c] w (RDoSays (truthV (x.n == 0)) (0) w) := by
 obtain ⟨w0, hw0⟩ : ∃ w0, w.alloc (.cells #[.int .i64 0, .int .i64 0, .string ⟨#[]⟩] 23) = w0 := ⟨_, rfl⟩
 have hb0 : Below w.heap.size w w0 := by rw [← hw0]; exact belowNew _ _
 have ho : Own3 w0 w.heap.size noVal := by rw [← hw0]; exact own3_new w noVal
 obtain ⟨g, o, x', rfl, hg, hx, c0, c1, c2⟩ := (hl.keep hb0).at_ (k := 0) (by omega)
 obtain rfl : x = x' := by rw [h0] at hx; exact Option.some.inj hx
 clear hx
 have hcap := hl.2.2.1
 have hmax := hl.2.2.2.1
 unfold maxLen at hmax
 simp only [Nat.zero_mul, Nat.add_zero] at c0 c1 c2
 have HO := Lib.hid ho
 have HB := Lib.hid hb0
 have HW0 := Lib.hid hw0
 clear hl h0 ho hb0 hw0
 rcases bx with p1 | p1
 ·have q1 : (x.n == 0) = true := by rw [p1]; rfl
  have HE := Lib.hid q1
  clear p1
  go_enter Tryz.func72, Tryz.ntmps72
  go_wp2_with (first | rw [HW0.out])
  refine (rtruth_any true w0).mono ?_
  rintro e w3 ⟨rfl, hb3⟩
  have HO3 := Lib.hid (HO.out.keep hb3)
  have HB3 := Lib.hid (below_step HB.out hb3)
  clear hb3
  obtain ⟨o0, o1, o2, z0, z1, z2, hlt⟩ := HO3.out.cells
  unfold valV truthV
  go_wp2_with fail
  rw [HE.out]
  have HO9 := own3_set HO3.out 2 1 ⟨#[]⟩
  have HB9 := Lib.hid (below_set3 HB3.out (Nat.le_refl _) 2 1 ⟨#[]⟩)
  generalize ((w3.setCell ⟨w.heap.size, 0, none⟩ (.int .i64 2)).setCell ⟨w.heap.size, 1, none⟩ (.int .i64 1)).setCell ⟨w.heap.size, 2, none⟩ (.string ⟨#[]⟩) = w9 at HO9 HB9 ⊢
  clear o0 o1 o2 z0 z1 z2 hlt
  obtain ⟨o0, o1, o2, z0, z1, z2, hlt⟩ := HO9.cells
  exact bodyPost_ret (v := .tuple #[valV (truthV true), .int .i64 (0)]) (by simp [results, Tryz.results72, go_sem, o0, o1, o2, valV, truthV]) rfl ⟨rfl, HB9.out⟩
 ·have q1 : (x.n == 0) = false := by rw [p1]; rfl
  have HE := Lib.hid q1
  clear p1
  go_enter Tryz.func72, Tryz.ntmps72
  go_wp2_with (first | rw [HW0.out])
  refine (rtruth_any false w0).mono ?_
  rintro e w3 ⟨rfl, hb3⟩
  have HO3 := Lib.hid (HO.out.keep hb3)
  have HB3 := Lib.hid (below_step HB.out hb3)
  clear hb3
  obtain ⟨o0, o1, o2, z0, z1, z2, hlt⟩ := HO3.out.cells
  unfold valV truthV
  go_wp2_with fail
  rw [HE.out]
  have HO9 := own3_set HO3.out 2 0 ⟨#[]⟩
  have HB9 := Lib.hid (below_set3 HB3.out (Nat.le_refl _) 2 0 ⟨#[]⟩)
  generalize ((w3.setCell ⟨w.heap.size, 0, none⟩ (.int .i64 2)).setCell ⟨w.heap.size, 1, none⟩ (.int .i64 0)).setCell ⟨w.heap.size, 2, none⟩ (.string ⟨#[]⟩) = w9 at HO9 HB9 ⊢
  clear o0 o1 o2 z0 z1 z2 hlt
  obtain ⟨o0, o1, o2, z0, z1, z2, hlt⟩ := HO9.cells
  exact bodyPost_ret (v := .tuple #[valV (truthV false), .int .i64 (0)]) (by simp [results, Tryz.results72, go_sem, o0, o1, o2, valV, truthV]) rfl ⟨rfl, HB9.out⟩
set_option maxHeartbeats 4000000 in
set_option maxRecDepth 100000 in
theorem rdo_len (l : List Val) (x : Val) (A : Option Addr) (c : Nat) (w : World) (hl : SeesVals w A 1 c l) (h0 : l[0]? = some x) (hs : x.s.size ≤ maxLen) :
  Calls Tryz.prog 72 #[.string ⟨#[108, 101, 110]⟩, .slice A 1 c] w (RDoSays (ofV x.s.size) (0) w) := by
 obtain ⟨w0, hw0⟩ : ∃ w0, w.alloc (.cells #[.int .i64 0, .int .i64 0, .string ⟨#[]⟩] 23) = w0 := ⟨_, rfl⟩
 have hb0 : Below w.heap.size w w0 := by rw [← hw0]; exact belowNew _ _
 have ho : Own3 w0 w.heap.size noVal := by rw [← hw0]; exact own3_new w noVal
 obtain ⟨g, o, x', rfl, hg, hx, c0, c1, c2⟩ := (hl.keep hb0).at_ (k := 0) (by omega)
 obtain rfl : x = x' := by rw [h0] at hx; exact Option.some.inj hx
 clear hx
 have hcap := hl.2.2.1
 have hmax := hl.2.2.2.1
 unfold maxLen at hmax
 simp only [Nat.zero_mul, Nat.add_zero] at c0 c1 c2
 have HO := Lib.hid ho
 have HB := Lib.hid hb0
 have HW0 := Lib.hid hw0
 clear hl h0 ho hb0 hw0
 have _hs := hs
 clear hs
 obtain ⟨o0, o1, o2, z0, z1, z2, hlt⟩ := HO.out.cells
 go_enter Tryz.func72, Tryz.ntmps72
 go_wp2_with (first | rw [HW0.out])
 have HO9 := own3_set HO.out 1 x.s.size ⟨#[]⟩
 have HB9 := Lib.hid (below_set3 HB.out (Nat.le_refl _) 1 x.s.size ⟨#[]⟩)
 generalize ((w0.setCell ⟨w.heap.size, 0, none⟩ (.int .i64 1)).setCell ⟨w.heap.size, 1, none⟩ (.int .i64 x.s.size)).setCell ⟨w.heap.size, 2, none⟩ (.string ⟨#[]⟩) = w9 at HO9 HB9 ⊢
 clear o0 o1 o2 z0 z1 z2 hlt
 obtain ⟨o0, o1, o2, z0, z1, z2, hlt⟩ := HO9.cells
 exact bodyPost_ret (v := .tuple #[valV (ofV x.s.size), .int .i64 (0)]) (by simp [results, Tryz.results72, go_sem, o0, o1, o2, valV, ofV]) rfl ⟨rfl, HB9.out⟩
set_option maxHeartbeats 4000000 in
set_option maxRecDepth 100000 in
theorem rdo_if (l : List Val) (x y z : Val) (A : Option Addr) (c : Nat) (w : World) (hl : SeesVals w A 3 c l) (h0 : l[0]? = some x) (h1 : l[1]? = some y) (h2 : l[2]? = some z) (bx : x.n = 0 ∨ x.n = 1) :
  Calls Tryz.prog 72 #[.string ⟨#[105, 102]⟩, .slice A 3 c] w (RDoSays (if x.n = 1 then y else z) (0) w) := by
 obtain ⟨w0, hw0⟩ : ∃ w0, w.alloc (.cells #[.int .i64 0, .int .i64 0, .string ⟨#[]⟩] 23) = w0 := ⟨_, rfl⟩
 have hb0 : Below w.heap.size w w0 := by rw [← hw0]; exact belowNew _ _
 have ho : Own3 w0 w.heap.size noVal := by rw [← hw0]; exact own3_new w noVal
 obtain ⟨g, o, x', rfl, hg, hx, c0, c1, c2⟩ := (hl.keep hb0).at_ (k := 0) (by omega)
 obtain rfl : x = x' := by rw [h0] at hx; exact Option.some.inj hx
 clear hx
 obtain ⟨g', o', q', e, _, hq, d0, d1, d2⟩ := (hl.keep hb0).at_ (k := 1) (by omega)
 cases e
 obtain rfl : y = q' := by rw [h1] at hq; exact Option.some.inj hq
 clear hq
 obtain ⟨g', o', q', e, _, hq, f0, f1, f2⟩ := (hl.keep hb0).at_ (k := 2) (by omega)
 cases e
 obtain rfl : z = q' := by rw [h2] at hq; exact Option.some.inj hq
 clear hq
 have hcap := hl.2.2.1
 have hmax := hl.2.2.2.1
 unfold maxLen at hmax
 simp only [Nat.zero_mul, Nat.add_zero, Nat.one_mul, show 2 * 3 = 6 from rfl] at c0 c1 c2 d0 d1 d2 f0 f1 f2
 have HO := Lib.hid ho
 have HB := Lib.hid hb0
 have HW0 := Lib.hid hw0
 clear hl h0 h1 h2 ho hb0 hw0
 rcases bx with p1 | p1
 ·rw [if_neg (by omega)]
  rw [p1] at c1
  clear p1
  obtain ⟨o0, o1, o2, z0, z1, z2, hlt⟩ := HO.out.cells
  go_enter Tryz.func72, Tryz.ntmps72
  go_wp2_with (first | rw [HW0.out])
  have HO9 := own3_set HO.out (z).type (z).n (z).s
  have HB9 := Lib.hid (below_set3 HB.out (Nat.le_refl _) (z).type (z).n (z).s)
  generalize ((w0.setCell ⟨w.heap.size, 0, none⟩ (.int .i64 (z).type)).setCell ⟨w.heap.size, 1, none⟩ (.int .i64 (z).n)).setCell ⟨w.heap.size, 2, none⟩ (.string (z).s) = w9 at HO9 HB9 ⊢
  clear o0 o1 o2 z0 z1 z2 hlt
  obtain ⟨o0, o1, o2, z0, z1, z2, hlt⟩ := HO9.cells
  exact bodyPost_ret (v := .tuple #[valV (z), .int .i64 (0)]) (by simp [results, Tryz.results72, go_sem, o0, o1, o2, valV]) rfl ⟨rfl, HB9.out⟩
 ·rw [if_pos p1]
  rw [p1] at c1
  clear p1
  obtain ⟨o0, o1, o2, z0, z1, z2, hlt⟩ := HO.out.cells
  go_enter Tryz.func72, Tryz.ntmps72
  go_wp2_with (first | rw [HW0.out])
  have HO9 := own3_set HO.out (y).type (y).n (y).s
  have HB9 := Lib.hid (below_set3 HB.out (Nat.le_refl _) (y).type (y).n (y).s)
  generalize ((w0.setCell ⟨w.heap.size, 0, none⟩ (.int .i64 (y).type)).setCell ⟨w.heap.size, 1, none⟩ (.int .i64 (y).n)).setCell ⟨w.heap.size, 2, none⟩ (.string (y).s) = w9 at HO9 HB9 ⊢
  clear o0 o1 o2 z0 z1 z2 hlt
  obtain ⟨o0, o1, o2, z0, z1, z2, hlt⟩ := HO9.cells
  exact bodyPost_ret (v := .tuple #[valV (y), .int .i64 (0)]) (by simp [results, Tryz.results72, go_sem, o0, o1, o2, valV]) rfl ⟨rfl, HB9.out⟩
set_option maxHeartbeats 4000000 in
set_option maxRecDepth 100000 in
theorem rdo_neg (l : List Val) (x : Val) (A : Option Addr) (c : Nat) (w : World) (hl : SeesVals w A 1 c l) (h0 : l[0]? = some x) (hf : fits x.n) :
  Calls Tryz.prog 72 #[.string ⟨#[110, 101, 103]⟩, .slice A 1 c] w (RDoSays (numV (reckonErr [45] 0 x.n) (reckonVal [45] 0 x.n)) (reckonErr [45] 0 x.n) w) := by
 obtain ⟨w0, hw0⟩ : ∃ w0, w.alloc (.cells #[.int .i64 0, .int .i64 0, .string ⟨#[]⟩] 23) = w0 := ⟨_, rfl⟩
 have hb0 : Below w.heap.size w w0 := by rw [← hw0]; exact belowNew _ _
 have ho : Own3 w0 w.heap.size noVal := by rw [← hw0]; exact own3_new w noVal
 obtain ⟨g, o, x', rfl, hg, hx, c0, c1, c2⟩ := (hl.keep hb0).at_ (k := 0) (by omega)
 obtain rfl : x = x' := by rw [h0] at hx; exact Option.some.inj hx
 clear hx
 have hcap := hl.2.2.1
 have hmax := hl.2.2.2.1
 unfold maxLen at hmax
 simp only [Nat.zero_mul, Nat.add_zero] at c0 c1 c2
 have HO := Lib.hid ho
 have HB := Lib.hid hb0
 have HW0 := Lib.hid hw0
 clear hl h0 ho hb0 hw0
 obtain ⟨re, hre⟩ : ∃ re, re = reckonErr [45] 0 x.n := ⟨_, rfl⟩
 obtain ⟨rv, hrv⟩ : ∃ rv, rv = reckonVal [45] 0 x.n := ⟨_, rfl⟩
 have TR := Lib.hid (fun w' => show Calls Tryz.prog 37 #[.string ⟨#[45]⟩, .int .i64 0, .int .i64 x.n] w' (fun e w'' => e = .returned (.tuple #[.int .i64 rv, .int .i64 re]) ∧ w' = w'') by rw [hre, hrv]; exact rreckon_any ⟨#[45]⟩ (0) (x.n) w' (by unfold fits lo63 hi63; omega) hf)
 rw [← hre, ← hrv]
 clear hre hrv
 clear hf
 by_cases hr : re = 0
 ·subst hr
  rw [show numV 0 rv = ofV rv from if_pos rfl]
  go_enter Tryz.func72, Tryz.ntmps72
  go_wp2_with (first | rw [HW0.out])
  refine (TR.out w0).mono ?_
  rintro e w1 ⟨rfl, rfl⟩
  have HO2 := HO
  have HB2 := HB
  obtain ⟨o0, o1, o2, z0, z1, z2, hlt⟩ := HO2.out.cells
  go_wp2_with fail
  have HO9 := own3_set HO2.out 1 rv ⟨#[]⟩
  have HB9 := Lib.hid (below_set3 HB2.out (Nat.le_refl _) 1 rv ⟨#[]⟩)
  generalize ((w0.setCell ⟨w.heap.size, 0, none⟩ (.int .i64 1)).setCell ⟨w.heap.size, 1, none⟩ (.int .i64 rv)).setCell ⟨w.heap.size, 2, none⟩ (.string ⟨#[]⟩) = w9 at HO9 HB9 ⊢
  clear o0 o1 o2 z0 z1 z2 hlt
  obtain ⟨o0, o1, o2, z0, z1, z2, hlt⟩ := HO9.cells
  exact bodyPost_ret (v := .tuple #[valV (ofV rv), .int .i64 (0)]) (by simp [results, Tryz.results72, go_sem, o0, o1, o2, valV, ofV]) rfl ⟨rfl, HB9.out⟩
 ·have e9 : (re != 0) = true := by simpa using hr
  rw [show numV re rv = noVal from if_neg hr]
  clear hr
  go_enter Tryz.func72, Tryz.ntmps72
  go_wp2_with (first | rw [HW0.out])
  refine (TR.out w0).mono ?_
  rintro e w1 ⟨rfl, rfl⟩
  have HO2 := HO
  have HB2 := HB
  obtain ⟨o0, o1, o2, z0, z1, z2, hlt⟩ := HO2.out.cells
  go_wp2_with fail
  have HO9 := own3_set HO2.out 0 0 ⟨#[]⟩
  have HB9 := Lib.hid (below_set3 HB2.out (Nat.le_refl _) 0 0 ⟨#[]⟩)
  generalize ((w0.setCell ⟨w.heap.size, 0, none⟩ (.int .i64 0)).setCell ⟨w.heap.size, 1, none⟩ (.int .i64 0)).setCell ⟨w.heap.size, 2, none⟩ (.string ⟨#[]⟩) = w9 at HO9 HB9 ⊢
  clear o0 o1 o2 z0 z1 z2 hlt
  obtain ⟨o0, o1, o2, z0, z1, z2, hlt⟩ := HO9.cells
  exact bodyPost_ret (v := .tuple #[valV (noVal), .int .i64 (re)]) (by simp [results, Tryz.results72, go_sem, o0, o1, o2, valV, noVal]) rfl ⟨rfl, HB9.out⟩
set_option maxHeartbeats 4000000 in
set_option maxRecDepth 100000 in
theorem rdo_eq (l : List Val) (x y : Val) (A : Option Addr) (c : Nat) (w : World) (hl : SeesVals w A 2 c l) (h0 : l[0]? = some x) (h1 : l[1]? = some y) (cx : vcheck x = 0) (cy : vcheck y = 0) (ct : x.type = y.type) :
  Calls Tryz.prog 72 #[.string ⟨#[61]⟩, .slice A 2 c] w (RDoSays (truthV (vorder x y == 0)) (0) w) := by
 obtain ⟨w0, hw0⟩ : ∃ w0, w.alloc (.cells #[.int .i64 0, .int .i64 0, .string ⟨#[]⟩] 23) = w0 := ⟨_, rfl⟩
 have hb0 : Below w.heap.size w w0 := by rw [← hw0]; exact belowNew _ _
 have ho : Own3 w0 w.heap.size noVal := by rw [← hw0]; exact own3_new w noVal
 obtain ⟨g, o, x', rfl, hg, hx, c0, c1, c2⟩ := (hl.keep hb0).at_ (k := 0) (by omega)
 obtain rfl : x = x' := by rw [h0] at hx; exact Option.some.inj hx
 clear hx
 obtain ⟨g', o', q', e, _, hq, d0, d1, d2⟩ := (hl.keep hb0).at_ (k := 1) (by omega)
 cases e
 obtain rfl : y = q' := by rw [h1] at hq; exact Option.some.inj hq
 clear hq
 have hcap := hl.2.2.1
 have hmax := hl.2.2.2.1
 unfold maxLen at hmax
 simp only [Nat.zero_mul, Nat.add_zero, Nat.one_mul] at c0 c1 c2 d0 d1 d2
 have HO := Lib.hid ho
 have HB := Lib.hid hb0
 have HW0 := Lib.hid hw0
 clear hl h0 h1 ho hb0 hw0
 have TV := Lib.hid (fun w' => rorder_any x y w' cx cy ct)
 obtain ⟨vo, hvo⟩ : ∃ vo, vo = vorder x y := ⟨_, rfl⟩
 rw [← hvo] at TV
 rw [← hvo]
 clear cx cy ct hvo
 by_cases hq : (vo == 0) = true
 ·have q1 : (vo == 0) = true := hq
  have HE := Lib.hid q1
  clear hq
  go_enter Tryz.func72, Tryz.ntmps72
  go_wp2_with (first | rw [HW0.out])
  go_still_tail 6, (by kernel_rfl)
  change wpList _ _ _ _ _ w0.drew
  go_wp2_with fail
  refine (TV.out w0.drew).mono ?_
  rintro e w1 ⟨rfl, hb1⟩
  have HO2 := Lib.hid (show Own3 w1 w.heap.size noVal from Own3.keep (w := w0.drew) HO.out hb1)
  have HB2 := Lib.hid (below_step HB.out (((Below.refl w0.heap.size w0).drew).trans (Below.mono hb1 (show w0.heap.size ≤ w0.drew.heap.size from Nat.le_refl _))))
  clear hb1
  go_wp2_with fail
  refine (rtruth_any true w1).mono ?_
  rintro e w3 ⟨rfl, hb3⟩
  have HO3 := Lib.hid (HO2.out.keep hb3)
  have HB3 := Lib.hid (below_step HB2.out hb3)
  clear hb3
  obtain ⟨o0, o1, o2, z0, z1, z2, hlt⟩ := HO3.out.cells
  unfold valV truthV
  go_wp2_with fail
  rw [HE.out]
  have HO9 := own3_set HO3.out 2 1 ⟨#[]⟩
  have HB9 := Lib.hid (below_set3 HB3.out (Nat.le_refl _) 2 1 ⟨#[]⟩)
  generalize ((w3.setCell ⟨w.heap.size, 0, none⟩ (.int .i64 2)).setCell ⟨w.heap.size, 1, none⟩ (.int .i64 1)).setCell ⟨w.heap.size, 2, none⟩ (.string ⟨#[]⟩) = w9 at HO9 HB9 ⊢
  clear o0 o1 o2 z0 z1 z2 hlt
  obtain ⟨o0, o1, o2, z0, z1, z2, hlt⟩ := HO9.cells
  exact bodyPost_ret (v := .tuple #[valV (truthV true), .int .i64 (0)]) (by simp [results, Tryz.results72, go_sem, o0, o1, o2, valV, truthV]) rfl ⟨rfl, HB9.out⟩
 ·have q1 : (vo == 0) = false := by simpa using hq
  have HE := Lib.hid q1
  clear hq
  go_enter Tryz.func72, Tryz.ntmps72
  go_wp2_with (first | rw [HW0.out])
  go_still_tail 6, (by kernel_rfl)
  change wpList _ _ _ _ _ w0.drew
  go_wp2_with fail
  refine (TV.out w0.drew).mono ?_
  rintro e w1 ⟨rfl, hb1⟩
  have HO2 := Lib.hid (show Own3 w1 w.heap.size noVal from Own3.keep (w := w0.drew) HO.out hb1)
  have HB2 := Lib.hid (below_step HB.out (((Below.refl w0.heap.size w0).drew).trans (Below.mono hb1 (show w0.heap.size ≤ w0.drew.heap.size from Nat.le_refl _))))
  clear hb1
  go_wp2_with fail
  refine (rtruth_any false w1).mono ?_
  rintro e w3 ⟨rfl, hb3⟩
  have HO3 := Lib.hid (HO2.out.keep hb3)
  have HB3 := Lib.hid (below_step HB2.out hb3)
  clear hb3
  obtain ⟨o0, o1, o2, z0, z1, z2, hlt⟩ := HO3.out.cells
  unfold valV truthV
  go_wp2_with fail
  rw [HE.out]
  have HO9 := own3_set HO3.out 2 0 ⟨#[]⟩
  have HB9 := Lib.hid (below_set3 HB3.out (Nat.le_refl _) 2 0 ⟨#[]⟩)
  generalize ((w3.setCell ⟨w.heap.size, 0, none⟩ (.int .i64 2)).setCell ⟨w.heap.size, 1, none⟩ (.int .i64 0)).setCell ⟨w.heap.size, 2, none⟩ (.string ⟨#[]⟩) = w9 at HO9 HB9 ⊢
  clear o0 o1 o2 z0 z1 z2 hlt
  obtain ⟨o0, o1, o2, z0, z1, z2, hlt⟩ := HO9.cells
  exact bodyPost_ret (v := .tuple #[valV (truthV false), .int .i64 (0)]) (by simp [results, Tryz.results72, go_sem, o0, o1, o2, valV, truthV]) rfl ⟨rfl, HB9.out⟩
set_option maxHeartbeats 4000000 in
set_option maxRecDepth 100000 in
theorem rdo_ne (l : List Val) (x y : Val) (A : Option Addr) (c : Nat) (w : World) (hl : SeesVals w A 2 c l) (h0 : l[0]? = some x) (h1 : l[1]? = some y) (cx : vcheck x = 0) (cy : vcheck y = 0) (ct : x.type = y.type) :
  Calls Tryz.prog 72 #[.string ⟨#[60, 62]⟩, .slice A 2 c] w (RDoSays (truthV (vorder x y != 0)) (0) w) := by
 obtain ⟨w0, hw0⟩ : ∃ w0, w.alloc (.cells #[.int .i64 0, .int .i64 0, .string ⟨#[]⟩] 23) = w0 := ⟨_, rfl⟩
 have hb0 : Below w.heap.size w w0 := by rw [← hw0]; exact belowNew _ _
 have ho : Own3 w0 w.heap.size noVal := by rw [← hw0]; exact own3_new w noVal
 obtain ⟨g, o, x', rfl, hg, hx, c0, c1, c2⟩ := (hl.keep hb0).at_ (k := 0) (by omega)
 obtain rfl : x = x' := by rw [h0] at hx; exact Option.some.inj hx
 clear hx
 obtain ⟨g', o', q', e, _, hq, d0, d1, d2⟩ := (hl.keep hb0).at_ (k := 1) (by omega)
 cases e
 obtain rfl : y = q' := by rw [h1] at hq; exact Option.some.inj hq
 clear hq
 have hcap := hl.2.2.1
 have hmax := hl.2.2.2.1
 unfold maxLen at hmax
 simp only [Nat.zero_mul, Nat.add_zero, Nat.one_mul] at c0 c1 c2 d0 d1 d2
 have HO := Lib.hid ho
 have HB := Lib.hid hb0
 have HW0 := Lib.hid hw0
 clear hl h0 h1 ho hb0 hw0
 have TV := Lib.hid (fun w' => rorder_any x y w' cx cy ct)
 obtain ⟨vo, hvo⟩ : ∃ vo, vo = vorder x y := ⟨_, rfl⟩
 rw [← hvo] at TV
 rw [← hvo]
 clear cx cy ct hvo
 by_cases hq : (vo != 0) = true
 ·have q1 : (vo != 0) = true := hq
  have HE := Lib.hid q1
  clear hq
  go_enter Tryz.func72, Tryz.ntmps72
  go_wp2_with (first | rw [HW0.out])
  go_still_tail 6, (by kernel_rfl)
  change wpList _ _ _ _ _ w0.drew
  go_wp2_with fail
  refine (TV.out w0.drew).mono ?_
  rintro e w1 ⟨rfl, hb1⟩
  have HO2 := Lib.hid (show Own3 w1 w.heap.size noVal from Own3.keep (w := w0.drew) HO.out hb1)
  have HB2 := Lib.hid (below_step HB.out (((Below.refl w0.heap.size w0).drew).trans (Below.mono hb1 (show w0.heap.size ≤ w0.drew.heap.size from Nat.le_refl _))))
  clear hb1
  go_wp2_with fail
  refine (rtruth_any true w1).mono ?_
  rintro e w3 ⟨rfl, hb3⟩
  have HO3 := Lib.hid (HO2.out.keep hb3)
  have HB3 := Lib.hid (below_step HB2.out hb3)
  clear hb3
  obtain ⟨o0, o1, o2, z0, z1, z2, hlt⟩ := HO3.out.cells
  unfold valV truthV
  go_wp2_with fail
  rw [HE.out]
  have HO9 := own3_set HO3.out 2 1 ⟨#[]⟩
  have HB9 := Lib.hid (below_set3 HB3.out (Nat.le_refl _) 2 1 ⟨#[]⟩)
  generalize ((w3.setCell ⟨w.heap.size, 0, none⟩ (.int .i64 2)).setCell ⟨w.heap.size, 1, none⟩ (.int .i64 1)).setCell ⟨w.heap.size, 2, none⟩ (.string ⟨#[]⟩) = w9 at HO9 HB9 ⊢
  clear o0 o1 o2 z0 z1 z2 hlt
  obtain ⟨o0, o1, o2, z0, z1, z2, hlt⟩ := HO9.cells
  exact bodyPost_ret (v := .tuple #[valV (truthV true), .int .i64 (0)]) (by simp [results, Tryz.results72, go_sem, o0, o1, o2, valV, truthV]) rfl ⟨rfl, HB9.out⟩
 ·have q1 : (vo != 0) = false := by simpa using hq
  have HE := Lib.hid q1
  clear hq
  go_enter Tryz.func72, Tryz.ntmps72
  go_wp2_with (first | rw [HW0.out])
  go_still_tail 6, (by kernel_rfl)
  change wpList _ _ _ _ _ w0.drew
  go_wp2_with fail
  refine (TV.out w0.drew).mono ?_
  rintro e w1 ⟨rfl, hb1⟩
  have HO2 := Lib.hid (show Own3 w1 w.heap.size noVal from Own3.keep (w := w0.drew) HO.out hb1)
  have HB2 := Lib.hid (below_step HB.out (((Below.refl w0.heap.size w0).drew).trans (Below.mono hb1 (show w0.heap.size ≤ w0.drew.heap.size from Nat.le_refl _))))
  clear hb1
  go_wp2_with fail
  refine (rtruth_any false w1).mono ?_
  rintro e w3 ⟨rfl, hb3⟩
  have HO3 := Lib.hid (HO2.out.keep hb3)
  have HB3 := Lib.hid (below_step HB2.out hb3)
  clear hb3
  obtain ⟨o0, o1, o2, z0, z1, z2, hlt⟩ := HO3.out.cells
  unfold valV truthV
  go_wp2_with fail
  rw [HE.out]
  have HO9 := own3_set HO3.out 2 0 ⟨#[]⟩
  have HB9 := Lib.hid (below_set3 HB3.out (Nat.le_refl _) 2 0 ⟨#[]⟩)
  generalize ((w3.setCell ⟨w.heap.size, 0, none⟩ (.int .i64 2)).setCell ⟨w.heap.size, 1, none⟩ (.int .i64 0)).setCell ⟨w.heap.size, 2, none⟩ (.string ⟨#[]⟩) = w9 at HO9 HB9 ⊢
  clear o0 o1 o2 z0 z1 z2 hlt
  obtain ⟨o0, o1, o2, z0, z1, z2, hlt⟩ := HO9.cells
  exact bodyPost_ret (v := .tuple #[valV (truthV false), .int .i64 (0)]) (by simp [results, Tryz.results72, go_sem, o0, o1, o2, valV, truthV]) rfl ⟨rfl, HB9.out⟩
set_option maxHeartbeats 4000000 in
set_option maxRecDepth 100000 in
theorem rdo_lt (l : List Val) (x y : Val) (A : Option Addr) (c : Nat) (w : World) (hl : SeesVals w A 2 c l) (h0 : l[0]? = some x) (h1 : l[1]? = some y) (cx : vcheck x = 0) (cy : vcheck y = 0) (ct : x.type = y.type) :
  Calls Tryz.prog 72 #[.string ⟨#[60]⟩, .slice A 2 c] w (RDoSays (truthV (decide (vorder x y < 0))) (0) w) := by
 obtain ⟨w0, hw0⟩ : ∃ w0, w.alloc (.cells #[.int .i64 0, .int .i64 0, .string ⟨#[]⟩] 23) = w0 := ⟨_, rfl⟩
 have hb0 : Below w.heap.size w w0 := by rw [← hw0]; exact belowNew _ _
 have ho : Own3 w0 w.heap.size noVal := by rw [← hw0]; exact own3_new w noVal
 obtain ⟨g, o, x', rfl, hg, hx, c0, c1, c2⟩ := (hl.keep hb0).at_ (k := 0) (by omega)
 obtain rfl : x = x' := by rw [h0] at hx; exact Option.some.inj hx
 clear hx
 obtain ⟨g', o', q', e, _, hq, d0, d1, d2⟩ := (hl.keep hb0).at_ (k := 1) (by omega)
 cases e
 obtain rfl : y = q' := by rw [h1] at hq; exact Option.some.inj hq
 clear hq
 have hcap := hl.2.2.1
 have hmax := hl.2.2.2.1
 unfold maxLen at hmax
 simp only [Nat.zero_mul, Nat.add_zero, Nat.one_mul] at c0 c1 c2 d0 d1 d2
 have HO := Lib.hid ho
 have HB := Lib.hid hb0
 have HW0 := Lib.hid hw0
 clear hl h0 h1 ho hb0 hw0
 have TV := Lib.hid (fun w' => rorder_any x y w' cx cy ct)
 obtain ⟨vo, hvo⟩ : ∃ vo, vo = vorder x y := ⟨_, rfl⟩
 rw [← hvo] at TV
 rw [← hvo]
 clear cx cy ct hvo
 by_cases hq : decide (vo < 0) = true
 ·have q1 : decide (vo < 0) = true := hq
  have HE := Lib.hid q1
  clear hq
  go_enter Tryz.func72, Tryz.ntmps72
  go_wp2_with (first | rw [HW0.out])
  go_still_tail 6, (by kernel_rfl)
  change wpList _ _ _ _ _ w0.drew
  go_wp2_with fail
  refine (TV.out w0.drew).mono ?_
  rintro e w1 ⟨rfl, hb1⟩
  have HO2 := Lib.hid (show Own3 w1 w.heap.size noVal from Own3.keep (w := w0.drew) HO.out hb1)
  have HB2 := Lib.hid (below_step HB.out (((Below.refl w0.heap.size w0).drew).trans (Below.mono hb1 (show w0.heap.size ≤ w0.drew.heap.size from Nat.le_refl _))))
  clear hb1
  go_wp2_with fail
  refine (rtruth_any true w1).mono ?_
  rintro e w3 ⟨rfl, hb3⟩
  have HO3 := Lib.hid (HO2.out.keep hb3)
  have HB3 := Lib.hid (below_step HB2.out hb3)
  clear hb3
  obtain ⟨o0, o1, o2, z0, z1, z2, hlt⟩ := HO3.out.cells
  unfold valV truthV
  go_wp2_with fail
  rw [HE.out]
  have HO9 := own3_set HO3.out 2 1 ⟨#[]⟩
  have HB9 := Lib.hid (below_set3 HB3.out (Nat.le_refl _) 2 1 ⟨#[]⟩)
  generalize ((w3.setCell ⟨w.heap.size, 0, none⟩ (.int .i64 2)).setCell ⟨w.heap.size, 1, none⟩ (.int .i64 1)).setCell ⟨w.heap.size, 2, none⟩ (.string ⟨#[]⟩) = w9 at HO9 HB9 ⊢
  clear o0 o1 o2 z0 z1 z2 hlt
  obtain ⟨o0, o1, o2, z0, z1, z2, hlt⟩ := HO9.cells
  exact bodyPost_ret (v := .tuple #[valV (truthV true), .int .i64 (0)]) (by simp [results, Tryz.results72, go_sem, o0, o1, o2, valV, truthV]) rfl ⟨rfl, HB9.out⟩
 ·have q1 : decide (vo < 0) = false := by simpa using hq
  have HE := Lib.hid q1
  clear hq
  go_enter Tryz.func72, Tryz.ntmps72
  go_wp2_with (first | rw [HW0.out])
  go_still_tail 6, (by kernel_rfl)
  change wpList _ _ _ _ _ w0.drew
  go_wp2_with fail
  refine (TV.out w0.drew).mono ?_
  rintro e w1 ⟨rfl, hb1⟩
  have HO2 := Lib.hid (show Own3 w1 w.heap.size noVal from Own3.keep (w := w0.drew) HO.out hb1)
  have HB2 := Lib.hid (below_step HB.out (((Below.refl w0.heap.size w0).drew).trans (Below.mono hb1 (show w0.heap.size ≤ w0.drew.heap.size from Nat.le_refl _))))
  clear hb1
  go_wp2_with fail
  refine (rtruth_any false w1).mono ?_
  rintro e w3 ⟨rfl, hb3⟩
  have HO3 := Lib.hid (HO2.out.keep hb3)
  have HB3 := Lib.hid (below_step HB2.out hb3)
  clear hb3
  obtain ⟨o0, o1, o2, z0, z1, z2, hlt⟩ := HO3.out.cells
  unfold valV truthV
  go_wp2_with fail
  rw [HE.out]
  have HO9 := own3_set HO3.out 2 0 ⟨#[]⟩
  have HB9 := Lib.hid (below_set3 HB3.out (Nat.le_refl _) 2 0 ⟨#[]⟩)
  generalize ((w3.setCell ⟨w.heap.size, 0, none⟩ (.int .i64 2)).setCell ⟨w.heap.size, 1, none⟩ (.int .i64 0)).setCell ⟨w.heap.size, 2, none⟩ (.string ⟨#[]⟩) = w9 at HO9 HB9 ⊢
  clear o0 o1 o2 z0 z1 z2 hlt
  obtain ⟨o0, o1, o2, z0, z1, z2, hlt⟩ := HO9.cells
  exact bodyPost_ret (v := .tuple #[valV (truthV false), .int .i64 (0)]) (by simp [results, Tryz.results72, go_sem, o0, o1, o2, valV, truthV]) rfl ⟨rfl, HB9.out⟩
set_option maxHeartbeats 4000000 in
set_option maxRecDepth 100000 in
theorem rdo_le (l : List Val) (x y : Val) (A : Option Addr) (c : Nat) (w : World) (hl : SeesVals w A 2 c l) (h0 : l[0]? = some x) (h1 : l[1]? = some y) (cx : vcheck x = 0) (cy : vcheck y = 0) (ct : x.type = y.type) :
  Calls Tryz.prog 72 #[.string ⟨#[60, 61]⟩, .slice A 2 c] w (RDoSays (truthV (decide (vorder x y ≤ 0))) (0) w) := by
 obtain ⟨w0, hw0⟩ : ∃ w0, w.alloc (.cells #[.int .i64 0, .int .i64 0, .string ⟨#[]⟩] 23) = w0 := ⟨_, rfl⟩
 have hb0 : Below w.heap.size w w0 := by rw [← hw0]; exact belowNew _ _
 have ho : Own3 w0 w.heap.size noVal := by rw [← hw0]; exact own3_new w noVal
 obtain ⟨g, o, x', rfl, hg, hx, c0, c1, c2⟩ := (hl.keep hb0).at_ (k := 0) (by omega)
 obtain rfl : x = x' := by rw [h0] at hx; exact Option.some.inj hx
 clear hx
 obtain ⟨g', o', q', e, _, hq, d0, d1, d2⟩ := (hl.keep hb0).at_ (k := 1) (by omega)
 cases e
 obtain rfl : y = q' := by rw [h1] at hq; exact Option.some.inj hq
 clear hq
 have hcap := hl.2.2.1
 have hmax := hl.2.2.2.1
 unfold maxLen at hmax
 simp only [Nat.zero_mul, Nat.add_zero, Nat.one_mul] at c0 c1 c2 d0 d1 d2
 have HO := Lib.hid ho
 have HB := Lib.hid hb0
 have HW0 := Lib.hid hw0
 clear hl h0 h1 ho hb0 hw0
 have TV := Lib.hid (fun w' => rorder_any x y w' cx cy ct)
 obtain ⟨vo, hvo⟩ : ∃ vo, vo = vorder x y := ⟨_, rfl⟩
 rw [← hvo] at TV
 rw [← hvo]
 clear cx cy ct hvo
 by_cases hq : decide (vo ≤ 0) = true
 ·have q1 : decide (vo ≤ 0) = true := hq
  have HE := Lib.hid q1
  clear hq
  go_enter Tryz.func72, Tryz.ntmps72
  go_wp2_with (first | rw [HW0.out])
  go_still_tail 6, (by kernel_rfl)
  change wpList _ _ _ _ _ w0.drew
  go_wp2_with fail
  refine (TV.out w0.drew).mono ?_
  rintro e w1 ⟨rfl, hb1⟩
  have HO2 := Lib.hid (show Own3 w1 w.heap.size noVal from Own3.keep (w := w0.drew) HO.out hb1)
  have HB2 := Lib.hid (below_step HB.out (((Below.refl w0.heap.size w0).drew).trans (Below.mono hb1 (show w0.heap.size ≤ w0.drew.heap.size from Nat.le_refl _))))
  clear hb1
  go_wp2_with fail
  refine (rtruth_any true w1).mono ?_
  rintro e w3 ⟨rfl, hb3⟩
  have HO3 := Lib.hid (HO2.out.keep hb3)
  have HB3 := Lib.hid (below_step HB2.out hb3)
  clear hb3
  obtain ⟨o0, o1, o2, z0, z1, z2, hlt⟩ := HO3.out.cells
  unfold valV truthV
  go_wp2_with fail
  rw [HE.out]
  have HO9 := own3_set HO3.out 2 1 ⟨#[]⟩
  have HB9 := Lib.hid (below_set3 HB3.out (Nat.le_refl _) 2 1 ⟨#[]⟩)
  generalize ((w3.setCell ⟨w.heap.size, 0, none⟩ (.int .i64 2)).setCell ⟨w.heap.size, 1, none⟩ (.int .i64 1)).setCell ⟨w.heap.size, 2, none⟩ (.string ⟨#[]⟩) = w9 at HO9 HB9 ⊢
  clear o0 o1 o2 z0 z1 z2 hlt
  obtain ⟨o0, o1, o2, z0, z1, z2, hlt⟩ := HO9.cells
  exact bodyPost_ret (v := .tuple #[valV (truthV true), .int .i64 (0)]) (by simp [results, Tryz.results72, go_sem, o0, o1, o2, valV, truthV]) rfl ⟨rfl, HB9.out⟩
 ·have q1 : decide (vo ≤ 0) = false := by simpa using hq
  have HE := Lib.hid q1
  clear hq
  go_enter Tryz.func72, Tryz.ntmps72
  go_wp2_with (first | rw [HW0.out])
  go_still_tail 6, (by kernel_rfl)
  change wpList _ _ _ _ _ w0.drew
  go_wp2_with fail
  refine (TV.out w0.drew).mono ?_
  rintro e w1 ⟨rfl, hb1⟩
  have HO2 := Lib.hid (show Own3 w1 w.heap.size noVal from Own3.keep (w := w0.drew) HO.out hb1)
  have HB2 := Lib.hid (below_step HB.out (((Below.refl w0.heap.size w0).drew).trans (Below.mono hb1 (show w0.heap.size ≤ w0.drew.heap.size from Nat.le_refl _))))
  clear hb1
  go_wp2_with fail
  refine (rtruth_any false w1).mono ?_
  rintro e w3 ⟨rfl, hb3⟩
  have HO3 := Lib.hid (HO2.out.keep hb3)
  have HB3 := Lib.hid (below_step HB2.out hb3)
  clear hb3
  obtain ⟨o0, o1, o2, z0, z1, z2, hlt⟩ := HO3.out.cells
  unfold valV truthV
  go_wp2_with fail
  rw [HE.out]
  have HO9 := own3_set HO3.out 2 0 ⟨#[]⟩
  have HB9 := Lib.hid (below_set3 HB3.out (Nat.le_refl _) 2 0 ⟨#[]⟩)
  generalize ((w3.setCell ⟨w.heap.size, 0, none⟩ (.int .i64 2)).setCell ⟨w.heap.size, 1, none⟩ (.int .i64 0)).setCell ⟨w.heap.size, 2, none⟩ (.string ⟨#[]⟩) = w9 at HO9 HB9 ⊢
  clear o0 o1 o2 z0 z1 z2 hlt
  obtain ⟨o0, o1, o2, z0, z1, z2, hlt⟩ := HO9.cells
  exact bodyPost_ret (v := .tuple #[valV (truthV false), .int .i64 (0)]) (by simp [results, Tryz.results72, go_sem, o0, o1, o2, valV, truthV]) rfl ⟨rfl, HB9.out⟩
set_option maxHeartbeats 4000000 in
set_option maxRecDepth 100000 in
theorem rdo_gt (l : List Val) (x y : Val) (A : Option Addr) (c : Nat) (w : World) (hl : SeesVals w A 2 c l) (h0 : l[0]? = some x) (h1 : l[1]? = some y) (cx : vcheck x = 0) (cy : vcheck y = 0) (ct : x.type = y.type) :
  Calls Tryz.prog 72 #[.string ⟨#[62]⟩, .slice A 2 c] w (RDoSays (truthV (decide (0 < vorder x y))) (0) w) := by
 obtain ⟨w0, hw0⟩ : ∃ w0, w.alloc (.cells #[.int .i64 0, .int .i64 0, .string ⟨#[]⟩] 23) = w0 := ⟨_, rfl⟩
 have hb0 : Below w.heap.size w w0 := by rw [← hw0]; exact belowNew _ _
 have ho : Own3 w0 w.heap.size noVal := by rw [← hw0]; exact own3_new w noVal
 obtain ⟨g, o, x', rfl, hg, hx, c0, c1, c2⟩ := (hl.keep hb0).at_ (k := 0) (by omega)
 obtain rfl : x = x' := by rw [h0] at hx; exact Option.some.inj hx
 clear hx
 obtain ⟨g', o', q', e, _, hq, d0, d1, d2⟩ := (hl.keep hb0).at_ (k := 1) (by omega)
 cases e
 obtain rfl : y = q' := by rw [h1] at hq; exact Option.some.inj hq
 clear hq
 have hcap := hl.2.2.1
 have hmax := hl.2.2.2.1
 unfold maxLen at hmax
 simp only [Nat.zero_mul, Nat.add_zero, Nat.one_mul] at c0 c1 c2 d0 d1 d2
 have HO := Lib.hid ho
 have HB := Lib.hid hb0
 have HW0 := Lib.hid hw0
 clear hl h0 h1 ho hb0 hw0
 have TV := Lib.hid (fun w' => rorder_any x y w' cx cy ct)
 obtain ⟨vo, hvo⟩ : ∃ vo, vo = vorder x y := ⟨_, rfl⟩
 rw [← hvo] at TV
 rw [← hvo]
 clear cx cy ct hvo
 by_cases hq : decide (0 < vo) = true
 ·have q1 : decide (0 < vo) = true := hq
  have HE := Lib.hid q1
  clear hq
  go_enter Tryz.func72, Tryz.ntmps72
  go_wp2_with (first | rw [HW0.out])
  go_still_tail 6, (by kernel_rfl)
  change wpList _ _ _ _ _ w0.drew
  go_wp2_with fail
  refine (TV.out w0.drew).mono ?_
  rintro e w1 ⟨rfl, hb1⟩
  have HO2 := Lib.hid (show Own3 w1 w.heap.size noVal from Own3.keep (w := w0.drew) HO.out hb1)
  have HB2 := Lib.hid (below_step HB.out (((Below.refl w0.heap.size w0).drew).trans (Below.mono hb1 (show w0.heap.size ≤ w0.drew.heap.size from Nat.le_refl _))))
  clear hb1
  go_wp2_with fail
  refine (rtruth_any true w1).mono ?_
  rintro e w3 ⟨rfl, hb3⟩
  have HO3 := Lib.hid (HO2.out.keep hb3)
  have HB3 := Lib.hid (below_step HB2.out hb3)
  clear hb3
  obtain ⟨o0, o1, o2, z0, z1, z2, hlt⟩ := HO3.out.cells
  unfold valV truthV
  go_wp2_with fail
  rw [HE.out]
  have HO9 := own3_set HO3.out 2 1 ⟨#[]⟩
  have HB9 := Lib.hid (below_set3 HB3.out (Nat.le_refl _) 2 1 ⟨#[]⟩)
  generalize ((w3.setCell ⟨w.heap.size, 0, none⟩ (.int .i64 2)).setCell ⟨w.heap.size, 1, none⟩ (.int .i64 1)).setCell ⟨w.heap.size, 2, none⟩ (.string ⟨#[]⟩) = w9 at HO9 HB9 ⊢
  clear o0 o1 o2 z0 z1 z2 hlt
  obtain ⟨o0, o1, o2, z0, z1, z2, hlt⟩ := HO9.cells
  exact bodyPost_ret (v := .tuple #[valV (truthV true), .int .i64 (0)]) (by simp [results, Tryz.results72, go_sem, o0, o1, o2, valV, truthV]) rfl ⟨rfl, HB9.out⟩
 ·have q1 : decide (0 < vo) = false := by simpa using hq
  have HE := Lib.hid q1
  clear hq
  go_enter Tryz.func72, Tryz.ntmps72
  go_wp2_with (first | rw [HW0.out])
  go_still_tail 6, (by kernel_rfl)
  change wpList _ _ _ _ _ w0.drew
  go_wp2_with fail
  refine (TV.out w0.drew).mono ?_
  rintro e w1 ⟨rfl, hb1⟩
  have HO2 := Lib.hid (show Own3 w1 w.heap.size noVal from Own3.keep (w := w0.drew) HO.out hb1)
  have HB2 := Lib.hid (below_step HB.out (((Below.refl w0.heap.size w0).drew).trans (Below.mono hb1 (show w0.heap.size ≤ w0.drew.heap.size from Nat.le_refl _))))
  clear hb1
  go_wp2_with fail
  refine (rtruth_any false w1).mono ?_
  rintro e w3 ⟨rfl, hb3⟩
  have HO3 := Lib.hid (HO2.out.keep hb3)
  have HB3 := Lib.hid (below_step HB2.out hb3)
  clear hb3
  obtain ⟨o0, o1, o2, z0, z1, z2, hlt⟩ := HO3.out.cells
  unfold valV truthV
  go_wp2_with fail
  rw [HE.out]
  have HO9 := own3_set HO3.out 2 0 ⟨#[]⟩
  have HB9 := Lib.hid (below_set3 HB3.out (Nat.le_refl _) 2 0 ⟨#[]⟩)
  generalize ((w3.setCell ⟨w.heap.size, 0, none⟩ (.int .i64 2)).setCell ⟨w.heap.size, 1, none⟩ (.int .i64 0)).setCell ⟨w.heap.size, 2, none⟩ (.string ⟨#[]⟩) = w9 at HO9 HB9 ⊢
  clear o0 o1 o2 z0 z1 z2 hlt
  obtain ⟨o0, o1, o2, z0, z1, z2, hlt⟩ := HO9.cells
  exact bodyPost_ret (v := .tuple #[valV (truthV false), .int .i64 (0)]) (by simp [results, Tryz.results72, go_sem, o0, o1, o2, valV, truthV]) rfl ⟨rfl, HB9.out⟩
set_option maxHeartbeats 4000000 in
set_option maxRecDepth 100000 in
theorem rdo_ge (l : List Val) (x y : Val) (A : Option Addr) (c : Nat) (w : World) (hl : SeesVals w A 2 c l) (h0 : l[0]? = some x) (h1 : l[1]? = some y) (cx : vcheck x = 0) (cy : vcheck y = 0) (ct : x.type = y.type) :
  Calls Tryz.prog 72 #[.string ⟨#[62, 61]⟩, .slice A 2 c] w (RDoSays (truthV (decide (0 ≤ vorder x y))) (0) w) := by
 obtain ⟨w0, hw0⟩ : ∃ w0, w.alloc (.cells #[.int .i64 0, .int .i64 0, .string ⟨#[]⟩] 23) = w0 := ⟨_, rfl⟩
 have hb0 : Below w.heap.size w w0 := by rw [← hw0]; exact belowNew _ _
 have ho : Own3 w0 w.heap.size noVal := by rw [← hw0]; exact own3_new w noVal
 obtain ⟨g, o, x', rfl, hg, hx, c0, c1, c2⟩ := (hl.keep hb0).at_ (k := 0) (by omega)
 obtain rfl : x = x' := by rw [h0] at hx; exact Option.some.inj hx
 clear hx
 obtain ⟨g', o', q', e, _, hq, d0, d1, d2⟩ := (hl.keep hb0).at_ (k := 1) (by omega)
 cases e
 obtain rfl : y = q' := by rw [h1] at hq; exact Option.some.inj hq
 clear hq
 have hcap := hl.2.2.1
 have hmax := hl.2.2.2.1
 unfold maxLen at hmax
 simp only [Nat.zero_mul, Nat.add_zero, Nat.one_mul] at c0 c1 c2 d0 d1 d2
 have HO := Lib.hid ho
 have HB := Lib.hid hb0
 have HW0 := Lib.hid hw0
 clear hl h0 h1 ho hb0 hw0
 have TV := Lib.hid (fun w' => rorder_any x y w' cx cy ct)
 obtain ⟨vo, hvo⟩ : ∃ vo, vo = vorder x y := ⟨_, rfl⟩
 rw [← hvo] at TV
 rw [← hvo]
 clear cx cy ct hvo
 by_cases hq : decide (0 ≤ vo) = true
 ·have q1 : decide (0 ≤ vo) = true := hq
  have HE := Lib.hid q1
  clear hq
  go_enter Tryz.func72, Tryz.ntmps72
  go_wp2_with (first | rw [HW0.out])
  go_still_tail 6, (by kernel_rfl)
  change wpList _ _ _ _ _ w0.drew
  go_wp2_with fail
  refine (TV.out w0.drew).mono ?_
  rintro e w1 ⟨rfl, hb1⟩
  have HO2 := Lib.hid (show Own3 w1 w.heap.size noVal from Own3.keep (w := w0.drew) HO.out hb1)
  have HB2 := Lib.hid (below_step HB.out (((Below.refl w0.heap.size w0).drew).trans (Below.mono hb1 (show w0.heap.size ≤ w0.drew.heap.size from Nat.le_refl _))))
  clear hb1
  go_wp2_with fail
  refine (rtruth_any true w1).mono ?_
  rintro e w3 ⟨rfl, hb3⟩
  have HO3 := Lib.hid (HO2.out.keep hb3)
  have HB3 := Lib.hid (below_step HB2.out hb3)
  clear hb3
  obtain ⟨o0, o1, o2, z0, z1, z2, hlt⟩ := HO3.out.cells
  unfold valV truthV
  go_wp2_with fail
  rw [HE.out]
  have HO9 := own3_set HO3.out 2 1 ⟨#[]⟩
  have HB9 := Lib.hid (below_set3 HB3.out (Nat.le_refl _) 2 1 ⟨#[]⟩)
  generalize ((w3.setCell ⟨w.heap.size, 0, none⟩ (.int .i64 2)).setCell ⟨w.heap.size, 1, none⟩ (.int .i64 1)).setCell ⟨w.heap.size, 2, none⟩ (.string ⟨#[]⟩) = w9 at HO9 HB9 ⊢
  clear o0 o1 o2 z0 z1 z2 hlt
  obtain ⟨o0, o1, o2, z0, z1, z2, hlt⟩ := HO9.cells
  exact bodyPost_ret (v := .tuple #[valV (truthV true), .int .i64 (0)]) (by simp [results, Tryz.results72, go_sem, o0, o1, o2, valV, truthV]) rfl ⟨rfl, HB9.out⟩
 ·have q1 : decide (0 ≤ vo) = false := by simpa using hq
  have HE := Lib.hid q1
  clear hq
  go_enter Tryz.func72, Tryz.ntmps72
  go_wp2_with (first | rw [HW0.out])
  go_still_tail 6, (by kernel_rfl)
  change wpList _ _ _ _ _ w0.drew
  go_wp2_with fail
  refine (TV.out w0.drew).mono ?_
  rintro e w1 ⟨rfl, hb1⟩
  have HO2 := Lib.hid (show Own3 w1 w.heap.size noVal from Own3.keep (w := w0.drew) HO.out hb1)
  have HB2 := Lib.hid (below_step HB.out (((Below.refl w0.heap.size w0).drew).trans (Below.mono hb1 (show w0.heap.size ≤ w0.drew.heap.size from Nat.le_refl _))))
  clear hb1
  go_wp2_with fail
  refine (rtruth_any false w1).mono ?_
  rintro e w3 ⟨rfl, hb3⟩
  have HO3 := Lib.hid (HO2.out.keep hb3)
  have HB3 := Lib.hid (below_step HB2.out hb3)
  clear hb3
  obtain ⟨o0, o1, o2, z0, z1, z2, hlt⟩ := HO3.out.cells
  unfold valV truthV
  go_wp2_with fail
  rw [HE.out]
  have HO9 := own3_set HO3.out 2 0 ⟨#[]⟩
  have HB9 := Lib.hid (below_set3 HB3.out (Nat.le_refl _) 2 0 ⟨#[]⟩)
  generalize ((w3.setCell ⟨w.heap.size, 0, none⟩ (.int .i64 2)).setCell ⟨w.heap.size, 1, none⟩ (.int .i64 0)).setCell ⟨w.heap.size, 2, none⟩ (.string ⟨#[]⟩) = w9 at HO9 HB9 ⊢
  clear o0 o1 o2 z0 z1 z2 hlt
  obtain ⟨o0, o1, o2, z0, z1, z2, hlt⟩ := HO9.cells
  exact bodyPost_ret (v := .tuple #[valV (truthV false), .int .i64 (0)]) (by simp [results, Tryz.results72, go_sem, o0, o1, o2, valV, truthV]) rfl ⟨rfl, HB9.out⟩
set_option maxHeartbeats 4000000 in
set_option maxRecDepth 100000 in
theorem rdo_n43 (l : List Val) (x y : Val) (A : Option Addr) (c : Nat) (w : World) (hl : SeesVals w A 2 c l) (h0 : l[0]? = some x) (h1 : l[1]? = some y) (fx : fits x.n) (fy : fits y.n) :
  Calls Tryz.prog 72 #[.string ⟨#[43]⟩, .slice A 2 c] w (RDoSays (numV (reckonErr [43] x.n y.n) (reckonVal [43] x.n y.n)) (reckonErr [43] x.n y.n) w) := by
 obtain ⟨w0, hw0⟩ : ∃ w0, w.alloc (.cells #[.int .i64 0, .int .i64 0, .string ⟨#[]⟩] 23) = w0 := ⟨_, rfl⟩
 have hb0 : Below w.heap.size w w0 := by rw [← hw0]; exact belowNew _ _
 have ho : Own3 w0 w.heap.size noVal := by rw [← hw0]; exact own3_new w noVal
 obtain ⟨g, o, x', rfl, hg, hx, c0, c1, c2⟩ := (hl.keep hb0).at_ (k := 0) (by omega)
 obtain rfl : x = x' := by rw [h0] at hx; exact Option.some.inj hx
 clear hx
 obtain ⟨g', o', q', e, _, hq, d0, d1, d2⟩ := (hl.keep hb0).at_ (k := 1) (by omega)
 cases e
 obtain rfl : y = q' := by rw [h1] at hq; exact Option.some.inj hq
 clear hq
 have hcap := hl.2.2.1
 have hmax := hl.2.2.2.1
 unfold maxLen at hmax
 simp only [Nat.zero_mul, Nat.add_zero, Nat.one_mul] at c0 c1 c2 d0 d1 d2
 have HO := Lib.hid ho
 have HB := Lib.hid hb0
 have HW0 := Lib.hid hw0
 clear hl h0 h1 ho hb0 hw0
 obtain ⟨re, hre⟩ : ∃ re, re = reckonErr [43] x.n y.n := ⟨_, rfl⟩
 obtain ⟨rv, hrv⟩ : ∃ rv, rv = reckonVal [43] x.n y.n := ⟨_, rfl⟩
 have TR := Lib.hid (fun w' => show Calls Tryz.prog 37 #[.string ⟨#[43]⟩, .int .i64 x.n, .int .i64 y.n] w' (fun e w'' => e = .returned (.tuple #[.int .i64 rv, .int .i64 re]) ∧ w' = w'') by rw [hre, hrv]; exact rreckon_any ⟨#[43]⟩ (x.n) (y.n) w' fx fy)
 rw [← hre, ← hrv]
 clear hre hrv
 clear fx fy
 by_cases hr : re = 0
 ·subst hr
  rw [show numV 0 rv = ofV rv from if_pos rfl]
  go_enter Tryz.func72, Tryz.ntmps72
  go_wp2_with (first | rw [HW0.out])
  go_region_law (go_simp; go_at_call 37; refine (TR.out _).mono ?_; rintro e w1 ⟨rfl, rfl⟩)
  all_goals
   have HO2 := Lib.hid (show Own3 w0.drew w.heap.size noVal from HO.out)
   have HB2 := Lib.hid (HB.out.drew)
   generalize w0.drew = wz at HO2 HB2 ⊢
   obtain ⟨o0, o1, o2, z0, z1, z2, hlt⟩ := HO2.out.cells
   go_wp2_with fail
   have HO9 := own3_set HO2.out 1 rv ⟨#[]⟩
   have HB9 := Lib.hid (below_set3 HB2.out (Nat.le_refl _) 1 rv ⟨#[]⟩)
   generalize ((wz.setCell ⟨w.heap.size, 0, none⟩ (.int .i64 1)).setCell ⟨w.heap.size, 1, none⟩ (.int .i64 rv)).setCell ⟨w.heap.size, 2, none⟩ (.string ⟨#[]⟩) = w9 at HO9 HB9 ⊢
   clear o0 o1 o2 z0 z1 z2 hlt
   obtain ⟨o0, o1, o2, z0, z1, z2, hlt⟩ := HO9.cells
   exact bodyPost_ret (v := .tuple #[valV (ofV rv), .int .i64 (0)]) (by simp [results, Tryz.results72, go_sem, o0, o1, o2, valV, ofV]) rfl ⟨rfl, HB9.out⟩
 ·have e9 : (re != 0) = true := by simpa using hr
  rw [show numV re rv = noVal from if_neg hr]
  clear hr
  go_enter Tryz.func72, Tryz.ntmps72
  go_wp2_with (first | rw [HW0.out])
  go_region_law (go_simp; go_at_call 37; refine (TR.out _).mono ?_; rintro e w1 ⟨rfl, rfl⟩)
  all_goals
   have HO2 := Lib.hid (show Own3 w0.drew w.heap.size noVal from HO.out)
   have HB2 := Lib.hid (HB.out.drew)
   generalize w0.drew = wz at HO2 HB2 ⊢
   obtain ⟨o0, o1, o2, z0, z1, z2, hlt⟩ := HO2.out.cells
   go_wp2_with fail
   have HO9 := own3_set HO2.out 0 0 ⟨#[]⟩
   have HB9 := Lib.hid (below_set3 HB2.out (Nat.le_refl _) 0 0 ⟨#[]⟩)
   generalize ((wz.setCell ⟨w.heap.size, 0, none⟩ (.int .i64 0)).setCell ⟨w.heap.size, 1, none⟩ (.int .i64 0)).setCell ⟨w.heap.size, 2, none⟩ (.string ⟨#[]⟩) = w9 at HO9 HB9 ⊢
   clear o0 o1 o2 z0 z1 z2 hlt
   obtain ⟨o0, o1, o2, z0, z1, z2, hlt⟩ := HO9.cells
   exact bodyPost_ret (v := .tuple #[valV (noVal), .int .i64 (re)]) (by simp [results, Tryz.results72, go_sem, o0, o1, o2, valV, noVal]) rfl ⟨rfl, HB9.out⟩
set_option maxHeartbeats 4000000 in
set_option maxRecDepth 100000 in
theorem rdo_n45 (l : List Val) (x y : Val) (A : Option Addr) (c : Nat) (w : World) (hl : SeesVals w A 2 c l) (h0 : l[0]? = some x) (h1 : l[1]? = some y) (fx : fits x.n) (fy : fits y.n) :
  Calls Tryz.prog 72 #[.string ⟨#[45]⟩, .slice A 2 c] w (RDoSays (numV (reckonErr [45] x.n y.n) (reckonVal [45] x.n y.n)) (reckonErr [45] x.n y.n) w) := by
 obtain ⟨w0, hw0⟩ : ∃ w0, w.alloc (.cells #[.int .i64 0, .int .i64 0, .string ⟨#[]⟩] 23) = w0 := ⟨_, rfl⟩
 have hb0 : Below w.heap.size w w0 := by rw [← hw0]; exact belowNew _ _
 have ho : Own3 w0 w.heap.size noVal := by rw [← hw0]; exact own3_new w noVal
 obtain ⟨g, o, x', rfl, hg, hx, c0, c1, c2⟩ := (hl.keep hb0).at_ (k := 0) (by omega)
 obtain rfl : x = x' := by rw [h0] at hx; exact Option.some.inj hx
 clear hx
 obtain ⟨g', o', q', e, _, hq, d0, d1, d2⟩ := (hl.keep hb0).at_ (k := 1) (by omega)
 cases e
 obtain rfl : y = q' := by rw [h1] at hq; exact Option.some.inj hq
 clear hq
 have hcap := hl.2.2.1
 have hmax := hl.2.2.2.1
 unfold maxLen at hmax
 simp only [Nat.zero_mul, Nat.add_zero, Nat.one_mul] at c0 c1 c2 d0 d1 d2
 have HO := Lib.hid ho
 have HB := Lib.hid hb0
 have HW0 := Lib.hid hw0
 clear hl h0 h1 ho hb0 hw0
 obtain ⟨re, hre⟩ : ∃ re, re = reckonErr [45] x.n y.n := ⟨_, rfl⟩
 obtain ⟨rv, hrv⟩ : ∃ rv, rv = reckonVal [45] x.n y.n := ⟨_, rfl⟩
 have TR := Lib.hid (fun w' => show Calls Tryz.prog 37 #[.string ⟨#[45]⟩, .int .i64 x.n, .int .i64 y.n] w' (fun e w'' => e = .returned (.tuple #[.int .i64 rv, .int .i64 re]) ∧ w' = w'') by rw [hre, hrv]; exact rreckon_any ⟨#[45]⟩ (x.n) (y.n) w' fx fy)
 rw [← hre, ← hrv]
 clear hre hrv
 clear fx fy
 by_cases hr : re = 0
 ·subst hr
  rw [show numV 0 rv = ofV rv from if_pos rfl]
  go_enter Tryz.func72, Tryz.ntmps72
  go_wp2_with (first | rw [HW0.out])
  go_region_law (go_simp; go_at_call 37; refine (TR.out _).mono ?_; rintro e w1 ⟨rfl, rfl⟩)
  all_goals
   have HO2 := Lib.hid (show Own3 w0.drew w.heap.size noVal from HO.out)
   have HB2 := Lib.hid (HB.out.drew)
   generalize w0.drew = wz at HO2 HB2 ⊢
   obtain ⟨o0, o1, o2, z0, z1, z2, hlt⟩ := HO2.out.cells
   go_wp2_with fail
   have HO9 := own3_set HO2.out 1 rv ⟨#[]⟩
   have HB9 := Lib.hid (below_set3 HB2.out (Nat.le_refl _) 1 rv ⟨#[]⟩)
   generalize ((wz.setCell ⟨w.heap.size, 0, none⟩ (.int .i64 1)).setCell ⟨w.heap.size, 1, none⟩ (.int .i64 rv)).setCell ⟨w.heap.size, 2, none⟩ (.string ⟨#[]⟩) = w9 at HO9 HB9 ⊢
   clear o0 o1 o2 z0 z1 z2 hlt
   obtain ⟨o0, o1, o2, z0, z1, z2, hlt⟩ := HO9.cells
   exact bodyPost_ret (v := .tuple #[valV (ofV rv), .int .i64 (0)]) (by simp [results, Tryz.results72, go_sem, o0, o1, o2, valV, ofV]) rfl ⟨rfl, HB9.out⟩
 ·have e9 : (re != 0) = true := by simpa using hr
  rw [show numV re rv = noVal from if_neg hr]
  clear hr
  go_enter Tryz.func72, Tryz.ntmps72
  go_wp2_with (first | rw [HW0.out])
  go_region_law (go_simp; go_at_call 37; refine (TR.out _).mono ?_; rintro e w1 ⟨rfl, rfl⟩)
  all_goals
   have HO2 := Lib.hid (show Own3 w0.drew w.heap.size noVal from HO.out)
   have HB2 := Lib.hid (HB.out.drew)
   generalize w0.drew = wz at HO2 HB2 ⊢
   obtain ⟨o0, o1, o2, z0, z1, z2, hlt⟩ := HO2.out.cells
   go_wp2_with fail
   have HO9 := own3_set HO2.out 0 0 ⟨#[]⟩
   have HB9 := Lib.hid (below_set3 HB2.out (Nat.le_refl _) 0 0 ⟨#[]⟩)
   generalize ((wz.setCell ⟨w.heap.size, 0, none⟩ (.int .i64 0)).setCell ⟨w.heap.size, 1, none⟩ (.int .i64 0)).setCell ⟨w.heap.size, 2, none⟩ (.string ⟨#[]⟩) = w9 at HO9 HB9 ⊢
   clear o0 o1 o2 z0 z1 z2 hlt
   obtain ⟨o0, o1, o2, z0, z1, z2, hlt⟩ := HO9.cells
   exact bodyPost_ret (v := .tuple #[valV (noVal), .int .i64 (re)]) (by simp [results, Tryz.results72, go_sem, o0, o1, o2, valV, noVal]) rfl ⟨rfl, HB9.out⟩
set_option maxHeartbeats 4000000 in
set_option maxRecDepth 100000 in
theorem rdo_n42 (l : List Val) (x y : Val) (A : Option Addr) (c : Nat) (w : World) (hl : SeesVals w A 2 c l) (h0 : l[0]? = some x) (h1 : l[1]? = some y) (fx : fits x.n) (fy : fits y.n) :
  Calls Tryz.prog 72 #[.string ⟨#[42]⟩, .slice A 2 c] w (RDoSays (numV (reckonErr [42] x.n y.n) (reckonVal [42] x.n y.n)) (reckonErr [42] x.n y.n) w) := by
 obtain ⟨w0, hw0⟩ : ∃ w0, w.alloc (.cells #[.int .i64 0, .int .i64 0, .string ⟨#[]⟩] 23) = w0 := ⟨_, rfl⟩
 have hb0 : Below w.heap.size w w0 := by rw [← hw0]; exact belowNew _ _
 have ho : Own3 w0 w.heap.size noVal := by rw [← hw0]; exact own3_new w noVal
 obtain ⟨g, o, x', rfl, hg, hx, c0, c1, c2⟩ := (hl.keep hb0).at_ (k := 0) (by omega)
 obtain rfl : x = x' := by rw [h0] at hx; exact Option.some.inj hx
 clear hx
 obtain ⟨g', o', q', e, _, hq, d0, d1, d2⟩ := (hl.keep hb0).at_ (k := 1) (by omega)
 cases e
 obtain rfl : y = q' := by rw [h1] at hq; exact Option.some.inj hq
 clear hq
 have hcap := hl.2.2.1
 have hmax := hl.2.2.2.1
 unfold maxLen at hmax
 simp only [Nat.zero_mul, Nat.add_zero, Nat.one_mul] at c0 c1 c2 d0 d1 d2
 have HO := Lib.hid ho
 have HB := Lib.hid hb0
 have HW0 := Lib.hid hw0
 clear hl h0 h1 ho hb0 hw0
 obtain ⟨re, hre⟩ : ∃ re, re = reckonErr [42] x.n y.n := ⟨_, rfl⟩
 obtain ⟨rv, hrv⟩ : ∃ rv, rv = reckonVal [42] x.n y.n := ⟨_, rfl⟩
 have TR := Lib.hid (fun w' => show Calls Tryz.prog 37 #[.string ⟨#[42]⟩, .int .i64 x.n, .int .i64 y.n] w' (fun e w'' => e = .returned (.tuple #[.int .i64 rv, .int .i64 re]) ∧ w' = w'') by rw [hre, hrv]; exact rreckon_any ⟨#[42]⟩ (x.n) (y.n) w' fx fy)
 rw [← hre, ← hrv]
 clear hre hrv
 clear fx fy
 by_cases hr : re = 0
 ·subst hr
  rw [show numV 0 rv = ofV rv from if_pos rfl]
  go_enter Tryz.func72, Tryz.ntmps72
  go_wp2_with (first | rw [HW0.out])
  go_region_law (go_simp; go_at_call 37; refine (TR.out _).mono ?_; rintro e w1 ⟨rfl, rfl⟩)
  all_goals
   have HO2 := Lib.hid (show Own3 w0.drew w.heap.size noVal from HO.out)
   have HB2 := Lib.hid (HB.out.drew)
   generalize w0.drew = wz at HO2 HB2 ⊢
   obtain ⟨o0, o1, o2, z0, z1, z2, hlt⟩ := HO2.out.cells
   go_wp2_with fail
   have HO9 := own3_set HO2.out 1 rv ⟨#[]⟩
   have HB9 := Lib.hid (below_set3 HB2.out (Nat.le_refl _) 1 rv ⟨#[]⟩)
   generalize ((wz.setCell ⟨w.heap.size, 0, none⟩ (.int .i64 1)).setCell ⟨w.heap.size, 1, none⟩ (.int .i64 rv)).setCell ⟨w.heap.size, 2, none⟩ (.string ⟨#[]⟩) = w9 at HO9 HB9 ⊢
   clear o0 o1 o2 z0 z1 z2 hlt
   obtain ⟨o0, o1, o2, z0, z1, z2, hlt⟩ := HO9.cells
   exact bodyPost_ret (v := .tuple #[valV (ofV rv), .int .i64 (0)]) (by simp [results, Tryz.results72, go_sem, o0, o1, o2, valV, ofV]) rfl ⟨rfl, HB9.out⟩
 ·have e9 : (re != 0) = true := by simpa using hr
  rw [show numV re rv = noVal from if_neg hr]
  clear hr
  go_enter Tryz.func72, Tryz.ntmps72
  go_wp2_with (first | rw [HW0.out])
  go_region_law (go_simp; go_at_call 37; refine (TR.out _).mono ?_; rintro e w1 ⟨rfl, rfl⟩)
  all_goals
   have HO2 := Lib.hid (show Own3 w0.drew w.heap.size noVal from HO.out)
   have HB2 := Lib.hid (HB.out.drew)
   generalize w0.drew = wz at HO2 HB2 ⊢
   obtain ⟨o0, o1, o2, z0, z1, z2, hlt⟩ := HO2.out.cells
   go_wp2_with fail
   have HO9 := own3_set HO2.out 0 0 ⟨#[]⟩
   have HB9 := Lib.hid (below_set3 HB2.out (Nat.le_refl _) 0 0 ⟨#[]⟩)
   generalize ((wz.setCell ⟨w.heap.size, 0, none⟩ (.int .i64 0)).setCell ⟨w.heap.size, 1, none⟩ (.int .i64 0)).setCell ⟨w.heap.size, 2, none⟩ (.string ⟨#[]⟩) = w9 at HO9 HB9 ⊢
   clear o0 o1 o2 z0 z1 z2 hlt
   obtain ⟨o0, o1, o2, z0, z1, z2, hlt⟩ := HO9.cells
   exact bodyPost_ret (v := .tuple #[valV (noVal), .int .i64 (re)]) (by simp [results, Tryz.results72, go_sem, o0, o1, o2, valV, noVal]) rfl ⟨rfl, HB9.out⟩
set_option maxHeartbeats 4000000 in
set_option maxRecDepth 100000 in
theorem rdo_n47 (l : List Val) (x y : Val) (A : Option Addr) (c : Nat) (w : World) (hl : SeesVals w A 2 c l) (h0 : l[0]? = some x) (h1 : l[1]? = some y) (fx : fits x.n) (fy : fits y.n) :
  Calls Tryz.prog 72 #[.string ⟨#[47]⟩, .slice A 2 c] w (RDoSays (numV (reckonErr [47] x.n y.n) (reckonVal [47] x.n y.n)) (reckonErr [47] x.n y.n) w) := by
 obtain ⟨w0, hw0⟩ : ∃ w0, w.alloc (.cells #[.int .i64 0, .int .i64 0, .string ⟨#[]⟩] 23) = w0 := ⟨_, rfl⟩
 have hb0 : Below w.heap.size w w0 := by rw [← hw0]; exact belowNew _ _
 have ho : Own3 w0 w.heap.size noVal := by rw [← hw0]; exact own3_new w noVal
 obtain ⟨g, o, x', rfl, hg, hx, c0, c1, c2⟩ := (hl.keep hb0).at_ (k := 0) (by omega)
 obtain rfl : x = x' := by rw [h0] at hx; exact Option.some.inj hx
 clear hx
 obtain ⟨g', o', q', e, _, hq, d0, d1, d2⟩ := (hl.keep hb0).at_ (k := 1) (by omega)
 cases e
 obtain rfl : y = q' := by rw [h1] at hq; exact Option.some.inj hq
 clear hq
 have hcap := hl.2.2.1
 have hmax := hl.2.2.2.1
 unfold maxLen at hmax
 simp only [Nat.zero_mul, Nat.add_zero, Nat.one_mul] at c0 c1 c2 d0 d1 d2
 have HO := Lib.hid ho
 have HB := Lib.hid hb0
 have HW0 := Lib.hid hw0
 clear hl h0 h1 ho hb0 hw0
 obtain ⟨re, hre⟩ : ∃ re, re = reckonErr [47] x.n y.n := ⟨_, rfl⟩
 obtain ⟨rv, hrv⟩ : ∃ rv, rv = reckonVal [47] x.n y.n := ⟨_, rfl⟩
 have TR := Lib.hid (fun w' => show Calls Tryz.prog 37 #[.string ⟨#[47]⟩, .int .i64 x.n, .int .i64 y.n] w' (fun e w'' => e = .returned (.tuple #[.int .i64 rv, .int .i64 re]) ∧ w' = w'') by rw [hre, hrv]; exact rreckon_any ⟨#[47]⟩ (x.n) (y.n) w' fx fy)
 rw [← hre, ← hrv]
 clear hre hrv
 clear fx fy
 by_cases hr : re = 0
 ·subst hr
  rw [show numV 0 rv = ofV rv from if_pos rfl]
  go_enter Tryz.func72, Tryz.ntmps72
  go_wp2_with (first | rw [HW0.out])
  go_region_law (go_simp; go_at_call 37; refine (TR.out _).mono ?_; rintro e w1 ⟨rfl, rfl⟩)
  all_goals
   have HO2 := Lib.hid (show Own3 w0.drew w.heap.size noVal from HO.out)
   have HB2 := Lib.hid (HB.out.drew)
   generalize w0.drew = wz at HO2 HB2 ⊢
   obtain ⟨o0, o1, o2, z0, z1, z2, hlt⟩ := HO2.out.cells
   go_wp2_with fail
   have HO9 := own3_set HO2.out 1 rv ⟨#[]⟩
   have HB9 := Lib.hid (below_set3 HB2.out (Nat.le_refl _) 1 rv ⟨#[]⟩)
   generalize ((wz.setCell ⟨w.heap.size, 0, none⟩ (.int .i64 1)).setCell ⟨w.heap.size, 1, none⟩ (.int .i64 rv)).setCell ⟨w.heap.size, 2, none⟩ (.string ⟨#[]⟩) = w9 at HO9 HB9 ⊢
   clear o0 o1 o2 z0 z1 z2 hlt
   obtain ⟨o0, o1, o2, z0, z1, z2, hlt⟩ := HO9.cells
   exact bodyPost_ret (v := .tuple #[valV (ofV rv), .int .i64 (0)]) (by simp [results, Tryz.results72, go_sem, o0, o1, o2, valV, ofV]) rfl ⟨rfl, HB9.out⟩
 ·have e9 : (re != 0) = true := by simpa using hr
  rw [show numV re rv = noVal from if_neg hr]
  clear hr
  go_enter Tryz.func72, Tryz.ntmps72
  go_wp2_with (first | rw [HW0.out])
  go_region_law (go_simp; go_at_call 37; refine (TR.out _).mono ?_; rintro e w1 ⟨rfl, rfl⟩)
  all_goals
   have HO2 := Lib.hid (show Own3 w0.drew w.heap.size noVal from HO.out)
   have HB2 := Lib.hid (HB.out.drew)
   generalize w0.drew = wz at HO2 HB2 ⊢
   obtain ⟨o0, o1, o2, z0, z1, z2, hlt⟩ := HO2.out.cells
   go_wp2_with fail
   have HO9 := own3_set HO2.out 0 0 ⟨#[]⟩
   have HB9 := Lib.hid (below_set3 HB2.out (Nat.le_refl _) 0 0 ⟨#[]⟩)
   generalize ((wz.setCell ⟨w.heap.size, 0, none⟩ (.int .i64 0)).setCell ⟨w.heap.size, 1, none⟩ (.int .i64 0)).setCell ⟨w.heap.size, 2, none⟩ (.string ⟨#[]⟩) = w9 at HO9 HB9 ⊢
   clear o0 o1 o2 z0 z1 z2 hlt
   obtain ⟨o0, o1, o2, z0, z1, z2, hlt⟩ := HO9.cells
   exact bodyPost_ret (v := .tuple #[valV (noVal), .int .i64 (re)]) (by simp [results, Tryz.results72, go_sem, o0, o1, o2, valV, noVal]) rfl ⟨rfl, HB9.out⟩
set_option maxHeartbeats 4000000 in
set_option maxRecDepth 100000 in
theorem rdo_n37 (l : List Val) (x y : Val) (A : Option Addr) (c : Nat) (w : World) (hl : SeesVals w A 2 c l) (h0 : l[0]? = some x) (h1 : l[1]? = some y) (fx : fits x.n) (fy : fits y.n) :
  Calls Tryz.prog 72 #[.string ⟨#[37]⟩, .slice A 2 c] w (RDoSays (numV (reckonErr [37] x.n y.n) (reckonVal [37] x.n y.n)) (reckonErr [37] x.n y.n) w) := by
 obtain ⟨w0, hw0⟩ : ∃ w0, w.alloc (.cells #[.int .i64 0, .int .i64 0, .string ⟨#[]⟩] 23) = w0 := ⟨_, rfl⟩
 have hb0 : Below w.heap.size w w0 := by rw [← hw0]; exact belowNew _ _
 have ho : Own3 w0 w.heap.size noVal := by rw [← hw0]; exact own3_new w noVal
 obtain ⟨g, o, x', rfl, hg, hx, c0, c1, c2⟩ := (hl.keep hb0).at_ (k := 0) (by omega)
 obtain rfl : x = x' := by rw [h0] at hx; exact Option.some.inj hx
 clear hx
 obtain ⟨g', o', q', e, _, hq, d0, d1, d2⟩ := (hl.keep hb0).at_ (k := 1) (by omega)
 cases e
 obtain rfl : y = q' := by rw [h1] at hq; exact Option.some.inj hq
 clear hq
 have hcap := hl.2.2.1
 have hmax := hl.2.2.2.1
 unfold maxLen at hmax
 simp only [Nat.zero_mul, Nat.add_zero, Nat.one_mul] at c0 c1 c2 d0 d1 d2
 have HO := Lib.hid ho
 have HB := Lib.hid hb0
 have HW0 := Lib.hid hw0
 clear hl h0 h1 ho hb0 hw0
 obtain ⟨re, hre⟩ : ∃ re, re = reckonErr [37] x.n y.n := ⟨_, rfl⟩
 obtain ⟨rv, hrv⟩ : ∃ rv, rv = reckonVal [37] x.n y.n := ⟨_, rfl⟩
 have TR := Lib.hid (fun w' => show Calls Tryz.prog 37 #[.string ⟨#[37]⟩, .int .i64 x.n, .int .i64 y.n] w' (fun e w'' => e = .returned (.tuple #[.int .i64 rv, .int .i64 re]) ∧ w' = w'') by rw [hre, hrv]; exact rreckon_any ⟨#[37]⟩ (x.n) (y.n) w' fx fy)
 rw [← hre, ← hrv]
 clear hre hrv
 clear fx fy
 by_cases hr : re = 0
 ·subst hr
  rw [show numV 0 rv = ofV rv from if_pos rfl]
  go_enter Tryz.func72, Tryz.ntmps72
  go_wp2_with (first | rw [HW0.out])
  go_region_law (go_simp; go_at_call 37; refine (TR.out _).mono ?_; rintro e w1 ⟨rfl, rfl⟩)
  all_goals
   have HO2 := Lib.hid (show Own3 w0.drew w.heap.size noVal from HO.out)
   have HB2 := Lib.hid (HB.out.drew)
   generalize w0.drew = wz at HO2 HB2 ⊢
   obtain ⟨o0, o1, o2, z0, z1, z2, hlt⟩ := HO2.out.cells
   go_wp2_with fail
   have HO9 := own3_set HO2.out 1 rv ⟨#[]⟩
   have HB9 := Lib.hid (below_set3 HB2.out (Nat.le_refl _) 1 rv ⟨#[]⟩)
   generalize ((wz.setCell ⟨w.heap.size, 0, none⟩ (.int .i64 1)).setCell ⟨w.heap.size, 1, none⟩ (.int .i64 rv)).setCell ⟨w.heap.size, 2, none⟩ (.string ⟨#[]⟩) = w9 at HO9 HB9 ⊢
   clear o0 o1 o2 z0 z1 z2 hlt
   obtain ⟨o0, o1, o2, z0, z1, z2, hlt⟩ := HO9.cells
   exact bodyPost_ret (v := .tuple #[valV (ofV rv), .int .i64 (0)]) (by simp [results, Tryz.results72, go_sem, o0, o1, o2, valV, ofV]) rfl ⟨rfl, HB9.out⟩
 ·have e9 : (re != 0) = true := by simpa using hr
  rw [show numV re rv = noVal from if_neg hr]
  clear hr
  go_enter Tryz.func72, Tryz.ntmps72
  go_wp2_with (first | rw [HW0.out])
  go_region_law (go_simp; go_at_call 37; refine (TR.out _).mono ?_; rintro e w1 ⟨rfl, rfl⟩)
  all_goals
   have HO2 := Lib.hid (show Own3 w0.drew w.heap.size noVal from HO.out)
   have HB2 := Lib.hid (HB.out.drew)
   generalize w0.drew = wz at HO2 HB2 ⊢
   obtain ⟨o0, o1, o2, z0, z1, z2, hlt⟩ := HO2.out.cells
   go_wp2_with fail
   have HO9 := own3_set HO2.out 0 0 ⟨#[]⟩
   have HB9 := Lib.hid (below_set3 HB2.out (Nat.le_refl _) 0 0 ⟨#[]⟩)
   generalize ((wz.setCell ⟨w.heap.size, 0, none⟩ (.int .i64 0)).setCell ⟨w.heap.size, 1, none⟩ (.int .i64 0)).setCell ⟨w.heap.size, 2, none⟩ (.string ⟨#[]⟩) = w9 at HO9 HB9 ⊢
   clear o0 o1 o2 z0 z1 z2 hlt
   obtain ⟨o0, o1, o2, z0, z1, z2, hlt⟩ := HO9.cells
   exact bodyPost_ret (v := .tuple #[valV (noVal), .int .i64 (re)]) (by simp [results, Tryz.results72, go_sem, o0, o1, o2, valV, noVal]) rfl ⟨rfl, HB9.out⟩
end Go.Proofs.YtpbbkpfaphjdoaaGreatDoor
