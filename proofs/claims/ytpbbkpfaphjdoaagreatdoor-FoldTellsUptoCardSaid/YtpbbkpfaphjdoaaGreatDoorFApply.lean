/- eval.Apply, walked: what an operation comes to, of values that are right for it. -/
import Derived.Test.YtpbbkpfaphjdoaaGreatDoorFOwn3
import Derived.Test.YtpbbkpfaphjdoaaGreatDoorFReckon
import Derived.Test.YtpbbkpfaphjdoaaGreatDoorFRule
import Derived.Deep.RegionHeld3
import Derived.Deep.DeepCutAuto
import Derived.RegionTactic
namespace Go.Proofs.YtpbbkpfaphjdoaaGreatDoor
open Go.ChangeShapes Go.WideShapes Go.ChangeAt Go.RowKit
def numV (k n : Int) : Val := if k = 0 then ofV n else noVal
def ApplySays (v : Val) (k : Int) (w : World) (e : Ending) (w' : World) : Prop := e = .returned (.tuple #[valV v, errV k]) ∧ Below w.heap.size w w'
theorem compared_eq (c : Int) (w : World) : Calls Tryz.prog 221 #[.string ⟨#[61]⟩, .int .i64 c] w fun e w' => e = .returned (.bool (c == 0)) ∧ w = w' := by
 go_enter Tryz.func221, Tryz.ntmps221
 go_wp2_with fail
 go_ret
 exact ⟨rfl, rfl⟩
theorem compared_ne (c : Int) (w : World) : Calls Tryz.prog 221 #[.string ⟨#[60, 62]⟩, .int .i64 c] w fun e w' => e = .returned (.bool (c != 0)) ∧ w = w' := by
 go_enter Tryz.func221, Tryz.ntmps221
 go_wp2_with fail
 go_ret
 exact ⟨rfl, rfl⟩
theorem compared_lt (c : Int) (w : World) : Calls Tryz.prog 221 #[.string ⟨#[60]⟩, .int .i64 c] w fun e w' => e = .returned (.bool (decide (c < 0))) ∧ w = w' := by
 go_enter Tryz.func221, Tryz.ntmps221
 go_wp2_with fail
 go_ret
 exact ⟨rfl, rfl⟩
theorem compared_le (c : Int) (w : World) : Calls Tryz.prog 221 #[.string ⟨#[60, 61]⟩, .int .i64 c] w fun e w' => e = .returned (.bool (decide (c ≤ 0))) ∧ w = w' := by
 go_enter Tryz.func221, Tryz.ntmps221
 go_wp2_with fail
 go_ret
 exact ⟨rfl, rfl⟩
theorem compared_gt (c : Int) (w : World) : Calls Tryz.prog 221 #[.string ⟨#[62]⟩, .int .i64 c] w fun e w' => e = .returned (.bool (decide (0 < c))) ∧ w = w' := by
 go_enter Tryz.func221, Tryz.ntmps221
 go_wp2_with fail
 go_ret
 exact ⟨rfl, rfl⟩
theorem compared_ge (c : Int) (w : World) : Calls Tryz.prog 221 #[.string ⟨#[62, 61]⟩, .int .i64 c] w fun e w' => e = .returned (.bool (decide (0 ≤ c))) ∧ w = w' := by
 go_enter Tryz.func221, Tryz.ntmps221
 go_wp2_with fail
 go_ret
 exact ⟨rfl, rfl⟩
set_option maxHeartbeats 2000000 in
set_option maxRecDepth 100000 in
theorem apply_or (l : List Val) (x y : Val) (A : Option Addr) (c : Nat) (w : World) (hl : SeesVals w A 2 c l) (ha : l[0]? = some x) (hb : l[1]? = some y) (fa : fits (x.n + y.n)) :
  Calls Tryz.prog 184 #[.string ⟨#[111, 114]⟩, .slice A 2 c] w (ApplySays (truthV (decide (0 < x.n + y.n))) (0) w) := by
 have hb0 : Below w.heap.size w (w.alloc (.cells #[.int .i64 0, .int .i64 0, .string ⟨#[]⟩] 23)) := (Below.refl _ _).alloc (Nat.le_refl _) _
 have ho : Own3 (w.alloc (.cells #[.int .i64 0, .int .i64 0, .string ⟨#[]⟩] 23)) w.heap.size noVal := own3_new w noVal
 obtain ⟨g, o, x', rfl, hg, hx, c0, c1, c2⟩ := (hl.keep hb0).at_ (k := 0) (by omega)
 obtain rfl : x = x' := by rw [ha] at hx; exact Option.some.inj hx
 obtain ⟨g', o', y', e, _, hy, d0, d1, d2⟩ := (hl.keep hb0).at_ (k := 1) (by omega)
 cases e
 obtain rfl : y = y' := by rw [hb] at hy; exact Option.some.inj hy
 clear hy
 have hcap := hl.2.2.1
 have hmax := hl.2.2.2.1
 unfold maxLen at hmax
 simp only [Nat.zero_mul, Nat.one_mul, Nat.add_zero] at c0 c1 c2 d0 d1 d2
 unfold fits lo63 hi63 at fa
 obtain ⟨f1, f2⟩ := fa
 have HO := Lib.hid ho
 have HB := Lib.hid hb0
 clear hx ha hb hl ho hb0
 go_enter Tryz.func184, Tryz.ntmps184
 go_wp2_with fail
 generalize w.alloc (.cells #[.int .i64 0, .int .i64 0, .string ⟨#[]⟩] 23) = w0 at HO HB c0 c1 c2 d0 d1 d2 hg ⊢
 go_still_tail 10, (by kernel_rfl)
 change wpList _ _ _ _ _ w0.drew
 have HO2 := Lib.hid (show Own3 w0.drew w.heap.size noVal from HO.out)
 have HB2 := Lib.hid (HB.out.drew)
 generalize w0.drew = w2 at HO2 HB2 ⊢
 go_wp2_with fail
 refine (truth_any _ _).mono ?_
 rintro e w3 ⟨rfl, hb3⟩
 have HO3 := Lib.hid (HO2.out.keep hb3)
 have HB3 := Lib.hid (below_step HB2.out hb3)
 clear hb3
 obtain ⟨o0, o1, o2, z0, z1, z2, hlt⟩ := HO3.out.cells
 unfold valV
 go_wp2_with fail
 have HO4 := own3_set HO3.out (truthV (decide (0 < x.n + y.n))).type (truthV (decide (0 < x.n + y.n))).n (truthV (decide (0 < x.n + y.n))).s
 have HB4 := Lib.hid (below_set3 HB3.out (Nat.le_refl _) (truthV (decide (0 < x.n + y.n))).type (truthV (decide (0 < x.n + y.n))).n (truthV (decide (0 < x.n + y.n))).s)
 generalize ((w3.setCell ⟨w.heap.size, 0, none⟩ (.int .i64 (truthV (decide (0 < x.n + y.n))).type)).setCell ⟨w.heap.size, 1, none⟩ (.int .i64 (truthV (decide (0 < x.n + y.n))).n)).setCell ⟨w.heap.size, 2, none⟩ (.string (truthV (decide (0 < x.n + y.n))).s) = w4 at HO4 HB4 ⊢
 clear o0 o1 o2 z0 z1 z2 hlt
 obtain ⟨o0, o1, o2, z0, z1, z2, hlt⟩ := HO4.cells
 exact bodyPost_ret (v := .tuple #[valV (truthV (decide (0 < x.n + y.n))), errV 0]) (by simp [results, Tryz.results184, go_sem, o0, o1, o2, valV, errV]) rfl ⟨rfl, HB4.out⟩
set_option maxHeartbeats 2000000 in
set_option maxRecDepth 100000 in
theorem apply_and (l : List Val) (x y : Val) (A : Option Addr) (c : Nat) (w : World) (hl : SeesVals w A 2 c l) (ha : l[0]? = some x) (hb : l[1]? = some y) (fa : fits (x.n + y.n)) :
  Calls Tryz.prog 184 #[.string ⟨#[97, 110, 100]⟩, .slice A 2 c] w (ApplySays (truthV (decide (1 < x.n + y.n))) (0) w) := by
 have hb0 : Below w.heap.size w (w.alloc (.cells #[.int .i64 0, .int .i64 0, .string ⟨#[]⟩] 23)) := (Below.refl _ _).alloc (Nat.le_refl _) _
 have ho : Own3 (w.alloc (.cells #[.int .i64 0, .int .i64 0, .string ⟨#[]⟩] 23)) w.heap.size noVal := own3_new w noVal
 obtain ⟨g, o, x', rfl, hg, hx, c0, c1, c2⟩ := (hl.keep hb0).at_ (k := 0) (by omega)
 obtain rfl : x = x' := by rw [ha] at hx; exact Option.some.inj hx
 obtain ⟨g', o', y', e, _, hy, d0, d1, d2⟩ := (hl.keep hb0).at_ (k := 1) (by omega)
 cases e
 obtain rfl : y = y' := by rw [hb] at hy; exact Option.some.inj hy
 clear hy
 have hcap := hl.2.2.1
 have hmax := hl.2.2.2.1
 unfold maxLen at hmax
 simp only [Nat.zero_mul, Nat.one_mul, Nat.add_zero] at c0 c1 c2 d0 d1 d2
 unfold fits lo63 hi63 at fa
 obtain ⟨f1, f2⟩ := fa
 have HO := Lib.hid ho
 have HB := Lib.hid hb0
 clear hx ha hb hl ho hb0
 go_enter Tryz.func184, Tryz.ntmps184
 go_wp2_with fail
 generalize w.alloc (.cells #[.int .i64 0, .int .i64 0, .string ⟨#[]⟩] 23) = w0 at HO HB c0 c1 c2 d0 d1 d2 hg ⊢
 go_still_tail 10, (by kernel_rfl)
 change wpList _ _ _ _ _ w0.drew
 have HO2 := Lib.hid (show Own3 w0.drew w.heap.size noVal from HO.out)
 have HB2 := Lib.hid (HB.out.drew)
 generalize w0.drew = w2 at HO2 HB2 ⊢
 go_wp2_with fail
 refine (truth_any _ _).mono ?_
 rintro e w3 ⟨rfl, hb3⟩
 have HO3 := Lib.hid (HO2.out.keep hb3)
 have HB3 := Lib.hid (below_step HB2.out hb3)
 clear hb3
 obtain ⟨o0, o1, o2, z0, z1, z2, hlt⟩ := HO3.out.cells
 unfold valV
 go_wp2_with fail
 have HO4 := own3_set HO3.out (truthV (decide (1 < x.n + y.n))).type (truthV (decide (1 < x.n + y.n))).n (truthV (decide (1 < x.n + y.n))).s
 have HB4 := Lib.hid (below_set3 HB3.out (Nat.le_refl _) (truthV (decide (1 < x.n + y.n))).type (truthV (decide (1 < x.n + y.n))).n (truthV (decide (1 < x.n + y.n))).s)
 generalize ((w3.setCell ⟨w.heap.size, 0, none⟩ (.int .i64 (truthV (decide (1 < x.n + y.n))).type)).setCell ⟨w.heap.size, 1, none⟩ (.int .i64 (truthV (decide (1 < x.n + y.n))).n)).setCell ⟨w.heap.size, 2, none⟩ (.string (truthV (decide (1 < x.n + y.n))).s) = w4 at HO4 HB4 ⊢
 clear o0 o1 o2 z0 z1 z2 hlt
 obtain ⟨o0, o1, o2, z0, z1, z2, hlt⟩ := HO4.cells
 exact bodyPost_ret (v := .tuple #[valV (truthV (decide (1 < x.n + y.n))), errV 0]) (by simp [results, Tryz.results184, go_sem, o0, o1, o2, valV, errV]) rfl ⟨rfl, HB4.out⟩
set_option maxHeartbeats 2000000 in
set_option maxRecDepth 100000 in
theorem apply_not (l : List Val) (x : Val) (A : Option Addr) (c : Nat) (w : World) (hl : SeesVals w A 1 c l) (ha : l[0]? = some x) :
  Calls Tryz.prog 184 #[.string ⟨#[110, 111, 116]⟩, .slice A 1 c] w (ApplySays (truthV (x.n == 0)) (0) w) := by
 have hb0 : Below w.heap.size w (w.alloc (.cells #[.int .i64 0, .int .i64 0, .string ⟨#[]⟩] 23)) := (Below.refl _ _).alloc (Nat.le_refl _) _
 have ho : Own3 (w.alloc (.cells #[.int .i64 0, .int .i64 0, .string ⟨#[]⟩] 23)) w.heap.size noVal := own3_new w noVal
 obtain ⟨g, o, x', rfl, hg, hx, c0, c1, c2⟩ := (hl.keep hb0).at_ (k := 0) (by omega)
 obtain rfl : x = x' := by rw [ha] at hx; exact Option.some.inj hx
 have hcap := hl.2.2.1
 have hmax := hl.2.2.2.1
 unfold maxLen at hmax
 simp only [Nat.zero_mul, Nat.add_zero] at c0 c1 c2
 have HO := Lib.hid ho
 have HB := Lib.hid hb0
 clear hx ha hl ho hb0
 go_enter Tryz.func184, Tryz.ntmps184
 go_wp2_with fail
 have HO0 := HO
 have HB0 := HB
 refine (truth_any _ _).mono ?_
 rintro e w3 ⟨rfl, hb3⟩
 have HO3 := Lib.hid (HO0.out.keep hb3)
 have HB3 := Lib.hid (below_step HB0.out hb3)
 clear hb3
 obtain ⟨o0, o1, o2, z0, z1, z2, hlt⟩ := HO3.out.cells
 unfold valV
 go_wp2_with fail
 have HO4 := own3_set HO3.out (truthV (x.n == 0)).type (truthV (x.n == 0)).n (truthV (x.n == 0)).s
 have HB4 := Lib.hid (below_set3 HB3.out (Nat.le_refl _) (truthV (x.n == 0)).type (truthV (x.n == 0)).n (truthV (x.n == 0)).s)
 generalize ((w3.setCell ⟨w.heap.size, 0, none⟩ (.int .i64 (truthV (x.n == 0)).type)).setCell ⟨w.heap.size, 1, none⟩ (.int .i64 (truthV (x.n == 0)).n)).setCell ⟨w.heap.size, 2, none⟩ (.string (truthV (x.n == 0)).s) = w4 at HO4 HB4 ⊢
 clear o0 o1 o2 z0 z1 z2 hlt
 obtain ⟨o0, o1, o2, z0, z1, z2, hlt⟩ := HO4.cells
 exact bodyPost_ret (v := .tuple #[valV (truthV (x.n == 0)), errV 0]) (by simp [results, Tryz.results184, go_sem, o0, o1, o2, valV, errV]) rfl ⟨rfl, HB4.out⟩
set_option maxHeartbeats 2000000 in
set_option maxRecDepth 100000 in
theorem apply_eq (l : List Val) (x y : Val) (A : Option Addr) (c : Nat) (w : World) (hl : SeesVals w A 2 c l) (ha : l[0]? = some x) (hb : l[1]? = some y) :
  Calls Tryz.prog 184 #[.string ⟨#[61]⟩, .slice A 2 c] w (ApplySays (truthV (vorder x y == 0)) (0) w) := by
 have hb0 : Below w.heap.size w (w.alloc (.cells #[.int .i64 0, .int .i64 0, .string ⟨#[]⟩] 23)) := (Below.refl _ _).alloc (Nat.le_refl _) _
 have ho : Own3 (w.alloc (.cells #[.int .i64 0, .int .i64 0, .string ⟨#[]⟩] 23)) w.heap.size noVal := own3_new w noVal
 obtain ⟨g, o, x', rfl, hg, hx, c0, c1, c2⟩ := (hl.keep hb0).at_ (k := 0) (by omega)
 obtain rfl : x = x' := by rw [ha] at hx; exact Option.some.inj hx
 obtain ⟨g', o', y', e, _, hy, d0, d1, d2⟩ := (hl.keep hb0).at_ (k := 1) (by omega)
 cases e
 obtain rfl : y = y' := by rw [hb] at hy; exact Option.some.inj hy
 clear hy
 have hcap := hl.2.2.1
 have hmax := hl.2.2.2.1
 unfold maxLen at hmax
 simp only [Nat.zero_mul, Nat.one_mul, Nat.add_zero] at c0 c1 c2 d0 d1 d2
 have hgw : g < w.heap.size := by
  obtain ⟨g1, o1, x1, e1, h1, _⟩ := hl.at_ (k := 0) (by omega)
  cases e1; exact h1
 have hne : g ≠ w.heap.size := Nat.ne_of_lt hgw
 have HO := Lib.hid ho
 have HB := Lib.hid hb0
 clear hx ha hb hl ho hb0
 go_enter Tryz.func184, Tryz.ntmps184
 go_wp2_with fail
 generalize w.alloc (.cells #[.int .i64 0, .int .i64 0, .string ⟨#[]⟩] 23) = w0 at HO HB c0 c1 c2 d0 d1 d2 hg ⊢
 have k0 := c0; have k1 := c1; have k2 := c2; have k3 := d0; have k4 := d1; have k5 := d2
 go_region_held3 (fun w' => w'.cell? ⟨g, o, none⟩ = some (.int .i64 x.type) ∧ w'.cell? ⟨g, o + 1, none⟩ = some (.int .i64 x.n) ∧ w'.cell? ⟨g, o + 2, none⟩ = some (.string x.s) ∧ w'.cell? ⟨g, o + 3, none⟩ = some (.int .i64 y.type) ∧ w'.cell? ⟨g, o + 3 + 1, none⟩ = some (.int .i64 y.n) ∧ w'.cell? ⟨g, o + 3 + 2, none⟩ = some (.string y.s)) (first | go_keep | exact ⟨q0, q1, q2, q3, q4, q5⟩ | exact ⟨r0, r1, r2, r3, r4, r5⟩ | exact ⟨(cell_set3 hne _ _ _ _).trans r0, (cell_set3 hne _ _ _ _).trans r1, (cell_set3 hne _ _ _ _).trans r2, (cell_set3 hne _ _ _ _).trans r3, (cell_set3 hne _ _ _ _).trans r4, (cell_set3 hne _ _ _ _).trans r5⟩)
  (first
   | (go_at_call 90; refine (vorder_any x y _).mono ?_; rintro e w3 ⟨rfl, hb3⟩; have q0 := (hb3.cell (p := ⟨g, o, none⟩) hg).trans k0; have q1 := (hb3.cell (p := ⟨g, o + 1, none⟩) hg).trans k1; have q2 := (hb3.cell (p := ⟨g, o + 2, none⟩) hg).trans k2; have q3 := (hb3.cell (p := ⟨g, o + 3, none⟩) hg).trans k3; have q4 := (hb3.cell (p := ⟨g, o + 3 + 1, none⟩) hg).trans k4; have q5 := (hb3.cell (p := ⟨g, o + 3 + 2, none⟩) hg).trans k5; have HO3 := Lib.hid (Own3.keep (show Own3 w0.drew w.heap.size noVal from HO.out) hb3); have HB3 := Lib.hid (below_step HB.out.drew hb3); have hg3 : g < w3.heap.size := Nat.lt_of_lt_of_le hg hb3.size; clear hb3)
   | (go_at_call 221; refine (compared_eq _ _).mono ?_; rintro e w' ⟨rfl, rfl⟩)
   | (go_at_call 92; refine (truth_any _ _).mono ?_; rintro e w5 ⟨rfl, hb5⟩; have r0 := (hb5.cell (p := ⟨g, o, none⟩) hg3).trans q0; have r1 := (hb5.cell (p := ⟨g, o + 1, none⟩) hg3).trans q1; have r2 := (hb5.cell (p := ⟨g, o + 2, none⟩) hg3).trans q2; have r3 := (hb5.cell (p := ⟨g, o + 3, none⟩) hg3).trans q3; have r4 := (hb5.cell (p := ⟨g, o + 3 + 1, none⟩) hg3).trans q4; have r5 := (hb5.cell (p := ⟨g, o + 3 + 2, none⟩) hg3).trans q5; have HO5 := Lib.hid (HO3.out.keep hb5); have HB5 := Lib.hid (below_step HB3.out hb5); obtain ⟨o0, o1, o2, z0, z1, z2, hlt⟩ := HO5.out.cells; clear hb5; unfold valV))
 go_wp2_with fail
 have HO4 := own3_set HO5.out (truthV (vorder x y == 0)).type (truthV (vorder x y == 0)).n (truthV (vorder x y == 0)).s
 have HB4 := Lib.hid (below_set3 HB5.out (Nat.le_refl _) (truthV (vorder x y == 0)).type (truthV (vorder x y == 0)).n (truthV (vorder x y == 0)).s)
 generalize ((w5.setCell ⟨w.heap.size, 0, none⟩ (.int .i64 (truthV (vorder x y == 0)).type)).setCell ⟨w.heap.size, 1, none⟩ (.int .i64 (truthV (vorder x y == 0)).n)).setCell ⟨w.heap.size, 2, none⟩ (.string (truthV (vorder x y == 0)).s) = w4 at HO4 HB4 ⊢
 clear o0 o1 o2 z0 z1 z2 hlt
 obtain ⟨o0, o1, o2, z0, z1, z2, hlt⟩ := HO4.cells
 exact bodyPost_ret (v := .tuple #[valV (truthV (vorder x y == 0)), errV 0]) (by simp [results, Tryz.results184, go_sem, o0, o1, o2, valV, errV]) rfl ⟨rfl, HB4.out⟩
set_option maxHeartbeats 2000000 in
set_option maxRecDepth 100000 in
theorem apply_ne (l : List Val) (x y : Val) (A : Option Addr) (c : Nat) (w : World) (hl : SeesVals w A 2 c l) (ha : l[0]? = some x) (hb : l[1]? = some y) :
  Calls Tryz.prog 184 #[.string ⟨#[60, 62]⟩, .slice A 2 c] w (ApplySays (truthV (vorder x y != 0)) (0) w) := by
 have hb0 : Below w.heap.size w (w.alloc (.cells #[.int .i64 0, .int .i64 0, .string ⟨#[]⟩] 23)) := (Below.refl _ _).alloc (Nat.le_refl _) _
 have ho : Own3 (w.alloc (.cells #[.int .i64 0, .int .i64 0, .string ⟨#[]⟩] 23)) w.heap.size noVal := own3_new w noVal
 obtain ⟨g, o, x', rfl, hg, hx, c0, c1, c2⟩ := (hl.keep hb0).at_ (k := 0) (by omega)
 obtain rfl : x = x' := by rw [ha] at hx; exact Option.some.inj hx
 obtain ⟨g', o', y', e, _, hy, d0, d1, d2⟩ := (hl.keep hb0).at_ (k := 1) (by omega)
 cases e
 obtain rfl : y = y' := by rw [hb] at hy; exact Option.some.inj hy
 clear hy
 have hcap := hl.2.2.1
 have hmax := hl.2.2.2.1
 unfold maxLen at hmax
 simp only [Nat.zero_mul, Nat.one_mul, Nat.add_zero] at c0 c1 c2 d0 d1 d2
 have hgw : g < w.heap.size := by
  obtain ⟨g1, o1, x1, e1, h1, _⟩ := hl.at_ (k := 0) (by omega)
  cases e1; exact h1
 have hne : g ≠ w.heap.size := Nat.ne_of_lt hgw
 have HO := Lib.hid ho
 have HB := Lib.hid hb0
 clear hx ha hb hl ho hb0
 go_enter Tryz.func184, Tryz.ntmps184
 go_wp2_with fail
 generalize w.alloc (.cells #[.int .i64 0, .int .i64 0, .string ⟨#[]⟩] 23) = w0 at HO HB c0 c1 c2 d0 d1 d2 hg ⊢
 have k0 := c0; have k1 := c1; have k2 := c2; have k3 := d0; have k4 := d1; have k5 := d2
 go_region_held3 (fun w' => w'.cell? ⟨g, o, none⟩ = some (.int .i64 x.type) ∧ w'.cell? ⟨g, o + 1, none⟩ = some (.int .i64 x.n) ∧ w'.cell? ⟨g, o + 2, none⟩ = some (.string x.s) ∧ w'.cell? ⟨g, o + 3, none⟩ = some (.int .i64 y.type) ∧ w'.cell? ⟨g, o + 3 + 1, none⟩ = some (.int .i64 y.n) ∧ w'.cell? ⟨g, o + 3 + 2, none⟩ = some (.string y.s)) (first | go_keep | exact ⟨q0, q1, q2, q3, q4, q5⟩ | exact ⟨r0, r1, r2, r3, r4, r5⟩ | exact ⟨(cell_set3 hne _ _ _ _).trans r0, (cell_set3 hne _ _ _ _).trans r1, (cell_set3 hne _ _ _ _).trans r2, (cell_set3 hne _ _ _ _).trans r3, (cell_set3 hne _ _ _ _).trans r4, (cell_set3 hne _ _ _ _).trans r5⟩)
  (first
   | (go_at_call 90; refine (vorder_any x y _).mono ?_; rintro e w3 ⟨rfl, hb3⟩; have q0 := (hb3.cell (p := ⟨g, o, none⟩) hg).trans k0; have q1 := (hb3.cell (p := ⟨g, o + 1, none⟩) hg).trans k1; have q2 := (hb3.cell (p := ⟨g, o + 2, none⟩) hg).trans k2; have q3 := (hb3.cell (p := ⟨g, o + 3, none⟩) hg).trans k3; have q4 := (hb3.cell (p := ⟨g, o + 3 + 1, none⟩) hg).trans k4; have q5 := (hb3.cell (p := ⟨g, o + 3 + 2, none⟩) hg).trans k5; have HO3 := Lib.hid (Own3.keep (show Own3 w0.drew w.heap.size noVal from HO.out) hb3); have HB3 := Lib.hid (below_step HB.out.drew hb3); have hg3 : g < w3.heap.size := Nat.lt_of_lt_of_le hg hb3.size; clear hb3)
   | (go_at_call 221; refine (compared_ne _ _).mono ?_; rintro e w' ⟨rfl, rfl⟩)
   | (go_at_call 92; refine (truth_any _ _).mono ?_; rintro e w5 ⟨rfl, hb5⟩; have r0 := (hb5.cell (p := ⟨g, o, none⟩) hg3).trans q0; have r1 := (hb5.cell (p := ⟨g, o + 1, none⟩) hg3).trans q1; have r2 := (hb5.cell (p := ⟨g, o + 2, none⟩) hg3).trans q2; have r3 := (hb5.cell (p := ⟨g, o + 3, none⟩) hg3).trans q3; have r4 := (hb5.cell (p := ⟨g, o + 3 + 1, none⟩) hg3).trans q4; have r5 := (hb5.cell (p := ⟨g, o + 3 + 2, none⟩) hg3).trans q5; have HO5 := Lib.hid (HO3.out.keep hb5); have HB5 := Lib.hid (below_step HB3.out hb5); obtain ⟨o0, o1, o2, z0, z1, z2, hlt⟩ := HO5.out.cells; clear hb5; unfold valV))
 go_wp2_with fail
 have HO4 := own3_set HO5.out (truthV (vorder x y != 0)).type (truthV (vorder x y != 0)).n (truthV (vorder x y != 0)).s
 have HB4 := Lib.hid (below_set3 HB5.out (Nat.le_refl _) (truthV (vorder x y != 0)).type (truthV (vorder x y != 0)).n (truthV (vorder x y != 0)).s)
 generalize ((w5.setCell ⟨w.heap.size, 0, none⟩ (.int .i64 (truthV (vorder x y != 0)).type)).setCell ⟨w.heap.size, 1, none⟩ (.int .i64 (truthV (vorder x y != 0)).n)).setCell ⟨w.heap.size, 2, none⟩ (.string (truthV (vorder x y != 0)).s) = w4 at HO4 HB4 ⊢
 clear o0 o1 o2 z0 z1 z2 hlt
 obtain ⟨o0, o1, o2, z0, z1, z2, hlt⟩ := HO4.cells
 exact bodyPost_ret (v := .tuple #[valV (truthV (vorder x y != 0)), errV 0]) (by simp [results, Tryz.results184, go_sem, o0, o1, o2, valV, errV]) rfl ⟨rfl, HB4.out⟩
set_option maxHeartbeats 2000000 in
set_option maxRecDepth 100000 in
theorem apply_lt (l : List Val) (x y : Val) (A : Option Addr) (c : Nat) (w : World) (hl : SeesVals w A 2 c l) (ha : l[0]? = some x) (hb : l[1]? = some y) :
  Calls Tryz.prog 184 #[.string ⟨#[60]⟩, .slice A 2 c] w (ApplySays (truthV (decide (vorder x y < 0))) (0) w) := by
 have hb0 : Below w.heap.size w (w.alloc (.cells #[.int .i64 0, .int .i64 0, .string ⟨#[]⟩] 23)) := (Below.refl _ _).alloc (Nat.le_refl _) _
 have ho : Own3 (w.alloc (.cells #[.int .i64 0, .int .i64 0, .string ⟨#[]⟩] 23)) w.heap.size noVal := own3_new w noVal
 obtain ⟨g, o, x', rfl, hg, hx, c0, c1, c2⟩ := (hl.keep hb0).at_ (k := 0) (by omega)
 obtain rfl : x = x' := by rw [ha] at hx; exact Option.some.inj hx
 obtain ⟨g', o', y', e, _, hy, d0, d1, d2⟩ := (hl.keep hb0).at_ (k := 1) (by omega)
 cases e
 obtain rfl : y = y' := by rw [hb] at hy; exact Option.some.inj hy
 clear hy
 have hcap := hl.2.2.1
 have hmax := hl.2.2.2.1
 unfold maxLen at hmax
 simp only [Nat.zero_mul, Nat.one_mul, Nat.add_zero] at c0 c1 c2 d0 d1 d2
 have hgw : g < w.heap.size := by
  obtain ⟨g1, o1, x1, e1, h1, _⟩ := hl.at_ (k := 0) (by omega)
  cases e1; exact h1
 have hne : g ≠ w.heap.size := Nat.ne_of_lt hgw
 have HO := Lib.hid ho
 have HB := Lib.hid hb0
 clear hx ha hb hl ho hb0
 go_enter Tryz.func184, Tryz.ntmps184
 go_wp2_with fail
 generalize w.alloc (.cells #[.int .i64 0, .int .i64 0, .string ⟨#[]⟩] 23) = w0 at HO HB c0 c1 c2 d0 d1 d2 hg ⊢
 have k0 := c0; have k1 := c1; have k2 := c2; have k3 := d0; have k4 := d1; have k5 := d2
 go_region_held3 (fun w' => w'.cell? ⟨g, o, none⟩ = some (.int .i64 x.type) ∧ w'.cell? ⟨g, o + 1, none⟩ = some (.int .i64 x.n) ∧ w'.cell? ⟨g, o + 2, none⟩ = some (.string x.s) ∧ w'.cell? ⟨g, o + 3, none⟩ = some (.int .i64 y.type) ∧ w'.cell? ⟨g, o + 3 + 1, none⟩ = some (.int .i64 y.n) ∧ w'.cell? ⟨g, o + 3 + 2, none⟩ = some (.string y.s)) (first | go_keep | exact ⟨q0, q1, q2, q3, q4, q5⟩ | exact ⟨r0, r1, r2, r3, r4, r5⟩ | exact ⟨(cell_set3 hne _ _ _ _).trans r0, (cell_set3 hne _ _ _ _).trans r1, (cell_set3 hne _ _ _ _).trans r2, (cell_set3 hne _ _ _ _).trans r3, (cell_set3 hne _ _ _ _).trans r4, (cell_set3 hne _ _ _ _).trans r5⟩)
  (first
   | (go_at_call 90; refine (vorder_any x y _).mono ?_; rintro e w3 ⟨rfl, hb3⟩; have q0 := (hb3.cell (p := ⟨g, o, none⟩) hg).trans k0; have q1 := (hb3.cell (p := ⟨g, o + 1, none⟩) hg).trans k1; have q2 := (hb3.cell (p := ⟨g, o + 2, none⟩) hg).trans k2; have q3 := (hb3.cell (p := ⟨g, o + 3, none⟩) hg).trans k3; have q4 := (hb3.cell (p := ⟨g, o + 3 + 1, none⟩) hg).trans k4; have q5 := (hb3.cell (p := ⟨g, o + 3 + 2, none⟩) hg).trans k5; have HO3 := Lib.hid (Own3.keep (show Own3 w0.drew w.heap.size noVal from HO.out) hb3); have HB3 := Lib.hid (below_step HB.out.drew hb3); have hg3 : g < w3.heap.size := Nat.lt_of_lt_of_le hg hb3.size; clear hb3)
   | (go_at_call 221; refine (compared_lt _ _).mono ?_; rintro e w' ⟨rfl, rfl⟩)
   | (go_at_call 92; refine (truth_any _ _).mono ?_; rintro e w5 ⟨rfl, hb5⟩; have r0 := (hb5.cell (p := ⟨g, o, none⟩) hg3).trans q0; have r1 := (hb5.cell (p := ⟨g, o + 1, none⟩) hg3).trans q1; have r2 := (hb5.cell (p := ⟨g, o + 2, none⟩) hg3).trans q2; have r3 := (hb5.cell (p := ⟨g, o + 3, none⟩) hg3).trans q3; have r4 := (hb5.cell (p := ⟨g, o + 3 + 1, none⟩) hg3).trans q4; have r5 := (hb5.cell (p := ⟨g, o + 3 + 2, none⟩) hg3).trans q5; have HO5 := Lib.hid (HO3.out.keep hb5); have HB5 := Lib.hid (below_step HB3.out hb5); obtain ⟨o0, o1, o2, z0, z1, z2, hlt⟩ := HO5.out.cells; clear hb5; unfold valV))
 go_wp2_with fail
 have HO4 := own3_set HO5.out (truthV (decide (vorder x y < 0))).type (truthV (decide (vorder x y < 0))).n (truthV (decide (vorder x y < 0))).s
 have HB4 := Lib.hid (below_set3 HB5.out (Nat.le_refl _) (truthV (decide (vorder x y < 0))).type (truthV (decide (vorder x y < 0))).n (truthV (decide (vorder x y < 0))).s)
 generalize ((w5.setCell ⟨w.heap.size, 0, none⟩ (.int .i64 (truthV (decide (vorder x y < 0))).type)).setCell ⟨w.heap.size, 1, none⟩ (.int .i64 (truthV (decide (vorder x y < 0))).n)).setCell ⟨w.heap.size, 2, none⟩ (.string (truthV (decide (vorder x y < 0))).s) = w4 at HO4 HB4 ⊢
 clear o0 o1 o2 z0 z1 z2 hlt
 obtain ⟨o0, o1, o2, z0, z1, z2, hlt⟩ := HO4.cells
 exact bodyPost_ret (v := .tuple #[valV (truthV (decide (vorder x y < 0))), errV 0]) (by simp [results, Tryz.results184, go_sem, o0, o1, o2, valV, errV]) rfl ⟨rfl, HB4.out⟩
set_option maxHeartbeats 2000000 in
set_option maxRecDepth 100000 in
theorem apply_le (l : List Val) (x y : Val) (A : Option Addr) (c : Nat) (w : World) (hl : SeesVals w A 2 c l) (ha : l[0]? = some x) (hb : l[1]? = some y) :
  Calls Tryz.prog 184 #[.string ⟨#[60, 61]⟩, .slice A 2 c] w (ApplySays (truthV (decide (vorder x y ≤ 0))) (0) w) := by
 have hb0 : Below w.heap.size w (w.alloc (.cells #[.int .i64 0, .int .i64 0, .string ⟨#[]⟩] 23)) := (Below.refl _ _).alloc (Nat.le_refl _) _
 have ho : Own3 (w.alloc (.cells #[.int .i64 0, .int .i64 0, .string ⟨#[]⟩] 23)) w.heap.size noVal := own3_new w noVal
 obtain ⟨g, o, x', rfl, hg, hx, c0, c1, c2⟩ := (hl.keep hb0).at_ (k := 0) (by omega)
 obtain rfl : x = x' := by rw [ha] at hx; exact Option.some.inj hx
 obtain ⟨g', o', y', e, _, hy, d0, d1, d2⟩ := (hl.keep hb0).at_ (k := 1) (by omega)
 cases e
 obtain rfl : y = y' := by rw [hb] at hy; exact Option.some.inj hy
 clear hy
 have hcap := hl.2.2.1
 have hmax := hl.2.2.2.1
 unfold maxLen at hmax
 simp only [Nat.zero_mul, Nat.one_mul, Nat.add_zero] at c0 c1 c2 d0 d1 d2
 have hgw : g < w.heap.size := by
  obtain ⟨g1, o1, x1, e1, h1, _⟩ := hl.at_ (k := 0) (by omega)
  cases e1; exact h1
 have hne : g ≠ w.heap.size := Nat.ne_of_lt hgw
 have HO := Lib.hid ho
 have HB := Lib.hid hb0
 clear hx ha hb hl ho hb0
 go_enter Tryz.func184, Tryz.ntmps184
 go_wp2_with fail
 generalize w.alloc (.cells #[.int .i64 0, .int .i64 0, .string ⟨#[]⟩] 23) = w0 at HO HB c0 c1 c2 d0 d1 d2 hg ⊢
 have k0 := c0; have k1 := c1; have k2 := c2; have k3 := d0; have k4 := d1; have k5 := d2
 go_region_held3 (fun w' => w'.cell? ⟨g, o, none⟩ = some (.int .i64 x.type) ∧ w'.cell? ⟨g, o + 1, none⟩ = some (.int .i64 x.n) ∧ w'.cell? ⟨g, o + 2, none⟩ = some (.string x.s) ∧ w'.cell? ⟨g, o + 3, none⟩ = some (.int .i64 y.type) ∧ w'.cell? ⟨g, o + 3 + 1, none⟩ = some (.int .i64 y.n) ∧ w'.cell? ⟨g, o + 3 + 2, none⟩ = some (.string y.s)) (first | go_keep | exact ⟨q0, q1, q2, q3, q4, q5⟩ | exact ⟨r0, r1, r2, r3, r4, r5⟩ | exact ⟨(cell_set3 hne _ _ _ _).trans r0, (cell_set3 hne _ _ _ _).trans r1, (cell_set3 hne _ _ _ _).trans r2, (cell_set3 hne _ _ _ _).trans r3, (cell_set3 hne _ _ _ _).trans r4, (cell_set3 hne _ _ _ _).trans r5⟩)
  (first
   | (go_at_call 90; refine (vorder_any x y _).mono ?_; rintro e w3 ⟨rfl, hb3⟩; have q0 := (hb3.cell (p := ⟨g, o, none⟩) hg).trans k0; have q1 := (hb3.cell (p := ⟨g, o + 1, none⟩) hg).trans k1; have q2 := (hb3.cell (p := ⟨g, o + 2, none⟩) hg).trans k2; have q3 := (hb3.cell (p := ⟨g, o + 3, none⟩) hg).trans k3; have q4 := (hb3.cell (p := ⟨g, o + 3 + 1, none⟩) hg).trans k4; have q5 := (hb3.cell (p := ⟨g, o + 3 + 2, none⟩) hg).trans k5; have HO3 := Lib.hid (Own3.keep (show Own3 w0.drew w.heap.size noVal from HO.out) hb3); have HB3 := Lib.hid (below_step HB.out.drew hb3); have hg3 : g < w3.heap.size := Nat.lt_of_lt_of_le hg hb3.size; clear hb3)
   | (go_at_call 221; refine (compared_le _ _).mono ?_; rintro e w' ⟨rfl, rfl⟩)
   | (go_at_call 92; refine (truth_any _ _).mono ?_; rintro e w5 ⟨rfl, hb5⟩; have r0 := (hb5.cell (p := ⟨g, o, none⟩) hg3).trans q0; have r1 := (hb5.cell (p := ⟨g, o + 1, none⟩) hg3).trans q1; have r2 := (hb5.cell (p := ⟨g, o + 2, none⟩) hg3).trans q2; have r3 := (hb5.cell (p := ⟨g, o + 3, none⟩) hg3).trans q3; have r4 := (hb5.cell (p := ⟨g, o + 3 + 1, none⟩) hg3).trans q4; have r5 := (hb5.cell (p := ⟨g, o + 3 + 2, none⟩) hg3).trans q5; have HO5 := Lib.hid (HO3.out.keep hb5); have HB5 := Lib.hid (below_step HB3.out hb5); obtain ⟨o0, o1, o2, z0, z1, z2, hlt⟩ := HO5.out.cells; clear hb5; unfold valV))
 go_wp2_with fail
 have HO4 := own3_set HO5.out (truthV (decide (vorder x y ≤ 0))).type (truthV (decide (vorder x y ≤ 0))).n (truthV (decide (vorder x y ≤ 0))).s
 have HB4 := Lib.hid (below_set3 HB5.out (Nat.le_refl _) (truthV (decide (vorder x y ≤ 0))).type (truthV (decide (vorder x y ≤ 0))).n (truthV (decide (vorder x y ≤ 0))).s)
 generalize ((w5.setCell ⟨w.heap.size, 0, none⟩ (.int .i64 (truthV (decide (vorder x y ≤ 0))).type)).setCell ⟨w.heap.size, 1, none⟩ (.int .i64 (truthV (decide (vorder x y ≤ 0))).n)).setCell ⟨w.heap.size, 2, none⟩ (.string (truthV (decide (vorder x y ≤ 0))).s) = w4 at HO4 HB4 ⊢
 clear o0 o1 o2 z0 z1 z2 hlt
 obtain ⟨o0, o1, o2, z0, z1, z2, hlt⟩ := HO4.cells
 exact bodyPost_ret (v := .tuple #[valV (truthV (decide (vorder x y ≤ 0))), errV 0]) (by simp [results, Tryz.results184, go_sem, o0, o1, o2, valV, errV]) rfl ⟨rfl, HB4.out⟩
set_option maxHeartbeats 2000000 in
set_option maxRecDepth 100000 in
theorem apply_gt (l : List Val) (x y : Val) (A : Option Addr) (c : Nat) (w : World) (hl : SeesVals w A 2 c l) (ha : l[0]? = some x) (hb : l[1]? = some y) :
  Calls Tryz.prog 184 #[.string ⟨#[62]⟩, .slice A 2 c] w (ApplySays (truthV (decide (0 < vorder x y))) (0) w) := by
 have hb0 : Below w.heap.size w (w.alloc (.cells #[.int .i64 0, .int .i64 0, .string ⟨#[]⟩] 23)) := (Below.refl _ _).alloc (Nat.le_refl _) _
 have ho : Own3 (w.alloc (.cells #[.int .i64 0, .int .i64 0, .string ⟨#[]⟩] 23)) w.heap.size noVal := own3_new w noVal
 obtain ⟨g, o, x', rfl, hg, hx, c0, c1, c2⟩ := (hl.keep hb0).at_ (k := 0) (by omega)
 obtain rfl : x = x' := by rw [ha] at hx; exact Option.some.inj hx
 obtain ⟨g', o', y', e, _, hy, d0, d1, d2⟩ := (hl.keep hb0).at_ (k := 1) (by omega)
 cases e
 obtain rfl : y = y' := by rw [hb] at hy; exact Option.some.inj hy
 clear hy
 have hcap := hl.2.2.1
 have hmax := hl.2.2.2.1
 unfold maxLen at hmax
 simp only [Nat.zero_mul, Nat.one_mul, Nat.add_zero] at c0 c1 c2 d0 d1 d2
 have hgw : g < w.heap.size := by
  obtain ⟨g1, o1, x1, e1, h1, _⟩ := hl.at_ (k := 0) (by omega)
  cases e1; exact h1
 have hne : g ≠ w.heap.size := Nat.ne_of_lt hgw
 have HO := Lib.hid ho
 have HB := Lib.hid hb0
 clear hx ha hb hl ho hb0
 go_enter Tryz.func184, Tryz.ntmps184
 go_wp2_with fail
 generalize w.alloc (.cells #[.int .i64 0, .int .i64 0, .string ⟨#[]⟩] 23) = w0 at HO HB c0 c1 c2 d0 d1 d2 hg ⊢
 have k0 := c0; have k1 := c1; have k2 := c2; have k3 := d0; have k4 := d1; have k5 := d2
 go_region_held3 (fun w' => w'.cell? ⟨g, o, none⟩ = some (.int .i64 x.type) ∧ w'.cell? ⟨g, o + 1, none⟩ = some (.int .i64 x.n) ∧ w'.cell? ⟨g, o + 2, none⟩ = some (.string x.s) ∧ w'.cell? ⟨g, o + 3, none⟩ = some (.int .i64 y.type) ∧ w'.cell? ⟨g, o + 3 + 1, none⟩ = some (.int .i64 y.n) ∧ w'.cell? ⟨g, o + 3 + 2, none⟩ = some (.string y.s)) (first | go_keep | exact ⟨q0, q1, q2, q3, q4, q5⟩ | exact ⟨r0, r1, r2, r3, r4, r5⟩ | exact ⟨(cell_set3 hne _ _ _ _).trans r0, (cell_set3 hne _ _ _ _).trans r1, (cell_set3 hne _ _ _ _).trans r2, (cell_set3 hne _ _ _ _).trans r3, (cell_set3 hne _ _ _ _).trans r4, (cell_set3 hne _ _ _ _).trans r5⟩)
  (first
   | (go_at_call 90; refine (vorder_any x y _).mono ?_; rintro e w3 ⟨rfl, hb3⟩; have q0 := (hb3.cell (p := ⟨g, o, none⟩) hg).trans k0; have q1 := (hb3.cell (p := ⟨g, o + 1, none⟩) hg).trans k1; have q2 := (hb3.cell (p := ⟨g, o + 2, none⟩) hg).trans k2; have q3 := (hb3.cell (p := ⟨g, o + 3, none⟩) hg).trans k3; have q4 := (hb3.cell (p := ⟨g, o + 3 + 1, none⟩) hg).trans k4; have q5 := (hb3.cell (p := ⟨g, o + 3 + 2, none⟩) hg).trans k5; have HO3 := Lib.hid (Own3.keep (show Own3 w0.drew w.heap.size noVal from HO.out) hb3); have HB3 := Lib.hid (below_step HB.out.drew hb3); have hg3 : g < w3.heap.size := Nat.lt_of_lt_of_le hg hb3.size; clear hb3)
   | (go_at_call 221; refine (compared_gt _ _).mono ?_; rintro e w' ⟨rfl, rfl⟩)
   | (go_at_call 92; refine (truth_any _ _).mono ?_; rintro e w5 ⟨rfl, hb5⟩; have r0 := (hb5.cell (p := ⟨g, o, none⟩) hg3).trans q0; have r1 := (hb5.cell (p := ⟨g, o + 1, none⟩) hg3).trans q1; have r2 := (hb5.cell (p := ⟨g, o + 2, none⟩) hg3).trans q2; have r3 := (hb5.cell (p := ⟨g, o + 3, none⟩) hg3).trans q3; have r4 := (hb5.cell (p := ⟨g, o + 3 + 1, none⟩) hg3).trans q4; have r5 := (hb5.cell (p := ⟨g, o + 3 + 2, none⟩) hg3).trans q5; have HO5 := Lib.hid (HO3.out.keep hb5); have HB5 := Lib.hid (below_step HB3.out hb5); obtain ⟨o0, o1, o2, z0, z1, z2, hlt⟩ := HO5.out.cells; clear hb5; unfold valV))
 go_wp2_with fail
 have HO4 := own3_set HO5.out (truthV (decide (0 < vorder x y))).type (truthV (decide (0 < vorder x y))).n (truthV (decide (0 < vorder x y))).s
 have HB4 := Lib.hid (below_set3 HB5.out (Nat.le_refl _) (truthV (decide (0 < vorder x y))).type (truthV (decide (0 < vorder x y))).n (truthV (decide (0 < vorder x y))).s)
 generalize ((w5.setCell ⟨w.heap.size, 0, none⟩ (.int .i64 (truthV (decide (0 < vorder x y))).type)).setCell ⟨w.heap.size, 1, none⟩ (.int .i64 (truthV (decide (0 < vorder x y))).n)).setCell ⟨w.heap.size, 2, none⟩ (.string (truthV (decide (0 < vorder x y))).s) = w4 at HO4 HB4 ⊢
 clear o0 o1 o2 z0 z1 z2 hlt
 obtain ⟨o0, o1, o2, z0, z1, z2, hlt⟩ := HO4.cells
 exact bodyPost_ret (v := .tuple #[valV (truthV (decide (0 < vorder x y))), errV 0]) (by simp [results, Tryz.results184, go_sem, o0, o1, o2, valV, errV]) rfl ⟨rfl, HB4.out⟩
set_option maxHeartbeats 2000000 in
set_option maxRecDepth 100000 in
theorem apply_ge (l : List Val) (x y : Val) (A : Option Addr) (c : Nat) (w : World) (hl : SeesVals w A 2 c l) (ha : l[0]? = some x) (hb : l[1]? = some y) :
  Calls Tryz.prog 184 #[.string ⟨#[62, 61]⟩, .slice A 2 c] w (ApplySays (truthV (decide (0 ≤ vorder x y))) (0) w) := by
 have hb0 : Below w.heap.size w (w.alloc (.cells #[.int .i64 0, .int .i64 0, .string ⟨#[]⟩] 23)) := (Below.refl _ _).alloc (Nat.le_refl _) _
 have ho : Own3 (w.alloc (.cells #[.int .i64 0, .int .i64 0, .string ⟨#[]⟩] 23)) w.heap.size noVal := own3_new w noVal
 obtain ⟨g, o, x', rfl, hg, hx, c0, c1, c2⟩ := (hl.keep hb0).at_ (k := 0) (by omega)
 obtain rfl : x = x' := by rw [ha] at hx; exact Option.some.inj hx
 obtain ⟨g', o', y', e, _, hy, d0, d1, d2⟩ := (hl.keep hb0).at_ (k := 1) (by omega)
 cases e
 obtain rfl : y = y' := by rw [hb] at hy; exact Option.some.inj hy
 clear hy
 have hcap := hl.2.2.1
 have hmax := hl.2.2.2.1
 unfold maxLen at hmax
 simp only [Nat.zero_mul, Nat.one_mul, Nat.add_zero] at c0 c1 c2 d0 d1 d2
 have hgw : g < w.heap.size := by
  obtain ⟨g1, o1, x1, e1, h1, _⟩ := hl.at_ (k := 0) (by omega)
  cases e1; exact h1
 have hne : g ≠ w.heap.size := Nat.ne_of_lt hgw
 have HO := Lib.hid ho
 have HB := Lib.hid hb0
 clear hx ha hb hl ho hb0
 go_enter Tryz.func184, Tryz.ntmps184
 go_wp2_with fail
 generalize w.alloc (.cells #[.int .i64 0, .int .i64 0, .string ⟨#[]⟩] 23) = w0 at HO HB c0 c1 c2 d0 d1 d2 hg ⊢
 have k0 := c0; have k1 := c1; have k2 := c2; have k3 := d0; have k4 := d1; have k5 := d2
 go_region_held3 (fun w' => w'.cell? ⟨g, o, none⟩ = some (.int .i64 x.type) ∧ w'.cell? ⟨g, o + 1, none⟩ = some (.int .i64 x.n) ∧ w'.cell? ⟨g, o + 2, none⟩ = some (.string x.s) ∧ w'.cell? ⟨g, o + 3, none⟩ = some (.int .i64 y.type) ∧ w'.cell? ⟨g, o + 3 + 1, none⟩ = some (.int .i64 y.n) ∧ w'.cell? ⟨g, o + 3 + 2, none⟩ = some (.string y.s)) (first | go_keep | exact ⟨q0, q1, q2, q3, q4, q5⟩ | exact ⟨r0, r1, r2, r3, r4, r5⟩ | exact ⟨(cell_set3 hne _ _ _ _).trans r0, (cell_set3 hne _ _ _ _).trans r1, (cell_set3 hne _ _ _ _).trans r2, (cell_set3 hne _ _ _ _).trans r3, (cell_set3 hne _ _ _ _).trans r4, (cell_set3 hne _ _ _ _).trans r5⟩)
  (first
   | (go_at_call 90; refine (vorder_any x y _).mono ?_; rintro e w3 ⟨rfl, hb3⟩; have q0 := (hb3.cell (p := ⟨g, o, none⟩) hg).trans k0; have q1 := (hb3.cell (p := ⟨g, o + 1, none⟩) hg).trans k1; have q2 := (hb3.cell (p := ⟨g, o + 2, none⟩) hg).trans k2; have q3 := (hb3.cell (p := ⟨g, o + 3, none⟩) hg).trans k3; have q4 := (hb3.cell (p := ⟨g, o + 3 + 1, none⟩) hg).trans k4; have q5 := (hb3.cell (p := ⟨g, o + 3 + 2, none⟩) hg).trans k5; have HO3 := Lib.hid (Own3.keep (show Own3 w0.drew w.heap.size noVal from HO.out) hb3); have HB3 := Lib.hid (below_step HB.out.drew hb3); have hg3 : g < w3.heap.size := Nat.lt_of_lt_of_le hg hb3.size; clear hb3)
   | (go_at_call 221; refine (compared_ge _ _).mono ?_; rintro e w' ⟨rfl, rfl⟩)
   | (go_at_call 92; refine (truth_any _ _).mono ?_; rintro e w5 ⟨rfl, hb5⟩; have r0 := (hb5.cell (p := ⟨g, o, none⟩) hg3).trans q0; have r1 := (hb5.cell (p := ⟨g, o + 1, none⟩) hg3).trans q1; have r2 := (hb5.cell (p := ⟨g, o + 2, none⟩) hg3).trans q2; have r3 := (hb5.cell (p := ⟨g, o + 3, none⟩) hg3).trans q3; have r4 := (hb5.cell (p := ⟨g, o + 3 + 1, none⟩) hg3).trans q4; have r5 := (hb5.cell (p := ⟨g, o + 3 + 2, none⟩) hg3).trans q5; have HO5 := Lib.hid (HO3.out.keep hb5); have HB5 := Lib.hid (below_step HB3.out hb5); obtain ⟨o0, o1, o2, z0, z1, z2, hlt⟩ := HO5.out.cells; clear hb5; unfold valV))
 go_wp2_with fail
 have HO4 := own3_set HO5.out (truthV (decide (0 ≤ vorder x y))).type (truthV (decide (0 ≤ vorder x y))).n (truthV (decide (0 ≤ vorder x y))).s
 have HB4 := Lib.hid (below_set3 HB5.out (Nat.le_refl _) (truthV (decide (0 ≤ vorder x y))).type (truthV (decide (0 ≤ vorder x y))).n (truthV (decide (0 ≤ vorder x y))).s)
 generalize ((w5.setCell ⟨w.heap.size, 0, none⟩ (.int .i64 (truthV (decide (0 ≤ vorder x y))).type)).setCell ⟨w.heap.size, 1, none⟩ (.int .i64 (truthV (decide (0 ≤ vorder x y))).n)).setCell ⟨w.heap.size, 2, none⟩ (.string (truthV (decide (0 ≤ vorder x y))).s) = w4 at HO4 HB4 ⊢
 clear o0 o1 o2 z0 z1 z2 hlt
 obtain ⟨o0, o1, o2, z0, z1, z2, hlt⟩ := HO4.cells
 exact bodyPost_ret (v := .tuple #[valV (truthV (decide (0 ≤ vorder x y))), errV 0]) (by simp [results, Tryz.results184, go_sem, o0, o1, o2, valV, errV]) rfl ⟨rfl, HB4.out⟩
set_option maxHeartbeats 2000000 in
set_option maxRecDepth 100000 in
theorem apply_len (l : List Val) (x : Val) (A : Option Addr) (c : Nat) (w : World) (hl : SeesVals w A 1 c l) (ha : l[0]? = some x) :
  Calls Tryz.prog 184 #[.string ⟨#[108, 101, 110]⟩, .slice A 1 c] w (ApplySays (ofV x.s.size) (0) w) := by
 have hb0 : Below w.heap.size w (w.alloc (.cells #[.int .i64 0, .int .i64 0, .string ⟨#[]⟩] 23)) := (Below.refl _ _).alloc (Nat.le_refl _) _
 have ho : Own3 (w.alloc (.cells #[.int .i64 0, .int .i64 0, .string ⟨#[]⟩] 23)) w.heap.size noVal := own3_new w noVal
 obtain ⟨g, o, x', rfl, hg, hx, c0, c1, c2⟩ := (hl.keep hb0).at_ (k := 0) (by omega)
 obtain rfl : x = x' := by rw [ha] at hx; exact Option.some.inj hx
 have hcap := hl.2.2.1
 have hmax := hl.2.2.2.1
 unfold maxLen at hmax
 simp only [Nat.zero_mul, Nat.add_zero] at c0 c1 c2
 have HO := Lib.hid ho
 have HB := Lib.hid hb0
 clear hx ha hl ho hb0
 go_enter Tryz.func184, Tryz.ntmps184
 go_wp2_with fail
 refine (of_any _ _).mono ?_
 rintro e w3 ⟨rfl, hb3⟩
 have HO3 := Lib.hid (HO.out.keep hb3)
 have HB3 := Lib.hid (below_step HB.out hb3)
 clear hb3
 obtain ⟨o0, o1, o2, z0, z1, z2, hlt⟩ := HO3.out.cells
 unfold valV
 go_wp2_with fail
 have HO4 := own3_set HO3.out (ofV x.s.size).type (ofV x.s.size).n (ofV x.s.size).s
 have HB4 := Lib.hid (below_set3 HB3.out (Nat.le_refl _) (ofV x.s.size).type (ofV x.s.size).n (ofV x.s.size).s)
 generalize ((w3.setCell ⟨w.heap.size, 0, none⟩ (.int .i64 (ofV x.s.size).type)).setCell ⟨w.heap.size, 1, none⟩ (.int .i64 (ofV x.s.size).n)).setCell ⟨w.heap.size, 2, none⟩ (.string (ofV x.s.size).s) = w4 at HO4 HB4 ⊢
 clear o0 o1 o2 z0 z1 z2 hlt
 obtain ⟨o0, o1, o2, z0, z1, z2, hlt⟩ := HO4.cells
 exact bodyPost_ret (v := .tuple #[valV (ofV x.s.size), errV 0]) (by simp [results, Tryz.results184, go_sem, o0, o1, o2, valV, errV]) rfl ⟨rfl, HB4.out⟩
set_option maxHeartbeats 2000000 in
set_option maxRecDepth 100000 in
theorem apply_if_yes (l : List Val) (x y z : Val) (A : Option Addr) (c : Nat) (w : World) (hl : SeesVals w A 3 c l) (ha : l[0]? = some x) (hb : l[1]? = some y) (hc : l[2]? = some z) (hi : x.n = 1) :
  Calls Tryz.prog 184 #[.string ⟨#[105, 102]⟩, .slice A 3 c] w (ApplySays (y) (0) w) := by
 have hb0 : Below w.heap.size w (w.alloc (.cells #[.int .i64 0, .int .i64 0, .string ⟨#[]⟩] 23)) := (Below.refl _ _).alloc (Nat.le_refl _) _
 have ho : Own3 (w.alloc (.cells #[.int .i64 0, .int .i64 0, .string ⟨#[]⟩] 23)) w.heap.size noVal := own3_new w noVal
 obtain ⟨g, o, x', rfl, hg, hx, c0, c1, c2⟩ := (hl.keep hb0).at_ (k := 0) (by omega)
 obtain rfl : x = x' := by rw [ha] at hx; exact Option.some.inj hx
 obtain ⟨g', o', y', e, _, hy, d0, d1, d2⟩ := (hl.keep hb0).at_ (k := 1) (by omega)
 cases e
 obtain rfl : y = y' := by rw [hb] at hy; exact Option.some.inj hy
 clear hy
 obtain ⟨g', o', z', e, _, hy, e0, e1, e2⟩ := (hl.keep hb0).at_ (k := 2) (by omega)
 cases e
 obtain rfl : z = z' := by rw [hc] at hy; exact Option.some.inj hy
 clear hy
 have hcap := hl.2.2.1
 have hmax := hl.2.2.2.1
 unfold maxLen at hmax
 simp only [Nat.zero_mul, Nat.one_mul, Nat.add_zero] at c0 c1 c2 d0 d1 d2 e0 e1 e2
 have t1 : (x.n == 1) = true := by simpa using hi
 clear hi
 have HO := Lib.hid ho
 have HB := Lib.hid hb0
 clear hx ha hb hc hl ho hb0
 go_enter Tryz.func184, Tryz.ntmps184
 go_wp2_with fail
 exact bodyPost_ret (v := .tuple #[valV y, errV 0]) (by simp [results, Tryz.results184, go_sem, valV, errV]) rfl ⟨rfl, (Below.refl _ _).alloc (Nat.le_refl _) _⟩
set_option maxHeartbeats 2000000 in
set_option maxRecDepth 100000 in
theorem apply_if_no (l : List Val) (x y z : Val) (A : Option Addr) (c : Nat) (w : World) (hl : SeesVals w A 3 c l) (ha : l[0]? = some x) (hb : l[1]? = some y) (hc : l[2]? = some z) (hi : x.n ≠ 1) :
  Calls Tryz.prog 184 #[.string ⟨#[105, 102]⟩, .slice A 3 c] w (ApplySays (z) (0) w) := by
 have hb0 : Below w.heap.size w (w.alloc (.cells #[.int .i64 0, .int .i64 0, .string ⟨#[]⟩] 23)) := (Below.refl _ _).alloc (Nat.le_refl _) _
 have ho : Own3 (w.alloc (.cells #[.int .i64 0, .int .i64 0, .string ⟨#[]⟩] 23)) w.heap.size noVal := own3_new w noVal
 obtain ⟨g, o, x', rfl, hg, hx, c0, c1, c2⟩ := (hl.keep hb0).at_ (k := 0) (by omega)
 obtain rfl : x = x' := by rw [ha] at hx; exact Option.some.inj hx
 obtain ⟨g', o', y', e, _, hy, d0, d1, d2⟩ := (hl.keep hb0).at_ (k := 1) (by omega)
 cases e
 obtain rfl : y = y' := by rw [hb] at hy; exact Option.some.inj hy
 clear hy
 obtain ⟨g', o', z', e, _, hy, e0, e1, e2⟩ := (hl.keep hb0).at_ (k := 2) (by omega)
 cases e
 obtain rfl : z = z' := by rw [hc] at hy; exact Option.some.inj hy
 clear hy
 have hcap := hl.2.2.1
 have hmax := hl.2.2.2.1
 unfold maxLen at hmax
 simp only [Nat.zero_mul, Nat.one_mul, Nat.add_zero] at c0 c1 c2 d0 d1 d2 e0 e1 e2
 have t1 : (x.n == 1) = false := by simpa using hi
 clear hi
 have HO := Lib.hid ho
 have HB := Lib.hid hb0
 clear hx ha hb hc hl ho hb0
 go_enter Tryz.func184, Tryz.ntmps184
 go_wp2_with fail
 exact bodyPost_ret (v := .tuple #[valV z, errV 0]) (by simp [results, Tryz.results184, go_sem, valV, errV]) rfl ⟨rfl, (Below.refl _ _).alloc (Nat.le_refl _) _⟩
set_option maxHeartbeats 2000000 in
set_option maxRecDepth 100000 in
theorem apply_neg (l : List Val) (x : Val) (A : Option Addr) (c : Nat) (w : World) (hl : SeesVals w A 1 c l) (ha : l[0]? = some x) (hfa : fits (0)) (hfb : fits (x.n)) :
  Calls Tryz.prog 184 #[.string ⟨#[110, 101, 103]⟩, .slice A 1 c] w (ApplySays (numV (reckonErr [45] (0) (x.n)) (reckonVal [45] (0) (x.n))) (reckonErr [45] (0) (x.n)) w) := by
 have hb0 : Below w.heap.size w (w.alloc (.cells #[.int .i64 0, .int .i64 0, .string ⟨#[]⟩] 23)) := (Below.refl _ _).alloc (Nat.le_refl _) _
 have ho : Own3 (w.alloc (.cells #[.int .i64 0, .int .i64 0, .string ⟨#[]⟩] 23)) w.heap.size noVal := own3_new w noVal
 obtain ⟨g, o, x', rfl, hg, hx, c0, c1, c2⟩ := (hl.keep hb0).at_ (k := 0) (by omega)
 obtain rfl : x = x' := by rw [ha] at hx; exact Option.some.inj hx
 have hcap := hl.2.2.1
 have hmax := hl.2.2.2.1
 unfold maxLen at hmax
 simp only [Nat.zero_mul, Nat.add_zero] at c0 c1 c2
 have FA := Lib.hid hfa
 have FB := Lib.hid hfb
 generalize hk : reckonErr [45] (0) (x.n) = k
 have HK := Lib.hid hk
 clear hfa hfb hk
 have hgw : g < w.heap.size := by
  obtain ⟨g1, o1, x1, e1, h1, _⟩ := hl.at_ (k := 0) (by omega)
  cases e1; exact h1
 have hne : g ≠ w.heap.size := Nat.ne_of_lt hgw
 have HO := Lib.hid ho
 have HB := Lib.hid hb0
 clear hx ha hl ho hb0
 go_enter Tryz.func184, Tryz.ntmps184
 go_wp2_with fail
 generalize w.alloc (.cells #[.int .i64 0, .int .i64 0, .string ⟨#[]⟩] 23) = w0 at HO HB c0 c1 c2 hg ⊢
 go_cut [6, 7] (fun s6 s7 wx => ∃ p q : Nat, s6 = .pointer (some ⟨p, 0, none⟩) ∧ s7 = .pointer (some ⟨q, 0, none⟩) ∧ p ≠ q ∧ w.heap.size < p ∧ w.heap.size < q ∧ Own3 wx p noVal ∧ Own3 wx q x ∧ Own3 wx w.heap.size noVal ∧ Below w0.heap.size w0 wx ∧ Below w.heap.size w wx)
 case first =>
  have hwl : w.heap.size < w0.heap.size := HO.out.cells.2.2.2.2.2.2
  go_region
  all_goals
   go_wp2_with fail
   go_meet
   first
    | (obtain ⟨t1, t2, t3, t4, t5⟩ := two_new noVal x HO.out HB.out; exact ⟨_, _, rfl, rfl, by omega, by omega, by omega, t1, t2, t3, t4, t5⟩)
    | (obtain ⟨t1, t2, t3, t4, t5⟩ := two_new x noVal HO.out HB.out; exact ⟨_, _, rfl, rfl, by omega, by omega, by omega, t2, t1, t3, t4, t5⟩)
 case rest =>
  obtain ⟨p, q, rfl, rfl, -, -, -, op, oq, oo, -, hbc⟩ := hcut
  obtain ⟨p0, p1, p2, -, -, -, -⟩ := op.cells
  obtain ⟨q0, q1, q2, -, -, -, -⟩ := oq.cells
  have Oo := Lib.hid oo
  have HBc := Lib.hid hbc
  clear op oq oo hbc
  go_wp2_with fail
  refine (reckon_at _ [45] rfl _ _ _ FA.out FB.out).mono ?_
  rintro e w' ⟨rfl, rfl⟩
  rw [HK.out]
  by_cases hk0 : k = 0
  ·subst hk0
   rw [errV_zero]
   go_wp2_with fail
   refine (of_any _ _).mono ?_
   rintro e w3 ⟨rfl, hb3⟩
   have HO3 := Lib.hid (Oo.out.keep hb3)
   have HB3 := Lib.hid (below_step HBc.out hb3)
   clear hb3
   obtain ⟨o0, o1, o2, z0, z1, z2, hlt⟩ := HO3.out.cells
   unfold valV
   go_wp2_with fail
   have HO4 := own3_set HO3.out (ofV (reckonVal [45] (0) (x.n))).type (ofV (reckonVal [45] (0) (x.n))).n (ofV (reckonVal [45] (0) (x.n))).s
   have HB4 := Lib.hid (below_set3 HB3.out (Nat.le_refl _) (ofV (reckonVal [45] (0) (x.n))).type (ofV (reckonVal [45] (0) (x.n))).n (ofV (reckonVal [45] (0) (x.n))).s)
   generalize ((w3.setCell ⟨w.heap.size, 0, none⟩ (.int .i64 (ofV (reckonVal [45] (0) (x.n))).type)).setCell ⟨w.heap.size, 1, none⟩ (.int .i64 (ofV (reckonVal [45] (0) (x.n))).n)).setCell ⟨w.heap.size, 2, none⟩ (.string (ofV (reckonVal [45] (0) (x.n))).s) = w4 at HO4 HB4 ⊢
   clear o0 o1 o2 z0 z1 z2 hlt
   obtain ⟨o0, o1, o2, z0, z1, z2, hlt⟩ := HO4.cells
   exact bodyPost_ret (v := .tuple #[valV (ofV (reckonVal [45] (0) (x.n))), errV 0]) (by simp [results, Tryz.results184, go_sem, o0, o1, o2, valV, errV]) rfl ⟨rfl, HB4.out⟩
  ·rw [errV_ne hk0]
   have E := Lib.hid (errV_ne hk0)
   have E2 := Lib.hid (show ∀ n, numV k n = noVal from fun n => if_neg hk0)
   obtain ⟨o0, o1, o2, z0, z1, z2, hlt⟩ := Oo.out.cells
   clear hk0
   go_wp2_with fail
   have HO4 := own3_set Oo.out 0 0 ⟨#[]⟩
   have HB4 := Lib.hid (below_set3 HBc.out (Nat.le_refl _) 0 0 ⟨#[]⟩)
   generalize ((wc.setCell ⟨w.heap.size, 0, none⟩ (.int .i64 0)).setCell ⟨w.heap.size, 1, none⟩ (.int .i64 0)).setCell ⟨w.heap.size, 2, none⟩ (.string ⟨#[]⟩) = w4 at HO4 HB4 ⊢
   clear o0 o1 o2 z0 z1 z2 hlt
   obtain ⟨o0, o1, o2, z0, z1, z2, hlt⟩ := HO4.cells
   refine bodyPost_ret (v := .tuple #[valV noVal, .iface 32 (.int .i64 k)]) (by simp [results, Tryz.results184, go_sem, o0, o1, o2, valV, noVal]) rfl ⟨?_, HB4.out⟩
   rw [E.out, E2.out]
set_option maxHeartbeats 2000000 in
set_option maxRecDepth 100000 in
theorem apply_add (l : List Val) (x y : Val) (A : Option Addr) (c : Nat) (w : World) (hl : SeesVals w A 2 c l) (ha : l[0]? = some x) (hb : l[1]? = some y) (hfa : fits (x.n)) (hfb : fits (y.n)) :
  Calls Tryz.prog 184 #[.string ⟨#[43]⟩, .slice A 2 c] w (ApplySays (numV (reckonErr [43] (x.n) (y.n)) (reckonVal [43] (x.n) (y.n))) (reckonErr [43] (x.n) (y.n)) w) := by
 have hb0 : Below w.heap.size w (w.alloc (.cells #[.int .i64 0, .int .i64 0, .string ⟨#[]⟩] 23)) := (Below.refl _ _).alloc (Nat.le_refl _) _
 have ho : Own3 (w.alloc (.cells #[.int .i64 0, .int .i64 0, .string ⟨#[]⟩] 23)) w.heap.size noVal := own3_new w noVal
 obtain ⟨g, o, x', rfl, hg, hx, c0, c1, c2⟩ := (hl.keep hb0).at_ (k := 0) (by omega)
 obtain rfl : x = x' := by rw [ha] at hx; exact Option.some.inj hx
 obtain ⟨g', o', y', e, _, hy, d0, d1, d2⟩ := (hl.keep hb0).at_ (k := 1) (by omega)
 cases e
 obtain rfl : y = y' := by rw [hb] at hy; exact Option.some.inj hy
 clear hy
 have hcap := hl.2.2.1
 have hmax := hl.2.2.2.1
 unfold maxLen at hmax
 simp only [Nat.zero_mul, Nat.one_mul, Nat.add_zero] at c0 c1 c2 d0 d1 d2
 have FA := Lib.hid hfa
 have FB := Lib.hid hfb
 generalize hk : reckonErr [43] (x.n) (y.n) = k
 have HK := Lib.hid hk
 clear hfa hfb hk
 have hgw : g < w.heap.size := by
  obtain ⟨g1, o1, x1, e1, h1, _⟩ := hl.at_ (k := 0) (by omega)
  cases e1; exact h1
 have hne : g ≠ w.heap.size := Nat.ne_of_lt hgw
 have HO := Lib.hid ho
 have HB := Lib.hid hb0
 clear hx ha hb hl ho hb0
 go_enter Tryz.func184, Tryz.ntmps184
 go_wp2_with fail
 generalize w.alloc (.cells #[.int .i64 0, .int .i64 0, .string ⟨#[]⟩] 23) = w0 at HO HB c0 c1 c2 d0 d1 d2 hg ⊢
 go_cut [6, 7] (fun s6 s7 wx => ∃ p q : Nat, s6 = .pointer (some ⟨p, 0, none⟩) ∧ s7 = .pointer (some ⟨q, 0, none⟩) ∧ p ≠ q ∧ w.heap.size < p ∧ w.heap.size < q ∧ Own3 wx p noVal ∧ Own3 wx q x ∧ Own3 wx w.heap.size noVal ∧ Below w0.heap.size w0 wx ∧ Below w.heap.size w wx)
 case first =>
  have hwl : w.heap.size < w0.heap.size := HO.out.cells.2.2.2.2.2.2
  go_region
  all_goals
   go_wp2_with fail
   go_meet
   first
    | (obtain ⟨t1, t2, t3, t4, t5⟩ := two_new noVal x HO.out HB.out; exact ⟨_, _, rfl, rfl, by omega, by omega, by omega, t1, t2, t3, t4, t5⟩)
    | (obtain ⟨t1, t2, t3, t4, t5⟩ := two_new x noVal HO.out HB.out; exact ⟨_, _, rfl, rfl, by omega, by omega, by omega, t2, t1, t3, t4, t5⟩)
 case rest =>
  obtain ⟨p, q, rfl, rfl, hpq, hp, hq, op, oq, oo, hb0, hbc⟩ := hcut
  have k0 := (hb0.cell (p := ⟨g, o, none⟩) hg).trans c0
  have k1 := (hb0.cell (p := ⟨g, o + 1, none⟩) hg).trans c1
  have k2 := (hb0.cell (p := ⟨g, o + 2, none⟩) hg).trans c2
  have k3 := (hb0.cell (p := ⟨g, o + 3, none⟩) hg).trans d0
  have k4 := (hb0.cell (p := ⟨g, o + 3 + 1, none⟩) hg).trans d1
  have k5 := (hb0.cell (p := ⟨g, o + 3 + 2, none⟩) hg).trans d2
  have hgc : g < wc.heap.size := Nat.lt_of_lt_of_le hg hb0.size
  have hgp : g ≠ p := by omega
  have hgq : g ≠ q := by omega
  clear c0 c1 c2 d0 d1 d2 hb0 HO HB
  obtain ⟨p0, p1, p2, f0, f1, f2, hpl⟩ := op.cells
  obtain ⟨q0, q1, q2, g0, g1, g2, hql⟩ := oq.cells
  have OP := Lib.hid op
  have OQ := Lib.hid oq
  have OO := Lib.hid oo
  have HBc0 := Lib.hid hbc
  clear op oq oo hbc
  go_wp2_with fail
  have t0 : (((wc.setCell ⟨p, 0, none⟩ (.int .i64 x.type)).setCell ⟨p, 1, none⟩ (.int .i64 x.n)).setCell ⟨p, 2, none⟩ (.string x.s)).drew.cell? ⟨g, o, none⟩ = some (.int .i64 x.type) := by rw [cell_drew, cell_set3 hgp]; exact k0
  have s0 : ((((((wc.setCell ⟨p, 0, none⟩ (.int .i64 x.type)).setCell ⟨p, 1, none⟩ (.int .i64 x.n)).setCell ⟨p, 2, none⟩ (.string x.s)).setCell ⟨q, 0, none⟩ (.int .i64 y.type)).setCell ⟨q, 1, none⟩ (.int .i64 y.n)).setCell ⟨q, 2, none⟩ (.string y.s)).drew.cell? ⟨g, o, none⟩ = some (.int .i64 x.type) := by rw [cell_drew, cell_set3 hgq, cell_set3 hgp]; exact k0
  have t1 : (((wc.setCell ⟨p, 0, none⟩ (.int .i64 x.type)).setCell ⟨p, 1, none⟩ (.int .i64 x.n)).setCell ⟨p, 2, none⟩ (.string x.s)).drew.cell? ⟨g, o + 1, none⟩ = some (.int .i64 x.n) := by rw [cell_drew, cell_set3 hgp]; exact k1
  have s1 : ((((((wc.setCell ⟨p, 0, none⟩ (.int .i64 x.type)).setCell ⟨p, 1, none⟩ (.int .i64 x.n)).setCell ⟨p, 2, none⟩ (.string x.s)).setCell ⟨q, 0, none⟩ (.int .i64 y.type)).setCell ⟨q, 1, none⟩ (.int .i64 y.n)).setCell ⟨q, 2, none⟩ (.string y.s)).drew.cell? ⟨g, o + 1, none⟩ = some (.int .i64 x.n) := by rw [cell_drew, cell_set3 hgq, cell_set3 hgp]; exact k1
  have t2 : (((wc.setCell ⟨p, 0, none⟩ (.int .i64 x.type)).setCell ⟨p, 1, none⟩ (.int .i64 x.n)).setCell ⟨p, 2, none⟩ (.string x.s)).drew.cell? ⟨g, o + 2, none⟩ = some (.string x.s) := by rw [cell_drew, cell_set3 hgp]; exact k2
  have s2 : ((((((wc.setCell ⟨p, 0, none⟩ (.int .i64 x.type)).setCell ⟨p, 1, none⟩ (.int .i64 x.n)).setCell ⟨p, 2, none⟩ (.string x.s)).setCell ⟨q, 0, none⟩ (.int .i64 y.type)).setCell ⟨q, 1, none⟩ (.int .i64 y.n)).setCell ⟨q, 2, none⟩ (.string y.s)).drew.cell? ⟨g, o + 2, none⟩ = some (.string x.s) := by rw [cell_drew, cell_set3 hgq, cell_set3 hgp]; exact k2
  have t3 : (((wc.setCell ⟨p, 0, none⟩ (.int .i64 x.type)).setCell ⟨p, 1, none⟩ (.int .i64 x.n)).setCell ⟨p, 2, none⟩ (.string x.s)).drew.cell? ⟨g, o + 3, none⟩ = some (.int .i64 y.type) := by rw [cell_drew, cell_set3 hgp]; exact k3
  have s3 : ((((((wc.setCell ⟨p, 0, none⟩ (.int .i64 x.type)).setCell ⟨p, 1, none⟩ (.int .i64 x.n)).setCell ⟨p, 2, none⟩ (.string x.s)).setCell ⟨q, 0, none⟩ (.int .i64 y.type)).setCell ⟨q, 1, none⟩ (.int .i64 y.n)).setCell ⟨q, 2, none⟩ (.string y.s)).drew.cell? ⟨g, o + 3, none⟩ = some (.int .i64 y.type) := by rw [cell_drew, cell_set3 hgq, cell_set3 hgp]; exact k3
  have t4 : (((wc.setCell ⟨p, 0, none⟩ (.int .i64 x.type)).setCell ⟨p, 1, none⟩ (.int .i64 x.n)).setCell ⟨p, 2, none⟩ (.string x.s)).drew.cell? ⟨g, o + 3 + 1, none⟩ = some (.int .i64 y.n) := by rw [cell_drew, cell_set3 hgp]; exact k4
  have s4 : ((((((wc.setCell ⟨p, 0, none⟩ (.int .i64 x.type)).setCell ⟨p, 1, none⟩ (.int .i64 x.n)).setCell ⟨p, 2, none⟩ (.string x.s)).setCell ⟨q, 0, none⟩ (.int .i64 y.type)).setCell ⟨q, 1, none⟩ (.int .i64 y.n)).setCell ⟨q, 2, none⟩ (.string y.s)).drew.cell? ⟨g, o + 3 + 1, none⟩ = some (.int .i64 y.n) := by rw [cell_drew, cell_set3 hgq, cell_set3 hgp]; exact k4
  have t5 : (((wc.setCell ⟨p, 0, none⟩ (.int .i64 x.type)).setCell ⟨p, 1, none⟩ (.int .i64 x.n)).setCell ⟨p, 2, none⟩ (.string x.s)).drew.cell? ⟨g, o + 3 + 2, none⟩ = some (.string y.s) := by rw [cell_drew, cell_set3 hgp]; exact k5
  have s5 : ((((((wc.setCell ⟨p, 0, none⟩ (.int .i64 x.type)).setCell ⟨p, 1, none⟩ (.int .i64 x.n)).setCell ⟨p, 2, none⟩ (.string x.s)).setCell ⟨q, 0, none⟩ (.int .i64 y.type)).setCell ⟨q, 1, none⟩ (.int .i64 y.n)).setCell ⟨q, 2, none⟩ (.string y.s)).drew.cell? ⟨g, o + 3 + 2, none⟩ = some (.string y.s) := by rw [cell_drew, cell_set3 hgq, cell_set3 hgp]; exact k5
  go_region_held3 (fun w' => w'.cell? ⟨g, o, none⟩ = some (.int .i64 x.type) ∧ w'.cell? ⟨g, o + 1, none⟩ = some (.int .i64 x.n) ∧ w'.cell? ⟨g, o + 2, none⟩ = some (.string x.s) ∧ w'.cell? ⟨g, o + 3, none⟩ = some (.int .i64 y.type) ∧ w'.cell? ⟨g, o + 3 + 1, none⟩ = some (.int .i64 y.n) ∧ w'.cell? ⟨g, o + 3 + 2, none⟩ = some (.string y.s)) (first | go_keep | exact ⟨t0, t1, t2, t3, t4, t5⟩ | exact ⟨s0, s1, s2, s3, s4, s5⟩) (fail)
  have Op := Lib.hid (show Own3 ((((((wc.setCell ⟨p, 0, none⟩ (.int .i64 x.type)).setCell ⟨p, 1, none⟩ (.int .i64 x.n)).setCell ⟨p, 2, none⟩ (.string x.s)).setCell ⟨q, 0, none⟩ (.int .i64 y.type)).setCell ⟨q, 1, none⟩ (.int .i64 y.n)).setCell ⟨q, 2, none⟩ (.string y.s)).drew p x from (own3_other (own3_set OP.out x.type x.n x.s) hpq _ _ _).drew)
  have Oq := Lib.hid (show Own3 ((((((wc.setCell ⟨p, 0, none⟩ (.int .i64 x.type)).setCell ⟨p, 1, none⟩ (.int .i64 x.n)).setCell ⟨p, 2, none⟩ (.string x.s)).setCell ⟨q, 0, none⟩ (.int .i64 y.type)).setCell ⟨q, 1, none⟩ (.int .i64 y.n)).setCell ⟨q, 2, none⟩ (.string y.s)).drew q y from (own3_set (own3_other OQ.out (Ne.symm hpq) (.int .i64 x.type) (.int .i64 x.n) (.string x.s)) y.type y.n y.s).drew)
  have Oo := Lib.hid (show Own3 ((((((wc.setCell ⟨p, 0, none⟩ (.int .i64 x.type)).setCell ⟨p, 1, none⟩ (.int .i64 x.n)).setCell ⟨p, 2, none⟩ (.string x.s)).setCell ⟨q, 0, none⟩ (.int .i64 y.type)).setCell ⟨q, 1, none⟩ (.int .i64 y.n)).setCell ⟨q, 2, none⟩ (.string y.s)).drew w.heap.size noVal from (own3_other (own3_other OO.out (Nat.ne_of_lt hp) _ _ _) (Nat.ne_of_lt hq) _ _ _).drew)
  have HBc := Lib.hid (show Below w.heap.size w ((((((wc.setCell ⟨p, 0, none⟩ (.int .i64 x.type)).setCell ⟨p, 1, none⟩ (.int .i64 x.n)).setCell ⟨p, 2, none⟩ (.string x.s)).setCell ⟨q, 0, none⟩ (.int .i64 y.type)).setCell ⟨q, 1, none⟩ (.int .i64 y.n)).setCell ⟨q, 2, none⟩ (.string y.s)).drew from (below_set3 (below_set3 HBc0.out (Nat.le_of_lt hp) x.type x.n x.s) (Nat.le_of_lt hq) y.type y.n y.s).drew)
  clear OP OQ OO HBc0 t0 t1 t2 t3 t4 t5 s0 s1 s2 s3 s4 s5 p0 p1 p2 f0 f1 f2 hpl q0 q1 q2 g0 g1 g2 hql k0 k1 k2 k3 k4 k5 hgc
  try rename_i hHeld; clear hHeld
  generalize ((((((wc.setCell ⟨p, 0, none⟩ (.int .i64 x.type)).setCell ⟨p, 1, none⟩ (.int .i64 x.n)).setCell ⟨p, 2, none⟩ (.string x.s)).setCell ⟨q, 0, none⟩ (.int .i64 y.type)).setCell ⟨q, 1, none⟩ (.int .i64 y.n)).setCell ⟨q, 2, none⟩ (.string y.s)).drew = w2 at Op Oq Oo HBc ⊢
  obtain ⟨p0, p1, p2, -, -, -, -⟩ := Op.out.cells
  obtain ⟨q0, q1, q2, -, -, -, -⟩ := Oq.out.cells
  go_wp2_with fail
  refine (reckon_at _ [43] rfl _ _ _ FA.out FB.out).mono ?_
  rintro e w' ⟨rfl, rfl⟩
  rw [HK.out]
  by_cases hk0 : k = 0
  ·subst hk0
   rw [errV_zero]
   go_wp2_with fail
   refine (of_any _ _).mono ?_
   rintro e w3 ⟨rfl, hb3⟩
   have HO3 := Lib.hid (Oo.out.keep hb3)
   have HB3 := Lib.hid (below_step HBc.out hb3)
   clear hb3
   obtain ⟨o0, o1, o2, z0, z1, z2, hlt⟩ := HO3.out.cells
   unfold valV
   go_wp2_with fail
   have HO4 := own3_set HO3.out (ofV (reckonVal [43] (x.n) (y.n))).type (ofV (reckonVal [43] (x.n) (y.n))).n (ofV (reckonVal [43] (x.n) (y.n))).s
   have HB4 := Lib.hid (below_set3 HB3.out (Nat.le_refl _) (ofV (reckonVal [43] (x.n) (y.n))).type (ofV (reckonVal [43] (x.n) (y.n))).n (ofV (reckonVal [43] (x.n) (y.n))).s)
   generalize ((w3.setCell ⟨w.heap.size, 0, none⟩ (.int .i64 (ofV (reckonVal [43] (x.n) (y.n))).type)).setCell ⟨w.heap.size, 1, none⟩ (.int .i64 (ofV (reckonVal [43] (x.n) (y.n))).n)).setCell ⟨w.heap.size, 2, none⟩ (.string (ofV (reckonVal [43] (x.n) (y.n))).s) = w4 at HO4 HB4 ⊢
   clear o0 o1 o2 z0 z1 z2 hlt
   obtain ⟨o0, o1, o2, z0, z1, z2, hlt⟩ := HO4.cells
   exact bodyPost_ret (v := .tuple #[valV (ofV (reckonVal [43] (x.n) (y.n))), errV 0]) (by simp [results, Tryz.results184, go_sem, o0, o1, o2, valV, errV]) rfl ⟨rfl, HB4.out⟩
  ·rw [errV_ne hk0]
   have E := Lib.hid (errV_ne hk0)
   have E2 := Lib.hid (show ∀ n, numV k n = noVal from fun n => if_neg hk0)
   obtain ⟨o0, o1, o2, z0, z1, z2, hlt⟩ := Oo.out.cells
   clear hk0
   go_wp2_with fail
   have HO4 := own3_set Oo.out 0 0 ⟨#[]⟩
   have HB4 := Lib.hid (below_set3 HBc.out (Nat.le_refl _) 0 0 ⟨#[]⟩)
   generalize ((w2.setCell ⟨w.heap.size, 0, none⟩ (.int .i64 0)).setCell ⟨w.heap.size, 1, none⟩ (.int .i64 0)).setCell ⟨w.heap.size, 2, none⟩ (.string ⟨#[]⟩) = w4 at HO4 HB4 ⊢
   clear o0 o1 o2 z0 z1 z2 hlt
   obtain ⟨o0, o1, o2, z0, z1, z2, hlt⟩ := HO4.cells
   refine bodyPost_ret (v := .tuple #[valV noVal, .iface 32 (.int .i64 k)]) (by simp [results, Tryz.results184, go_sem, o0, o1, o2, valV, noVal]) rfl ⟨?_, HB4.out⟩
   rw [E.out, E2.out]
set_option maxHeartbeats 2000000 in
set_option maxRecDepth 100000 in
theorem apply_sub (l : List Val) (x y : Val) (A : Option Addr) (c : Nat) (w : World) (hl : SeesVals w A 2 c l) (ha : l[0]? = some x) (hb : l[1]? = some y) (hfa : fits (x.n)) (hfb : fits (y.n)) :
  Calls Tryz.prog 184 #[.string ⟨#[45]⟩, .slice A 2 c] w (ApplySays (numV (reckonErr [45] (x.n) (y.n)) (reckonVal [45] (x.n) (y.n))) (reckonErr [45] (x.n) (y.n)) w) := by
 have hb0 : Below w.heap.size w (w.alloc (.cells #[.int .i64 0, .int .i64 0, .string ⟨#[]⟩] 23)) := (Below.refl _ _).alloc (Nat.le_refl _) _
 have ho : Own3 (w.alloc (.cells #[.int .i64 0, .int .i64 0, .string ⟨#[]⟩] 23)) w.heap.size noVal := own3_new w noVal
 obtain ⟨g, o, x', rfl, hg, hx, c0, c1, c2⟩ := (hl.keep hb0).at_ (k := 0) (by omega)
 obtain rfl : x = x' := by rw [ha] at hx; exact Option.some.inj hx
 obtain ⟨g', o', y', e, _, hy, d0, d1, d2⟩ := (hl.keep hb0).at_ (k := 1) (by omega)
 cases e
 obtain rfl : y = y' := by rw [hb] at hy; exact Option.some.inj hy
 clear hy
 have hcap := hl.2.2.1
 have hmax := hl.2.2.2.1
 unfold maxLen at hmax
 simp only [Nat.zero_mul, Nat.one_mul, Nat.add_zero] at c0 c1 c2 d0 d1 d2
 have FA := Lib.hid hfa
 have FB := Lib.hid hfb
 generalize hk : reckonErr [45] (x.n) (y.n) = k
 have HK := Lib.hid hk
 clear hfa hfb hk
 have hgw : g < w.heap.size := by
  obtain ⟨g1, o1, x1, e1, h1, _⟩ := hl.at_ (k := 0) (by omega)
  cases e1; exact h1
 have hne : g ≠ w.heap.size := Nat.ne_of_lt hgw
 have HO := Lib.hid ho
 have HB := Lib.hid hb0
 clear hx ha hb hl ho hb0
 go_enter Tryz.func184, Tryz.ntmps184
 go_wp2_with fail
 generalize w.alloc (.cells #[.int .i64 0, .int .i64 0, .string ⟨#[]⟩] 23) = w0 at HO HB c0 c1 c2 d0 d1 d2 hg ⊢
 go_cut [6, 7] (fun s6 s7 wx => ∃ p q : Nat, s6 = .pointer (some ⟨p, 0, none⟩) ∧ s7 = .pointer (some ⟨q, 0, none⟩) ∧ p ≠ q ∧ w.heap.size < p ∧ w.heap.size < q ∧ Own3 wx p noVal ∧ Own3 wx q x ∧ Own3 wx w.heap.size noVal ∧ Below w0.heap.size w0 wx ∧ Below w.heap.size w wx)
 case first =>
  have hwl : w.heap.size < w0.heap.size := HO.out.cells.2.2.2.2.2.2
  go_region
  all_goals
   go_wp2_with fail
   go_meet
   first
    | (obtain ⟨t1, t2, t3, t4, t5⟩ := two_new noVal x HO.out HB.out; exact ⟨_, _, rfl, rfl, by omega, by omega, by omega, t1, t2, t3, t4, t5⟩)
    | (obtain ⟨t1, t2, t3, t4, t5⟩ := two_new x noVal HO.out HB.out; exact ⟨_, _, rfl, rfl, by omega, by omega, by omega, t2, t1, t3, t4, t5⟩)
 case rest =>
  obtain ⟨p, q, rfl, rfl, hpq, hp, hq, op, oq, oo, hb0, hbc⟩ := hcut
  have k0 := (hb0.cell (p := ⟨g, o, none⟩) hg).trans c0
  have k1 := (hb0.cell (p := ⟨g, o + 1, none⟩) hg).trans c1
  have k2 := (hb0.cell (p := ⟨g, o + 2, none⟩) hg).trans c2
  have k3 := (hb0.cell (p := ⟨g, o + 3, none⟩) hg).trans d0
  have k4 := (hb0.cell (p := ⟨g, o + 3 + 1, none⟩) hg).trans d1
  have k5 := (hb0.cell (p := ⟨g, o + 3 + 2, none⟩) hg).trans d2
  have hgc : g < wc.heap.size := Nat.lt_of_lt_of_le hg hb0.size
  have hgp : g ≠ p := by omega
  have hgq : g ≠ q := by omega
  clear c0 c1 c2 d0 d1 d2 hb0 HO HB
  obtain ⟨p0, p1, p2, f0, f1, f2, hpl⟩ := op.cells
  obtain ⟨q0, q1, q2, g0, g1, g2, hql⟩ := oq.cells
  have OP := Lib.hid op
  have OQ := Lib.hid oq
  have OO := Lib.hid oo
  have HBc0 := Lib.hid hbc
  clear op oq oo hbc
  go_wp2_with fail
  have t0 : (((wc.setCell ⟨p, 0, none⟩ (.int .i64 x.type)).setCell ⟨p, 1, none⟩ (.int .i64 x.n)).setCell ⟨p, 2, none⟩ (.string x.s)).drew.cell? ⟨g, o, none⟩ = some (.int .i64 x.type) := by rw [cell_drew, cell_set3 hgp]; exact k0
  have s0 : ((((((wc.setCell ⟨p, 0, none⟩ (.int .i64 x.type)).setCell ⟨p, 1, none⟩ (.int .i64 x.n)).setCell ⟨p, 2, none⟩ (.string x.s)).setCell ⟨q, 0, none⟩ (.int .i64 y.type)).setCell ⟨q, 1, none⟩ (.int .i64 y.n)).setCell ⟨q, 2, none⟩ (.string y.s)).drew.cell? ⟨g, o, none⟩ = some (.int .i64 x.type) := by rw [cell_drew, cell_set3 hgq, cell_set3 hgp]; exact k0
  have t1 : (((wc.setCell ⟨p, 0, none⟩ (.int .i64 x.type)).setCell ⟨p, 1, none⟩ (.int .i64 x.n)).setCell ⟨p, 2, none⟩ (.string x.s)).drew.cell? ⟨g, o + 1, none⟩ = some (.int .i64 x.n) := by rw [cell_drew, cell_set3 hgp]; exact k1
  have s1 : ((((((wc.setCell ⟨p, 0, none⟩ (.int .i64 x.type)).setCell ⟨p, 1, none⟩ (.int .i64 x.n)).setCell ⟨p, 2, none⟩ (.string x.s)).setCell ⟨q, 0, none⟩ (.int .i64 y.type)).setCell ⟨q, 1, none⟩ (.int .i64 y.n)).setCell ⟨q, 2, none⟩ (.string y.s)).drew.cell? ⟨g, o + 1, none⟩ = some (.int .i64 x.n) := by rw [cell_drew, cell_set3 hgq, cell_set3 hgp]; exact k1
  have t2 : (((wc.setCell ⟨p, 0, none⟩ (.int .i64 x.type)).setCell ⟨p, 1, none⟩ (.int .i64 x.n)).setCell ⟨p, 2, none⟩ (.string x.s)).drew.cell? ⟨g, o + 2, none⟩ = some (.string x.s) := by rw [cell_drew, cell_set3 hgp]; exact k2
  have s2 : ((((((wc.setCell ⟨p, 0, none⟩ (.int .i64 x.type)).setCell ⟨p, 1, none⟩ (.int .i64 x.n)).setCell ⟨p, 2, none⟩ (.string x.s)).setCell ⟨q, 0, none⟩ (.int .i64 y.type)).setCell ⟨q, 1, none⟩ (.int .i64 y.n)).setCell ⟨q, 2, none⟩ (.string y.s)).drew.cell? ⟨g, o + 2, none⟩ = some (.string x.s) := by rw [cell_drew, cell_set3 hgq, cell_set3 hgp]; exact k2
  have t3 : (((wc.setCell ⟨p, 0, none⟩ (.int .i64 x.type)).setCell ⟨p, 1, none⟩ (.int .i64 x.n)).setCell ⟨p, 2, none⟩ (.string x.s)).drew.cell? ⟨g, o + 3, none⟩ = some (.int .i64 y.type) := by rw [cell_drew, cell_set3 hgp]; exact k3
  have s3 : ((((((wc.setCell ⟨p, 0, none⟩ (.int .i64 x.type)).setCell ⟨p, 1, none⟩ (.int .i64 x.n)).setCell ⟨p, 2, none⟩ (.string x.s)).setCell ⟨q, 0, none⟩ (.int .i64 y.type)).setCell ⟨q, 1, none⟩ (.int .i64 y.n)).setCell ⟨q, 2, none⟩ (.string y.s)).drew.cell? ⟨g, o + 3, none⟩ = some (.int .i64 y.type) := by rw [cell_drew, cell_set3 hgq, cell_set3 hgp]; exact k3
  have t4 : (((wc.setCell ⟨p, 0, none⟩ (.int .i64 x.type)).setCell ⟨p, 1, none⟩ (.int .i64 x.n)).setCell ⟨p, 2, none⟩ (.string x.s)).drew.cell? ⟨g, o + 3 + 1, none⟩ = some (.int .i64 y.n) := by rw [cell_drew, cell_set3 hgp]; exact k4
  have s4 : ((((((wc.setCell ⟨p, 0, none⟩ (.int .i64 x.type)).setCell ⟨p, 1, none⟩ (.int .i64 x.n)).setCell ⟨p, 2, none⟩ (.string x.s)).setCell ⟨q, 0, none⟩ (.int .i64 y.type)).setCell ⟨q, 1, none⟩ (.int .i64 y.n)).setCell ⟨q, 2, none⟩ (.string y.s)).drew.cell? ⟨g, o + 3 + 1, none⟩ = some (.int .i64 y.n) := by rw [cell_drew, cell_set3 hgq, cell_set3 hgp]; exact k4
  have t5 : (((wc.setCell ⟨p, 0, none⟩ (.int .i64 x.type)).setCell ⟨p, 1, none⟩ (.int .i64 x.n)).setCell ⟨p, 2, none⟩ (.string x.s)).drew.cell? ⟨g, o + 3 + 2, none⟩ = some (.string y.s) := by rw [cell_drew, cell_set3 hgp]; exact k5
  have s5 : ((((((wc.setCell ⟨p, 0, none⟩ (.int .i64 x.type)).setCell ⟨p, 1, none⟩ (.int .i64 x.n)).setCell ⟨p, 2, none⟩ (.string x.s)).setCell ⟨q, 0, none⟩ (.int .i64 y.type)).setCell ⟨q, 1, none⟩ (.int .i64 y.n)).setCell ⟨q, 2, none⟩ (.string y.s)).drew.cell? ⟨g, o + 3 + 2, none⟩ = some (.string y.s) := by rw [cell_drew, cell_set3 hgq, cell_set3 hgp]; exact k5
  go_region_held3 (fun w' => w'.cell? ⟨g, o, none⟩ = some (.int .i64 x.type) ∧ w'.cell? ⟨g, o + 1, none⟩ = some (.int .i64 x.n) ∧ w'.cell? ⟨g, o + 2, none⟩ = some (.string x.s) ∧ w'.cell? ⟨g, o + 3, none⟩ = some (.int .i64 y.type) ∧ w'.cell? ⟨g, o + 3 + 1, none⟩ = some (.int .i64 y.n) ∧ w'.cell? ⟨g, o + 3 + 2, none⟩ = some (.string y.s)) (first | go_keep | exact ⟨t0, t1, t2, t3, t4, t5⟩ | exact ⟨s0, s1, s2, s3, s4, s5⟩) (fail)
  have Op := Lib.hid (show Own3 ((((((wc.setCell ⟨p, 0, none⟩ (.int .i64 x.type)).setCell ⟨p, 1, none⟩ (.int .i64 x.n)).setCell ⟨p, 2, none⟩ (.string x.s)).setCell ⟨q, 0, none⟩ (.int .i64 y.type)).setCell ⟨q, 1, none⟩ (.int .i64 y.n)).setCell ⟨q, 2, none⟩ (.string y.s)).drew p x from (own3_other (own3_set OP.out x.type x.n x.s) hpq _ _ _).drew)
  have Oq := Lib.hid (show Own3 ((((((wc.setCell ⟨p, 0, none⟩ (.int .i64 x.type)).setCell ⟨p, 1, none⟩ (.int .i64 x.n)).setCell ⟨p, 2, none⟩ (.string x.s)).setCell ⟨q, 0, none⟩ (.int .i64 y.type)).setCell ⟨q, 1, none⟩ (.int .i64 y.n)).setCell ⟨q, 2, none⟩ (.string y.s)).drew q y from (own3_set (own3_other OQ.out (Ne.symm hpq) (.int .i64 x.type) (.int .i64 x.n) (.string x.s)) y.type y.n y.s).drew)
  have Oo := Lib.hid (show Own3 ((((((wc.setCell ⟨p, 0, none⟩ (.int .i64 x.type)).setCell ⟨p, 1, none⟩ (.int .i64 x.n)).setCell ⟨p, 2, none⟩ (.string x.s)).setCell ⟨q, 0, none⟩ (.int .i64 y.type)).setCell ⟨q, 1, none⟩ (.int .i64 y.n)).setCell ⟨q, 2, none⟩ (.string y.s)).drew w.heap.size noVal from (own3_other (own3_other OO.out (Nat.ne_of_lt hp) _ _ _) (Nat.ne_of_lt hq) _ _ _).drew)
  have HBc := Lib.hid (show Below w.heap.size w ((((((wc.setCell ⟨p, 0, none⟩ (.int .i64 x.type)).setCell ⟨p, 1, none⟩ (.int .i64 x.n)).setCell ⟨p, 2, none⟩ (.string x.s)).setCell ⟨q, 0, none⟩ (.int .i64 y.type)).setCell ⟨q, 1, none⟩ (.int .i64 y.n)).setCell ⟨q, 2, none⟩ (.string y.s)).drew from (below_set3 (below_set3 HBc0.out (Nat.le_of_lt hp) x.type x.n x.s) (Nat.le_of_lt hq) y.type y.n y.s).drew)
  clear OP OQ OO HBc0 t0 t1 t2 t3 t4 t5 s0 s1 s2 s3 s4 s5 p0 p1 p2 f0 f1 f2 hpl q0 q1 q2 g0 g1 g2 hql k0 k1 k2 k3 k4 k5 hgc
  try rename_i hHeld; clear hHeld
  generalize ((((((wc.setCell ⟨p, 0, none⟩ (.int .i64 x.type)).setCell ⟨p, 1, none⟩ (.int .i64 x.n)).setCell ⟨p, 2, none⟩ (.string x.s)).setCell ⟨q, 0, none⟩ (.int .i64 y.type)).setCell ⟨q, 1, none⟩ (.int .i64 y.n)).setCell ⟨q, 2, none⟩ (.string y.s)).drew = w2 at Op Oq Oo HBc ⊢
  obtain ⟨p0, p1, p2, -, -, -, -⟩ := Op.out.cells
  obtain ⟨q0, q1, q2, -, -, -, -⟩ := Oq.out.cells
  go_wp2_with fail
  refine (reckon_at _ [45] rfl _ _ _ FA.out FB.out).mono ?_
  rintro e w' ⟨rfl, rfl⟩
  rw [HK.out]
  by_cases hk0 : k = 0
  ·subst hk0
   rw [errV_zero]
   go_wp2_with fail
   refine (of_any _ _).mono ?_
   rintro e w3 ⟨rfl, hb3⟩
   have HO3 := Lib.hid (Oo.out.keep hb3)
   have HB3 := Lib.hid (below_step HBc.out hb3)
   clear hb3
   obtain ⟨o0, o1, o2, z0, z1, z2, hlt⟩ := HO3.out.cells
   unfold valV
   go_wp2_with fail
   have HO4 := own3_set HO3.out (ofV (reckonVal [45] (x.n) (y.n))).type (ofV (reckonVal [45] (x.n) (y.n))).n (ofV (reckonVal [45] (x.n) (y.n))).s
   have HB4 := Lib.hid (below_set3 HB3.out (Nat.le_refl _) (ofV (reckonVal [45] (x.n) (y.n))).type (ofV (reckonVal [45] (x.n) (y.n))).n (ofV (reckonVal [45] (x.n) (y.n))).s)
   generalize ((w3.setCell ⟨w.heap.size, 0, none⟩ (.int .i64 (ofV (reckonVal [45] (x.n) (y.n))).type)).setCell ⟨w.heap.size, 1, none⟩ (.int .i64 (ofV (reckonVal [45] (x.n) (y.n))).n)).setCell ⟨w.heap.size, 2, none⟩ (.string (ofV (reckonVal [45] (x.n) (y.n))).s) = w4 at HO4 HB4 ⊢
   clear o0 o1 o2 z0 z1 z2 hlt
   obtain ⟨o0, o1, o2, z0, z1, z2, hlt⟩ := HO4.cells
   exact bodyPost_ret (v := .tuple #[valV (ofV (reckonVal [45] (x.n) (y.n))), errV 0]) (by simp [results, Tryz.results184, go_sem, o0, o1, o2, valV, errV]) rfl ⟨rfl, HB4.out⟩
  ·rw [errV_ne hk0]
   have E := Lib.hid (errV_ne hk0)
   have E2 := Lib.hid (show ∀ n, numV k n = noVal from fun n => if_neg hk0)
   obtain ⟨o0, o1, o2, z0, z1, z2, hlt⟩ := Oo.out.cells
   clear hk0
   go_wp2_with fail
   have HO4 := own3_set Oo.out 0 0 ⟨#[]⟩
   have HB4 := Lib.hid (below_set3 HBc.out (Nat.le_refl _) 0 0 ⟨#[]⟩)
   generalize ((w2.setCell ⟨w.heap.size, 0, none⟩ (.int .i64 0)).setCell ⟨w.heap.size, 1, none⟩ (.int .i64 0)).setCell ⟨w.heap.size, 2, none⟩ (.string ⟨#[]⟩) = w4 at HO4 HB4 ⊢
   clear o0 o1 o2 z0 z1 z2 hlt
   obtain ⟨o0, o1, o2, z0, z1, z2, hlt⟩ := HO4.cells
   refine bodyPost_ret (v := .tuple #[valV noVal, .iface 32 (.int .i64 k)]) (by simp [results, Tryz.results184, go_sem, o0, o1, o2, valV, noVal]) rfl ⟨?_, HB4.out⟩
   rw [E.out, E2.out]
set_option maxHeartbeats 2000000 in
set_option maxRecDepth 100000 in
theorem apply_mul (l : List Val) (x y : Val) (A : Option Addr) (c : Nat) (w : World) (hl : SeesVals w A 2 c l) (ha : l[0]? = some x) (hb : l[1]? = some y) (hfa : fits (x.n)) (hfb : fits (y.n)) :
  Calls Tryz.prog 184 #[.string ⟨#[42]⟩, .slice A 2 c] w (ApplySays (numV (reckonErr [42] (x.n) (y.n)) (reckonVal [42] (x.n) (y.n))) (reckonErr [42] (x.n) (y.n)) w) := by
 have hb0 : Below w.heap.size w (w.alloc (.cells #[.int .i64 0, .int .i64 0, .string ⟨#[]⟩] 23)) := (Below.refl _ _).alloc (Nat.le_refl _) _
 have ho : Own3 (w.alloc (.cells #[.int .i64 0, .int .i64 0, .string ⟨#[]⟩] 23)) w.heap.size noVal := own3_new w noVal
 obtain ⟨g, o, x', rfl, hg, hx, c0, c1, c2⟩ := (hl.keep hb0).at_ (k := 0) (by omega)
 obtain rfl : x = x' := by rw [ha] at hx; exact Option.some.inj hx
 obtain ⟨g', o', y', e, _, hy, d0, d1, d2⟩ := (hl.keep hb0).at_ (k := 1) (by omega)
 cases e
 obtain rfl : y = y' := by rw [hb] at hy; exact Option.some.inj hy
 clear hy
 have hcap := hl.2.2.1
 have hmax := hl.2.2.2.1
 unfold maxLen at hmax
 simp only [Nat.zero_mul, Nat.one_mul, Nat.add_zero] at c0 c1 c2 d0 d1 d2
 have FA := Lib.hid hfa
 have FB := Lib.hid hfb
 generalize hk : reckonErr [42] (x.n) (y.n) = k
 have HK := Lib.hid hk
 clear hfa hfb hk
 have hgw : g < w.heap.size := by
  obtain ⟨g1, o1, x1, e1, h1, _⟩ := hl.at_ (k := 0) (by omega)
  cases e1; exact h1
 have hne : g ≠ w.heap.size := Nat.ne_of_lt hgw
 have HO := Lib.hid ho
 have HB := Lib.hid hb0
 clear hx ha hb hl ho hb0
 go_enter Tryz.func184, Tryz.ntmps184
 go_wp2_with fail
 generalize w.alloc (.cells #[.int .i64 0, .int .i64 0, .string ⟨#[]⟩] 23) = w0 at HO HB c0 c1 c2 d0 d1 d2 hg ⊢
 go_cut [6, 7] (fun s6 s7 wx => ∃ p q : Nat, s6 = .pointer (some ⟨p, 0, none⟩) ∧ s7 = .pointer (some ⟨q, 0, none⟩) ∧ p ≠ q ∧ w.heap.size < p ∧ w.heap.size < q ∧ Own3 wx p noVal ∧ Own3 wx q x ∧ Own3 wx w.heap.size noVal ∧ Below w0.heap.size w0 wx ∧ Below w.heap.size w wx)
 case first =>
  have hwl : w.heap.size < w0.heap.size := HO.out.cells.2.2.2.2.2.2
  go_region
  all_goals
   go_wp2_with fail
   go_meet
   first
    | (obtain ⟨t1, t2, t3, t4, t5⟩ := two_new noVal x HO.out HB.out; exact ⟨_, _, rfl, rfl, by omega, by omega, by omega, t1, t2, t3, t4, t5⟩)
    | (obtain ⟨t1, t2, t3, t4, t5⟩ := two_new x noVal HO.out HB.out; exact ⟨_, _, rfl, rfl, by omega, by omega, by omega, t2, t1, t3, t4, t5⟩)
 case rest =>
  obtain ⟨p, q, rfl, rfl, hpq, hp, hq, op, oq, oo, hb0, hbc⟩ := hcut
  have k0 := (hb0.cell (p := ⟨g, o, none⟩) hg).trans c0
  have k1 := (hb0.cell (p := ⟨g, o + 1, none⟩) hg).trans c1
  have k2 := (hb0.cell (p := ⟨g, o + 2, none⟩) hg).trans c2
  have k3 := (hb0.cell (p := ⟨g, o + 3, none⟩) hg).trans d0
  have k4 := (hb0.cell (p := ⟨g, o + 3 + 1, none⟩) hg).trans d1
  have k5 := (hb0.cell (p := ⟨g, o + 3 + 2, none⟩) hg).trans d2
  have hgc : g < wc.heap.size := Nat.lt_of_lt_of_le hg hb0.size
  have hgp : g ≠ p := by omega
  have hgq : g ≠ q := by omega
  clear c0 c1 c2 d0 d1 d2 hb0 HO HB
  obtain ⟨p0, p1, p2, f0, f1, f2, hpl⟩ := op.cells
  obtain ⟨q0, q1, q2, g0, g1, g2, hql⟩ := oq.cells
  have OP := Lib.hid op
  have OQ := Lib.hid oq
  have OO := Lib.hid oo
  have HBc0 := Lib.hid hbc
  clear op oq oo hbc
  go_wp2_with fail
  have t0 : (((wc.setCell ⟨p, 0, none⟩ (.int .i64 x.type)).setCell ⟨p, 1, none⟩ (.int .i64 x.n)).setCell ⟨p, 2, none⟩ (.string x.s)).drew.cell? ⟨g, o, none⟩ = some (.int .i64 x.type) := by rw [cell_drew, cell_set3 hgp]; exact k0
  have s0 : ((((((wc.setCell ⟨p, 0, none⟩ (.int .i64 x.type)).setCell ⟨p, 1, none⟩ (.int .i64 x.n)).setCell ⟨p, 2, none⟩ (.string x.s)).setCell ⟨q, 0, none⟩ (.int .i64 y.type)).setCell ⟨q, 1, none⟩ (.int .i64 y.n)).setCell ⟨q, 2, none⟩ (.string y.s)).drew.cell? ⟨g, o, none⟩ = some (.int .i64 x.type) := by rw [cell_drew, cell_set3 hgq, cell_set3 hgp]; exact k0
  have t1 : (((wc.setCell ⟨p, 0, none⟩ (.int .i64 x.type)).setCell ⟨p, 1, none⟩ (.int .i64 x.n)).setCell ⟨p, 2, none⟩ (.string x.s)).drew.cell? ⟨g, o + 1, none⟩ = some (.int .i64 x.n) := by rw [cell_drew, cell_set3 hgp]; exact k1
  have s1 : ((((((wc.setCell ⟨p, 0, none⟩ (.int .i64 x.type)).setCell ⟨p, 1, none⟩ (.int .i64 x.n)).setCell ⟨p, 2, none⟩ (.string x.s)).setCell ⟨q, 0, none⟩ (.int .i64 y.type)).setCell ⟨q, 1, none⟩ (.int .i64 y.n)).setCell ⟨q, 2, none⟩ (.string y.s)).drew.cell? ⟨g, o + 1, none⟩ = some (.int .i64 x.n) := by rw [cell_drew, cell_set3 hgq, cell_set3 hgp]; exact k1
  have t2 : (((wc.setCell ⟨p, 0, none⟩ (.int .i64 x.type)).setCell ⟨p, 1, none⟩ (.int .i64 x.n)).setCell ⟨p, 2, none⟩ (.string x.s)).drew.cell? ⟨g, o + 2, none⟩ = some (.string x.s) := by rw [cell_drew, cell_set3 hgp]; exact k2
  have s2 : ((((((wc.setCell ⟨p, 0, none⟩ (.int .i64 x.type)).setCell ⟨p, 1, none⟩ (.int .i64 x.n)).setCell ⟨p, 2, none⟩ (.string x.s)).setCell ⟨q, 0, none⟩ (.int .i64 y.type)).setCell ⟨q, 1, none⟩ (.int .i64 y.n)).setCell ⟨q, 2, none⟩ (.string y.s)).drew.cell? ⟨g, o + 2, none⟩ = some (.string x.s) := by rw [cell_drew, cell_set3 hgq, cell_set3 hgp]; exact k2
  have t3 : (((wc.setCell ⟨p, 0, none⟩ (.int .i64 x.type)).setCell ⟨p, 1, none⟩ (.int .i64 x.n)).setCell ⟨p, 2, none⟩ (.string x.s)).drew.cell? ⟨g, o + 3, none⟩ = some (.int .i64 y.type) := by rw [cell_drew, cell_set3 hgp]; exact k3
  have s3 : ((((((wc.setCell ⟨p, 0, none⟩ (.int .i64 x.type)).setCell ⟨p, 1, none⟩ (.int .i64 x.n)).setCell ⟨p, 2, none⟩ (.string x.s)).setCell ⟨q, 0, none⟩ (.int .i64 y.type)).setCell ⟨q, 1, none⟩ (.int .i64 y.n)).setCell ⟨q, 2, none⟩ (.string y.s)).drew.cell? ⟨g, o + 3, none⟩ = some (.int .i64 y.type) := by rw [cell_drew, cell_set3 hgq, cell_set3 hgp]; exact k3
  have t4 : (((wc.setCell ⟨p, 0, none⟩ (.int .i64 x.type)).setCell ⟨p, 1, none⟩ (.int .i64 x.n)).setCell ⟨p, 2, none⟩ (.string x.s)).drew.cell? ⟨g, o + 3 + 1, none⟩ = some (.int .i64 y.n) := by rw [cell_drew, cell_set3 hgp]; exact k4
  have s4 : ((((((wc.setCell ⟨p, 0, none⟩ (.int .i64 x.type)).setCell ⟨p, 1, none⟩ (.int .i64 x.n)).setCell ⟨p, 2, none⟩ (.string x.s)).setCell ⟨q, 0, none⟩ (.int .i64 y.type)).setCell ⟨q, 1, none⟩ (.int .i64 y.n)).setCell ⟨q, 2, none⟩ (.string y.s)).drew.cell? ⟨g, o + 3 + 1, none⟩ = some (.int .i64 y.n) := by rw [cell_drew, cell_set3 hgq, cell_set3 hgp]; exact k4
  have t5 : (((wc.setCell ⟨p, 0, none⟩ (.int .i64 x.type)).setCell ⟨p, 1, none⟩ (.int .i64 x.n)).setCell ⟨p, 2, none⟩ (.string x.s)).drew.cell? ⟨g, o + 3 + 2, none⟩ = some (.string y.s) := by rw [cell_drew, cell_set3 hgp]; exact k5
  have s5 : ((((((wc.setCell ⟨p, 0, none⟩ (.int .i64 x.type)).setCell ⟨p, 1, none⟩ (.int .i64 x.n)).setCell ⟨p, 2, none⟩ (.string x.s)).setCell ⟨q, 0, none⟩ (.int .i64 y.type)).setCell ⟨q, 1, none⟩ (.int .i64 y.n)).setCell ⟨q, 2, none⟩ (.string y.s)).drew.cell? ⟨g, o + 3 + 2, none⟩ = some (.string y.s) := by rw [cell_drew, cell_set3 hgq, cell_set3 hgp]; exact k5
  go_region_held3 (fun w' => w'.cell? ⟨g, o, none⟩ = some (.int .i64 x.type) ∧ w'.cell? ⟨g, o + 1, none⟩ = some (.int .i64 x.n) ∧ w'.cell? ⟨g, o + 2, none⟩ = some (.string x.s) ∧ w'.cell? ⟨g, o + 3, none⟩ = some (.int .i64 y.type) ∧ w'.cell? ⟨g, o + 3 + 1, none⟩ = some (.int .i64 y.n) ∧ w'.cell? ⟨g, o + 3 + 2, none⟩ = some (.string y.s)) (first | go_keep | exact ⟨t0, t1, t2, t3, t4, t5⟩ | exact ⟨s0, s1, s2, s3, s4, s5⟩) (fail)
  have Op := Lib.hid (show Own3 ((((((wc.setCell ⟨p, 0, none⟩ (.int .i64 x.type)).setCell ⟨p, 1, none⟩ (.int .i64 x.n)).setCell ⟨p, 2, none⟩ (.string x.s)).setCell ⟨q, 0, none⟩ (.int .i64 y.type)).setCell ⟨q, 1, none⟩ (.int .i64 y.n)).setCell ⟨q, 2, none⟩ (.string y.s)).drew p x from (own3_other (own3_set OP.out x.type x.n x.s) hpq _ _ _).drew)
  have Oq := Lib.hid (show Own3 ((((((wc.setCell ⟨p, 0, none⟩ (.int .i64 x.type)).setCell ⟨p, 1, none⟩ (.int .i64 x.n)).setCell ⟨p, 2, none⟩ (.string x.s)).setCell ⟨q, 0, none⟩ (.int .i64 y.type)).setCell ⟨q, 1, none⟩ (.int .i64 y.n)).setCell ⟨q, 2, none⟩ (.string y.s)).drew q y from (own3_set (own3_other OQ.out (Ne.symm hpq) (.int .i64 x.type) (.int .i64 x.n) (.string x.s)) y.type y.n y.s).drew)
  have Oo := Lib.hid (show Own3 ((((((wc.setCell ⟨p, 0, none⟩ (.int .i64 x.type)).setCell ⟨p, 1, none⟩ (.int .i64 x.n)).setCell ⟨p, 2, none⟩ (.string x.s)).setCell ⟨q, 0, none⟩ (.int .i64 y.type)).setCell ⟨q, 1, none⟩ (.int .i64 y.n)).setCell ⟨q, 2, none⟩ (.string y.s)).drew w.heap.size noVal from (own3_other (own3_other OO.out (Nat.ne_of_lt hp) _ _ _) (Nat.ne_of_lt hq) _ _ _).drew)
  have HBc := Lib.hid (show Below w.heap.size w ((((((wc.setCell ⟨p, 0, none⟩ (.int .i64 x.type)).setCell ⟨p, 1, none⟩ (.int .i64 x.n)).setCell ⟨p, 2, none⟩ (.string x.s)).setCell ⟨q, 0, none⟩ (.int .i64 y.type)).setCell ⟨q, 1, none⟩ (.int .i64 y.n)).setCell ⟨q, 2, none⟩ (.string y.s)).drew from (below_set3 (below_set3 HBc0.out (Nat.le_of_lt hp) x.type x.n x.s) (Nat.le_of_lt hq) y.type y.n y.s).drew)
  clear OP OQ OO HBc0 t0 t1 t2 t3 t4 t5 s0 s1 s2 s3 s4 s5 p0 p1 p2 f0 f1 f2 hpl q0 q1 q2 g0 g1 g2 hql k0 k1 k2 k3 k4 k5 hgc
  try rename_i hHeld; clear hHeld
  generalize ((((((wc.setCell ⟨p, 0, none⟩ (.int .i64 x.type)).setCell ⟨p, 1, none⟩ (.int .i64 x.n)).setCell ⟨p, 2, none⟩ (.string x.s)).setCell ⟨q, 0, none⟩ (.int .i64 y.type)).setCell ⟨q, 1, none⟩ (.int .i64 y.n)).setCell ⟨q, 2, none⟩ (.string y.s)).drew = w2 at Op Oq Oo HBc ⊢
  obtain ⟨p0, p1, p2, -, -, -, -⟩ := Op.out.cells
  obtain ⟨q0, q1, q2, -, -, -, -⟩ := Oq.out.cells
  go_wp2_with fail
  refine (reckon_at _ [42] rfl _ _ _ FA.out FB.out).mono ?_
  rintro e w' ⟨rfl, rfl⟩
  rw [HK.out]
  by_cases hk0 : k = 0
  ·subst hk0
   rw [errV_zero]
   go_wp2_with fail
   refine (of_any _ _).mono ?_
   rintro e w3 ⟨rfl, hb3⟩
   have HO3 := Lib.hid (Oo.out.keep hb3)
   have HB3 := Lib.hid (below_step HBc.out hb3)
   clear hb3
   obtain ⟨o0, o1, o2, z0, z1, z2, hlt⟩ := HO3.out.cells
   unfold valV
   go_wp2_with fail
   have HO4 := own3_set HO3.out (ofV (reckonVal [42] (x.n) (y.n))).type (ofV (reckonVal [42] (x.n) (y.n))).n (ofV (reckonVal [42] (x.n) (y.n))).s
   have HB4 := Lib.hid (below_set3 HB3.out (Nat.le_refl _) (ofV (reckonVal [42] (x.n) (y.n))).type (ofV (reckonVal [42] (x.n) (y.n))).n (ofV (reckonVal [42] (x.n) (y.n))).s)
   generalize ((w3.setCell ⟨w.heap.size, 0, none⟩ (.int .i64 (ofV (reckonVal [42] (x.n) (y.n))).type)).setCell ⟨w.heap.size, 1, none⟩ (.int .i64 (ofV (reckonVal [42] (x.n) (y.n))).n)).setCell ⟨w.heap.size, 2, none⟩ (.string (ofV (reckonVal [42] (x.n) (y.n))).s) = w4 at HO4 HB4 ⊢
   clear o0 o1 o2 z0 z1 z2 hlt
   obtain ⟨o0, o1, o2, z0, z1, z2, hlt⟩ := HO4.cells
   exact bodyPost_ret (v := .tuple #[valV (ofV (reckonVal [42] (x.n) (y.n))), errV 0]) (by simp [results, Tryz.results184, go_sem, o0, o1, o2, valV, errV]) rfl ⟨rfl, HB4.out⟩
  ·rw [errV_ne hk0]
   have E := Lib.hid (errV_ne hk0)
   have E2 := Lib.hid (show ∀ n, numV k n = noVal from fun n => if_neg hk0)
   obtain ⟨o0, o1, o2, z0, z1, z2, hlt⟩ := Oo.out.cells
   clear hk0
   go_wp2_with fail
   have HO4 := own3_set Oo.out 0 0 ⟨#[]⟩
   have HB4 := Lib.hid (below_set3 HBc.out (Nat.le_refl _) 0 0 ⟨#[]⟩)
   generalize ((w2.setCell ⟨w.heap.size, 0, none⟩ (.int .i64 0)).setCell ⟨w.heap.size, 1, none⟩ (.int .i64 0)).setCell ⟨w.heap.size, 2, none⟩ (.string ⟨#[]⟩) = w4 at HO4 HB4 ⊢
   clear o0 o1 o2 z0 z1 z2 hlt
   obtain ⟨o0, o1, o2, z0, z1, z2, hlt⟩ := HO4.cells
   refine bodyPost_ret (v := .tuple #[valV noVal, .iface 32 (.int .i64 k)]) (by simp [results, Tryz.results184, go_sem, o0, o1, o2, valV, noVal]) rfl ⟨?_, HB4.out⟩
   rw [E.out, E2.out]
set_option maxHeartbeats 2000000 in
set_option maxRecDepth 100000 in
theorem apply_div (l : List Val) (x y : Val) (A : Option Addr) (c : Nat) (w : World) (hl : SeesVals w A 2 c l) (ha : l[0]? = some x) (hb : l[1]? = some y) (hfa : fits (x.n)) (hfb : fits (y.n)) :
  Calls Tryz.prog 184 #[.string ⟨#[47]⟩, .slice A 2 c] w (ApplySays (numV (reckonErr [47] (x.n) (y.n)) (reckonVal [47] (x.n) (y.n))) (reckonErr [47] (x.n) (y.n)) w) := by
 have hb0 : Below w.heap.size w (w.alloc (.cells #[.int .i64 0, .int .i64 0, .string ⟨#[]⟩] 23)) := (Below.refl _ _).alloc (Nat.le_refl _) _
 have ho : Own3 (w.alloc (.cells #[.int .i64 0, .int .i64 0, .string ⟨#[]⟩] 23)) w.heap.size noVal := own3_new w noVal
 obtain ⟨g, o, x', rfl, hg, hx, c0, c1, c2⟩ := (hl.keep hb0).at_ (k := 0) (by omega)
 obtain rfl : x = x' := by rw [ha] at hx; exact Option.some.inj hx
 obtain ⟨g', o', y', e, _, hy, d0, d1, d2⟩ := (hl.keep hb0).at_ (k := 1) (by omega)
 cases e
 obtain rfl : y = y' := by rw [hb] at hy; exact Option.some.inj hy
 clear hy
 have hcap := hl.2.2.1
 have hmax := hl.2.2.2.1
 unfold maxLen at hmax
 simp only [Nat.zero_mul, Nat.one_mul, Nat.add_zero] at c0 c1 c2 d0 d1 d2
 have FA := Lib.hid hfa
 have FB := Lib.hid hfb
 generalize hk : reckonErr [47] (x.n) (y.n) = k
 have HK := Lib.hid hk
 clear hfa hfb hk
 have hgw : g < w.heap.size := by
  obtain ⟨g1, o1, x1, e1, h1, _⟩ := hl.at_ (k := 0) (by omega)
  cases e1; exact h1
 have hne : g ≠ w.heap.size := Nat.ne_of_lt hgw
 have HO := Lib.hid ho
 have HB := Lib.hid hb0
 clear hx ha hb hl ho hb0
 go_enter Tryz.func184, Tryz.ntmps184
 go_wp2_with fail
 generalize w.alloc (.cells #[.int .i64 0, .int .i64 0, .string ⟨#[]⟩] 23) = w0 at HO HB c0 c1 c2 d0 d1 d2 hg ⊢
 go_cut [6, 7] (fun s6 s7 wx => ∃ p q : Nat, s6 = .pointer (some ⟨p, 0, none⟩) ∧ s7 = .pointer (some ⟨q, 0, none⟩) ∧ p ≠ q ∧ w.heap.size < p ∧ w.heap.size < q ∧ Own3 wx p noVal ∧ Own3 wx q x ∧ Own3 wx w.heap.size noVal ∧ Below w0.heap.size w0 wx ∧ Below w.heap.size w wx)
 case first =>
  have hwl : w.heap.size < w0.heap.size := HO.out.cells.2.2.2.2.2.2
  go_region
  all_goals
   go_wp2_with fail
   go_meet
   first
    | (obtain ⟨t1, t2, t3, t4, t5⟩ := two_new noVal x HO.out HB.out; exact ⟨_, _, rfl, rfl, by omega, by omega, by omega, t1, t2, t3, t4, t5⟩)
    | (obtain ⟨t1, t2, t3, t4, t5⟩ := two_new x noVal HO.out HB.out; exact ⟨_, _, rfl, rfl, by omega, by omega, by omega, t2, t1, t3, t4, t5⟩)
 case rest =>
  obtain ⟨p, q, rfl, rfl, hpq, hp, hq, op, oq, oo, hb0, hbc⟩ := hcut
  have k0 := (hb0.cell (p := ⟨g, o, none⟩) hg).trans c0
  have k1 := (hb0.cell (p := ⟨g, o + 1, none⟩) hg).trans c1
  have k2 := (hb0.cell (p := ⟨g, o + 2, none⟩) hg).trans c2
  have k3 := (hb0.cell (p := ⟨g, o + 3, none⟩) hg).trans d0
  have k4 := (hb0.cell (p := ⟨g, o + 3 + 1, none⟩) hg).trans d1
  have k5 := (hb0.cell (p := ⟨g, o + 3 + 2, none⟩) hg).trans d2
  have hgc : g < wc.heap.size := Nat.lt_of_lt_of_le hg hb0.size
  have hgp : g ≠ p := by omega
  have hgq : g ≠ q := by omega
  clear c0 c1 c2 d0 d1 d2 hb0 HO HB
  obtain ⟨p0, p1, p2, f0, f1, f2, hpl⟩ := op.cells
  obtain ⟨q0, q1, q2, g0, g1, g2, hql⟩ := oq.cells
  have OP := Lib.hid op
  have OQ := Lib.hid oq
  have OO := Lib.hid oo
  have HBc0 := Lib.hid hbc
  clear op oq oo hbc
  go_wp2_with fail
  have t0 : (((wc.setCell ⟨p, 0, none⟩ (.int .i64 x.type)).setCell ⟨p, 1, none⟩ (.int .i64 x.n)).setCell ⟨p, 2, none⟩ (.string x.s)).drew.cell? ⟨g, o, none⟩ = some (.int .i64 x.type) := by rw [cell_drew, cell_set3 hgp]; exact k0
  have s0 : ((((((wc.setCell ⟨p, 0, none⟩ (.int .i64 x.type)).setCell ⟨p, 1, none⟩ (.int .i64 x.n)).setCell ⟨p, 2, none⟩ (.string x.s)).setCell ⟨q, 0, none⟩ (.int .i64 y.type)).setCell ⟨q, 1, none⟩ (.int .i64 y.n)).setCell ⟨q, 2, none⟩ (.string y.s)).drew.cell? ⟨g, o, none⟩ = some (.int .i64 x.type) := by rw [cell_drew, cell_set3 hgq, cell_set3 hgp]; exact k0
  have t1 : (((wc.setCell ⟨p, 0, none⟩ (.int .i64 x.type)).setCell ⟨p, 1, none⟩ (.int .i64 x.n)).setCell ⟨p, 2, none⟩ (.string x.s)).drew.cell? ⟨g, o + 1, none⟩ = some (.int .i64 x.n) := by rw [cell_drew, cell_set3 hgp]; exact k1
  have s1 : ((((((wc.setCell ⟨p, 0, none⟩ (.int .i64 x.type)).setCell ⟨p, 1, none⟩ (.int .i64 x.n)).setCell ⟨p, 2, none⟩ (.string x.s)).setCell ⟨q, 0, none⟩ (.int .i64 y.type)).setCell ⟨q, 1, none⟩ (.int .i64 y.n)).setCell ⟨q, 2, none⟩ (.string y.s)).drew.cell? ⟨g, o + 1, none⟩ = some (.int .i64 x.n) := by rw [cell_drew, cell_set3 hgq, cell_set3 hgp]; exact k1
  have t2 : (((wc.setCell ⟨p, 0, none⟩ (.int .i64 x.type)).setCell ⟨p, 1, none⟩ (.int .i64 x.n)).setCell ⟨p, 2, none⟩ (.string x.s)).drew.cell? ⟨g, o + 2, none⟩ = some (.string x.s) := by rw [cell_drew, cell_set3 hgp]; exact k2
  have s2 : ((((((wc.setCell ⟨p, 0, none⟩ (.int .i64 x.type)).setCell ⟨p, 1, none⟩ (.int .i64 x.n)).setCell ⟨p, 2, none⟩ (.string x.s)).setCell ⟨q, 0, none⟩ (.int .i64 y.type)).setCell ⟨q, 1, none⟩ (.int .i64 y.n)).setCell ⟨q, 2, none⟩ (.string y.s)).drew.cell? ⟨g, o + 2, none⟩ = some (.string x.s) := by rw [cell_drew, cell_set3 hgq, cell_set3 hgp]; exact k2
  have t3 : (((wc.setCell ⟨p, 0, none⟩ (.int .i64 x.type)).setCell ⟨p, 1, none⟩ (.int .i64 x.n)).setCell ⟨p, 2, none⟩ (.string x.s)).drew.cell? ⟨g, o + 3, none⟩ = some (.int .i64 y.type) := by rw [cell_drew, cell_set3 hgp]; exact k3
  have s3 : ((((((wc.setCell ⟨p, 0, none⟩ (.int .i64 x.type)).setCell ⟨p, 1, none⟩ (.int .i64 x.n)).setCell ⟨p, 2, none⟩ (.string x.s)).setCell ⟨q, 0, none⟩ (.int .i64 y.type)).setCell ⟨q, 1, none⟩ (.int .i64 y.n)).setCell ⟨q, 2, none⟩ (.string y.s)).drew.cell? ⟨g, o + 3, none⟩ = some (.int .i64 y.type) := by rw [cell_drew, cell_set3 hgq, cell_set3 hgp]; exact k3
  have t4 : (((wc.setCell ⟨p, 0, none⟩ (.int .i64 x.type)).setCell ⟨p, 1, none⟩ (.int .i64 x.n)).setCell ⟨p, 2, none⟩ (.string x.s)).drew.cell? ⟨g, o + 3 + 1, none⟩ = some (.int .i64 y.n) := by rw [cell_drew, cell_set3 hgp]; exact k4
  have s4 : ((((((wc.setCell ⟨p, 0, none⟩ (.int .i64 x.type)).setCell ⟨p, 1, none⟩ (.int .i64 x.n)).setCell ⟨p, 2, none⟩ (.string x.s)).setCell ⟨q, 0, none⟩ (.int .i64 y.type)).setCell ⟨q, 1, none⟩ (.int .i64 y.n)).setCell ⟨q, 2, none⟩ (.string y.s)).drew.cell? ⟨g, o + 3 + 1, none⟩ = some (.int .i64 y.n) := by rw [cell_drew, cell_set3 hgq, cell_set3 hgp]; exact k4
  have t5 : (((wc.setCell ⟨p, 0, none⟩ (.int .i64 x.type)).setCell ⟨p, 1, none⟩ (.int .i64 x.n)).setCell ⟨p, 2, none⟩ (.string x.s)).drew.cell? ⟨g, o + 3 + 2, none⟩ = some (.string y.s) := by rw [cell_drew, cell_set3 hgp]; exact k5
  have s5 : ((((((wc.setCell ⟨p, 0, none⟩ (.int .i64 x.type)).setCell ⟨p, 1, none⟩ (.int .i64 x.n)).setCell ⟨p, 2, none⟩ (.string x.s)).setCell ⟨q, 0, none⟩ (.int .i64 y.type)).setCell ⟨q, 1, none⟩ (.int .i64 y.n)).setCell ⟨q, 2, none⟩ (.string y.s)).drew.cell? ⟨g, o + 3 + 2, none⟩ = some (.string y.s) := by rw [cell_drew, cell_set3 hgq, cell_set3 hgp]; exact k5
  go_region_held3 (fun w' => w'.cell? ⟨g, o, none⟩ = some (.int .i64 x.type) ∧ w'.cell? ⟨g, o + 1, none⟩ = some (.int .i64 x.n) ∧ w'.cell? ⟨g, o + 2, none⟩ = some (.string x.s) ∧ w'.cell? ⟨g, o + 3, none⟩ = some (.int .i64 y.type) ∧ w'.cell? ⟨g, o + 3 + 1, none⟩ = some (.int .i64 y.n) ∧ w'.cell? ⟨g, o + 3 + 2, none⟩ = some (.string y.s)) (first | go_keep | exact ⟨t0, t1, t2, t3, t4, t5⟩ | exact ⟨s0, s1, s2, s3, s4, s5⟩) (fail)
  have Op := Lib.hid (show Own3 ((((((wc.setCell ⟨p, 0, none⟩ (.int .i64 x.type)).setCell ⟨p, 1, none⟩ (.int .i64 x.n)).setCell ⟨p, 2, none⟩ (.string x.s)).setCell ⟨q, 0, none⟩ (.int .i64 y.type)).setCell ⟨q, 1, none⟩ (.int .i64 y.n)).setCell ⟨q, 2, none⟩ (.string y.s)).drew p x from (own3_other (own3_set OP.out x.type x.n x.s) hpq _ _ _).drew)
  have Oq := Lib.hid (show Own3 ((((((wc.setCell ⟨p, 0, none⟩ (.int .i64 x.type)).setCell ⟨p, 1, none⟩ (.int .i64 x.n)).setCell ⟨p, 2, none⟩ (.string x.s)).setCell ⟨q, 0, none⟩ (.int .i64 y.type)).setCell ⟨q, 1, none⟩ (.int .i64 y.n)).setCell ⟨q, 2, none⟩ (.string y.s)).drew q y from (own3_set (own3_other OQ.out (Ne.symm hpq) (.int .i64 x.type) (.int .i64 x.n) (.string x.s)) y.type y.n y.s).drew)
  have Oo := Lib.hid (show Own3 ((((((wc.setCell ⟨p, 0, none⟩ (.int .i64 x.type)).setCell ⟨p, 1, none⟩ (.int .i64 x.n)).setCell ⟨p, 2, none⟩ (.string x.s)).setCell ⟨q, 0, none⟩ (.int .i64 y.type)).setCell ⟨q, 1, none⟩ (.int .i64 y.n)).setCell ⟨q, 2, none⟩ (.string y.s)).drew w.heap.size noVal from (own3_other (own3_other OO.out (Nat.ne_of_lt hp) _ _ _) (Nat.ne_of_lt hq) _ _ _).drew)
  have HBc := Lib.hid (show Below w.heap.size w ((((((wc.setCell ⟨p, 0, none⟩ (.int .i64 x.type)).setCell ⟨p, 1, none⟩ (.int .i64 x.n)).setCell ⟨p, 2, none⟩ (.string x.s)).setCell ⟨q, 0, none⟩ (.int .i64 y.type)).setCell ⟨q, 1, none⟩ (.int .i64 y.n)).setCell ⟨q, 2, none⟩ (.string y.s)).drew from (below_set3 (below_set3 HBc0.out (Nat.le_of_lt hp) x.type x.n x.s) (Nat.le_of_lt hq) y.type y.n y.s).drew)
  clear OP OQ OO HBc0 t0 t1 t2 t3 t4 t5 s0 s1 s2 s3 s4 s5 p0 p1 p2 f0 f1 f2 hpl q0 q1 q2 g0 g1 g2 hql k0 k1 k2 k3 k4 k5 hgc
  try rename_i hHeld; clear hHeld
  generalize ((((((wc.setCell ⟨p, 0, none⟩ (.int .i64 x.type)).setCell ⟨p, 1, none⟩ (.int .i64 x.n)).setCell ⟨p, 2, none⟩ (.string x.s)).setCell ⟨q, 0, none⟩ (.int .i64 y.type)).setCell ⟨q, 1, none⟩ (.int .i64 y.n)).setCell ⟨q, 2, none⟩ (.string y.s)).drew = w2 at Op Oq Oo HBc ⊢
  obtain ⟨p0, p1, p2, -, -, -, -⟩ := Op.out.cells
  obtain ⟨q0, q1, q2, -, -, -, -⟩ := Oq.out.cells
  go_wp2_with fail
  refine (reckon_at _ [47] rfl _ _ _ FA.out FB.out).mono ?_
  rintro e w' ⟨rfl, rfl⟩
  rw [HK.out]
  by_cases hk0 : k = 0
  ·subst hk0
   rw [errV_zero]
   go_wp2_with fail
   refine (of_any _ _).mono ?_
   rintro e w3 ⟨rfl, hb3⟩
   have HO3 := Lib.hid (Oo.out.keep hb3)
   have HB3 := Lib.hid (below_step HBc.out hb3)
   clear hb3
   obtain ⟨o0, o1, o2, z0, z1, z2, hlt⟩ := HO3.out.cells
   unfold valV
   go_wp2_with fail
   have HO4 := own3_set HO3.out (ofV (reckonVal [47] (x.n) (y.n))).type (ofV (reckonVal [47] (x.n) (y.n))).n (ofV (reckonVal [47] (x.n) (y.n))).s
   have HB4 := Lib.hid (below_set3 HB3.out (Nat.le_refl _) (ofV (reckonVal [47] (x.n) (y.n))).type (ofV (reckonVal [47] (x.n) (y.n))).n (ofV (reckonVal [47] (x.n) (y.n))).s)
   generalize ((w3.setCell ⟨w.heap.size, 0, none⟩ (.int .i64 (ofV (reckonVal [47] (x.n) (y.n))).type)).setCell ⟨w.heap.size, 1, none⟩ (.int .i64 (ofV (reckonVal [47] (x.n) (y.n))).n)).setCell ⟨w.heap.size, 2, none⟩ (.string (ofV (reckonVal [47] (x.n) (y.n))).s) = w4 at HO4 HB4 ⊢
   clear o0 o1 o2 z0 z1 z2 hlt
   obtain ⟨o0, o1, o2, z0, z1, z2, hlt⟩ := HO4.cells
   exact bodyPost_ret (v := .tuple #[valV (ofV (reckonVal [47] (x.n) (y.n))), errV 0]) (by simp [results, Tryz.results184, go_sem, o0, o1, o2, valV, errV]) rfl ⟨rfl, HB4.out⟩
  ·rw [errV_ne hk0]
   have E := Lib.hid (errV_ne hk0)
   have E2 := Lib.hid (show ∀ n, numV k n = noVal from fun n => if_neg hk0)
   obtain ⟨o0, o1, o2, z0, z1, z2, hlt⟩ := Oo.out.cells
   clear hk0
   go_wp2_with fail
   have HO4 := own3_set Oo.out 0 0 ⟨#[]⟩
   have HB4 := Lib.hid (below_set3 HBc.out (Nat.le_refl _) 0 0 ⟨#[]⟩)
   generalize ((w2.setCell ⟨w.heap.size, 0, none⟩ (.int .i64 0)).setCell ⟨w.heap.size, 1, none⟩ (.int .i64 0)).setCell ⟨w.heap.size, 2, none⟩ (.string ⟨#[]⟩) = w4 at HO4 HB4 ⊢
   clear o0 o1 o2 z0 z1 z2 hlt
   obtain ⟨o0, o1, o2, z0, z1, z2, hlt⟩ := HO4.cells
   refine bodyPost_ret (v := .tuple #[valV noVal, .iface 32 (.int .i64 k)]) (by simp [results, Tryz.results184, go_sem, o0, o1, o2, valV, noVal]) rfl ⟨?_, HB4.out⟩
   rw [E.out, E2.out]
set_option maxHeartbeats 2000000 in
set_option maxRecDepth 100000 in
theorem apply_rem (l : List Val) (x y : Val) (A : Option Addr) (c : Nat) (w : World) (hl : SeesVals w A 2 c l) (ha : l[0]? = some x) (hb : l[1]? = some y) (hfa : fits (x.n)) (hfb : fits (y.n)) :
  Calls Tryz.prog 184 #[.string ⟨#[37]⟩, .slice A 2 c] w (ApplySays (numV (reckonErr [37] (x.n) (y.n)) (reckonVal [37] (x.n) (y.n))) (reckonErr [37] (x.n) (y.n)) w) := by
 have hb0 : Below w.heap.size w (w.alloc (.cells #[.int .i64 0, .int .i64 0, .string ⟨#[]⟩] 23)) := (Below.refl _ _).alloc (Nat.le_refl _) _
 have ho : Own3 (w.alloc (.cells #[.int .i64 0, .int .i64 0, .string ⟨#[]⟩] 23)) w.heap.size noVal := own3_new w noVal
 obtain ⟨g, o, x', rfl, hg, hx, c0, c1, c2⟩ := (hl.keep hb0).at_ (k := 0) (by omega)
 obtain rfl : x = x' := by rw [ha] at hx; exact Option.some.inj hx
 obtain ⟨g', o', y', e, _, hy, d0, d1, d2⟩ := (hl.keep hb0).at_ (k := 1) (by omega)
 cases e
 obtain rfl : y = y' := by rw [hb] at hy; exact Option.some.inj hy
 clear hy
 have hcap := hl.2.2.1
 have hmax := hl.2.2.2.1
 unfold maxLen at hmax
 simp only [Nat.zero_mul, Nat.one_mul, Nat.add_zero] at c0 c1 c2 d0 d1 d2
 have FA := Lib.hid hfa
 have FB := Lib.hid hfb
 generalize hk : reckonErr [37] (x.n) (y.n) = k
 have HK := Lib.hid hk
 clear hfa hfb hk
 have hgw : g < w.heap.size := by
  obtain ⟨g1, o1, x1, e1, h1, _⟩ := hl.at_ (k := 0) (by omega)
  cases e1; exact h1
 have hne : g ≠ w.heap.size := Nat.ne_of_lt hgw
 have HO := Lib.hid ho
 have HB := Lib.hid hb0
 clear hx ha hb hl ho hb0
 go_enter Tryz.func184, Tryz.ntmps184
 go_wp2_with fail
 generalize w.alloc (.cells #[.int .i64 0, .int .i64 0, .string ⟨#[]⟩] 23) = w0 at HO HB c0 c1 c2 d0 d1 d2 hg ⊢
 go_cut [6, 7] (fun s6 s7 wx => ∃ p q : Nat, s6 = .pointer (some ⟨p, 0, none⟩) ∧ s7 = .pointer (some ⟨q, 0, none⟩) ∧ p ≠ q ∧ w.heap.size < p ∧ w.heap.size < q ∧ Own3 wx p noVal ∧ Own3 wx q x ∧ Own3 wx w.heap.size noVal ∧ Below w0.heap.size w0 wx ∧ Below w.heap.size w wx)
 case first =>
  have hwl : w.heap.size < w0.heap.size := HO.out.cells.2.2.2.2.2.2
  go_region
  all_goals
   go_wp2_with fail
   go_meet
   first
    | (obtain ⟨t1, t2, t3, t4, t5⟩ := two_new noVal x HO.out HB.out; exact ⟨_, _, rfl, rfl, by omega, by omega, by omega, t1, t2, t3, t4, t5⟩)
    | (obtain ⟨t1, t2, t3, t4, t5⟩ := two_new x noVal HO.out HB.out; exact ⟨_, _, rfl, rfl, by omega, by omega, by omega, t2, t1, t3, t4, t5⟩)
 case rest =>
  obtain ⟨p, q, rfl, rfl, hpq, hp, hq, op, oq, oo, hb0, hbc⟩ := hcut
  have k0 := (hb0.cell (p := ⟨g, o, none⟩) hg).trans c0
  have k1 := (hb0.cell (p := ⟨g, o + 1, none⟩) hg).trans c1
  have k2 := (hb0.cell (p := ⟨g, o + 2, none⟩) hg).trans c2
  have k3 := (hb0.cell (p := ⟨g, o + 3, none⟩) hg).trans d0
  have k4 := (hb0.cell (p := ⟨g, o + 3 + 1, none⟩) hg).trans d1
  have k5 := (hb0.cell (p := ⟨g, o + 3 + 2, none⟩) hg).trans d2
  have hgc : g < wc.heap.size := Nat.lt_of_lt_of_le hg hb0.size
  have hgp : g ≠ p := by omega
  have hgq : g ≠ q := by omega
  clear c0 c1 c2 d0 d1 d2 hb0 HO HB
  obtain ⟨p0, p1, p2, f0, f1, f2, hpl⟩ := op.cells
  obtain ⟨q0, q1, q2, g0, g1, g2, hql⟩ := oq.cells
  have OP := Lib.hid op
  have OQ := Lib.hid oq
  have OO := Lib.hid oo
  have HBc0 := Lib.hid hbc
  clear op oq oo hbc
  go_wp2_with fail
  have t0 : (((wc.setCell ⟨p, 0, none⟩ (.int .i64 x.type)).setCell ⟨p, 1, none⟩ (.int .i64 x.n)).setCell ⟨p, 2, none⟩ (.string x.s)).drew.cell? ⟨g, o, none⟩ = some (.int .i64 x.type) := by rw [cell_drew, cell_set3 hgp]; exact k0
  have s0 : ((((((wc.setCell ⟨p, 0, none⟩ (.int .i64 x.type)).setCell ⟨p, 1, none⟩ (.int .i64 x.n)).setCell ⟨p, 2, none⟩ (.string x.s)).setCell ⟨q, 0, none⟩ (.int .i64 y.type)).setCell ⟨q, 1, none⟩ (.int .i64 y.n)).setCell ⟨q, 2, none⟩ (.string y.s)).drew.cell? ⟨g, o, none⟩ = some (.int .i64 x.type) := by rw [cell_drew, cell_set3 hgq, cell_set3 hgp]; exact k0
  have t1 : (((wc.setCell ⟨p, 0, none⟩ (.int .i64 x.type)).setCell ⟨p, 1, none⟩ (.int .i64 x.n)).setCell ⟨p, 2, none⟩ (.string x.s)).drew.cell? ⟨g, o + 1, none⟩ = some (.int .i64 x.n) := by rw [cell_drew, cell_set3 hgp]; exact k1
  have s1 : ((((((wc.setCell ⟨p, 0, none⟩ (.int .i64 x.type)).setCell ⟨p, 1, none⟩ (.int .i64 x.n)).setCell ⟨p, 2, none⟩ (.string x.s)).setCell ⟨q, 0, none⟩ (.int .i64 y.type)).setCell ⟨q, 1, none⟩ (.int .i64 y.n)).setCell ⟨q, 2, none⟩ (.string y.s)).drew.cell? ⟨g, o + 1, none⟩ = some (.int .i64 x.n) := by rw [cell_drew, cell_set3 hgq, cell_set3 hgp]; exact k1
  have t2 : (((wc.setCell ⟨p, 0, none⟩ (.int .i64 x.type)).setCell ⟨p, 1, none⟩ (.int .i64 x.n)).setCell ⟨p, 2, none⟩ (.string x.s)).drew.cell? ⟨g, o + 2, none⟩ = some (.string x.s) := by rw [cell_drew, cell_set3 hgp]; exact k2
  have s2 : ((((((wc.setCell ⟨p, 0, none⟩ (.int .i64 x.type)).setCell ⟨p, 1, none⟩ (.int .i64 x.n)).setCell ⟨p, 2, none⟩ (.string x.s)).setCell ⟨q, 0, none⟩ (.int .i64 y.type)).setCell ⟨q, 1, none⟩ (.int .i64 y.n)).setCell ⟨q, 2, none⟩ (.string y.s)).drew.cell? ⟨g, o + 2, none⟩ = some (.string x.s) := by rw [cell_drew, cell_set3 hgq, cell_set3 hgp]; exact k2
  have t3 : (((wc.setCell ⟨p, 0, none⟩ (.int .i64 x.type)).setCell ⟨p, 1, none⟩ (.int .i64 x.n)).setCell ⟨p, 2, none⟩ (.string x.s)).drew.cell? ⟨g, o + 3, none⟩ = some (.int .i64 y.type) := by rw [cell_drew, cell_set3 hgp]; exact k3
  have s3 : ((((((wc.setCell ⟨p, 0, none⟩ (.int .i64 x.type)).setCell ⟨p, 1, none⟩ (.int .i64 x.n)).setCell ⟨p, 2, none⟩ (.string x.s)).setCell ⟨q, 0, none⟩ (.int .i64 y.type)).setCell ⟨q, 1, none⟩ (.int .i64 y.n)).setCell ⟨q, 2, none⟩ (.string y.s)).drew.cell? ⟨g, o + 3, none⟩ = some (.int .i64 y.type) := by rw [cell_drew, cell_set3 hgq, cell_set3 hgp]; exact k3
  have t4 : (((wc.setCell ⟨p, 0, none⟩ (.int .i64 x.type)).setCell ⟨p, 1, none⟩ (.int .i64 x.n)).setCell ⟨p, 2, none⟩ (.string x.s)).drew.cell? ⟨g, o + 3 + 1, none⟩ = some (.int .i64 y.n) := by rw [cell_drew, cell_set3 hgp]; exact k4
  have s4 : ((((((wc.setCell ⟨p, 0, none⟩ (.int .i64 x.type)).setCell ⟨p, 1, none⟩ (.int .i64 x.n)).setCell ⟨p, 2, none⟩ (.string x.s)).setCell ⟨q, 0, none⟩ (.int .i64 y.type)).setCell ⟨q, 1, none⟩ (.int .i64 y.n)).setCell ⟨q, 2, none⟩ (.string y.s)).drew.cell? ⟨g, o + 3 + 1, none⟩ = some (.int .i64 y.n) := by rw [cell_drew, cell_set3 hgq, cell_set3 hgp]; exact k4
  have t5 : (((wc.setCell ⟨p, 0, none⟩ (.int .i64 x.type)).setCell ⟨p, 1, none⟩ (.int .i64 x.n)).setCell ⟨p, 2, none⟩ (.string x.s)).drew.cell? ⟨g, o + 3 + 2, none⟩ = some (.string y.s) := by rw [cell_drew, cell_set3 hgp]; exact k5
  have s5 : ((((((wc.setCell ⟨p, 0, none⟩ (.int .i64 x.type)).setCell ⟨p, 1, none⟩ (.int .i64 x.n)).setCell ⟨p, 2, none⟩ (.string x.s)).setCell ⟨q, 0, none⟩ (.int .i64 y.type)).setCell ⟨q, 1, none⟩ (.int .i64 y.n)).setCell ⟨q, 2, none⟩ (.string y.s)).drew.cell? ⟨g, o + 3 + 2, none⟩ = some (.string y.s) := by rw [cell_drew, cell_set3 hgq, cell_set3 hgp]; exact k5
  go_region_held3 (fun w' => w'.cell? ⟨g, o, none⟩ = some (.int .i64 x.type) ∧ w'.cell? ⟨g, o + 1, none⟩ = some (.int .i64 x.n) ∧ w'.cell? ⟨g, o + 2, none⟩ = some (.string x.s) ∧ w'.cell? ⟨g, o + 3, none⟩ = some (.int .i64 y.type) ∧ w'.cell? ⟨g, o + 3 + 1, none⟩ = some (.int .i64 y.n) ∧ w'.cell? ⟨g, o + 3 + 2, none⟩ = some (.string y.s)) (first | go_keep | exact ⟨t0, t1, t2, t3, t4, t5⟩ | exact ⟨s0, s1, s2, s3, s4, s5⟩) (fail)
  have Op := Lib.hid (show Own3 ((((((wc.setCell ⟨p, 0, none⟩ (.int .i64 x.type)).setCell ⟨p, 1, none⟩ (.int .i64 x.n)).setCell ⟨p, 2, none⟩ (.string x.s)).setCell ⟨q, 0, none⟩ (.int .i64 y.type)).setCell ⟨q, 1, none⟩ (.int .i64 y.n)).setCell ⟨q, 2, none⟩ (.string y.s)).drew p x from (own3_other (own3_set OP.out x.type x.n x.s) hpq _ _ _).drew)
  have Oq := Lib.hid (show Own3 ((((((wc.setCell ⟨p, 0, none⟩ (.int .i64 x.type)).setCell ⟨p, 1, none⟩ (.int .i64 x.n)).setCell ⟨p, 2, none⟩ (.string x.s)).setCell ⟨q, 0, none⟩ (.int .i64 y.type)).setCell ⟨q, 1, none⟩ (.int .i64 y.n)).setCell ⟨q, 2, none⟩ (.string y.s)).drew q y from (own3_set (own3_other OQ.out (Ne.symm hpq) (.int .i64 x.type) (.int .i64 x.n) (.string x.s)) y.type y.n y.s).drew)
  have Oo := Lib.hid (show Own3 ((((((wc.setCell ⟨p, 0, none⟩ (.int .i64 x.type)).setCell ⟨p, 1, none⟩ (.int .i64 x.n)).setCell ⟨p, 2, none⟩ (.string x.s)).setCell ⟨q, 0, none⟩ (.int .i64 y.type)).setCell ⟨q, 1, none⟩ (.int .i64 y.n)).setCell ⟨q, 2, none⟩ (.string y.s)).drew w.heap.size noVal from (own3_other (own3_other OO.out (Nat.ne_of_lt hp) _ _ _) (Nat.ne_of_lt hq) _ _ _).drew)
  have HBc := Lib.hid (show Below w.heap.size w ((((((wc.setCell ⟨p, 0, none⟩ (.int .i64 x.type)).setCell ⟨p, 1, none⟩ (.int .i64 x.n)).setCell ⟨p, 2, none⟩ (.string x.s)).setCell ⟨q, 0, none⟩ (.int .i64 y.type)).setCell ⟨q, 1, none⟩ (.int .i64 y.n)).setCell ⟨q, 2, none⟩ (.string y.s)).drew from (below_set3 (below_set3 HBc0.out (Nat.le_of_lt hp) x.type x.n x.s) (Nat.le_of_lt hq) y.type y.n y.s).drew)
  clear OP OQ OO HBc0 t0 t1 t2 t3 t4 t5 s0 s1 s2 s3 s4 s5 p0 p1 p2 f0 f1 f2 hpl q0 q1 q2 g0 g1 g2 hql k0 k1 k2 k3 k4 k5 hgc
  try rename_i hHeld; clear hHeld
  generalize ((((((wc.setCell ⟨p, 0, none⟩ (.int .i64 x.type)).setCell ⟨p, 1, none⟩ (.int .i64 x.n)).setCell ⟨p, 2, none⟩ (.string x.s)).setCell ⟨q, 0, none⟩ (.int .i64 y.type)).setCell ⟨q, 1, none⟩ (.int .i64 y.n)).setCell ⟨q, 2, none⟩ (.string y.s)).drew = w2 at Op Oq Oo HBc ⊢
  obtain ⟨p0, p1, p2, -, -, -, -⟩ := Op.out.cells
  obtain ⟨q0, q1, q2, -, -, -, -⟩ := Oq.out.cells
  go_wp2_with fail
  refine (reckon_at _ [37] rfl _ _ _ FA.out FB.out).mono ?_
  rintro e w' ⟨rfl, rfl⟩
  rw [HK.out]
  by_cases hk0 : k = 0
  ·subst hk0
   rw [errV_zero]
   go_wp2_with fail
   refine (of_any _ _).mono ?_
   rintro e w3 ⟨rfl, hb3⟩
   have HO3 := Lib.hid (Oo.out.keep hb3)
   have HB3 := Lib.hid (below_step HBc.out hb3)
   clear hb3
   obtain ⟨o0, o1, o2, z0, z1, z2, hlt⟩ := HO3.out.cells
   unfold valV
   go_wp2_with fail
   have HO4 := own3_set HO3.out (ofV (reckonVal [37] (x.n) (y.n))).type (ofV (reckonVal [37] (x.n) (y.n))).n (ofV (reckonVal [37] (x.n) (y.n))).s
   have HB4 := Lib.hid (below_set3 HB3.out (Nat.le_refl _) (ofV (reckonVal [37] (x.n) (y.n))).type (ofV (reckonVal [37] (x.n) (y.n))).n (ofV (reckonVal [37] (x.n) (y.n))).s)
   generalize ((w3.setCell ⟨w.heap.size, 0, none⟩ (.int .i64 (ofV (reckonVal [37] (x.n) (y.n))).type)).setCell ⟨w.heap.size, 1, none⟩ (.int .i64 (ofV (reckonVal [37] (x.n) (y.n))).n)).setCell ⟨w.heap.size, 2, none⟩ (.string (ofV (reckonVal [37] (x.n) (y.n))).s) = w4 at HO4 HB4 ⊢
   clear o0 o1 o2 z0 z1 z2 hlt
   obtain ⟨o0, o1, o2, z0, z1, z2, hlt⟩ := HO4.cells
   exact bodyPost_ret (v := .tuple #[valV (ofV (reckonVal [37] (x.n) (y.n))), errV 0]) (by simp [results, Tryz.results184, go_sem, o0, o1, o2, valV, errV]) rfl ⟨rfl, HB4.out⟩
  ·rw [errV_ne hk0]
   have E := Lib.hid (errV_ne hk0)
   have E2 := Lib.hid (show ∀ n, numV k n = noVal from fun n => if_neg hk0)
   obtain ⟨o0, o1, o2, z0, z1, z2, hlt⟩ := Oo.out.cells
   clear hk0
   go_wp2_with fail
   have HO4 := own3_set Oo.out 0 0 ⟨#[]⟩
   have HB4 := Lib.hid (below_set3 HBc.out (Nat.le_refl _) 0 0 ⟨#[]⟩)
   generalize ((w2.setCell ⟨w.heap.size, 0, none⟩ (.int .i64 0)).setCell ⟨w.heap.size, 1, none⟩ (.int .i64 0)).setCell ⟨w.heap.size, 2, none⟩ (.string ⟨#[]⟩) = w4 at HO4 HB4 ⊢
   clear o0 o1 o2 z0 z1 z2 hlt
   obtain ⟨o0, o1, o2, z0, z1, z2, hlt⟩ := HO4.cells
   refine bodyPost_ret (v := .tuple #[valV noVal, .iface 32 (.int .i64 k)]) (by simp [results, Tryz.results184, go_sem, o0, o1, o2, valV, noVal]) rfl ⟨?_, HB4.out⟩
   rw [E.out, E2.out]
def applyVal (s : ByteArray) (l : List Val) : Val :=
 let x := l.getD 0 noVal; let y := l.getD 1 noVal; let z := l.getD 2 noVal
 if s.data.toList = [111, 114] then truthV (decide (0 < x.n + y.n)) else
 if s.data.toList = [97, 110, 100] then truthV (decide (1 < x.n + y.n)) else
 if s.data.toList = [110, 111, 116] then truthV (x.n == 0) else
 if s.data.toList = [61] then truthV (vorder x y == 0) else
 if s.data.toList = [60, 62] then truthV (vorder x y != 0) else
 if s.data.toList = [60] then truthV (decide (vorder x y < 0)) else
 if s.data.toList = [60, 61] then truthV (decide (vorder x y ≤ 0)) else
 if s.data.toList = [62] then truthV (decide (0 < vorder x y)) else
 if s.data.toList = [62, 61] then truthV (decide (0 ≤ vorder x y)) else
 if s.data.toList = [43] then numV (reckonErr [43] x.n y.n) (reckonVal [43] x.n y.n) else
 if s.data.toList = [45] then numV (reckonErr [45] x.n y.n) (reckonVal [45] x.n y.n) else
 if s.data.toList = [42] then numV (reckonErr [42] x.n y.n) (reckonVal [42] x.n y.n) else
 if s.data.toList = [47] then numV (reckonErr [47] x.n y.n) (reckonVal [47] x.n y.n) else
 if s.data.toList = [37] then numV (reckonErr [37] x.n y.n) (reckonVal [37] x.n y.n) else
 if s.data.toList = [110, 101, 103] then numV (reckonErr [45] 0 x.n) (reckonVal [45] 0 x.n) else
 if s.data.toList = [108, 101, 110] then ofV x.s.size else
 if s.data.toList = [105, 102] then if x.n = 1 then y else z else
 noVal
def applyErr (s : ByteArray) (l : List Val) : Int :=
 let x := l.getD 0 noVal; let y := l.getD 1 noVal
 if s.data.toList = [43] then reckonErr [43] x.n y.n else
 if s.data.toList = [45] then reckonErr [45] x.n y.n else
 if s.data.toList = [42] then reckonErr [42] x.n y.n else
 if s.data.toList = [47] then reckonErr [47] x.n y.n else
 if s.data.toList = [37] then reckonErr [37] x.n y.n else
 if s.data.toList = [110, 101, 103] then reckonErr [45] 0 x.n else
 0
def typesOf (l : List Val) : List Int := l.map (·.type)
theorem bool_of {v : Val} (h : vcheck v = 0) (ht : v.type = 2) : v.n = 0 ∨ v.n = 1 := by
 unfold vcheck at h
 rw [if_neg (by omega), if_pos ht] at h
 by_cases hn : v.n = 0 ∨ v.n = 1
 ·exact hn
 ·rw [if_neg hn] at h; omega
theorem allThe_at {ts : List Int} {t x : Int} (h : allThe ts t = true) (hx : x ∈ ts) : x = t := by
 unfold allThe at h
 rw [Bool.not_eq_true', List.any_eq_false] at h
 have := h x hx
 unfold notThe at this
 simpa using this
theorem sum_fits {a b : Int} (ha : a = 0 ∨ a = 1) (hb : b = 0 ∨ b = 1) : fits (a + b) := by unfold fits lo63 hi63; omega
theorem apply_any (s : ByteArray) (l : List Val) (A : Option Addr) (n c : Nat) (w : World) (hl : SeesVals w A n c l) (ho : isOpB s = true) (hn : (l.length : Int) = arityOf s)
  (hw : ∀ v ∈ l, v.wf) (hc : ∀ v ∈ l, vcheck v = 0) (hf : fitsGrp (grp s) (typesOf l) = true) :
  Calls Tryz.prog 184 #[.string s, .slice A n c] w (ApplySays (applyVal s l) (applyErr s l) w) := by
 have hln := hl.1
 rcases ops_cases ho with rfl | rfl | rfl | rfl | rfl | rfl | rfl | rfl | rfl | rfl | rfl | rfl | rfl | rfl | rfl | rfl | rfl
 ·rw [show arityOf ⟨#[111, 114]⟩ = 2 by decide] at hn
  obtain rfl : n = 2 := by omega
  match l, hn with
  | [x, y], _ =>
   have h2 : allThe (typesOf [x, y]) 2 = true := hf
   exact apply_or [x, y] x y A c w hl rfl rfl (sum_fits (bool_of (hc x (by simp)) (allThe_at h2 (by simp [typesOf]))) (bool_of (hc y (by simp)) (allThe_at h2 (by simp [typesOf]))))
 ·rw [show arityOf ⟨#[97, 110, 100]⟩ = 2 by decide] at hn
  obtain rfl : n = 2 := by omega
  match l, hn with
  | [x, y], _ =>
   have h2 : allThe (typesOf [x, y]) 2 = true := hf
   exact apply_and [x, y] x y A c w hl rfl rfl (sum_fits (bool_of (hc x (by simp)) (allThe_at h2 (by simp [typesOf]))) (bool_of (hc y (by simp)) (allThe_at h2 (by simp [typesOf]))))
 ·rw [show arityOf ⟨#[110, 111, 116]⟩ = 1 by decide] at hn
  obtain rfl : n = 1 := by omega
  match l, hn with
  | [x], _ =>
   exact apply_not [x] x A c w hl rfl
 ·rw [show arityOf ⟨#[61]⟩ = 2 by decide] at hn
  obtain rfl : n = 2 := by omega
  match l, hn with
  | [x, y], _ =>
   exact apply_eq [x, y] x y A c w hl rfl rfl
 ·rw [show arityOf ⟨#[60, 62]⟩ = 2 by decide] at hn
  obtain rfl : n = 2 := by omega
  match l, hn with
  | [x, y], _ =>
   exact apply_ne [x, y] x y A c w hl rfl rfl
 ·rw [show arityOf ⟨#[60]⟩ = 2 by decide] at hn
  obtain rfl : n = 2 := by omega
  match l, hn with
  | [x, y], _ =>
   exact apply_lt [x, y] x y A c w hl rfl rfl
 ·rw [show arityOf ⟨#[60, 61]⟩ = 2 by decide] at hn
  obtain rfl : n = 2 := by omega
  match l, hn with
  | [x, y], _ =>
   exact apply_le [x, y] x y A c w hl rfl rfl
 ·rw [show arityOf ⟨#[62]⟩ = 2 by decide] at hn
  obtain rfl : n = 2 := by omega
  match l, hn with
  | [x, y], _ =>
   exact apply_gt [x, y] x y A c w hl rfl rfl
 ·rw [show arityOf ⟨#[62, 61]⟩ = 2 by decide] at hn
  obtain rfl : n = 2 := by omega
  match l, hn with
  | [x, y], _ =>
   exact apply_ge [x, y] x y A c w hl rfl rfl
 ·rw [show arityOf ⟨#[43]⟩ = 2 by decide] at hn
  obtain rfl : n = 2 := by omega
  match l, hn with
  | [x, y], _ =>
   exact apply_add [x, y] x y A c w hl rfl rfl (hw x (by simp)).2.1 (hw y (by simp)).2.1
 ·rw [show arityOf ⟨#[45]⟩ = 2 by decide] at hn
  obtain rfl : n = 2 := by omega
  match l, hn with
  | [x, y], _ =>
   exact apply_sub [x, y] x y A c w hl rfl rfl (hw x (by simp)).2.1 (hw y (by simp)).2.1
 ·rw [show arityOf ⟨#[42]⟩ = 2 by decide] at hn
  obtain rfl : n = 2 := by omega
  match l, hn with
  | [x, y], _ =>
   exact apply_mul [x, y] x y A c w hl rfl rfl (hw x (by simp)).2.1 (hw y (by simp)).2.1
 ·rw [show arityOf ⟨#[47]⟩ = 2 by decide] at hn
  obtain rfl : n = 2 := by omega
  match l, hn with
  | [x, y], _ =>
   exact apply_div [x, y] x y A c w hl rfl rfl (hw x (by simp)).2.1 (hw y (by simp)).2.1
 ·rw [show arityOf ⟨#[37]⟩ = 2 by decide] at hn
  obtain rfl : n = 2 := by omega
  match l, hn with
  | [x, y], _ =>
   exact apply_rem [x, y] x y A c w hl rfl rfl (hw x (by simp)).2.1 (hw y (by simp)).2.1
 ·rw [show arityOf ⟨#[110, 101, 103]⟩ = 1 by decide] at hn
  obtain rfl : n = 1 := by omega
  match l, hn with
  | [x], _ =>
   exact apply_neg [x] x A c w hl rfl (by decide) (hw x (by simp)).2.1
 ·rw [show arityOf ⟨#[108, 101, 110]⟩ = 1 by decide] at hn
  obtain rfl : n = 1 := by omega
  match l, hn with
  | [x], _ =>
   exact apply_len [x] x A c w hl rfl
 ·rw [show arityOf ⟨#[105, 102]⟩ = 3 by decide] at hn
  obtain rfl : n = 3 := by omega
  match l, hn with
  | [x, y, z], _ =>
   by_cases hx : x.n = 1
   ·rw [show applyVal ⟨#[105, 102]⟩ [x, y, z] = y from if_pos hx]
    exact apply_if_yes [x, y, z] x y z A c w hl rfl rfl rfl hx
   ·rw [show applyVal ⟨#[105, 102]⟩ [x, y, z] = z from if_neg hx]
    exact apply_if_no [x, y, z] x y z A c w hl rfl rfl rfl hx
end Go.Proofs.YtpbbkpfaphjdoaaGreatDoor
