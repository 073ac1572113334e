/- query.typed and query.told, walked. -/
import Derived.Test.YtpbbkpfaphjdoaaGreatDoorSQryShape
import Derived.Test.YtpbbkpfaphjdoaaGreatDoorSKindOf
import Derived.Test.YtpbbkpfaphjdoaaGreatDoorSSameEx
namespace Go.Proofs.YtpbbkpfaphjdoaaGreatDoor
open Go.ChangeShapes Go.WideShapes Go.ChangeAt Go.RowKit
def typedQ (l : List Col) (e : Ex) (t : Int) : Int × Int := if (typeOf l e).h ≠ 0 then (0, (typeOf l e).h) else if t ≠ 0 ∧ (typeOf l e).t ≠ t then (0, 8) else ((typeOf l e).t, 0)
set_option maxHeartbeats 1000000 in
set_option maxRecDepth 100000 in
theorem typed_any (e : Ex) (C : Option Addr) (p q : Nat) (l : List Col) (t : Int) (w : World) (hT : Tables w) (hC : SeesCols w C p q l) (hs : ∀ x ∈ l, x.name.size ≤ maxLen) (he : SeesEx w e) :
  Calls Tryz.prog 49 #[exV e, .slice C p q, .int .i64 t] w fun r w' => r = .returned (.tuple #[.int .i64 (typedQ l e t).1, errV (typedQ l e t).2]) ∧ Below w.heap.size w w' := by
 have T1 := Lib.hid (fun w0 (hb : Below w.heap.size w w0) => typeOf_any e C p q l w0 (hT.keep hb) (hC.keep hb) hs (he.keep hb))
 obtain ⟨w0, hw0⟩ : ∃ w0, w.alloc (.cells #[.string e.op, .string e.name, .int .i64 e.val.type, .int .i64 e.val.n, .string e.val.s, .slice e.A e.args.length e.c, .int .i64 e.pos] 26) = w0 := ⟨_, rfl⟩
 have hb0 : Below w.heap.size w w0 := by rw [← hw0]; exact belowNew' _ _
 have ho0 : Own7 w0 w.heap.size e := by rw [← hw0]; exact own7_new _ _
 obtain ⟨e0, e1, e2, e3, e4, e5, e6⟩ := ho0.cells
 have hl0 := ho0.lt
 have T2 := Lib.hid (T1.out w0 hb0)
 have HB0 := Lib.hid hb0
 have HW0 := Lib.hid hw0
 clear hw0 hb0 ho0 hT hC hs he T1
 unfold exV at T2
 have E := Lib.hid (show typedQ l e t = if (typeOf l e).h ≠ 0 then (0, (typeOf l e).h) else if t ≠ 0 ∧ (typeOf l e).t ≠ t then (0, 8) else ((typeOf l e).t, 0) from rfl)
 generalize typedQ l e t = R at E ⊢
 generalize typeOf l e = r at T2 E
 unfold exV
 go_enter Tryz.func49, Tryz.ntmps49
 go_wp2_with (first | rw [HW0.out])
 refine (T2.out).mono ?_
 rintro e' w1 ⟨rfl, hb1⟩
 clear e0 e1 e2 e3 e4 e5 e6
 unfold resV
 obtain ⟨w2, hw2⟩ : ∃ w2, w1.alloc (.cells #[.int .i64 r.h, .int .i64 r.p] 34) = w2 := ⟨_, rfl⟩
 have hb2 : Below w1.heap.size w1 w2 := by rw [← hw2]; exact belowNew' _ _
 have ho2 : Own2F w2 w1.heap.size r.h r.p := by rw [← hw2]; exact own2f_new w1 _ _
 obtain ⟨c0, c1⟩ := ho2.cells
 have hl2 := ho2.lt
 have HW2 := Lib.hid hw2
 have HBZ := Lib.hid (below_step (below_step HB0.out hb1) hb2)
 clear hw2 hb1 hb2 ho2
 by_cases hh : r.h = 0
 ·by_cases ht : t = 0
  ·subst ht
   have ER := Lib.hid (E.out.trans ((if_neg (fun h => h hh)).trans (if_neg (fun h => h.1 rfl))))
   have hh2 : (r.h != 0) = false := by simpa using hh
   clear hh E
   go_wp2_with (first | rw [HW2.out])
   go_ret2
   exact ⟨by rw [ER.out]; rfl, HBZ.out⟩
  ·have ht2 : (t != 0) = true := by simpa using ht
   by_cases hx : r.t = t
   ·have ER := Lib.hid (E.out.trans ((if_neg (fun h => h hh)).trans (if_neg (fun h => h.2 hx))))
    have hh2 : (r.h != 0) = false := by simpa using hh
    have hx2 : (r.t != t) = false := by simpa using hx
    clear hh E ht hx
    go_wp2_with (first | rw [HW2.out])
    go_ret2
    exact ⟨by rw [ER.out]; rfl, HBZ.out⟩
   ·have ER := Lib.hid (E.out.trans ((if_neg (fun h => h hh)).trans (if_pos ⟨ht, hx⟩)))
    have hh2 : (r.h != 0) = false := by simpa using hh
    have hx2 : (r.t != t) = true := by simpa using hx
    clear hh E ht hx
    go_wp2_with (first | rw [HW2.out])
    go_ret2
    exact ⟨by rw [ER.out]; rfl, HBZ.out⟩
 ·have ER := Lib.hid (E.out.trans (if_pos hh))
  have hh2 : (r.h != 0) = true := by simpa using hh
  have HH := Lib.hid hh
  clear hh E
  go_wp2_with (first | rw [HW2.out])
  go_quiet (fail)
  go_wp2_with fail
  go_ret2
  exact ⟨by rw [ER.out]; show Ending.returned (.tuple #[.int .i64 0, .iface 32 (.int .i64 r.h)]) = Ending.returned (.tuple #[.int .i64 0, errV r.h]); rw [errV_ne HH.out], below_drewN HBZ.out nq⟩
theorem zeroX_sees (w : World) : SeesEx w zeroE := .mk (Sees.nil w 7) (Nat.zero_le _) (Nat.zero_le _) ⟨show fits 0 by decide, show fits 0 by decide, Nat.zero_le _⟩ (show fits 0 by decide) (fun a h => by cases h)
def cntQ (s : ByteArray) : Bool := s.toList == [99, 111, 117, 110, 116]
def sumQ (s : ByteArray) : Bool := s.toList == [115, 117, 109]
def toldQ (l : List Col) (a : AggX) : Col × Int :=
 if aggWord a.what = false then (⟨a.name, 1⟩, 2) else if cntQ a.what = true then (⟨a.name, 1⟩, if exSame a.of zeroE = true then 0 else 3)
 else (⟨a.name, (typedQ l a.of (if sumQ a.what = true then 1 else 0)).1⟩, (typedQ l a.of (if sumQ a.what = true then 1 else 0)).2)
def colV (c : Col) : Value := .agg #[.string c.name, .int .i64 c.type]
theorem built_colQ (s : ByteArray) : Tryz.prog.built 103 [(0, Value.string s), (1, .int .i64 1)] = some #[.string s, .int .i64 1] := by kernel_rfl
theorem run_colQ (s : ByteArray) (w : World) : (Instr.build 103 #[(0, .string s), (1, .int .i64 1)]).run Tryz.prog w = .ok (.agg #[.string s, .int .i64 1]) w :=
 run_build w _ _ _ (built_colQ s)
set_option maxHeartbeats 4000000 in
set_option maxRecDepth 100000 in
theorem toldq_any (a : AggX) (C : Option Addr) (p q : Nat) (l : List Col) (w : World) (hT : Tables w) (hA : AggsT w) (hC : SeesCols w C p q l) (hs : ∀ x ∈ l, x.name.size ≤ maxLen) (ha : SeesEx w a.of) :
  Calls Tryz.prog 121 #[aggXV a, .slice C p q] w fun r w' => r = .returned (.tuple #[colV (toldQ l a).1, errV (toldQ l a).2]) ∧ Below w.heap.size w w' := by
 obtain ⟨w0, hw0⟩ : ∃ w0, w.alloc (.cells #[.string a.what, .string a.of.op, .string a.of.name, .int .i64 a.of.val.type, .int .i64 a.of.val.n, .string a.of.val.s, .slice a.of.A a.of.args.length a.of.c, .int .i64 a.of.pos, .string a.name] 99) = w0 := ⟨_, rfl⟩
 have hb0 : Below w.heap.size w w0 := by rw [← hw0]; exact belowNew' _ _
 have ho0 : RowL w0 w.heap.size 99 (aggXL a) := by rw [← hw0]; exact rowL_new w _ (aggXL a)
 obtain ⟨w1, hw1⟩ : ∃ w1, w0.alloc (.cells #[.string ⟨#[]⟩, .int .i64 0] 103) = w1 := ⟨_, rfl⟩
 have hb1 : Below w0.heap.size w0 w1 := by rw [← hw1]; exact belowNew' _ _
 have ho1 : RowL w1 w0.heap.size 103 (colCells ⟨⟨#[]⟩, 0⟩) := by rw [← hw1]; exact rowL_new w0 _ (colCells ⟨⟨#[]⟩, 0⟩)
 obtain ⟨w2, hw2⟩ : ∃ w2, w1.alloc (.cells #[.string a.name, .int .i64 1] 103) = w2 := ⟨_, rfl⟩
 have hb2 : Below w1.heap.size w1 w2 := by rw [← hw2]; exact belowNew' _ _
 have ho2 : RowL w2 w1.heap.size 103 (colCells ⟨a.name, 1⟩) := by rw [← hw2]; exact rowL_new w1 _ (colCells ⟨a.name, 1⟩)
 have HSZ := Lib.hid (show w.heap.size < w0.heap.size ∧ w0.heap.size < w1.heap.size ∧ w1.heap.size < w2.heap.size from ⟨ho0.lt, ho1.lt, ho2.lt⟩)
 have HB1 := Lib.hid (below_step hb0 hb1)
 have HB2 := Lib.hid (below_step (below_step hb0 hb1) hb2)
 have hr0 := (ho0.keep hb1)
 have c10 : w1.cell? ⟨w.heap.size, 8, none⟩ = some (.string a.name) := hr0.cell rfl
 have hr := hr0.keep hb2
 have c0 : w2.cell? ⟨w.heap.size, 0, none⟩ = some (.string a.what) := hr.cell rfl
 have c1 : w2.cell? ⟨w.heap.size, 1, none⟩ = some (.string a.of.op) := hr.cell rfl
 have c2 : w2.cell? ⟨w.heap.size, 2, none⟩ = some (.string a.of.name) := hr.cell rfl
 have c3 : w2.cell? ⟨w.heap.size, 3, none⟩ = some (.int .i64 a.of.val.type) := hr.cell rfl
 have c4 : w2.cell? ⟨w.heap.size, 4, none⟩ = some (.int .i64 a.of.val.n) := hr.cell rfl
 have c5 : w2.cell? ⟨w.heap.size, 5, none⟩ = some (.string a.of.val.s) := hr.cell rfl
 have c6 : w2.cell? ⟨w.heap.size, 6, none⟩ = some (.slice a.of.A a.of.args.length a.of.c) := hr.cell rfl
 have c7 : w2.cell? ⟨w.heap.size, 7, none⟩ = some (.int .i64 a.of.pos) := hr.cell rfl
 have d0 : w2.cell? ⟨w1.heap.size, 0, none⟩ = some (.string a.name) := ho2.cell rfl
 have d1 : w2.cell? ⟨w1.heap.size, 1, none⟩ = some (.int .i64 1) := ho2.cell rfl
 have hlr := hr.lt
 have hld := ho2.lt
 have hlq := hr0.lt
 have HOE := Lib.hid ho2
 have HRA := Lib.hid hr
 have HO1 := Lib.hid (ho1.keep hb2)
 have HN2 := Lib.hid (Only.of_below (S := fun _ => False) HB2.out)
 have TA := Lib.hid (qagg_any a.what w2 (hA.keep HB2.out))
 have TS := Lib.hid (show Calls Tryz.prog 28 #[.agg #[.string a.of.op, .string a.of.name, .int .i64 a.of.val.type, .int .i64 a.of.val.n, .string a.of.val.s, .slice a.of.A a.of.args.length a.of.c, .int .i64 a.of.pos], .agg #[.string ⟨#[]⟩, .string ⟨#[]⟩, .int .i64 0, .int .i64 0, .string ⟨#[]⟩, .slice none 0 0, .int .i64 0]] w2 (fun e w' => e = .returned (.bool (exSame a.of zeroE)) ∧ Below w2.heap.size w2 w') from (like_any (SizeOf.sizeOf a.of)) a.of zeroE (Nat.le_refl _) w2 (ha.keep HB2.out) (zeroX_sees w2))
 have TY := Lib.hid (fun t : Int => typed_any a.of C p q l t w2 (hT.keep HB2.out) (hC.keep HB2.out) hs (ha.keep HB2.out))
 have BC := Lib.hid (fun w' => run_colQ a.name w')
 have HW0 := Lib.hid hw0
 have HW1 := Lib.hid hw1
 have HW2 := Lib.hid hw2
 clear hT hA hC hs ha hw0 hw1 hw2 hb0 hb1 hb2 ho0 ho1 ho2 hr0 hr
 unfold exV at TY
 have bz := run_zero w2
 have bc := run_colQ a.name w1
 have E := Lib.hid (show toldQ l a = if aggWord a.what = false then (⟨a.name, 1⟩, 2) else if cntQ a.what = true then (⟨a.name, 1⟩, if exSame a.of zeroE = true then 0 else 3)
  else (⟨a.name, (typedQ l a.of (if sumQ a.what = true then 1 else 0)).1⟩, (typedQ l a.of (if sumQ a.what = true then 1 else 0)).2) from rfl)
 generalize toldQ l a = R at E ⊢
 obtain ⟨tx, htx⟩ : ∃ tx, a.what = tx := ⟨_, rfl⟩
 unfold aggXV
 rw [htx] at HW0 c0 TA E ⊢
 have HTX := Lib.hid htx
 clear htx
 generalize aggWord tx = g1 at TA E
 obtain ⟨g2, hg2⟩ : ∃ g, cntQ tx = g := ⟨_, rfl⟩
 obtain ⟨g3, hg3⟩ : ∃ g, sumQ tx = g := ⟨_, rfl⟩
 rw [hg2, hg3] at E
 unfold cntQ at hg2
 unfold sumQ at hg3
 generalize exSame a.of zeroE = g4 at TS E
 go_enter Tryz.func121, Tryz.ntmps121
 go_wp2_with (first | rw [HW0.out] | rw [HW1.out] | rw [HW2.out])
 refine (TA.out).mono ?_
 rintro e' w3 ⟨rfl, rfl⟩
 cases g1 with
 | false =>
  replace E := Lib.hid (E.out.trans (if_pos rfl))
  go_wp2_with (first
   | (refine wpList_storeL rfl 103 (.tmp 4) (.tmp 17) rfl (n := colCells ⟨a.name, 1⟩) HO1.out rfl (by rfl) (by kernel_rfl) rfl (by rfl) ?_; intro wl hzl hol; have HZL := Lib.hid hzl; have HOL := Lib.hid hol; clear hzl hol))
  have o0 : wl.cell? ⟨w0.heap.size, 0, none⟩ = some (.string a.name) := HZL.out.cell rfl
  have o1 : wl.cell? ⟨w0.heap.size, 1, none⟩ = some (.int .i64 1) := HZL.out.cell rfl
  refine bodyPost_ret (v := .tuple #[.agg #[.string a.name, .int .i64 1], errV 2]) ?_ rfl ?_
  ·simp [results, Tryz.results121, go_sem, o0, o1, errV]
  ·exact ⟨by rw [E.out]; rfl, (HN2.out.then_new HOL.out (Nat.le_of_lt HSZ.out.1)).below (Nat.le_refl _) (fun _ e => e.elim)⟩
 | true =>
  replace E := Lib.hid (E.out.trans (if_neg (by decide)))
  cases g2 with
  | true =>
   replace E := Lib.hid (E.out.trans (if_pos rfl))
   go_wp2_with fail
   refine (TS.out).mono ?_
   rintro e' w4 ⟨rfl, hb4⟩
   have HN4 := Lib.hid (HN2.out.trans (.of_below hb4))
   have hre := HOE.out.keep hb4
   have f0 : w4.cell? ⟨w1.heap.size, 0, none⟩ = some (.string a.name) := hre.cell rfl
   have f1 : w4.cell? ⟨w1.heap.size, 1, none⟩ = some (.int .i64 1) := hre.cell rfl
   have hra := HRA.out.keep hb4
   have k0 : w4.cell? ⟨w.heap.size, 0, none⟩ = some (.string tx) := by rw [← HTX.out]; exact hra.cell rfl
   have hlf := hre.lt
   replace HO1 := Lib.hid (HO1.out.keep hb4)
   clear hre hra hb4 c0 c1 c2 c3 c4 c5 c6 c7 d0 d1 c10 bz bc hlr hld hlq
   cases g4 with
   | false =>
    replace E := Lib.hid (E.out.trans (show _ = ((⟨a.name, 1⟩ : Col), (3 : Int)) from rfl))
    go_wp2_with (first
     | (refine wpList_storeL rfl 103 (.tmp 4) (.tmp 30) rfl (n := colCells ⟨a.name, 1⟩) HO1.out rfl (by rfl) (by kernel_rfl) rfl (by rfl) ?_; intro wl hzl hol; have HZL := Lib.hid hzl; have HOL := Lib.hid hol; clear hzl hol))
    have o0 : wl.cell? ⟨w0.heap.size, 0, none⟩ = some (.string a.name) := HZL.out.cell rfl
    have o1 : wl.cell? ⟨w0.heap.size, 1, none⟩ = some (.int .i64 1) := HZL.out.cell rfl
    refine bodyPost_ret (v := .tuple #[.agg #[.string a.name, .int .i64 1], errV 3]) ?_ rfl ?_
    ·simp [results, Tryz.results121, go_sem, o0, o1, errV]
    ·exact ⟨by rw [E.out]; rfl, (HN4.out.then_new HOL.out (Nat.le_of_lt HSZ.out.1)).below (Nat.le_refl _) (fun _ e => e.elim)⟩
   | true =>
    replace E := Lib.hid (E.out.trans (show _ = ((⟨a.name, 1⟩ : Col), (0 : Int)) from rfl))
    go_wp2_with (first
     | (refine wpList_storeL rfl 103 (.tmp 4) (.tmp 36) rfl (n := colCells ⟨a.name, 1⟩) HO1.out rfl (by rfl) (by kernel_rfl) rfl (by rfl) ?_; intro wl hzl hol; have HZL := Lib.hid hzl; have HOL := Lib.hid hol; clear hzl hol))
    have o0 : wl.cell? ⟨w0.heap.size, 0, none⟩ = some (.string a.name) := HZL.out.cell rfl
    have o1 : wl.cell? ⟨w0.heap.size, 1, none⟩ = some (.int .i64 1) := HZL.out.cell rfl
    refine bodyPost_ret (v := .tuple #[.agg #[.string a.name, .int .i64 1], errV 0]) ?_ rfl ?_
    ·simp [results, Tryz.results121, go_sem, o0, o1, errV]
    ·exact ⟨by rw [E.out]; rfl, (HN4.out.then_new HOL.out (Nat.le_of_lt HSZ.out.1)).below (Nat.le_refl _) (fun _ e => e.elim)⟩
  | false =>
   replace E := Lib.hid (E.out.trans (if_neg (by decide)))
   cases g3 with
   | true =>
    replace E := Lib.hid (E.out.trans (show _ = ((⟨a.name, (typedQ l a.of 1).1⟩ : Col), (typedQ l a.of 1).2) from rfl))
    have TZ := Lib.hid (TY.out 1)
    clear TY
    generalize typedQ l a.of 1 = r at TZ E
    go_wp2_with fail
    refine (TZ.out).mono ?_
    rintro e' w4 ⟨rfl, hb4⟩
    have hre := HOE.out.keep hb4
    have ff := hre.free 1
    obtain ⟨w5, hw5⟩ : ∃ w5, w4.setCell ⟨w1.heap.size, 1, none⟩ (.int .i64 r.1) = w5 := ⟨_, rfl⟩
    have hp5 : RowL w5 w1.heap.size 103 (colCells ⟨a.name, r.1⟩) := by rw [← hw5]; exact hre.set 1 (.int .i64 r.1)
    have hn5 : Only (fun k => k = w1.heap.size) w4 w5 := by rw [← hw5]; exact (Only.refl (fun k => k = w1.heap.size) w4).setCell (p := ⟨w1.heap.size, 1, none⟩) rfl _
    have f0 : w4.cell? ⟨w1.heap.size, 0, none⟩ = some (.string a.name) := hre.cell rfl
    have f1 : w4.cell? ⟨w1.heap.size, 1, none⟩ = some (.int .i64 1) := hre.cell rfl
    have hlf := hre.lt
    have m0 : w5.cell? ⟨w1.heap.size, 0, none⟩ = some (.string a.name) := hp5.cell rfl
    have m1 : w5.cell? ⟨w1.heap.size, 1, none⟩ = some (.int .i64 r.1) := hp5.cell rfl
    have hl5 := hp5.lt
    replace HO1 := Lib.hid ((HO1.out.keep hb4).only hn5 (fun e => by have := HSZ.out; have e' : w0.heap.size = w1.heap.size := e; omega))
    have HN5 := Lib.hid ((HN2.out.trans (.of_below hb4)).then_new hn5 (Nat.le_of_lt (Nat.lt_trans HSZ.out.1 HSZ.out.2.1)))
    have HW5 := Lib.hid hw5
    clear hre hp5 hn5 hw5 hb4 c0 c1 c2 c3 c4 c5 c6 c7 d0 d1 c10 bz bc hlr hld hlq
    go_wp2_with (first
     | rw [HW5.out]
     | (refine wpList_storeL rfl 103 (.tmp 4) (.tmp 49) rfl (n := colCells ⟨a.name, r.1⟩) HO1.out rfl (by rfl) (by kernel_rfl) rfl (by rfl) ?_; intro wl hzl hol; have HZL := Lib.hid hzl; have HOL := Lib.hid hol; clear hzl hol))
    have o0 : wl.cell? ⟨w0.heap.size, 0, none⟩ = some (.string a.name) := HZL.out.cell rfl
    have o1 : wl.cell? ⟨w0.heap.size, 1, none⟩ = some (.int .i64 r.1) := HZL.out.cell rfl
    refine bodyPost_ret (v := .tuple #[.agg #[.string a.name, .int .i64 r.1], errV r.2]) ?_ rfl ?_
    ·simp [results, Tryz.results121, go_sem, o0, o1]
    ·exact ⟨by rw [E.out]; rfl, (HN5.out.then_new HOL.out (Nat.le_of_lt HSZ.out.1)).below (Nat.le_refl _) (fun _ e => e.elim)⟩
   | false =>
    replace E := Lib.hid (E.out.trans (show _ = ((⟨a.name, (typedQ l a.of 0).1⟩ : Col), (typedQ l a.of 0).2) from rfl))
    have TZ := Lib.hid (TY.out 0)
    clear TY
    generalize typedQ l a.of 0 = r at TZ E
    go_wp2_with fail
    refine (TZ.out).mono ?_
    rintro e' w4 ⟨rfl, hb4⟩
    have hre := HOE.out.keep hb4
    have ff := hre.free 1
    obtain ⟨w5, hw5⟩ : ∃ w5, w4.setCell ⟨w1.heap.size, 1, none⟩ (.int .i64 r.1) = w5 := ⟨_, rfl⟩
    have hp5 : RowL w5 w1.heap.size 103 (colCells ⟨a.name, r.1⟩) := by rw [← hw5]; exact hre.set 1 (.int .i64 r.1)
    have hn5 : Only (fun k => k = w1.heap.size) w4 w5 := by rw [← hw5]; exact (Only.refl (fun k => k = w1.heap.size) w4).setCell (p := ⟨w1.heap.size, 1, none⟩) rfl _
    have f0 : w4.cell? ⟨w1.heap.size, 0, none⟩ = some (.string a.name) := hre.cell rfl
    have f1 : w4.cell? ⟨w1.heap.size, 1, none⟩ = some (.int .i64 1) := hre.cell rfl
    have hlf := hre.lt
    have m0 : w5.cell? ⟨w1.heap.size, 0, none⟩ = some (.string a.name) := hp5.cell rfl
    have m1 : w5.cell? ⟨w1.heap.size, 1, none⟩ = some (.int .i64 r.1) := hp5.cell rfl
    have hl5 := hp5.lt
    replace HO1 := Lib.hid ((HO1.out.keep hb4).only hn5 (fun e => by have := HSZ.out; have e' : w0.heap.size = w1.heap.size := e; omega))
    have HN5 := Lib.hid ((HN2.out.trans (.of_below hb4)).then_new hn5 (Nat.le_of_lt (Nat.lt_trans HSZ.out.1 HSZ.out.2.1)))
    have HW5 := Lib.hid hw5
    clear hre hp5 hn5 hw5 hb4 c0 c1 c2 c3 c4 c5 c6 c7 d0 d1 c10 bz bc hlr hld hlq
    go_wp2_with (first
     | rw [HW5.out]
     | (refine wpList_storeL rfl 103 (.tmp 4) (.tmp 49) rfl (n := colCells ⟨a.name, r.1⟩) HO1.out rfl (by rfl) (by kernel_rfl) rfl (by rfl) ?_; intro wl hzl hol; have HZL := Lib.hid hzl; have HOL := Lib.hid hol; clear hzl hol))
    have o0 : wl.cell? ⟨w0.heap.size, 0, none⟩ = some (.string a.name) := HZL.out.cell rfl
    have o1 : wl.cell? ⟨w0.heap.size, 1, none⟩ = some (.int .i64 r.1) := HZL.out.cell rfl
    refine bodyPost_ret (v := .tuple #[.agg #[.string a.name, .int .i64 r.1], errV r.2]) ?_ rfl ?_
    ·simp [results, Tryz.results121, go_sem, o0, o1]
    ·exact ⟨by rw [E.out]; rfl, (HN5.out.then_new HOL.out (Nat.le_of_lt HSZ.out.1)).below (Nat.le_refl _) (fun _ e => e.elim)⟩
end Go.Proofs.YtpbbkpfaphjdoaaGreatDoor
