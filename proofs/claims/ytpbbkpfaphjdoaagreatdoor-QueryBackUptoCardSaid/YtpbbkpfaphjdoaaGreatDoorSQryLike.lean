/- sluicesame.Query, walked, over two queries that are the same but for At. -/
import Derived.Test.YtpbbkpfaphjdoaaGreatDoorSQrySame
import Derived.Test.YtpbbkpfaphjdoaaGreatDoorSQryPrint
import Derived.StillTailTactics
namespace Go.Proofs.YtpbbkpfaphjdoaaGreatDoor
open Go.ChangeShapes Go.WideShapes Go.ChangeAt Go.RowKit
set_option maxHeartbeats 1000000 in
theorem textsQ_any (zs : List ByteArray) (A B : Option Addr) (n c d : Nat) (w : World) (hA : Sees w A n c 1 (strCells zs)) (hB : Sees w B n d 1 (strCells zs)) :
  Calls Tryz.prog 25 #[.slice A n c, .slice B n d] w fun e w' => e = .returned (.bool true) ∧ Below w.heap.size w w' := by
 have HA := Lib.hid hA
 have HB := Lib.hid hB
 have h1 := hA.2.1
 have h2 := hA.2.2.1
 have h3 := hB.2.1
 have h4 := hB.2.2.1
 unfold maxLen at h2 h4
 clear hA hB
 go_enter Tryz.func25, Tryz.ntmps25
 go_wp2_with fail
 go_loopw [4, 5] (fun _ i wr => ∃ k : Nat, k ≤ n ∧ i = .int .i64 k ∧ Below w.heap.size w wr) (fun _ i _ => n - (intOf i).toNat)
 case atStart => exact ⟨0, by omega, rfl, Below.refl _ _⟩
 case round =>
  obtain ⟨k, hk, rfl, hb⟩ := hrel
  have HBR := Lib.hid hb
  by_cases hlk : k < n
  ·obtain ⟨g, o, z, rfl, -, hz, c1⟩ := strAt (HA.out.keep hb) hlk
   obtain ⟨g2, o2, z2, rfl, -, hz2, c2⟩ := strAt (HB.out.keep hb) hlk
   obtain rfl : z2 = z := by have := hz2.symm.trans hz; injection this
   clear hb hz hz2
   go_wp2_with fail
   go_quiet (fail)
   have HBZ := Lib.hid (below_drewN HBR.out nq)
   generalize wr.drewN nq = wz at HBZ ⊢
   go_wp2_with fail
   go_roundw
   case rel => exact ⟨k + 1, by omega, by go_num, HBZ.out⟩
   case measure => simp [intOf]; omega
  ·obtain rfl : n = k := by omega
   clear hb
   go_wp2_with fail
   go_ret
   exact ⟨rfl, HBR.out⟩
theorem strsL_inj : ∀ {a b : List ByteArray}, strsL a = strsL b → a = b
 | [], [], _ => rfl
 | [], _ :: _, h => by cases h
 | _ :: _, [], h => by cases h
 | a :: l, b :: m, h => by
  unfold strsL at h
  rw [List.map_cons, List.map_cons] at h
  injection h with h1 h2
  rw [strsL_inj (a := l) (b := m) h2, Go.WideShapes.bytes_inj h1]
theorem exSames_at : ∀ {l m : List Ex} {k : Nat} {a b : Ex}, exSames l m = true → l[k]? = some a → m[k]? = some b → exSame a b = true
 | [], _, _, _, _, _, h, _ => by simp at h
 | _ :: _, [], _, _, _, _, _, h => by simp at h
 | x :: l, y :: m, 0, a, b, h, h1, h2 => by
  rw [exSames, Bool.and_eq_true] at h
  simp at h1 h2
  rw [← h1, ← h2]; exact h.1
 | x :: l, y :: m, k + 1, a, b, h, h1, h2 => by
  rw [exSames, Bool.and_eq_true] at h
  exact exSames_at h.2 (by simpa using h1) (by simpa using h2)
theorem aggsSb_at : ∀ {l m : List AggX} {k : Nat} {a b : AggX}, aggsSb l m = true → l[k]? = some a → m[k]? = some b → aggSameB a b = true
 | [], _, _, _, _, _, h, _ => by simp at h
 | _ :: _, [], _, _, _, _, _, h => by simp at h
 | x :: l, y :: m, 0, a, b, h, h1, h2 => by
  rw [aggsSb, Bool.and_eq_true] at h
  simp at h1 h2
  rw [← h1, ← h2]; exact h.1
 | x :: l, y :: m, k + 1, a, b, h, h1, h2 => by
  rw [aggsSb, Bool.and_eq_true] at h
  exact aggsSb_at h.2 (by simpa using h1) (by simpa using h2)
theorem aggsSb_length {l m : List AggX} (h : aggsSb l m = true) : l.length = m.length := by
 by_cases e : l.length = m.length
 ·exact e
 ·rw [aggsSb_len l m e] at h; cases h
set_option maxHeartbeats 16000000 in
set_option maxRecDepth 100000 in
theorem likeQ_any (x y : QX) (w : World) (hx : SeesQ (fun _ => True) w x) (hy : SeesQ (fun _ => True) w y) (hs : QSame (qpX x) (qpX y)) : Calls Tryz.prog 10 #[qxV x, qxV y, .bool false] w fun e w' => e = .returned (.bool true) ∧ Below w.heap.size w w' := by
 obtain ⟨w1, hw1, ho1, hb1⟩ := box_q w x
 obtain ⟨w2, hw2, ho2, hb2⟩ := box_q w1 y
 have HB2 := Lib.hid (below_step hb1 hb2)
 have HO1 := Lib.hid (ho1.keep hb2)
 have HO2 := Lib.hid ho2
 have HX := Lib.hid (hx.keep (.of_below HB2.out))
 have HY := Lib.hid (hy.keep (.of_below HB2.out))
 have hex : ∀ (q : QX), SeesQ (fun _ => True) w2 q → SeesEx w2 (.mk ⟨#[]⟩ ⟨#[]⟩ noVal q.CA q.cc q.cols 0) := fun q hq => .mk hq.cols.1 (Nat.zero_le _) (Nat.zero_le _) ⟨show fits 0 by decide, show fits 0 by decide, Nat.zero_le _⟩ (show fits 0 by decide) (fun x hx => (hq.colsAt x hx).see)
 have HEX := Lib.hid (hex x HX.out)
 have HEY := Lib.hid (hex y HY.out)
 have hb := (sameQB_iff x y).2 hs
 unfold sameQB at hb
 simp only [Bool.and_eq_true] at hb
 obtain ⟨g0, g1, g2, g3, g4, g5, g6, g7⟩ := hb
 have hnm : x.names = y.names := strsL_inj (eq_of_beq g5)
 have hgr : x.group = y.group := strsL_inj (eq_of_beq g6)
 have T1 := Lib.hid (fun w' (hb : Below w2.heap.size w2 w') => show Calls Tryz.prog 25 #[.slice x.NA x.names.length x.nc, .slice y.NA y.names.length y.nc] w' (fun e w'' => e = .returned (.bool true) ∧ Below w'.heap.size w' w'') by
  have h1 := HX.out.names.1.keep hb
  rw [hnm] at h1 ⊢
  exact textsQ_any y.names x.NA y.NA y.names.length x.nc y.nc w' h1 (HY.out.names.1.keep hb))
 have T2 := Lib.hid (fun w' (hb : Below w2.heap.size w2 w') => show Calls Tryz.prog 25 #[.slice x.GA x.group.length x.gc, .slice y.GA y.group.length y.gc] w' (fun e w'' => e = .returned (.bool true) ∧ Below w'.heap.size w' w'') by
  have h1 := HX.out.group.1.keep hb
  rw [hgr] at h1 ⊢
  exact textsQ_any y.group x.GA y.GA y.group.length x.gc y.gc w' h1 (HY.out.group.1.keep hb))
 have T3 := Lib.hid (fun w' (hb : Below w2.heap.size w2 w') => show Calls Tryz.prog 21 #[exV x.wher, exV y.wher, .bool false] w' (fun e w'' => e = .returned (.bool true) ∧ Below w'.heap.size w' w'') from by
  have := likeExpr_any (SizeOf.sizeOf x.wher) x.wher y.wher (Nat.le_refl _) w' (HX.out.wher.see.keep hb) (HY.out.wher.see.keep hb)
  rw [g3] at this
  exact this)
 have HSM := Lib.hid (show exSames x.cols y.cols = true ∧ aggsSb x.aggs y.aggs = true from ⟨g4, g7⟩)
 have hlc := exSames_length g4
 have hla := aggsSb_length g7
 obtain ⟨n, hn⟩ : ∃ n, x.cols.length = n := ⟨_, rfl⟩
 obtain ⟨m, hm⟩ : ∃ m, x.aggs.length = m := ⟨_, rfl⟩
 have HN := Lib.hid (show x.cols.length = n ∧ y.cols.length = n ∧ x.aggs.length = m ∧ y.aggs.length = m from ⟨hn, hlc ▸ hn, hm, hla ▸ hm⟩)
 have HW1 := Lib.hid hw1
 have HW2 := Lib.hid hw2
 have q1 : (x.size != y.size) = false := by simpa using eq_of_beq g1
 have q2 : (x.slide != y.slide) = false := by simpa using eq_of_beq g2
 have q3 : ((n : Int) != n) = false := by simp
 have q4 : ((m : Int) != m) = false := by simp
 have hc1 := hx.cols.1.2.1
 have hc2 := hx.cols.1.2.2.1
 have hc3 := hy.cols.1.2.1
 have hc4 := hy.cols.1.2.2.1
 have hd1 := hx.aggs.1.2.1
 have hd2 := hx.aggs.1.2.2.1
 have hd3 := hy.aggs.1.2.1
 have hd4 := hy.aggs.1.2.2.1
 rw [HN.out.1] at hc1
 rw [HN.out.2.1] at hc3
 rw [HN.out.2.2.1] at hd1
 rw [HN.out.2.2.2] at hd3
 unfold maxLen at hc2 hc4 hd2 hd4
 unfold exV at T3
 unfold qxV
 clear hw1 hw2 ho1 ho2 hb1 hb2 hx hy hex hs g1 g2 g3 g4 g5 g6 g7 hnm hgr hlc hla hn hm
 have x9 : w2.cell? ⟨w.heap.size, 9, none⟩ = some (.slice x.NA x.names.length x.nc) := (HO1.out.keep (Below.refl _ _)).cell rfl
 have y9 : w2.cell? ⟨w1.heap.size, 9, none⟩ = some (.slice y.NA y.names.length y.nc) := (HO2.out.keep (Below.refl _ _)).cell rfl
 have lx := (HO1.out.keep (Below.refl _ _)).lt
 have ly := (HO2.out.keep (Below.refl _ _)).lt
 rw [HN.out.1, HN.out.2.2.1] at HW1
 rw [HN.out.2.1, HN.out.2.2.2] at HW2
 rw [HN.out.1, HN.out.2.1, HN.out.2.2.1, HN.out.2.2.2]
 go_enter Tryz.func10, Tryz.ntmps10
 go_wp2_with (first | rw [HW1.out] | rw [HW2.out])
 refine (T1.out _ (Below.refl _ _)).mono ?_
 rintro e w3 ⟨rfl, hb⟩
 have HB3 := Lib.hid hb
 clear hb
 clear x9 y9 lx ly
 have x10 : w3.cell? ⟨w.heap.size, 10, none⟩ = some (.slice x.GA x.group.length x.gc) := (HO1.out.keep HB3.out).cell rfl
 have y10 : w3.cell? ⟨w1.heap.size, 10, none⟩ = some (.slice y.GA y.group.length y.gc) := (HO2.out.keep HB3.out).cell rfl
 have lx := (HO1.out.keep HB3.out).lt
 have ly := (HO2.out.keep HB3.out).lt
 go_wp2_with fail
 refine (T2.out _ HB3.out).mono ?_
 rintro e w4 ⟨rfl, hb⟩
 have HB4 := Lib.hid (HB3.out.trans (hb.mono HB3.out.size))
 clear hb
 clear x10 y10 lx ly
 have x1 : w4.cell? ⟨w.heap.size, 1, none⟩ = some (.string x.wher.op) := (HO1.out.keep HB4.out).cell rfl
 have x2 : w4.cell? ⟨w.heap.size, 2, none⟩ = some (.string x.wher.name) := (HO1.out.keep HB4.out).cell rfl
 have x3 : w4.cell? ⟨w.heap.size, 3, none⟩ = some (.int .i64 x.wher.val.type) := (HO1.out.keep HB4.out).cell rfl
 have x4 : w4.cell? ⟨w.heap.size, 4, none⟩ = some (.int .i64 x.wher.val.n) := (HO1.out.keep HB4.out).cell rfl
 have x5 : w4.cell? ⟨w.heap.size, 5, none⟩ = some (.string x.wher.val.s) := (HO1.out.keep HB4.out).cell rfl
 have x6 : w4.cell? ⟨w.heap.size, 6, none⟩ = some (.slice x.wher.A x.wher.args.length x.wher.c) := (HO1.out.keep HB4.out).cell rfl
 have x7 : w4.cell? ⟨w.heap.size, 7, none⟩ = some (.int .i64 x.wher.pos) := (HO1.out.keep HB4.out).cell rfl
 have y1 : w4.cell? ⟨w1.heap.size, 1, none⟩ = some (.string y.wher.op) := (HO2.out.keep HB4.out).cell rfl
 have y2 : w4.cell? ⟨w1.heap.size, 2, none⟩ = some (.string y.wher.name) := (HO2.out.keep HB4.out).cell rfl
 have y3 : w4.cell? ⟨w1.heap.size, 3, none⟩ = some (.int .i64 y.wher.val.type) := (HO2.out.keep HB4.out).cell rfl
 have y4 : w4.cell? ⟨w1.heap.size, 4, none⟩ = some (.int .i64 y.wher.val.n) := (HO2.out.keep HB4.out).cell rfl
 have y5 : w4.cell? ⟨w1.heap.size, 5, none⟩ = some (.string y.wher.val.s) := (HO2.out.keep HB4.out).cell rfl
 have y6 : w4.cell? ⟨w1.heap.size, 6, none⟩ = some (.slice y.wher.A y.wher.args.length y.wher.c) := (HO2.out.keep HB4.out).cell rfl
 have y7 : w4.cell? ⟨w1.heap.size, 7, none⟩ = some (.int .i64 y.wher.pos) := (HO2.out.keep HB4.out).cell rfl
 have lx := (HO1.out.keep HB4.out).lt
 have ly := (HO2.out.keep HB4.out).lt
 go_wp2_with fail
 refine (T3.out _ HB4.out).mono ?_
 rintro e w5 ⟨rfl, hb⟩
 have HB5 := Lib.hid (HB4.out.trans (hb.mono HB4.out.size))
 clear hb
 clear x1 x2 x3 x4 x5 x6 x7 y1 y2 y3 y4 y5 y6 y7 lx ly
 have x0 : w5.cell? ⟨w.heap.size, 0, none⟩ = some (.string x.from_) := (HO1.out.keep HB5.out).cell rfl
 have x8 : w5.cell? ⟨w.heap.size, 8, none⟩ = some (.slice x.CA x.cols.length x.cc) := (HO1.out.keep HB5.out).cell rfl
 have x11 : w5.cell? ⟨w.heap.size, 11, none⟩ = some (.int .i64 x.size) := (HO1.out.keep HB5.out).cell rfl
 have x12 : w5.cell? ⟨w.heap.size, 12, none⟩ = some (.int .i64 x.slide) := (HO1.out.keep HB5.out).cell rfl
 have x13 : w5.cell? ⟨w.heap.size, 13, none⟩ = some (.slice x.AA x.aggs.length x.ac) := (HO1.out.keep HB5.out).cell rfl
 have y0 : w5.cell? ⟨w1.heap.size, 0, none⟩ = some (.string y.from_) := (HO2.out.keep HB5.out).cell rfl
 have y8 : w5.cell? ⟨w1.heap.size, 8, none⟩ = some (.slice y.CA y.cols.length y.cc) := (HO2.out.keep HB5.out).cell rfl
 have y11 : w5.cell? ⟨w1.heap.size, 11, none⟩ = some (.int .i64 y.size) := (HO2.out.keep HB5.out).cell rfl
 have y12 : w5.cell? ⟨w1.heap.size, 12, none⟩ = some (.int .i64 y.slide) := (HO2.out.keep HB5.out).cell rfl
 have y13 : w5.cell? ⟨w1.heap.size, 13, none⟩ = some (.slice y.AA y.aggs.length y.ac) := (HO2.out.keep HB5.out).cell rfl
 have lx := (HO1.out.keep HB5.out).lt
 have ly := (HO2.out.keep HB5.out).lt
 rw [HN.out.1] at x8
 rw [HN.out.2.1] at y8
 rw [HN.out.2.2.1] at x13
 rw [HN.out.2.2.2] at y13
 clear T1 T2 T3
 go_wp2_with fail
 clear x0 y0 x11 y11 x12 y12 x8 y8 x13 y13 lx ly
 go_loopw [10] (fun i wr => ∃ k : Nat, k ≤ n ∧ i = .int .i64 k ∧ Below w2.heap.size w2 wr) (fun i _ => n - (intOf i).toNat)
 case atStart => exact ⟨0, Nat.zero_le _, rfl, HB5.out⟩
 case round =>
  obtain ⟨k, hkn, rfl, hb⟩ := hrel
  have HB := Lib.hid hb
  have x8 : wr.cell? ⟨w.heap.size, 8, none⟩ = some (.slice x.CA x.cols.length x.cc) := (HO1.out.keep hb).cell rfl
  have x13 : wr.cell? ⟨w.heap.size, 13, none⟩ = some (.slice x.AA x.aggs.length x.ac) := (HO1.out.keep hb).cell rfl
  have y8 : wr.cell? ⟨w1.heap.size, 8, none⟩ = some (.slice y.CA y.cols.length y.cc) := (HO2.out.keep hb).cell rfl
  have y13 : wr.cell? ⟨w1.heap.size, 13, none⟩ = some (.slice y.AA y.aggs.length y.ac) := (HO2.out.keep hb).cell rfl
  have lx := (HO1.out.keep hb).lt
  have ly := (HO2.out.keep hb).lt
  by_cases hlk : k < n
  ·rw [HN.out.1] at x8
   rw [HN.out.2.1] at y8
   obtain ⟨ga, fa, a, (hA : x.CA = _), hga, ha, hsa, a0, a1, a2, a3, a4, a5, a6⟩ := (HEX.out.keep hb).at_ (k := k) (by show k < x.cols.length; rw [HN.out.1]; exact hlk)
   obtain ⟨gb, fb, b, (hBa : y.CA = _), hgb, hbb, hsb, b0, b1, b2, b3, b4, b5, b6⟩ := (HEY.out.keep hb).at_ (k := k) (by show k < y.cols.length; rw [HN.out.2.1]; exact hlk)
   replace ha : x.cols[k]? = some a := ha
   replace hbb : y.cols[k]? = some b := hbb
   have T : Hid _ := Lib.hid (likeExpr_any (SizeOf.sizeOf a) a b (Nat.le_refl _) wr.drew (hsa.keep (Below.refl _ _).drew) (hsb.keep (Below.refl _ _).drew))
   rw [exSames_at HSM.out.1 ha hbb] at T
   unfold exV at T
   rw [hA] at x8
   rw [hBa] at y8
   clear ha hbb hsa hsb hb hA hBa
   go_wp2_with fail
   go_still_tail 11, (by kernel_rfl)
   change wpList _ _ _ _ _ wr.drew
   go_wp2_with fail
   refine (T.out).mono ?_
   rintro e w6 ⟨rfl, hb6⟩
   have HB6 := Lib.hid (HB.out.trans (((Below.refl wr.heap.size wr).drew.trans hb6).mono HB.out.size))
   clear hb6
   go_wp2_with fail
   go_roundw
   case rel => exact ⟨k + 1, by omega, by go_num, HB6.out⟩
   case measure => simp [intOf]; omega
  ·obtain rfl : n = k := by omega
   rw [HN.out.1] at x8
   rw [HN.out.2.2.1] at x13
   clear hb hlk y8 y13
   go_wp2_with fail
   clear x8 x13 lx ly
   go_loopw [12] (fun i wr => ∃ k : Nat, k ≤ m ∧ i = .int .i64 k ∧ Below w2.heap.size w2 wr) (fun i _ => m - (intOf i).toNat)
   case atStart => exact ⟨0, Nat.zero_le _, rfl, HB.out⟩
   case round =>
    clear HB
    obtain ⟨k, hkn, rfl, hb⟩ := hrel
    have HB := Lib.hid hb
    have x13 : wr.cell? ⟨w.heap.size, 13, none⟩ = some (.slice x.AA x.aggs.length x.ac) := (HO1.out.keep hb).cell rfl
    have y13 : wr.cell? ⟨w1.heap.size, 13, none⟩ = some (.slice y.AA y.aggs.length y.ac) := (HO2.out.keep hb).cell rfl
    have lx := (HO1.out.keep hb).lt
    have ly := (HO2.out.keep hb).lt
    by_cases hlk : k < m
    ·rw [HN.out.2.2.1] at x13
     rw [HN.out.2.2.2] at y13
     obtain ⟨ga, fa, a, hA, hga, ha, a0, a1, a2, a3, a4, a5, a6, a7, a8⟩ := aggs_at (HX.out.aggs.1.keep hb) (k := k) (by rw [HN.out.2.2.1]; exact hlk)
     obtain ⟨gb, fb, b, hBa, hgb, hbb, b0, b1, b2, b3, b4, b5, b6, b7, b8⟩ := aggs_at (HY.out.aggs.1.keep hb) (k := k) (by rw [HN.out.2.2.2]; exact hlk)
     have hab := aggsSb_at HSM.out.2 ha hbb
     unfold aggSameB at hab
     simp only [Bool.and_eq_true] at hab
     obtain ⟨p0, p1, p2⟩ := hab
     have T : Hid _ := Lib.hid (likeExpr_any (SizeOf.sizeOf a.of) a.of b.of (Nat.le_refl _) wr.drew (((HX.out.aggsAt a (List.mem_of_getElem? ha)).see.keep hb).keep (Below.refl _ _).drew) (((HY.out.aggsAt b (List.mem_of_getElem? hbb)).see.keep hb).keep (Below.refl _ _).drew))
     rw [p2] at T
     unfold exV at T
     rw [hA] at x13
     rw [hBa] at y13
     have HRA := Lib.hid (fun w' (hb' : Below wr.heap.size wr w') => show w'.cell? ⟨ga, fa + k * 9, none⟩ = some (.string a.what) ∧ w'.cell? ⟨ga, fa + k * 9 + 8, none⟩ = some (.string a.name) ∧ w'.cell? ⟨gb, fb + k * 9, none⟩ = some (.string b.what) ∧ w'.cell? ⟨gb, fb + k * 9 + 8, none⟩ = some (.string b.name) from ⟨(hb'.cell hga).trans a0, (hb'.cell hga).trans a8, (hb'.cell hgb).trans b0, (hb'.cell hgb).trans b8⟩)
     have HCA := Lib.hid hA
     have HCB := Lib.hid hBa
     clear ha hbb hb p2 hA hBa
     go_wp2_with fail
     go_still_tail 13, (by kernel_rfl)
     change wpList _ _ _ _ _ wr.drew
     go_wp2_with fail
     refine (T.out).mono ?_
     rintro e w6 ⟨rfl, hb6⟩
     have hb6' : Below wr.heap.size wr w6 := (Below.refl wr.heap.size wr).drew.trans hb6
     have HB6 := Lib.hid (HB.out.trans (hb6'.mono HB.out.size))
     obtain ⟨r0, r1, r2, r3⟩ := HRA.out w6 hb6'
     clear hb6 hb6' x13 y13 lx ly a0 a1 a2 a3 a4 a5 a6 a7 a8 b0 b1 b2 b3 b4 b5 b6 b7 b8
     have x13 : w6.cell? ⟨w.heap.size, 13, none⟩ = some (.slice x.AA x.aggs.length x.ac) := (HO1.out.keep HB6.out).cell rfl
     have y13 : w6.cell? ⟨w1.heap.size, 13, none⟩ = some (.slice y.AA y.aggs.length y.ac) := (HO2.out.keep HB6.out).cell rfl
     have lx := (HO1.out.keep HB6.out).lt
     have ly := (HO2.out.keep HB6.out).lt
     rw [HN.out.2.2.1, HCA.out] at x13
     rw [HN.out.2.2.2, HCB.out] at y13
     go_wp2_with fail
     go_quiet (fail)
     have HBZ := Lib.hid (below_drewN HB6.out nq)
     generalize w6.drewN nq = wz at HBZ ⊢
     go_wp2_with fail
     go_roundw
     case rel => exact ⟨k + 1, by omega, by go_num, HBZ.out⟩
     case measure => simp [intOf]; omega
    ·obtain rfl : m = k := by omega
     rw [HN.out.2.2.1] at x13
     clear hb hlk y13
     go_wp2_with fail
     go_ret
     exact ⟨rfl, below_step HB2.out HB.out⟩
end Go.Proofs.YtpbbkpfaphjdoaaGreatDoor
