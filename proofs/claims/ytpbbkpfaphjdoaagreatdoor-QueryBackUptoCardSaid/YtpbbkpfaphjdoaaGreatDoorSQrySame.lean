/- slices.Equal over names, slices.EqualFunc over aggregates, query.same: walked, over any two. -/
import Derived.Test.YtpbbkpfaphjdoaaGreatDoorSQryColsOf
import Derived.Test.YtpbbkpfaphjdoaaGreatDoorSSameEx
import Derived.BigQuiet
namespace Go.Proofs.YtpbbkpfaphjdoaaGreatDoor
open Go.ChangeShapes Go.WideShapes Go.ChangeAt Go.RowKit
def strsL (l : List ByteArray) : List (List UInt8) := l.map (·.data.toList)
theorem strsL_at {l : List ByteArray} {k : Nat} {s : ByteArray} (h : l[k]? = some s) : strsL (l.drop k) = s.data.toList :: strsL (l.drop (k + 1)) := by
 obtain ⟨g, e⟩ := List.getElem?_eq_some_iff.1 h
 unfold strsL
 rw [List.drop_eq_getElem_cons g, e]
 rfl
theorem strsL_len {a b : List ByteArray} (h : a.length ≠ b.length) : (strsL a == strsL b) = false := by
 refine beq_eq_false_iff_ne.2 (fun e => h ?_)
 have := congrArg List.length e
 simpa [strsL] using this
set_option maxHeartbeats 2000000 in
theorem equalS_any (za zb : List ByteArray) (A B : Option Addr) (n m c d : Nat) (w : World) (hA : Sees w A n c 1 (strCells za)) (hB : Sees w B m d 1 (strCells zb)) :
  Calls Tryz.prog 115 #[.slice A n c, .slice B m d] w fun e w' => e = .returned (.bool (strsL za == strsL zb)) ∧ Below w.heap.size w w' := by
 have HA := Lib.hid hA
 have HB := Lib.hid hB
 have h1 := hA.2.1
 have h2 := hA.2.2.1
 have h3 := hB.2.1
 have h4 := hB.2.2.1
 have hla : za.length = n := by have := hA.1; simpa [strCells] using this
 have hlb : zb.length = m := by have := hB.1; simpa [strCells] using this
 unfold maxLen at h2 h4
 by_cases hnn : n = m
 rotate_left
 ·have e0 : ((n : Int) != m) = true := by simp; omega
  have HR := Lib.hid (strsL_len (a := za) (b := zb) (by omega))
  clear hA hB hla hlb hnn
  go_enter Tryz.func115, Tryz.ntmps115
  go_wp2_with fail
  go_ret
  rw [HR.out]
  exact ⟨rfl, Below.refl _ _⟩
 subst hnn
 have e0 : ((n : Int) != n) = false := by simp
 have HLA := Lib.hid hla
 have HLB := Lib.hid hlb
 clear hA hB hla hlb
 go_enter Tryz.func115, Tryz.ntmps115
 go_wp2_with fail
 go_loopw [13] (fun i wr => ∃ k : Nat, k ≤ n ∧ i = .int .i64 k ∧ (strsL za == strsL zb) = (strsL (za.drop k) == strsL (zb.drop k)) ∧ Below w.heap.size w wr) (fun i _ => n - (intOf i).toNat)
 case atStart => exact ⟨0, by omega, rfl, by rw [List.drop_zero, List.drop_zero], Below.refl _ _⟩
 case round =>
  obtain ⟨k, hk, rfl, hsk, hb⟩ := hrel
  have HBR := Lib.hid hb
  have HSK := Lib.hid hsk
  clear hsk
  by_cases hlk : k < n
  ·obtain ⟨g, o, z, rfl, -, hz, c1⟩ := strAt (HA.out.keep hb) hlk
   obtain ⟨g2, o2, z2, rfl, -, hz2, c2⟩ := strAt (HB.out.keep hb) hlk
   have HSD := Lib.hid (HSK.out.trans (by rw [strsL_at hz, strsL_at hz2]))
   clear hb hz hz2
   cases hzz : (z.toList == z2.toList) with
   | true =>
    have HST := Lib.hid (show (strsL za == strsL zb) = (strsL (za.drop (k + 1)) == strsL (zb.drop (k + 1))) by
     rw [HSD.out, show z.data.toList = z2.data.toList by rw [← Lib.toList_data, ← Lib.toList_data]; exact beq_iff_eq.1 hzz]
     simp)
    go_wp2_with fail
    go_quiet (fail)
    have HBZ := Lib.hid (below_drewN HBR.out nq)
    generalize wr.drewN nq = wz at HBZ ⊢
    go_wp2_with fail
    go_roundw
    case rel => exact ⟨k + 1, by omega, by go_num, HST.out, HBZ.out⟩
    case measure => simp [intOf]; omega
   | false =>
    have HST := Lib.hid (show (strsL za == strsL zb) = false by
     rw [HSD.out]
     refine beq_eq_false_iff_ne.2 (fun e => ?_)
     injection e with e _
     rw [← Lib.toList_data, ← Lib.toList_data] at e
     exact absurd e (beq_eq_false_iff_ne.1 hzz))
    go_wp2_with fail
    go_quiet (fail)
    have HBZ := Lib.hid (below_drewN HBR.out nq)
    generalize wr.drewN nq = wz at HBZ ⊢
    go_wp2_with fail
    go_ret
    rw [HST.out]
    exact ⟨rfl, HBZ.out⟩
  ·obtain rfl : k = n := by omega
   have HST := Lib.hid (show (strsL za == strsL zb) = true by
    rw [HSK.out, List.drop_eq_nil_of_le (by rw [HLA.out]; omega), List.drop_eq_nil_of_le (by rw [HLB.out]; omega)]
    rfl)
   clear hb
   go_wp2_with fail
   go_ret
   rw [HST.out]
   exact ⟨rfl, HBR.out⟩
def aggSameB (a b : AggX) : Bool := (a.what.toList == b.what.toList) && ((a.name.toList == b.name.toList) && exSame a.of b.of)
theorem box_aggx (w : World) (a : AggX) : ∃ w0, w.alloc (.cells #[.string a.what, .string a.of.op, .string a.of.name, .int .i64 a.of.val.type, .int .i64 a.of.val.n, .string a.of.val.s, .slice a.of.A a.of.args.length a.of.c, .int .i64 a.of.pos, .string a.name] 99) = w0 ∧ RowL w0 w.heap.size 99 (aggXL a) ∧ Below w.heap.size w w0 :=
 ⟨_, rfl, rowL_new w _ (aggXL a), belowNew' _ _⟩
set_option maxHeartbeats 4000000 in
set_option maxRecDepth 100000 in
theorem aggSame_any (a b : AggX) (w : World) (ha : SeesEx w a.of) (hb : SeesEx w b.of) : Calls Tryz.prog 117 #[aggXV a, aggXV b] w fun e w' => e = .returned (.bool (aggSameB a b)) ∧ Below w.heap.size w w' := by
 obtain ⟨w1, hw1, ho1, hb1⟩ := box_aggx w a
 obtain ⟨w2, hw2, ho2, hb2⟩ := box_aggx w1 b
 have HB2 := Lib.hid (below_step hb1 hb2)
 have hx := ho1.keep hb2
 have x0 : w2.cell? ⟨w.heap.size, 0, none⟩ = some (.string a.what) := hx.cell rfl
 have x1 : w2.cell? ⟨w.heap.size, 1, none⟩ = some (.string a.of.op) := hx.cell rfl
 have x2 : w2.cell? ⟨w.heap.size, 2, none⟩ = some (.string a.of.name) := hx.cell rfl
 have x3 : w2.cell? ⟨w.heap.size, 3, none⟩ = some (.int .i64 a.of.val.type) := hx.cell rfl
 have x4 : w2.cell? ⟨w.heap.size, 4, none⟩ = some (.int .i64 a.of.val.n) := hx.cell rfl
 have x5 : w2.cell? ⟨w.heap.size, 5, none⟩ = some (.string a.of.val.s) := hx.cell rfl
 have x6 : w2.cell? ⟨w.heap.size, 6, none⟩ = some (.slice a.of.A a.of.args.length a.of.c) := hx.cell rfl
 have x7 : w2.cell? ⟨w.heap.size, 7, none⟩ = some (.int .i64 a.of.pos) := hx.cell rfl
 have x8 : w2.cell? ⟨w.heap.size, 8, none⟩ = some (.string a.name) := hx.cell rfl
 have y0 : w2.cell? ⟨w1.heap.size, 0, none⟩ = some (.string b.what) := ho2.cell rfl
 have y1 : w2.cell? ⟨w1.heap.size, 1, none⟩ = some (.string b.of.op) := ho2.cell rfl
 have y2 : w2.cell? ⟨w1.heap.size, 2, none⟩ = some (.string b.of.name) := ho2.cell rfl
 have y3 : w2.cell? ⟨w1.heap.size, 3, none⟩ = some (.int .i64 b.of.val.type) := ho2.cell rfl
 have y4 : w2.cell? ⟨w1.heap.size, 4, none⟩ = some (.int .i64 b.of.val.n) := ho2.cell rfl
 have y5 : w2.cell? ⟨w1.heap.size, 5, none⟩ = some (.string b.of.val.s) := ho2.cell rfl
 have y6 : w2.cell? ⟨w1.heap.size, 6, none⟩ = some (.slice b.of.A b.of.args.length b.of.c) := ho2.cell rfl
 have y7 : w2.cell? ⟨w1.heap.size, 7, none⟩ = some (.int .i64 b.of.pos) := ho2.cell rfl
 have y8 : w2.cell? ⟨w1.heap.size, 8, none⟩ = some (.string b.name) := ho2.cell rfl
 have lx := hx.lt
 have ly := ho2.lt
 have T := Lib.hid (like_any (SizeOf.sizeOf a.of) a.of b.of (Nat.le_refl _) w2 (ha.keep HB2.out) (hb.keep HB2.out))
 have E : Hid (aggSameB a b = ((a.what.toList == b.what.toList) && ((a.name.toList == b.name.toList) && exSame a.of b.of))) := Lib.hid rfl
 unfold exV at T
 unfold aggXV
 have HW1 := Lib.hid hw1
 have HW2 := Lib.hid hw2
 generalize aggSameB a b = R at E ⊢
 generalize exSame a.of b.of = g2 at T E
 clear hw1 hw2 ho1 ho2 hb1 hb2 hx ha hb
 cases g0 : (a.what.toList == b.what.toList) with
 | false =>
  rw [g0, Bool.false_and] at E
  go_enter Tryz.func117, Tryz.ntmps117
  go_wp2_with (first | rw [HW1.out] | rw [HW2.out])
  go_ret
  rw [E.out]
  exact ⟨rfl, HB2.out⟩
 | true =>
  cases g1 : (a.name.toList == b.name.toList) with
  | false =>
   rw [g0, g1, Bool.true_and, Bool.false_and] at E
   go_enter Tryz.func117, Tryz.ntmps117
   go_wp2_with (first | rw [HW1.out] | rw [HW2.out])
   go_ret
   rw [E.out]
   exact ⟨rfl, HB2.out⟩
  | true =>
   rw [g0, g1, Bool.true_and, Bool.true_and] at E
   go_enter Tryz.func117, Tryz.ntmps117
   go_wp2_with (first | rw [HW1.out] | rw [HW2.out])
   refine (T.out).mono ?_
   rintro e w3 ⟨rfl, hb3⟩
   have HB3 := Lib.hid (below_step HB2.out hb3)
   clear hb3
   go_wp2_with fail
   go_ret
   rw [E.out]
   exact ⟨rfl, HB3.out⟩
def aggsSb : List AggX → List AggX → Bool
 | [], [] => true
 | a :: l, b :: m => aggSameB a b && aggsSb l m
 | _, _ => false
theorem aggsSb_len : ∀ (l m : List AggX), l.length ≠ m.length → aggsSb l m = false
 | [], [], h => absurd rfl h
 | [], _ :: _, _ => rfl
 | _ :: _, [], _ => rfl
 | a :: l, b :: m, h => by rw [aggsSb, aggsSb_len l m (fun e => h (by simp [e])), Bool.and_false]
theorem aggsSb_drop {l m : List AggX} {k : Nat} {a b : AggX} (h1 : l[k]? = some a) (h2 : m[k]? = some b) : aggsSb (l.drop k) (m.drop k) = (aggSameB a b && aggsSb (l.drop (k + 1)) (m.drop (k + 1))) := by
 obtain ⟨g1, e1⟩ := List.getElem?_eq_some_iff.1 h1
 obtain ⟨g2, e2⟩ := List.getElem?_eq_some_iff.1 h2
 rw [List.drop_eq_getElem_cons g1, List.drop_eq_getElem_cons g2, e1, e2, aggsSb]
theorem len_aggs {w : World} {A : Option Addr} {n c : Nat} {l : List AggX} (h : Sees w A n c 9 (aggXs l)) : l.length = n := by
 have h1 := h.1
 have : ∀ l : List AggX, (aggXs l).length = l.length * 9 := fun l => by
  induction l with
  | nil => rfl
  | cons a l ih => show (aggXL a ++ aggXs l).length = _; rw [List.length_append, ih]; show 9 + _ = _; simp; omega
 rw [this] at h1
 omega
set_option maxHeartbeats 4000000 in
set_option maxRecDepth 100000 in
theorem aggsSame_any (la lb : List AggX) (A B : Option Addr) (n m c d : Nat) (w : World) (hA : Sees w A n c 9 (aggXs la)) (hB : Sees w B m d 9 (aggXs lb)) (hla : ∀ a ∈ la, SeesEx w a.of) (hlb : ∀ a ∈ lb, SeesEx w a.of) :
  Calls Tryz.prog 116 #[.slice A n c, .slice B m d, .func (.func 117) #[] #[]] w fun e w' => e = .returned (.bool (aggsSb la lb)) ∧ Below w.heap.size w w' := by
 have HA := Lib.hid hA
 have HB0 := Lib.hid hB
 have HLA := Lib.hid hla
 have HLB := Lib.hid hlb
 have HN := Lib.hid (len_aggs hA)
 have HN2 := Lib.hid (len_aggs hB)
 have hcap := hA.2.1
 have hmax := hA.2.2.1
 have hcap2 := hB.2.1
 have hmax2 := hB.2.2.1
 unfold maxLen at hmax hmax2
 clear hA hB hla hlb
 by_cases hnn : n = m
 rotate_left
 ·have e0 : ((n : Int) != m) = true := by simp; omega
  have HR := Lib.hid (aggsSb_len la lb (by have := HN.out; have := HN2.out; omega))
  clear hnn
  go_enter Tryz.func116, Tryz.ntmps116
  go_wp2_with fail
  go_ret
  rw [HR.out]
  exact ⟨rfl, Below.refl _ _⟩
 subst hnn
 have e0 : ((n : Int) != n) = false := by simp
 go_enter Tryz.func116, Tryz.ntmps116
 go_wp2_with fail
 go_loopw [17] (fun i wr => ∃ k : Nat, k ≤ n ∧ i = .int .i64 k ∧ aggsSb la lb = aggsSb (la.drop k) (lb.drop k) ∧ Below w.heap.size w wr) (fun i _ => n - (intOf i).toNat)
 case atStart => exact ⟨0, by omega, rfl, by rw [List.drop_zero, List.drop_zero], Below.refl _ _⟩
 case round =>
  obtain ⟨k, hkn, rfl, hsk, hb⟩ := hrel
  have HB := Lib.hid hb
  have HSK := Lib.hid hsk
  clear hsk
  by_cases hlk : k < n
  ·obtain ⟨ga, fa, a, rfl, hga, ha, a0, a1, a2, a3, a4, a5, a6, a7, a8⟩ := aggs_at (HA.out.keep hb) hlk
   obtain ⟨gb, fb, b, rfl, hgb, hbb, b0, b1, b2, b3, b4, b5, b6, b7, b8⟩ := aggs_at (HB0.out.keep hb) hlk
   have HSD := Lib.hid (HSK.out.trans (aggsSb_drop ha hbb))
   obtain ⟨w1, hw1, ho1, hb1⟩ := box_aggx wr a
   obtain ⟨w2, hw2, ho2, hb2⟩ := box_aggx w1 b
   have ho12 := ho1.keep hb2
   have x0 : w2.cell? ⟨wr.heap.size, 0, none⟩ = some (.string a.what) := ho12.cell rfl
   have x1 : w2.cell? ⟨wr.heap.size, 1, none⟩ = some (.string a.of.op) := ho12.cell rfl
   have x2 : w2.cell? ⟨wr.heap.size, 2, none⟩ = some (.string a.of.name) := ho12.cell rfl
   have x3 : w2.cell? ⟨wr.heap.size, 3, none⟩ = some (.int .i64 a.of.val.type) := ho12.cell rfl
   have x4 : w2.cell? ⟨wr.heap.size, 4, none⟩ = some (.int .i64 a.of.val.n) := ho12.cell rfl
   have x5 : w2.cell? ⟨wr.heap.size, 5, none⟩ = some (.string a.of.val.s) := ho12.cell rfl
   have x6 : w2.cell? ⟨wr.heap.size, 6, none⟩ = some (.slice a.of.A a.of.args.length a.of.c) := ho12.cell rfl
   have x7 : w2.cell? ⟨wr.heap.size, 7, none⟩ = some (.int .i64 a.of.pos) := ho12.cell rfl
   have x8 : w2.cell? ⟨wr.heap.size, 8, none⟩ = some (.string a.name) := ho12.cell rfl
   have y0 : w2.cell? ⟨w1.heap.size, 0, none⟩ = some (.string b.what) := ho2.cell rfl
   have y1 : w2.cell? ⟨w1.heap.size, 1, none⟩ = some (.string b.of.op) := ho2.cell rfl
   have y2 : w2.cell? ⟨w1.heap.size, 2, none⟩ = some (.string b.of.name) := ho2.cell rfl
   have y3 : w2.cell? ⟨w1.heap.size, 3, none⟩ = some (.int .i64 b.of.val.type) := ho2.cell rfl
   have y4 : w2.cell? ⟨w1.heap.size, 4, none⟩ = some (.int .i64 b.of.val.n) := ho2.cell rfl
   have y5 : w2.cell? ⟨w1.heap.size, 5, none⟩ = some (.string b.of.val.s) := ho2.cell rfl
   have y6 : w2.cell? ⟨w1.heap.size, 6, none⟩ = some (.slice b.of.A b.of.args.length b.of.c) := ho2.cell rfl
   have y7 : w2.cell? ⟨w1.heap.size, 7, none⟩ = some (.int .i64 b.of.pos) := ho2.cell rfl
   have y8 : w2.cell? ⟨w1.heap.size, 8, none⟩ = some (.string b.name) := ho2.cell rfl
   have lx := ho12.lt
   have ly := ho2.lt
   have d0 : w1.cell? ⟨gb, fb + k * 9, none⟩ = some (.string b.what) := (hb1.cell hgb).trans b0
   have d1 : w1.cell? ⟨gb, fb + k * 9 + 1, none⟩ = some (.string b.of.op) := (hb1.cell hgb).trans b1
   have d2 : w1.cell? ⟨gb, fb + k * 9 + 2, none⟩ = some (.string b.of.name) := (hb1.cell hgb).trans b2
   have d3 : w1.cell? ⟨gb, fb + k * 9 + 3, none⟩ = some (.int .i64 b.of.val.type) := (hb1.cell hgb).trans b3
   have d4 : w1.cell? ⟨gb, fb + k * 9 + 4, none⟩ = some (.int .i64 b.of.val.n) := (hb1.cell hgb).trans b4
   have d5 : w1.cell? ⟨gb, fb + k * 9 + 5, none⟩ = some (.string b.of.val.s) := (hb1.cell hgb).trans b5
   have d6 : w1.cell? ⟨gb, fb + k * 9 + 6, none⟩ = some (.slice b.of.A b.of.args.length b.of.c) := (hb1.cell hgb).trans b6
   have d7 : w1.cell? ⟨gb, fb + k * 9 + 7, none⟩ = some (.int .i64 b.of.pos) := (hb1.cell hgb).trans b7
   have d8 : w1.cell? ⟨gb, fb + k * 9 + 8, none⟩ = some (.string b.name) := (hb1.cell hgb).trans b8
   have HW1 := Lib.hid hw1
   have HW2 := Lib.hid hw2
   have HB2 := Lib.hid (below_step (below_step HB.out hb1) hb2)
   have T := Lib.hid (aggSame_any a b w2 ((HLA.out a (List.mem_of_getElem? ha)).keep HB2.out) ((HLB.out b (List.mem_of_getElem? hbb)).keep HB2.out))
   unfold aggXV at T
   clear ha hbb hw1 hw2 hb1 hb2 ho1 ho2 ho12 hb b0 b1 b2 b3 b4 b5 b6 b7 b8
   cases hab : aggSameB a b with
   | true =>
    rw [hab] at T HSD
    rw [Bool.true_and] at HSD
    go_wp2_with (first | rw [HW1.out] | rw [HW2.out] | (go_at_call 117; refine (T.out).mono ?_; rintro e w3 ⟨rfl, hb3⟩; have HB3 := Lib.hid (below_step HB2.out hb3); clear hb3))
    go_roundw
    case rel => exact ⟨k + 1, by omega, by go_num, HSD.out, HB3.out⟩
    case measure => simp [intOf]; omega
   | false =>
    rw [hab] at T HSD
    rw [Bool.false_and] at HSD
    go_wp2_with (first | rw [HW1.out] | rw [HW2.out] | (go_at_call 117; refine (T.out).mono ?_; rintro e w3 ⟨rfl, hb3⟩; have HB3 := Lib.hid (below_step HB2.out hb3); clear hb3))
    go_ret
    rw [HSD.out]
    exact ⟨rfl, HB3.out⟩
  ·clear hb
   have HE := Lib.hid (show aggsSb la lb = true by rw [HSK.out, List.drop_eq_nil_of_le (by rw [HN.out]; omega), List.drop_eq_nil_of_le (by rw [HN2.out]; omega), aggsSb])
   go_wp2_with fail
   go_ret
   rw [HE.out]
   exact ⟨rfl, HB.out⟩
def sameQB (x y : QX) : Bool := (x.from_.toList == y.from_.toList) && ((x.size == y.size) && ((x.slide == y.slide) && (exSame x.wher y.wher && (exSames x.cols y.cols && ((strsL x.names == strsL y.names) && ((strsL x.group == strsL y.group) && aggsSb x.aggs y.aggs))))))
set_option maxHeartbeats 16000000 in
set_option maxRecDepth 100000 in
theorem sameQ_any (x y : QX) (w : World) (hx : SeesQ (fun _ => True) w x) (hy : SeesQ (fun _ => True) w y) : Calls Tryz.prog 47 #[qxV x, qxV y] w fun e w' => e = .returned (.bool (sameQB x y)) ∧ Below w.heap.size w w' := by
 obtain ⟨w1, hw1, ho1, hb1⟩ := box_q w x
 obtain ⟨w2, hw2, ho2, hb2⟩ := box_q w1 y
 have HB2 := Lib.hid (below_step hb1 hb2)
 have HO1 := Lib.hid (ho1.keep hb2)
 have HO2 := Lib.hid ho2
 have HX := Lib.hid (hx.keep (.of_below HB2.out))
 have HY := Lib.hid (hy.keep (.of_below HB2.out))
 have hex : ∀ (q : QX), SeesQ (fun _ => True) w2 q → SeesEx w2 (.mk ⟨#[]⟩ ⟨#[]⟩ noVal q.CA q.cc q.cols 0) := fun q hq => .mk hq.cols.1 (Nat.zero_le _) (Nat.zero_le _) ⟨show fits 0 by decide, show fits 0 by decide, Nat.zero_le _⟩ (show fits 0 by decide) (fun x hx => (hq.colsAt x hx).see)
 have T3 := Lib.hid (fun w' (hb : Below w2.heap.size w2 w') => show Calls Tryz.prog 28 #[exV x.wher, exV y.wher] w' (fun e w'' => e = .returned (.bool (exSame x.wher y.wher)) ∧ Below w'.heap.size w' w'') from like_any (SizeOf.sizeOf x.wher) x.wher y.wher (Nat.le_refl _) w' (HX.out.wher.see.keep hb) (HY.out.wher.see.keep hb))
 have T4 := Lib.hid (fun w' (hb : Below w2.heap.size w2 w') => likeEx_any (SizeOf.sizeOf x.cols) (like_any _) (.mk ⟨#[]⟩ ⟨#[]⟩ noVal x.CA x.cc x.cols 0) (.mk ⟨#[]⟩ ⟨#[]⟩ noVal y.CA y.cc y.cols 0) (fun a ha => Nat.le_of_lt (List.sizeOf_lt_of_mem ha)) x.cols.length y.cols.length rfl rfl w' ((hex x HX.out).keep hb) ((hex y HY.out).keep hb))
 have T5 := Lib.hid (fun w' (hb : Below w2.heap.size w2 w') => equalS_any x.names y.names x.NA y.NA x.names.length y.names.length x.nc y.nc w' (HX.out.names.1.keep hb) (HY.out.names.1.keep hb))
 have T6 := Lib.hid (fun w' (hb : Below w2.heap.size w2 w') => equalS_any x.group y.group x.GA y.GA x.group.length y.group.length x.gc y.gc w' (HX.out.group.1.keep hb) (HY.out.group.1.keep hb))
 have T7 := Lib.hid (fun w' (hb : Below w2.heap.size w2 w') => aggsSame_any x.aggs y.aggs x.AA y.AA x.aggs.length y.aggs.length x.ac y.ac w' (HX.out.aggs.1.keep hb) (HY.out.aggs.1.keep hb) (fun a ha => (HX.out.aggsAt a ha).see.keep hb) (fun a ha => (HY.out.aggsAt a ha).see.keep hb))
 have E : Hid (sameQB x y = ((x.from_.toList == y.from_.toList) && ((x.size == y.size) && ((x.slide == y.slide) && (exSame x.wher y.wher && (exSames x.cols y.cols && ((strsL x.names == strsL y.names) && ((strsL x.group == strsL y.group) && aggsSb x.aggs y.aggs)))))))) := Lib.hid rfl
 have HW1 := Lib.hid hw1
 have HW2 := Lib.hid hw2
 clear hw1 hw2 ho1 ho2 hb1 hb2 hx hy hex
 unfold exV at T3
 simp only [Ex.A, Ex.c, Ex.args] at T4
 generalize sameQB x y = R at E ⊢
 generalize exSame x.wher y.wher = g3 at T3 E
 generalize exSames x.cols y.cols = g4 at T4 E
 generalize (strsL x.names == strsL y.names) = g5 at T5 E
 generalize (strsL x.group == strsL y.group) = g6 at T6 E
 generalize aggsSb x.aggs y.aggs = g7 at T7 E
 unfold qxV
 have lx := HO1.out.lt
 have ly := HO2.out.lt
 have x0 : w2.cell? ⟨w.heap.size, 0, none⟩ = some (.string x.from_) := HO1.out.cell rfl
 have x1 : w2.cell? ⟨w.heap.size, 1, none⟩ = some (.string x.wher.op) := HO1.out.cell rfl
 have x2 : w2.cell? ⟨w.heap.size, 2, none⟩ = some (.string x.wher.name) := HO1.out.cell rfl
 have x3 : w2.cell? ⟨w.heap.size, 3, none⟩ = some (.int .i64 x.wher.val.type) := HO1.out.cell rfl
 have x4 : w2.cell? ⟨w.heap.size, 4, none⟩ = some (.int .i64 x.wher.val.n) := HO1.out.cell rfl
 have x5 : w2.cell? ⟨w.heap.size, 5, none⟩ = some (.string x.wher.val.s) := HO1.out.cell rfl
 have x6 : w2.cell? ⟨w.heap.size, 6, none⟩ = some (.slice x.wher.A x.wher.args.length x.wher.c) := HO1.out.cell rfl
 have x7 : w2.cell? ⟨w.heap.size, 7, none⟩ = some (.int .i64 x.wher.pos) := HO1.out.cell rfl
 have x8 : w2.cell? ⟨w.heap.size, 8, none⟩ = some (.slice x.CA x.cols.length x.cc) := HO1.out.cell rfl
 have x9 : w2.cell? ⟨w.heap.size, 9, none⟩ = some (.slice x.NA x.names.length x.nc) := HO1.out.cell rfl
 have x10 : w2.cell? ⟨w.heap.size, 10, none⟩ = some (.slice x.GA x.group.length x.gc) := HO1.out.cell rfl
 have x11 : w2.cell? ⟨w.heap.size, 11, none⟩ = some (.int .i64 x.size) := HO1.out.cell rfl
 have x12 : w2.cell? ⟨w.heap.size, 12, none⟩ = some (.int .i64 x.slide) := HO1.out.cell rfl
 have y0 : w2.cell? ⟨w1.heap.size, 0, none⟩ = some (.string y.from_) := HO2.out.cell rfl
 have y1 : w2.cell? ⟨w1.heap.size, 1, none⟩ = some (.string y.wher.op) := HO2.out.cell rfl
 have y2 : w2.cell? ⟨w1.heap.size, 2, none⟩ = some (.string y.wher.name) := HO2.out.cell rfl
 have y3 : w2.cell? ⟨w1.heap.size, 3, none⟩ = some (.int .i64 y.wher.val.type) := HO2.out.cell rfl
 have y4 : w2.cell? ⟨w1.heap.size, 4, none⟩ = some (.int .i64 y.wher.val.n) := HO2.out.cell rfl
 have y5 : w2.cell? ⟨w1.heap.size, 5, none⟩ = some (.string y.wher.val.s) := HO2.out.cell rfl
 have y6 : w2.cell? ⟨w1.heap.size, 6, none⟩ = some (.slice y.wher.A y.wher.args.length y.wher.c) := HO2.out.cell rfl
 have y7 : w2.cell? ⟨w1.heap.size, 7, none⟩ = some (.int .i64 y.wher.pos) := HO2.out.cell rfl
 have y8 : w2.cell? ⟨w1.heap.size, 8, none⟩ = some (.slice y.CA y.cols.length y.cc) := HO2.out.cell rfl
 have y9 : w2.cell? ⟨w1.heap.size, 9, none⟩ = some (.slice y.NA y.names.length y.nc) := HO2.out.cell rfl
 have y10 : w2.cell? ⟨w1.heap.size, 10, none⟩ = some (.slice y.GA y.group.length y.gc) := HO2.out.cell rfl
 have y11 : w2.cell? ⟨w1.heap.size, 11, none⟩ = some (.int .i64 y.size) := HO2.out.cell rfl
 have y12 : w2.cell? ⟨w1.heap.size, 12, none⟩ = some (.int .i64 y.slide) := HO2.out.cell rfl
 cases g0 : (x.from_.toList == y.from_.toList) with
 | false =>
  rw [g0, Bool.false_and] at E
  clear T3 T4 T5 T6 T7
  go_enter Tryz.func47, Tryz.ntmps47
  go_wp2_with (first | rw [HW1.out] | rw [HW2.out])
  go_ret
  rw [E.out]
  exact ⟨rfl, HB2.out⟩
 | true =>
  rw [g0, Bool.true_and] at E
  cases g1 : (x.size == y.size) with
  | false =>
   rw [g1, Bool.false_and] at E
   clear T3 T4 T5 T6 T7
   go_enter Tryz.func47, Tryz.ntmps47
   go_wp2_with (first | rw [HW1.out] | rw [HW2.out])
   go_ret
   rw [E.out]
   exact ⟨rfl, HB2.out⟩
  | true =>
   rw [g1, Bool.true_and] at E
   cases g2 : (x.slide == y.slide) with
   | false =>
    rw [g2, Bool.false_and] at E
    clear T3 T4 T5 T6 T7
    go_enter Tryz.func47, Tryz.ntmps47
    go_wp2_with (first | rw [HW1.out] | rw [HW2.out])
    go_ret
    rw [E.out]
    exact ⟨rfl, HB2.out⟩
   | true =>
    rw [g2, Bool.true_and] at E
    go_enter Tryz.func47, Tryz.ntmps47
    go_wp2_with (first | rw [HW1.out] | rw [HW2.out])
    refine (T3.out _ (Below.refl _ _)).mono ?_
    rintro e w3w ⟨rfl, hb⟩
    have HB3x := Lib.hid (show Below w2.heap.size w2 w3w from hb)
    clear hb
    have p3 : w3w.cell? ⟨w.heap.size, 8, none⟩ = some (.slice x.CA x.cols.length x.cc) := (HO1.out.keep HB3x.out).cell rfl
    have q3 : w3w.cell? ⟨w1.heap.size, 8, none⟩ = some (.slice y.CA y.cols.length y.cc) := (HO2.out.keep HB3x.out).cell rfl
    have lp3 := (HO1.out.keep HB3x.out).lt
    have lq3 := (HO2.out.keep HB3x.out).lt
    clear x0 x1 x2 x3 x4 x5 x6 x7 x8 x9 x10 x11 x12 y0 y1 y2 y3 y4 y5 y6 y7 y8 y9 y10 y11 y12
    cases g3 with
    | false =>
     rw [Bool.false_and] at E
     go_wp2_with fail
     go_ret
     rw [E.out]
     exact ⟨rfl, (below_step HB2.out HB3x.out)⟩
    | true =>
     rw [Bool.true_and] at E
     go_wp2_with fail
     refine (T4.out _ HB3x.out).mono ?_
     rintro e w4w ⟨rfl, hb⟩
     have HB4x := Lib.hid (show Below w2.heap.size w2 w4w from HB3x.out.trans (hb.mono HB3x.out.size))
     clear hb
     have p4 : w4w.cell? ⟨w.heap.size, 9, none⟩ = some (.slice x.NA x.names.length x.nc) := (HO1.out.keep HB4x.out).cell rfl
     have q4 : w4w.cell? ⟨w1.heap.size, 9, none⟩ = some (.slice y.NA y.names.length y.nc) := (HO2.out.keep HB4x.out).cell rfl
     have lp4 := (HO1.out.keep HB4x.out).lt
     have lq4 := (HO2.out.keep HB4x.out).lt
     clear p3 q3 lp3 lq3
     cases g4 with
     | false =>
      rw [Bool.false_and] at E
      go_wp2_with fail
      go_ret
      rw [E.out]
      exact ⟨rfl, (below_step HB2.out HB4x.out)⟩
     | true =>
      rw [Bool.true_and] at E
      go_wp2_with fail
      refine (T5.out _ HB4x.out).mono ?_
      rintro e w5w ⟨rfl, hb⟩
      have HB5x := Lib.hid (show Below w2.heap.size w2 w5w from HB4x.out.trans (hb.mono HB4x.out.size))
      clear hb
      have p5 : w5w.cell? ⟨w.heap.size, 10, none⟩ = some (.slice x.GA x.group.length x.gc) := (HO1.out.keep HB5x.out).cell rfl
      have q5 : w5w.cell? ⟨w1.heap.size, 10, none⟩ = some (.slice y.GA y.group.length y.gc) := (HO2.out.keep HB5x.out).cell rfl
      have lp5 := (HO1.out.keep HB5x.out).lt
      have lq5 := (HO2.out.keep HB5x.out).lt
      clear p4 q4 lp4 lq4
      cases g5 with
      | false =>
       rw [Bool.false_and] at E
       go_wp2_with fail
       go_ret
       rw [E.out]
       exact ⟨rfl, (below_step HB2.out HB5x.out)⟩
      | true =>
       rw [Bool.true_and] at E
       go_wp2_with fail
       refine (T6.out _ HB5x.out).mono ?_
       rintro e w6w ⟨rfl, hb⟩
       have HB6x := Lib.hid (show Below w2.heap.size w2 w6w from HB5x.out.trans (hb.mono HB5x.out.size))
       clear hb
       have p6 : w6w.cell? ⟨w.heap.size, 13, none⟩ = some (.slice x.AA x.aggs.length x.ac) := (HO1.out.keep HB6x.out).cell rfl
       have q6 : w6w.cell? ⟨w1.heap.size, 13, none⟩ = some (.slice y.AA y.aggs.length y.ac) := (HO2.out.keep HB6x.out).cell rfl
       have lp6 := (HO1.out.keep HB6x.out).lt
       have lq6 := (HO2.out.keep HB6x.out).lt
       clear p5 q5 lp5 lq5
       cases g6 with
       | false =>
        rw [Bool.false_and] at E
        go_wp2_with fail
        go_ret
        rw [E.out]
        exact ⟨rfl, (below_step HB2.out HB6x.out)⟩
       | true =>
        rw [Bool.true_and] at E
        go_wp2_with fail
        refine (T7.out _ HB6x.out).mono ?_
        rintro e w7w ⟨rfl, hb⟩
        have HB7x := Lib.hid (show Below w2.heap.size w2 w7w from HB6x.out.trans (hb.mono HB6x.out.size))
        clear hb
        go_wp2_with fail
        go_ret
        rw [E.out]
        exact ⟨rfl, (below_step HB2.out HB7x.out)⟩
end Go.Proofs.YtpbbkpfaphjdoaaGreatDoor
