/- tree.Same, walked, over two expressions that are the same but for where they lie. tree.Same, walked, over any two expressions. sluicesame.Expr, walked: over two expressions that are the same but for where they lie; over any two, but for where they stand. -/
import Derived.Test.YtpbbkpfaphjdoaaGreatDoorExOwn
import Derived.Test.YtpbbkpfaphjdoaaGreatDoorCheck
import Derived.Deep.QuietTactic
import Derived.BigQuiet
import Derived.BigRegion
import Derived.StillTailTactics
namespace Go.Proofs.YtpbbkpfaphjdoaaGreatDoor
open Go.ChangeShapes Go.WideShapes Go.ChangeAt Go.RowKit

set_option maxHeartbeats 4000000 in
set_option maxRecDepth 100000 in
theorem strip_inj {op name : ByteArray} {v : Val} {A : Option Addr} {c : Nat} {args : List Ex} {pos : Int} {y : Ex} (h : strip (.mk op name v A c args pos) = strip y) : ∃ A2 c2 args2, y = .mk op name v A2 c2 args2 pos ∧ strips args = strips args2 := by
  obtain ⟨op2, name2, v2, A2, c2, args2, pos2⟩ := y
  rw [strip_mk, strip_mk] at h
  injection h with h1 h2 h3 h4 h5 h6 h7
  subst h1 h2 h3 h7
  exact ⟨A2, c2, args2, rfl, h6⟩
end Go.Proofs.YtpbbkpfaphjdoaaGreatDoor
namespace Go.Proofs.YtpbbkpfaphjdoaaGreatDoor
open Go.ChangeShapes Go.WideShapes Go.ChangeAt Go.RowKit

mutual
/-- Are two the same, wherever they lie and stand? -/
def exSame : Ex → Ex → Bool
  | .mk op nm v _ _ l _, y => (op.data.toList == y.op.data.toList) && (nm.data.toList == y.name.data.toList) && (v.type == y.val.type && v.n == y.val.n && v.s.data.toList == y.val.s.data.toList) && exSames l y.args
def exSames : List Ex → List Ex → Bool
  | [], [] => true
  | a :: l, b :: m => exSame a b && exSames l m
  | [], _ :: _ => false
  | _ :: _, [] => false
end
theorem exSame_eq (x y : Ex) : exSame x y = ((x.op.data.toList == y.op.data.toList) && (x.name.data.toList == y.name.data.toList) && (x.val.type == y.val.type && x.val.n == y.val.n && x.val.s.data.toList == y.val.s.data.toList) && exSames x.args y.args) := by cases x; rw [exSame]; rfl
theorem exSames_len : ∀ (l m : List Ex), l.length ≠ m.length → exSames l m = false
  | [], [], h => (h rfl).elim
  | [], _ :: _, _ => by rw [exSames]
  | _ :: _, [], _ => by rw [exSames]
  | a :: l, b :: m, h => by rw [exSames, exSames_len l m (fun e => h (by simp [e])), Bool.and_false]
theorem exSames_drop {l m : List Ex} {k : Nat} {a b : Ex} (h1 : l[k]? = some a) (h2 : m[k]? = some b) : exSames (l.drop k) (m.drop k) = (exSame a b && exSames (l.drop (k + 1)) (m.drop (k + 1))) := by
  obtain ⟨g1, e1⟩ := List.getElem?_eq_some_iff.1 h1
  obtain ⟨g2, e2⟩ := List.getElem?_eq_some_iff.1 h2
  rw [List.drop_eq_getElem_cons g1, List.drop_eq_getElem_cons g2, e1, e2, exSames]
def LikeAt (m : Nat) : Prop := ∀ x y : Ex, SizeOf.sizeOf x ≤ m → ∀ w : World, SeesEx w x → SeesEx w y → Calls Tryz.prog 28 #[exV x, exV y] w fun e w' => e = .returned (.bool (exSame x y)) ∧ Below w.heap.size w w'
set_option maxHeartbeats 4000000 in
set_option maxRecDepth 100000 in
theorem likeEx_any (m : Nat) (ih : LikeAt m) (x y : Ex) (hm : ∀ a ∈ x.args, SizeOf.sizeOf a ≤ m) (n n2 : Nat) (hn : x.args.length = n) (hn2 : y.args.length = n2) (w : World) (hx : SeesEx w x) (hy : SeesEx w y) :
    Calls Tryz.prog 84 #[.slice x.A n x.c, .slice y.A n2 y.c, .func (.func 28) #[] #[]] w fun e w' => e = .returned (.bool (exSames x.args y.args)) ∧ Below w.heap.size w w' := by
  have IH := Lib.hid ih
  have HM := Lib.hid hm
  have HX := Lib.hid hx
  have HY := Lib.hid hy
  have HN := Lib.hid hn
  have HN2 := Lib.hid hn2
  have hcap : n ≤ x.c := by have := hx.parts.1.2.1; omega
  have hmax := hx.parts.1.2.2.1
  have hcap2 : n2 ≤ y.c := by have := hy.parts.1.2.1; omega
  have hmax2 := hy.parts.1.2.2.1
  unfold maxLen at hmax hmax2
  generalize hA : x.A = A at *
  generalize hB : y.A = B at *
  generalize x.c = c at hcap hmax ⊢
  generalize y.c = d at hcap2 hmax2 ⊢
  have HA := Lib.hid hA
  have HBa := Lib.hid hB
  by_cases hnn : n = n2
  rotate_left
  · have e0 : ((n : Int) != n2) = true := by simp; omega
    have HR := Lib.hid (exSames_len x.args y.args (by omega))
    clear ih hm hx hy hn hn2 hA hB hnn
    go_enter Tryz.func84, Tryz.ntmps84
    go_wp2_with fail
    go_ret
    rw [HR.out]
    exact ⟨rfl, Below.refl _ _⟩
  subst hnn
  have e0 : ((n : Int) != n) = false := by simp
  clear ih hm hx hy hn hn2 hA hB
  go_enter Tryz.func84, Tryz.ntmps84
  go_wp2_with fail
  go_loopw [17] (fun i wr => ∃ k : Nat, k ≤ n ∧ i = .int .i64 k ∧ exSames x.args y.args = exSames (x.args.drop k) (y.args.drop k) ∧ Below w.heap.size w wr) (fun i _ => n - (intOf i).toNat)
  case atStart => exact ⟨0, by omega, rfl, by rw [List.drop_zero, List.drop_zero], Below.refl _ _⟩
  case round =>
    obtain ⟨k, hkn, rfl, hsk, hb⟩ := hrel
    have HB := Lib.hid hb
    have HSK := Lib.hid hsk
    clear hsk
    by_cases hlk : k < n
    · obtain ⟨ga, fa, a, hA2, hga, ha, hsa, a0, a1, a2, a3, a4, a5, a6⟩ := (HX.out.keep hb).at_ (k := k) (by rw [HN.out]; exact hlk)
      obtain ⟨gb, fb, b, hB2, hgb, hbb, hsb, b0, b1, b2, b3, b4, b5, b6⟩ := (HY.out.keep hb).at_ (k := k) (by rw [HN2.out]; exact hlk)
      have HSD := Lib.hid (HSK.out.trans (exSames_drop ha hbb))
      obtain rfl : A = some ⟨ga, fa, none⟩ := by rw [← HA.out]; exact hA2
      obtain rfl : B = some ⟨gb, fb, none⟩ := by rw [← HBa.out]; exact hB2
      obtain ⟨w1, hw1, ho1, hb1, -⟩ := box_ex wr a
      obtain ⟨w2, hw2, -, hb2, -⟩ := box_ex w1 b
      have ho2 := own7_new w1 b
      rw [hw2] at ho2
      have ho12 := ho1.keep hb2
      obtain ⟨x0, x1, x2, x3, x4, x5, x6⟩ := ho12.cells
      obtain ⟨y0, y1, y2, y3, y4, y5, y6⟩ := ho2.cells
      obtain ⟨d0, d1, d2, d3, d4, d5, d6⟩ : w1.cell? ⟨gb, fb + k * 7, none⟩ = some (.string b.op) ∧ w1.cell? ⟨gb, fb + k * 7 + 1, none⟩ = some (.string b.name) ∧ w1.cell? ⟨gb, fb + k * 7 + 2, none⟩ = some (.int .i64 b.val.type) ∧ w1.cell? ⟨gb, fb + k * 7 + 3, none⟩ = some (.int .i64 b.val.n) ∧ w1.cell? ⟨gb, fb + k * 7 + 4, none⟩ = some (.string b.val.s) ∧ w1.cell? ⟨gb, fb + k * 7 + 5, none⟩ = some (.slice b.A b.args.length b.c) ∧ w1.cell? ⟨gb, fb + k * 7 + 6, none⟩ = some (.int .i64 b.pos) :=
        ⟨(hb1.cell hgb).trans b0, (hb1.cell hgb).trans b1, (hb1.cell hgb).trans b2, (hb1.cell hgb).trans b3, (hb1.cell hgb).trans b4, (hb1.cell hgb).trans b5, (hb1.cell hgb).trans b6⟩
      have HW1 := Lib.hid hw1
      have HW2 := Lib.hid hw2
      have HB2 := Lib.hid (below_step (below_step HB.out hb1) hb2)
      have T := Lib.hid (IH.out a b (HM.out a (List.mem_of_getElem? ha)) w2 ((hsa.keep hb1).keep hb2) ((hsb.keep hb1).keep hb2))
      unfold exV at T
      clear ha hbb hsa hsb hA2 hB2 hw1 hw2 hb1 hb2 ho1 ho2 ho12 hb
      cases hab : exSame a b with
      | true =>
        rw [hab] at T HSD
        rw [Bool.true_and] at HSD
        go_wp2_with (first | rw [HW1.out] | rw [HW2.out] | (go_at_call 28; refine (T.out).mono ?_; rintro e w3 ⟨rfl, hb3⟩; have HB3 := Lib.hid (below_step HB2.out hb3); clear hb3))
        go_roundw
        case rel => exact ⟨k + 1, by omega, by go_num, HSD.out, HB3.out⟩
        case measure => simp [intOf]; omega
      | false =>
        rw [hab] at T HSD
        rw [Bool.false_and] at HSD
        go_wp2_with (first | rw [HW1.out] | rw [HW2.out] | (go_at_call 28; refine (T.out).mono ?_; rintro e w3 ⟨rfl, hb3⟩; have HB3 := Lib.hid (below_step HB2.out hb3); clear hb3))
        go_ret
        rw [HSD.out]
        exact ⟨rfl, HB3.out⟩
    · clear hb
      have HE := Lib.hid (show exSames x.args y.args = true by rw [HSK.out, List.drop_eq_nil_of_le (by rw [HN.out]; omega), List.drop_eq_nil_of_le (by rw [HN2.out]; omega), exSames])
      go_wp2_with fail
      go_ret
      rw [HE.out]
      exact ⟨rfl, HB.out⟩
set_option maxHeartbeats 4000000 in
set_option maxRecDepth 100000 in
theorem like_step (m : Nat) (ih : LikeAt m) (op name : ByteArray) (v : Val) (A : Option Addr) (c : Nat) (args : List Ex) (pos : Int) (op2 name2 : ByteArray) (v2 : Val) (A2 : Option Addr) (c2 : Nat) (args2 : List Ex) (pos2 : Int) (hm : SizeOf.sizeOf (Ex.mk op name v A c args pos) ≤ m + 1) (w : World)
    (hx : SeesEx w (.mk op name v A c args pos)) (hy : SeesEx w (.mk op2 name2 v2 A2 c2 args2 pos2)) :
    Calls Tryz.prog 28 #[exV (.mk op name v A c args pos), exV (.mk op2 name2 v2 A2 c2 args2 pos2)] w fun e w' => e = .returned (.bool (exSame (.mk op name v A c args pos) (.mk op2 name2 v2 A2 c2 args2 pos2))) ∧ Below w.heap.size w w' := by
  obtain ⟨w1, hw1, ho1, hb1, hs1⟩ := box_ex w (.mk op name v A c args pos)
  obtain ⟨w2, hw2, -, hb2, -⟩ := box_ex w1 (.mk op2 name2 v2 A2 c2 args2 pos2)
  have ho2 := own7_new w1 (.mk op2 name2 v2 A2 c2 args2 pos2)
  rw [hw2] at ho2
  have hx12 := ho1.keep hb2
  have HB2 := Lib.hid (below_step hb1 hb2)
  have HRS := Lib.hid (exSame_eq (.mk op name v A c args pos) (.mk op2 name2 v2 A2 c2 args2 pos2))
  have T := Lib.hid (likeEx_any m ih (.mk op name v A c args pos) (.mk op2 name2 v2 A2 c2 args2 pos2) (fun a ha => by have := ex_lt (e := .mk op name v A c args pos) ha; omega) args.length args2.length rfl rfl w2 (hx.keep HB2.out) (hy.keep HB2.out))
  replace T : Hid (Calls Tryz.prog 84 #[.slice A args.length c, .slice A2 args2.length c2, .func (.func 28) #[] #[]] w2 fun e w' => e = .returned (.bool (exSames args args2)) ∧ Below w2.heap.size w2 w') := T
  replace HRS : Hid (exSame (.mk op name v A c args pos) (.mk op2 name2 v2 A2 c2 args2 pos2) = ((op.data.toList == op2.data.toList) && (name.data.toList == name2.data.toList) && (v.type == v2.type && v.n == v2.n && v.s.data.toList == v2.s.data.toList) && exSames args args2)) := HRS
  obtain ⟨x0, x1, x2, x3, x4, x5, x6⟩ := hx12.cells
  obtain ⟨y0, y1, y2, y3, y4, y5, y6⟩ := ho2.cells
  replace x0 : w2.cell? ⟨w.heap.size, 0, none⟩ = some (.string op) := x0
  replace x1 : w2.cell? ⟨w.heap.size, 1, none⟩ = some (.string name) := x1
  replace x2 : w2.cell? ⟨w.heap.size, 2, none⟩ = some (.int .i64 v.type) := x2
  replace x3 : w2.cell? ⟨w.heap.size, 3, none⟩ = some (.int .i64 v.n) := x3
  replace x4 : w2.cell? ⟨w.heap.size, 4, none⟩ = some (.string v.s) := x4
  replace x5 : w2.cell? ⟨w.heap.size, 5, none⟩ = some (.slice A args.length c) := x5
  replace y0 : w2.cell? ⟨w1.heap.size, 0, none⟩ = some (.string op2) := y0
  replace y1 : w2.cell? ⟨w1.heap.size, 1, none⟩ = some (.string name2) := y1
  replace y2 : w2.cell? ⟨w1.heap.size, 2, none⟩ = some (.int .i64 v2.type) := y2
  replace y3 : w2.cell? ⟨w1.heap.size, 3, none⟩ = some (.int .i64 v2.n) := y3
  replace y4 : w2.cell? ⟨w1.heap.size, 4, none⟩ = some (.string v2.s) := y4
  replace y5 : w2.cell? ⟨w1.heap.size, 5, none⟩ = some (.slice A2 args2.length c2) := y5
  show Calls Tryz.prog 28 #[.agg #[.string op, .string name, .int .i64 v.type, .int .i64 v.n, .string v.s, .slice A args.length c, .int .i64 pos], .agg #[.string op2, .string name2, .int .i64 v2.type, .int .i64 v2.n, .string v2.s, .slice A2 args2.length c2, .int .i64 pos2]] w _
  have HW1 : Hid (w.alloc (.cells #[.string op, .string name, .int .i64 v.type, .int .i64 v.n, .string v.s, .slice A args.length c, .int .i64 pos] 26) = w1) := Lib.hid hw1
  have HW2 : Hid (w1.alloc (.cells #[.string op2, .string name2, .int .i64 v2.type, .int .i64 v2.n, .string v2.s, .slice A2 args2.length c2, .int .i64 pos2] 26) = w2) := Lib.hid hw2
  generalize hr : exSames args args2 = r at T HRS
  generalize hq : exSame (.mk op name v A c args pos) (.mk op2 name2 v2 A2 c2 args2 pos2) = q at HRS ⊢
  clear hr hq
  generalize args.length = n at *
  generalize args2.length = n2 at *
  generalize v.type = vt at *
  generalize v.n = vn at *
  generalize v.s = vs at *
  generalize v2.type = vt2 at *
  generalize v2.n = vn2 at *
  generalize v2.s = vs2 at *
  have lx := hx12.lt
  have ly := ho2.lt
  clear ih hm hx hy hw1 hw2 hb1 hb2 ho1 ho2 hx12 x6 y6 hs1
  cases g1 : (op.toList == op2.toList) with
  | false => 
    have HG := Lib.hid (HRS.out)
    rw [show (op.data.toList == op2.data.toList) = false from (by rw [← Lib.toList_data, ← Lib.toList_data]; exact g1)] at HG
    simp only [Bool.false_and] at HG
    go_enter Tryz.func28, Tryz.ntmps28
    go_wp2_with (first | rw [HW1.out] | rw [HW2.out] | (go_at_call 84; refine (T.out).mono ?_; rintro e w3 ⟨rfl, hb3⟩; have HB3 := Lib.hid (below_step HB2.out hb3); clear hb3))
    go_ret
    rw [HG.out]
    exact ⟨rfl, HB2.out⟩
  | true =>
  cases g2 : (name.toList == name2.toList) with
  | false => 
    have HG := Lib.hid (HRS.out)
    rw [show (op.data.toList == op2.data.toList) = true from (by rw [← Lib.toList_data, ← Lib.toList_data]; exact g1), show (name.data.toList == name2.data.toList) = false from (by rw [← Lib.toList_data, ← Lib.toList_data]; exact g2)] at HG
    simp only [Bool.false_and, Bool.and_false] at HG
    go_enter Tryz.func28, Tryz.ntmps28
    go_wp2_with (first | rw [HW1.out] | rw [HW2.out] | (go_at_call 84; refine (T.out).mono ?_; rintro e w3 ⟨rfl, hb3⟩; have HB3 := Lib.hid (below_step HB2.out hb3); clear hb3))
    go_ret
    rw [HG.out]
    exact ⟨rfl, HB2.out⟩
  | true =>
  cases g3 : (vt == vt2) with
  | false => 
    have HG := Lib.hid (HRS.out)
    rw [show (op.data.toList == op2.data.toList) = true from (by rw [← Lib.toList_data, ← Lib.toList_data]; exact g1), show (name.data.toList == name2.data.toList) = true from (by rw [← Lib.toList_data, ← Lib.toList_data]; exact g2), g3] at HG
    simp only [Bool.false_and, Bool.and_true, Bool.and_false] at HG
    go_enter Tryz.func28, Tryz.ntmps28
    go_wp2_with (first | rw [HW1.out] | rw [HW2.out] | (go_at_call 84; refine (T.out).mono ?_; rintro e w3 ⟨rfl, hb3⟩; have HB3 := Lib.hid (below_step HB2.out hb3); clear hb3))
    go_ret
    rw [HG.out]
    exact ⟨rfl, HB2.out⟩
  | true =>
  cases g4 : (vn == vn2) with
  | false => 
    have HG := Lib.hid (HRS.out)
    rw [show (op.data.toList == op2.data.toList) = true from (by rw [← Lib.toList_data, ← Lib.toList_data]; exact g1), show (name.data.toList == name2.data.toList) = true from (by rw [← Lib.toList_data, ← Lib.toList_data]; exact g2), g3, g4] at HG
    simp only [Bool.false_and, Bool.and_true, Bool.and_false] at HG
    go_enter Tryz.func28, Tryz.ntmps28
    go_wp2_with (first | rw [HW1.out] | rw [HW2.out] | (go_at_call 84; refine (T.out).mono ?_; rintro e w3 ⟨rfl, hb3⟩; have HB3 := Lib.hid (below_step HB2.out hb3); clear hb3))
    go_ret
    rw [HG.out]
    exact ⟨rfl, HB2.out⟩
  | true =>
  cases g5 : (vs.toList == vs2.toList) with
  | false => 
    have HG := Lib.hid (HRS.out)
    rw [show (op.data.toList == op2.data.toList) = true from (by rw [← Lib.toList_data, ← Lib.toList_data]; exact g1), show (name.data.toList == name2.data.toList) = true from (by rw [← Lib.toList_data, ← Lib.toList_data]; exact g2), g3, g4, show (vs.data.toList == vs2.data.toList) = false from (by rw [← Lib.toList_data, ← Lib.toList_data]; exact g5)] at HG
    simp only [Bool.false_and, Bool.and_true, Bool.and_false] at HG
    go_enter Tryz.func28, Tryz.ntmps28
    go_wp2_with (first | rw [HW1.out] | rw [HW2.out] | (go_at_call 84; refine (T.out).mono ?_; rintro e w3 ⟨rfl, hb3⟩; have HB3 := Lib.hid (below_step HB2.out hb3); clear hb3))
    go_ret
    rw [HG.out]
    exact ⟨rfl, HB2.out⟩
  | true => 
    have HG := Lib.hid (HRS.out)
    rw [show (op.data.toList == op2.data.toList) = true from (by rw [← Lib.toList_data, ← Lib.toList_data]; exact g1), show (name.data.toList == name2.data.toList) = true from (by rw [← Lib.toList_data, ← Lib.toList_data]; exact g2), g3, g4, show (vs.data.toList == vs2.data.toList) = true from (by rw [← Lib.toList_data, ← Lib.toList_data]; exact g5)] at HG
    simp only [Bool.true_and, Bool.and_true] at HG
    go_enter Tryz.func28, Tryz.ntmps28
    go_wp2_with (first | rw [HW1.out] | rw [HW2.out] | (go_at_call 84; refine (T.out).mono ?_; rintro e w3 ⟨rfl, hb3⟩; have HB3 := Lib.hid (below_step HB2.out hb3); clear hb3))
    go_ret
    rw [HG.out]
    exact ⟨rfl, HB3.out⟩
theorem like_any : ∀ m : Nat, LikeAt m
  | 0 => fun x y hm _ _ _ => by cases x; simp at hm
  | m + 1 => fun x y hm w hx hy => by
    obtain ⟨op, name, v, A, c, args, pos⟩ := x
    obtain ⟨op2, name2, v2, A2, c2, args2, pos2⟩ := y
    exact like_step m (like_any m) op name v A c args pos op2 name2 v2 A2 c2 args2 pos2 hm w hx hy
end Go.Proofs.YtpbbkpfaphjdoaaGreatDoor
namespace Go.Proofs.YtpbbkpfaphjdoaaGreatDoor
open Go.ChangeShapes Go.WideShapes Go.ChangeAt Go.RowKit

def SameExAt (m : Nat) : Prop := ∀ x y : Ex, SizeOf.sizeOf x ≤ m → strip x = strip y → ∀ w : World, SeesEx w x → SeesEx w y → Calls Tryz.prog 21 #[exV x, exV y, .bool true] w fun e w' => e = .returned (.bool true) ∧ Below w.heap.size w w'
set_option maxHeartbeats 4000000 in
set_option maxRecDepth 100000 in
theorem sameEx_step (m : Nat) (ih : SameExAt m) (op name : ByteArray) (v : Val) (A A2 : Option Addr) (c c2 : Nat) (args args2 : List Ex) (pos : Int) (hm : SizeOf.sizeOf (Ex.mk op name v A c args pos) ≤ m + 1) (hs : strips args = strips args2) (w : World)
    (hx : SeesEx w (.mk op name v A c args pos)) (hy : SeesEx w (.mk op name v A2 c2 args2 pos)) :
    Calls Tryz.prog 21 #[exV (.mk op name v A c args pos), exV (.mk op name v A2 c2 args2 pos), .bool true] w fun e w' => e = .returned (.bool true) ∧ Below w.heap.size w w' := by
  have IH := Lib.hid ih
  have HM := Lib.hid (fun a (ha : a ∈ args) => show SizeOf.sizeOf a ≤ m by have := ex_lt (e := .mk op name v A c args pos) ha; omega)
  have HS := Lib.hid hs
  obtain ⟨w1, hw1, ho1, hb1, -⟩ := box_ex w (.mk op name v A c args pos)
  obtain ⟨w2, hw2, -, hb2, -⟩ := box_ex w1 (.mk op name v A2 c2 args2 pos)
  have ho2 := own7_new w1 (.mk op name v A2 c2 args2 pos)
  rw [hw2] at ho2
  have hx12 := ho1.keep hb2
  have hl : args2.length = args.length := by have := congrArg List.length hs; rw [strips_len, strips_len] at this; omega
  have HB2 := Lib.hid (below_step hb1 hb2)
  have HX := Lib.hid (hx.keep HB2.out)
  have HY := Lib.hid (hy.keep HB2.out)
  have hcap : args.length ≤ c := hx.parts.1.2.1
  have hmax : c ≤ maxLen := hx.parts.1.2.2.1
  have hcap2 : args.length ≤ c2 := by rw [← hl]; exact hy.parts.1.2.1
  have hmax2 : c2 ≤ maxLen := hy.parts.1.2.2.1
  unfold maxLen at hmax hmax2
  obtain ⟨x0, x1, x2, x3, x4, x5, x6⟩ := hx12.cells
  obtain ⟨y0, y1, y2, y3, y4, y5, y6⟩ := ho2.cells
  replace x0 : w2.cell? ⟨w.heap.size, 0, none⟩ = some (.string op) := x0
  replace x1 : w2.cell? ⟨w.heap.size, 1, none⟩ = some (.string name) := x1
  replace x2 : w2.cell? ⟨w.heap.size, 2, none⟩ = some (.int .i64 v.type) := x2
  replace x3 : w2.cell? ⟨w.heap.size, 3, none⟩ = some (.int .i64 v.n) := x3
  replace x4 : w2.cell? ⟨w.heap.size, 4, none⟩ = some (.string v.s) := x4
  replace x5 : w2.cell? ⟨w.heap.size, 5, none⟩ = some (.slice A args.length c) := x5
  replace x6 : w2.cell? ⟨w.heap.size, 6, none⟩ = some (.int .i64 pos) := x6
  replace y0 : w2.cell? ⟨w1.heap.size, 0, none⟩ = some (.string op) := y0
  replace y1 : w2.cell? ⟨w1.heap.size, 1, none⟩ = some (.string name) := y1
  replace y2 : w2.cell? ⟨w1.heap.size, 2, none⟩ = some (.int .i64 v.type) := y2
  replace y3 : w2.cell? ⟨w1.heap.size, 3, none⟩ = some (.int .i64 v.n) := y3
  replace y4 : w2.cell? ⟨w1.heap.size, 4, none⟩ = some (.string v.s) := y4
  replace y5 : w2.cell? ⟨w1.heap.size, 5, none⟩ = some (.slice A2 args2.length c2) := y5
  replace y6 : w2.cell? ⟨w1.heap.size, 6, none⟩ = some (.int .i64 pos) := y6
  show Calls Tryz.prog 21 #[.agg #[.string op, .string name, .int .i64 v.type, .int .i64 v.n, .string v.s, .slice A args.length c, .int .i64 pos], .agg #[.string op, .string name, .int .i64 v.type, .int .i64 v.n, .string v.s, .slice A2 args2.length c2, .int .i64 pos], .bool true] w _
  have HW1 : Hid (w.alloc (.cells #[.string op, .string name, .int .i64 v.type, .int .i64 v.n, .string v.s, .slice A args.length c, .int .i64 pos] 26) = w1) := Lib.hid hw1
  have HW2 : Hid (w1.alloc (.cells #[.string op, .string name, .int .i64 v.type, .int .i64 v.n, .string v.s, .slice A2 args2.length c2, .int .i64 pos] 26) = w2) := Lib.hid hw2
  rw [hl] at HW2 y5 ⊢
  have HX5 := Lib.hid x5
  have HY5 := Lib.hid y5
  obtain ⟨n, hn⟩ : ∃ n, args.length = n := ⟨_, rfl⟩
  have HLn := Lib.hid hn
  have HLn2 := Lib.hid (hl.trans hn)
  rw [hn] at HW1 HW2 x5 y5 HX5 HY5 hcap hcap2 ⊢
  have lx := hx12.lt
  have ly := ho2.lt
  clear ih hm hs hx hy hw1 hw2 hb1 hb2 ho1 ho2 hx12 hl hn
  go_enter Tryz.func21, Tryz.ntmps21
  go_wp2_with (first | rw [HW1.out] | rw [HW2.out])
  clear x0 x1 x2 x3 x4 x5 x6 y0 y1 y2 y3 y4 y5 y6
  go_loopw [7] (fun i wr => ∃ k : Nat, k ≤ n ∧ i = .int .i64 k ∧ Below w2.heap.size w2 wr) (fun i _ => n - (intOf i).toNat)
  case atStart => exact ⟨0, by omega, rfl, Below.refl _ _⟩
  case round =>
    obtain ⟨k, hkn, rfl, hb⟩ := hrel
    have HB := Lib.hid hb
    have x5 := (hb.cell (p := ⟨w.heap.size, 5, none⟩) lx).trans HX5.out
    have y5 := (hb.cell (p := ⟨w1.heap.size, 5, none⟩) ly).trans HY5.out
    by_cases hlk : k < n
    · obtain ⟨ga, fa, a, (rfl : A = _), hga, ha, hsa, a0, a1, a2, a3, a4, a5, a6⟩ := (HX.out.keep hb).at_ (k := k) (by show k < args.length; rw [HLn.out]; exact hlk)
      obtain ⟨gb, fb, b, (rfl : A2 = _), hgb, hbb, hsb, b0, b1, b2, b3, b4, b5, b6⟩ := (HY.out.keep hb).at_ (k := k) (by show k < args2.length; rw [HLn2.out]; exact hlk)
      replace ha : args[k]? = some a := ha
      replace hbb : args2[k]? = some b := hbb
      have hab : strip a = strip b := by
        have := congrArg (·[k]?) HS.out
        simp only [strips_map, List.getElem?_map, ha, hbb] at this
        simpa using this
      have T := Lib.hid (IH.out a b (HM.out a (List.mem_of_getElem? ha)) hab wr.drew (hsa.keep (Below.refl _ _).drew) (hsb.keep (Below.refl _ _).drew))
      unfold exV at T
      clear ha hbb hsa hsb hab hb
      go_wp2_with fail
      go_still_tail 11, (by kernel_rfl)
      change wpList _ _ _ _ _ wr.drew
      go_wp2_with fail
      refine (T.out).mono ?_
      rintro e w3 ⟨rfl, hb3⟩
      have HB3 := Lib.hid (HB.out.trans (((Below.refl wr.heap.size wr).drew.trans hb3).mono HB.out.size))
      clear hb3
      go_wp2_with fail
      go_roundw
      case rel => exact ⟨k + 1, by omega, by go_num, HB3.out⟩
      case measure => simp [intOf]; omega
    · clear hb
      go_wp2_with fail
      go_ret
      exact ⟨rfl, below_step HB2.out HB.out⟩
theorem sameExpr_any : ∀ m : Nat, SameExAt m
  | 0 => fun x y hm _ _ _ _ => by cases x; simp at hm
  | m + 1 => fun x y hm hs w hx hy => by
    obtain ⟨op, name, v, A, c, args, pos⟩ := x
    obtain ⟨A2, c2, args2, rfl, h6⟩ := strip_inj hs
    exact sameEx_step m (sameExpr_any m) op name v A A2 c c2 args args2 pos hm h6 w hx hy
def LikeExAt (m : Nat) : Prop := ∀ x y : Ex, SizeOf.sizeOf x ≤ m → ∀ w : World, SeesEx w x → SeesEx w y → Calls Tryz.prog 21 #[exV x, exV y, .bool false] w fun e w' => e = .returned (.bool (exSame x y)) ∧ Below w.heap.size w w'
set_option maxHeartbeats 4000000 in
set_option maxRecDepth 100000 in
theorem likeEx_step (m : Nat) (ih : LikeExAt m) (op name : ByteArray) (v : Val) (A A2 : Option Addr) (c c2 : Nat) (args args2 : List Ex) (pos : Int) (op2 name2 : ByteArray) (v2 : Val) (pos2 : Int) (hm : SizeOf.sizeOf (Ex.mk op name v A c args pos) ≤ m + 1) (w : World)
    (hx : SeesEx w (.mk op name v A c args pos)) (hy : SeesEx w (.mk op2 name2 v2 A2 c2 args2 pos2)) :
    Calls Tryz.prog 21 #[exV (.mk op name v A c args pos), exV (.mk op2 name2 v2 A2 c2 args2 pos2), .bool false] w fun e w' => e = .returned (.bool (exSame (.mk op name v A c args pos) (.mk op2 name2 v2 A2 c2 args2 pos2))) ∧ Below w.heap.size w w' := by
  have IH := Lib.hid ih
  have HM := Lib.hid (fun a (ha : a ∈ args) => show SizeOf.sizeOf a ≤ m by have := ex_lt (e := .mk op name v A c args pos) ha; omega)
  have HRS := Lib.hid (show exSame (.mk op name v A c args pos) (.mk op2 name2 v2 A2 c2 args2 pos2) = ((op.data.toList == op2.data.toList) && (name.data.toList == name2.data.toList) && (v.type == v2.type && v.n == v2.n && v.s.data.toList == v2.s.data.toList) && exSames args args2) from exSame_eq _ _)
  obtain ⟨w1, hw1, ho1, hb1, -⟩ := box_ex w (.mk op name v A c args pos)
  obtain ⟨w2, hw2, -, hb2, -⟩ := box_ex w1 (.mk op2 name2 v2 A2 c2 args2 pos2)
  have ho2 := own7_new w1 (.mk op2 name2 v2 A2 c2 args2 pos2)
  rw [hw2] at ho2
  have hx12 := ho1.keep hb2
  have HB2 := Lib.hid (below_step hb1 hb2)
  have HX := Lib.hid (hx.keep HB2.out)
  have HY := Lib.hid (hy.keep HB2.out)
  have hcap : args.length ≤ c := hx.parts.1.2.1
  have hmax : c ≤ maxLen := hx.parts.1.2.2.1
  have hcap2 : args2.length ≤ c2 := hy.parts.1.2.1
  have hmax2 : c2 ≤ maxLen := hy.parts.1.2.2.1
  unfold maxLen at hmax hmax2
  obtain ⟨x0, x1, x2, x3, x4, x5, x6⟩ := hx12.cells
  obtain ⟨y0, y1, y2, y3, y4, y5, y6⟩ := ho2.cells
  replace x0 : w2.cell? ⟨w.heap.size, 0, none⟩ = some (.string op) := x0
  replace x1 : w2.cell? ⟨w.heap.size, 1, none⟩ = some (.string name) := x1
  replace x2 : w2.cell? ⟨w.heap.size, 2, none⟩ = some (.int .i64 v.type) := x2
  replace x3 : w2.cell? ⟨w.heap.size, 3, none⟩ = some (.int .i64 v.n) := x3
  replace x4 : w2.cell? ⟨w.heap.size, 4, none⟩ = some (.string v.s) := x4
  replace x5 : w2.cell? ⟨w.heap.size, 5, none⟩ = some (.slice A args.length c) := x5
  replace x6 : w2.cell? ⟨w.heap.size, 6, none⟩ = some (.int .i64 pos) := x6
  replace y0 : w2.cell? ⟨w1.heap.size, 0, none⟩ = some (.string op2) := y0
  replace y1 : w2.cell? ⟨w1.heap.size, 1, none⟩ = some (.string name2) := y1
  replace y2 : w2.cell? ⟨w1.heap.size, 2, none⟩ = some (.int .i64 v2.type) := y2
  replace y3 : w2.cell? ⟨w1.heap.size, 3, none⟩ = some (.int .i64 v2.n) := y3
  replace y4 : w2.cell? ⟨w1.heap.size, 4, none⟩ = some (.string v2.s) := y4
  replace y5 : w2.cell? ⟨w1.heap.size, 5, none⟩ = some (.slice A2 args2.length c2) := y5
  replace y6 : w2.cell? ⟨w1.heap.size, 6, none⟩ = some (.int .i64 pos2) := y6
  show Calls Tryz.prog 21 #[.agg #[.string op, .string name, .int .i64 v.type, .int .i64 v.n, .string v.s, .slice A args.length c, .int .i64 pos], .agg #[.string op2, .string name2, .int .i64 v2.type, .int .i64 v2.n, .string v2.s, .slice A2 args2.length c2, .int .i64 pos2], .bool false] w _
  have HW1 : Hid (w.alloc (.cells #[.string op, .string name, .int .i64 v.type, .int .i64 v.n, .string v.s, .slice A args.length c, .int .i64 pos] 26) = w1) := Lib.hid hw1
  have HW2 : Hid (w1.alloc (.cells #[.string op2, .string name2, .int .i64 v2.type, .int .i64 v2.n, .string v2.s, .slice A2 args2.length c2, .int .i64 pos2] 26) = w2) := Lib.hid hw2
  have HX5 := Lib.hid x5
  have HY5 := Lib.hid y5
  obtain ⟨n, hn⟩ : ∃ n, args.length = n := ⟨_, rfl⟩
  obtain ⟨n2, hn2⟩ : ∃ n2, args2.length = n2 := ⟨_, rfl⟩
  have HLn := Lib.hid hn
  have HLn2 := Lib.hid hn2
  have HDF := Lib.hid (fun h : n ≠ n2 => exSames_len args args2 (by rw [hn, hn2]; exact h))
  rw [hn] at HW1 x5 HX5 hcap ⊢
  rw [hn2] at HW2 y5 HY5 hcap2 ⊢
  have lx := hx12.lt
  have ly := ho2.lt
  generalize hq : exSame (.mk op name v A c args pos) (.mk op2 name2 v2 A2 c2 args2 pos2) = q at HRS ⊢
  clear hq
  generalize hsq : exSames args args2 = sq at HRS HDF
  have HSQ := Lib.hid hsq
  clear hsq
  generalize v.type = vt at *
  generalize v.n = vn at *
  generalize v.s = vs at *
  generalize v2.type = vt2 at *
  generalize v2.n = vn2 at *
  generalize v2.s = vs2 at *
  clear ih hm hx hy hw1 hw2 hb1 hb2 ho1 ho2 hx12 hn hn2
  cases g1 : (op.toList == op2.toList) with
  | false =>
    have HG := Lib.hid (show q = false from by
      rw [HRS.out, show (op.data.toList == op2.data.toList) = false from (by rw [← Lib.toList_data, ← Lib.toList_data]; exact g1)]
      simp)
    go_enter Tryz.func21, Tryz.ntmps21
    go_wp2_with (first | rw [HW1.out] | rw [HW2.out])
    go_ret
    rw [HG.out]
    exact ⟨rfl, HB2.out⟩
  | true =>
  cases g2 : (name.toList == name2.toList) with
  | false =>
    have HG := Lib.hid (show q = false from by
      rw [HRS.out, show (op.data.toList == op2.data.toList) = true from (by rw [← Lib.toList_data, ← Lib.toList_data]; exact g1), show (name.data.toList == name2.data.toList) = false from (by rw [← Lib.toList_data, ← Lib.toList_data]; exact g2)]
      simp)
    go_enter Tryz.func21, Tryz.ntmps21
    go_wp2_with (first | rw [HW1.out] | rw [HW2.out])
    go_ret
    rw [HG.out]
    exact ⟨rfl, HB2.out⟩
  | true =>
  cases g3 : (vt == vt2) with
  | false =>
    have HG := Lib.hid (show q = false from by
      rw [HRS.out, show (op.data.toList == op2.data.toList) = true from (by rw [← Lib.toList_data, ← Lib.toList_data]; exact g1), show (name.data.toList == name2.data.toList) = true from (by rw [← Lib.toList_data, ← Lib.toList_data]; exact g2), show (vt == vt2) = false from g3]
      simp)
    go_enter Tryz.func21, Tryz.ntmps21
    go_wp2_with (first | rw [HW1.out] | rw [HW2.out])
    go_ret
    rw [HG.out]
    exact ⟨rfl, HB2.out⟩
  | true =>
  cases g4 : (vn == vn2) with
  | false =>
    have HG := Lib.hid (show q = false from by
      rw [HRS.out, show (op.data.toList == op2.data.toList) = true from (by rw [← Lib.toList_data, ← Lib.toList_data]; exact g1), show (name.data.toList == name2.data.toList) = true from (by rw [← Lib.toList_data, ← Lib.toList_data]; exact g2), show (vt == vt2) = true from g3, show (vn == vn2) = false from g4]
      simp)
    go_enter Tryz.func21, Tryz.ntmps21
    go_wp2_with (first | rw [HW1.out] | rw [HW2.out])
    go_ret
    rw [HG.out]
    exact ⟨rfl, HB2.out⟩
  | true =>
  cases g5 : (vs.toList == vs2.toList) with
  | false =>
    have HG := Lib.hid (show q = false from by
      rw [HRS.out, show (op.data.toList == op2.data.toList) = true from (by rw [← Lib.toList_data, ← Lib.toList_data]; exact g1), show (name.data.toList == name2.data.toList) = true from (by rw [← Lib.toList_data, ← Lib.toList_data]; exact g2), show (vt == vt2) = true from g3, show (vn == vn2) = true from g4, show (vs.data.toList == vs2.data.toList) = false from (by rw [← Lib.toList_data, ← Lib.toList_data]; exact g5)]
      simp)
    go_enter Tryz.func21, Tryz.ntmps21
    go_wp2_with (first | rw [HW1.out] | rw [HW2.out])
    go_ret
    rw [HG.out]
    exact ⟨rfl, HB2.out⟩
  | true =>
  by_cases hnn : n = n2
  rotate_left
  · have g6 : ((n : Int) != n2) = true := by simp; omega
    have HG := Lib.hid (show q = false from by rw [HRS.out, HDF.out hnn, Bool.and_false])
    clear hnn
    go_enter Tryz.func21, Tryz.ntmps21
    go_wp2_with (first | rw [HW1.out] | rw [HW2.out])
    go_ret
    rw [HG.out]
    exact ⟨rfl, HB2.out⟩
  subst hnn
  have g6 : ((n : Int) != n) = false := by simp
  have HG := Lib.hid (show q = sq from by
    rw [HRS.out, show (op.data.toList == op2.data.toList) = true from (by rw [← Lib.toList_data, ← Lib.toList_data]; exact g1), show (name.data.toList == name2.data.toList) = true from (by rw [← Lib.toList_data, ← Lib.toList_data]; exact g2), g3, g4, show (vs.data.toList == vs2.data.toList) = true from (by rw [← Lib.toList_data, ← Lib.toList_data]; exact g5)]
    simp)
  go_enter Tryz.func21, Tryz.ntmps21
  go_wp2_with (first | rw [HW1.out] | rw [HW2.out])
  clear x0 x1 x2 x3 x4 x5 x6 y0 y1 y2 y3 y4 y5 y6
  go_loopw [7] (fun i wr => ∃ k : Nat, k ≤ n ∧ i = .int .i64 k ∧ sq = exSames (args.drop k) (args2.drop k) ∧ Below w2.heap.size w2 wr) (fun i _ => n - (intOf i).toNat)
  case atStart => exact ⟨0, by omega, rfl, by rw [List.drop_zero, List.drop_zero]; exact HSQ.out.symm, Below.refl _ _⟩
  case round =>
    obtain ⟨k, hkn, rfl, hsk, hb⟩ := hrel
    have HSK := Lib.hid hsk
    clear hsk
    have HB := Lib.hid hb
    have x5 := (hb.cell (p := ⟨w.heap.size, 5, none⟩) lx).trans HX5.out
    have y5 := (hb.cell (p := ⟨w1.heap.size, 5, none⟩) ly).trans HY5.out
    by_cases hlk : k < n
    · obtain ⟨ga, fa, a, (rfl : A = _), hga, ha, hsa, a0, a1, a2, a3, a4, a5, a6⟩ := (HX.out.keep hb).at_ (k := k) (by show k < args.length; rw [HLn.out]; exact hlk)
      obtain ⟨gb, fb, b, (rfl : A2 = _), hgb, hbb, hsb, b0, b1, b2, b3, b4, b5, b6⟩ := (HY.out.keep hb).at_ (k := k) (by show k < args2.length; rw [HLn2.out]; exact hlk)
      replace ha : args[k]? = some a := ha
      replace hbb : args2[k]? = some b := hbb
      have HSD := Lib.hid (HSK.out.trans (exSames_drop ha hbb))
      have T := Lib.hid (IH.out a b (HM.out a (List.mem_of_getElem? ha)) wr.drew (hsa.keep (Below.refl _ _).drew) (hsb.keep (Below.refl _ _).drew))
      unfold exV at T
      clear ha hbb hsa hsb hb
      cases hab : exSame a b with
      | true =>
          rw [hab] at T HSD
          rw [Bool.true_and] at HSD
          clear hab
          go_wp2_with fail
          go_still_tail 11, (by kernel_rfl)
          change wpList _ _ _ _ _ wr.drew
          go_wp2_with fail
          refine (T.out).mono ?_
          rintro e w3 ⟨rfl, hb3⟩
          have HB3 := Lib.hid (HB.out.trans (((Below.refl wr.heap.size wr).drew.trans hb3).mono HB.out.size))
          clear hb3
          go_wp2_with fail
          go_roundw
          case rel => exact ⟨k + 1, by omega, by go_num, HSD.out, HB3.out⟩
          case measure => simp [intOf]; omega
      | false =>
          rw [hab] at T HSD
          rw [Bool.false_and] at HSD
          clear hab
          go_wp2_with fail
          go_still_tail 11, (by kernel_rfl)
          change wpList _ _ _ _ _ wr.drew
          go_wp2_with fail
          refine (T.out).mono ?_
          rintro e w3 ⟨rfl, hb3⟩
          have HB3 := Lib.hid (HB.out.trans (((Below.refl wr.heap.size wr).drew.trans hb3).mono HB.out.size))
          clear hb3
          go_wp2_with fail
          go_ret
          rw [HG.out, HSD.out]
          exact ⟨rfl, below_step HB2.out HB3.out⟩
    · clear hb
      have HE := Lib.hid (show sq = true by rw [HSK.out, List.drop_eq_nil_of_le (by rw [HLn.out]; omega), List.drop_eq_nil_of_le (by rw [HLn2.out]; omega), exSames])
      go_wp2_with fail
      go_ret
      rw [HG.out, HE.out]
      exact ⟨rfl, below_step HB2.out HB.out⟩
theorem likeExpr_any : ∀ m : Nat, LikeExAt m
  | 0 => fun x y hm _ _ _ => by cases x; simp at hm
  | m + 1 => fun x y hm w hx hy => by
    obtain ⟨op, name, v, A, c, args, pos⟩ := x
    obtain ⟨op2, name2, v2, A2, c2, args2, pos2⟩ := y
    exact likeEx_step m (likeExpr_any m) op name v A A2 c c2 args args2 pos op2 name2 v2 pos2 hm w hx hy
end Go.Proofs.YtpbbkpfaphjdoaaGreatDoor
