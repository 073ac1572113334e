/- tree.Same, walked, over two expressions that are the same but for where they lie. -/
import Derived.Test.YtpbbkpfaphjdoaaDoorSameEx
namespace Go.Proofs.YtpbbkpfaphjdoaaDoor
open Go.ChangeShapes Go.WideShapes Go.ChangeAt Go.RowKit

def SameAt (m : Nat) : Prop := ∀ x y : Ex, SizeOf.sizeOf x ≤ m → strip x = strip y → ∀ w : World, SeesEx w x → SeesEx w y → Calls Tryd.prog 20 #[exV x, exV y] w fun e w' => e = .returned (.bool true) ∧ Below w.heap.size w w'
set_option maxHeartbeats 4000000 in
set_option maxRecDepth 100000 in
theorem equalEx_any (m : Nat) (ih : SameAt m) (x y : Ex) (hm : ∀ a ∈ x.args, SizeOf.sizeOf a ≤ m) (hs : strips x.args = strips y.args) (n : Nat) (hn : x.args.length = n) (w : World) (hx : SeesEx w x) (hy : SeesEx w y) :
    Calls Tryd.prog 54 #[.slice x.A n x.c, .slice y.A n y.c, .func (.func 20) #[] #[]] w fun e w' => e = .returned (.bool true) ∧ Below w.heap.size w w' := by
  have IH := Lib.hid ih
  have HM := Lib.hid hm
  have HS := Lib.hid hs
  have HX := Lib.hid hx
  have HY := Lib.hid hy
  have HN := Lib.hid hn
  have HN2 := Lib.hid (show y.args.length = n by have := congrArg List.length hs; rw [strips_len, strips_len] at this; omega)
  have hcap : n ≤ x.c := by have := hx.parts.1.2.1; omega
  have hmax := hx.parts.1.2.2.1
  have hcap2 : n ≤ y.c := by have := hy.parts.1.2.1; have := HN2.out; omega
  have hmax2 := hy.parts.1.2.2.1
  unfold maxLen at hmax hmax2
  have e0 : ((n : Int) != n) = false := by simp
  generalize hA : x.A = A at *
  generalize hB : y.A = B at *
  generalize x.c = c at hcap hmax ⊢
  generalize y.c = d at hcap2 hmax2 ⊢
  have HA := Lib.hid hA
  have HBa := Lib.hid hB
  clear ih hm hs hx hy hn hA hB
  go_enter Tryd.func54, Tryd.ntmps54
  go_wp2_with fail
  go_loopw [17] (fun i wr => ∃ k : Nat, k ≤ n ∧ i = .int .i64 k ∧ Below w.heap.size w wr) (fun i _ => n - (intOf i).toNat)
  case atStart => exact ⟨0, by omega, rfl, Below.refl _ _⟩
  case round =>
    obtain ⟨k, hkn, rfl, hb⟩ := hrel
    have HB := Lib.hid hb
    by_cases hlk : k < n
    · obtain ⟨ga, fa, a, hA2, hga, ha, hsa, a0, a1, a2, a3, a4, a5, a6⟩ := (HX.out.keep hb).at_ (k := k) (by rw [HN.out]; exact hlk)
      obtain ⟨gb, fb, b, hB2, hgb, hbb, hsb, b0, b1, b2, b3, b4, b5, b6⟩ := (HY.out.keep hb).at_ (k := k) (by rw [HN2.out]; exact hlk)
      have hab : strip a = strip b := by
        have := congrArg (·[k]?) HS.out
        simp only [strips_map, List.getElem?_map, ha, hbb] at this
        simpa using this
      obtain rfl : A = some ⟨ga, fa, none⟩ := by rw [← HA.out]; exact hA2
      obtain rfl : B = some ⟨gb, fb, none⟩ := by rw [← HBa.out]; exact hB2
      obtain ⟨w1, hw1, ho1, hb1, -⟩ := box_ex wr a
      obtain ⟨w2, hw2, -, hb2, -⟩ := box_ex w1 b
      have ho2 := own7_new w1 b
      rw [hw2] at ho2
      have ho12 := ho1.keep hb2
      obtain ⟨x0, x1, x2, x3, x4, x5, x6⟩ := ho12.cells
      obtain ⟨y0, y1, y2, y3, y4, y5, y6⟩ := ho2.cells
      obtain ⟨d0, d1, d2, d3, d4, d5, d6⟩ : w1.cell? ⟨gb, fb + k * 7, none⟩ = some (.string b.op) ∧ w1.cell? ⟨gb, fb + k * 7 + 1, none⟩ = some (.string b.name) ∧ w1.cell? ⟨gb, fb + k * 7 + 2, none⟩ = some (.int .i64 b.val.type) ∧ w1.cell? ⟨gb, fb + k * 7 + 3, none⟩ = some (.int .i64 b.val.n) ∧ w1.cell? ⟨gb, fb + k * 7 + 4, none⟩ = some (.string b.val.s) ∧ w1.cell? ⟨gb, fb + k * 7 + 5, none⟩ = some (.slice b.A b.args.length b.c) ∧ w1.cell? ⟨gb, fb + k * 7 + 6, none⟩ = some (.int .i64 b.pos) :=
        ⟨(hb1.cell hgb).trans b0, (hb1.cell hgb).trans b1, (hb1.cell hgb).trans b2, (hb1.cell hgb).trans b3, (hb1.cell hgb).trans b4, (hb1.cell hgb).trans b5, (hb1.cell hgb).trans b6⟩
      have HW1 := Lib.hid hw1
      have HW2 := Lib.hid hw2
      have HB2 := Lib.hid (below_step (below_step HB.out hb1) hb2)
      have T := Lib.hid (IH.out a b (HM.out a (List.mem_of_getElem? ha)) hab w2 ((hsa.keep hb1).keep hb2) ((hsb.keep hb1).keep hb2))
      unfold exV at T
      clear ha hbb hsa hsb hab hA2 hB2 hw1 hw2 hb1 hb2 ho1 ho2 ho12 hb
      go_wp2_with (first | rw [HW1.out] | rw [HW2.out] | (go_at_call 20; refine (T.out).mono ?_; rintro e w3 ⟨rfl, hb3⟩; have HB3 := Lib.hid (below_step HB2.out hb3); clear hb3))
      go_roundw
      case rel => exact ⟨k + 1, by omega, by go_num, HB3.out⟩
      case measure => simp [intOf]; omega
    · clear hb
      go_wp2_with fail
      go_ret
      exact ⟨rfl, HB.out⟩
set_option maxHeartbeats 4000000 in
set_option maxRecDepth 100000 in
theorem same_step (m : Nat) (ih : SameAt m) (op name : ByteArray) (v : Val) (A A2 : Option Addr) (c c2 : Nat) (args args2 : List Ex) (pos : Int) (hm : SizeOf.sizeOf (Ex.mk op name v A c args pos) ≤ m + 1) (hs : strips args = strips args2) (w : World)
    (hx : SeesEx w (.mk op name v A c args pos)) (hy : SeesEx w (.mk op name v A2 c2 args2 pos)) :
    Calls Tryd.prog 20 #[exV (.mk op name v A c args pos), exV (.mk op name v A2 c2 args2 pos)] w fun e w' => e = .returned (.bool true) ∧ Below w.heap.size w w' := by
  obtain ⟨w1, hw1, ho1, hb1, hs1⟩ := box_ex w (.mk op name v A c args pos)
  obtain ⟨w2, hw2, -, hb2, -⟩ := box_ex w1 (.mk op name v A2 c2 args2 pos)
  have ho2 := own7_new w1 (.mk op name v A2 c2 args2 pos)
  rw [hw2] at ho2
  have hx12 := ho1.keep hb2
  have hl : args2.length = args.length := by have := congrArg List.length hs; rw [strips_len, strips_len] at this; omega
  have HB2 := Lib.hid (below_step hb1 hb2)
  have T := Lib.hid (equalEx_any m ih (.mk op name v A c args pos) (.mk op name v A2 c2 args2 pos) (fun a ha => by have := ex_lt (e := .mk op name v A c args pos) ha; omega) hs args.length rfl w2 (hx.keep HB2.out) (hy.keep HB2.out))
  replace T : Hid (Calls Tryd.prog 54 #[.slice A args.length c, .slice A2 args.length c2, .func (.func 20) #[] #[]] w2 fun e w' => e = .returned (.bool true) ∧ Below w2.heap.size w2 w') := T
  obtain ⟨x0, x1, x2, x3, x4, x5, x6⟩ := hx12.cells
  obtain ⟨y0, y1, y2, y3, y4, y5, y6⟩ := ho2.cells
  replace x0 : w2.cell? ⟨w.heap.size, 0, none⟩ = some (.string op) := x0
  replace x1 : w2.cell? ⟨w.heap.size, 1, none⟩ = some (.string name) := x1
  replace x2 : w2.cell? ⟨w.heap.size, 2, none⟩ = some (.int .i64 v.type) := x2
  replace x3 : w2.cell? ⟨w.heap.size, 3, none⟩ = some (.int .i64 v.n) := x3
  replace x4 : w2.cell? ⟨w.heap.size, 4, none⟩ = some (.string v.s) := x4
  replace x5 : w2.cell? ⟨w.heap.size, 5, none⟩ = some (.slice A args.length c) := x5
  replace y0 : w2.cell? ⟨w1.heap.size, 0, none⟩ = some (.string op) := y0
  replace y1 : w2.cell? ⟨w1.heap.size, 1, none⟩ = some (.string name) := y1
  replace y2 : w2.cell? ⟨w1.heap.size, 2, none⟩ = some (.int .i64 v.type) := y2
  replace y3 : w2.cell? ⟨w1.heap.size, 3, none⟩ = some (.int .i64 v.n) := y3
  replace y4 : w2.cell? ⟨w1.heap.size, 4, none⟩ = some (.string v.s) := y4
  replace y5 : w2.cell? ⟨w1.heap.size, 5, none⟩ = some (.slice A2 args2.length c2) := y5
  show Calls Tryd.prog 20 #[.agg #[.string op, .string name, .int .i64 v.type, .int .i64 v.n, .string v.s, .slice A args.length c, .int .i64 pos], .agg #[.string op, .string name, .int .i64 v.type, .int .i64 v.n, .string v.s, .slice A2 args2.length c2, .int .i64 pos]] w _
  have HW1 : Hid (w.alloc (.cells #[.string op, .string name, .int .i64 v.type, .int .i64 v.n, .string v.s, .slice A args.length c, .int .i64 pos] 57) = w1) := Lib.hid hw1
  have HW2 : Hid (w1.alloc (.cells #[.string op, .string name, .int .i64 v.type, .int .i64 v.n, .string v.s, .slice A2 args2.length c2, .int .i64 pos] 57) = w2) := Lib.hid hw2
  rw [hl] at HW2 y5 ⊢
  generalize args.length = n at *
  have lx := hx12.lt
  have ly := ho2.lt
  clear ih hm hs hx hy hw1 hw2 hb1 hb2 ho1 ho2 hx12 hl x6 y6 hs1
  go_enter Tryd.func20, Tryd.ntmps20
  go_wp2_with (first | rw [HW1.out] | rw [HW2.out] | (go_at_call 54; refine (T.out).mono ?_; rintro e w3 ⟨rfl, hb3⟩; have HB3 := Lib.hid (below_step HB2.out hb3); clear hb3))
  go_ret
  exact ⟨rfl, HB3.out⟩
theorem same_any : ∀ m : Nat, SameAt m
  | 0 => fun x y hm _ _ _ _ => by cases x; simp at hm
  | m + 1 => fun x y hm hs w hx hy => by
    obtain ⟨op, name, v, A, c, args, pos⟩ := x
    obtain ⟨A2, c2, args2, rfl, h6⟩ := strip_inj hs
    exact same_step m (same_any m) op name v A A2 c c2 args args2 pos hm h6 w hx hy
end Go.Proofs.YtpbbkpfaphjdoaaDoor
