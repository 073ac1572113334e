/- tree.Same, walked, over two expressions that are the same but for where they lie. tree.Same, walked, over any two expressions. sluicesame.Expr, walked: over two expressions that are the same but for where they lie; over any two, but for where they stand. -/
import Derived.Test.YtpbbkpfaphjdoaaGreatDoorFExOwn
import Derived.Test.YtpbbkpfaphjdoaaGreatDoorFCheck
import Derived.Deep.QuietTactic
import Derived.BigQuiet
import Derived.BigRegion
import Derived.StillTailTactics
namespace Go.Proofs.YtpbbkpfaphjdoaaGreatDoor
open Go.ChangeShapes Go.WideShapes Go.ChangeAt Go.RowKit
set_option maxHeartbeats 4000000 in
set_option maxRecDepth 100000 in
theorem strip_inj {op name : ByteArray} {v : Val} {A : Option Addr} {c : Nat} {args : List Ex} {pos : Int} {y : Ex} (h : strip (.mk op name v A c args pos) = strip y) : ∃ A2 c2 args2, y = .mk op name v A2 c2 args2 pos ∧ strips args = strips args2 := by
 obtain ⟨op2, name2, v2, A2, c2, args2, pos2⟩ := y
 rw [strip_mk, strip_mk] at h
 injection h with h1 h2 h3 h4 h5 h6 h7
 subst h1 h2 h3 h7
 exact ⟨A2, c2, args2, rfl, h6⟩
end Go.Proofs.YtpbbkpfaphjdoaaGreatDoor
namespace Go.Proofs.YtpbbkpfaphjdoaaGreatDoor
open Go.ChangeShapes Go.WideShapes Go.ChangeAt Go.RowKit
end Go.Proofs.YtpbbkpfaphjdoaaGreatDoor
namespace Go.Proofs.YtpbbkpfaphjdoaaGreatDoor
open Go.ChangeShapes Go.WideShapes Go.ChangeAt Go.RowKit
def SameExAt (m : Nat) : Prop := ∀ x y : Ex, SizeOf.sizeOf x ≤ m → strip x = strip y → ∀ w : World, SeesEx w x → SeesEx w y → Calls Tryz.prog 21 #[exV x, exV y, .bool true] w fun e w' => e = .returned (.bool true) ∧ Below w.heap.size w w'
set_option maxHeartbeats 4000000 in
set_option maxRecDepth 100000 in
theorem sameEx_step (m : Nat) (ih : SameExAt m) (op name : ByteArray) (v : Val) (A A2 : Option Addr) (c c2 : Nat) (args args2 : List Ex) (pos : Int) (hm : SizeOf.sizeOf (Ex.mk op name v A c args pos) ≤ m + 1) (hs : strips args = strips args2) (w : World)
  (hx : SeesEx w (.mk op name v A c args pos)) (hy : SeesEx w (.mk op name v A2 c2 args2 pos)) :
  Calls Tryz.prog 21 #[exV (.mk op name v A c args pos), exV (.mk op name v A2 c2 args2 pos), .bool true] w fun e w' => e = .returned (.bool true) ∧ Below w.heap.size w w' := by
 have IH := Lib.hid ih
 have HM := Lib.hid (fun a (ha : a ∈ args) => show SizeOf.sizeOf a ≤ m by have := ex_lt (e := .mk op name v A c args pos) ha; omega)
 have HS := Lib.hid hs
 obtain ⟨w1, hw1, ho1, hb1, -⟩ := box_ex w (.mk op name v A c args pos)
 obtain ⟨w2, hw2, -, hb2, -⟩ := box_ex w1 (.mk op name v A2 c2 args2 pos)
 have ho2 := own7_new w1 (.mk op name v A2 c2 args2 pos)
 rw [hw2] at ho2
 have hx12 := ho1.keep hb2
 have hl : args2.length = args.length := by have := congrArg List.length hs; rw [strips_len, strips_len] at this; omega
 have HB2 := Lib.hid (below_step hb1 hb2)
 have HX := Lib.hid (hx.keep HB2.out)
 have HY := Lib.hid (hy.keep HB2.out)
 have hcap : args.length ≤ c := hx.parts.1.2.1
 have hmax : c ≤ maxLen := hx.parts.1.2.2.1
 have hcap2 : args.length ≤ c2 := by rw [← hl]; exact hy.parts.1.2.1
 have hmax2 : c2 ≤ maxLen := hy.parts.1.2.2.1
 unfold maxLen at hmax hmax2
 obtain ⟨x0, x1, x2, x3, x4, x5, x6⟩ := hx12.cells
 obtain ⟨y0, y1, y2, y3, y4, y5, y6⟩ := ho2.cells
 replace x0 : w2.cell? ⟨w.heap.size, 0, none⟩ = some (.string op) := x0
 replace x1 : w2.cell? ⟨w.heap.size, 1, none⟩ = some (.string name) := x1
 replace x2 : w2.cell? ⟨w.heap.size, 2, none⟩ = some (.int .i64 v.type) := x2
 replace x3 : w2.cell? ⟨w.heap.size, 3, none⟩ = some (.int .i64 v.n) := x3
 replace x4 : w2.cell? ⟨w.heap.size, 4, none⟩ = some (.string v.s) := x4
 replace x5 : w2.cell? ⟨w.heap.size, 5, none⟩ = some (.slice A args.length c) := x5
 replace x6 : w2.cell? ⟨w.heap.size, 6, none⟩ = some (.int .i64 pos) := x6
 replace y0 : w2.cell? ⟨w1.heap.size, 0, none⟩ = some (.string op) := y0
 replace y1 : w2.cell? ⟨w1.heap.size, 1, none⟩ = some (.string name) := y1
 replace y2 : w2.cell? ⟨w1.heap.size, 2, none⟩ = some (.int .i64 v.type) := y2
 replace y3 : w2.cell? ⟨w1.heap.size, 3, none⟩ = some (.int .i64 v.n) := y3
 replace y4 : w2.cell? ⟨w1.heap.size, 4, none⟩ = some (.string v.s) := y4
 replace y5 : w2.cell? ⟨w1.heap.size, 5, none⟩ = some (.slice A2 args2.length c2) := y5
 replace y6 : w2.cell? ⟨w1.heap.size, 6, none⟩ = some (.int .i64 pos) := y6
 show Calls Tryz.prog 21 #[.agg #[.string op, .string name, .int .i64 v.type, .int .i64 v.n, .string v.s, .slice A args.length c, .int .i64 pos], .agg #[.string op, .string name, .int .i64 v.type, .int .i64 v.n, .string v.s, .slice A2 args2.length c2, .int .i64 pos], .bool true] w _
 have HW1 : Hid (w.alloc (.cells #[.string op, .string name, .int .i64 v.type, .int .i64 v.n, .string v.s, .slice A args.length c, .int .i64 pos] 26) = w1) := Lib.hid hw1
 have HW2 : Hid (w1.alloc (.cells #[.string op, .string name, .int .i64 v.type, .int .i64 v.n, .string v.s, .slice A2 args2.length c2, .int .i64 pos] 26) = w2) := Lib.hid hw2
 rw [hl] at HW2 y5 ⊢
 have HX5 := Lib.hid x5
 have HY5 := Lib.hid y5
 obtain ⟨n, hn⟩ : ∃ n, args.length = n := ⟨_, rfl⟩
 have HLn := Lib.hid hn
 have HLn2 := Lib.hid (hl.trans hn)
 rw [hn] at HW1 HW2 x5 y5 HX5 HY5 hcap hcap2 ⊢
 have lx := hx12.lt
 have ly := ho2.lt
 clear ih hm hs hx hy hw1 hw2 hb1 hb2 ho1 ho2 hx12 hl hn
 go_enter Tryz.func21, Tryz.ntmps21
 go_wp2_with (first | rw [HW1.out] | rw [HW2.out])
 clear x0 x1 x2 x3 x4 x5 x6 y0 y1 y2 y3 y4 y5 y6
 go_loopw [7] (fun i wr => ∃ k : Nat, k ≤ n ∧ i = .int .i64 k ∧ Below w2.heap.size w2 wr) (fun i _ => n - (intOf i).toNat)
 case atStart => exact ⟨0, by omega, rfl, Below.refl _ _⟩
 case round =>
  obtain ⟨k, hkn, rfl, hb⟩ := hrel
  have HB := Lib.hid hb
  have x5 := (hb.cell (p := ⟨w.heap.size, 5, none⟩) lx).trans HX5.out
  have y5 := (hb.cell (p := ⟨w1.heap.size, 5, none⟩) ly).trans HY5.out
  by_cases hlk : k < n
  ·obtain ⟨ga, fa, a, (rfl : A = _), hga, ha, hsa, a0, a1, a2, a3, a4, a5, a6⟩ := (HX.out.keep hb).at_ (k := k) (by show k < args.length; rw [HLn.out]; exact hlk)
   obtain ⟨gb, fb, b, (rfl : A2 = _), hgb, hbb, hsb, b0, b1, b2, b3, b4, b5, b6⟩ := (HY.out.keep hb).at_ (k := k) (by show k < args2.length; rw [HLn2.out]; exact hlk)
   replace ha : args[k]? = some a := ha
   replace hbb : args2[k]? = some b := hbb
   have hab : strip a = strip b := by
    have := congrArg (·[k]?) HS.out
    simp only [strips_map, List.getElem?_map, ha, hbb] at this
    simpa using this
   have T := Lib.hid (IH.out a b (HM.out a (List.mem_of_getElem? ha)) hab wr.drew (hsa.keep (Below.refl _ _).drew) (hsb.keep (Below.refl _ _).drew))
   unfold exV at T
   clear ha hbb hsa hsb hab hb
   go_wp2_with fail
   go_still_tail 11, (by kernel_rfl)
   change wpList _ _ _ _ _ wr.drew
   go_wp2_with fail
   refine (T.out).mono ?_
   rintro e w3 ⟨rfl, hb3⟩
   have HB3 := Lib.hid (HB.out.trans (((Below.refl wr.heap.size wr).drew.trans hb3).mono HB.out.size))
   clear hb3
   go_wp2_with fail
   go_roundw
   case rel => exact ⟨k + 1, by omega, by go_num, HB3.out⟩
   case measure => simp [intOf]; omega
  ·clear hb
   go_wp2_with fail
   go_ret
   exact ⟨rfl, below_step HB2.out HB.out⟩
theorem sameExpr_any : ∀ m : Nat, SameExAt m
 | 0 => fun x y hm _ _ _ _ => by cases x; simp at hm
 | m + 1 => fun x y hm hs w hx hy => by
  obtain ⟨op, name, v, A, c, args, pos⟩ := x
  obtain ⟨A2, c2, args2, rfl, h6⟩ := strip_inj hs
  exact sameEx_step m (sameExpr_any m) op name v A A2 c c2 args args2 pos hm h6 w hx hy
end Go.Proofs.YtpbbkpfaphjdoaaGreatDoor
