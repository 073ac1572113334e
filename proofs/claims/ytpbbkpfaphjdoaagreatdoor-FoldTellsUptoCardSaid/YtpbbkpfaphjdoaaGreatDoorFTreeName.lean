/- tree.Size, walked: how many nodes, as a number of 64 bits. tree.below and tree.full, walked: how many are below each other, whether there are more than may be. The listed table tree.words as a walk sees it; tree.Name, walked. -/
import Derived.Test.YtpbbkpfaphjdoaaGreatDoorFEx
import Derived.Test.YtpbbkpfaphjdoaaGreatDoorFArity
import Derived.Test.YtpbbkpfaphjdoaaGreatDoorFRowName
namespace Go.Proofs.YtpbbkpfaphjdoaaGreatDoor
open Go.ChangeShapes Go.WideShapes Go.ChangeAt Go.RowKit
mutual
def exSize : Ex → Int
 | .mk _ _ _ _ _ l _ => exSizes 1 l
def exSizes : Int → List Ex → Int
 | n, [] => n
 | n, a :: l => exSizes (wrap64 (n + exSize a)) l
end
theorem exSize_eq (e : Ex) : exSize e = exSizes 1 e.args := by cases e; rw [exSize]; rfl
theorem exSizes_snoc : ∀ (l : List Ex) (n : Int) (a : Ex), exSizes n (l ++ [a]) = wrap64 (exSizes n l + exSize a)
 | [], n, a => by simp [exSizes]
 | x :: l, n, a => by
  rw [List.cons_append, exSizes, exSizes]
  exact exSizes_snoc l _ a
theorem exSizes_take {l : List Ex} {n : Int} {k : Nat} {a : Ex} (h : l[k]? = some a) : exSizes n (l.take (k + 1)) = wrap64 (exSizes n (l.take k) + exSize a) := by
 rw [List.take_add_one, h]; exact exSizes_snoc _ _ _
set_option maxHeartbeats 4000000 in
set_option maxRecDepth 100000 in
theorem tsize_any : ∀ (m : Nat) (e : Ex), SizeOf.sizeOf e ≤ m → ∀ (w : World), SeesEx w e →
  Calls Tryz.prog 148 #[exV e] w fun r w' => r = .returned (.int .i64 (exSize e)) ∧ Below w.heap.size w w'
 | 0, e, hm, w, _ => by cases e; simp at hm
 | m + 1, .mk op name v A c args pos, hm, w, he => by
  have IH := Lib.hid (tsize_any m)
  have HM := Lib.hid (fun a (ha : a ∈ args) => show SizeOf.sizeOf a ≤ m by have := ex_lt (e := .mk op name v A c args pos) ha; omega)
  have hb0 : Below w.heap.size w (w.alloc (.cells #[.string op, .string name, .int .i64 v.type, .int .i64 v.n, .string v.s, .slice A args.length c, .int .i64 pos] 26)) := (Below.refl _ _).alloc (Nat.le_refl _) _
  have HE := Lib.hid (he.keep hb0)
  have HB := Lib.hid hb0
  have hcap : args.length ≤ c := he.parts.1.2.1
  have hmax : c ≤ maxLen := he.parts.1.2.2.1
  unfold maxLen at hmax
  have HS := Lib.hid (exSize_eq (.mk op name v A c args pos))
  show Calls Tryz.prog 148 #[.agg #[.string op, .string name, .int .i64 v.type, .int .i64 v.n, .string v.s, .slice A args.length c, .int .i64 pos]] w _
  generalize hn : args.length = n at hcap HE HB ⊢
  have HLn := Lib.hid hn
  clear hm he hb0 hn
  go_enter Tryz.func148, Tryz.ntmps148
  go_wp2_with fail
  generalize w.alloc (.cells #[.string op, .string name, .int .i64 v.type, .int .i64 v.n, .string v.s, .slice A n c, .int .i64 pos] 26) = w0 at HE HB ⊢
  go_loopw [3, 9] (fun s i wr => ∃ k : Nat, k ≤ n ∧ i = .int .i64 k ∧ s = .int .i64 (exSizes 1 (args.take k)) ∧ Below w0.heap.size w0 wr) (fun _ i _ => n - (intOf i).toNat)
  case atStart => exact ⟨0, by omega, rfl, rfl, Below.refl _ _⟩
  case round =>
   obtain ⟨k, hk, rfl, rfl, hb⟩ := hrel
   have HBR := Lib.hid hb
   by_cases hlk : k < n
   ·obtain ⟨g, o, x, (rfl : A = _), hg, hx, hsx, c0, c1, c2, c3, c4, c5, c6⟩ := (HE.out.keep hb).at_ (k := k) (by show k < args.length; rw [HLn.out]; exact hlk)
    have HX := Lib.hid (show args[k]? = some x from hx)
    have hbx : Below wr.heap.size wr (wr.alloc (.cells #[.string x.op, .string x.name, .int .i64 x.val.type, .int .i64 x.val.n, .string x.val.s, .slice x.A x.args.length x.c, .int .i64 x.pos] 26)) := (Below.refl _ _).alloc (Nat.le_refl _) _
    have T := Lib.hid (IH.out x (HM.out x (List.mem_of_getElem? HX.out)) _ (hsx.keep hbx))
    have HBX := Lib.hid hbx
    have E := Lib.hid (exSizes_take (n := 1) HX.out)
    clear hb hx hsx hbx
    go_wp2_with fail
    refine (T.out).mono ?_
    rintro e' w1 ⟨rfl, hb1⟩
    have HB1 := Lib.hid (below_step (below_step HBR.out HBX.out) hb1)
    clear hb1
    go_wp2_with fail
    go_roundw
    case rel => exact ⟨k + 1, by omega, by go_num, by rw [E.out], HB1.out⟩
    case measure => simp [intOf]; omega
   ·obtain rfl : n = k := by omega
    have htk : args.take n = args := List.take_of_length_le (by rw [HLn.out]; exact Nat.le_refl _)
    rw [htk]
    clear hb htk
    go_wp2_with fail
    go_ret
    exact ⟨by rw [HS.out]; rfl, below_step HB.out HBR.out⟩
end Go.Proofs.YtpbbkpfaphjdoaaGreatDoor
namespace Go.Proofs.YtpbbkpfaphjdoaaGreatDoor
open Go.ChangeShapes Go.WideShapes Go.ChangeAt Go.RowKit
def exBelow : Nat → Ex → Bool
 | 0, _ => false
 | n + 1, e => !(e.args.any fun a => !exBelow n a)
theorem exBelow_all (n : Nat) (e : Ex) : exBelow (n + 1) e = e.args.all (exBelow n) := by
 rw [exBelow, List.not_any_eq_all_not]; simp
def BelowAt (m : Nat) : Prop := ∀ (e : Ex) (w : World) (i : Int), i = m → SeesEx w e →
 Calls Tryz.prog 149 #[exV e, .int .i64 i] w fun r w' => r = .returned (.bool (exBelow m e)) ∧ Below w.heap.size w w'
set_option maxRecDepth 100000 in
theorem below1_any (m : Nat) (IH : BelowAt m) (e : Ex) (b : Nat) (w : World) (he : SeesEx w e) (hc : w.cell? ⟨b, 0, none⟩ = some (.int .i64 ((m : Int) + 1))) (hlt : b < w.heap.size) (hm : m ≤ 1000) :
  Calls Tryz.prog 190 #[exV e, .pointer (some ⟨b, 0, none⟩)] w fun r w' => r = .returned (.bool (!exBelow m e)) ∧ Below w.heap.size w w' := by
 obtain ⟨op, name, v, A, c, args, pos⟩ := e
 have hb0 : Below w.heap.size w (w.alloc (.cells #[.string op, .string name, .int .i64 v.type, .int .i64 v.n, .string v.s, .slice A args.length c, .int .i64 pos] 26)) := (Below.refl _ _).alloc (Nat.le_refl _) _
 have T := Lib.hid (IH _ _ (m : Int) rfl (he.keep hb0))
 have HB := Lib.hid hb0
 have c0 : (w.alloc (.cells #[.string op, .string name, .int .i64 v.type, .int .i64 v.n, .string v.s, .slice A args.length c, .int .i64 pos] 26)).cell? ⟨b, 0, none⟩ = some (.int .i64 ((m : Int) + 1)) := (hb0.cell (p := ⟨b, 0, none⟩) hlt).trans hc
 clear he hb0 hc hlt
 show Calls Tryz.prog 190 #[.agg #[.string op, .string name, .int .i64 v.type, .int .i64 v.n, .string v.s, .slice A args.length c, .int .i64 pos], .pointer (some ⟨b, 0, none⟩)] w _
 generalize exBelow m (.mk op name v A c args pos) = r at T ⊢
 go_enter Tryz.func190, Tryz.ntmps190
 go_wp2_with fail
 refine (T.out).mono ?_
 rintro e w1 ⟨rfl, hb1⟩
 have HB1 := Lib.hid (below_step HB.out hb1)
 clear hb1
 go_wp2_with fail
 go_ret
 exact ⟨rfl, HB1.out⟩
set_option maxHeartbeats 1000000 in
set_option maxRecDepth 100000 in
theorem idx_below (m : Nat) (IH : BelowAt m) (e : Ex) (b : Nat) (w : World) (he : SeesEx w e) (hc : w.cell? ⟨b, 0, none⟩ = some (.int .i64 ((m : Int) + 1))) (hlt : b < w.heap.size) (hm : m ≤ 1000) :
  Calls Tryz.prog 110 #[.slice e.A e.args.length e.c, .func (.func 190) #[] #[.pointer (some ⟨b, 0, none⟩)]] w
   fun r w' => r = .returned (.int .i64 (findB (fun a => !exBelow m a) e.args)) ∧ Below w.heap.size w w' := by
 obtain ⟨op, name, v, A, c, args, pos⟩ := e
 have HE := Lib.hid he
 have HC := Lib.hid hc
 have HI := Lib.hid IH
 have hcap : args.length ≤ c := he.parts.1.2.1
 have hmax : c ≤ maxLen := he.parts.1.2.2.1
 unfold maxLen at hmax
 show Calls Tryz.prog 110 #[.slice A args.length c, .func (.func 190) #[] #[.pointer (some ⟨b, 0, none⟩)]] w
   fun r w' => r = .returned (.int .i64 (findB (fun a => !exBelow m a) args)) ∧ Below w.heap.size w w'
 generalize hn : args.length = n at hcap HE ⊢
 have HLn := Lib.hid hn
 clear he hn hc IH
 go_enter Tryz.func110, Tryz.ntmps110
 go_wp2_with fail
 go_loopw [5, 8] (fun _ i wr => ∃ k : Nat, k ≤ n ∧ i = .int .i64 k ∧ (∀ x ∈ args.take k, (!exBelow m x) = false) ∧ Below w.heap.size w wr) (fun _ i _ => n - (intOf i).toNat)
 case atStart => exact ⟨0, by omega, rfl, by simp, Below.refl _ _⟩
 case round =>
  obtain ⟨k, hk, rfl, hno, hb⟩ := hrel
  have HN := Lib.hid hno
  have HBR := Lib.hid hb
  clear hno
  by_cases hlk : k < n
  ·obtain ⟨g, o, x, (rfl : A = _), hg, hx, hsx, c0, c1, c2, c3, c4, c5, c6⟩ := (HE.out.keep hb).at_ (k := k) (by show k < args.length; rw [HLn.out]; exact hlk)
   have HX := Lib.hid (show args[k]? = some x from hx)
   have T := Lib.hid (below1_any m HI.out x b wr hsx ((hb.cell (p := ⟨b, 0, none⟩) hlt).trans HC.out) (Nat.lt_of_lt_of_le hlt hb.size) hm)
   unfold exV at T
   clear hb hx hsx
   generalize hB : (!exBelow m x) = r at T
   cases r with
   | true =>
    have E := Lib.hid (findB_some HN.out HX.out hB)
    clear hB
    go_wp2_with fail
    refine (T.out).mono ?_
    rintro e' w1 ⟨rfl, hb1⟩
    have HB1 := Lib.hid (below_step HBR.out hb1)
    clear hb1
    go_wp2_with fail
    go_ret
    exact ⟨by rw [E.out]; rfl, HB1.out⟩
   | false =>
    have HB := Lib.hid hB
    clear hB
    go_wp2_with fail
    refine (T.out).mono ?_
    rintro e' w1 ⟨rfl, hb1⟩
    have HB1 := Lib.hid (below_step HBR.out hb1)
    clear hb1
    go_wp2_with fail
    go_roundw
    case rel => exact ⟨k + 1, by omega, by go_num, take_next HN.out HX.out HB.out, HB1.out⟩
    case measure => simp [intOf]; omega
  ·have E := Lib.hid (findB_none (p := fun a => !exBelow m a) (l := args) (by have := HN.out; rwa [List.take_of_length_le (by rw [HLn.out]; omega)] at this))
   clear hb
   go_wp2_with fail
   go_ret
   exact ⟨by rw [E.out]; rfl, HBR.out⟩
set_option maxRecDepth 100000 in
theorem any_below (m : Nat) (IH : BelowAt m) (e : Ex) (b : Nat) (w : World) (he : SeesEx w e) (hc : w.cell? ⟨b, 0, none⟩ = some (.int .i64 ((m : Int) + 1))) (hlt : b < w.heap.size) (hm : m ≤ 1000) :
  Calls Tryz.prog 42 #[.slice e.A e.args.length e.c, .func (.func 190) #[] #[.pointer (some ⟨b, 0, none⟩)]] w
   fun r w' => r = .returned (.bool (e.args.any fun a => !exBelow m a)) ∧ Below w.heap.size w w' := by
 have T := Lib.hid (idx_below m IH e b w he hc hlt hm)
 have E := Lib.hid (findB_any (fun a => !exBelow m a) e.args)
 clear he hc IH
 generalize e.args.length = n at T ⊢
 generalize findB (fun a => !exBelow m a) e.args = r at T E ⊢
 go_enter Tryz.func42, Tryz.ntmps42
 go_wp2_with fail
 refine (T.out).mono ?_
 rintro e' w1 ⟨rfl, hb1⟩
 have HB1 := Lib.hid hb1
 clear hb1
 go_wp2_with fail
 go_ret
 exact ⟨by rw [← E.out]; rfl, HB1.out⟩
set_option maxHeartbeats 1000000 in
set_option maxRecDepth 100000 in
theorem below_zero (e : Ex) (w : World) : Calls Tryz.prog 149 #[exV e, .int .i64 0] w fun r w' => r = .returned (.bool false) ∧ Below w.heap.size w w' := by
 obtain ⟨op, name, v, A, c, args, pos⟩ := e
 have hb0 : Below w.heap.size w ((w.alloc (.cells #[.string op, .string name, .int .i64 v.type, .int .i64 v.n, .string v.s, .slice A args.length c, .int .i64 pos] 26)).alloc (.cells #[.int .i64 0] 3)) := ((Below.refl _ _).alloc (Nat.le_refl _) _).alloc (by simp) _
 have HB := Lib.hid hb0
 clear hb0
 show Calls Tryz.prog 149 #[.agg #[.string op, .string name, .int .i64 v.type, .int .i64 v.n, .string v.s, .slice A args.length c, .int .i64 pos], .int .i64 0] w _
 generalize args.length = n at HB ⊢
 go_enter Tryz.func149, Tryz.ntmps149
 go_wp2_with fail
 go_ret
 exact ⟨rfl, HB.out⟩
set_option maxHeartbeats 1000000 in
set_option maxRecDepth 100000 in
theorem below_next (m : Nat) (hm : m < 1000) (IH : BelowAt m) (e : Ex) (w : World) (he : SeesEx w e) :
  Calls Tryz.prog 149 #[exV e, .int .i64 ((m : Int) + 1)] w fun r w' => r = .returned (.bool (exBelow (m + 1) e)) ∧ Below w.heap.size w w' := by
 obtain ⟨op, name, v, A, c, args, pos⟩ := e
 have hb0 : Below w.heap.size w ((w.alloc (.cells #[.string op, .string name, .int .i64 v.type, .int .i64 v.n, .string v.s, .slice A args.length c, .int .i64 pos] 26)).alloc (.cells #[.int .i64 ((m : Int) + 1)] 3)) := ((Below.refl _ _).alloc (Nat.le_refl _) _).alloc (by simp) _
 have T := Lib.hid (any_below m IH (.mk op name v A c args pos) (w.heap.size + 1) _ (he.keep hb0) (by simp) (by simp) (by omega))
 have HB := Lib.hid hb0
 have E := Lib.hid (show exBelow (m + 1) (.mk op name v A c args pos) = !(args.any fun a => !exBelow m a) by rw [exBelow]; rfl)
 have dm : decide (0 < (m : Int) + 1) = true := decide_eq_true (by omega)
 clear hb0 he IH
 show Calls Tryz.prog 149 #[.agg #[.string op, .string name, .int .i64 v.type, .int .i64 v.n, .string v.s, .slice A args.length c, .int .i64 pos], .int .i64 ((m : Int) + 1)] w _
 rw [E.out]
 unfold Ex.A Ex.c Ex.args at T
 generalize args.length = n at T HB ⊢
 generalize (args.any fun a => !exBelow m a) = r at T ⊢
 generalize (m : Int) + 1 = i at *
 go_enter Tryz.func149, Tryz.ntmps149
 go_wp2_with fail
 refine (T.out).mono ?_
 rintro e' w1 ⟨rfl, hb1⟩
 have HB1 := Lib.hid (below_step HB.out hb1)
 clear hb1
 go_wp2_with fail
 go_ret
 exact ⟨rfl, HB1.out⟩
theorem below_any : ∀ m : Nat, m ≤ 1000 → BelowAt m
 | 0, _ => fun e w i hi _ => by subst hi; exact below_zero e w
 | m + 1, hm => fun e w i hi he => by
  obtain rfl : i = (m : Int) + 1 := by omega
  exact below_next m (by omega) (below_any m (by omega)) e w he
def fullB (e : Ex) : Bool := decide (200 < exSize e) || !exBelow 30 e
set_option maxRecDepth 100000 in
theorem full_any (e : Ex) (w : World) (he : SeesEx w e) : Calls Tryz.prog 83 #[exV e] w fun r w' => r = .returned (.bool (fullB e)) ∧ Below w.heap.size w w' := by
 obtain ⟨op, name, v, A, c, args, pos⟩ := e
 have hb0 : Below w.heap.size w (w.alloc (.cells #[.string op, .string name, .int .i64 v.type, .int .i64 v.n, .string v.s, .slice A args.length c, .int .i64 pos] 26)) := (Below.refl _ _).alloc (Nat.le_refl _) _
 have HE := Lib.hid (he.keep hb0)
 have HB := Lib.hid hb0
 have T := Lib.hid (tsize_any _ _ (Nat.le_refl _) _ HE.out)
 unfold exV at T
 clear he hb0
 show Calls Tryz.prog 83 #[.agg #[.string op, .string name, .int .i64 v.type, .int .i64 v.n, .string v.s, .slice A args.length c, .int .i64 pos]] w _
 have C := Lib.hid (fun (w1 : World) (hb : Below (w.alloc (.cells #[.string op, .string name, .int .i64 v.type, .int .i64 v.n, .string v.s, .slice A args.length c, .int .i64 pos] 26)).heap.size (w.alloc (.cells #[.string op, .string name, .int .i64 v.type, .int .i64 v.n, .string v.s, .slice A args.length c, .int .i64 pos] 26)) w1) (j : Nat) => hb.cell (p := ⟨w.heap.size, j, none⟩) (by simp))
 by_cases h : 200 < exSize (.mk op name v A c args pos)
 ·have hd : decide (200 < exSize (.mk op name v A c args pos)) = true := by simpa using h
  have E := Lib.hid (show fullB (.mk op name v A c args pos) = true by unfold fullB; rw [hd]; rfl)
  generalize exSize (.mk op name v A c args pos) = sz at T hd
  clear h
  go_enter Tryz.func83, Tryz.ntmps83
  go_wp2_with fail
  refine (T.out).mono ?_
  rintro e' w1 ⟨rfl, hb1⟩
  have HB1 := Lib.hid (below_step HB.out hb1)
  clear hb1
  go_wp2_with fail
  go_ret
  exact ⟨by rw [E.out]; rfl, HB1.out⟩
 ·have hd : decide (200 < exSize (.mk op name v A c args pos)) = false := by simpa using h
  have E := Lib.hid (show fullB (.mk op name v A c args pos) = !exBelow 30 (.mk op name v A c args pos) by unfold fullB; rw [hd]; rfl)
  generalize exSize (.mk op name v A c args pos) = sz at T hd
  clear h
  go_enter Tryz.func83, Tryz.ntmps83
  go_wp2_with fail
  refine (T.out).mono ?_
  rintro e' w1 ⟨rfl, hb1⟩
  have HB1 := Lib.hid (below_step HB.out hb1)
  have T2 := Lib.hid (below_any 30 (by omega) _ _ 30 rfl (HE.out.keep hb1))
  unfold exV at T2
  have d0 := (C.out w1 hb1 0).trans (show _ = some (.string op) by simp)
  have d1 := (C.out w1 hb1 1).trans (show _ = some (.string name) by simp)
  have d2 := (C.out w1 hb1 2).trans (show _ = some (.int .i64 v.type) by simp)
  have d3 := (C.out w1 hb1 3).trans (show _ = some (.int .i64 v.n) by simp)
  have d4 := (C.out w1 hb1 4).trans (show _ = some (.string v.s) by simp)
  have d5 := (C.out w1 hb1 5).trans (show _ = some (.slice A args.length c) by simp)
  have d6 := (C.out w1 hb1 6).trans (show _ = some (.int .i64 pos) by simp)
  clear hb1
  go_wp2_with fail
  refine (T2.out).mono ?_
  rintro e' w2 ⟨rfl, hb2⟩
  have HB2 := Lib.hid (below_step HB1.out hb2)
  clear hb2
  go_wp2_with fail
  go_ret
  exact ⟨by rw [E.out]; rfl, HB2.out⟩
end Go.Proofs.YtpbbkpfaphjdoaaGreatDoor
namespace Go.Proofs.YtpbbkpfaphjdoaaGreatDoor
open Go.ChangeShapes Go.WideShapes Go.ChangeAt Go.RowKit
def wordsL : List (List UInt8) := [[111, 114], [97, 110, 100], [110, 111, 116], [116, 114, 117, 101], [102, 97, 108, 115, 101], [108, 101, 110], [105, 102], [115, 101, 108, 101, 99, 116], [97, 115], [102, 114, 111, 109], [119, 104, 101, 114, 101], [103, 114, 111, 117, 112], [98, 121], [119, 105, 110, 100, 111, 119], [115, 108, 105, 100, 101], [99, 111, 117, 110, 116], [115, 117, 109], [108, 101, 97, 115, 116], [109, 111, 115, 116]]
def wordsB : List ByteArray := wordsL.map mkB
def WordsT (w : World) : Prop := Sees w (some ⟨4, 0, none⟩) 19 19 1 (strCells wordsB)
theorem WordsT.keep {w w' : World} (h : WordsT w) (hb : Below w.heap.size w w') : WordsT w' := Sees.keep h hb
theorem gWords : Tryz.prog.globalNamed "sluicebook/tree.words" = some 4 := by kernel_rfl
theorem tWords : (Tryz.prog.globals[4]?).map (·.type) = some 237 := by kernel_rfl
theorem wordsT_of {W : World} {l : List (String × DataW Unit)} (h : laidMet Tryz.prog l W) (hx : ("sluicebook/tree.words", Rows.laid_sluicebook_tree_words) ∈ l) : WordsT W := by
 obtain ⟨g, t, cs, fuel, p, hg, ht, hv, hd⟩ := laid_var h hx
 obtain rfl := Option.some.inj (gWords.symm.trans hg)
 obtain rfl := Option.some.inj (tWords.symm.trans ht)
 have hd' : DataW.trod (fun _ => ()) Tryz.prog W 0 (fun _ => true) false fuel 237 cs.toList = some (.agg (wordsL.map litS), p) := hd
 have hel := open_arr_strs Tryz.underlying237 Tryz.underlying9 cellsS hd'
 have hc : ∀ (i : Nat) (s : ByteArray), wordsB[i]? = some s → W.cell? ⟨4, i, none⟩ = some (.string s) := by
  intro i s hs
  unfold wordsB at hs
  rw [List.getElem?_map] at hs
  obtain ⟨l, hl, rfl⟩ := Option.map_eq_some_iff.1 hs
  have hi : i < 19 := (List.getElem?_eq_some_iff.1 hl).1
  have := hel i l hl hi
  rw [World.var?_cell hg hv i, ← Array.getElem?_toList]
  exact this
 refine ⟨rfl, Nat.le_refl _, by unfold maxLen; omega, (fun e => by cases e), fun _ => ⟨_, _, rfl, World.block_lt_of_cell? W _ (hc 0 _ rfl), fun j u hu => ?_⟩⟩
 obtain ⟨s, hs, rfl⟩ := strCells_at hu
 rw [Nat.zero_add]
 exact hc j s hs
def treeName (s : ByteArray) : Bool := nameOk s.data.toList && !Lib.containsS wordsB s
set_option maxHeartbeats 1000000 in
theorem tname_any (s : ByteArray) (w : World) (hW : WordsT w) (hs : s.size ≤ maxLen) : Calls Tryz.prog 168 #[.string s] w fun e w' => e = .returned (.bool (treeName s)) ∧ Below w.heap.size w w' := by
 have T := Lib.hid (rname_any s w hs)
 have HW := Lib.hid hW
 unfold treeName
 clear hW
 generalize nameOk s.data.toList = r at T ⊢
 cases r with
 | true =>
  go_enter Tryz.func168, Tryz.ntmps168
  go_wp2_with fail
  refine (T.out).mono ?_
  rintro e w1 ⟨rfl, hb1⟩
  have HB1 := Lib.hid hb1
  have HW1 := Lib.hid (HW.out.keep hb1)
  clear hb1
  go_wp2_with fail
  refine (contains_any _ _ _ _ _ _ HW1.out).mono ?_
  rintro e w' ⟨rfl, rfl⟩
  go_wp2_with fail
  go_ret
  exact ⟨rfl, HB1.out⟩
 | false =>
  go_enter Tryz.func168, Tryz.ntmps168
  go_wp2_with fail
  refine (T.out).mono ?_
  rintro e w1 ⟨rfl, hb1⟩
  have HB1 := Lib.hid hb1
  clear hb1
  go_wp2_with fail
  go_ret
  exact ⟨rfl, HB1.out⟩
end Go.Proofs.YtpbbkpfaphjdoaaGreatDoor
