/- tree.below and tree.full, walked: how many are below each other, whether there are more than may be. -/
import Derived.Test.YteoheaahlokdiaaDoorTreeSize
namespace Go.Proofs.YteoheaahlokdiaaDoor
open Go.ChangeShapes Go.WideShapes Go.ChangeAt Go.RowKit

def exBelow : Nat → Ex → Bool
  | 0, _ => false
  | n + 1, e => !(e.args.any fun a => !exBelow n a)
theorem exBelow_all (n : Nat) (e : Ex) : exBelow (n + 1) e = e.args.all (exBelow n) := by
  rw [exBelow, List.not_any_eq_all_not]; simp

/-- What the walk needs of a call of below, one less. -/
def BelowAt (m : Nat) : Prop := ∀ (e : Ex) (w : World) (i : Int), i = m → SeesEx w e →
  Calls Tryd.prog 115 #[exV e, .int .i64 i] w fun r w' => r = .returned (.bool (exBelow m e)) ∧ Below w.heap.size w w'

set_option maxRecDepth 100000 in
theorem below1_any (m : Nat) (IH : BelowAt m) (e : Ex) (b : Nat) (w : World) (he : SeesEx w e) (hc : w.cell? ⟨b, 0, none⟩ = some (.int .i64 ((m : Int) + 1))) (hlt : b < w.heap.size) (hm : m ≤ 1000) :
    Calls Tryd.prog 146 #[exV e, .pointer (some ⟨b, 0, none⟩)] w fun r w' => r = .returned (.bool (!exBelow m e)) ∧ Below w.heap.size w w' := by
  obtain ⟨op, name, v, A, c, args, pos⟩ := e
  have hb0 : Below w.heap.size w (w.alloc (.cells #[.string op, .string name, .int .i64 v.type, .int .i64 v.n, .string v.s, .slice A args.length c, .int .i64 pos] 72)) := (Below.refl _ _).alloc (Nat.le_refl _) _
  have T := Lib.hid (IH _ _ (m : Int) rfl (he.keep hb0))
  have HB := Lib.hid hb0
  have c0 : (w.alloc (.cells #[.string op, .string name, .int .i64 v.type, .int .i64 v.n, .string v.s, .slice A args.length c, .int .i64 pos] 72)).cell? ⟨b, 0, none⟩ = some (.int .i64 ((m : Int) + 1)) := (hb0.cell (p := ⟨b, 0, none⟩) hlt).trans hc
  clear he hb0 hc hlt
  show Calls Tryd.prog 146 #[.agg #[.string op, .string name, .int .i64 v.type, .int .i64 v.n, .string v.s, .slice A args.length c, .int .i64 pos], .pointer (some ⟨b, 0, none⟩)] w _
  generalize exBelow m (.mk op name v A c args pos) = r at T ⊢
  go_enter Tryd.func146, Tryd.ntmps146
  go_wp2_with fail
  refine (T.out).mono ?_
  rintro e w1 ⟨rfl, hb1⟩
  have HB1 := Lib.hid (below_step HB.out hb1)
  clear hb1
  go_wp2_with fail
  go_ret
  exact ⟨rfl, HB1.out⟩

set_option maxHeartbeats 1000000 in
set_option maxRecDepth 100000 in
theorem idx_below (m : Nat) (IH : BelowAt m) (e : Ex) (b : Nat) (w : World) (he : SeesEx w e) (hc : w.cell? ⟨b, 0, none⟩ = some (.int .i64 ((m : Int) + 1))) (hlt : b < w.heap.size) (hm : m ≤ 1000) :
    Calls Tryd.prog 165 #[.slice e.A e.args.length e.c, .func (.func 146) #[] #[.pointer (some ⟨b, 0, none⟩)]] w
      fun r w' => r = .returned (.int .i64 (findB (fun a => !exBelow m a) e.args)) ∧ Below w.heap.size w w' := by
  obtain ⟨op, name, v, A, c, args, pos⟩ := e
  have HE := Lib.hid he
  have HC := Lib.hid hc
  have HI := Lib.hid IH
  have hcap : args.length ≤ c := he.parts.1.2.1
  have hmax : c ≤ maxLen := he.parts.1.2.2.1
  unfold maxLen at hmax
  show Calls Tryd.prog 165 #[.slice A args.length c, .func (.func 146) #[] #[.pointer (some ⟨b, 0, none⟩)]] w
      fun r w' => r = .returned (.int .i64 (findB (fun a => !exBelow m a) args)) ∧ Below w.heap.size w w'
  generalize hn : args.length = n at hcap HE ⊢
  have HLn := Lib.hid hn
  clear he hn hc IH
  go_enter Tryd.func165, Tryd.ntmps165
  go_wp2_with fail
  go_loopw [5, 8] (fun _ i wr => ∃ k : Nat, k ≤ n ∧ i = .int .i64 k ∧ (∀ x ∈ args.take k, (!exBelow m x) = false) ∧ Below w.heap.size w wr) (fun _ i _ => n - (intOf i).toNat)
  case atStart => exact ⟨0, by omega, rfl, by simp, Below.refl _ _⟩
  case round =>
    obtain ⟨k, hk, rfl, hno, hb⟩ := hrel
    have HN := Lib.hid hno
    have HBR := Lib.hid hb
    clear hno
    by_cases hlk : k < n
    · obtain ⟨g, o, x, (rfl : A = _), hg, hx, hsx, c0, c1, c2, c3, c4, c5, c6⟩ := (HE.out.keep hb).at_ (k := k) (by show k < args.length; rw [HLn.out]; exact hlk)
      have HX := Lib.hid (show args[k]? = some x from hx)
      have T := Lib.hid (below1_any m HI.out x b wr hsx ((hb.cell (p := ⟨b, 0, none⟩) hlt).trans HC.out) (Nat.lt_of_lt_of_le hlt hb.size) hm)
      unfold exV at T
      clear hb hx hsx
      generalize hB : (!exBelow m x) = r at T
      cases r with
      | true =>
        have E := Lib.hid (findB_some HN.out HX.out hB)
        clear hB
        go_wp2_with fail
        refine (T.out).mono ?_
        rintro e' w1 ⟨rfl, hb1⟩
        have HB1 := Lib.hid (below_step HBR.out hb1)
        clear hb1
        go_wp2_with fail
        go_ret
        exact ⟨by rw [E.out]; rfl, HB1.out⟩
      | false =>
        have HB := Lib.hid hB
        clear hB
        go_wp2_with fail
        refine (T.out).mono ?_
        rintro e' w1 ⟨rfl, hb1⟩
        have HB1 := Lib.hid (below_step HBR.out hb1)
        clear hb1
        go_wp2_with fail
        go_roundw
        case rel => exact ⟨k + 1, by omega, by go_num, take_next HN.out HX.out HB.out, HB1.out⟩
        case measure => simp [intOf]; omega
    · have E := Lib.hid (findB_none (p := fun a => !exBelow m a) (l := args) (by have := HN.out; rwa [List.take_of_length_le (by rw [HLn.out]; omega)] at this))
      clear hb
      go_wp2_with fail
      go_ret
      exact ⟨by rw [E.out]; rfl, HBR.out⟩

set_option maxRecDepth 100000 in
theorem any_below (m : Nat) (IH : BelowAt m) (e : Ex) (b : Nat) (w : World) (he : SeesEx w e) (hc : w.cell? ⟨b, 0, none⟩ = some (.int .i64 ((m : Int) + 1))) (hlt : b < w.heap.size) (hm : m ≤ 1000) :
    Calls Tryd.prog 145 #[.slice e.A e.args.length e.c, .func (.func 146) #[] #[.pointer (some ⟨b, 0, none⟩)]] w
      fun r w' => r = .returned (.bool (e.args.any fun a => !exBelow m a)) ∧ Below w.heap.size w w' := by
  have T := Lib.hid (idx_below m IH e b w he hc hlt hm)
  have E := Lib.hid (findB_any (fun a => !exBelow m a) e.args)
  clear he hc IH
  generalize e.args.length = n at T ⊢
  generalize findB (fun a => !exBelow m a) e.args = r at T E ⊢
  go_enter Tryd.func145, Tryd.ntmps145
  go_wp2_with fail
  refine (T.out).mono ?_
  rintro e' w1 ⟨rfl, hb1⟩
  have HB1 := Lib.hid hb1
  clear hb1
  go_wp2_with fail
  go_ret
  exact ⟨by rw [← E.out]; rfl, HB1.out⟩

set_option maxHeartbeats 1000000 in
set_option maxRecDepth 100000 in
theorem below_zero (e : Ex) (w : World) : Calls Tryd.prog 115 #[exV e, .int .i64 0] w fun r w' => r = .returned (.bool false) ∧ Below w.heap.size w w' := by
  obtain ⟨op, name, v, A, c, args, pos⟩ := e
  have hb0 : Below w.heap.size w ((w.alloc (.cells #[.string op, .string name, .int .i64 v.type, .int .i64 v.n, .string v.s, .slice A args.length c, .int .i64 pos] 72)).alloc (.cells #[.int .i64 0] 3)) := ((Below.refl _ _).alloc (Nat.le_refl _) _).alloc (by simp) _
  have HB := Lib.hid hb0
  clear hb0
  show Calls Tryd.prog 115 #[.agg #[.string op, .string name, .int .i64 v.type, .int .i64 v.n, .string v.s, .slice A args.length c, .int .i64 pos], .int .i64 0] w _
  generalize args.length = n at HB ⊢
  go_enter Tryd.func115, Tryd.ntmps115
  go_wp2_with fail
  go_ret
  exact ⟨rfl, HB.out⟩

set_option maxHeartbeats 1000000 in
set_option maxRecDepth 100000 in
theorem below_next (m : Nat) (hm : m < 1000) (IH : BelowAt m) (e : Ex) (w : World) (he : SeesEx w e) :
    Calls Tryd.prog 115 #[exV e, .int .i64 ((m : Int) + 1)] w fun r w' => r = .returned (.bool (exBelow (m + 1) e)) ∧ Below w.heap.size w w' := by
  obtain ⟨op, name, v, A, c, args, pos⟩ := e
  have hb0 : Below w.heap.size w ((w.alloc (.cells #[.string op, .string name, .int .i64 v.type, .int .i64 v.n, .string v.s, .slice A args.length c, .int .i64 pos] 72)).alloc (.cells #[.int .i64 ((m : Int) + 1)] 3)) := ((Below.refl _ _).alloc (Nat.le_refl _) _).alloc (by simp) _
  have T := Lib.hid (any_below m IH (.mk op name v A c args pos) (w.heap.size + 1) _ (he.keep hb0) (by simp) (by simp) (by omega))
  have HB := Lib.hid hb0
  have E := Lib.hid (show exBelow (m + 1) (.mk op name v A c args pos) = !(args.any fun a => !exBelow m a) by rw [exBelow]; rfl)
  have dm : decide (0 < (m : Int) + 1) = true := decide_eq_true (by omega)
  clear hb0 he IH
  show Calls Tryd.prog 115 #[.agg #[.string op, .string name, .int .i64 v.type, .int .i64 v.n, .string v.s, .slice A args.length c, .int .i64 pos], .int .i64 ((m : Int) + 1)] w _
  rw [E.out]
  unfold Ex.A Ex.c Ex.args at T
  generalize args.length = n at T HB ⊢
  generalize (args.any fun a => !exBelow m a) = r at T ⊢
  generalize (m : Int) + 1 = i at *
  go_enter Tryd.func115, Tryd.ntmps115
  go_wp2_with fail
  refine (T.out).mono ?_
  rintro e' w1 ⟨rfl, hb1⟩
  have HB1 := Lib.hid (below_step HB.out hb1)
  clear hb1
  go_wp2_with fail
  go_ret
  exact ⟨rfl, HB1.out⟩
theorem below_any : ∀ m : Nat, m ≤ 1000 → BelowAt m
  | 0, _ => fun e w i hi _ => by subst hi; exact below_zero e w
  | m + 1, hm => fun e w i hi he => by
    obtain rfl : i = (m : Int) + 1 := by omega
    exact below_next m (by omega) (below_any m (by omega)) e w he

/-- Are there more than may be? -/
def fullB (e : Ex) : Bool := decide (200 < exSize e) || !exBelow 30 e
set_option maxRecDepth 100000 in
theorem full_any (e : Ex) (w : World) (he : SeesEx w e) : Calls Tryd.prog 78 #[exV e] w fun r w' => r = .returned (.bool (fullB e)) ∧ Below w.heap.size w w' := by
  obtain ⟨op, name, v, A, c, args, pos⟩ := e
  have hb0 : Below w.heap.size w (w.alloc (.cells #[.string op, .string name, .int .i64 v.type, .int .i64 v.n, .string v.s, .slice A args.length c, .int .i64 pos] 72)) := (Below.refl _ _).alloc (Nat.le_refl _) _
  have HE := Lib.hid (he.keep hb0)
  have HB := Lib.hid hb0
  have T := Lib.hid (tsize_any _ _ (Nat.le_refl _) _ HE.out)
  unfold exV at T
  clear he hb0
  show Calls Tryd.prog 78 #[.agg #[.string op, .string name, .int .i64 v.type, .int .i64 v.n, .string v.s, .slice A args.length c, .int .i64 pos]] w _
  have C := Lib.hid (fun (w1 : World) (hb : Below (w.alloc (.cells #[.string op, .string name, .int .i64 v.type, .int .i64 v.n, .string v.s, .slice A args.length c, .int .i64 pos] 72)).heap.size (w.alloc (.cells #[.string op, .string name, .int .i64 v.type, .int .i64 v.n, .string v.s, .slice A args.length c, .int .i64 pos] 72)) w1) (j : Nat) => hb.cell (p := ⟨w.heap.size, j, none⟩) (by simp))
  by_cases h : 200 < exSize (.mk op name v A c args pos)
  · have hd : decide (200 < exSize (.mk op name v A c args pos)) = true := by simpa using h
    have E := Lib.hid (show fullB (.mk op name v A c args pos) = true by unfold fullB; rw [hd]; rfl)
    generalize exSize (.mk op name v A c args pos) = sz at T hd
    clear h
    go_enter Tryd.func78, Tryd.ntmps78
    go_wp2_with fail
    refine (T.out).mono ?_
    rintro e' w1 ⟨rfl, hb1⟩
    have HB1 := Lib.hid (below_step HB.out hb1)
    clear hb1
    go_wp2_with fail
    go_ret
    exact ⟨by rw [E.out]; rfl, HB1.out⟩
  · have hd : decide (200 < exSize (.mk op name v A c args pos)) = false := by simpa using h
    have E := Lib.hid (show fullB (.mk op name v A c args pos) = !exBelow 30 (.mk op name v A c args pos) by unfold fullB; rw [hd]; rfl)
    generalize exSize (.mk op name v A c args pos) = sz at T hd
    clear h
    go_enter Tryd.func78, Tryd.ntmps78
    go_wp2_with fail
    refine (T.out).mono ?_
    rintro e' w1 ⟨rfl, hb1⟩
    have HB1 := Lib.hid (below_step HB.out hb1)
    have T2 := Lib.hid (below_any 30 (by omega) _ _ 30 rfl (HE.out.keep hb1))
    unfold exV at T2
    have d0 := (C.out w1 hb1 0).trans (show _ = some (.string op) by simp)
    have d1 := (C.out w1 hb1 1).trans (show _ = some (.string name) by simp)
    have d2 := (C.out w1 hb1 2).trans (show _ = some (.int .i64 v.type) by simp)
    have d3 := (C.out w1 hb1 3).trans (show _ = some (.int .i64 v.n) by simp)
    have d4 := (C.out w1 hb1 4).trans (show _ = some (.string v.s) by simp)
    have d5 := (C.out w1 hb1 5).trans (show _ = some (.slice A args.length c) by simp)
    have d6 := (C.out w1 hb1 6).trans (show _ = some (.int .i64 pos) by simp)
    clear hb1
    go_wp2_with fail
    refine (T2.out).mono ?_
    rintro e' w2 ⟨rfl, hb2⟩
    have HB2 := Lib.hid (below_step HB1.out hb2)
    clear hb2
    go_wp2_with fail
    go_ret
    exact ⟨by rw [E.out]; rfl, HB2.out⟩
end Go.Proofs.YteoheaahlokdiaaDoor
