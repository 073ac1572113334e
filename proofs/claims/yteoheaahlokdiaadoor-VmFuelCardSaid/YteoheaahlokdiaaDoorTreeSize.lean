/- tree.Size, walked: how many nodes, as a number of 64 bits. -/
import Derived.Test.YteoheaahlokdiaaDoorEx
namespace Go.Proofs.YteoheaahlokdiaaDoor
open Go.ChangeShapes Go.WideShapes Go.ChangeAt Go.RowKit

mutual
def exSize : Ex → Int
  | .mk _ _ _ _ _ l _ => exSizes 1 l
def exSizes : Int → List Ex → Int
  | n, [] => n
  | n, a :: l => exSizes (wrap64 (n + exSize a)) l
end
theorem exSize_eq (e : Ex) : exSize e = exSizes 1 e.args := by cases e; rw [exSize]; rfl
theorem exSizes_snoc : ∀ (l : List Ex) (n : Int) (a : Ex), exSizes n (l ++ [a]) = wrap64 (exSizes n l + exSize a)
  | [], n, a => by simp [exSizes]
  | x :: l, n, a => by
    rw [List.cons_append, exSizes, exSizes]
    exact exSizes_snoc l _ a
theorem exSizes_take {l : List Ex} {n : Int} {k : Nat} {a : Ex} (h : l[k]? = some a) : exSizes n (l.take (k + 1)) = wrap64 (exSizes n (l.take k) + exSize a) := by
  rw [List.take_add_one, h]; exact exSizes_snoc _ _ _

set_option maxHeartbeats 4000000 in
set_option maxRecDepth 100000 in
theorem tsize_any : ∀ (m : Nat) (e : Ex), SizeOf.sizeOf e ≤ m → ∀ (w : World), SeesEx w e →
    Calls Tryd.prog 35 #[exV e] w fun r w' => r = .returned (.int .i64 (exSize e)) ∧ Below w.heap.size w w'
  | 0, e, hm, w, _ => by cases e; simp at hm
  | m + 1, .mk op name v A c args pos, hm, w, he => by
    have IH := Lib.hid (tsize_any m)
    have HM := Lib.hid (fun a (ha : a ∈ args) => show SizeOf.sizeOf a ≤ m by have := ex_lt (e := .mk op name v A c args pos) ha; omega)
    have hb0 : Below w.heap.size w (w.alloc (.cells #[.string op, .string name, .int .i64 v.type, .int .i64 v.n, .string v.s, .slice A args.length c, .int .i64 pos] 72)) := (Below.refl _ _).alloc (Nat.le_refl _) _
    have HE := Lib.hid (he.keep hb0)
    have HB := Lib.hid hb0
    have hcap : args.length ≤ c := he.parts.1.2.1
    have hmax : c ≤ maxLen := he.parts.1.2.2.1
    unfold maxLen at hmax
    have HS := Lib.hid (exSize_eq (.mk op name v A c args pos))
    show Calls Tryd.prog 35 #[.agg #[.string op, .string name, .int .i64 v.type, .int .i64 v.n, .string v.s, .slice A args.length c, .int .i64 pos]] w _
    generalize hn : args.length = n at hcap HE HB ⊢
    have HLn := Lib.hid hn
    clear hm he hb0 hn
    go_enter Tryd.func35, Tryd.ntmps35
    go_wp2_with fail
    generalize w.alloc (.cells #[.string op, .string name, .int .i64 v.type, .int .i64 v.n, .string v.s, .slice A n c, .int .i64 pos] 72) = w0 at HE HB ⊢
    go_loopw [3, 9] (fun s i wr => ∃ k : Nat, k ≤ n ∧ i = .int .i64 k ∧ s = .int .i64 (exSizes 1 (args.take k)) ∧ Below w0.heap.size w0 wr) (fun _ i _ => n - (intOf i).toNat)
    case atStart => exact ⟨0, by omega, rfl, rfl, Below.refl _ _⟩
    case round =>
      obtain ⟨k, hk, rfl, rfl, hb⟩ := hrel
      have HBR := Lib.hid hb
      by_cases hlk : k < n
      · obtain ⟨g, o, x, (rfl : A = _), hg, hx, hsx, c0, c1, c2, c3, c4, c5, c6⟩ := (HE.out.keep hb).at_ (k := k) (by show k < args.length; rw [HLn.out]; exact hlk)
        have HX := Lib.hid (show args[k]? = some x from hx)
        have hbx : Below wr.heap.size wr (wr.alloc (.cells #[.string x.op, .string x.name, .int .i64 x.val.type, .int .i64 x.val.n, .string x.val.s, .slice x.A x.args.length x.c, .int .i64 x.pos] 72)) := (Below.refl _ _).alloc (Nat.le_refl _) _
        have T := Lib.hid (IH.out x (HM.out x (List.mem_of_getElem? HX.out)) _ (hsx.keep hbx))
        have HBX := Lib.hid hbx
        have E := Lib.hid (exSizes_take (n := 1) HX.out)
        clear hb hx hsx hbx
        go_wp2_with fail
        refine (T.out).mono ?_
        rintro e' w1 ⟨rfl, hb1⟩
        have HB1 := Lib.hid (below_step (below_step HBR.out HBX.out) hb1)
        clear hb1
        go_wp2_with fail
        go_roundw
        case rel => exact ⟨k + 1, by omega, by go_num, by rw [E.out], HB1.out⟩
        case measure => simp [intOf]; omega
      · obtain rfl : n = k := by omega
        have htk : args.take n = args := List.take_of_length_le (by rw [HLn.out]; exact Nat.le_refl _)
        rw [htk]
        clear hb htk
        go_wp2_with fail
        go_ret
        exact ⟨by rw [HS.out]; rfl, below_step HB.out HBR.out⟩
end Go.Proofs.YteoheaahlokdiaaDoor
