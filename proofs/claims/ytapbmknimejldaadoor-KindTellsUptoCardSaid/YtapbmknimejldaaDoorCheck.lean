/- tree.nodes and tree.Check, walked: what is wrong with an expression. -/
import Derived.Test.YtapbmknimejldaaDoorNode
namespace Go.Proofs.YtapbmknimejldaaDoor
open Go.ChangeShapes Go.WideShapes Go.ChangeAt Go.RowKit

mutual
def nodesErr : Ex → Int
  | .mk op name v _ _ args _ => if nodeErrOf op name v args.length ≠ 0 then nodeErrOf op name v args.length else nodesErrs args
def nodesErrs : List Ex → Int
  | [] => 0
  | a :: l => if nodesErr a ≠ 0 then nodesErr a else nodesErrs l
end
theorem nodesErr_eq (e : Ex) : nodesErr e = if nodeErr e ≠ 0 then nodeErr e else nodesErrs e.args := by cases e; rw [nodesErr]; rfl
theorem nodesErrs_hit : ∀ {l : List Ex} {k : Nat} {a : Ex}, nodesErrs (l.take k) = 0 → l[k]? = some a → nodesErr a ≠ 0 → nodesErrs l = nodesErr a
  | x :: l, 0, a, _, hk, ha => by
    simp only [List.getElem?_cons_zero, Option.some.injEq] at hk
    subst hk
    rw [nodesErrs, if_pos ha]
  | x :: l, k + 1, a, h, hk, ha => by
    rw [List.take_succ_cons, nodesErrs] at h
    rw [nodesErrs]
    by_cases hx : nodesErr x = 0
    · rw [if_neg (by simp [hx])] at h ⊢
      exact nodesErrs_hit h (by simpa using hk) ha
    · rw [if_pos hx] at h; exact absurd h hx
  | [], k, a, _, hk, _ => by simp at hk
theorem nodesErrs_next : ∀ {l : List Ex} {k : Nat} {a : Ex}, nodesErrs (l.take k) = 0 → l[k]? = some a → nodesErr a = 0 → nodesErrs (l.take (k + 1)) = 0
  | x :: l, 0, a, _, hk, ha => by
    simp only [List.getElem?_cons_zero, Option.some.injEq] at hk
    subst hk
    simp [nodesErrs, ha]
  | x :: l, k + 1, a, h, hk, ha => by
    rw [List.take_succ_cons, nodesErrs] at h ⊢
    by_cases hx : nodesErr x = 0
    · rw [if_neg (by simp [hx])] at h ⊢
      exact nodesErrs_next h (by simpa using hk) ha
    · rw [if_pos hx] at h; exact absurd h hx
  | [], k, a, _, hk, _ => by simp at hk

def NodesAt (m : Nat) : Prop := ∀ e : Ex, SizeOf.sizeOf e ≤ m → ∀ (w : World), LevelsT w → WordsT w → SeesEx w e →
    Calls Tryd.prog 44 #[exV e] w (NodeSays (nodesErr e) w)
set_option maxHeartbeats 1000000 in
set_option maxRecDepth 100000 in
theorem nodes_step (m : Nat) (ih : NodesAt m) (op name : ByteArray) (v : Val) (A : Option Addr) (c : Nat) (args : List Ex) (pos : Int) (hm : SizeOf.sizeOf (Ex.mk op name v A c args pos) ≤ m + 1)
    (w : World) (hT : LevelsT w) (hW : WordsT w) (he : SeesEx w (.mk op name v A c args pos)) :
    Calls Tryd.prog 44 #[exV (.mk op name v A c args pos)] w (NodeSays (nodesErr (.mk op name v A c args pos)) w) := by
    have IH := Lib.hid ih
    clear ih
    have HM := Lib.hid (fun a (ha : a ∈ args) => show SizeOf.sizeOf a ≤ m by have := ex_lt (e := .mk op name v A c args pos) ha; omega)
    have hb0 : Below w.heap.size w (w.alloc (.cells #[.string op, .string name, .int .i64 v.type, .int .i64 v.n, .string v.s, .slice A args.length c, .int .i64 pos] 44)) := (Below.refl _ _).alloc (Nat.le_refl _) _
    have HE := Lib.hid (he.keep hb0)
    have HT := Lib.hid (hT.keep hb0)
    have HW := Lib.hid (hW.keep hb0)
    have HB := Lib.hid hb0
    have hcap : args.length ≤ c := he.parts.1.2.1
    have hmax : c ≤ maxLen := he.parts.1.2.2.1
    have HN0 : Calls Tryd.prog 74 #[.agg #[.string op, .string name, .int .i64 v.type, .int .i64 v.n, .string v.s, .slice A args.length c, .int .i64 pos]] (w.alloc (.cells #[.string op, .string name, .int .i64 v.type, .int .i64 v.n, .string v.s, .slice A args.length c, .int .i64 pos] 44)) (NodeSays (nodeErrOf op name v args.length) (w.alloc (.cells #[.string op, .string name, .int .i64 v.type, .int .i64 v.n, .string v.s, .slice A args.length c, .int .i64 pos] 44))) := node_any (.mk op name v A c args pos) _ HT.out HW.out (Nat.le_trans hcap hmax) he.parts.2.2.1
    have HN := Lib.hid HN0
    unfold maxLen at hmax
    have HS := Lib.hid (show nodesErr (.mk op name v A c args pos) = if nodeErrOf op name v args.length ≠ 0 then nodeErrOf op name v args.length else nodesErrs args from nodesErr_eq _)
    have HC := Lib.hid (fun (w1 : World) (hb : Below (w.alloc (.cells #[.string op, .string name, .int .i64 v.type, .int .i64 v.n, .string v.s, .slice A args.length c, .int .i64 pos] 44)).heap.size (w.alloc (.cells #[.string op, .string name, .int .i64 v.type, .int .i64 v.n, .string v.s, .slice A args.length c, .int .i64 pos] 44)) w1) => (hb.cell (p := ⟨w.heap.size, 5, none⟩) (by simp)).trans (show _ = some (.slice A args.length c) by simp))
    show Calls Tryd.prog 44 #[.agg #[.string op, .string name, .int .i64 v.type, .int .i64 v.n, .string v.s, .slice A args.length c, .int .i64 pos]] w _
    clear HN0
    generalize hn : args.length = n at hcap HE HB HN HC HT HW HS ⊢
    have HLn := Lib.hid hn
    clear hm he hb0 hn hT hW
    generalize hke : nodeErrOf op name v n = ke at HN HS
    clear hke
    go_enter Tryd.func44, Tryd.ntmps44
    go_wp2_with fail
    generalize w.alloc (.cells #[.string op, .string name, .int .i64 v.type, .int .i64 v.n, .string v.s, .slice A n c, .int .i64 pos] 44) = w0 at HE HB HN HC HT HW ⊢
    refine (HN.out).mono ?_
    rintro e' w1 ⟨rfl, hb1⟩
    have HB1 := Lib.hid hb1
    have d5 := HC.out w1 hb1
    clear hb1
    by_cases hk : ke = 0
    · subst hk
      rw [errV_zero]
      go_wp2_with fail
      go_loopw [6, 15] (fun _ i wr => ∃ k : Nat, k ≤ n ∧ i = .int .i64 k ∧ nodesErrs (args.take k) = 0 ∧ Below w0.heap.size w0 wr) (fun _ i _ => n - (intOf i).toNat)
      case atStart => exact ⟨0, by omega, rfl, rfl, HB1.out⟩
      case round =>
        obtain ⟨k, hk, rfl, hno, hb⟩ := hrel
        have HBR := Lib.hid hb
        have HNO := Lib.hid hno
        clear hno
        by_cases hlk : k < n
        · obtain ⟨g, o, x, (rfl : A = _), hg, hx, hsx, c0, c1, c2, c3, c4, c5, c6⟩ := (HE.out.keep hb).at_ (k := k) (by show k < args.length; rw [HLn.out]; exact hlk)
          have HX := Lib.hid (show args[k]? = some x from hx)
          have hbx : Below wr.heap.size wr (wr.alloc (.cells #[.string x.op, .string x.name, .int .i64 x.val.type, .int .i64 x.val.n, .string x.val.s, .slice x.A x.args.length x.c, .int .i64 x.pos] 44)) := (Below.refl _ _).alloc (Nat.le_refl _) _
          have T := Lib.hid (IH.out x (HM.out x (List.mem_of_getElem? HX.out)) _ ((HT.out.keep hb).keep hbx) ((HW.out.keep hb).keep hbx) (hsx.keep hbx))
          have HBX := Lib.hid hbx
          unfold exV at T
          clear hb hx hsx hbx
          by_cases hxe : nodesErr x = 0
          · have E := Lib.hid (nodesErrs_next HNO.out HX.out hxe)
            have HXE := Lib.hid hxe
            clear hxe
            go_wp2_with fail
            refine (T.out).mono ?_
            rintro e' w2 ⟨rfl, hb1⟩
            rw [HXE.out, errV_zero]
            have HB2 := Lib.hid (below_step (below_step HBR.out HBX.out) hb1)
            clear hb1
            go_wp2_with fail
            go_roundw
            case rel => exact ⟨k + 1, by omega, by go_num, E.out, HB2.out⟩
            case measure => simp [intOf]; omega
          · have E := Lib.hid (nodesErrs_hit HNO.out HX.out hxe)
            have HXE := Lib.hid (errV_ne hxe)
            clear hxe
            go_wp2_with fail
            refine (T.out).mono ?_
            rintro e' w2 ⟨rfl, hb1⟩
            rw [HXE.out]
            have HB2 := Lib.hid (below_step (below_step HBR.out HBX.out) hb1)
            clear hb1
            go_wp2_with fail
            go_ret
            exact ⟨by rw [HS.out, if_neg (by simp), E.out, HXE.out]; rfl, below_step HB.out HB2.out⟩
        · obtain rfl : n = k := by omega
          have htk : args.take n = args := List.take_of_length_le (by rw [HLn.out]; exact Nat.le_refl _)
          have E := Lib.hid (show nodesErrs args = 0 by have := HNO.out; rwa [htk] at this)
          clear hb htk
          go_wp2_with fail
          go_ret
          exact ⟨by rw [HS.out, if_neg (by simp), E.out]; rfl, below_step HB.out HBR.out⟩
    · have HK := Lib.hid hk
      rw [errV_ne hk]
      clear hk
      go_wp2_with fail
      go_ret
      exact ⟨by rw [HS.out, if_pos HK.out, errV_ne HK.out]; rfl, below_step HB.out HB1.out⟩

theorem nodes_any : ∀ m : Nat, NodesAt m
  | 0 => fun e hm _ _ _ _ => by cases e; simp at hm
  | m + 1 => fun e hm w hT hW he => by
    obtain ⟨op, name, v, A, c, args, pos⟩ := e
    exact nodes_step m (nodes_any m) op name v A c args pos hm w hT hW he

/-- What is wrong with an expression; 0: nothing. -/
def checkErr (e : Ex) : Int := if fullB e = true then 4 else nodesErr e
set_option maxHeartbeats 1000000 in
set_option maxRecDepth 100000 in
theorem check_any (e : Ex) (w : World) (hT : LevelsT w) (hW : WordsT w) (he : SeesEx w e) :
    Calls Tryd.prog 15 #[exV e] w (NodeSays (checkErr e) w) := by
  obtain ⟨op, name, v, A, c, args, pos⟩ := e
  have hb0 : Below w.heap.size w (w.alloc (.cells #[.string op, .string name, .int .i64 v.type, .int .i64 v.n, .string v.s, .slice A args.length c, .int .i64 pos] 44)) := (Below.refl _ _).alloc (Nat.le_refl _) _
  have HE := Lib.hid (he.keep hb0)
  have HT := Lib.hid (hT.keep hb0)
  have HW := Lib.hid (hW.keep hb0)
  have HB := Lib.hid hb0
  have T := Lib.hid (full_any _ _ HE.out)
  unfold exV at T
  clear he hb0 hT hW
  show Calls Tryd.prog 15 #[.agg #[.string op, .string name, .int .i64 v.type, .int .i64 v.n, .string v.s, .slice A args.length c, .int .i64 pos]] w _
  have C := Lib.hid (fun (w1 : World) (hb : Below (w.alloc (.cells #[.string op, .string name, .int .i64 v.type, .int .i64 v.n, .string v.s, .slice A args.length c, .int .i64 pos] 44)).heap.size (w.alloc (.cells #[.string op, .string name, .int .i64 v.type, .int .i64 v.n, .string v.s, .slice A args.length c, .int .i64 pos] 44)) w1) (j : Nat) => hb.cell (p := ⟨w.heap.size, j, none⟩) (by simp))
  have E := Lib.hid (show checkErr (.mk op name v A c args pos) = _ from rfl)
  generalize hf : fullB (.mk op name v A c args pos) = f at T
  have HF := Lib.hid hf
  clear hf
  cases f with
  | true =>
    go_enter Tryd.func15, Tryd.ntmps15
    go_wp2_with fail
    refine (T.out).mono ?_
    rintro e' w1 ⟨rfl, hb1⟩
    have HB1 := Lib.hid (below_step HB.out hb1)
    clear hb1
    go_wp2_with fail
    go_ret
    exact ⟨by unfold checkErr; rw [if_pos HF.out]; rfl, HB1.out⟩
  | false =>
    go_enter Tryd.func15, Tryd.ntmps15
    go_wp2_with fail
    refine (T.out).mono ?_
    rintro e' w1 ⟨rfl, hb1⟩
    have HB1 := Lib.hid (below_step HB.out hb1)
    have T2 := Lib.hid (nodes_any _ _ (Nat.le_refl _) w1 (HT.out.keep hb1) (HW.out.keep hb1) (HE.out.keep hb1))
    unfold exV at T2
    have d0 := (C.out w1 hb1 0).trans (show _ = some (.string op) by simp)
    have d1 := (C.out w1 hb1 1).trans (show _ = some (.string name) by simp)
    have d2 := (C.out w1 hb1 2).trans (show _ = some (.int .i64 v.type) by simp)
    have d3 := (C.out w1 hb1 3).trans (show _ = some (.int .i64 v.n) by simp)
    have d4 := (C.out w1 hb1 4).trans (show _ = some (.string v.s) by simp)
    have d5 := (C.out w1 hb1 5).trans (show _ = some (.slice A args.length c) by simp)
    have d6 := (C.out w1 hb1 6).trans (show _ = some (.int .i64 pos) by simp)
    clear hb1
    go_wp2_with fail
    refine (T2.out).mono ?_
    rintro e' w2 ⟨rfl, hb2⟩
    have HB2 := Lib.hid (below_step HB1.out hb2)
    clear hb2
    go_wp2_with fail
    go_ret
    exact ⟨by unfold checkErr; rw [if_neg (by rw [HF.out]; decide)]; rfl, HB2.out⟩
end Go.Proofs.YtapbmknimejldaaDoor
