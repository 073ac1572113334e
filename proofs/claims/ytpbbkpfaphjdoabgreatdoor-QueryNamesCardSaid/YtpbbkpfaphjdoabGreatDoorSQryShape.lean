/- window.Check and query.shape, walked. -/
import Derived.Test.YtpbbkpfaphjdoabGreatDoorSQryExprs
namespace Go.Proofs.YtpbbkpfaphjdoabGreatDoor
open Go.ChangeShapes Go.WideShapes Go.ChangeAt Go.RowKit
def spanOk (size slide : Int) : Prop := 1 ≤ size ∧ size ≤ 1000 ∧ 1 ≤ slide ∧ slide ≤ size ∧ size ≤ 10 * slide
instance (size slide : Int) : Decidable (spanOk size slide) := by unfold spanOk; infer_instance
theorem span_ok (size slide : Int) (w : World) (h : spanOk size slide) :
  Calls Tryz.prog 88 #[.int .i64 size, .int .i64 slide] w fun e w' => e = .returned .nilIface ∧ w = w' := by
 obtain ⟨h1, h2, h3, h4, h5⟩ := h
 go_enter Tryz.func88, Tryz.ntmps88
 go_wp2
 go_ret
 exact ⟨rfl, rfl⟩
theorem span_bad (size slide : Int) (w : World) (h : ¬ spanOk size slide) :
  Calls Tryz.prog 88 #[.int .i64 size, .int .i64 slide] w fun e w' => e = .returned (.iface 62 (.int .i64 1)) ∧ w = w' := by
 unfold spanOk at h
 by_cases h1 : 1 ≤ size
 ·by_cases h2 : size ≤ 1000
  ·by_cases h3 : 1 ≤ slide
   ·by_cases h4 : slide ≤ size
    ·have h5 : ¬ size ≤ 10 * slide := fun h5 => h ⟨h1, h2, h3, h4, h5⟩
     clear h
     go_enter Tryz.func88, Tryz.ntmps88
     go_wp2
     go_ret
     exact ⟨rfl, rfl⟩
    ·clear h
     go_enter Tryz.func88, Tryz.ntmps88
     go_wp2
     go_ret
     exact ⟨rfl, rfl⟩
   ·clear h
    go_enter Tryz.func88, Tryz.ntmps88
    go_wp2
    go_ret
    exact ⟨rfl, rfl⟩
  ·clear h
   go_enter Tryz.func88, Tryz.ntmps88
   go_wp2
   go_ret
   exact ⟨rfl, rfl⟩
 ·clear h
  go_enter Tryz.func88, Tryz.ntmps88
  go_wp2
  go_ret
  exact ⟨rfl, rfl⟩
def shapeOf (nc nn ng na : Nat) (z s : Int) : Int :=
 if z = 0 ∧ (s ≠ 0 ∨ 0 < na ∨ 0 < ng ∨ nn ≠ nc) then 3 else if z ≠ 0 ∧ 0 < nc + nn then 3 else if z ≠ 0 ∧ ¬ spanOk z s then 1 else if nn + ng + na = 0 then 5 else if 6 < nn + ng + na then 4 else 0
def shapeErr (q : QX) : Int := shapeOf q.cols.length q.names.length q.group.length q.aggs.length q.size q.slide
set_option maxHeartbeats 4000000 in
set_option maxRecDepth 100000 in
theorem shape_cells (V0 V1 V2 V3 V4 V5 V6 V7 : Value) (CA NA GA AA : Option Addr) (nc cc nn nnc ng gc na ac : Nat) (z s : Int) (w : World) (h1 : nc ≤ 140737488355328) (h2 : nn ≤ 140737488355328) (h3 : ng ≤ 140737488355328) (h4 : na ≤ 140737488355328) :
  Calls Tryz.prog 49 #[.agg #[V0, V1, V2, V3, V4, V5, V6, V7, .slice CA nc cc, .slice NA nn nnc, .slice GA ng gc, .int .i64 z, .int .i64 s, .slice AA na ac]] w fun e w' => e = .returned (errV (shapeOf nc nn ng na z s)) ∧ Below w.heap.size w w' := by
 by_cases hz : z = 0
 ·subst hz
  by_cases hs : s = 0
  ·subst hs
   by_cases ha : 0 < na
   ·have E := Lib.hid (show shapeOf nc nn ng na 0 0 = 3 by unfold shapeOf; rw [if_pos ⟨rfl, Or.inr (Or.inl ha)⟩])
    generalize shapeOf nc nn ng na 0 0 = R at E ⊢
    go_enter Tryz.func49, Tryz.ntmps49
    go_wp2_with fail
    go_ret
    exact ⟨by rw [E.out]; rfl, belowNew' _ _⟩
   ·obtain rfl : na = 0 := by omega
    clear ha
    by_cases hg : 0 < ng
    ·have E := Lib.hid (show shapeOf nc nn ng 0 0 0 = 3 by unfold shapeOf; rw [if_pos ⟨rfl, Or.inr (Or.inr (Or.inl hg))⟩])
     generalize shapeOf nc nn ng 0 0 0 = R at E ⊢
     go_enter Tryz.func49, Tryz.ntmps49
     go_wp2_with fail
     go_ret
     exact ⟨by rw [E.out]; rfl, belowNew' _ _⟩
    ·obtain rfl : ng = 0 := by omega
     clear hg
     by_cases hn : nn = nc
     ·subst hn
      by_cases h5 : nn = 0
      ·subst h5
       have E := Lib.hid (show shapeOf 0 0 0 0 0 0 = 5 by unfold shapeOf; rw [if_neg (fun h => by obtain ⟨-, h | h | h | h⟩ := h <;> omega), if_neg (fun h => h.1 rfl), if_neg (fun h => h.1 rfl), if_pos rfl])
       generalize shapeOf 0 0 0 0 0 0 = R at E ⊢
       go_enter Tryz.func49, Tryz.ntmps49
       go_wp2_with fail
       go_ret
       exact ⟨by rw [E.out]; rfl, belowNew' _ _⟩
      ·by_cases h6 : 6 < nn
       ·have E := Lib.hid (show shapeOf nn nn 0 0 0 0 = 4 by unfold shapeOf; rw [if_neg (fun h => by obtain ⟨-, h | h | h | h⟩ := h <;> omega), if_neg (fun h => h.1 rfl), if_neg (fun h => h.1 rfl), if_neg (by omega), if_pos (by omega)])
        generalize shapeOf nn nn 0 0 0 0 = R at E ⊢
        go_enter Tryz.func49, Tryz.ntmps49
        go_wp2_with fail
        go_ret
        exact ⟨by rw [E.out]; rfl, belowNew' _ _⟩
       ·have E := Lib.hid (show shapeOf nn nn 0 0 0 0 = 0 by unfold shapeOf; rw [if_neg (fun h => by obtain ⟨-, h | h | h | h⟩ := h <;> omega), if_neg (fun h => h.1 rfl), if_neg (fun h => h.1 rfl), if_neg (by omega), if_neg (by omega)])
        generalize shapeOf nn nn 0 0 0 0 = R at E ⊢
        go_enter Tryz.func49, Tryz.ntmps49
        go_wp2_with fail
        go_ret
        exact ⟨by rw [E.out]; rfl, belowNew' _ _⟩
     ·have E := Lib.hid (show shapeOf nc nn 0 0 0 0 = 3 by unfold shapeOf; rw [if_pos ⟨rfl, Or.inr (Or.inr (Or.inr hn))⟩])
      generalize shapeOf nc nn 0 0 0 0 = R at E ⊢
      go_enter Tryz.func49, Tryz.ntmps49
      go_wp2_with fail
      go_ret
      exact ⟨by rw [E.out]; rfl, belowNew' _ _⟩
  ·have E := Lib.hid (show shapeOf nc nn ng na 0 s = 3 by unfold shapeOf; rw [if_pos ⟨rfl, Or.inl hs⟩])
   generalize shapeOf nc nn ng na 0 s = R at E ⊢
   go_enter Tryz.func49, Tryz.ntmps49
   go_wp2_with fail
   go_ret
   exact ⟨by rw [E.out]; rfl, belowNew' _ _⟩
 ·by_cases hc : 0 < nc + nn
  ·have hc2 : ¬ ((nc : Int) + nn ≤ 0) := by omega
   have hz2 : (z != 0) = true := by simpa using hz
   have E := Lib.hid (show shapeOf nc nn ng na z s = 3 by unfold shapeOf; rw [if_neg (fun h => hz h.1), if_pos ⟨hz, hc⟩])
   generalize shapeOf nc nn ng na z s = R at E ⊢
   go_enter Tryz.func49, Tryz.ntmps49
   go_wp2_with fail
   go_ret
   exact ⟨by rw [E.out]; rfl, belowNew' _ _⟩
  ·obtain rfl : nc = 0 := by omega
   obtain rfl : nn = 0 := by omega
   clear hc
   by_cases hk : spanOk z s
   ·have HK := Lib.hid hk
    clear hk
    by_cases h5 : ng + na = 0
    ·obtain rfl : ng = 0 := by omega
     obtain rfl : na = 0 := by omega
     clear h5
     have E := Lib.hid (show shapeOf 0 0 0 0 z s = 5 by unfold shapeOf; rw [if_neg (fun h => hz h.1), if_neg (fun h => by omega), if_neg (fun h => h.2 HK.out), if_pos rfl])
     generalize shapeOf 0 0 0 0 z s = R at E ⊢
     go_enter Tryz.func49, Tryz.ntmps49
     go_wp2_with (first | (go_at_call 88; refine (span_ok _ _ _ HK.out).mono ?_; rintro e w' ⟨rfl, rfl⟩))
     go_ret
     exact ⟨by rw [E.out]; rfl, belowNew' _ _⟩
    ·by_cases h6 : 6 < ng + na
     ·have E := Lib.hid (show shapeOf 0 0 ng na z s = 4 by unfold shapeOf; rw [if_neg (fun h => hz h.1), if_neg (fun h => by omega), if_neg (fun h => h.2 HK.out), if_neg (by omega), if_pos (by omega)])
      generalize shapeOf 0 0 ng na z s = R at E ⊢
      go_enter Tryz.func49, Tryz.ntmps49
      go_wp2_with (first | (go_at_call 88; refine (span_ok _ _ _ HK.out).mono ?_; rintro e w' ⟨rfl, rfl⟩))
      go_ret
      exact ⟨by rw [E.out]; rfl, belowNew' _ _⟩
     ·have E := Lib.hid (show shapeOf 0 0 ng na z s = 0 by unfold shapeOf; rw [if_neg (fun h => hz h.1), if_neg (fun h => by omega), if_neg (fun h => h.2 HK.out), if_neg (by omega), if_neg (by omega)])
      generalize shapeOf 0 0 ng na z s = R at E ⊢
      go_enter Tryz.func49, Tryz.ntmps49
      go_wp2_with (first | (go_at_call 88; refine (span_ok _ _ _ HK.out).mono ?_; rintro e w' ⟨rfl, rfl⟩))
      go_ret
      exact ⟨by rw [E.out]; rfl, belowNew' _ _⟩
   ·have HK := Lib.hid hk
    clear hk
    have E := Lib.hid (show shapeOf 0 0 ng na z s = 1 by unfold shapeOf; rw [if_neg (fun h => hz h.1), if_neg (fun h => by omega), if_pos ⟨hz, HK.out⟩])
    generalize shapeOf 0 0 ng na z s = R at E ⊢
    go_enter Tryz.func49, Tryz.ntmps49
    go_wp2_with (first | (go_at_call 88; refine (span_bad _ _ _ HK.out).mono ?_; rintro e w' ⟨rfl, rfl⟩))
    go_ret
    exact ⟨by rw [E.out]; rfl, belowNew' _ _⟩
structure LensQ (q : QX) : Prop where
 cols : q.cols.length ≤ 140737488355328
 names : q.names.length ≤ 140737488355328
 group : q.group.length ≤ 140737488355328
 aggs : q.aggs.length ≤ 140737488355328
theorem qshape_any (q : QX) (w : World) (hn : LensQ q) : Calls Tryz.prog 49 #[qxV q] w fun e w' => e = .returned (errV (shapeErr q)) ∧ Below w.heap.size w w' :=
 shape_cells _ _ _ _ _ _ _ _ _ _ _ _ _ _ _ _ _ _ _ _ _ _ w hn.cols hn.names hn.group hn.aggs
end Go.Proofs.YtpbbkpfaphjdoabGreatDoor
