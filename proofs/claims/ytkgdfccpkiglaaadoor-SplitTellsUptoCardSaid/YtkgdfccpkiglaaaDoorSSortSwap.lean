/- slices.swapRangeCmpFunc, walked: two runs of one length change places. -/
import Derived.Test.YtkgdfccpkiglaaaDoorSSortAt
import Derived.BigRegion
namespace Go.Proofs.YtkgdfccpkiglaaaDoor
open Go.ChangeShapes Go.WideShapes Go.ChangeAt Go.RowKit
namespace SortLaw
def world6' (w : World) (b i j : Nat) (y x : OutE) : World :=
 (((((w.setCell ⟨b, i, none⟩ (.slice y.p y.n y.c)).setCell ⟨b, i + 1, none⟩ (.int .i64 y.err)).setCell ⟨b, i + 2, none⟩ (.int .i64 y.beg)).setCell ⟨b, j, none⟩ (.slice x.p x.n x.c)).setCell
  ⟨b, j + 1, none⟩ (.int .i64 x.err)).setCell ⟨b, j + 2, none⟩ (.int .i64 x.beg)
def world6 (w : World) (b i j : Nat) (y x : OutE) : World := (world6' w b i j y x).drew
theorem SAt.drew {β : Type} {S : SEnv β} {w : World} {l : List β} (h : SAt S w l) : SAt S w.drew l := ⟨h.row, h.only.drew⟩
theorem SAt.swap {β : Type} {S : SEnv β} {w : World} {l : List β} (h : SAt S w l) {i j : Nat} {x y : β} (hi : l[i]? = some x) (hj : l[j]? = some y) :
  SAt S (world6 w S.b (i * 3) (j * 3) (S.rep y) (S.rep x)) ((l.set i y).set j x) := by
 have h1 : i < l.length := (List.getElem?_eq_some_iff.1 hi).1
 have h2 : j < l.length := (List.getElem?_eq_some_iff.1 hj).1
 have := (h.put y h1).put x (by rw [List.length_set]; exact h2)
 have e : putAll (putAll w S.b (i * 3) (oC (S.rep y))) S.b (j * 3) (oC (S.rep x)) = world6' w S.b (i * 3) (j * 3) (S.rep y) (S.rep x) := by
  simp only [putAll, oC, world6', Nat.add_assoc]
 rw [e] at this
 exact this.drew
theorem gen6 {w w' : World} {b i j : Nat} {y x : OutE} {Q R : World → Prop} (h : R (world6 w b i j y x)) (e : world6 w b i j y x = w') (k : ∀ w6, R w6 → Q w6) : Q w' := e ▸ k _ h
set_option maxHeartbeats 4000000 in
set_option maxRecDepth 100000 in
theorem swapR_any {β : Type} (S : SEnv β) (P X M Y Q : List β) (a q n N C : Nat) (F : Value) (w : World)
  (ha : P.length = a) (hX : X.length = n) (hY : Y.length = n) (hq : a + n + M.length = q) (hN : q + n + Q.length = N) (hmax : N ≤ 4611686018427)
  (h : SAt S w (P ++ (X ++ (M ++ (Y ++ Q))))) :
  Calls Tryd.prog 48 #[.slice (some ⟨S.b, 0, none⟩) N C, .int .i64 a, .int .i64 q, .int .i64 n, F] w
   fun e w' => e = .returned (.tuple #[]) ∧ SAt S w' (P ++ (Y ++ (M ++ (X ++ Q)))) := by
 have H0 := Lib.hid h
 have HA := Lib.hid ha
 have HX := Lib.hid hX
 have HY := Lib.hid hY
 have HQ := Lib.hid hq
 have HN := Lib.hid hN
 have b1 : q + n ≤ N := by omega
 have b2 : a + n ≤ q := by omega
 clear h ha hX hY hq hN
 go_enter Tryd.func48, Tryd.ntmps48
 go_wp2_with fail
 go_loopw [10] (fun i wr => ∃ (k : Nat) (X1 X2 Y1 Y2 : List β), k ≤ n ∧ i = .int .i64 k ∧ X = X1 ++ X2 ∧ Y = Y1 ++ Y2 ∧ X1.length = k ∧ Y1.length = k ∧
   SAt S wr (P ++ (Y1 ++ (X2 ++ (M ++ (X1 ++ (Y2 ++ Q))))))) (fun i _ => n - (intOf i).toNat)
 case atStart => exact ⟨0, [], X, [], Y, by omega, rfl, rfl, rfl, rfl, rfl, H0.out⟩
 case round =>
  obtain ⟨k, X1, X2, Y1, Y2, hk, rfl, hx, hy, hx1, hy1, hs⟩ := hrel
  have HXX := Lib.hid hx
  have HYY := Lib.hid hy
  have HX1 := Lib.hid hx1
  have HY1 := Lib.hid hy1
  have HS := Lib.hid hs
  clear hx hy hx1 hy1 hs
  by_cases hlk : k < n
  ·obtain ⟨x, X3, rfl⟩ : ∃ x X3, X2 = x :: X3 := by
    cases X2 with
    | nil => have := HX.out; rw [HXX.out, List.append_nil, HX1.out] at this; omega
    | cons x X3 => exact ⟨x, X3, rfl⟩
   obtain ⟨y, Y3, rfl⟩ : ∃ y Y3, Y2 = y :: Y3 := by
    cases Y2 with
    | nil => have := HY.out; rw [HYY.out, List.append_nil, HY1.out] at this; omega
    | cons y Y3 => exact ⟨y, Y3, rfl⟩
   have hXn := HX.out
   rw [HXX.out, List.length_append, HX1.out, List.length_cons] at hXn
   have e1 : (P ++ (Y1 ++ (x :: X3 ++ (M ++ (X1 ++ (y :: Y3 ++ Q))))))[a + k]? = some x := by
    rw [List.getElem?_append_right (by rw [HA.out]; omega), List.getElem?_append_right (by rw [HA.out, HY1.out]; omega), HA.out, HY1.out, show a + k - a - k = 0 by omega]; rfl
   have hqq := HQ.out
   have e2 : (P ++ (Y1 ++ (x :: X3 ++ (M ++ (X1 ++ (y :: Y3 ++ Q))))))[q + k]? = some y := by
    rw [List.getElem?_append_right (by rw [HA.out]; omega), List.getElem?_append_right (by rw [HA.out, HY1.out]; omega), List.getElem?_append_right (by rw [HA.out, HY1.out, List.length_cons]; omega),
     List.getElem?_append_right (by rw [HA.out, HY1.out, List.length_cons]; omega), List.getElem?_append_right (by rw [HA.out, HY1.out, List.length_cons, HX1.out]; omega),
     HA.out, HY1.out, List.length_cons, HX1.out, show q + k - a - k - (X3.length + 1) - M.length - k = 0 by omega]; rfl
   have hsw := HS.out.swap e1 e2
   obtain ⟨c1, c2, c3, f1, f2, f3, lt1⟩ := HS.out.cells e1
   obtain ⟨d1, d2, d3, g1, g2, g3, -⟩ := HS.out.cells e2
   have ew : ((P ++ (Y1 ++ (x :: X3 ++ (M ++ (X1 ++ (y :: Y3 ++ Q)))))).set (a + k) y).set (q + k) x = P ++ ((Y1 ++ [y]) ++ (X3 ++ (M ++ ((X1 ++ [x]) ++ (Y3 ++ Q))))) := by
    have := swap_at (P := P ++ Y1) (M := X3 ++ (M ++ X1)) (Q := Y3 ++ Q) (x := x) (y := y)
    rw [List.length_append, HA.out, HY1.out, List.length_append, List.length_append, HX1.out, show a + k + 1 + (X3.length + (M.length + k)) = q + k by omega] at this
    simpa using this
   rw [ew] at hsw
   have HSW := Lib.hid hsw
   clear hsw e1 e2 ew hXn hqq
   generalize S.rep x = rx at c1 c2 c3 HSW
   generalize S.rep y = ry at d1 d2 d3 HSW
   generalize hbb : S.b = b at *
   go_wp2_with fail
   have i1 : ((a : Int) + (k : Int)).toNat = a + k := by omega
   have i2 : ((q : Int) + (k : Int)).toNat = q + k := by omega
   go_big_region
   refine gen6 (R := fun w => SAt S w _) HSW.out rfl ?_
   clear HSW c1 c2 c3 d1 d2 d3 f1 f2 f3 g1 g2 g3
   intro w6 h6
   have HS6 := Lib.hid (show SAt S w6 _ from h6)
   clear h6
   go_wp2_with fail
   go_roundw
   case rel => exact ⟨k + 1, X1 ++ [x], X3, Y1 ++ [y], Y3, by omega, by go_num, by rw [HXX.out]; simp, by rw [HYY.out]; simp, by rw [List.length_append, HX1.out]; rfl, by rw [List.length_append, HY1.out]; rfl, HS6.out⟩
   case measure => simp [intOf]; omega
  ·obtain rfl : k = n := by omega
   obtain rfl : X2 = [] := by
    have := HX.out; rw [HXX.out, List.length_append, HX1.out] at this
    exact List.eq_nil_of_length_eq_zero (by omega)
   obtain rfl : Y2 = [] := by
    have := HY.out; rw [HYY.out, List.length_append, HY1.out] at this
    exact List.eq_nil_of_length_eq_zero (by omega)
   have HF := Lib.hid (show SAt S wr (P ++ (Y ++ (M ++ (X ++ Q)))) by
    have := HS.out
    rw [HXX.out, HYY.out, List.append_nil, List.append_nil]
    simpa using this)
   go_wp2_with fail
   go_end0
   exact ⟨rfl, HF.out⟩
end SortLaw
end Go.Proofs.YtkgdfccpkiglaaaDoor
