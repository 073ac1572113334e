/- slices.symMergeCmpFunc, walked, where the first run is of one element: it is put in its place. -/
import Derived.Test.YtkgdfccpkiglaaaDoorSSortIns
namespace Go.Proofs.YtkgdfccpkiglaaaDoor
open Go.ChangeShapes Go.WideShapes Go.ChangeAt Go.RowKit
namespace SortLaw
def Cells6 (w : World) (b i j : Nat) (y x : OutE) : Prop :=
 w.cell? ⟨b, i, none⟩ = some (.slice y.p y.n y.c) ∧ w.cell? ⟨b, i + 1, none⟩ = some (.int .i64 y.err) ∧ w.cell? ⟨b, i + 2, none⟩ = some (.int .i64 y.beg) ∧
 w.cell? ⟨b, j, none⟩ = some (.slice x.p x.n x.c) ∧ w.cell? ⟨b, j + 1, none⟩ = some (.int .i64 x.err) ∧ w.cell? ⟨b, j + 2, none⟩ = some (.int .i64 x.beg)
def MergeSays {β : Type} (S : SEnv β) (X L R Y : List β) (e : Ending) (w' : World) : Prop :=
 e = .returned (.tuple #[]) ∧ ∃ E : List β, E.Perm (L ++ R) ∧ E.Pairwise S.A ∧ SAt S w' (X ++ (E ++ Y))
set_option maxHeartbeats 4000000 in
set_option maxRecDepth 100000 in
theorem merge_one {β : Type} (S : SEnv β) (cap : Value) (hcmp : SCmpOk S cap) (htr : ∀ x y z, S.A x y → S.A y z → S.A x z) (X : List β) (x : β) (R Y : List β) (a m b N C : Nat) (w : World)
  (hX : X.length = a) (hm : a + 1 = m) (hb : m + R.length = b) (hN : b + Y.length = N) (hmax : N ≤ 4611686018427) (hMx : S.M x) (hM : ∀ y ∈ R, S.M y) (htag : ∀ y ∈ R, S.tag x < S.tag y) (hR : R.Pairwise S.A)
  (h : SAt S w (X ++ (x :: (R ++ Y)))) :
  Calls Tryd.prog 41 #[.slice (some ⟨S.b, 0, none⟩) N C, .int .i64 a, .int .i64 m, .int .i64 b, .func (.func 22) #[] #[cap]] w (MergeSays S X [x] R Y) := by
 have H0 := Lib.hid h
 have HX := Lib.hid hX
 have HB := Lib.hid hb
 have HN := Lib.hid hN
 have HR := Lib.hid hR
 have HC := Lib.hid hcmp
 have HTR := Lib.hid htr
 have HT := Lib.hid (fun y hy => And.intro (hM y hy) (htag y hy))
 have HMX := Lib.hid hMx
 have b1 : b ≤ N := by omega
 have b2 : m ≤ b := by omega
 have b3 : a ≤ m := by omega
 have e1 : ((m : Int) - (a : Int) == 1) = true := by simp; omega
 have e1' : (m : Int) - (a : Int) = 1 := by omega
 have HMA := Lib.hid hm
 clear h hX hb hN hM htag hcmp htr hR hMx hm
 go_enter Tryd.func41, Tryd.ntmps41
 go_wp2_with fail
 clear e1 e1'
 go_loopw [10, 11] (fun i j wr => ∃ (ni nj : Nat), i = .int .i64 ni ∧ j = .int .i64 nj ∧ m ≤ ni ∧ ni ≤ nj ∧ nj ≤ b ∧ (ni - m = 0 ∨ ∃ y, R[ni - m - 1]? = some y ∧ S.A y x) ∧ (nj - m = R.length ∨ ∃ y, R[nj - m]? = some y ∧ S.A x y) ∧
   SAt S wr (X ++ (x :: (R ++ Y)))) (fun i j _ => (intOf j).toNat - (intOf i).toNat)
 case atStart => exact ⟨m, b, rfl, rfl, Nat.le_refl _, b2, Nat.le_refl _, Or.inl (by omega), Or.inl (by have := HB.out; omega), H0.out⟩
 case round =>
  obtain ⟨ni, nj, rfl, rfl, h1, h2, h3, hlo, hhi, hs⟩ := hrel
  have HLO := Lib.hid hlo
  have HHI := Lib.hid hhi
  have HS := Lib.hid hs
  clear hlo hhi hs
  by_cases hlt : ni < nj
  ·obtain ⟨hh, hhe⟩ : ∃ hh, (ni + nj) / 2 = hh := ⟨_, rfl⟩
   have hh1 : ni ≤ hh := by omega
   have hh2 : hh < nj := by omega
   have ed : ((ni : Int) + (nj : Int)) / 2 = (hh : Int) := by omega
   have hq : hh - m < R.length := by have := HB.out; omega
   obtain ⟨y, hy⟩ : ∃ y, R[hh - m]? = some y := ⟨_, List.getElem?_eq_getElem hq⟩
   have HY := Lib.hid hy
   have i1 : (X ++ (x :: (R ++ Y)))[hh]? = some y := by
    have hmm := HMA.out
    rw [List.getElem?_append_right (by rw [HX.out]; omega), HX.out, show hh - a = (hh - m) + 1 by omega, List.getElem?_cons_succ, List.getElem?_append_left hq, hy]
   have i2 : (X ++ (x :: (R ++ Y)))[a]? = some x := by
    rw [List.getElem?_append_right (by rw [HX.out]; omega), HX.out, Nat.sub_self]; rfl
   have HCL := Lib.hid (fun wq (hq : SAt S wq (X ++ (x :: (R ++ Y)))) => And.intro (hq.cells i1) (hq.cells i2))
   have hmy := HT.out y (List.mem_of_getElem? hy)
   have TC := Lib.hid (fun wq (hq : SAt S wq (X ++ (x :: (R ++ Y)))) => HC.out x y wq HMX.out hmy.1 hmy.2 hq.only)
   clear hy i1 i2 hmy hhe
   generalize hrx : S.rep x = rx at HCL TC
   generalize hry : S.rep y = ry at HCL TC
   have KP := Lib.hid (fun wq (hq : SAt S wq (X ++ (x :: (R ++ Y)))) => show Cells6 wq S.b (hh * 3) (a * 3) ry rx from by
    obtain ⟨⟨c1, c2, c3, -⟩, g1, g2, g3, -⟩ := HCL.out wq hq
    exact ⟨c1, c2, c3, g1, g2, g3⟩)
   obtain ⟨c1, c2, c3, g1, g2, g3⟩ := KP.out wr HS.out
   have z1 : (0 : Int) ≤ (hh : Int) := by omega
   have z2 : (hh : Int) < (N : Int) := by omega
   have z3 : (0 : Int) ≤ (a : Int) := by omega
   have z4 : (a : Int) < (N : Int) := by omega
   go_wp2_with fail
   go_region_held3 (fun wq => wq.cell? ⟨S.b, hh * 3, none⟩ = some (.slice ry.p ry.n ry.c) ∧ wq.cell? ⟨S.b, hh * 3 + 1, none⟩ = some (.int .i64 ry.err) ∧ wq.cell? ⟨S.b, hh * 3 + 2, none⟩ = some (.int .i64 ry.beg) ∧
     wq.cell? ⟨S.b, a * 3, none⟩ = some (.slice rx.p rx.n rx.c) ∧ wq.cell? ⟨S.b, a * 3 + 1, none⟩ = some (.int .i64 rx.err) ∧ wq.cell? ⟨S.b, a * 3 + 2, none⟩ = some (.int .i64 rx.beg)) (first | exact KP.out _ HS.out | exact KP.out _ HS.out.drew | exact KP.out _ HS3.out) (first
    | (go_at_call 22; refine (TC.out _ HS.out.drew).mono ?_; rintro e w3 ⟨cc, rfl, hb3, hc3⟩; have HS3 := Lib.hid (SAt.keep (HS.out.drew) hb3); have HC3 := Lib.hid hc3; clear hb3 hc3))
   clear c1 c2 c3 g1 g2 g3
   have hc3 := HC3.out
   clear HC3
   generalize decide (cc < 0) = bb at hc3 ⊢
   rcases hc3 with ⟨rfl, hA⟩ | ⟨rfl, hA⟩
   ·have HAX := Lib.hid hA
    clear hA
    go_wp2_with fail
    go_roundw
    case rel => exact ⟨hh + 1, nj, by go_num, rfl, by omega, by omega, h3, Or.inr ⟨y, by rw [show hh + 1 - m - 1 = hh - m by omega]; exact HY.out, HAX.out⟩, HHI.out, HS3.out⟩
    case measure => simp [intOf]; omega
   ·have HAX := Lib.hid hA
    clear hA
    go_wp2_with fail
    go_roundw
    case rel => exact ⟨ni, hh, rfl, rfl, h1, hh1, by omega, HLO.out, Or.inr ⟨y, HY.out, HAX.out⟩, HS3.out⟩
    case measure => simp [intOf]; omega
  ·obtain rfl : ni = nj := by omega
   obtain ⟨p, hp⟩ : ∃ p, ni - m = p := ⟨_, rfl⟩
   have hpe : ni = m + p := by omega
   have hpR : p ≤ R.length := by have := HB.out; omega
   have HPR := Lib.hid hpR
   have HE := Lib.hid (show (R.take p ++ x :: R.drop p).Pairwise S.A by
    refine ins_at HTR.out HR.out hpR ?_ ?_
    ·have := HLO.out; rwa [hp] at this
    ·have := HHI.out; rwa [hp] at this)
   have hma : m = a + 1 := HMA.out.symm
   have ek : (ni : Int) - 1 = ((a + p : Nat) : Int) := by omega
   have hap : a + p + 1 ≤ N := by omega
   clear hp HLO HHI
   have hpe' := hpe
   clear hpe
   have HPE := Lib.hid hpe'
   have HMA' := Lib.hid hma
   clear hpe' hma
   generalize hq0 : a + p = q0 at *
   have HQ0 := Lib.hid hq0
   clear hq0
   go_wp2_with fail
   go_loopw [13] (fun i wr => ∃ (q : Nat), i = .int .i64 ((a + q : Nat) : Int) ∧ q ≤ p ∧ SAt S wr (X ++ (R.take q ++ (x :: (R.drop q ++ Y))))) (fun i _ => q0 - (intOf i).toNat)
   case atStart => exact ⟨0, rfl, Nat.zero_le _, by simpa using HS.out⟩
   case round =>
    obtain ⟨q, rfl, hq, hs⟩ := hrel
    have HSQ := Lib.hid hs
    clear hs
    by_cases hqp : q < p
    ·have hqR : q < R.length := Nat.lt_of_lt_of_le hqp HPR.out
     obtain ⟨y, hy⟩ : ∃ y, R[q]? = some y := ⟨_, List.getElem?_eq_getElem hqR⟩
     have hdr : R.drop q = y :: R.drop (q + 1) := by
      obtain ⟨g1, g2⟩ := List.getElem?_eq_some_iff.1 hy
      rw [List.drop_eq_getElem_cons g1, g2]
     have htk : R.take (q + 1) = R.take q ++ [y] := by rw [List.take_add_one, hy]; rfl
     have hl : (X ++ R.take q).length = a + q := by rw [List.length_append, HX.out, List.length_take]; omega
     have e0 : X ++ (R.take q ++ (x :: (R.drop q ++ Y))) = (X ++ R.take q) ++ (x :: y :: (R.drop (q + 1) ++ Y)) := by rw [hdr]; simp
     have i1 : ((X ++ R.take q) ++ (x :: y :: (R.drop (q + 1) ++ Y)))[a + q]? = some x := by
      rw [List.getElem?_append_right (by rw [hl]; exact Nat.le_refl _), hl, Nat.sub_self]; rfl
     have i2 : ((X ++ R.take q) ++ (x :: y :: (R.drop (q + 1) ++ Y)))[a + q + 1]? = some y := by
      rw [List.getElem?_append_right (by rw [hl]; omega), hl, show a + q + 1 - (a + q) = 1 by omega]; rfl
     have hS1 : SAt S wr ((X ++ R.take q) ++ (x :: y :: (R.drop (q + 1) ++ Y))) := by rw [← e0]; exact HSQ.out
     obtain ⟨c1, c2, c3, f1, f2, f3, lt1⟩ := hS1.cells i1
     obtain ⟨g1, g2, g3, q1, q2, q3, -⟩ := hS1.cells i2
     have hsw := hS1.swap i1 i2
     have ew := swap_at (P := X ++ R.take q) (M := ([] : List β)) (Q := R.drop (q + 1) ++ Y) (x := x) (y := y)
     rw [hl, List.length_nil, Nat.add_zero] at ew
     rw [show (((X ++ R.take q) ++ (x :: y :: (R.drop (q + 1) ++ Y))).set (a + q) y).set (a + q + 1) x = X ++ (R.take (q + 1) ++ (x :: (R.drop (q + 1) ++ Y))) by rw [htk]; simpa using ew] at hsw
     have HSW := Lib.hid hsw
     have haq : a + q + 1 ≤ q0 := by have := HQ0.out; omega
     clear ew hsw hS1 i1 i2 e0 htk hdr hy hl
     generalize S.rep x = rx at c1 c2 c3 HSW
     generalize S.rep y = ry at g1 g2 g3 HSW
     have hk1 : ((a + (q + 1) : Nat) : Int) = ((a + q : Nat) : Int) + 1 := by omega
     generalize hj : a + q = j at *
     have HJ := Lib.hid hj
     have HK1 := Lib.hid hk1
     have j1 : ((j : Int) + 1).toNat = j + 1 := by omega
     clear hj hk1
     go_wp2_with fail
     go_big_region
     refine gen6 (R := fun w => SAt S w _) HSW.out rfl ?_
     clear HSW c1 c2 c3 g1 g2 g3 f1 f2 f3 q1 q2 q3
     intro w6 h6
     have HS6 := Lib.hid (show SAt S w6 _ from h6)
     clear h6
     go_wp2_with fail
     go_roundw
     case rel => exact ⟨q + 1, by rw [HK1.out], by omega, HS6.out⟩
     case measure => simp [intOf]; omega
    ·obtain rfl : q = p := by omega
     have HF := Lib.hid (show MergeSays S X [x] R Y (.returned (.tuple #[])) wr from
      ⟨rfl, R.take q ++ x :: R.drop q, by
       have := (List.perm_middle (a := x) (l₁ := R.take q) (l₂ := R.drop q))
       rw [List.take_append_drop] at this
       exact this, HE.out, by have := HSQ.out; simpa using this⟩)
     have hq0 := HQ0.out
     rw [hq0]
     go_wp2_with fail
     go_end0
     exact HF.out
end SortLaw
end Go.Proofs.YtkgdfccpkiglaaaDoor
