/- slices.symMergeCmpFunc, walked, where the second run is of one element: it is put in its place. -/
import Derived.Test.YtkgdfccpkiglaaaDoorSSortOne
namespace Go.Proofs.YtkgdfccpkiglaaaDoor
open Go.ChangeShapes Go.WideShapes Go.ChangeAt Go.RowKit
namespace SortLaw
set_option maxHeartbeats 4000000 in
set_option maxRecDepth 100000 in
theorem merge_last {β : Type} (S : SEnv β) (cap : Value) (hcmp : SCmpOk S cap) (htr : ∀ x y z, S.A x y → S.A y z → S.A x z) (X L : List β) (x : β) (Y : List β) (a m b N C : Nat) (w : World)
  (hX : X.length = a) (hm : a + L.length = m) (hb : m + 1 = b) (hN : b + Y.length = N) (h2 : 2 ≤ L.length) (hmax : N ≤ 4611686018427) (hMx : S.M x) (hM : ∀ y ∈ L, S.M y) (htag : ∀ y ∈ L, S.tag y < S.tag x) (hR : L.Pairwise S.A)
  (h : SAt S w (X ++ (L ++ (x :: Y)))) :
  Calls Tryd.prog 41 #[.slice (some ⟨S.b, 0, none⟩) N C, .int .i64 a, .int .i64 m, .int .i64 b, .func (.func 22) #[] #[cap]] w (MergeSays S X L [x] Y) := by
 have H0 := Lib.hid h
 have HX := Lib.hid hX
 have HN := Lib.hid hN
 have HR := Lib.hid hR
 have HC := Lib.hid hcmp
 have HTR := Lib.hid htr
 have HT := Lib.hid (fun y hy => And.intro (hM y hy) (htag y hy))
 have HMX := Lib.hid hMx
 obtain ⟨pl, hpl⟩ : ∃ pl, L.length = pl := ⟨_, rfl⟩
 have HPL := Lib.hid hpl
 rw [hpl] at hm h2
 have b1 : b ≤ N := by omega
 have b2 : m ≤ b := by omega
 have b3 : a ≤ m := by omega
 have b4 : m + 1 ≤ N := by omega
 have e0 : (m : Int) - (a : Int) = (pl : Int) := by omega
 have e1 : ((pl : Int) == 1) = false := by simp; omega
 have e2 : ((b : Int) - (m : Int) == 1) = true := by simp; omega
 have e2' : (b : Int) - (m : Int) = 1 := by omega
 have HMA := Lib.hid hm
 clear h hX hb hN hM htag hcmp htr hR hMx hm hpl h2
 go_enter Tryd.func41, Tryd.ntmps41
 go_wp2_with fail
 clear e1 e0 e2 e2'
 go_loopw [14, 15] (fun i j wr => ∃ (ni nj : Nat), i = .int .i64 ni ∧ j = .int .i64 nj ∧ a ≤ ni ∧ ni ≤ nj ∧ nj ≤ m ∧ (ni - a = 0 ∨ ∃ y, L[ni - a - 1]? = some y ∧ S.A y x) ∧ (nj - a = L.length ∨ ∃ y, L[nj - a]? = some y ∧ S.A x y) ∧
   SAt S wr (X ++ (L ++ (x :: Y)))) (fun i j _ => (intOf j).toNat - (intOf i).toNat)
 case atStart => exact ⟨a, m, rfl, rfl, Nat.le_refl _, b3, Nat.le_refl _, Or.inl (by omega), Or.inl (by have := HMA.out; rw [HPL.out]; omega), H0.out⟩
 case round =>
  obtain ⟨ni, nj, rfl, rfl, h1, h2, h3, hlo, hhi, hs⟩ := hrel
  have HLO := Lib.hid hlo
  have HHI := Lib.hid hhi
  have HS := Lib.hid hs
  clear hlo hhi hs
  by_cases hlt : ni < nj
  ·obtain ⟨hh, hhe⟩ : ∃ hh, (ni + nj) / 2 = hh := ⟨_, rfl⟩
   have hh1 : ni ≤ hh := by omega
   have hh2 : hh < nj := by omega
   have ed : ((ni : Int) + (nj : Int)) / 2 = (hh : Int) := by omega
   have hq : hh - a < L.length := by have := HMA.out; rw [HPL.out]; omega
   obtain ⟨y, hy⟩ : ∃ y, L[hh - a]? = some y := ⟨_, List.getElem?_eq_getElem hq⟩
   have HY := Lib.hid hy
   have i1 : (X ++ (L ++ (x :: Y)))[hh]? = some y := by
    rw [List.getElem?_append_right (by rw [HX.out]; omega), HX.out, List.getElem?_append_left hq, hy]
   have i2 : (X ++ (L ++ (x :: Y)))[m]? = some x := by
    have hmm := HMA.out
    rw [List.getElem?_append_right (by rw [HX.out]; omega), HX.out, List.getElem?_append_right (by rw [HPL.out]; omega), HPL.out, show m - a - pl = 0 by omega]; rfl
   have HCL := Lib.hid (fun wq (hq : SAt S wq (X ++ (L ++ (x :: Y)))) => And.intro (hq.cells i1) (hq.cells i2))
   have hmy := HT.out y (List.mem_of_getElem? hy)
   have TC := Lib.hid (fun wq (hq : SAt S wq (X ++ (L ++ (x :: Y)))) => HC.out y x wq hmy.1 HMX.out hmy.2 hq.only)
   clear hy i1 i2 hmy hhe
   generalize hrx : S.rep x = rx at HCL TC
   generalize hry : S.rep y = ry at HCL TC
   have KP := Lib.hid (fun wq (hq : SAt S wq (X ++ (L ++ (x :: Y)))) => show Cells6 wq S.b (hh * 3) (m * 3) ry rx from by
    obtain ⟨⟨c1, c2, c3, -⟩, g1, g2, g3, -⟩ := HCL.out wq hq
    exact ⟨c1, c2, c3, g1, g2, g3⟩)
   obtain ⟨c1, c2, c3, g1, g2, g3⟩ := KP.out wr HS.out
   have z1 : (0 : Int) ≤ (hh : Int) := by omega
   have z2 : (hh : Int) < (N : Int) := by omega
   have z3 : (0 : Int) ≤ (m : Int) := by omega
   have z4 : (m : Int) < (N : Int) := by omega
   go_wp2_with fail
   go_region_held3 (fun wq => wq.cell? ⟨S.b, hh * 3, none⟩ = some (.slice ry.p ry.n ry.c) ∧ wq.cell? ⟨S.b, hh * 3 + 1, none⟩ = some (.int .i64 ry.err) ∧ wq.cell? ⟨S.b, hh * 3 + 2, none⟩ = some (.int .i64 ry.beg) ∧
     wq.cell? ⟨S.b, m * 3, none⟩ = some (.slice rx.p rx.n rx.c) ∧ wq.cell? ⟨S.b, m * 3 + 1, none⟩ = some (.int .i64 rx.err) ∧ wq.cell? ⟨S.b, m * 3 + 2, none⟩ = some (.int .i64 rx.beg)) (first | exact KP.out _ HS.out | exact KP.out _ HS.out.drew | exact KP.out _ HS3.out) (first
    | (go_at_call 22; refine (TC.out _ HS.out.drew).mono ?_; rintro e w3 ⟨cc, rfl, hb3, hc3⟩; have HS3 := Lib.hid (SAt.keep (HS.out.drew) hb3); have HC3 := Lib.hid hc3; clear hb3 hc3))
   clear c1 c2 c3 g1 g2 g3
   have hc3 := HC3.out
   clear HC3
   generalize decide (cc < 0) = bb at hc3 ⊢
   rcases hc3 with ⟨rfl, hA⟩ | ⟨rfl, hA⟩
   ·have HAX := Lib.hid hA
    clear hA
    go_wp2_with fail
    go_roundw
    case rel => exact ⟨ni, hh, rfl, rfl, h1, hh1, by omega, HLO.out, Or.inr ⟨y, HY.out, HAX.out⟩, HS3.out⟩
    case measure => simp [intOf]; omega
   ·have HAX := Lib.hid hA
    clear hA
    go_wp2_with fail
    go_roundw
    case rel => exact ⟨hh + 1, nj, by go_num, rfl, by omega, by omega, h3, Or.inr ⟨y, by rw [show hh + 1 - a - 1 = hh - a by omega]; exact HY.out, HAX.out⟩, HHI.out, HS3.out⟩
    case measure => simp [intOf]; omega
  ·obtain rfl : ni = nj := by omega
   obtain ⟨p, hp⟩ : ∃ p, ni - a = p := ⟨_, rfl⟩
   have hpe : ni = a + p := by omega
   have hpR : p ≤ L.length := by have := HMA.out; rw [HPL.out]; omega
   have HPR := Lib.hid hpR
   have HE := Lib.hid (show (L.take p ++ x :: L.drop p).Pairwise S.A by
    refine ins_at HTR.out HR.out hpR ?_ ?_
    ·have := HLO.out; rwa [hp] at this
    ·have := HHI.out; rwa [hp] at this)
   have HPE := Lib.hid hpe
   clear hp HLO HHI hpe hpR
   go_wp2_with fail
   go_loopw [17] (fun i wr => ∃ (q : Nat), i = .int .i64 ((a + q : Nat) : Int) ∧ p ≤ q ∧ q ≤ L.length ∧ SAt S wr (X ++ (L.take q ++ (x :: (L.drop q ++ Y))))) (fun i _ => (intOf i).toNat)
   case atStart => exact ⟨pl, by rw [HMA.out], by rw [← HPL.out]; exact HPR.out, by rw [HPL.out]; exact Nat.le_refl _, by rw [← HPL.out]; simpa using HS.out⟩
   case round =>
    obtain ⟨q, rfl, hq1, hq, hs⟩ := hrel
    have HSQ := Lib.hid hs
    clear hs
    have HQL := Lib.hid hq
    by_cases hqp : p < q
    ·obtain ⟨r, rfl⟩ : ∃ r, q = r + 1 := ⟨q - 1, by omega⟩
     have hqR : r < L.length := by omega
     obtain ⟨y, hy⟩ : ∃ y, L[r]? = some y := ⟨_, List.getElem?_eq_getElem hqR⟩
     have hdr : L.drop r = y :: L.drop (r + 1) := by
      obtain ⟨g1, g2⟩ := List.getElem?_eq_some_iff.1 hy
      rw [List.drop_eq_getElem_cons g1, g2]
     have htk : L.take (r + 1) = L.take r ++ [y] := by rw [List.take_add_one, hy]; rfl
     have hl : (X ++ L.take r).length = a + r := by rw [List.length_append, HX.out, List.length_take]; omega
     have e0 : X ++ (L.take (r + 1) ++ (x :: (L.drop (r + 1) ++ Y))) = (X ++ L.take r) ++ (y :: x :: (L.drop (r + 1) ++ Y)) := by rw [htk]; simp
     have i1 : ((X ++ L.take r) ++ (y :: x :: (L.drop (r + 1) ++ Y)))[a + r]? = some y := by
      rw [List.getElem?_append_right (by rw [hl]; exact Nat.le_refl _), hl, Nat.sub_self]; rfl
     have i2 : ((X ++ L.take r) ++ (y :: x :: (L.drop (r + 1) ++ Y)))[a + r + 1]? = some x := by
      rw [List.getElem?_append_right (by rw [hl]; omega), hl, show a + r + 1 - (a + r) = 1 by omega]; rfl
     have hS1 : SAt S wr ((X ++ L.take r) ++ (y :: x :: (L.drop (r + 1) ++ Y))) := by rw [← e0]; exact HSQ.out
     obtain ⟨c1, c2, c3, f1, f2, f3, lt1⟩ := hS1.cells i1
     obtain ⟨g1, g2, g3, q1, q2, q3, -⟩ := hS1.cells i2
     have hsw := hS1.swap i2 i1
     have ew := swap_at (P := X ++ L.take r) (M := ([] : List β)) (Q := L.drop (r + 1) ++ Y) (x := y) (y := x)
     rw [hl, List.length_nil, Nat.add_zero] at ew
     rw [List.set_comm _ _ (by omega), show (((X ++ L.take r) ++ (y :: x :: (L.drop (r + 1) ++ Y))).set (a + r) x).set (a + r + 1) y = X ++ (L.take r ++ (x :: (L.drop r ++ Y))) by rw [hdr]; simpa using ew] at hsw
     have HSW := Lib.hid hsw
     have hLm : a + (r + 1) ≤ m := by have := HMA.out; have := HPL.out; omega
     clear ew hsw hS1 i1 i2 e0 htk hdr hy hl hq hqR
     generalize S.rep x = rx at g1 g2 g3 HSW
     generalize S.rep y = ry at c1 c2 c3 HSW
     have hd1 : decide (ni < a + r + 1) = true := decide_eq_true (by have := HPE.out; omega)
     rw [← Nat.add_assoc a r 1] at *
     have hni : ni ≤ a + r := by have := HPE.out; omega
     have haj : a ≤ a + r := by omega
     generalize hj : a + r = j at *
     have HJ := Lib.hid hj
     have z1 : (0 : Int) ≤ (j : Int) := by omega
     have z5 : ((j : Int) + 1).toNat = j + 1 := by omega
     have z6 : (j : Int) + 1 - 1 = (j : Int) := by omega
     have hd2 : decide ((ni : Int) < (j : Int) + 1) = true := decide_eq_true (by omega)
     clear hj
     go_wp2_with fail
     go_big_region
     refine gen6 (R := fun w => SAt S w _) HSW.out rfl ?_
     clear HSW c1 c2 c3 g1 g2 g3 f1 f2 f3 q1 q2 q3
     intro w6 h6
     have HS6 := Lib.hid (show SAt S w6 _ from h6)
     clear h6
     go_wp2_with fail
     go_roundw
     case rel => exact ⟨r, by rw [HJ.out], by omega, by have := HQL.out; omega, HS6.out⟩
     case measure => simp [intOf]
    ·obtain rfl : q = p := by omega
     have HF := Lib.hid (show MergeSays S X L [x] Y (.returned (.tuple #[])) wr from
      ⟨rfl, L.take q ++ x :: L.drop q, by
       have := (List.perm_middle (a := x) (l₁ := L.take q) (l₂ := L.drop q))
       rw [List.take_append_drop] at this
       exact this.trans (List.perm_append_comm (l₁ := [x]) (l₂ := L)), HE.out, by have := HSQ.out; simpa using this⟩)
     have hq0 := HPE.out
     rw [← hq0]
     have hd1 : decide (ni < ni) = false := by simp
     clear hq hq1 hq0
     go_wp2_with fail
     go_end0
     exact HF.out
end SortLaw
end Go.Proofs.YtkgdfccpkiglaaaDoor
