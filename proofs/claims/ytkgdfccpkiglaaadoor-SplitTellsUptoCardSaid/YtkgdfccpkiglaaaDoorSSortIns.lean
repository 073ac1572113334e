/- slices.insertionSortCmpFunc, walked: a run in its first order comes to be sorted. -/
import Derived.Test.YtkgdfccpkiglaaaDoorSSortTurn
import Derived.Deep.RegionHeld3
namespace Go.Proofs.YtkgdfccpkiglaaaDoor
open Go.ChangeShapes Go.WideShapes Go.ChangeAt Go.RowKit
namespace SortLaw
theorem SAt.drewN {β : Type} {S : SEnv β} {w : World} {l : List β} (h : SAt S w l) (q : Nat) : SAt S (w.drewN q) l := ⟨h.row, h.only.drewN q⟩
def SCmp {β : Type} (S : SEnv β) (x y : β) (w : World) (e : Ending) (w' : World) : Prop :=
 ∃ c : Int, e = .returned (.int .i64 c) ∧ Below w.heap.size w w' ∧ ((decide (c < 0) = true ∧ S.A y x) ∨ (decide (c < 0) = false ∧ S.A x y))
def SCmpOk {β : Type} (S : SEnv β) (cap : Value) : Prop :=
 ∀ x y w, S.M x → S.M y → S.tag x < S.tag y → Only (fun k => k = S.b) S.w0 w → Calls Tryd.prog 22 #[oV (S.rep y), oV (S.rep x), cap] w (SCmp S x y w)
set_option maxHeartbeats 4000000 in
set_option maxRecDepth 100000 in
theorem ins_any {β : Type} (S : SEnv β) (cap : Value) (hcmp : SCmpOk S cap) (htr : ∀ x y z, S.A x y → S.A y z → S.A x z) (X D Y : List β) (a b N C : Nat) (w : World)
  (hX : X.length = a) (hb : a + D.length = b) (hN : b + Y.length = N) (hmax : N ≤ 4611686018427) (hM : ∀ x ∈ D, S.M x) (htag : D.Pairwise (fun x y => S.tag x < S.tag y))
  (h : SAt S w (X ++ (D ++ Y))) :
  Calls Tryd.prog 40 #[.slice (some ⟨S.b, 0, none⟩) N C, .int .i64 a, .int .i64 b, .func (.func 22) #[] #[cap]] w
   fun e w' => e = .returned (.tuple #[]) ∧ ∃ E : List β, E.Perm D ∧ E.Pairwise S.A ∧ SAt S w' (X ++ (E ++ Y)) := by
 have H0 := Lib.hid h
 have HX := Lib.hid hX
 have HB := Lib.hid hb
 have HN := Lib.hid hN
 have HM := Lib.hid hM
 have HT := Lib.hid htag
 have HC := Lib.hid hcmp
 have HTR := Lib.hid htr
 have b1 : b ≤ N := by omega
 have b2 : a ≤ b := by omega
 clear h hX hb hN hM htag hcmp htr
 go_enter Tryd.func40, Tryd.ntmps40
 go_wp2_with fail
 go_loopw [8] (fun i wr => ∃ (k : Nat) (E : List β), i = .int .i64 ((a + 1 + k : Nat) : Int) ∧ k ≤ D.length ∧ E.Perm (D.take (k + 1)) ∧ E.Pairwise S.A ∧ SAt S wr (X ++ (E ++ (D.drop (k + 1) ++ Y)))) (fun i _ => b + 1 - (intOf i).toNat)
 case atStart =>
  refine ⟨0, D.take 1, by go_num, by omega, List.Perm.refl _, ?_, ?_⟩
  ·cases D with
   | nil => simp
   | cons x l => simp
  ·rw [← List.append_assoc (D.take 1), List.take_append_drop]; exact H0.out
 case round =>
  obtain ⟨k, E, rfl, hk, hp, hsort, hs⟩ := hrel
  have HP := Lib.hid hp
  have HSO := Lib.hid hsort
  have HS := Lib.hid hs
  clear hp hsort hs
  by_cases hlk : a + 1 + k < b
  ·have hkd : k + 1 < D.length := by have := HB.out; omega
   obtain ⟨x, hx⟩ : ∃ x, D[k + 1]? = some x := ⟨_, List.getElem?_eq_getElem hkd⟩
   have HDX := Lib.hid hx
   have HDR := Lib.hid (show D.drop (k + 1) = x :: D.drop (k + 2) by
    obtain ⟨h1, h2⟩ := List.getElem?_eq_some_iff.1 hx
    rw [List.drop_eq_getElem_cons h1, h2])
   have HEL := Lib.hid (show E.length = k + 1 by rw [HP.out.length_eq, List.length_take]; omega)
   have HXM := Lib.hid (show S.M x from HM.out x (List.mem_of_getElem? hx))
   have HTG := Lib.hid (show ∀ s ∈ E, S.M s ∧ S.tag s < S.tag x by
    intro s hs
    have hs' := HP.out.mem_iff.mp hs
    refine ⟨HM.out s (List.mem_of_mem_take hs'), ?_⟩
    obtain ⟨i, hi⟩ := List.mem_iff_getElem?.1 hs'
    rw [List.getElem?_take] at hi
    split at hi
    ·rename_i hik
     obtain ⟨g1, g2⟩ := List.getElem?_eq_some_iff.1 hi
     obtain ⟨g3, g4⟩ := List.getElem?_eq_some_iff.1 hx
     have := List.pairwise_iff_getElem.1 HT.out i (k + 1) g1 g3 hik
     rwa [g2, g4] at this
    ·cases hi)
   have HFIN := Lib.hid (show ∀ (wf : World) (E1 E2 : List β), E = E1 ++ E2 → (∀ s ∈ E1, S.A s x) → (∀ s ∈ E2, S.A x s) → SAt S wf (X ++ (E1 ++ (x :: (E2 ++ (D.drop (k + 2) ++ Y))))) →
     ∃ E' : List β, E'.Perm (D.take (k + 1 + 1)) ∧ E'.Pairwise S.A ∧ SAt S wf (X ++ (E' ++ (D.drop (k + 1 + 1) ++ Y))) by
    intro wf E1 E2 hE h1 h2 hs
    refine ⟨E1 ++ x :: E2, ?_, insert_sorted (hE ▸ HSO.out) h1 h2, by simpa using hs⟩
    rw [List.take_add_one (i := k + 1), HDX.out]
    have := HP.out
    rw [hE] at this
    have e1 : (E1 ++ x :: E2).Perm (E1 ++ E2 ++ [x]) := by
     rw [List.append_assoc]
     exact List.Perm.append_left E1 (List.perm_append_comm (l₁ := [x]) (l₂ := E2))
    exact e1.trans (this.append_right [x]))
   clear hx
   have hi1 : ((a + 1 + k : Nat) : Int) + 1 = ((a + 1 + (k + 1) : Nat) : Int) := by omega
   have hi2 : a + 1 + k ≤ N := by omega
   have hi3 : a + 1 + (k + 1) ≤ N := by omega
   have hi4 : a + (k + 1) = a + 1 + k := by omega
   generalize hi0 : a + 1 + k = i0 at *
   generalize hi5 : a + 1 + (k + 1) = i1 at *
   have HI1 := Lib.hid hi1
   have HI4 := Lib.hid hi4
   have HI5 := Lib.hid hi5
   clear hi0 hi1 hi4 hi5
   go_wp2_with fail
   go_loopw [9] (fun j wr => ∃ (E1 E2 : List β), j = .int .i64 ((a + E1.length : Nat) : Int) ∧ E1.length ≤ k + 1 ∧ E = E1 ++ E2 ∧ (∀ s ∈ E2, S.A x s) ∧ SAt S wr (X ++ (E1 ++ (x :: (E2 ++ (D.drop (k + 2) ++ Y)))))) (fun j _ => (intOf j).toNat)
   case atStart =>
    refine ⟨E, [], ?_, by rw [HEL.out]; exact Nat.le_refl _, by simp, by simp, ?_⟩
    ·rw [HEL.out, HI4.out]
    ·have := HS.out; rw [HDR.out] at this; simpa using this
   case round =>
    obtain ⟨E1, E2, rfl, hle, hE, hA, hs⟩ := hrel
    have HE := Lib.hid hE
    have HA := Lib.hid hA
    have HSI := Lib.hid hs
    clear hE hA hs
    rcases List.eq_nil_or_concat E1 with rfl | ⟨E3, s, rfl⟩
    ·have HEN := Lib.hid (HFIN.out wr [] E2 HE.out (by simp) HA.out HSI.out)
     simp only [List.length_nil, Nat.add_zero]
     have d1 : decide (a < a) = false := by simp
     have d1' : decide ((a : Int) < (a : Int)) = false := by simp
     go_wp2_with fail
     go_quiet (fail)
     go_wp2_with fail
     go_roundw
     case rel =>
      obtain ⟨E', g1, g2, g3⟩ := HEN.out
      exact ⟨k + 1, E', by rw [HI5.out, ← HI1.out], by omega, g1, g2, g3.drewN nq⟩
     case measure => simp [intOf]; omega
    ·rw [List.concat_eq_append] at *
     obtain ⟨n3, hn3⟩ : ∃ n3, E3.length = n3 := ⟨_, rfl⟩
     have hl3 : (E3 ++ [s]).length = n3 + 1 := by rw [List.length_append, hn3]; rfl
     have HN3 := Lib.hid hn3
     rw [hl3] at hle ⊢
     have h1 : (X ++ (E3 ++ [s] ++ (x :: (E2 ++ (D.drop (k + 2) ++ Y)))))[a + n3]? = some s := by
      rw [List.getElem?_append_right (by rw [HX.out]; omega), HX.out, List.append_assoc, List.getElem?_append_right (by rw [hn3]; omega), hn3, show a + n3 - a - n3 = 0 by omega]; rfl
     have h2 : (X ++ (E3 ++ [s] ++ (x :: (E2 ++ (D.drop (k + 2) ++ Y)))))[a + (n3 + 1)]? = some x := by
      rw [List.getElem?_append_right (by rw [HX.out]; omega), HX.out, List.getElem?_append_right (by rw [hl3]; omega), hl3, show a + (n3 + 1) - a - (n3 + 1) = 0 by omega]; rfl
     have ew : ((X ++ (E3 ++ [s] ++ (x :: (E2 ++ (D.drop (k + 2) ++ Y))))).set (a + (n3 + 1)) s).set (a + n3) x = X ++ (E3 ++ (x :: (s :: E2 ++ (D.drop (k + 2) ++ Y)))) := by
      have := swap_at (P := X ++ E3) (M := ([] : List β)) (Q := E2 ++ (D.drop (k + 2) ++ Y)) (x := s) (y := x)
      rw [List.length_append, HX.out, hn3, List.length_nil, Nat.add_zero] at this
      rw [List.set_comm _ _ (by omega)]
      simpa [Nat.add_assoc] using this
     have HSW := Lib.hid (fun wq (hq : SAt S wq (X ++ (E3 ++ [s] ++ (x :: (E2 ++ (D.drop (k + 2) ++ Y)))))) => show SAt S (world6 wq S.b ((a + n3 + 1) * 3) ((a + n3) * 3) (S.rep s) (S.rep x)) (X ++ (E3 ++ (x :: (s :: E2 ++ (D.drop (k + 2) ++ Y))))) by
      have := hq.swap h2 h1
      rwa [ew] at this)
     have HCL := Lib.hid (fun wq (hq : SAt S wq (X ++ (E3 ++ [s] ++ (x :: (E2 ++ (D.drop (k + 2) ++ Y)))))) => And.intro (hq.cells h2) (hq.cells h1))
     have hms := HTG.out s (by rw [HE.out]; simp)
     have TC := Lib.hid (fun wq (hq : SAt S wq (X ++ (E3 ++ [s] ++ (x :: (E2 ++ (D.drop (k + 2) ++ Y)))))) => HC.out s x wq hms.1 HXM.out hms.2 hq.only)
     rw [← Nat.add_assoc a n3 1] at *
     have hja : a ≤ a + n3 := by omega
     have hjN : a + n3 + 1 < N := by have := HB.out; have := HN.out; omega
     clear ew hms h1 h2 hl3
     generalize hj : a + n3 = j at *
     have HJ := Lib.hid hj
     clear hj
     generalize hrx : S.rep x = rx at HSW HCL TC
     generalize hrs : S.rep s = rs at HSW HCL TC
     have d1 : decide (a < j + 1) = true := decide_eq_true (by omega)
     have d1' : decide ((a : Int) < (j : Int) + 1) = true := decide_eq_true (by omega)
     have z1 : (0 : Int) ≤ (j : Int) := by omega
     have z2 : (j : Int) < (N : Int) := by omega
     have z3 : (0 : Int) ≤ (j : Int) + 1 := by omega
     have z4 : (j : Int) + 1 < (N : Int) := by omega
     have z5 : ((j : Int) + 1).toNat = j + 1 := by omega
     have z6 : (j : Int) + 1 - 1 = (j : Int) := by omega
     have z7 : IntKind.i64.wrap (j : Int) = (j : Int) := IntWalk.i64_in _ (by omega)
     have z8 : IntKind.i64.wrap ((j : Int) + 1 - 1) = (j : Int) := by rw [z6]; exact z7
     have ei : ((j + 1 : Nat) : Int) - 1 = (j : Int) := by omega
     have en : (((j + 1 : Nat) : Int) - 1).toNat = j := by omega
     obtain ⟨⟨c1, c2, c3, f1, f2, f3, lt1⟩, g1, g2, g3, q1, q2, q3, lt2⟩ := HCL.out wr HSI.out
     go_wp2_with fail
     have KP := Lib.hid (fun wq (hq : SAt S wq (X ++ (E3 ++ [s] ++ (x :: (E2 ++ (D.drop (k + 2) ++ Y)))))) => show wq.cell? ⟨S.b, (j + 1) * 3, none⟩ = some (.slice rx.p rx.n rx.c) ∧ wq.cell? ⟨S.b, (j + 1) * 3 + 1, none⟩ = some (.int .i64 rx.err) ∧ wq.cell? ⟨S.b, (j + 1) * 3 + 2, none⟩ = some (.int .i64 rx.beg) ∧
       wq.cell? ⟨S.b, j * 3, none⟩ = some (.slice rs.p rs.n rs.c) ∧ wq.cell? ⟨S.b, j * 3 + 1, none⟩ = some (.int .i64 rs.err) ∧ wq.cell? ⟨S.b, j * 3 + 2, none⟩ = some (.int .i64 rs.beg) from by
      obtain ⟨⟨c1, c2, c3, -⟩, g1, g2, g3, -⟩ := HCL.out wq hq
      exact ⟨c1, c2, c3, g1, g2, g3⟩)
     go_region_held3 (fun wq => wq.cell? ⟨S.b, (j + 1) * 3, none⟩ = some (.slice rx.p rx.n rx.c) ∧ wq.cell? ⟨S.b, (j + 1) * 3 + 1, none⟩ = some (.int .i64 rx.err) ∧ wq.cell? ⟨S.b, (j + 1) * 3 + 2, none⟩ = some (.int .i64 rx.beg) ∧
       wq.cell? ⟨S.b, j * 3, none⟩ = some (.slice rs.p rs.n rs.c) ∧ wq.cell? ⟨S.b, j * 3 + 1, none⟩ = some (.int .i64 rs.err) ∧ wq.cell? ⟨S.b, j * 3 + 2, none⟩ = some (.int .i64 rs.beg)) (first | exact KP.out _ HSI.out | exact KP.out _ HSI.out.drew | exact KP.out _ HS3.out) (first
      | (go_at_call 22; refine (TC.out _ HSI.out.drew).mono ?_; rintro e w3 ⟨cc, rfl, hb3, hc3⟩; have HS3 := Lib.hid (SAt.keep (HSI.out.drew) hb3); have HC3 := Lib.hid hc3; clear hb3 hc3))
     clear z8 c1 c2 c3 f1 f2 f3 g1 g2 g3 q1 q2 q3 lt1 lt2
     have hc3 := HC3.out
     clear HC3
     generalize decide (cc < 0) = bb at hc3 ⊢
     rcases hc3 with ⟨rfl, hA⟩ | ⟨rfl, hA⟩
     ·have HAX := Lib.hid hA
      obtain ⟨⟨c1, c2, c3, f1, f2, f3, lt1⟩, g1, g2, g3, q1, q2, q3, lt2⟩ := HCL.out w3 HS3.out
      clear hA
      go_wp2_with fail
      go_big_region
      refine gen6 (R := fun w => SAt S w _) (HSW.out w3 HS3.out) rfl ?_
      clear c1 c2 c3 f1 f2 f3 g1 g2 g3 q1 q2 q3 lt1 lt2
      intro w6 h6
      have HS6 := Lib.hid (show SAt S w6 _ from h6)
      clear h6
      go_wp2_with fail
      go_roundw
      case rel =>
       refine ⟨E3, s :: E2, ?_, by omega, by rw [HE.out]; simp, ?_, HS6.out⟩
       ·rw [HN3.out, HJ.out]
       ·intro y hy
        rcases List.mem_cons.1 hy with rfl | hy
        ·exact HAX.out
        ·exact HA.out y hy
      case measure => simp [intOf]
     ·have HEN := Lib.hid (HFIN.out w3 (E3 ++ [s]) E2 HE.out (by
       have hso := HSO.out
       rw [HE.out] at hso
       have h3 := (List.pairwise_append.1 hso).1
       intro y hy
       rcases List.mem_append.1 hy with hy | hy
       ·exact HTR.out _ _ _ ((List.pairwise_append.1 h3).2.2 y hy s (by simp)) hA
       ·obtain rfl : y = s := by simpa using hy
        exact hA) HA.out HS3.out)
      clear hA
      go_wp2_with fail
      go_roundw
      case rel =>
       obtain ⟨E', g1, g2, g3⟩ := HEN.out
       exact ⟨k + 1, E', by rw [HI5.out, ← HI1.out], by omega, g1, g2, g3⟩
      case measure => simp [intOf]; omega
  ·have hkd : D.length ≤ k + 1 := by have := HB.out; omega
   have HF := Lib.hid (show ∃ E : List β, E.Perm D ∧ E.Pairwise S.A ∧ SAt S wr (X ++ (E ++ Y)) by
    refine ⟨E, ?_, HSO.out, ?_⟩
    ·have := HP.out; rwa [List.take_of_length_le hkd] at this
    ·have := HS.out; rwa [List.drop_of_length_le hkd, List.nil_append] at this)
   go_wp2_with fail
   go_end0
   exact ⟨rfl, HF.out⟩
end SortLaw
end Go.Proofs.YtkgdfccpkiglaaaDoor
