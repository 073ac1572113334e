/- slices.symMergeCmpFunc, walked: two sorted runs beside each other come to be one. -/
import Derived.Test.YtkgdfccpkiglaaaDoorSSortLast
namespace Go.Proofs.YtkgdfccpkiglaaaDoor
open Go.ChangeShapes Go.WideShapes Go.ChangeAt Go.RowKit
namespace SortLaw
def MergeAt {β : Type} (S : SEnv β) (cap : Value) (k : Nat) : Prop :=
 ∀ (X L R Y : List β) (a m b N C : Nat) (w : World), L.length + R.length ≤ k → X.length = a → a + L.length = m → m + R.length = b → b + Y.length = N → N ≤ 4611686018427 →
  0 < L.length → 0 < R.length → (∀ x ∈ L, S.M x) → (∀ x ∈ R, S.M x) → L.Pairwise S.A → R.Pairwise S.A → (∀ x ∈ L, ∀ y ∈ R, S.tag x < S.tag y) → SAt S w (X ++ (L ++ (R ++ Y))) →
  Calls Tryd.prog 41 #[.slice (some ⟨S.b, 0, none⟩) N C, .int .i64 a, .int .i64 m, .int .i64 b, .func (.func 22) #[] #[cap]] w (MergeSays S X L R Y)
theorem side {β : Type} {A : β → β → Prop} {l m : List β} (hl : l.Pairwise A) (hm : m.Pairwise A) (h : l = [] ∨ m = []) : (l ++ m).Pairwise A := by
 rcases h with rfl | rfl
 ·simpa using hm
 ·simpa using hl
set_option maxHeartbeats 8000000 in
set_option maxRecDepth 100000 in
theorem merge_hi {β : Type} (S : SEnv β) (cap : Value) (hcmp : SCmpOk S cap) (htr : ∀ x y z, S.A x y → S.A y z → S.A x z) (IH : Nat) (hIH : MergeAt S cap IH) (X L R Y : List β) (a m b d N C : Nat) (w : World)
  (hIHn : L.length + R.length ≤ IH + 1) (hX : X.length = a) (hm : a + L.length = m) (hb : m + R.length = b) (hN : b + Y.length = N) (hmax : N ≤ 4611686018427) (hL2 : 2 ≤ L.length) (hR2 : 2 ≤ R.length)
  (hML : ∀ x ∈ L, S.M x) (hMR : ∀ x ∈ R, S.M x) (hL : L.Pairwise S.A) (hR : R.Pairwise S.A) (htag : ∀ x ∈ L, ∀ y ∈ R, S.tag x < S.tag y) (hd : (a + b) / 2 = d) (hdm : d < m)
  (h : SAt S w (X ++ (L ++ (R ++ Y)))) :
  Calls Tryd.prog 41 #[.slice (some ⟨S.b, 0, none⟩) N C, .int .i64 a, .int .i64 m, .int .i64 b, .func (.func 22) #[] #[cap]] w (MergeSays S X L R Y) := by
 have H0 := Lib.hid h
 have HX := Lib.hid hX
 have HC := Lib.hid hcmp
 have HTR := Lib.hid htr
 have HIH := Lib.hid hIH
 have HML := Lib.hid hML
 have HMR := Lib.hid hMR
 have HLS := Lib.hid hL
 have HRS := Lib.hid hR
 have HTG := Lib.hid htag
 have HNY := Lib.hid hN
 have HIHn := Lib.hid hIHn
 obtain ⟨pl, hpl⟩ : ∃ pl, L.length = pl := ⟨_, rfl⟩
 obtain ⟨pr, hpr⟩ : ∃ pr, R.length = pr := ⟨_, rfl⟩
 have HPL := Lib.hid hpl
 have HPR := Lib.hid hpr
 rw [hpl] at hm hL2
 rw [hpr] at hb hR2
 have b1 : b ≤ N := by omega
 have b2 : m + 2 ≤ b := by omega
 have b3 : a + 2 ≤ m := by omega
 have q1 : a < d := by omega
 have q2 : d < b := by omega
 have e0 : (m : Int) - (a : Int) = (pl : Int) := by omega
 have e1 : ((pl : Int) == 1) = false := by simp; omega
 have e2 : (b : Int) - (m : Int) = (pr : Int) := by omega
 have e3 : ((pr : Int) == 1) = false := by simp; omega
 have ed : ((a : Int) + (b : Int)) / 2 = (d : Int) := by omega
 obtain ⟨nn, hnn⟩ : ∃ nn, d + m = nn := ⟨_, rfl⟩
 have en : (d : Int) + (m : Int) = (nn : Int) := by omega
 obtain ⟨p, hp⟩ : ∃ p, nn - 1 = p := ⟨_, rfl⟩
 have ep : (nn : Int) - 1 = (p : Int) := by omega
 have hnn2 : nn ≤ N + N := by omega
 have ec : decide (d < m) = true := decide_eq_true hdm
 have ec' : decide ((d : Int) < (m : Int)) = true := decide_eq_true (by omega)
 obtain ⟨s0, hs0⟩ : ∃ s0, d + m - b = s0 := ⟨_, rfl⟩
 have es : (nn : Int) - (b : Int) = (s0 : Int) := by omega
 obtain ⟨r0, hr0⟩ : ∃ r0, d = r0 := ⟨_, rfl⟩
 have HB0 := Lib.hid (show (s0 - a = 0 ∨ d - s0 = pr) ∧ (d - r0 = 0 ∨ r0 - a = pl) by omega)
 have HBD := Lib.hid (show a ≤ s0 ∧ s0 ≤ r0 ∧ r0 ≤ m ∧ r0 ≤ d ∧ d - s0 ≤ pr by omega)
 have HMN := Lib.hid (show a + pl = m ∧ m + pr = b ∧ d + m = nn ∧ nn - 1 = p by omega)
 have HR0 := Lib.hid hr0
 clear h hX hm hb hN hcmp htr hIH hIHn hML hMR hL hR htag hpl hpr hnn hp hs0 hr0 hdm hd hL2 hR2
 go_enter Tryd.func41, Tryd.ntmps41
 go_wp2_with fail
 clear e0 e1 e2 e3 ed en ep ec ec'
 go_loopw [20, 21] (fun i j wr => ∃ (ns nr : Nat), i = .int .i64 ns ∧ j = .int .i64 nr ∧ s0 ≤ ns ∧ ns ≤ nr ∧ nr ≤ r0 ∧
   (ns - a = 0 ∨ d - ns = R.length ∨ ∃ x y, L[ns - a - 1]? = some x ∧ R[d - ns]? = some y ∧ S.A x y) ∧
   (d - nr = 0 ∨ nr - a = L.length ∨ ∃ x y, R[d - nr - 1]? = some x ∧ L[nr - a]? = some y ∧ S.A x y) ∧
   SAt S wr (X ++ (L ++ (R ++ Y)))) (fun i j _ => (intOf j).toNat - (intOf i).toNat)
 case atStart =>
  have hb0 := HB0.out
  have hbd := HBD.out
  exact ⟨s0, r0, rfl, by rw [HR0.out], Nat.le_refl _, hbd.2.1, Nat.le_refl _, hb0.1.elim Or.inl (fun h => Or.inr (Or.inl (h.trans HPR.out.symm))), hb0.2.elim Or.inl (fun h => Or.inr (Or.inl (h.trans HPL.out.symm))), H0.out⟩
 case round =>
  obtain ⟨ns, nr, rfl, rfl, h1, h2, h3, hlo, hhi, hs⟩ := hrel
  have HLO := Lib.hid hlo
  have HHI := Lib.hid hhi
  have HS := Lib.hid hs
  clear hlo hhi hs
  have hbd := HBD.out
  have hmn := HMN.out
  by_cases hlt : ns < nr
  ·obtain ⟨c, hce⟩ : ∃ c, (ns + nr) / 2 = c := ⟨_, rfl⟩
   have hc1 : ns ≤ c := by omega
   have hc2 : c < nr := by omega
   have ed : ((ns : Int) + (nr : Int)) / 2 = (c : Int) := by omega
   obtain ⟨pc, hpc⟩ : ∃ pc, p - c = pc := ⟨_, rfl⟩
   have epc : (p : Int) - (c : Int) = (pc : Int) := by omega
   have hql : c - a < L.length := by rw [HPL.out]; omega
   have hqr : d - 1 - c < R.length := by rw [HPR.out]; omega
   obtain ⟨x, hx⟩ : ∃ x, L[c - a]? = some x := ⟨_, List.getElem?_eq_getElem hql⟩
   obtain ⟨y, hy⟩ : ∃ y, R[d - 1 - c]? = some y := ⟨_, List.getElem?_eq_getElem hqr⟩
   have HLX := Lib.hid hx
   have HRY := Lib.hid hy
   have i1 : (X ++ (L ++ (R ++ Y)))[pc]? = some y := by
    rw [List.getElem?_append_right (by rw [HX.out]; omega), HX.out, List.getElem?_append_right (by rw [HPL.out]; omega), HPL.out, show pc - a - pl = d - 1 - c by omega, List.getElem?_append_left hqr, hy]
   have i2 : (X ++ (L ++ (R ++ Y)))[c]? = some x := by
    rw [List.getElem?_append_right (by rw [HX.out]; omega), HX.out, List.getElem?_append_left hql, hx]
   have HCL := Lib.hid (fun wq (hq : SAt S wq (X ++ (L ++ (R ++ Y)))) => And.intro (hq.cells i1) (hq.cells i2))
   have hxm := List.mem_of_getElem? hx
   have hym := List.mem_of_getElem? hy
   have TC := Lib.hid (fun wq (hq : SAt S wq (X ++ (L ++ (R ++ Y)))) => HC.out x y wq (HML.out x hxm) (HMR.out y hym) (HTG.out x hxm y hym) hq.only)
   have z1 : (0 : Int) ≤ (pc : Int) := by omega
   have z2 : (pc : Int) < (N : Int) := by omega
   have z3 : (0 : Int) ≤ (c : Int) := by omega
   have z4 : (c : Int) < (N : Int) := by omega
   have z7 : IntKind.i64.wrap (pc : Int) = (pc : Int) := IntWalk.i64_in _ (by omega)
   have z8 : IntKind.i64.wrap ((p : Int) - (c : Int)) = (pc : Int) := by rw [epc]; exact z7
   have HCN := Lib.hid (show d - (c + 1) = d - 1 - c ∧ d - c - 1 = d - 1 - c ∧ c + 1 - a - 1 = c - a by omega)
   clear hx hy i1 i2 hxm hym hce hpc hql hqr hbd hmn
   generalize hrx : S.rep x = rx at HCL TC
   generalize hry : S.rep y = ry at HCL TC
   have KP := Lib.hid (fun wq (hq : SAt S wq (X ++ (L ++ (R ++ Y)))) => show Cells6 wq S.b (pc * 3) (c * 3) ry rx from by
    obtain ⟨⟨c1, c2, c3, -⟩, g1, g2, g3, -⟩ := HCL.out wq hq
    exact ⟨c1, c2, c3, g1, g2, g3⟩)
   obtain ⟨c1, c2, c3, g1, g2, g3⟩ := KP.out wr HS.out
   go_wp2_with fail
   go_region_held3 (fun wq => wq.cell? ⟨S.b, pc * 3, none⟩ = some (.slice ry.p ry.n ry.c) ∧ wq.cell? ⟨S.b, pc * 3 + 1, none⟩ = some (.int .i64 ry.err) ∧ wq.cell? ⟨S.b, pc * 3 + 2, none⟩ = some (.int .i64 ry.beg) ∧
     wq.cell? ⟨S.b, c * 3, none⟩ = some (.slice rx.p rx.n rx.c) ∧ wq.cell? ⟨S.b, c * 3 + 1, none⟩ = some (.int .i64 rx.err) ∧ wq.cell? ⟨S.b, c * 3 + 2, none⟩ = some (.int .i64 rx.beg)) (first | exact KP.out _ HS.out | exact KP.out _ HS.out.drew | exact KP.out _ HS3.out) (first
    | (go_at_call 22; refine (TC.out _ HS.out.drew).mono ?_; rintro e w3 ⟨cc, rfl, hb3, hc3⟩; have HS3 := Lib.hid (SAt.keep (HS.out.drew) hb3); have HC3 := Lib.hid hc3; clear hb3 hc3))
   clear c1 c2 c3 g1 g2 g3 z8 z7
   have hc3 := HC3.out
   clear HC3
   generalize decide (cc < 0) = bb at hc3 ⊢
   rcases hc3 with ⟨rfl, hA⟩ | ⟨rfl, hA⟩
   ·have HAX := Lib.hid hA
    clear hA
    go_wp2_with fail
    go_roundw
    case rel => exact ⟨ns, c, rfl, rfl, h1, hc1, by omega, HLO.out, Or.inr (Or.inr ⟨y, x, by rw [HCN.out.2.1]; exact HRY.out, HLX.out, HAX.out⟩), HS3.out⟩
    case measure => simp [intOf]; omega
   ·have HAX := Lib.hid hA
    clear hA
    go_wp2_with fail
    go_roundw
    case rel => exact ⟨c + 1, nr, by go_num, rfl, by omega, by omega, h3, Or.inr (Or.inr ⟨x, y, by rw [HCN.out.2.2]; exact HLX.out, by rw [HCN.out.1]; exact HRY.out, HAX.out⟩), HHI.out, HS3.out⟩
    case measure => simp [intOf]; omega
  ·obtain rfl : ns = nr := by omega
   obtain ⟨k, hk⟩ : ∃ k, ns - a = k := ⟨_, rfl⟩
   obtain ⟨e, he⟩ : ∃ e, d - ns = e := ⟨_, rfl⟩
   obtain ⟨nE, hnE⟩ : ∃ nE, nn - ns = nE := ⟨_, rfl⟩
   have enE : (nn : Int) - (ns : Int) = (nE : Int) := by omega
   have k1 : a + k = ns := by omega
   have k2 : ns + e = d := by omega
   have k3 : m + e = nE := by omega
   have k4 : k ≤ pl := by omega
   have k5 : e ≤ pr := by omega
   have HKL := Lib.hid (show (L.take k).length = k ∧ (L.drop k).length = pl - k ∧ (R.take e).length = e ∧ (R.drop e).length = pr - e by
    rw [List.length_take, List.length_drop, List.length_take, List.length_drop, HPL.out, HPR.out]; omega)
   have CUT := Lib.hid (fun (E1 E2 : List β) h3 h4 h5 h6 => merge_cut HTR.out (L := L) (R := R) (X := E1) (Y := E2) (k := k) (e := e) HLS.out HRS.out (by rw [HPL.out]; exact k4) (by rw [HPR.out]; exact k5)
    (by have := HLO.out; rwa [hk, he] at this) (by have := HHI.out; rwa [hk, he] at this) h3 h4 h5 h6)
   have HLA := Lib.hid (HLS.out.sublist (List.take_sublist k L))
   have HLB := Lib.hid (HLS.out.sublist (List.drop_sublist k L))
   have HRC := Lib.hid (HRS.out.sublist (List.take_sublist e R))
   have HRD := Lib.hid (HRS.out.sublist (List.drop_sublist e R))
   have HSC := Lib.hid (show SAt S wr (X ++ (L.take k ++ (L.drop k ++ (R.take e ++ (R.drop e ++ Y))))) by
    rw [← List.append_assoc (L.take k), List.take_append_drop, ← List.append_assoc (R.take e), List.take_append_drop]; exact HS.out)
   have hkl := HKL.out
   have hny := HNY.out
   have TT := Lib.hid (fun wq (_ : SAt S wq (X ++ (L ++ (R ++ Y)))) (g1 : 0 < pl - k) (g2 : 0 < e) => turn_any S (X ++ L.take k) (L.drop k) (R.take e) (R.drop e ++ Y) ns m nE N C (.func (.func 22) #[] #[cap]) wq
    (by rw [List.length_append, HX.out, hkl.1]; exact k1) (by rw [hkl.2.1]; omega) (by rw [hkl.2.2.1]; exact k3) (by rw [List.length_append, hkl.2.2.2]; omega) (by rw [hkl.2.1]; exact g1) (by rw [hkl.2.2.1]; exact g2) hmax (by
     rename_i hq
     rw [List.append_assoc, ← List.append_assoc (L.take k), List.take_append_drop, ← List.append_assoc (R.take e), List.take_append_drop]; exact hq))
   have hin := HIHn.out
   rw [HPL.out, HPR.out] at hin
   have T1 := Lib.hid (fun wq (hq : SAt S wq (X ++ (L.take k ++ (R.take e ++ ((L.drop k ++ R.drop e) ++ Y))))) (g1 : 0 < k) (g2 : 0 < e) => HIH.out X (L.take k) (R.take e) ((L.drop k ++ R.drop e) ++ Y) a ns d N C wq
    (by rw [hkl.1, hkl.2.2.1]; omega) HX.out (by rw [hkl.1]; exact k1) (by rw [hkl.2.2.1]; exact k2) (by rw [List.length_append, List.length_append, hkl.2.1, hkl.2.2.2]; omega) hmax (by rw [hkl.1]; exact g1) (by rw [hkl.2.2.1]; exact g2)
    (fun x hx => HML.out x (List.mem_of_mem_take hx)) (fun x hx => HMR.out x (List.mem_of_mem_take hx)) HLA.out HRC.out (fun x hx y hy => HTG.out x (List.mem_of_mem_take hx) y (List.mem_of_mem_take hy)) hq)
   have T2 := Lib.hid (fun wq (E1 : List β) (hp1 : E1.Perm (L.take k ++ R.take e)) (hq : SAt S wq (X ++ (E1 ++ ((L.drop k ++ R.drop e) ++ Y)))) (g1 : 0 < pl - k) (g2 : 0 < pr - e) => HIH.out (X ++ E1) (L.drop k) (R.drop e) Y d nE b N C wq
    (by rw [hkl.2.1, hkl.2.2.2]; omega) (by rw [List.length_append, hp1.length_eq, List.length_append, hkl.1, hkl.2.2.1, HX.out]; omega) (by rw [hkl.2.1]; omega) (by rw [hkl.2.2.2]; omega) hny hmax (by rw [hkl.2.1]; exact g1) (by rw [hkl.2.2.2]; exact g2)
    (fun x hx => HML.out x (List.mem_of_mem_drop hx)) (fun x hx => HMR.out x (List.mem_of_mem_drop hx)) HLB.out HRD.out (fun x hx y hy => HTG.out x (List.mem_of_mem_drop hx) y (List.mem_of_mem_drop hy)) (by rw [List.append_assoc]; simpa using hq))
   clear hk he hnE hkl hny hin HLO HHI
   by_cases e0 : e = 0
   ·by_cases kL : k = pl
    ·have t1 : decide (ns < m) = false := decide_eq_false (by omega)
     have t1' : decide ((ns : Int) < (m : Int)) = false := decide_eq_false (by omega)
     have t2 : decide (m < nE) = false := decide_eq_false (by omega)
     have t2' : decide ((m : Int) < (nE : Int)) = false := decide_eq_false (by omega)
     have t3 : decide (a < ns) = true := decide_eq_true (by omega)
     have t3' : decide ((a : Int) < (ns : Int)) = true := decide_eq_true (by omega)
     have t4 : decide (ns < d) = false := decide_eq_false (by omega)
     have t4' : decide ((ns : Int) < (d : Int)) = false := decide_eq_false (by omega)
     have t5 : decide (d < nE) = false := decide_eq_false (by omega)
     have t5' : decide ((d : Int) < (nE : Int)) = false := decide_eq_false (by omega)
     go_wp2_with fail
     have HS2 := Lib.hid (show SAt S wr (X ++ (L.take k ++ (R.take e ++ ((L.drop k ++ R.drop e) ++ Y)))) by
      have h2 := HSC.out
      have hz : L.drop k = [] := List.eq_nil_of_length_eq_zero (by rw [List.length_drop, HPL.out]; omega)
      rw [hz] at h2 ⊢
      simpa using h2)
     obtain ⟨E1, hE1⟩ : ∃ E1, L.take k ++ R.take e = E1 := ⟨_, rfl⟩
     have HP1 := Lib.hid (show E1.Perm (L.take k ++ R.take e) by rw [hE1])
     have HE1 := Lib.hid (show E1.Pairwise S.A by rw [← hE1]; exact side HLA.out HRC.out (Or.inr (List.eq_nil_of_length_eq_zero (by rw [List.length_take]; omega))))
     have HS3 := Lib.hid (show SAt S wr (X ++ (E1 ++ ((L.drop k ++ R.drop e) ++ Y))) by have := HS2.out; rw [← List.append_assoc (L.take k), hE1] at this; exact this)
     clear hE1
     obtain ⟨E2, hE2⟩ : ∃ E2, L.drop k ++ R.drop e = E2 := ⟨_, rfl⟩
     have HP2 := Lib.hid (show E2.Perm (L.drop k ++ R.drop e) by rw [hE2])
     have HE2 := Lib.hid (show E2.Pairwise S.A by rw [← hE2]; exact side HLB.out HRD.out (Or.inl (List.eq_nil_of_length_eq_zero (by rw [List.length_drop, HPL.out]; omega))))
     have HS4 := Lib.hid (show SAt S wr ((X ++ E1) ++ (E2 ++ Y)) by have := HS3.out; rw [hE2] at this; rw [List.append_assoc]; exact this)
     clear hE2
     go_end0
     have hc := CUT.out E1 E2 HP1.out HP2.out HE1.out HE2.out
     exact ⟨rfl, E1 ++ E2, hc.1, hc.2, by have := HS4.out; simpa using this⟩
    ·have t1 : decide (ns < m) = true := decide_eq_true (by omega)
     have t1' : decide ((ns : Int) < (m : Int)) = true := decide_eq_true (by omega)
     have t2 : decide (m < nE) = false := decide_eq_false (by omega)
     have t2' : decide ((m : Int) < (nE : Int)) = false := decide_eq_false (by omega)
     have t3 : decide (a < ns) = true := decide_eq_true (by omega)
     have t3' : decide ((a : Int) < (ns : Int)) = true := decide_eq_true (by omega)
     have t4 : decide (ns < d) = false := decide_eq_false (by omega)
     have t4' : decide ((ns : Int) < (d : Int)) = false := decide_eq_false (by omega)
     have t5 : decide (d < nE) = true := decide_eq_true (by omega)
     have t5' : decide ((d : Int) < (nE : Int)) = true := decide_eq_true (by omega)
     have t6 : decide (nE < b) = true := decide_eq_true (by omega)
     have t6' : decide ((nE : Int) < (b : Int)) = true := decide_eq_true (by omega)
     go_wp2_with fail
     have HS2 := Lib.hid (show SAt S wr (X ++ (L.take k ++ (R.take e ++ ((L.drop k ++ R.drop e) ++ Y)))) by
      have h2 := HSC.out
      have hz : R.take e = [] := List.eq_nil_of_length_eq_zero (by rw [List.length_take]; omega)
      rw [hz] at h2 ⊢
      simpa using h2)
     obtain ⟨E1, hE1⟩ : ∃ E1, L.take k ++ R.take e = E1 := ⟨_, rfl⟩
     have HP1 := Lib.hid (show E1.Perm (L.take k ++ R.take e) by rw [hE1])
     have HE1 := Lib.hid (show E1.Pairwise S.A by rw [← hE1]; exact side HLA.out HRC.out (Or.inr (List.eq_nil_of_length_eq_zero (by rw [List.length_take]; omega))))
     have HS3 := Lib.hid (show SAt S wr (X ++ (E1 ++ ((L.drop k ++ R.drop e) ++ Y))) by have := HS2.out; rw [← List.append_assoc (L.take k), hE1] at this; exact this)
     clear hE1
     refine (T2.out wr E1 HP1.out HS3.out (by omega) (by omega)).mono ?_
     rintro e' w4 ⟨rfl, E2, p2, s2, h4⟩
     have HP2 := Lib.hid p2
     have HE2 := Lib.hid s2
     have HS4 := Lib.hid h4
     clear p2 s2 h4
     go_wp2_with fail
     go_end0
     have hc := CUT.out E1 E2 HP1.out HP2.out HE1.out HE2.out
     exact ⟨rfl, E1 ++ E2, hc.1, hc.2, by have := HS4.out; simpa using this⟩
   ·by_cases k0 : k = 0
    ·by_cases eR : e = pr
     ·have t1 : decide (ns < m) = true := decide_eq_true (by omega)
      have t1' : decide ((ns : Int) < (m : Int)) = true := decide_eq_true (by omega)
      have t2 : decide (m < nE) = true := decide_eq_true (by omega)
      have t2' : decide ((m : Int) < (nE : Int)) = true := decide_eq_true (by omega)
      have t3 : decide (a < ns) = false := decide_eq_false (by omega)
      have t3' : decide ((a : Int) < (ns : Int)) = false := decide_eq_false (by omega)
      have t4 : decide (ns < d) = true := decide_eq_true (by omega)
      have t4' : decide ((ns : Int) < (d : Int)) = true := decide_eq_true (by omega)
      have t5 : decide (d < nE) = true := decide_eq_true (by omega)
      have t5' : decide ((d : Int) < (nE : Int)) = true := decide_eq_true (by omega)
      have t6 : decide (nE < b) = false := decide_eq_false (by omega)
      have t6' : decide ((nE : Int) < (b : Int)) = false := decide_eq_false (by omega)
      go_wp2_with fail
      refine (TT.out wr HS.out (by omega) (by omega)).mono ?_
      rintro e' w2 ⟨rfl, h2⟩
      have HS2 := Lib.hid (show SAt S w2 (X ++ (L.take k ++ (R.take e ++ ((L.drop k ++ R.drop e) ++ Y)))) by simpa using h2)
      clear h2
      go_wp2_with fail
      obtain ⟨E1, hE1⟩ : ∃ E1, L.take k ++ R.take e = E1 := ⟨_, rfl⟩
      have HP1 := Lib.hid (show E1.Perm (L.take k ++ R.take e) by rw [hE1])
      have HE1 := Lib.hid (show E1.Pairwise S.A by rw [← hE1]; exact side HLA.out HRC.out (Or.inl (List.eq_nil_of_length_eq_zero (by rw [List.length_take]; omega))))
      have HS3 := Lib.hid (show SAt S w2 (X ++ (E1 ++ ((L.drop k ++ R.drop e) ++ Y))) by have := HS2.out; rw [← List.append_assoc (L.take k), hE1] at this; exact this)
      clear hE1
      obtain ⟨E2, hE2⟩ : ∃ E2, L.drop k ++ R.drop e = E2 := ⟨_, rfl⟩
      have HP2 := Lib.hid (show E2.Perm (L.drop k ++ R.drop e) by rw [hE2])
      have HE2 := Lib.hid (show E2.Pairwise S.A by rw [← hE2]; exact side HLB.out HRD.out (Or.inr (List.eq_nil_of_length_eq_zero (by rw [List.length_drop, HPR.out]; omega))))
      have HS4 := Lib.hid (show SAt S w2 ((X ++ E1) ++ (E2 ++ Y)) by have := HS3.out; rw [hE2] at this; rw [List.append_assoc]; exact this)
      clear hE2
      go_end0
      have hc := CUT.out E1 E2 HP1.out HP2.out HE1.out HE2.out
      exact ⟨rfl, E1 ++ E2, hc.1, hc.2, by have := HS4.out; simpa using this⟩
     ·have t1 : decide (ns < m) = true := decide_eq_true (by omega)
      have t1' : decide ((ns : Int) < (m : Int)) = true := decide_eq_true (by omega)
      have t2 : decide (m < nE) = true := decide_eq_true (by omega)
      have t2' : decide ((m : Int) < (nE : Int)) = true := decide_eq_true (by omega)
      have t3 : decide (a < ns) = false := decide_eq_false (by omega)
      have t3' : decide ((a : Int) < (ns : Int)) = false := decide_eq_false (by omega)
      have t4 : decide (ns < d) = true := decide_eq_true (by omega)
      have t4' : decide ((ns : Int) < (d : Int)) = true := decide_eq_true (by omega)
      have t5 : decide (d < nE) = true := decide_eq_true (by omega)
      have t5' : decide ((d : Int) < (nE : Int)) = true := decide_eq_true (by omega)
      have t6 : decide (nE < b) = true := decide_eq_true (by omega)
      have t6' : decide ((nE : Int) < (b : Int)) = true := decide_eq_true (by omega)
      go_wp2_with fail
      refine (TT.out wr HS.out (by omega) (by omega)).mono ?_
      rintro e' w2 ⟨rfl, h2⟩
      have HS2 := Lib.hid (show SAt S w2 (X ++ (L.take k ++ (R.take e ++ ((L.drop k ++ R.drop e) ++ Y)))) by simpa using h2)
      clear h2
      go_wp2_with fail
      obtain ⟨E1, hE1⟩ : ∃ E1, L.take k ++ R.take e = E1 := ⟨_, rfl⟩
      have HP1 := Lib.hid (show E1.Perm (L.take k ++ R.take e) by rw [hE1])
      have HE1 := Lib.hid (show E1.Pairwise S.A by rw [← hE1]; exact side HLA.out HRC.out (Or.inl (List.eq_nil_of_length_eq_zero (by rw [List.length_take]; omega))))
      have HS3 := Lib.hid (show SAt S w2 (X ++ (E1 ++ ((L.drop k ++ R.drop e) ++ Y))) by have := HS2.out; rw [← List.append_assoc (L.take k), hE1] at this; exact this)
      clear hE1
      refine (T2.out w2 E1 HP1.out HS3.out (by omega) (by omega)).mono ?_
      rintro e' w4 ⟨rfl, E2, p2, s2, h4⟩
      have HP2 := Lib.hid p2
      have HE2 := Lib.hid s2
      have HS4 := Lib.hid h4
      clear p2 s2 h4
      go_wp2_with fail
      go_end0
      have hc := CUT.out E1 E2 HP1.out HP2.out HE1.out HE2.out
      exact ⟨rfl, E1 ++ E2, hc.1, hc.2, by have := HS4.out; simpa using this⟩
    ·by_cases kL : k = pl
     ·have t1 : decide (ns < m) = false := decide_eq_false (by omega)
      have t1' : decide ((ns : Int) < (m : Int)) = false := decide_eq_false (by omega)
      have t2 : decide (m < nE) = true := decide_eq_true (by omega)
      have t2' : decide ((m : Int) < (nE : Int)) = true := decide_eq_true (by omega)
      have t3 : decide (a < ns) = true := decide_eq_true (by omega)
      have t3' : decide ((a : Int) < (ns : Int)) = true := decide_eq_true (by omega)
      have t4 : decide (ns < d) = true := decide_eq_true (by omega)
      have t4' : decide ((ns : Int) < (d : Int)) = true := decide_eq_true (by omega)
      have t5 : decide (d < nE) = false := decide_eq_false (by omega)
      have t5' : decide ((d : Int) < (nE : Int)) = false := decide_eq_false (by omega)
      go_wp2_with fail
      have HS2 := Lib.hid (show SAt S wr (X ++ (L.take k ++ (R.take e ++ ((L.drop k ++ R.drop e) ++ Y)))) by
       have h2 := HSC.out
       have hz : L.drop k = [] := List.eq_nil_of_length_eq_zero (by rw [List.length_drop, HPL.out]; omega)
       rw [hz] at h2 ⊢
       simpa using h2)
      refine (T1.out wr HS2.out (by omega) (by omega)).mono ?_
      rintro e' w3 ⟨rfl, E1, p1, s1, h3⟩
      have HP1 := Lib.hid p1
      have HE1 := Lib.hid s1
      have HS3 := Lib.hid h3
      clear p1 s1 h3
      go_wp2_with fail
      obtain ⟨E2, hE2⟩ : ∃ E2, L.drop k ++ R.drop e = E2 := ⟨_, rfl⟩
      have HP2 := Lib.hid (show E2.Perm (L.drop k ++ R.drop e) by rw [hE2])
      have HE2 := Lib.hid (show E2.Pairwise S.A by rw [← hE2]; exact side HLB.out HRD.out (Or.inl (List.eq_nil_of_length_eq_zero (by rw [List.length_drop, HPL.out]; omega))))
      have HS4 := Lib.hid (show SAt S w3 ((X ++ E1) ++ (E2 ++ Y)) by have := HS3.out; rw [hE2] at this; rw [List.append_assoc]; exact this)
      clear hE2
      go_end0
      have hc := CUT.out E1 E2 HP1.out HP2.out HE1.out HE2.out
      exact ⟨rfl, E1 ++ E2, hc.1, hc.2, by have := HS4.out; simpa using this⟩
     ·by_cases eR : e = pr
      ·have t1 : decide (ns < m) = true := decide_eq_true (by omega)
       have t1' : decide ((ns : Int) < (m : Int)) = true := decide_eq_true (by omega)
       have t2 : decide (m < nE) = true := decide_eq_true (by omega)
       have t2' : decide ((m : Int) < (nE : Int)) = true := decide_eq_true (by omega)
       have t3 : decide (a < ns) = true := decide_eq_true (by omega)
       have t3' : decide ((a : Int) < (ns : Int)) = true := decide_eq_true (by omega)
       have t4 : decide (ns < d) = true := decide_eq_true (by omega)
       have t4' : decide ((ns : Int) < (d : Int)) = true := decide_eq_true (by omega)
       have t5 : decide (d < nE) = true := decide_eq_true (by omega)
       have t5' : decide ((d : Int) < (nE : Int)) = true := decide_eq_true (by omega)
       have t6 : decide (nE < b) = false := decide_eq_false (by omega)
       have t6' : decide ((nE : Int) < (b : Int)) = false := decide_eq_false (by omega)
       go_wp2_with fail
       refine (TT.out wr HS.out (by omega) (by omega)).mono ?_
       rintro e' w2 ⟨rfl, h2⟩
       have HS2 := Lib.hid (show SAt S w2 (X ++ (L.take k ++ (R.take e ++ ((L.drop k ++ R.drop e) ++ Y)))) by simpa using h2)
       clear h2
       go_wp2_with fail
       refine (T1.out w2 HS2.out (by omega) (by omega)).mono ?_
       rintro e' w3 ⟨rfl, E1, p1, s1, h3⟩
       have HP1 := Lib.hid p1
       have HE1 := Lib.hid s1
       have HS3 := Lib.hid h3
       clear p1 s1 h3
       go_wp2_with fail
       obtain ⟨E2, hE2⟩ : ∃ E2, L.drop k ++ R.drop e = E2 := ⟨_, rfl⟩
       have HP2 := Lib.hid (show E2.Perm (L.drop k ++ R.drop e) by rw [hE2])
       have HE2 := Lib.hid (show E2.Pairwise S.A by rw [← hE2]; exact side HLB.out HRD.out (Or.inr (List.eq_nil_of_length_eq_zero (by rw [List.length_drop, HPR.out]; omega))))
       have HS4 := Lib.hid (show SAt S w3 ((X ++ E1) ++ (E2 ++ Y)) by have := HS3.out; rw [hE2] at this; rw [List.append_assoc]; exact this)
       clear hE2
       go_end0
       have hc := CUT.out E1 E2 HP1.out HP2.out HE1.out HE2.out
       exact ⟨rfl, E1 ++ E2, hc.1, hc.2, by have := HS4.out; simpa using this⟩
      ·have t1 : decide (ns < m) = true := decide_eq_true (by omega)
       have t1' : decide ((ns : Int) < (m : Int)) = true := decide_eq_true (by omega)
       have t2 : decide (m < nE) = true := decide_eq_true (by omega)
       have t2' : decide ((m : Int) < (nE : Int)) = true := decide_eq_true (by omega)
       have t3 : decide (a < ns) = true := decide_eq_true (by omega)
       have t3' : decide ((a : Int) < (ns : Int)) = true := decide_eq_true (by omega)
       have t4 : decide (ns < d) = true := decide_eq_true (by omega)
       have t4' : decide ((ns : Int) < (d : Int)) = true := decide_eq_true (by omega)
       have t5 : decide (d < nE) = true := decide_eq_true (by omega)
       have t5' : decide ((d : Int) < (nE : Int)) = true := decide_eq_true (by omega)
       have t6 : decide (nE < b) = true := decide_eq_true (by omega)
       have t6' : decide ((nE : Int) < (b : Int)) = true := decide_eq_true (by omega)
       go_wp2_with fail
       refine (TT.out wr HS.out (by omega) (by omega)).mono ?_
       rintro e' w2 ⟨rfl, h2⟩
       have HS2 := Lib.hid (show SAt S w2 (X ++ (L.take k ++ (R.take e ++ ((L.drop k ++ R.drop e) ++ Y)))) by simpa using h2)
       clear h2
       go_wp2_with fail
       refine (T1.out w2 HS2.out (by omega) (by omega)).mono ?_
       rintro e' w3 ⟨rfl, E1, p1, s1, h3⟩
       have HP1 := Lib.hid p1
       have HE1 := Lib.hid s1
       have HS3 := Lib.hid h3
       clear p1 s1 h3
       go_wp2_with fail
       refine (T2.out w3 E1 HP1.out HS3.out (by omega) (by omega)).mono ?_
       rintro e' w4 ⟨rfl, E2, p2, s2, h4⟩
       have HP2 := Lib.hid p2
       have HE2 := Lib.hid s2
       have HS4 := Lib.hid h4
       clear p2 s2 h4
       go_wp2_with fail
       go_end0
       have hc := CUT.out E1 E2 HP1.out HP2.out HE1.out HE2.out
       exact ⟨rfl, E1 ++ E2, hc.1, hc.2, by have := HS4.out; simpa using this⟩
set_option maxHeartbeats 8000000 in
set_option maxRecDepth 100000 in
theorem merge_lo {β : Type} (S : SEnv β) (cap : Value) (hcmp : SCmpOk S cap) (htr : ∀ x y z, S.A x y → S.A y z → S.A x z) (IH : Nat) (hIH : MergeAt S cap IH) (X L R Y : List β) (a m b d N C : Nat) (w : World)
  (hIHn : L.length + R.length ≤ IH + 1) (hX : X.length = a) (hm : a + L.length = m) (hb : m + R.length = b) (hN : b + Y.length = N) (hmax : N ≤ 4611686018427) (hL2 : 2 ≤ L.length) (hR2 : 2 ≤ R.length)
  (hML : ∀ x ∈ L, S.M x) (hMR : ∀ x ∈ R, S.M x) (hL : L.Pairwise S.A) (hR : R.Pairwise S.A) (htag : ∀ x ∈ L, ∀ y ∈ R, S.tag x < S.tag y) (hd : (a + b) / 2 = d) (hdm : m ≤ d)
  (h : SAt S w (X ++ (L ++ (R ++ Y)))) :
  Calls Tryd.prog 41 #[.slice (some ⟨S.b, 0, none⟩) N C, .int .i64 a, .int .i64 m, .int .i64 b, .func (.func 22) #[] #[cap]] w (MergeSays S X L R Y) := by
 have H0 := Lib.hid h
 have HX := Lib.hid hX
 have HC := Lib.hid hcmp
 have HTR := Lib.hid htr
 have HIH := Lib.hid hIH
 have HML := Lib.hid hML
 have HMR := Lib.hid hMR
 have HLS := Lib.hid hL
 have HRS := Lib.hid hR
 have HTG := Lib.hid htag
 have HNY := Lib.hid hN
 have HIHn := Lib.hid hIHn
 obtain ⟨pl, hpl⟩ : ∃ pl, L.length = pl := ⟨_, rfl⟩
 obtain ⟨pr, hpr⟩ : ∃ pr, R.length = pr := ⟨_, rfl⟩
 have HPL := Lib.hid hpl
 have HPR := Lib.hid hpr
 rw [hpl] at hm hL2
 rw [hpr] at hb hR2
 have b1 : b ≤ N := by omega
 have b2 : m + 2 ≤ b := by omega
 have b3 : a + 2 ≤ m := by omega
 have q1 : a < d := by omega
 have q2 : d < b := by omega
 have e0 : (m : Int) - (a : Int) = (pl : Int) := by omega
 have e1 : ((pl : Int) == 1) = false := by simp; omega
 have e2 : (b : Int) - (m : Int) = (pr : Int) := by omega
 have e3 : ((pr : Int) == 1) = false := by simp; omega
 have ed : ((a : Int) + (b : Int)) / 2 = (d : Int) := by omega
 obtain ⟨nn, hnn⟩ : ∃ nn, d + m = nn := ⟨_, rfl⟩
 have en : (d : Int) + (m : Int) = (nn : Int) := by omega
 obtain ⟨p, hp⟩ : ∃ p, nn - 1 = p := ⟨_, rfl⟩
 have ep : (nn : Int) - 1 = (p : Int) := by omega
 have hnn2 : nn ≤ N + N := by omega
 have ec : decide (d < m) = false := decide_eq_false (by omega)
 have ec' : decide ((d : Int) < (m : Int)) = false := decide_eq_false (by omega)
 obtain ⟨s0, hs0⟩ : ∃ s0, a = s0 := ⟨_, rfl⟩
 obtain ⟨r0, hr0⟩ : ∃ r0, m = r0 := ⟨_, rfl⟩
 have HB0 := Lib.hid (show (s0 - a = 0 ∨ d - s0 = pr) ∧ (d - r0 = 0 ∨ r0 - a = pl) by omega)
 have HBD := Lib.hid (show a ≤ s0 ∧ s0 ≤ r0 ∧ r0 ≤ m ∧ r0 ≤ d ∧ d - s0 ≤ pr by omega)
 have HMN := Lib.hid (show a + pl = m ∧ m + pr = b ∧ d + m = nn ∧ nn - 1 = p by omega)
 have HR0 := Lib.hid hr0
 have HS0 := Lib.hid hs0
 clear h hX hm hb hN hcmp htr hIH hIHn hML hMR hL hR htag hpl hpr hnn hp hs0 hr0 hdm hd hL2 hR2
 go_enter Tryd.func41, Tryd.ntmps41
 go_wp2_with fail
 clear e0 e1 e2 e3 ed en ep ec ec'
 go_loopw [20, 21] (fun i j wr => ∃ (ns nr : Nat), i = .int .i64 ns ∧ j = .int .i64 nr ∧ s0 ≤ ns ∧ ns ≤ nr ∧ nr ≤ r0 ∧
   (ns - a = 0 ∨ d - ns = R.length ∨ ∃ x y, L[ns - a - 1]? = some x ∧ R[d - ns]? = some y ∧ S.A x y) ∧
   (d - nr = 0 ∨ nr - a = L.length ∨ ∃ x y, R[d - nr - 1]? = some x ∧ L[nr - a]? = some y ∧ S.A x y) ∧
   SAt S wr (X ++ (L ++ (R ++ Y)))) (fun i j _ => (intOf j).toNat - (intOf i).toNat)
 case atStart =>
  have hb0 := HB0.out
  have hbd := HBD.out
  exact ⟨s0, r0, by rw [HS0.out], by rw [HR0.out], Nat.le_refl _, hbd.2.1, Nat.le_refl _, hb0.1.elim Or.inl (fun h => Or.inr (Or.inl (h.trans HPR.out.symm))), hb0.2.elim Or.inl (fun h => Or.inr (Or.inl (h.trans HPL.out.symm))), H0.out⟩
 case round =>
  obtain ⟨ns, nr, rfl, rfl, h1, h2, h3, hlo, hhi, hs⟩ := hrel
  have HLO := Lib.hid hlo
  have HHI := Lib.hid hhi
  have HS := Lib.hid hs
  clear hlo hhi hs
  have hbd := HBD.out
  have hmn := HMN.out
  by_cases hlt : ns < nr
  ·obtain ⟨c, hce⟩ : ∃ c, (ns + nr) / 2 = c := ⟨_, rfl⟩
   have hc1 : ns ≤ c := by omega
   have hc2 : c < nr := by omega
   have ed : ((ns : Int) + (nr : Int)) / 2 = (c : Int) := by omega
   obtain ⟨pc, hpc⟩ : ∃ pc, p - c = pc := ⟨_, rfl⟩
   have epc : (p : Int) - (c : Int) = (pc : Int) := by omega
   have hql : c - a < L.length := by rw [HPL.out]; omega
   have hqr : d - 1 - c < R.length := by rw [HPR.out]; omega
   obtain ⟨x, hx⟩ : ∃ x, L[c - a]? = some x := ⟨_, List.getElem?_eq_getElem hql⟩
   obtain ⟨y, hy⟩ : ∃ y, R[d - 1 - c]? = some y := ⟨_, List.getElem?_eq_getElem hqr⟩
   have HLX := Lib.hid hx
   have HRY := Lib.hid hy
   have i1 : (X ++ (L ++ (R ++ Y)))[pc]? = some y := by
    rw [List.getElem?_append_right (by rw [HX.out]; omega), HX.out, List.getElem?_append_right (by rw [HPL.out]; omega), HPL.out, show pc - a - pl = d - 1 - c by omega, List.getElem?_append_left hqr, hy]
   have i2 : (X ++ (L ++ (R ++ Y)))[c]? = some x := by
    rw [List.getElem?_append_right (by rw [HX.out]; omega), HX.out, List.getElem?_append_left hql, hx]
   have HCL := Lib.hid (fun wq (hq : SAt S wq (X ++ (L ++ (R ++ Y)))) => And.intro (hq.cells i1) (hq.cells i2))
   have hxm := List.mem_of_getElem? hx
   have hym := List.mem_of_getElem? hy
   have TC := Lib.hid (fun wq (hq : SAt S wq (X ++ (L ++ (R ++ Y)))) => HC.out x y wq (HML.out x hxm) (HMR.out y hym) (HTG.out x hxm y hym) hq.only)
   have z1 : (0 : Int) ≤ (pc : Int) := by omega
   have z2 : (pc : Int) < (N : Int) := by omega
   have z3 : (0 : Int) ≤ (c : Int) := by omega
   have z4 : (c : Int) < (N : Int) := by omega
   have z7 : IntKind.i64.wrap (pc : Int) = (pc : Int) := IntWalk.i64_in _ (by omega)
   have z8 : IntKind.i64.wrap ((p : Int) - (c : Int)) = (pc : Int) := by rw [epc]; exact z7
   have HCN := Lib.hid (show d - (c + 1) = d - 1 - c ∧ d - c - 1 = d - 1 - c ∧ c + 1 - a - 1 = c - a by omega)
   clear hx hy i1 i2 hxm hym hce hpc hql hqr hbd hmn
   generalize hrx : S.rep x = rx at HCL TC
   generalize hry : S.rep y = ry at HCL TC
   have KP := Lib.hid (fun wq (hq : SAt S wq (X ++ (L ++ (R ++ Y)))) => show Cells6 wq S.b (pc * 3) (c * 3) ry rx from by
    obtain ⟨⟨c1, c2, c3, -⟩, g1, g2, g3, -⟩ := HCL.out wq hq
    exact ⟨c1, c2, c3, g1, g2, g3⟩)
   obtain ⟨c1, c2, c3, g1, g2, g3⟩ := KP.out wr HS.out
   go_wp2_with fail
   go_region_held3 (fun wq => wq.cell? ⟨S.b, pc * 3, none⟩ = some (.slice ry.p ry.n ry.c) ∧ wq.cell? ⟨S.b, pc * 3 + 1, none⟩ = some (.int .i64 ry.err) ∧ wq.cell? ⟨S.b, pc * 3 + 2, none⟩ = some (.int .i64 ry.beg) ∧
     wq.cell? ⟨S.b, c * 3, none⟩ = some (.slice rx.p rx.n rx.c) ∧ wq.cell? ⟨S.b, c * 3 + 1, none⟩ = some (.int .i64 rx.err) ∧ wq.cell? ⟨S.b, c * 3 + 2, none⟩ = some (.int .i64 rx.beg)) (first | exact KP.out _ HS.out | exact KP.out _ HS.out.drew | exact KP.out _ HS3.out) (first
    | (go_at_call 22; refine (TC.out _ HS.out.drew).mono ?_; rintro e w3 ⟨cc, rfl, hb3, hc3⟩; have HS3 := Lib.hid (SAt.keep (HS.out.drew) hb3); have HC3 := Lib.hid hc3; clear hb3 hc3))
   clear c1 c2 c3 g1 g2 g3 z8 z7
   have hc3 := HC3.out
   clear HC3
   generalize decide (cc < 0) = bb at hc3 ⊢
   rcases hc3 with ⟨rfl, hA⟩ | ⟨rfl, hA⟩
   ·have HAX := Lib.hid hA
    clear hA
    go_wp2_with fail
    go_roundw
    case rel => exact ⟨ns, c, rfl, rfl, h1, hc1, by omega, HLO.out, Or.inr (Or.inr ⟨y, x, by rw [HCN.out.2.1]; exact HRY.out, HLX.out, HAX.out⟩), HS3.out⟩
    case measure => simp [intOf]; omega
   ·have HAX := Lib.hid hA
    clear hA
    go_wp2_with fail
    go_roundw
    case rel => exact ⟨c + 1, nr, by go_num, rfl, by omega, by omega, h3, Or.inr (Or.inr ⟨x, y, by rw [HCN.out.2.2]; exact HLX.out, by rw [HCN.out.1]; exact HRY.out, HAX.out⟩), HHI.out, HS3.out⟩
    case measure => simp [intOf]; omega
  ·obtain rfl : ns = nr := by omega
   obtain ⟨k, hk⟩ : ∃ k, ns - a = k := ⟨_, rfl⟩
   obtain ⟨e, he⟩ : ∃ e, d - ns = e := ⟨_, rfl⟩
   obtain ⟨nE, hnE⟩ : ∃ nE, nn - ns = nE := ⟨_, rfl⟩
   have enE : (nn : Int) - (ns : Int) = (nE : Int) := by omega
   have k1 : a + k = ns := by omega
   have k2 : ns + e = d := by omega
   have k3 : m + e = nE := by omega
   have k4 : k ≤ pl := by omega
   have k5 : e ≤ pr := by omega
   have HKL := Lib.hid (show (L.take k).length = k ∧ (L.drop k).length = pl - k ∧ (R.take e).length = e ∧ (R.drop e).length = pr - e by
    rw [List.length_take, List.length_drop, List.length_take, List.length_drop, HPL.out, HPR.out]; omega)
   have CUT := Lib.hid (fun (E1 E2 : List β) h3 h4 h5 h6 => merge_cut HTR.out (L := L) (R := R) (X := E1) (Y := E2) (k := k) (e := e) HLS.out HRS.out (by rw [HPL.out]; exact k4) (by rw [HPR.out]; exact k5)
    (by have := HLO.out; rwa [hk, he] at this) (by have := HHI.out; rwa [hk, he] at this) h3 h4 h5 h6)
   have HLA := Lib.hid (HLS.out.sublist (List.take_sublist k L))
   have HLB := Lib.hid (HLS.out.sublist (List.drop_sublist k L))
   have HRC := Lib.hid (HRS.out.sublist (List.take_sublist e R))
   have HRD := Lib.hid (HRS.out.sublist (List.drop_sublist e R))
   have HSC := Lib.hid (show SAt S wr (X ++ (L.take k ++ (L.drop k ++ (R.take e ++ (R.drop e ++ Y))))) by
    rw [← List.append_assoc (L.take k), List.take_append_drop, ← List.append_assoc (R.take e), List.take_append_drop]; exact HS.out)
   have hkl := HKL.out
   have hny := HNY.out
   have TT := Lib.hid (fun wq (_ : SAt S wq (X ++ (L ++ (R ++ Y)))) (g1 : 0 < pl - k) (g2 : 0 < e) => turn_any S (X ++ L.take k) (L.drop k) (R.take e) (R.drop e ++ Y) ns m nE N C (.func (.func 22) #[] #[cap]) wq
    (by rw [List.length_append, HX.out, hkl.1]; exact k1) (by rw [hkl.2.1]; omega) (by rw [hkl.2.2.1]; exact k3) (by rw [List.length_append, hkl.2.2.2]; omega) (by rw [hkl.2.1]; exact g1) (by rw [hkl.2.2.1]; exact g2) hmax (by
     rename_i hq
     rw [List.append_assoc, ← List.append_assoc (L.take k), List.take_append_drop, ← List.append_assoc (R.take e), List.take_append_drop]; exact hq))
   have hin := HIHn.out
   rw [HPL.out, HPR.out] at hin
   have T1 := Lib.hid (fun wq (hq : SAt S wq (X ++ (L.take k ++ (R.take e ++ ((L.drop k ++ R.drop e) ++ Y))))) (g1 : 0 < k) (g2 : 0 < e) => HIH.out X (L.take k) (R.take e) ((L.drop k ++ R.drop e) ++ Y) a ns d N C wq
    (by rw [hkl.1, hkl.2.2.1]; omega) HX.out (by rw [hkl.1]; exact k1) (by rw [hkl.2.2.1]; exact k2) (by rw [List.length_append, List.length_append, hkl.2.1, hkl.2.2.2]; omega) hmax (by rw [hkl.1]; exact g1) (by rw [hkl.2.2.1]; exact g2)
    (fun x hx => HML.out x (List.mem_of_mem_take hx)) (fun x hx => HMR.out x (List.mem_of_mem_take hx)) HLA.out HRC.out (fun x hx y hy => HTG.out x (List.mem_of_mem_take hx) y (List.mem_of_mem_take hy)) hq)
   have T2 := Lib.hid (fun wq (E1 : List β) (hp1 : E1.Perm (L.take k ++ R.take e)) (hq : SAt S wq (X ++ (E1 ++ ((L.drop k ++ R.drop e) ++ Y)))) (g1 : 0 < pl - k) (g2 : 0 < pr - e) => HIH.out (X ++ E1) (L.drop k) (R.drop e) Y d nE b N C wq
    (by rw [hkl.2.1, hkl.2.2.2]; omega) (by rw [List.length_append, hp1.length_eq, List.length_append, hkl.1, hkl.2.2.1, HX.out]; omega) (by rw [hkl.2.1]; omega) (by rw [hkl.2.2.2]; omega) hny hmax (by rw [hkl.2.1]; exact g1) (by rw [hkl.2.2.2]; exact g2)
    (fun x hx => HML.out x (List.mem_of_mem_drop hx)) (fun x hx => HMR.out x (List.mem_of_mem_drop hx)) HLB.out HRD.out (fun x hx y hy => HTG.out x (List.mem_of_mem_drop hx) y (List.mem_of_mem_drop hy)) (by rw [List.append_assoc]; simpa using hq))
   clear hk he hnE hkl hny hin HLO HHI
   by_cases e0 : e = 0
   ·by_cases kL : k = pl
    ·have t1 : decide (ns < m) = false := decide_eq_false (by omega)
     have t1' : decide ((ns : Int) < (m : Int)) = false := decide_eq_false (by omega)
     have t2 : decide (m < nE) = false := decide_eq_false (by omega)
     have t2' : decide ((m : Int) < (nE : Int)) = false := decide_eq_false (by omega)
     have t3 : decide (a < ns) = true := decide_eq_true (by omega)
     have t3' : decide ((a : Int) < (ns : Int)) = true := decide_eq_true (by omega)
     have t4 : decide (ns < d) = false := decide_eq_false (by omega)
     have t4' : decide ((ns : Int) < (d : Int)) = false := decide_eq_false (by omega)
     have t5 : decide (d < nE) = false := decide_eq_false (by omega)
     have t5' : decide ((d : Int) < (nE : Int)) = false := decide_eq_false (by omega)
     go_wp2_with fail
     have HS2 := Lib.hid (show SAt S wr (X ++ (L.take k ++ (R.take e ++ ((L.drop k ++ R.drop e) ++ Y)))) by
      have h2 := HSC.out
      have hz : L.drop k = [] := List.eq_nil_of_length_eq_zero (by rw [List.length_drop, HPL.out]; omega)
      rw [hz] at h2 ⊢
      simpa using h2)
     obtain ⟨E1, hE1⟩ : ∃ E1, L.take k ++ R.take e = E1 := ⟨_, rfl⟩
     have HP1 := Lib.hid (show E1.Perm (L.take k ++ R.take e) by rw [hE1])
     have HE1 := Lib.hid (show E1.Pairwise S.A by rw [← hE1]; exact side HLA.out HRC.out (Or.inr (List.eq_nil_of_length_eq_zero (by rw [List.length_take]; omega))))
     have HS3 := Lib.hid (show SAt S wr (X ++ (E1 ++ ((L.drop k ++ R.drop e) ++ Y))) by have := HS2.out; rw [← List.append_assoc (L.take k), hE1] at this; exact this)
     clear hE1
     obtain ⟨E2, hE2⟩ : ∃ E2, L.drop k ++ R.drop e = E2 := ⟨_, rfl⟩
     have HP2 := Lib.hid (show E2.Perm (L.drop k ++ R.drop e) by rw [hE2])
     have HE2 := Lib.hid (show E2.Pairwise S.A by rw [← hE2]; exact side HLB.out HRD.out (Or.inl (List.eq_nil_of_length_eq_zero (by rw [List.length_drop, HPL.out]; omega))))
     have HS4 := Lib.hid (show SAt S wr ((X ++ E1) ++ (E2 ++ Y)) by have := HS3.out; rw [hE2] at this; rw [List.append_assoc]; exact this)
     clear hE2
     go_end0
     have hc := CUT.out E1 E2 HP1.out HP2.out HE1.out HE2.out
     exact ⟨rfl, E1 ++ E2, hc.1, hc.2, by have := HS4.out; simpa using this⟩
    ·have t1 : decide (ns < m) = true := decide_eq_true (by omega)
     have t1' : decide ((ns : Int) < (m : Int)) = true := decide_eq_true (by omega)
     have t2 : decide (m < nE) = false := decide_eq_false (by omega)
     have t2' : decide ((m : Int) < (nE : Int)) = false := decide_eq_false (by omega)
     have t3 : decide (a < ns) = true := decide_eq_true (by omega)
     have t3' : decide ((a : Int) < (ns : Int)) = true := decide_eq_true (by omega)
     have t4 : decide (ns < d) = false := decide_eq_false (by omega)
     have t4' : decide ((ns : Int) < (d : Int)) = false := decide_eq_false (by omega)
     have t5 : decide (d < nE) = true := decide_eq_true (by omega)
     have t5' : decide ((d : Int) < (nE : Int)) = true := decide_eq_true (by omega)
     have t6 : decide (nE < b) = true := decide_eq_true (by omega)
     have t6' : decide ((nE : Int) < (b : Int)) = true := decide_eq_true (by omega)
     go_wp2_with fail
     have HS2 := Lib.hid (show SAt S wr (X ++ (L.take k ++ (R.take e ++ ((L.drop k ++ R.drop e) ++ Y)))) by
      have h2 := HSC.out
      have hz : R.take e = [] := List.eq_nil_of_length_eq_zero (by rw [List.length_take]; omega)
      rw [hz] at h2 ⊢
      simpa using h2)
     obtain ⟨E1, hE1⟩ : ∃ E1, L.take k ++ R.take e = E1 := ⟨_, rfl⟩
     have HP1 := Lib.hid (show E1.Perm (L.take k ++ R.take e) by rw [hE1])
     have HE1 := Lib.hid (show E1.Pairwise S.A by rw [← hE1]; exact side HLA.out HRC.out (Or.inr (List.eq_nil_of_length_eq_zero (by rw [List.length_take]; omega))))
     have HS3 := Lib.hid (show SAt S wr (X ++ (E1 ++ ((L.drop k ++ R.drop e) ++ Y))) by have := HS2.out; rw [← List.append_assoc (L.take k), hE1] at this; exact this)
     clear hE1
     refine (T2.out wr E1 HP1.out HS3.out (by omega) (by omega)).mono ?_
     rintro e' w4 ⟨rfl, E2, p2, s2, h4⟩
     have HP2 := Lib.hid p2
     have HE2 := Lib.hid s2
     have HS4 := Lib.hid h4
     clear p2 s2 h4
     go_wp2_with fail
     go_end0
     have hc := CUT.out E1 E2 HP1.out HP2.out HE1.out HE2.out
     exact ⟨rfl, E1 ++ E2, hc.1, hc.2, by have := HS4.out; simpa using this⟩
   ·by_cases k0 : k = 0
    ·by_cases eR : e = pr
     ·have t1 : decide (ns < m) = true := decide_eq_true (by omega)
      have t1' : decide ((ns : Int) < (m : Int)) = true := decide_eq_true (by omega)
      have t2 : decide (m < nE) = true := decide_eq_true (by omega)
      have t2' : decide ((m : Int) < (nE : Int)) = true := decide_eq_true (by omega)
      have t3 : decide (a < ns) = false := decide_eq_false (by omega)
      have t3' : decide ((a : Int) < (ns : Int)) = false := decide_eq_false (by omega)
      have t4 : decide (ns < d) = true := decide_eq_true (by omega)
      have t4' : decide ((ns : Int) < (d : Int)) = true := decide_eq_true (by omega)
      have t5 : decide (d < nE) = true := decide_eq_true (by omega)
      have t5' : decide ((d : Int) < (nE : Int)) = true := decide_eq_true (by omega)
      have t6 : decide (nE < b) = false := decide_eq_false (by omega)
      have t6' : decide ((nE : Int) < (b : Int)) = false := decide_eq_false (by omega)
      go_wp2_with fail
      refine (TT.out wr HS.out (by omega) (by omega)).mono ?_
      rintro e' w2 ⟨rfl, h2⟩
      have HS2 := Lib.hid (show SAt S w2 (X ++ (L.take k ++ (R.take e ++ ((L.drop k ++ R.drop e) ++ Y)))) by simpa using h2)
      clear h2
      go_wp2_with fail
      obtain ⟨E1, hE1⟩ : ∃ E1, L.take k ++ R.take e = E1 := ⟨_, rfl⟩
      have HP1 := Lib.hid (show E1.Perm (L.take k ++ R.take e) by rw [hE1])
      have HE1 := Lib.hid (show E1.Pairwise S.A by rw [← hE1]; exact side HLA.out HRC.out (Or.inl (List.eq_nil_of_length_eq_zero (by rw [List.length_take]; omega))))
      have HS3 := Lib.hid (show SAt S w2 (X ++ (E1 ++ ((L.drop k ++ R.drop e) ++ Y))) by have := HS2.out; rw [← List.append_assoc (L.take k), hE1] at this; exact this)
      clear hE1
      obtain ⟨E2, hE2⟩ : ∃ E2, L.drop k ++ R.drop e = E2 := ⟨_, rfl⟩
      have HP2 := Lib.hid (show E2.Perm (L.drop k ++ R.drop e) by rw [hE2])
      have HE2 := Lib.hid (show E2.Pairwise S.A by rw [← hE2]; exact side HLB.out HRD.out (Or.inr (List.eq_nil_of_length_eq_zero (by rw [List.length_drop, HPR.out]; omega))))
      have HS4 := Lib.hid (show SAt S w2 ((X ++ E1) ++ (E2 ++ Y)) by have := HS3.out; rw [hE2] at this; rw [List.append_assoc]; exact this)
      clear hE2
      go_end0
      have hc := CUT.out E1 E2 HP1.out HP2.out HE1.out HE2.out
      exact ⟨rfl, E1 ++ E2, hc.1, hc.2, by have := HS4.out; simpa using this⟩
     ·have t1 : decide (ns < m) = true := decide_eq_true (by omega)
      have t1' : decide ((ns : Int) < (m : Int)) = true := decide_eq_true (by omega)
      have t2 : decide (m < nE) = true := decide_eq_true (by omega)
      have t2' : decide ((m : Int) < (nE : Int)) = true := decide_eq_true (by omega)
      have t3 : decide (a < ns) = false := decide_eq_false (by omega)
      have t3' : decide ((a : Int) < (ns : Int)) = false := decide_eq_false (by omega)
      have t4 : decide (ns < d) = true := decide_eq_true (by omega)
      have t4' : decide ((ns : Int) < (d : Int)) = true := decide_eq_true (by omega)
      have t5 : decide (d < nE) = true := decide_eq_true (by omega)
      have t5' : decide ((d : Int) < (nE : Int)) = true := decide_eq_true (by omega)
      have t6 : decide (nE < b) = true := decide_eq_true (by omega)
      have t6' : decide ((nE : Int) < (b : Int)) = true := decide_eq_true (by omega)
      go_wp2_with fail
      refine (TT.out wr HS.out (by omega) (by omega)).mono ?_
      rintro e' w2 ⟨rfl, h2⟩
      have HS2 := Lib.hid (show SAt S w2 (X ++ (L.take k ++ (R.take e ++ ((L.drop k ++ R.drop e) ++ Y)))) by simpa using h2)
      clear h2
      go_wp2_with fail
      obtain ⟨E1, hE1⟩ : ∃ E1, L.take k ++ R.take e = E1 := ⟨_, rfl⟩
      have HP1 := Lib.hid (show E1.Perm (L.take k ++ R.take e) by rw [hE1])
      have HE1 := Lib.hid (show E1.Pairwise S.A by rw [← hE1]; exact side HLA.out HRC.out (Or.inl (List.eq_nil_of_length_eq_zero (by rw [List.length_take]; omega))))
      have HS3 := Lib.hid (show SAt S w2 (X ++ (E1 ++ ((L.drop k ++ R.drop e) ++ Y))) by have := HS2.out; rw [← List.append_assoc (L.take k), hE1] at this; exact this)
      clear hE1
      refine (T2.out w2 E1 HP1.out HS3.out (by omega) (by omega)).mono ?_
      rintro e' w4 ⟨rfl, E2, p2, s2, h4⟩
      have HP2 := Lib.hid p2
      have HE2 := Lib.hid s2
      have HS4 := Lib.hid h4
      clear p2 s2 h4
      go_wp2_with fail
      go_end0
      have hc := CUT.out E1 E2 HP1.out HP2.out HE1.out HE2.out
      exact ⟨rfl, E1 ++ E2, hc.1, hc.2, by have := HS4.out; simpa using this⟩
    ·by_cases kL : k = pl
     ·have t1 : decide (ns < m) = false := decide_eq_false (by omega)
      have t1' : decide ((ns : Int) < (m : Int)) = false := decide_eq_false (by omega)
      have t2 : decide (m < nE) = true := decide_eq_true (by omega)
      have t2' : decide ((m : Int) < (nE : Int)) = true := decide_eq_true (by omega)
      have t3 : decide (a < ns) = true := decide_eq_true (by omega)
      have t3' : decide ((a : Int) < (ns : Int)) = true := decide_eq_true (by omega)
      have t4 : decide (ns < d) = true := decide_eq_true (by omega)
      have t4' : decide ((ns : Int) < (d : Int)) = true := decide_eq_true (by omega)
      have t5 : decide (d < nE) = false := decide_eq_false (by omega)
      have t5' : decide ((d : Int) < (nE : Int)) = false := decide_eq_false (by omega)
      go_wp2_with fail
      have HS2 := Lib.hid (show SAt S wr (X ++ (L.take k ++ (R.take e ++ ((L.drop k ++ R.drop e) ++ Y)))) by
       have h2 := HSC.out
       have hz : L.drop k = [] := List.eq_nil_of_length_eq_zero (by rw [List.length_drop, HPL.out]; omega)
       rw [hz] at h2 ⊢
       simpa using h2)
      refine (T1.out wr HS2.out (by omega) (by omega)).mono ?_
      rintro e' w3 ⟨rfl, E1, p1, s1, h3⟩
      have HP1 := Lib.hid p1
      have HE1 := Lib.hid s1
      have HS3 := Lib.hid h3
      clear p1 s1 h3
      go_wp2_with fail
      obtain ⟨E2, hE2⟩ : ∃ E2, L.drop k ++ R.drop e = E2 := ⟨_, rfl⟩
      have HP2 := Lib.hid (show E2.Perm (L.drop k ++ R.drop e) by rw [hE2])
      have HE2 := Lib.hid (show E2.Pairwise S.A by rw [← hE2]; exact side HLB.out HRD.out (Or.inl (List.eq_nil_of_length_eq_zero (by rw [List.length_drop, HPL.out]; omega))))
      have HS4 := Lib.hid (show SAt S w3 ((X ++ E1) ++ (E2 ++ Y)) by have := HS3.out; rw [hE2] at this; rw [List.append_assoc]; exact this)
      clear hE2
      go_end0
      have hc := CUT.out E1 E2 HP1.out HP2.out HE1.out HE2.out
      exact ⟨rfl, E1 ++ E2, hc.1, hc.2, by have := HS4.out; simpa using this⟩
     ·by_cases eR : e = pr
      ·have t1 : decide (ns < m) = true := decide_eq_true (by omega)
       have t1' : decide ((ns : Int) < (m : Int)) = true := decide_eq_true (by omega)
       have t2 : decide (m < nE) = true := decide_eq_true (by omega)
       have t2' : decide ((m : Int) < (nE : Int)) = true := decide_eq_true (by omega)
       have t3 : decide (a < ns) = true := decide_eq_true (by omega)
       have t3' : decide ((a : Int) < (ns : Int)) = true := decide_eq_true (by omega)
       have t4 : decide (ns < d) = true := decide_eq_true (by omega)
       have t4' : decide ((ns : Int) < (d : Int)) = true := decide_eq_true (by omega)
       have t5 : decide (d < nE) = true := decide_eq_true (by omega)
       have t5' : decide ((d : Int) < (nE : Int)) = true := decide_eq_true (by omega)
       have t6 : decide (nE < b) = false := decide_eq_false (by omega)
       have t6' : decide ((nE : Int) < (b : Int)) = false := decide_eq_false (by omega)
       go_wp2_with fail
       refine (TT.out wr HS.out (by omega) (by omega)).mono ?_
       rintro e' w2 ⟨rfl, h2⟩
       have HS2 := Lib.hid (show SAt S w2 (X ++ (L.take k ++ (R.take e ++ ((L.drop k ++ R.drop e) ++ Y)))) by simpa using h2)
       clear h2
       go_wp2_with fail
       refine (T1.out w2 HS2.out (by omega) (by omega)).mono ?_
       rintro e' w3 ⟨rfl, E1, p1, s1, h3⟩
       have HP1 := Lib.hid p1
       have HE1 := Lib.hid s1
       have HS3 := Lib.hid h3
       clear p1 s1 h3
       go_wp2_with fail
       obtain ⟨E2, hE2⟩ : ∃ E2, L.drop k ++ R.drop e = E2 := ⟨_, rfl⟩
       have HP2 := Lib.hid (show E2.Perm (L.drop k ++ R.drop e) by rw [hE2])
       have HE2 := Lib.hid (show E2.Pairwise S.A by rw [← hE2]; exact side HLB.out HRD.out (Or.inr (List.eq_nil_of_length_eq_zero (by rw [List.length_drop, HPR.out]; omega))))
       have HS4 := Lib.hid (show SAt S w3 ((X ++ E1) ++ (E2 ++ Y)) by have := HS3.out; rw [hE2] at this; rw [List.append_assoc]; exact this)
       clear hE2
       go_end0
       have hc := CUT.out E1 E2 HP1.out HP2.out HE1.out HE2.out
       exact ⟨rfl, E1 ++ E2, hc.1, hc.2, by have := HS4.out; simpa using this⟩
      ·have t1 : decide (ns < m) = true := decide_eq_true (by omega)
       have t1' : decide ((ns : Int) < (m : Int)) = true := decide_eq_true (by omega)
       have t2 : decide (m < nE) = true := decide_eq_true (by omega)
       have t2' : decide ((m : Int) < (nE : Int)) = true := decide_eq_true (by omega)
       have t3 : decide (a < ns) = true := decide_eq_true (by omega)
       have t3' : decide ((a : Int) < (ns : Int)) = true := decide_eq_true (by omega)
       have t4 : decide (ns < d) = true := decide_eq_true (by omega)
       have t4' : decide ((ns : Int) < (d : Int)) = true := decide_eq_true (by omega)
       have t5 : decide (d < nE) = true := decide_eq_true (by omega)
       have t5' : decide ((d : Int) < (nE : Int)) = true := decide_eq_true (by omega)
       have t6 : decide (nE < b) = true := decide_eq_true (by omega)
       have t6' : decide ((nE : Int) < (b : Int)) = true := decide_eq_true (by omega)
       go_wp2_with fail
       refine (TT.out wr HS.out (by omega) (by omega)).mono ?_
       rintro e' w2 ⟨rfl, h2⟩
       have HS2 := Lib.hid (show SAt S w2 (X ++ (L.take k ++ (R.take e ++ ((L.drop k ++ R.drop e) ++ Y)))) by simpa using h2)
       clear h2
       go_wp2_with fail
       refine (T1.out w2 HS2.out (by omega) (by omega)).mono ?_
       rintro e' w3 ⟨rfl, E1, p1, s1, h3⟩
       have HP1 := Lib.hid p1
       have HE1 := Lib.hid s1
       have HS3 := Lib.hid h3
       clear p1 s1 h3
       go_wp2_with fail
       refine (T2.out w3 E1 HP1.out HS3.out (by omega) (by omega)).mono ?_
       rintro e' w4 ⟨rfl, E2, p2, s2, h4⟩
       have HP2 := Lib.hid p2
       have HE2 := Lib.hid s2
       have HS4 := Lib.hid h4
       clear p2 s2 h4
       go_wp2_with fail
       go_end0
       have hc := CUT.out E1 E2 HP1.out HP2.out HE1.out HE2.out
       exact ⟨rfl, E1 ++ E2, hc.1, hc.2, by have := HS4.out; simpa using this⟩
set_option maxRecDepth 100000 in
theorem merge_all {β : Type} (S : SEnv β) (cap : Value) (hcmp : SCmpOk S cap) (htr : ∀ x y z, S.A x y → S.A y z → S.A x z) : ∀ k, MergeAt S cap k := by
 intro k
 induction k with
 | zero => intro X L R Y a m b N C w hk _ _ _ _ _ h1; omega
 | succ k ih =>
  intro X L R Y a m b N C w hk hX hm hb hN hmax h1 h2 hML hMR hL hR htag h
  by_cases l1 : L.length = 1
  ·obtain ⟨x, rfl⟩ := List.length_eq_one_iff.1 l1
   exact merge_one S cap hcmp htr X x R Y a m b N C w hX hm hb hN hmax (hML x (by simp)) hMR (htag x (by simp)) hR h
  by_cases r1 : R.length = 1
  ·obtain ⟨x, rfl⟩ := List.length_eq_one_iff.1 r1
   exact merge_last S cap hcmp htr X L x Y a m b N C w hX hm hb hN (by omega) hmax (hMR x (by simp)) hML (fun y hy => htag y hy x (by simp)) hL h
  rcases Nat.lt_or_ge ((a + b) / 2) m with hd | hd
  ·exact merge_hi S cap hcmp htr k ih X L R Y a m b _ N C w hk hX hm hb hN hmax (by omega) (by omega) hML hMR hL hR htag rfl hd h
  ·exact merge_lo S cap hcmp htr k ih X L R Y a m b _ N C w hk hX hm hb hN hmax (by omega) (by omega) hML hMR hL hR htag rfl hd h
end SortLaw
end Go.Proofs.YtkgdfccpkiglaaaDoor
