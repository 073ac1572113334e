/- slices.rotateCmpFunc, walked: two runs beside each other are turned. -/
import Derived.Test.YtkgdfccpkiglaaaDoorSSortSwap
namespace Go.Proofs.YtkgdfccpkiglaaaDoor
open Go.ChangeShapes Go.WideShapes Go.ChangeAt Go.RowKit
namespace SortLaw
set_option maxHeartbeats 4000000 in
set_option maxRecDepth 100000 in
theorem turn_any {β : Type} (S : SEnv β) (P U V Q : List β) (a m b N C : Nat) (F : Value) (w : World)
  (ha : P.length = a) (hU : a + U.length = m) (hV : m + V.length = b) (hN : b + Q.length = N) (h0 : 0 < U.length) (h1 : 0 < V.length) (hmax : N ≤ 4611686018427)
  (h : SAt S w (P ++ (U ++ (V ++ Q)))) :
  Calls Tryd.prog 46 #[.slice (some ⟨S.b, 0, none⟩) N C, .int .i64 a, .int .i64 m, .int .i64 b, F] w
   fun e w' => e = .returned (.tuple #[]) ∧ SAt S w' (P ++ (V ++ (U ++ Q))) := by
 have H0 := Lib.hid h
 have HA := Lib.hid ha
 obtain ⟨ui, hui⟩ : ∃ ui, U.length = ui := ⟨_, rfl⟩
 obtain ⟨vj, hvj⟩ : ∃ vj, V.length = vj := ⟨_, rfl⟩
 rw [hui] at hU h0
 rw [hvj] at hV h1
 have HUI := Lib.hid hui
 have HVJ := Lib.hid hvj
 have e1 : (m : Int) - (a : Int) = (ui : Nat) := by omega
 have e2 : (b : Int) - (m : Int) = (vj : Nat) := by omega
 have b1 : m ≤ N := by omega
 have b2 : b ≤ N := by omega
 have HN := Lib.hid hN
 have HU := Lib.hid hU
 have HV := Lib.hid hV
 clear h ha hui hvj hU hV hN
 go_enter Tryd.func46, Tryd.ntmps46
 go_wp2_with fail
 clear e1 e2
 go_loopw [10, 11] (fun i j wr => ∃ (ni nj : Nat) (Z1 U1 V1 Z2 : List β), i = .int .i64 ni ∧ j = .int .i64 nj ∧ 0 < ni ∧ 0 < nj ∧ U1.length = ni ∧ V1.length = nj ∧ (P ++ Z1).length + ni = m ∧
   m + nj + Z2.length = b ∧ Z1 ++ (V1 ++ (U1 ++ Z2)) = V ++ U ∧ SAt S wr (P ++ (Z1 ++ (U1 ++ (V1 ++ (Z2 ++ Q)))))) (fun i j _ => (intOf i).toNat + (intOf j).toNat)
 case atStart => exact ⟨ui, vj, [], U, V, [], rfl, rfl, h0, h1, HUI.out, HVJ.out, by rw [List.append_nil, HA.out]; exact HU.out, by rw [List.length_nil, Nat.add_zero]; exact HV.out, by simp, H0.out⟩
 case round =>
  obtain ⟨ni, nj, Z1, U1, V1, Z2, rfl, rfl, hi0, hj0, hu1, hv1, hm, hbz, heq, hs⟩ := hrel
  have HS := Lib.hid hs
  have HE := Lib.hid heq
  have HU1 := Lib.hid hu1
  have HV1 := Lib.hid hv1
  have HM := Lib.hid hm
  have HBZ := Lib.hid hbz
  have HQ := HN.out
  obtain ⟨pz, hpz⟩ : ∃ pz, (P ++ Z1).length = pz := ⟨_, rfl⟩
  have HPZ := Lib.hid hpz
  rw [hpz] at hm
  have k1 : (m : Int) - (ni : Int) = (pz : Nat) := by omega
  have b3 : m + nj ≤ N := by omega
  have b4 : ni ≤ m := by omega
  rcases Nat.lt_trichotomy ni nj with hlt | rfl | hgt
  ·have d0 : ((ni : Int) != (nj : Int)) = true := by simp; omega
   have d1 : decide ((nj : Int) < (ni : Int)) = false := decide_eq_false (by omega)
   have d1' : decide (nj < ni) = false := decide_eq_false (by omega)
   obtain ⟨q, hq⟩ : ∃ q : Nat, (m : Int) + (nj : Int) - (ni : Int) = q := ⟨m + nj - ni, by omega⟩
   obtain ⟨r, hr⟩ : ∃ r : Nat, (nj : Int) - (ni : Int) = r := ⟨nj - ni, by omega⟩
   have T := Lib.hid (fun wq (hs : SAt S wq (P ++ (Z1 ++ (U1 ++ (V1 ++ (Z2 ++ Q)))))) => swapR_any S (P ++ Z1) U1 (V1.take r) (V1.drop r) (Z2 ++ Q) pz q ni N C F wq hpz hu1 (by rw [List.length_drop, hv1]; omega)
    (by rw [List.length_take, hv1]; omega) (by rw [List.length_append]; omega) hmax (by
     rw [List.append_assoc, ← List.append_assoc (V1.take r), List.take_append_drop]; exact hs))
   have RL := Lib.hid (show (V1.drop r).length = ni ∧ (V1.take r).length = r ∧ 0 < r ∧ r = nj - ni by
    rw [List.length_drop, List.length_take, hv1]; omega)
   clear hs heq hu1 hv1 hpz hbz HQ
   have T0 := Lib.hid (T.out wr HS.out)
   clear T
   go_wp2_with fail
   refine (T0.out).mono ?_
   rintro e w2 ⟨rfl, h2⟩
   have H2 := Lib.hid h2
   clear h2 T0
   go_wp2_with fail
   go_roundw
   case rel =>
    refine ⟨ni, r, Z1, V1.drop r, V1.take r, U1 ++ Z2, rfl, rfl, hi0, RL.out.2.2.1, RL.out.1, RL.out.2.1, HM.out, ?_, ?_, ?_⟩
    ·have := HBZ.out; have := RL.out; rw [List.length_append, HU1.out]; omega
    ·rw [← HE.out, ← List.append_assoc (V1.take r), List.take_append_drop]
    ·have := H2.out; simpa using this
   case measure => have := RL.out; simp [intOf]; omega
  ·have d0 : ((ni : Int) != (ni : Int)) = false := by simp
   have T := Lib.hid (fun wq (hs : SAt S wq (P ++ (Z1 ++ (U1 ++ (V1 ++ (Z2 ++ Q)))))) => swapR_any S (P ++ Z1) U1 [] V1 (Z2 ++ Q) pz m ni N C F wq hpz hu1 hv1
    (by rw [List.length_nil]; omega) (by rw [List.length_append]; omega) hmax (by
     rw [List.append_assoc, List.nil_append]; exact hs))
   clear hs heq hu1 hv1 hpz hbz HQ
   have T0 := Lib.hid (T.out wr HS.out)
   clear T
   go_wp2_with fail
   refine (T0.out).mono ?_
   rintro e w2 ⟨rfl, h2⟩
   have H2 := Lib.hid (show SAt S w2 (P ++ (V ++ (U ++ Q))) by
    rw [← List.append_assoc V, ← HE.out]
    simpa using h2)
   clear h2 T0
   go_wp2_with fail
   go_end0
   exact ⟨rfl, H2.out⟩
  ·have d0 : ((ni : Int) != (nj : Int)) = true := by simp; omega
   have d1 : decide ((nj : Int) < (ni : Int)) = true := decide_eq_true (by omega)
   have d1' : decide (nj < ni) = true := decide_eq_true (by omega)
   obtain ⟨r, hr⟩ : ∃ r : Nat, (ni : Int) - (nj : Int) = r := ⟨ni - nj, by omega⟩
   have T := Lib.hid (fun wq (hs : SAt S wq (P ++ (Z1 ++ (U1 ++ (V1 ++ (Z2 ++ Q)))))) => swapR_any S (P ++ Z1) (U1.take nj) (U1.drop nj) V1 (Z2 ++ Q) pz m nj N C F wq hpz
    (by rw [List.length_take, hu1]; omega) hv1 (by rw [List.length_drop, hu1]; omega) (by rw [List.length_append]; omega) hmax (by
     rw [List.append_assoc, ← List.append_assoc (U1.take nj), List.take_append_drop]; exact hs))
   have RL := Lib.hid (show (U1.take nj).length = nj ∧ (U1.drop nj).length = r ∧ 0 < r ∧ r = ni - nj by
    rw [List.length_drop, List.length_take, hu1]; omega)
   clear hs heq hu1 hv1 hpz hbz HQ
   have T0 := Lib.hid (T.out wr HS.out)
   clear T
   go_wp2_with fail
   refine (T0.out).mono ?_
   rintro e w2 ⟨rfl, h2⟩
   have H2 := Lib.hid h2
   clear h2 T0
   go_wp2_with fail
   go_roundw
   case rel =>
    refine ⟨r, nj, Z1 ++ V1, U1.drop nj, U1.take nj, Z2, rfl, rfl, RL.out.2.2.1, hj0, RL.out.2.1, RL.out.1, ?_, ?_, ?_, ?_⟩
    ·have := HM.out; have := RL.out; rw [← List.append_assoc, List.length_append, HV1.out]; omega
    ·have := HBZ.out; omega
    ·rw [← HE.out, List.append_assoc, ← List.append_assoc (U1.take nj), List.take_append_drop]
    ·have := H2.out; simpa using this
   case measure => have := RL.out; simp [intOf]; omega
end SortLaw
end Go.Proofs.YtkgdfccpkiglaaaDoor
