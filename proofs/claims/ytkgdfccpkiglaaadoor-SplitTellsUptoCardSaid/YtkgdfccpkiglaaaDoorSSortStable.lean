/- slices.stableCmpFunc, slices.SortStableFunc, walked: what comes of any Outs is the one sorted order. -/
import Derived.Test.YtkgdfccpkiglaaaDoorSSortMerge
namespace Go.Proofs.YtkgdfccpkiglaaaDoor
open Go.ChangeShapes Go.WideShapes Go.ChangeAt Go.RowKit
namespace SortLaw
def SortSays {β : Type} (S : SEnv β) (l0 : List β) (e : Ending) (w' : World) : Prop :=
 e = .returned (.tuple #[]) ∧ ∃ E : List β, E.Perm l0 ∧ E.Pairwise S.A ∧ SAt S w' E
theorem runs_last {β : Type} {A : β → β → Prop} {bs n : Nat} {L0 L D0 D l0 : List β} (hl : l0 = L0 ++ D0) (hn : l0.length = n) (h20 : 20 ≤ bs) (hb : n ≤ bs) (hr : Runs A bs L0 L) (hp : D.Perm D0) (hs : D.Pairwise A) :
  (L ++ D).Perm l0 ∧ (L ++ D).Pairwise A := by
 subst hl
 refine ⟨hr.perm.append hp, ?_⟩
 rw [List.length_append] at hn
 rcases hr.cases3 with ⟨rfl, rfl⟩ | ⟨h1, h2, h3, h4⟩ | ⟨d1, S1, d2, S2, m0, m, rfl, rfl, h1, h2, -⟩
 ·simpa using hs
 ·have : D = [] := List.eq_nil_of_length_eq_zero (by rw [hp.length_eq]; omega)
  subst this
  simpa using h4
 ·rw [List.length_append, List.length_append] at hn; omega
set_option maxHeartbeats 8000000 in
set_option maxRecDepth 100000 in
theorem stable_any {β : Type} (S : SEnv β) (cap : Value) (hcmp : SCmpOk S cap) (htr : ∀ x y z, S.A x y → S.A y z → S.A x z) (l0 : List β) (n C : Nat) (w : World)
  (hl : l0.length = n) (hmax : n ≤ 1099511627776) (hM : ∀ x ∈ l0, S.M x) (htag : l0.Pairwise (fun x y => S.tag x < S.tag y)) (h : SAt S w l0) :
  Calls Tryd.prog 31 #[.slice (some ⟨S.b, 0, none⟩) n C, .int .i64 n, .func (.func 22) #[] #[cap]] w (SortSays S l0) := by
 have H0 := Lib.hid h
 have HL := Lib.hid hl
 have HC := Lib.hid hcmp
 have HTR := Lib.hid htr
 have HM := Lib.hid hM
 have HT := Lib.hid htag
 clear h hl hcmp htr hM htag
 go_enter Tryd.func31, Tryd.ntmps31
 go_wp2_with fail
 go_loopw [7, 8] (fun i j wr => ∃ (k : Nat) (L0 L D0 : List β), i = .int .i64 (k : Nat) ∧ j = .int .i64 ((k + 20 : Nat) : Int) ∧ L0.length = k ∧ k ≤ n ∧ l0 = L0 ++ D0 ∧ Runs S.A 20 L0 L ∧ SAt S wr (L ++ D0)) (fun i _ _ => n - (intOf i).toNat)
 case atStart => exact ⟨0, [], [], l0, rfl, rfl, rfl, Nat.zero_le _, rfl, .nil, H0.out⟩
 case round =>
  obtain ⟨k, L0, L, D0, rfl, rfl, hk, hkn, hl0, hr, hs⟩ := hrel
  have HK := Lib.hid hk
  have HL0 := Lib.hid hl0
  have HRU := Lib.hid hr
  have HS := Lib.hid hs
  have HLL := Lib.hid (show L.length = k by rw [hr.perm.length_eq, hk])
  have HDL := Lib.hid (show k + D0.length = n by have := HL.out; rw [hl0, List.length_append, hk] at this; exact this)
  have HMD := Lib.hid (show (∀ x ∈ D0, S.M x) ∧ D0.Pairwise (fun x y => S.tag x < S.tag y) by
   refine ⟨fun x hx => HM.out x (by rw [hl0]; exact List.mem_append_right _ hx), ?_⟩
   have := HT.out
   rw [hl0] at this
   exact (List.pairwise_append.1 this).2.1)
  clear hk hl0 hr hs
  by_cases hkb : k + 20 ≤ n
  ·have hk2 : ((k + 20 : Nat) : Int) + 20 = ((k + 20 + 20 : Nat) : Int) := by omega
   have T := Lib.hid (ins_any S cap HC.out HTR.out L (D0.take 20) (D0.drop 20) k (k + 20) n C wr HLL.out (by have := HDL.out; rw [List.length_take]; omega) (by have := HDL.out; rw [List.length_drop]; omega) (by omega)
    (fun x hx => HMD.out.1 x (List.mem_of_mem_take hx)) (HMD.out.2.sublist (List.take_sublist _ _)) (by rw [List.take_append_drop]; exact HS.out))
   go_wp2_with fail
   refine (T.out).mono ?_
   rintro e w2 ⟨rfl, E, p1, s1, h1⟩
   have HP := Lib.hid p1
   have HE := Lib.hid s1
   have HS2 := Lib.hid h1
   clear p1 s1 h1 T
   go_wp2_with fail
   go_roundw
   case rel =>
    have ht : (D0.take 20).length = 20 := by have := HDL.out; rw [List.length_take]; omega
    refine ⟨k + 20, L0 ++ D0.take 20, L ++ E, D0.drop 20, rfl, rfl, by rw [List.length_append, HK.out, ht], hkb, ?_, HRU.out.append (Runs.one ht HP.out HE.out), by rw [List.append_assoc]; exact HS2.out⟩
    rw [List.append_assoc, List.take_append_drop]; exact HL0.out
   case measure => simp [intOf]; omega
  ·have T := Lib.hid (ins_any S cap HC.out HTR.out L D0 [] k n n C wr HLL.out HDL.out (by simp) (by omega) HMD.out.1 HMD.out.2 (by rw [List.append_nil]; exact HS.out))
   have hD20 : D0.length < 20 := by have := HDL.out; omega
   have HD20 := Lib.hid hD20
   clear hD20
   go_wp2_with fail
   refine (T.out).mono ?_
   rintro e w2 ⟨rfl, E, p1, s1, h1⟩
   have HP := Lib.hid p1
   have HE := Lib.hid s1
   have HS2 := Lib.hid h1
   clear p1 s1 h1 T
   go_wp2_with fail
   go_loopw [6, 7, 8, 9] (fun i _ _ _ wr => ∃ (bs : Nat) (L0 L D0 D : List β), i = .int .i64 bs ∧ 20 ≤ bs ∧ bs ≤ n + n + 20 ∧ l0 = L0 ++ D0 ∧ Runs S.A bs L0 L ∧ D.Perm D0 ∧ D.Pairwise S.A ∧ D0.length < bs ∧ SAt S wr (L ++ D)) (fun i _ _ _ _ => n - (intOf i).toNat)
   case atStart => exact ⟨20, L0, L, D0, E, rfl, Nat.le_refl _, by omega, HL0.out, HRU.out, HP.out, HE.out, HD20.out, by have := HS2.out; rwa [List.append_nil] at this⟩
   case round =>
    obtain ⟨bs, M0, M, F0, F, rfl, hb1, hb2, hm0, hr, hp, hso, hfl, hs⟩ := hrel
    have HM0 := Lib.hid hm0
    have HRU2 := Lib.hid hr
    have HP2 := Lib.hid hp
    have HSO2 := Lib.hid hso
    have HFL := Lib.hid hfl
    have HS3 := Lib.hid hs
    clear hm0 hr hp hso hfl hs
    by_cases hbn : bs < n
    ·obtain ⟨b2, hb2e⟩ : ∃ b2, 2 * bs = b2 := ⟨_, rfl⟩
     have eb : 2 * (bs : Int) = (b2 : Int) := by omega
     have eb' : (bs : Int) * 2 = (b2 : Int) := by omega
     have hb3 : b2 ≤ n + n := by omega
     have HB2 := Lib.hid hb2e
     clear hb2e
     go_wp2_with fail
     go_loopw [7, 8] (fun i j wr => ∃ (k : Nat) (P0 P Q0 Q : List β), i = .int .i64 (k : Nat) ∧ j = .int .i64 ((k + b2 : Nat) : Int) ∧ P0.length = k ∧ k ≤ n ∧ M0 = P0 ++ Q0 ∧ Runs S.A b2 P0 P ∧ Runs S.A bs Q0 Q ∧ SAt S wr (P ++ (Q ++ F))) (fun i _ _ => n - (intOf i).toNat)
     case atStart => exact ⟨0, [], [], M0, M, rfl, by simp, rfl, Nat.zero_le _, rfl, .nil, HRU2.out, HS3.out⟩
     case round =>
      obtain ⟨k, P0, P, Q0, Q, rfl, rfl, hk, hkn, hmp, hr1, hr2, hs⟩ := hrel
      have HK := Lib.hid hk
      have HMP := Lib.hid hmp
      have HR1 := Lib.hid hr1
      have HS4 := Lib.hid hs
      have HPL := Lib.hid (show P.length = k by rw [hr1.perm.length_eq, hk])
      have HNN := Lib.hid (show k + (Q0.length + F0.length) = n by have := HL.out; rw [HM0.out, hmp, List.length_append, List.length_append, hk] at this; omega)
      have HTAG := Lib.hid (show (∀ x ∈ Q0, S.M x) ∧ (∀ x ∈ F0, S.M x) ∧ Q0.Pairwise (fun x y => S.tag x < S.tag y) ∧ (∀ x ∈ Q0, ∀ y ∈ F0, S.tag x < S.tag y) by
       have hm := HM.out
       have ht := HT.out
       rw [HM0.out, hmp] at hm ht
       rw [List.append_assoc] at hm ht
       have h2 := List.pairwise_append.1 (List.pairwise_append.1 ht).2.1
       exact ⟨fun x hx => hm x (List.mem_append_right _ (List.mem_append_left _ hx)), fun x hx => hm x (List.mem_append_right _ (List.mem_append_right _ hx)), h2.1, h2.2.2⟩)
      have HC3 := Lib.hid hr2.cases3
      have HFN := Lib.hid (show F.length = F0.length from HP2.out.length_eq)
      clear hk hmp hr1 hr2 hs
      by_cases hkb : k + b2 ≤ n
      ·have hc3 := HC3.out
       have hfl := HFL.out
       have hnn := HNN.out
       have hbb := HB2.out
       rcases hc3 with ⟨rfl, rfl⟩ | ⟨h1, h2, -, -⟩ | ⟨d1, S1, d2, S2, m0, mm, rfl, rfl, l1, l2, l3, l4, p1, p2, s1, s2, hrm⟩
       ·rw [List.length_nil] at hnn; omega
       ·omega
       ·have hk2 : ((k + b2 : Nat) : Int) + (b2 : Int) = ((k + b2 + b2 : Nat) : Int) := by omega
        obtain ⟨mB, hmB⟩ : ∃ mB, k + bs = mB := ⟨_, rfl⟩
        have hk3 : (k : Int) + (bs : Int) = (mB : Int) := by omega
        have hk4 : mB ≤ n := by omega
        rw [List.length_append, List.length_append] at hnn
        have T := Lib.hid (merge_all S cap HC.out HTR.out (S1.length + S2.length) P S1 S2 (mm ++ F) k mB (k + b2) n C wr (Nat.le_refl _) HPL.out (by rw [l3, hmB]) (by rw [l4]; omega)
         (by rw [List.length_append, HFN.out, hrm.perm.length_eq]; omega) (by omega) (by omega) (by omega) (fun x hx => HTAG.out.1 x (List.mem_append_left _ (p1.mem_iff.1 hx)))
         (fun x hx => HTAG.out.1 x (List.mem_append_right _ (List.mem_append_left _ (p2.mem_iff.1 hx)))) s1 s2
         (fun x hx y hy => (List.pairwise_append.1 HTAG.out.2.2.1).2.2 x (p1.mem_iff.1 hx) y (List.mem_append_left _ (p2.mem_iff.1 hy))) (by have := HS4.out; simpa using this))
        have HP1 := Lib.hid p1
        have HPP2 := Lib.hid p2
        have HRM := Lib.hid hrm
        have HLS := Lib.hid (And.intro l1 l2)
        clear p1 p2 s1 s2 hrm l1 l2 l3 l4 hnn hbb hfl hmB
        go_wp2_with fail
        refine (T.out).mono ?_
        rintro e' w4 ⟨rfl, E2, q1, q2, h4⟩
        have HQ1 := Lib.hid q1
        have HQ2 := Lib.hid q2
        have HS5 := Lib.hid h4
        clear q1 q2 h4 T
        go_wp2_with fail
        go_roundw
        case rel =>
         refine ⟨k + b2, P0 ++ (d1 ++ d2), P ++ E2, m0, mm, rfl, rfl, ?_, hkb, ?_, ?_, HRM.out, ?_⟩
         ·have := HLS.out; have := HB2.out; rw [List.length_append, List.length_append, HK.out]; omega
         ·rw [HMP.out]; simp
         ·exact HR1.out.append (Runs.one (by have := HLS.out; have := HB2.out; rw [List.length_append]; omega) (HQ1.out.trans (HP1.out.append HPP2.out)) HQ2.out)
         ·have := HS5.out; simpa using this
        case measure => simp [intOf]; omega
      ·obtain ⟨mB, hmB⟩ : ∃ mB, k + bs = mB := ⟨_, rfl⟩
       have hk3 : (k : Int) + (bs : Int) = (mB : Int) := by omega
       have hkb3 : mB ≤ n + n + n + 20 := by omega
       have hc3 := HC3.out
       have hfl := HFL.out
       have hnn := HNN.out
       have hbb := HB2.out
       rcases hc3 with ⟨rfl, rfl⟩ | ⟨h1, h2, h3, h4⟩ | ⟨d1, S1, d2, S2, m0, mm, rfl, rfl, l1, l2, l3, l4, p1, p2, s1, s2, hrm⟩
       ·rw [List.length_nil] at hnn
        have dm : decide (mB < n) = false := decide_eq_false (by omega)
        have dm' : decide ((mB : Int) < (n : Int)) = false := decide_eq_false (by omega)
        clear hnn hbb hfl hmB
        go_wp2_with fail
        go_roundw
        case rel => exact ⟨b2, P0, P, F0, F, rfl, by have := HB2.out; omega, by omega, by rw [HM0.out, HMP.out, List.append_nil], HR1.out, HP2.out, HSO2.out, by have := HB2.out; have := HFL.out; omega, by have := HS4.out; simpa using this⟩
        case measure => simp [intOf]; have := HB2.out; omega
       ·by_cases hF : F0.length = 0
        ·have dm : decide (mB < n) = false := decide_eq_false (by omega)
         have dm' : decide ((mB : Int) < (n : Int)) = false := decide_eq_false (by omega)
         obtain rfl : F0 = [] := List.eq_nil_of_length_eq_zero hF
         obtain rfl : F = [] := List.eq_nil_of_length_eq_zero (by rw [HFN.out]; rfl)
         have HQQ := Lib.hid (And.intro h1 (And.intro h3 h4))
         clear hnn hbb hfl hF h1 h2 h3 h4 hmB
         go_wp2_with fail
         go_roundw
         case rel => exact ⟨b2, P0, P, Q0, Q, rfl, by have := HB2.out; omega, by omega, by rw [HM0.out, HMP.out, List.append_nil], HR1.out, HQQ.out.2.1, HQQ.out.2.2, by have := HB2.out; have := HQQ.out.1; omega, by have := HS4.out; rwa [List.append_nil] at this⟩
         case measure => simp [intOf]; have := HB2.out; omega
        ·have dm : decide (mB < n) = true := decide_eq_true (by omega)
         have dm' : decide ((mB : Int) < (n : Int)) = true := decide_eq_true (by omega)
         have T := Lib.hid (merge_all S cap HC.out HTR.out (Q.length + F.length) P Q F [] k mB n n C wr (Nat.le_refl _) HPL.out (by rw [h2, hmB]) (by rw [HFN.out]; omega) (by simp) (by omega) (by omega) (by rw [HFN.out]; omega)
          (fun x hx => HTAG.out.1 x (h3.mem_iff.1 hx)) (fun x hx => HTAG.out.2.1 x (HP2.out.mem_iff.1 hx)) h4 HSO2.out
          (fun x hx y hy => HTAG.out.2.2.2 x (h3.mem_iff.1 hx) y (HP2.out.mem_iff.1 hy)) (by rw [List.append_nil]; exact HS4.out))
         have HQQ := Lib.hid (And.intro h1 (And.intro h3 h4))
         clear hnn hbb hfl hF h1 h2 h3 h4 hmB
         go_wp2_with fail
         refine (T.out).mono ?_
         rintro e' w4 ⟨rfl, E2, q1, q2, h4⟩
         have HQ1 := Lib.hid q1
         have HQ2 := Lib.hid q2
         have HS5 := Lib.hid h4
         clear q1 q2 h4 T
         go_wp2_with fail
         go_roundw
         case rel => exact ⟨b2, P0, P, Q0 ++ F0, E2, rfl, by have := HB2.out; omega, by omega, by rw [HM0.out, HMP.out, List.append_assoc], HR1.out, HQ1.out.trans (HQQ.out.2.1.append HP2.out), HQ2.out, by have := HB2.out; have := HQQ.out.1; have := HFL.out; rw [List.length_append]; omega, by have := HS5.out; rwa [List.append_nil] at this⟩
         case measure => simp [intOf]; have := HB2.out; omega
       ·rw [List.length_append, List.length_append] at hnn; omega
    ·have HF := Lib.hid (runs_last HM0.out HL.out hb1 (Nat.le_of_not_lt hbn) HRU2.out HP2.out HSO2.out)
     go_wp2_with fail
     go_end0
     exact ⟨rfl, M ++ F, HF.out.1, HF.out.2, HS3.out⟩
set_option maxHeartbeats 1000000 in
theorem sortFn_any {β : Type} (S : SEnv β) (cap : Value) (hcmp : SCmpOk S cap) (htr : ∀ x y z, S.A x y → S.A y z → S.A x z) (l0 : List β) (n C : Nat) (w : World)
  (hl : l0.length = n) (hmax : n ≤ 1099511627776) (hM : ∀ x ∈ l0, S.M x) (htag : l0.Pairwise (fun x y => S.tag x < S.tag y)) (h : SAt S w l0) :
  Calls Tryd.prog 21 #[.slice (some ⟨S.b, 0, none⟩) n C, .func (.func 22) #[] #[cap]] w (SortSays S l0) := by
 have T := Lib.hid (stable_any S cap hcmp htr l0 n C w hl hmax hM htag h)
 clear hcmp htr hM htag h hl
 go_enter Tryd.func21, Tryd.ntmps21
 go_wp2_with fail
 refine (T.out).mono ?_
 rintro e w2 ⟨rfl, h2⟩
 have H2 := Lib.hid h2
 clear h2 T
 go_wp2_with fail
 go_end0
 exact ⟨rfl, H2.out⟩
set_option maxHeartbeats 1000000 in
theorem ins_none (p : Option Addr) (C : Nat) (F : Value) (w : World) :
  Calls Tryd.prog 40 #[.slice p 0 C, .int .i64 0, .int .i64 0, F] w fun e w' => e = .returned (.tuple #[]) ∧ w' = w := by
 go_enter Tryd.func40, Tryd.ntmps40
 go_wp2_with fail
 go_loopw [8] (fun i wr => i = .int .i64 1 ∧ wr = w) (fun _ _ => 0)
 case atStart => exact ⟨rfl, rfl⟩
 case round =>
  obtain ⟨rfl, rfl⟩ := hrel
  go_wp2_with fail
  go_end0
  exact ⟨rfl, rfl⟩
set_option maxHeartbeats 1000000 in
theorem sortFn_none (p : Option Addr) (C : Nat) (F : Value) (w : World) :
  Calls Tryd.prog 21 #[.slice p 0 C, F] w fun e w' => e = .returned (.tuple #[]) ∧ w' = w := by
 have T : Calls Tryd.prog 31 #[.slice p 0 C, .int .i64 0, F] w fun e w' => e = .returned (.tuple #[]) ∧ w' = w := by
  have T0 := Lib.hid (ins_none p C F)
  go_enter Tryd.func31, Tryd.ntmps31
  go_wp2_with fail
  go_loopw [7, 8] (fun i j wr => i = .int .i64 0 ∧ j = .int .i64 20 ∧ wr = w) (fun _ _ _ => 0)
  case atStart => exact ⟨rfl, rfl, rfl⟩
  case round =>
   obtain ⟨rfl, rfl, rfl⟩ := hrel
   go_wp2_with fail
   refine (T0.out _).mono ?_
   rintro e w2 ⟨rfl, rfl⟩
   go_wp2_with fail
   go_loopw [6, 7, 8, 9] (fun i _ _ _ wr => i = .int .i64 20 ∧ wr = w2) (fun _ _ _ _ _ => 0)
   case atStart => exact ⟨rfl, rfl⟩
   case round =>
    obtain ⟨rfl, rfl⟩ := hrel
    go_wp2_with fail
    go_end0
    exact ⟨rfl, rfl⟩
 have T := Lib.hid T
 go_enter Tryd.func21, Tryd.ntmps21
 go_wp2_with fail
 refine (T.out).mono ?_
 rintro e w2 ⟨rfl, rfl⟩
 go_wp2_with fail
 go_end0
 exact ⟨rfl, rfl⟩
end SortLaw
end Go.Proofs.YtkgdfccpkiglaaaDoor
