/- AggAny: rows added the other way round, or in two that are joined either way, come to the same. -/
import Derived.Test.YtfdihajhhadidaaDoorAggOneSum
import Derived.Test.YtfdihajhhadidaaDoorOpenAggs
import Derived.Test.YtfdihajhhadidaaDoorOpenRows
import Derived.Test.YtfdihajhhadidaaDoorOpenInts
import Derived.Test.YtfdihajhhadidaaDoorFrame
import Derived.Test.YtfdihajhhadidaaDoorLaidErr
import Derived.Deep.DeepWitnessRowRef
namespace Go.Proofs.YtfdihajhhadidaaDoor.aggAny
open Go.ChangeShapes Go.WideShapes Go.ChangeAt Go.RowKit

theorem errIs (k : Int) : ErrIs (errV k) k := by
  by_cases h : k = 0
  · exact Or.inl ⟨by rw [h]; rfl, h⟩
  · exact Or.inr ⟨errV_ne h, h⟩
theorem res_over : onesRes (onesOf ksSum [[ofV 9223372036854775807], [ofV 5]]) 2 = (9, []) := by decide
theorem res_fits : onesRes (onesOf ksSum [[ofV 9223372036854775807], [ofV 5], [ofV (-7)]]) 3 = (0, [ofV 9223372036854775805]) := by decide
set_option maxHeartbeats 8000000 in
set_option maxRecDepth 100000 in
theorem walk (A0 T0 R0 : Option Addr) (n c tn tc m rcap : Nat) (cut : Int) (l : List AggH) (ts : List Int) (hs : List RowH) (W : World) (hG : ErrT W) (hl : SeesAggs W A0 n c l) (ht : Sees W T0 tn tc 1 (intCells ts)) (hR : SeesRows W R0 m rcap hs)
    (hw : ∀ x ∈ hs, ∀ v ∈ x.r, v.wf) :
    Calls Tryd.prog 4 #[.slice A0 n c, .slice T0 tn tc, .slice R0 m rcap, .int .i64 cut] W fun e W' => e = .returned (.bool true) ∧ Below W.heap.size W W' := by
  have HL := Lib.hid hl
  have HT := Lib.hid ht
  have HR := Lib.hid hR
  have HWF := Lib.hid hw
  have HG := Lib.hid hG
  have hcap := hl.2.2.1
  have hmax := hl.2.2.2.1
  have htc := ht.2.1
  have htm := ht.2.2.1
  have hrc := hR.1.2.1
  have hrm := hR.1.2.2.1
  unfold maxLen at hmax htm hrm
  obtain ⟨w0, hw0⟩ : ∃ w0, (W.alloc (.cells #[.string ⟨#[115, 117, 109]⟩, .string ⟨#[]⟩, .string ⟨#[]⟩, .int .i64 0, .int .i64 0, .string ⟨#[]⟩, .slice none 0 0, .int .i64 0, .string ⟨#[]⟩] 31)).alloc (.cells #[.int .i64 1] 3) = w0 := ⟨_, rfl⟩
  have HB0 := Lib.hid (show Below W.heap.size W w0 by rw [← hw0]; exact ((Below.refl _ _).alloc (Nat.le_refl _) _).alloc (by simp) _)
  have HS0 := Lib.hid (show SeesAggs w0 (some ⟨W.heap.size, 0, none⟩) 1 1 [aggOf sumB] by rw [← hw0]; exact (seesOneAgg W sumB _).keep ((Below.refl _ _).alloc (Nat.le_refl _) _))
  have HT0 := Lib.hid (show Sees w0 (some ⟨W.heap.size + 1, 0, none⟩) 1 1 1 (intCells [1]) by
    rw [← hw0]
    have := seesNew (W.alloc (.cells #[.string ⟨#[115, 117, 109]⟩, .string ⟨#[]⟩, .string ⟨#[]⟩, .int .i64 0, .int .i64 0, .string ⟨#[]⟩, .slice none 0 0, .int .i64 0, .string ⟨#[]⟩] 31)) (intCells [1]) 3 1 1 rfl (by decide)
    rw [show (W.alloc (.cells #[.string ⟨#[115, 117, 109]⟩, .string ⟨#[]⟩, .string ⟨#[]⟩, .int .i64 0, .int .i64 0, .string ⟨#[]⟩, .slice none 0 0, .int .i64 0, .string ⟨#[]⟩] 31)).heap.size = W.heap.size + 1 by simp] at this
    exact this)
  have HW0 := Lib.hid hw0
  clear hl ht hR hw hG hw0
  go_enter Tryd.func4, Tryd.ntmps4
  go_wp2_with (first | rw [HW0.out])
  refine (new_in HS0.out HT0.out sum_new).mono ?_
  rintro e v0 ⟨⟨A, cA, rfl, hin⟩, hb⟩
  rw [sum_kds] at hin
  have HIN := Lib.hid hin
  have HB := Lib.hid (below_step HB0.out hb)
  have hsz := hb.size
  have hsW := HB0.out.size
  clear hin hb
  obtain ⟨x1, hx1⟩ : ∃ x, v0.alloc (.cells #[.int .i64 1, .int .i64 9223372036854775807, .string ⟨#[]⟩] 26) = x := ⟨_, rfl⟩
  have HBX1 := Lib.hid (show Below v0.heap.size v0 x1 by rw [← hx1]; exact (Below.refl _ _).alloc (Nat.le_refl _) _)
  have HSX1 := Lib.hid (show SeesVals x1 (some ⟨v0.heap.size, 0, none⟩) 1 1 [ofV 9223372036854775807] by rw [← hx1]; exact seesOneVal v0 (ofV 9223372036854775807) _)
  have HX1 := Lib.hid hx1
  have HPW1 := Lib.hid (show v0.heap.size ≤ v0.heap.size from Nat.le_refl _)
  clear hx1
  go_wp2_with (first | rw [HX1.out])
  refine (put_in w0.heap.size v0.heap.size cA 1 1 A (some ⟨v0.heap.size, 0, none⟩) ksSum [] [ofV 9223372036854775807] x1 (HIN.out.keep HBX1.out) HSX1.out (ofV_wf (by decide)) (by simp) (fun _ ad e h => by injection e with e; rw [← e] at h; have := HPW1.out; unfold Span at h; simp only at h; omega)).mono ?_
  rintro e v1 ⟨rfl, hin, hy⟩
  rw [sum_ok, errV_zero]
  rw [sum_add] at hin
  have HIN1 := Lib.hid hin
  have HB1 := Lib.hid (below_step (HB.out) HBX1.out |>.trans (span_below hy (show W.heap.size ≤ w0.heap.size from hsW) ((below_step (HB.out) HBX1.out).size)))
  have HVZ1 := Lib.hid (show v0.heap.size ≤ v1.heap.size from Nat.le_trans HPW1.out (Nat.le_trans HBX1.out.size hy.size))
  clear hin hy
  obtain ⟨x2, hx2⟩ : ∃ x, v1.alloc (.cells #[.int .i64 1, .int .i64 5, .string ⟨#[]⟩] 26) = x := ⟨_, rfl⟩
  have HBX2 := Lib.hid (show Below v1.heap.size v1 x2 by rw [← hx2]; exact (Below.refl _ _).alloc (Nat.le_refl _) _)
  have HSX2 := Lib.hid (show SeesVals x2 (some ⟨v1.heap.size, 0, none⟩) 1 1 [ofV 5] by rw [← hx2]; exact seesOneVal v1 (ofV 5) _)
  have HX2 := Lib.hid hx2
  have HPW2 := Lib.hid (show v0.heap.size ≤ v1.heap.size from HVZ1.out)
  clear hx2
  go_wp2_with (first | rw [HX2.out])
  refine (put_in w0.heap.size v0.heap.size cA 1 1 A (some ⟨v1.heap.size, 0, none⟩) ksSum ([] ++ [[ofV 9223372036854775807]]) [ofV 5] x2 (HIN1.out.keep HBX2.out) HSX2.out (ofV_wf (by decide)) (by simp) (fun _ ad e h => by injection e with e; rw [← e] at h; have := HPW2.out; unfold Span at h; simp only at h; omega)).mono ?_
  rintro e v2 ⟨rfl, hin, hy⟩
  rw [sum_ok, errV_zero]
  rw [sum_add] at hin
  have HIN2 := Lib.hid hin
  have HB2 := Lib.hid (below_step (HB1.out) HBX2.out |>.trans (span_below hy (show W.heap.size ≤ w0.heap.size from hsW) ((below_step (HB1.out) HBX2.out).size)))
  have HVZ2 := Lib.hid (show v0.heap.size ≤ v2.heap.size from Nat.le_trans HPW2.out (Nat.le_trans HBX2.out.size hy.size))
  clear hin hy
  go_wp2_with fail
  refine (result_in w0.heap.size v0.heap.size cA A ksSum (([] ++ [[ofV 9223372036854775807]]) ++ [[ofV 5]]) v2 HIN2.out (by decide)).mono ?_
  rintro e r2 ⟨⟨T2, c2, rfl, -, -⟩, hb⟩
  have HBR2 := Lib.hid hb
  have HIR2 := Lib.hid (HIN2.out.keep hb)
  have HBB2 := Lib.hid (below_step HB2.out hb)
  have er : onesRes (onesOf ksSum (([] ++ [[ofV 9223372036854775807]]) ++ [[ofV 5]])) (([] ++ [[ofV 9223372036854775807]]) ++ [[ofV 5]]).length = (9, []) := res_over
  rw [er]
  clear hb er
  obtain ⟨x3, hx3⟩ : ∃ x, r2.alloc (.cells #[.int .i64 1, .int .i64 (-7), .string ⟨#[]⟩] 26) = x := ⟨_, rfl⟩
  have HBX3 := Lib.hid (show Below r2.heap.size r2 x3 by rw [← hx3]; exact (Below.refl _ _).alloc (Nat.le_refl _) _)
  have HSX3 := Lib.hid (show SeesVals x3 (some ⟨r2.heap.size, 0, none⟩) 1 1 [ofV (-7)] by rw [← hx3]; exact seesOneVal r2 (ofV (-7)) _)
  have HX3 := Lib.hid hx3
  have HPW3 := Lib.hid (show v0.heap.size ≤ r2.heap.size from Nat.le_trans HVZ2.out HBR2.out.size)
  clear hx3
  go_wp2_with (first | rw [HX3.out])
  refine (put_in w0.heap.size v0.heap.size cA 1 1 A (some ⟨r2.heap.size, 0, none⟩) ksSum (([] ++ [[ofV 9223372036854775807]]) ++ [[ofV 5]]) [ofV (-7)] x3 (HIR2.out.keep HBX3.out) HSX3.out (ofV_wf (by decide)) (by simp) (fun _ ad e h => by injection e with e; rw [← e] at h; have := HPW3.out; unfold Span at h; simp only at h; omega)).mono ?_
  rintro e v3 ⟨rfl, hin, hy⟩
  rw [sum_ok, errV_zero]
  rw [sum_add] at hin
  have HIN3 := Lib.hid hin
  have HB3 := Lib.hid (below_step (HBB2.out) HBX3.out |>.trans (span_below hy (show W.heap.size ≤ w0.heap.size from hsW) ((below_step (HBB2.out) HBX3.out).size)))
  have HVZ3 := Lib.hid (show v0.heap.size ≤ v3.heap.size from Nat.le_trans HPW3.out (Nat.le_trans HBX3.out.size hy.size))
  clear hin hy
  go_wp2_with fail
  refine (result_in w0.heap.size v0.heap.size cA A ksSum ((([] ++ [[ofV 9223372036854775807]]) ++ [[ofV 5]]) ++ [[ofV (-7)]]) v3 HIN3.out (by decide)).mono ?_
  rintro e r3 ⟨⟨T3, c3, rfl, hv3, -⟩, hb⟩
  have er : onesRes (onesOf ksSum ((([] ++ [[ofV 9223372036854775807]]) ++ [[ofV 5]]) ++ [[ofV (-7)]])) ((([] ++ [[ofV 9223372036854775807]]) ++ [[ofV 5]]) ++ [[ofV (-7)]]).length = (0, [ofV 9223372036854775805]) := res_fits
  rw [er] at hv3 ⊢
  rw [errV_zero]
  have HV3 := Lib.hid hv3
  have HBB3 := Lib.hid (below_step HB3.out hb)
  clear hb er hv3
  go_wp2_with fail
  refine (same_err (errV 9) 9 9 r3 (HG.out.keep HBB3.out) (errIs 9)).mono ?_
  rintro e z1 ⟨rfl, hb⟩
  have HV4 := Lib.hid (HV3.out.keep hb)
  have HBZ := Lib.hid (below_step HBB3.out hb)
  clear hb
  obtain ⟨g4, o4, u4, rfl, -, hu4, -, q1, -⟩ := HV4.out.at_ (k := 0) (by decide)
  obtain rfl : ofV 9223372036854775805 = u4 := by simpa using hu4
  rw [Nat.zero_mul, Nat.add_zero] at q1
  have q1 : z1.cell? ⟨g4, o4 + 1, none⟩ = some (.int .i64 9223372036854775805) := q1
  have hc3 : 1 ≤ c3 := HV4.out.2.2.1
  have hm3 : c3 ≤ 2 ^ 63 - 1 := HV4.out.2.2.2.1
  clear hu4
  obtain ⟨k0, hk0⟩ : ∃ k0, newFault l ts = k0 := ⟨_, rfl⟩
  by_cases hz : k0 = 0
  · subst hz
    have hnk : ∀ k ∈ kdsOf l ts, kdFault k = 0 := by
      have hk1 := hk0
      unfold newFault at hk1
      by_cases h3 : ts.length ≠ l.length
      · rw [if_pos h3] at hk1; exact absurd hk1 (by decide)
      · rw [if_neg h3] at hk1
        by_cases h6 : 6 < l.length
        · rw [if_pos h6] at hk1; exact absurd hk1 (by decide)
        · rw [if_neg h6] at hk1
          exact newAt_all hk1
    have hkl : (kdsOf l ts).length ≤ 6 := by
      have hk1 := hk0
      unfold newFault at hk1
      by_cases h3 : ts.length ≠ l.length
      · rw [if_pos h3] at hk1; exact absurd hk1 (by decide)
      · rw [if_neg h3] at hk1
        by_cases h6 : 6 < l.length
        · rw [if_pos h6] at hk1; exact absurd hk1 (by decide)
        · rw [kdsOf_length (by omega)]; omega
    have HNK := Lib.hid hnk
    have HKL := Lib.hid hkl
    have HNI := Lib.hid (fun w' (hb : Below W.heap.size W w') => new_in (HL.out.keep hb) (HT.out.keep hb) hk0)
    generalize kdsOf l ts = ks at HNI HNK HKL
    clear hk0 hnk hkl
    go_wp2_with fail
    refine (HNI.out z1 HBZ.out).mono ?_
    rintro e y1 ⟨⟨Aa, ca, rfl, hin⟩, hb⟩
    have HIa := Lib.hid hin
    have HBY1 := Lib.hid (below_step HBZ.out hb)
    have hs1 := hb.size
    clear hin hb
    go_wp2_with fail
    refine (HNI.out y1 HBY1.out).mono ?_
    rintro e y2 ⟨⟨Ab, cb, rfl, hin⟩, hb⟩
    have HIb := Lib.hid hin
    have HBY2 := Lib.hid (below_step HBY1.out hb)
    have hs2 := hb.size
    have HIa := Lib.hid (HIa.out.keep hb)
    clear hin hb
    go_wp2_with fail
    refine (HNI.out y2 HBY2.out).mono ?_
    rintro e y3 ⟨⟨Ac, cc, rfl, hin⟩, hb⟩
    have HIc := Lib.hid hin
    have HBY3 := Lib.hid (below_step HBY2.out hb)
    have hs3 := hb.size
    have HIa := Lib.hid (HIa.out.keep hb)
    have HIb := Lib.hid (HIb.out.keep hb)
    clear hin hb
    go_wp2_with fail
    refine (HNI.out y3 HBY3.out).mono ?_
    rintro e y4 ⟨⟨Ad, cd, rfl, hin⟩, hb⟩
    have HId := Lib.hid hin
    have HBY4 := Lib.hid (below_step HBY3.out hb)
    have hs4 := hb.size
    have HIa := Lib.hid (HIa.out.keep hb)
    have HIb := Lib.hid (HIb.out.keep hb)
    have HIc := Lib.hid (HIc.out.keep hb)
    clear hin hb
    have hsz1 := HBZ.out.size
    have hlh : hs.length = m := HR.out.len
    have HLH := Lib.hid hlh
    clear hlh
    obtain ⟨L, hL⟩ : ∃ L, rowsOf hs = L := ⟨_, rfl⟩
    have HL2 := Lib.hid hL
    clear hL
    by_cases hm60 : 60 < m
    · have d60 : decide (60 < m) = true := decide_eq_true hm60
      have d60' : decide (60 < (m : Int)) = true := decide_eq_true (by omega)
      have HQL := Lib.hid (show (L.take 60).length = 60 by rw [List.length_take, ← HL2.out]; unfold rowsOf; rw [List.length_map, HLH.out]; omega)
      go_wp2_with fail
      go_loopw [28] (fun v wx => ∃ (i : Nat) (ra rb rc rd : List (List Val)), i ≤ 60 ∧ v = .int .i64 i ∧ Below W.heap.size W wx ∧ AccIn wx z1.heap.size y1.heap.size ca Aa ks ra ∧ AccIn wx y1.heap.size y2.heap.size cb Ab ks rb ∧ AccIn wx y2.heap.size y3.heap.size cc Ac ks rc ∧ AccIn wx y3.heap.size y4.heap.size cd Ad ks rd ∧ ra = ((L.take 60).take i).filter (fun q => rowFault ks q = 0) ∧ rb = ((L.take 60).reverse.take i).filter (fun q => rowFault ks q = 0) ∧ ra = rc ++ rd ∧ (rd = [] ∨ cut ≤ i)) (fun v _ => 60 - (intOf v).toNat)
      case atStart => exact ⟨0, [], [], [], [], by omega, rfl, HBY4.out, HIa.out, HIb.out, HIc.out, HId.out, rfl, rfl, rfl, Or.inl rfl⟩
      case round =>
        obtain ⟨i, ra, rb, rc, rd, hi, rfl, hlow, h1, h2, h3, h4, hea, heb, hec, hlate⟩ := hrel
        have H1 := Lib.hid h1
        have H2 := Lib.hid h2
        have H3 := Lib.hid h3
        have H4 := Lib.hid h4
        have HEA := Lib.hid hea
        have HEB := Lib.hid heb
        have HEC := Lib.hid hec
        have HLATE := Lib.hid hlate
        have HLOW := Lib.hid hlow
        have hla : ra.length ≤ 60 := by rw [hea]; exact Nat.le_trans (filt_len ks _ i) (by omega)
        have hlb : rb.length ≤ 60 := by rw [heb]; exact Nat.le_trans (filt_len ks _ i) (by omega)
        have hlc : rc.length + rd.length = ra.length := by rw [hec, List.length_append]
        clear h1 h2 h3 h4 hea heb hec hlate hlow
        by_cases hiq : i < 60
        · have him : i < m := by omega
          obtain ⟨r, hr⟩ : ∃ r : Nat, 59 - (i : Int) = (r : Int) := ⟨60 - 1 - i, by omega⟩
          have hrm2 : r < m := by omega
          have hrq : r = 60 - 1 - i := by omega
          obtain ⟨gr, og, x1, rfl, hx1, hs1, q1⟩ := HR.out.at_ him
          obtain ⟨gr', og', x2, er, hx2, hs2, q2⟩ := HR.out.at_ hrm2
          obtain ⟨rfl, rfl⟩ : gr = gr' ∧ og = og' := by injection er with er; injection er with e1 e2; exact ⟨e1, e2⟩
          have HX1 := Lib.hid (show (L.take 60)[i]? = some x1.r by rw [List.getElem?_take_of_lt (by omega), ← HL2.out]; unfold rowsOf; rw [List.getElem?_map, hx1]; rfl)
          have HX2 := Lib.hid (show (L.take 60).reverse[i]? = some x2.r by rw [List.getElem?_reverse (by rw [HQL.out]; exact hiq), HQL.out, ← hrq, List.getElem?_take_of_lt (by omega), ← HL2.out]; unfold rowsOf; rw [List.getElem?_map, hx2]; rfl)
          have HW1 := Lib.hid (HWF.out x1 (List.mem_of_getElem? hx1))
          have HSW1 := Lib.hid hs1
          have FAR1 := Lib.hid (show ∀ lo hi, W.heap.size ≤ lo → 0 < x1.n → ∀ ad, x1.R = some ad → ¬ Span lo hi ad.block from fun lo hi h0 h1 ad ead hsp => by obtain ⟨g9, o9, e9, h9, -⟩ := HSW1.out.2.2.2.2.2 h1; rw [ead] at e9; injection e9 with e9; rw [e9] at hsp; unfold Span at hsp; simp only at hsp; omega)
          have HW2 := Lib.hid (HWF.out x2 (List.mem_of_getElem? hx2))
          have HSW2 := Lib.hid hs2
          have FAR2 := Lib.hid (show ∀ lo hi, W.heap.size ≤ lo → 0 < x2.n → ∀ ad, x2.R = some ad → ¬ Span lo hi ad.block from fun lo hi h0 h1 ad ead hsp => by obtain ⟨g9, o9, e9, h9, -⟩ := HSW2.out.2.2.2.2.2 h1; rw [ead] at e9; injection e9 with e9; rw [e9] at hsp; unfold Span at hsp; simp only at hsp; omega)
          have hgl : gr < W.heap.size := World.block_lt_of_cell? W _ q1
          clear hx1 hx2 hs1 hs2 er hrq
          have qxu1 := (HLOW.out.cell (p := ⟨gr, og + i, none⟩) hgl).trans q1
          go_wp2_with fail
          refine (put_in z1.heap.size y1.heap.size ca x1.n x1.c Aa x1.R ks ra x1.r wr H1.out (HSW1.out.keep HLOW.out) HW1.out (by omega) (FAR1.out _ _ (by omega))).mono ?_
          rintro e u1 ⟨rfl, hin, hy⟩
          have LOW1 := Lib.hid (HLOW.out.trans (span_below hy (show W.heap.size ≤ z1.heap.size by omega) HLOW.out.size))
          have H1au1 := Lib.hid hin
          have H2bu1 := Lib.hid (H2.out.other hy (Or.inr (by omega)))
          have H3cu1 := Lib.hid (H3.out.other hy (Or.inr (by omega)))
          have H4du1 := Lib.hid (H4.out.other hy (Or.inr (by omega)))
          clear hin hy qxu1
          have qxu2 := (LOW1.out.cell (p := ⟨gr, og + r, none⟩) hgl).trans q2
          go_wp2_with fail
          refine (put_in y1.heap.size y2.heap.size cb x2.n x2.c Ab x2.R ks rb x2.r u1 H2bu1.out (HSW2.out.keep LOW1.out) HW2.out (by omega) (FAR2.out _ _ (by omega))).mono ?_
          rintro e u2 ⟨rfl, hin, hy⟩
          have LOW2 := Lib.hid (LOW1.out.trans (span_below hy (show W.heap.size ≤ y1.heap.size by omega) LOW1.out.size))
          have H1au2 := Lib.hid (H1au1.out.other hy (Or.inl (by omega)))
          have H2bu2 := Lib.hid hin
          have H3cu2 := Lib.hid (H3cu1.out.other hy (Or.inr (by omega)))
          have H4du2 := Lib.hid (H4du1.out.other hy (Or.inr (by omega)))
          clear hin hy qxu2
          have HEA2 := Lib.hid (show addGood ks ra x1.r = ((L.take 60).take (i + 1)).filter (fun q => rowFault ks q = 0) by rw [HEA.out]; exact filt_step HX1.out)
          have HEB2 := Lib.hid (show addGood ks rb x2.r = ((L.take 60).reverse.take (i + 1)).filter (fun q => rowFault ks q = 0) by rw [HEB.out]; exact filt_step HX2.out)
          by_cases hcut : (i : Int) < cut
          · have dcut : decide ((i : Int) < cut) = true := decide_eq_true hcut
            have qxu3 := (LOW2.out.cell (p := ⟨gr, og + i, none⟩) hgl).trans q1
            go_wp2_with fail
            refine (put_in y2.heap.size y3.heap.size cc x1.n x1.c Ac x1.R ks rc x1.r u2 H3cu2.out (HSW1.out.keep LOW2.out) HW1.out (by omega) (FAR1.out _ _ (by omega))).mono ?_
            rintro e u3 ⟨rfl, hin, hy⟩
            have LOW3 := Lib.hid (LOW2.out.trans (span_below hy (show W.heap.size ≤ y2.heap.size by omega) LOW2.out.size))
            have H1au3 := Lib.hid (H1au2.out.other hy (Or.inl (by omega)))
            have H2bu3 := Lib.hid (H2bu2.out.other hy (Or.inl (by omega)))
            have H3cu3 := Lib.hid hin
            have H4du3 := Lib.hid (H4du2.out.other hy (Or.inr (by omega)))
            clear hin hy qxu3
            go_wp2_with fail
            go_roundw
            case rel =>
              have hrd : rd = [] := HLATE.out.resolve_right (by omega)
              exact ⟨i + 1, _, _, _, _, by omega, by go_num, LOW3.out, H1au3.out, H2bu3.out, H3cu3.out, H4du3.out, HEA2.out, HEB2.out, by rw [HEC.out, hrd, List.append_nil, List.append_nil], Or.inl hrd⟩
            case measure => simp [intOf]; omega
          · have dcut : decide ((i : Int) < cut) = false := decide_eq_false hcut
            have qxu3 := (LOW2.out.cell (p := ⟨gr, og + i, none⟩) hgl).trans q1
            go_wp2_with fail
            refine (put_in y3.heap.size y4.heap.size cd x1.n x1.c Ad x1.R ks rd x1.r u2 H4du2.out (HSW1.out.keep LOW2.out) HW1.out (by omega) (FAR1.out _ _ (by omega))).mono ?_
            rintro e u3 ⟨rfl, hin, hy⟩
            have LOW3 := Lib.hid (LOW2.out.trans (span_below hy (show W.heap.size ≤ y3.heap.size by omega) LOW2.out.size))
            have H1au3 := Lib.hid (H1au2.out.other hy (Or.inl (by omega)))
            have H2bu3 := Lib.hid (H2bu2.out.other hy (Or.inl (by omega)))
            have H3cu3 := Lib.hid (H3cu2.out.other hy (Or.inl (by omega)))
            have H4du3 := Lib.hid hin
            clear hin hy qxu3
            go_wp2_with fail
            go_roundw
            case rel => exact ⟨i + 1, _, _, _, _, by omega, by go_num, LOW3.out, H1au3.out, H2bu3.out, H3cu3.out, H4du3.out, HEA2.out, HEB2.out, by rw [HEC.out, addGood_append], Or.inr (by omega)⟩
            case measure => simp [intOf]; omega
        · obtain rfl : i = 60 := by omega
          have hra : ra = (L.take 60).filter (fun q => rowFault ks q = 0) := by rw [HEA.out, List.take_of_length_le (by rw [HQL.out]; exact Nat.le_refl _)]
          have hrb : rb = ra.reverse := by rw [HEB.out, List.take_of_length_le (by rw [List.length_reverse, HQL.out]; exact Nat.le_refl _), List.filter_reverse, ← hra]
          have HPB := Lib.hid (show ra.Perm rb by rw [hrb]; exact (List.reverse_perm ra).symm)
          have HPD := Lib.hid (show ra.Perm (rd ++ rc) by rw [HEC.out]; exact List.perm_append_comm)
          clear hra hrb
          obtain ⟨na, hna⟩ : ∃ na, ra.length = na := ⟨_, rfl⟩
          obtain ⟨nc, hnc⟩ : ∃ nc, rc.length = nc := ⟨_, rfl⟩
          obtain ⟨nd, hnd⟩ : ∃ nd, rd.length = nd := ⟨_, rfl⟩
          have hnb : rb.length = na := by rw [← HPB.out.length_eq, hna]
          have hne : (rd ++ rc).length = na := by rw [← HPD.out.length_eq, hna]
          have C1 := Lib.hid (fun w' hin => count_in z1.heap.size y1.heap.size ca Aa ks ra w' hin)
          have C2 := Lib.hid (fun w' hin => count_in y1.heap.size y2.heap.size cb Ab ks rb w' hin)
          have C3 := Lib.hid (fun w' hin => count_in y2.heap.size y3.heap.size cc Ac ks rc w' hin)
          have C4 := Lib.hid (fun w' hin => count_in y3.heap.size y4.heap.size cd Ad ks rd w' hin)
          have C5 := Lib.hid (fun w' hin => count_in y3.heap.size y4.heap.size cd Ad ks (rd ++ rc) w' hin)
          have R1 := Lib.hid (fun w' hin => result_in z1.heap.size y1.heap.size ca Aa ks ra w' hin (by have := HKL.out; omega))
          have R2 := Lib.hid (fun w' hin => result_in y1.heap.size y2.heap.size cb Ab ks rb w' hin (by have := HKL.out; omega))
          have R5 := Lib.hid (fun w' hin => result_in y3.heap.size y4.heap.size cd Ad ks (rd ++ rc) w' hin (by have := HKL.out; omega))
          have PB := Lib.hid (onesRes_perm ks na HNK.out H1.out.good HPB.out)
          have PD := Lib.hid (onesRes_perm ks na HNK.out H1.out.good HPD.out)
          unfold ResultSays at R1 R2 R5
          rw [hna] at C1 R1
          rw [hnb, ← PB.out] at R2
          rw [hnb] at C2
          rw [hnc] at C3
          rw [hnd] at C4
          rw [hne, ← PD.out] at R5
          rw [hne] at C5
          have J := Lib.hid (join_in y3.heap.size y4.heap.size cd y2.heap.size y3.heap.size cc Ad Ac ks rd rc wr H4.out H3.out (Or.inr (Nat.le_refl _)) (by omega) (by have := HKL.out; omega))
          have dl1 : ((na : Int) == (nc : Int) + (nd : Int)) = true := by simp; omega
          have dl2 : ((na : Int) == na) = true := by simp
          generalize onesRes (onesOf ks ra) na = res at R1 R2 R5
          obtain ⟨rk, rv⟩ := res
          have hbd : nc + nd ≤ 60 := by omega
          clear hna hnb hnc hnd hne hlc hla hlb PB PD
          go_wp2_with fail
          refine (C1.out wr H1.out).mono ?_
          rintro e u0 ⟨rfl, rfl⟩
          go_wp2_with fail
          refine (C3.out wr H3.out).mono ?_
          rintro e u0 ⟨rfl, rfl⟩
          go_wp2_with fail
          refine (C4.out wr H4.out).mono ?_
          rintro e u0 ⟨rfl, rfl⟩
          go_wp2_with fail
          refine (J.out).mono ?_
          rintro e u1 ⟨rfl, hin, hy⟩
          have LOW1 := Lib.hid (HLOW.out.trans (span_below hy (show W.heap.size ≤ y3.heap.size by omega) HLOW.out.size))
          have K1 := Lib.hid (H1.out.other hy (Or.inl (by omega)))
          have K2 := Lib.hid (H2.out.other hy (Or.inl (by omega)))
          have K5 := Lib.hid hin
          clear hin hy
          go_wp2_with fail
          refine (C1.out u1 K1.out).mono ?_
          rintro e u0 ⟨rfl, rfl⟩
          go_wp2_with fail
          refine (C2.out u1 K2.out).mono ?_
          rintro e u0 ⟨rfl, rfl⟩
          go_wp2_with fail
          refine (C5.out u1 K5.out).mono ?_
          rintro e u0 ⟨rfl, rfl⟩
          go_wp2_with fail
          refine (C1.out u1 K1.out).mono ?_
          rintro e u0 ⟨rfl, rfl⟩
          go_wp2_with fail
          refine (R1.out u1 K1.out).mono ?_
          rintro e u2 ⟨⟨T1, d1, rfl, hv, -⟩, hb⟩
          have V1 := Lib.hid hv
          have K2 := Lib.hid (K2.out.keep hb)
          have K5 := Lib.hid (K5.out.keep hb)
          have LOW2 := Lib.hid (below_step LOW1.out hb)
          clear hv hb
          go_wp2_with fail
          refine (R2.out u2 K2.out).mono ?_
          rintro e u3 ⟨⟨T2, d2, rfl, hv, -⟩, hb⟩
          have V1 := Lib.hid (V1.out.keep hb)
          have V2 := Lib.hid hv
          have K5 := Lib.hid (K5.out.keep hb)
          have LOW3 := Lib.hid (below_step LOW2.out hb)
          clear hv hb
          go_wp2_with fail
          refine (R5.out u3 K5.out).mono ?_
          rintro e u4 ⟨⟨T5, d5, rfl, hv, -⟩, hb⟩
          have V1 := Lib.hid (V1.out.keep hb)
          have V2 := Lib.hid (V2.out.keep hb)
          have V5 := Lib.hid hv
          have LOW4 := Lib.hid (below_step LOW3.out hb)
          clear hv hb
          go_wp2_with fail
          refine (sameVals_any T1 T2 rv.length d1 d2 rv u4 V1.out V2.out).mono ?_
          rintro e u5 ⟨rfl, hb⟩
          have V1 := Lib.hid (V1.out.keep hb)
          have V5 := Lib.hid (V5.out.keep hb)
          have LOW5 := Lib.hid (below_step LOW4.out hb)
          clear hb
          go_wp2_with fail
          refine (sameVals_any T1 T5 rv.length d1 d5 rv u5 V1.out V5.out).mono ?_
          rintro e u6 ⟨rfl, hb⟩
          have LOW6 := Lib.hid (below_step LOW5.out hb)
          clear hb
          by_cases hrk : rk = 0
          · rw [hrk, errV_zero]
            go_wp2_with fail
            go_quiet (fail)
            go_wp2_with fail
            go_ret
            exact ⟨rfl, below_drewN LOW6.out nq⟩
          · rw [errV_ne hrk]
            clear hrk
            go_wp2_with fail
            go_quiet (fail)
            go_wp2_with fail
            go_ret
            exact ⟨rfl, below_drewN LOW6.out nq⟩
    · have d60 : decide (60 < m) = false := decide_eq_false hm60
      have d60' : decide (60 < (m : Int)) = false := decide_eq_false (by omega)
      have HQL := Lib.hid (show (L.take m).length = m by rw [List.length_take, ← HL2.out]; unfold rowsOf; rw [List.length_map, HLH.out]; omega)
      go_wp2_with fail
      go_loopw [28] (fun v wx => ∃ (i : Nat) (ra rb rc rd : List (List Val)), i ≤ m ∧ v = .int .i64 i ∧ Below W.heap.size W wx ∧ AccIn wx z1.heap.size y1.heap.size ca Aa ks ra ∧ AccIn wx y1.heap.size y2.heap.size cb Ab ks rb ∧ AccIn wx y2.heap.size y3.heap.size cc Ac ks rc ∧ AccIn wx y3.heap.size y4.heap.size cd Ad ks rd ∧ ra = ((L.take m).take i).filter (fun q => rowFault ks q = 0) ∧ rb = ((L.take m).reverse.take i).filter (fun q => rowFault ks q = 0) ∧ ra = rc ++ rd ∧ (rd = [] ∨ cut ≤ i)) (fun v _ => m - (intOf v).toNat)
      case atStart => exact ⟨0, [], [], [], [], by omega, rfl, HBY4.out, HIa.out, HIb.out, HIc.out, HId.out, rfl, rfl, rfl, Or.inl rfl⟩
      case round =>
        obtain ⟨i, ra, rb, rc, rd, hi, rfl, hlow, h1, h2, h3, h4, hea, heb, hec, hlate⟩ := hrel
        have H1 := Lib.hid h1
        have H2 := Lib.hid h2
        have H3 := Lib.hid h3
        have H4 := Lib.hid h4
        have HEA := Lib.hid hea
        have HEB := Lib.hid heb
        have HEC := Lib.hid hec
        have HLATE := Lib.hid hlate
        have HLOW := Lib.hid hlow
        have hla : ra.length ≤ 60 := by rw [hea]; exact Nat.le_trans (filt_len ks _ i) (by omega)
        have hlb : rb.length ≤ 60 := by rw [heb]; exact Nat.le_trans (filt_len ks _ i) (by omega)
        have hlc : rc.length + rd.length = ra.length := by rw [hec, List.length_append]
        clear h1 h2 h3 h4 hea heb hec hlate hlow
        by_cases hiq : i < m
        · have him : i < m := by omega
          obtain ⟨r, hr⟩ : ∃ r : Nat, (m : Int) - 1 - (i : Int) = (r : Int) := ⟨m - 1 - i, by omega⟩
          have hrm2 : r < m := by omega
          have hrq : r = m - 1 - i := by omega
          obtain ⟨gr, og, x1, rfl, hx1, hs1, q1⟩ := HR.out.at_ him
          obtain ⟨gr', og', x2, er, hx2, hs2, q2⟩ := HR.out.at_ hrm2
          obtain ⟨rfl, rfl⟩ : gr = gr' ∧ og = og' := by injection er with er; injection er with e1 e2; exact ⟨e1, e2⟩
          have HX1 := Lib.hid (show (L.take m)[i]? = some x1.r by rw [List.getElem?_take_of_lt (by omega), ← HL2.out]; unfold rowsOf; rw [List.getElem?_map, hx1]; rfl)
          have HX2 := Lib.hid (show (L.take m).reverse[i]? = some x2.r by rw [List.getElem?_reverse (by rw [HQL.out]; exact hiq), HQL.out, ← hrq, List.getElem?_take_of_lt (by omega), ← HL2.out]; unfold rowsOf; rw [List.getElem?_map, hx2]; rfl)
          have HW1 := Lib.hid (HWF.out x1 (List.mem_of_getElem? hx1))
          have HSW1 := Lib.hid hs1
          have FAR1 := Lib.hid (show ∀ lo hi, W.heap.size ≤ lo → 0 < x1.n → ∀ ad, x1.R = some ad → ¬ Span lo hi ad.block from fun lo hi h0 h1 ad ead hsp => by obtain ⟨g9, o9, e9, h9, -⟩ := HSW1.out.2.2.2.2.2 h1; rw [ead] at e9; injection e9 with e9; rw [e9] at hsp; unfold Span at hsp; simp only at hsp; omega)
          have HW2 := Lib.hid (HWF.out x2 (List.mem_of_getElem? hx2))
          have HSW2 := Lib.hid hs2
          have FAR2 := Lib.hid (show ∀ lo hi, W.heap.size ≤ lo → 0 < x2.n → ∀ ad, x2.R = some ad → ¬ Span lo hi ad.block from fun lo hi h0 h1 ad ead hsp => by obtain ⟨g9, o9, e9, h9, -⟩ := HSW2.out.2.2.2.2.2 h1; rw [ead] at e9; injection e9 with e9; rw [e9] at hsp; unfold Span at hsp; simp only at hsp; omega)
          have hgl : gr < W.heap.size := World.block_lt_of_cell? W _ q1
          clear hx1 hx2 hs1 hs2 er hrq
          have qxu1 := (HLOW.out.cell (p := ⟨gr, og + i, none⟩) hgl).trans q1
          go_wp2_with fail
          refine (put_in z1.heap.size y1.heap.size ca x1.n x1.c Aa x1.R ks ra x1.r wr H1.out (HSW1.out.keep HLOW.out) HW1.out (by omega) (FAR1.out _ _ (by omega))).mono ?_
          rintro e u1 ⟨rfl, hin, hy⟩
          have LOW1 := Lib.hid (HLOW.out.trans (span_below hy (show W.heap.size ≤ z1.heap.size by omega) HLOW.out.size))
          have H1au1 := Lib.hid hin
          have H2bu1 := Lib.hid (H2.out.other hy (Or.inr (by omega)))
          have H3cu1 := Lib.hid (H3.out.other hy (Or.inr (by omega)))
          have H4du1 := Lib.hid (H4.out.other hy (Or.inr (by omega)))
          clear hin hy qxu1
          have qxu2 := (LOW1.out.cell (p := ⟨gr, og + r, none⟩) hgl).trans q2
          go_wp2_with fail
          refine (put_in y1.heap.size y2.heap.size cb x2.n x2.c Ab x2.R ks rb x2.r u1 H2bu1.out (HSW2.out.keep LOW1.out) HW2.out (by omega) (FAR2.out _ _ (by omega))).mono ?_
          rintro e u2 ⟨rfl, hin, hy⟩
          have LOW2 := Lib.hid (LOW1.out.trans (span_below hy (show W.heap.size ≤ y1.heap.size by omega) LOW1.out.size))
          have H1au2 := Lib.hid (H1au1.out.other hy (Or.inl (by omega)))
          have H2bu2 := Lib.hid hin
          have H3cu2 := Lib.hid (H3cu1.out.other hy (Or.inr (by omega)))
          have H4du2 := Lib.hid (H4du1.out.other hy (Or.inr (by omega)))
          clear hin hy qxu2
          have HEA2 := Lib.hid (show addGood ks ra x1.r = ((L.take m).take (i + 1)).filter (fun q => rowFault ks q = 0) by rw [HEA.out]; exact filt_step HX1.out)
          have HEB2 := Lib.hid (show addGood ks rb x2.r = ((L.take m).reverse.take (i + 1)).filter (fun q => rowFault ks q = 0) by rw [HEB.out]; exact filt_step HX2.out)
          by_cases hcut : (i : Int) < cut
          · have dcut : decide ((i : Int) < cut) = true := decide_eq_true hcut
            have qxu3 := (LOW2.out.cell (p := ⟨gr, og + i, none⟩) hgl).trans q1
            go_wp2_with fail
            refine (put_in y2.heap.size y3.heap.size cc x1.n x1.c Ac x1.R ks rc x1.r u2 H3cu2.out (HSW1.out.keep LOW2.out) HW1.out (by omega) (FAR1.out _ _ (by omega))).mono ?_
            rintro e u3 ⟨rfl, hin, hy⟩
            have LOW3 := Lib.hid (LOW2.out.trans (span_below hy (show W.heap.size ≤ y2.heap.size by omega) LOW2.out.size))
            have H1au3 := Lib.hid (H1au2.out.other hy (Or.inl (by omega)))
            have H2bu3 := Lib.hid (H2bu2.out.other hy (Or.inl (by omega)))
            have H3cu3 := Lib.hid hin
            have H4du3 := Lib.hid (H4du2.out.other hy (Or.inr (by omega)))
            clear hin hy qxu3
            go_wp2_with fail
            go_roundw
            case rel =>
              have hrd : rd = [] := HLATE.out.resolve_right (by omega)
              exact ⟨i + 1, _, _, _, _, by omega, by go_num, LOW3.out, H1au3.out, H2bu3.out, H3cu3.out, H4du3.out, HEA2.out, HEB2.out, by rw [HEC.out, hrd, List.append_nil, List.append_nil], Or.inl hrd⟩
            case measure => simp [intOf]; omega
          · have dcut : decide ((i : Int) < cut) = false := decide_eq_false hcut
            have qxu3 := (LOW2.out.cell (p := ⟨gr, og + i, none⟩) hgl).trans q1
            go_wp2_with fail
            refine (put_in y3.heap.size y4.heap.size cd x1.n x1.c Ad x1.R ks rd x1.r u2 H4du2.out (HSW1.out.keep LOW2.out) HW1.out (by omega) (FAR1.out _ _ (by omega))).mono ?_
            rintro e u3 ⟨rfl, hin, hy⟩
            have LOW3 := Lib.hid (LOW2.out.trans (span_below hy (show W.heap.size ≤ y3.heap.size by omega) LOW2.out.size))
            have H1au3 := Lib.hid (H1au2.out.other hy (Or.inl (by omega)))
            have H2bu3 := Lib.hid (H2bu2.out.other hy (Or.inl (by omega)))
            have H3cu3 := Lib.hid (H3cu2.out.other hy (Or.inl (by omega)))
            have H4du3 := Lib.hid hin
            clear hin hy qxu3
            go_wp2_with fail
            go_roundw
            case rel => exact ⟨i + 1, _, _, _, _, by omega, by go_num, LOW3.out, H1au3.out, H2bu3.out, H3cu3.out, H4du3.out, HEA2.out, HEB2.out, by rw [HEC.out, addGood_append], Or.inr (by omega)⟩
            case measure => simp [intOf]; omega
        · obtain rfl : m = i := by omega
          have hra : ra = (L.take m).filter (fun q => rowFault ks q = 0) := by rw [HEA.out, List.take_of_length_le (by rw [HQL.out]; exact Nat.le_refl _)]
          have hrb : rb = ra.reverse := by rw [HEB.out, List.take_of_length_le (by rw [List.length_reverse, HQL.out]; exact Nat.le_refl _), List.filter_reverse, ← hra]
          have HPB := Lib.hid (show ra.Perm rb by rw [hrb]; exact (List.reverse_perm ra).symm)
          have HPD := Lib.hid (show ra.Perm (rd ++ rc) by rw [HEC.out]; exact List.perm_append_comm)
          clear hra hrb
          obtain ⟨na, hna⟩ : ∃ na, ra.length = na := ⟨_, rfl⟩
          obtain ⟨nc, hnc⟩ : ∃ nc, rc.length = nc := ⟨_, rfl⟩
          obtain ⟨nd, hnd⟩ : ∃ nd, rd.length = nd := ⟨_, rfl⟩
          have hnb : rb.length = na := by rw [← HPB.out.length_eq, hna]
          have hne : (rd ++ rc).length = na := by rw [← HPD.out.length_eq, hna]
          have C1 := Lib.hid (fun w' hin => count_in z1.heap.size y1.heap.size ca Aa ks ra w' hin)
          have C2 := Lib.hid (fun w' hin => count_in y1.heap.size y2.heap.size cb Ab ks rb w' hin)
          have C3 := Lib.hid (fun w' hin => count_in y2.heap.size y3.heap.size cc Ac ks rc w' hin)
          have C4 := Lib.hid (fun w' hin => count_in y3.heap.size y4.heap.size cd Ad ks rd w' hin)
          have C5 := Lib.hid (fun w' hin => count_in y3.heap.size y4.heap.size cd Ad ks (rd ++ rc) w' hin)
          have R1 := Lib.hid (fun w' hin => result_in z1.heap.size y1.heap.size ca Aa ks ra w' hin (by have := HKL.out; omega))
          have R2 := Lib.hid (fun w' hin => result_in y1.heap.size y2.heap.size cb Ab ks rb w' hin (by have := HKL.out; omega))
          have R5 := Lib.hid (fun w' hin => result_in y3.heap.size y4.heap.size cd Ad ks (rd ++ rc) w' hin (by have := HKL.out; omega))
          have PB := Lib.hid (onesRes_perm ks na HNK.out H1.out.good HPB.out)
          have PD := Lib.hid (onesRes_perm ks na HNK.out H1.out.good HPD.out)
          unfold ResultSays at R1 R2 R5
          rw [hna] at C1 R1
          rw [hnb, ← PB.out] at R2
          rw [hnb] at C2
          rw [hnc] at C3
          rw [hnd] at C4
          rw [hne, ← PD.out] at R5
          rw [hne] at C5
          have J := Lib.hid (join_in y3.heap.size y4.heap.size cd y2.heap.size y3.heap.size cc Ad Ac ks rd rc wr H4.out H3.out (Or.inr (Nat.le_refl _)) (by omega) (by have := HKL.out; omega))
          have dl1 : ((na : Int) == (nc : Int) + (nd : Int)) = true := by simp; omega
          have dl2 : ((na : Int) == na) = true := by simp
          generalize onesRes (onesOf ks ra) na = res at R1 R2 R5
          obtain ⟨rk, rv⟩ := res
          have hbd : nc + nd ≤ 60 := by omega
          clear hna hnb hnc hnd hne hlc hla hlb PB PD
          go_wp2_with fail
          refine (C1.out wr H1.out).mono ?_
          rintro e u0 ⟨rfl, rfl⟩
          go_wp2_with fail
          refine (C3.out wr H3.out).mono ?_
          rintro e u0 ⟨rfl, rfl⟩
          go_wp2_with fail
          refine (C4.out wr H4.out).mono ?_
          rintro e u0 ⟨rfl, rfl⟩
          go_wp2_with fail
          refine (J.out).mono ?_
          rintro e u1 ⟨rfl, hin, hy⟩
          have LOW1 := Lib.hid (HLOW.out.trans (span_below hy (show W.heap.size ≤ y3.heap.size by omega) HLOW.out.size))
          have K1 := Lib.hid (H1.out.other hy (Or.inl (by omega)))
          have K2 := Lib.hid (H2.out.other hy (Or.inl (by omega)))
          have K5 := Lib.hid hin
          clear hin hy
          go_wp2_with fail
          refine (C1.out u1 K1.out).mono ?_
          rintro e u0 ⟨rfl, rfl⟩
          go_wp2_with fail
          refine (C2.out u1 K2.out).mono ?_
          rintro e u0 ⟨rfl, rfl⟩
          go_wp2_with fail
          refine (C5.out u1 K5.out).mono ?_
          rintro e u0 ⟨rfl, rfl⟩
          go_wp2_with fail
          refine (C1.out u1 K1.out).mono ?_
          rintro e u0 ⟨rfl, rfl⟩
          go_wp2_with fail
          refine (R1.out u1 K1.out).mono ?_
          rintro e u2 ⟨⟨T1, d1, rfl, hv, -⟩, hb⟩
          have V1 := Lib.hid hv
          have K2 := Lib.hid (K2.out.keep hb)
          have K5 := Lib.hid (K5.out.keep hb)
          have LOW2 := Lib.hid (below_step LOW1.out hb)
          clear hv hb
          go_wp2_with fail
          refine (R2.out u2 K2.out).mono ?_
          rintro e u3 ⟨⟨T2, d2, rfl, hv, -⟩, hb⟩
          have V1 := Lib.hid (V1.out.keep hb)
          have V2 := Lib.hid hv
          have K5 := Lib.hid (K5.out.keep hb)
          have LOW3 := Lib.hid (below_step LOW2.out hb)
          clear hv hb
          go_wp2_with fail
          refine (R5.out u3 K5.out).mono ?_
          rintro e u4 ⟨⟨T5, d5, rfl, hv, -⟩, hb⟩
          have V1 := Lib.hid (V1.out.keep hb)
          have V2 := Lib.hid (V2.out.keep hb)
          have V5 := Lib.hid hv
          have LOW4 := Lib.hid (below_step LOW3.out hb)
          clear hv hb
          go_wp2_with fail
          refine (sameVals_any T1 T2 rv.length d1 d2 rv u4 V1.out V2.out).mono ?_
          rintro e u5 ⟨rfl, hb⟩
          have V1 := Lib.hid (V1.out.keep hb)
          have V5 := Lib.hid (V5.out.keep hb)
          have LOW5 := Lib.hid (below_step LOW4.out hb)
          clear hb
          go_wp2_with fail
          refine (sameVals_any T1 T5 rv.length d1 d5 rv u5 V1.out V5.out).mono ?_
          rintro e u6 ⟨rfl, hb⟩
          have LOW6 := Lib.hid (below_step LOW5.out hb)
          clear hb
          by_cases hrk : rk = 0
          · rw [hrk, errV_zero]
            go_wp2_with fail
            go_quiet (fail)
            go_wp2_with fail
            go_ret
            exact ⟨rfl, below_drewN LOW6.out nq⟩
          · rw [errV_ne hrk]
            clear hrk
            go_wp2_with fail
            go_quiet (fail)
            go_wp2_with fail
            go_ret
            exact ⟨rfl, below_drewN LOW6.out nq⟩
  · have HNO := Lib.hid (fun w' (hb : Below W.heap.size W w') => new_no (HL.out.keep hb) (HT.out.keep hb) hk0 hz)
    clear hk0 hz
    go_wp2_with fail
    refine (HNO.out z1 HBZ.out).mono ?_
    rintro e z2 ⟨rfl, hb⟩
    have HBZ2 := Lib.hid (below_step HBZ.out hb)
    clear hb
    go_wp2_with fail
    refine (HNO.out z2 HBZ2.out).mono ?_
    rintro e z3 ⟨rfl, hb⟩
    have HBZ3 := Lib.hid (below_step HBZ2.out hb)
    clear hb
    go_wp2_with fail
    refine (HNO.out z3 HBZ3.out).mono ?_
    rintro e z4 ⟨rfl, hb⟩
    have HBZ4 := Lib.hid (below_step HBZ3.out hb)
    clear hb
    go_wp2_with fail
    refine (HNO.out z4 HBZ4.out).mono ?_
    rintro e z5 ⟨rfl, hb⟩
    have HBZ5 := Lib.hid (below_step HBZ4.out hb)
    clear hb
    go_wp2_with fail
    go_ret
    exact ⟨rfl, HBZ5.out⟩

set_option maxRecDepth 100000 in
theorem contract (H : Type) (enc : TypeId × Value → H) (W : World) (base : Nat) (args : Array Value) (ds gs : List (DataW H)) (before : List MemPlace)
    (hval : ∀ (j : Nat) t v, Tryd.f4.params[j]? = some t → args[j]? = some v → Value.okWide Tryd.prog W .any base t v)
    (hW : DataW.Whole enc Tryd.prog Tryd.f4.params.toList Rows.aggAnySpec.vars false W args.toList ds gs before)
    (hsz : (DataW.weightsEach Tryd.prog (Tryd.f4.params.toList ++ (OpenSpec.ofChange Rows.aggAnySpec).bare.plain.varTypes Tryd.prog) (ds ++ gs)).all (· ≤ reachBytes) = true) (hL : laidMetH Tryd.prog Rows.aggAnyRow.laid W) :
    Calls Tryd.prog 4 args W fun e W' => ∃ v, e = .returned v ∧ Rows.aggAnySpec.post enc Tryd.prog Tryd.f4 false true false false W args v W' := by
  have hW' := hW
  obtain ⟨p, q, hA0, hV, rfl, hfz, hnd⟩ := hW
  have hA : DataW.TrodAll enc Tryd.prog W 0 (fun _ => true) true Tryd.f4.params.toList args.toList ds p := hA0
  rw [Tryd.params4] at hA hval
  obtain ⟨v0, vs0, d0, ds0, p0, q0, hargs, rfl, rfl, h0, r0⟩ := trodAll_cons hA
  obtain ⟨v1, vs1, d1, ds1, p1, q1, rfl, rfl, rfl, h1, r1⟩ := trodAll_cons r0
  obtain ⟨v2, vs2, d2, ds2, p2, q2, rfl, rfl, rfl, h2, r2⟩ := trodAll_cons r1
  obtain ⟨v3, vs3, d3, ds3, p3, q3, rfl, rfl, rfl, h3, r3⟩ := trodAll_cons r2
  obtain ⟨rfl, rfl, rfl⟩ := trodAll_nil r3
  obtain rfl : args = #[v0, v1, v2, v3] := by cases args; simp_all
  obtain ⟨rfl, rfl⟩ := trodVars_none hV
  have hv0 := hval 0 22 v0 rfl rfl
  have hv1 := hval 1 23 v1 rfl rfl
  have hv2 := hval 2 24 v2 rfl rfl
  obtain ⟨a3, rfl, rfl, rfl, w3⟩ := open_int Tryd.underlying3 (hval 3 3 v3 rfl rfl) h3
  obtain ⟨A0, n, c, l, rfl, hl⟩ := open_aggs (okWide_slice Tryd.underlying22 hv0) h0
  obtain ⟨T0, tn, tc, ts, rfl, ht, _⟩ := open_ints (okWide_slice Tryd.underlying23 hv1) h1
  obtain ⟨R0, m, rcap, hs, rfl, hR, hw⟩ := open_rows (okWide_slice Tryd.underlying24 hv2) h2
  refine (walk A0 T0 R0 n c tn tc m rcap a3 l ts hs W (errT_of_laid hL) hl ht hR hw).mono fun e W' ⟨he, hb⟩ => ?_
  subst he
  exact ⟨_, rfl, law_post laidOut Tryd.underlying4 (by kernel_rfl) rfl (by rw [Tryd.params4]; intro t ht; simp only [List.mem_cons, List.not_mem_nil, or_false] at ht; rcases ht with rfl | rfl | rfl | rfl; all_goals exact ⟨by kernel_rfl, of_decide_eq_true (by kernel_rfl)⟩) hW' rfl hb⟩

theorem reads (os : Os) {H : Type} (enc : TypeId × Value → H) : ∃ places, DataW.whole enc Tryd.prog ((laidWorld_err os).forCall (fun _ _ => 0) ⟨#[], #[.slice none 0 0, .slice none 0 0, .slice none 0 0, .int .i64 0], []⟩).memory Tryd.f4.params.toList Rows.aggAnySpec.vars false (#[.slice none 0 0, .slice none 0 0, .slice none 0 0, .int .i64 0] : Array Value).toList 8 = some ([.nil, .nil, .nil, .lit (.int .i64 0)], [], places) :=
  ⟨[], by kernel_rfl⟩

set_option maxRecDepth 100000 in
theorem lifted (os : Os) (started : os.Started) (H : Type) (enc : TypeId × Value → H) (F : Stop.Interp) :
    ReturnsInHanded {} Tryd.checked os 4 .any ((OpenSpec.ofChange Rows.aggAnySpec).preRow enc Tryd.prog Tryd.f4 Rows.aggAnyRow.domain false Rows.aggAnyRow.laid) (((OpenSpec.ofChange Rows.aggAnySpec).at F).post enc Tryd.prog Tryd.f4 false true false false) := by
  obtain ⟨places, hx⟩ := reads os enc
  refine returnsInHanded_of_row (C := Tryd.checked) (s := OpenSpec.ofChange Rows.aggAnySpec) own started (by kernel_rfl) Tryd.func4
    (witness_row_at (enc := enc) (C := Tryd.checked) false (laidWorld_err os) #[.slice none 0 0, .slice none 0 0, .slice none 0 0, .int .i64 0] rfl (by kernel_rfl) (by kernel_rfl) (by kernel_rfl)
      (OpenSpec.preRow_of_cond 8 hx (by kernel_rfl) (fun k hk => by cases hk) (by kernel_rfl) (laid_met_err os _))) ?_
  intro W base args ds gs before hval hW _ _ hsz hL _ _
  exact contract H enc W base args ds gs before hval hW hsz hL

theorem said : Rows.AggAnySaid :=
  OpenClaim.holds_of_cond 4 Tryd.f4 rfl rfl rfl rfl rfl rfl rfl ⟨rfl, rfl, rfl, rfl, rfl⟩ rfl rfl rfl rfl rfl (by kernel_rfl) Tryd.func4 (by kernel_rfl)
    (of_decide_eq_true (by kernel_rfl)) (by unfold Func.isWrapper; first | (rw [if_pos (by decide +kernel)]; kernel_rfl) | (rw [if_neg (by decide +kernel)]; exact ⟨rfl, rfl⟩))
    (fun os started H enc _ F => by rw [OpenClaim.pre_eq_preRow]; exact lifted os started H enc F)

theorem plain (f : FuncId) (fn : Func) (hf : Tryd.pinned.checked.prog.funcNamed "sluicebook/sluicelaw2.AggAny" = some f) (hfn : Tryd.pinned.checked.prog.funcs[f]? = some fn) :
    true = Tryd.pinned.checked.prog.looks [] ∧ ∀ (j : Nat) t, fn.params[j]? = some t → Tryd.pinned.checked.prog.wantsStandIn t = false := by
  obtain rfl : f = 4 := Option.some.inj ((show Tryd.prog.funcNamed "sluicebook/sluicelaw2.AggAny" = some 4 by kernel_rfl).symm.trans hf) |>.symm
  obtain rfl : fn = Tryd.f4 := (Option.some.inj (Tryd.func4.symm.trans hfn)).symm
  refine ⟨by kernel_rfl, fun j t ht => ?_⟩
  rw [Tryd.params4] at ht
  have hm := Array.mem_of_getElem? ht
  simp only [List.mem_toArray, List.mem_cons, List.not_mem_nil, or_false] at hm
  rcases hm with rfl | rfl | rfl | rfl
  · exact (show Tryd.prog.wantsStandIn 22 = false by kernel_rfl)
  · exact (show Tryd.prog.wantsStandIn 23 = false by kernel_rfl)
  · exact (show Tryd.prog.wantsStandIn 24 = false by kernel_rfl)
  · exact (show Tryd.prog.wantsStandIn 3 = false by kernel_rfl)

theorem card : Rows.AggAnyCardSaid :=
  Claim7.holds_tied_plain_at .later [] _ _ _ _ said (fun _ h => by cases h) (by kernel_rfl) (fun _ h => by cases h) aggAny_row_tie rfl ⟨rfl, rfl⟩ (by kernel_rfl) rfl plain (by kernel_rfl)
#print axioms card
end Go.Proofs.YtfdihajhhadidaaDoor.aggAny
