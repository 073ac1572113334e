/- sluiceref2.Total, walked, of rows that are right. -/
import Derived.Test.YtfdihajhhadidaaDoorTotLaw
import Derived.Test.YtfdihajhhadidaaDoorRefOrder
import Derived.Test.YtfdihajhhadidaaDoorSplitParts
import Derived.Test.YtfdihajhhadidaaDoorAggJoin
import Derived.StillTailTactics
namespace Go.Proofs.YtfdihajhhadidaaDoor
open Go.ChangeShapes Go.WideShapes Go.ChangeAt Go.RowKit

def rowsOf (hs : List RowH) : List (List Val) := hs.map (·.r)
theorem row_val {w : World} {R : Option Addr} {m rc n : Nat} {hs : List RowH} (h : SeesRows w R m rc hs) (hq : ∀ x ∈ hs, x.n = n) {k j : Nat} (hk : k < m) (hj : j < n) :
    ∃ g o x g2 o2 v, R = some ⟨g, o, none⟩ ∧ x ∈ hs ∧ x.R = some ⟨g2, o2, none⟩ ∧ n ≤ x.c ∧ w.cell? ⟨g, o + k, none⟩ = some (.slice (some ⟨g2, o2, none⟩) n x.c) ∧ (colAt j (rowsOf hs))[k]? = some v ∧ v ∈ x.r ∧
      w.cell? ⟨g2, o2 + j * 3, none⟩ = some (.int .i64 v.type) ∧ w.cell? ⟨g2, o2 + j * 3 + 1, none⟩ = some (.int .i64 v.n) ∧ w.cell? ⟨g2, o2 + j * 3 + 2, none⟩ = some (.string v.s) := by
  obtain ⟨g, o, x, rfl, hx, hs1, hc⟩ := h.at_ hk
  have hm := List.mem_of_getElem? hx
  have hxn := hq x hm
  obtain ⟨g2, o2, v, e, -, hv, a0, a1, a2⟩ := hs1.at_ (k := j) (by omega)
  refine ⟨g, o, x, g2, o2, v, rfl, hm, e, by have := hs1.2.2.1; omega, by rw [hc, e, hxn], ?_, List.mem_of_getElem? hv, a0, a1, a2⟩
  exact colAt_at (by unfold rowsOf; rw [List.getElem?_map, hx]; rfl) hv
def TotSays (l : List One) (n : Nat) (w : World) (e : Ending) (w' : World) : Prop :=
  (∃ A' c', e = .returned (.tuple #[.slice A' (onesRes l n).2.length c', .int .i64 (onesRes l n).1]) ∧ SeesVals w' A' (onesRes l n).2.length c' (onesRes l n).2) ∧ Below w.heap.size w w'
theorem word_facts {k : Kd} : (isCount k.what ∧ (k.what.toList == [99, 111, 117, 110, 116]) = true) ∨
    (¬ isCount k.what ∧ (k.what.toList == [99, 111, 117, 110, 116]) = false ∧ ((isSum k.what ∧ (k.what.toList == [115, 117, 109]) = true) ∨
      (¬ isSum k.what ∧ (k.what.toList == [115, 117, 109]) = false ∧ ∃ bl bm, isLeast k.what = bl ∧ isMost k.what = bm ∧ (k.what.toList == [108, 101, 97, 115, 116]) = bl ∧ (k.what.toList == [109, 111, 115, 116]) = bm ∧ (bl = true → bm = false)))) := by
  rw [Lib.toList_data]
  by_cases hc : isCount k.what
  · left; exact ⟨hc, by unfold isCount at hc; rw [hc]; rfl⟩
  · right
    refine ⟨hc, beq_eq_false_iff_ne.2 hc, ?_⟩
    by_cases hs : isSum k.what
    · left; exact ⟨hs, by unfold isSum at hs; rw [hs]; rfl⟩
    · right
      exact ⟨hs, beq_eq_false_iff_ne.2 hs, _, _, rfl, rfl, rfl, rfl, least_not_most⟩
set_option maxHeartbeats 4000000 in
set_option maxRecDepth 100000 in
theorem total_any (A0 R0 : Option Addr) (n c m rc : Nat) (l : List AggH) (ts : List Int) (hs : List RowH) (w : World) (hl : SeesAggs w A0 n c l) (hR : SeesRows w R0 m rc hs) (hq : ∀ x ∈ hs, x.n = n)
    (hts : ts.length = l.length) (hg : goodFor (kdsOf l ts) (rowsOf hs)) (hfit : ∀ x ∈ hs, ∀ v ∈ x.r, v.wf) (hm : m ≤ 1000) (hn : n ≤ 1000) :
    Calls Tryd.prog 16 #[.slice A0 n c, .slice R0 m rc] w (TotSays (onesOf (kdsOf l ts) (rowsOf hs)) m w) := by
  have HL := Lib.hid hl
  have HR := Lib.hid hR
  have HQ := Lib.hid hq
  have HF := Lib.hid hfit
  have hcap := hl.2.2.1
  have hmax := hl.2.2.2.1
  have hrc := hR.1.2.1
  have hrm := hR.1.2.2.1
  unfold maxLen at hmax hrm
  have HKD := Lib.hid (fun (j : Nat) (x : AggH) (t : Int) (h1 : l[j]? = some x) (h2 : ts[j]? = some t) => kdsOf_at h1 h2)
  have HG := Lib.hid hg
  have HTL := Lib.hid (show ts.length = n by rw [hts]; exact hl.1)
  have HCL := Lib.hid (fun j => (colAt_len j (rowsOf hs)).trans (show (rowsOf hs).length = m by unfold rowsOf; rw [List.length_map]; exact hR.len))
  generalize hO : onesOf (kdsOf l ts) (rowsOf hs) = O
  have HOL := Lib.hid (show O.length = n by rw [← hO, onesOf_length, kdsOf_length hts]; exact hl.1)
  have HO := Lib.hid hO
  clear hl hR hq hfit hg hts hO
  go_enter Tryd.func16, Tryd.ntmps16
  go_wp2_with fail
  go_loopw [6, 7] (fun v i wr => ∃ (j : Nat) (acc : List Val), j ≤ n ∧ i = .int .i64 j ∧ acc.length = j ∧ wr.ownsRow w.heap.size 26 3 v j (valsCells acc) ∧ Below w.heap.size w wr ∧ onesRes O m = resWith acc (onesRes (O.drop j) m)) (fun _ i _ => n - (intOf i).toNat)
  case atStart => exact ⟨0, [], by omega, rfl, rfl, World.ownsRow_nil _ _ _ _, Below.refl _ _, by rw [List.drop_zero, resWith_start]⟩
  case round =>
    obtain ⟨j, acc, hj, rfl, hal, hown, hb, hres⟩ := hrel
    obtain ⟨vA, vC, hvv⟩ := own_shape hown
    have HV0 := Lib.hid hvv
    have HOW := Lib.hid hown
    have HBR := Lib.hid hb
    have HRES := Lib.hid hres
    have HAL := Lib.hid hal
    have hwr := hb.size
    clear hres hal hvv
    by_cases hlj : j < n
    · obtain ⟨ga, oa, x, rfl, -, hx, a0, -⟩ := (HL.out.keep hb).at_ hlj
      obtain ⟨t, ht⟩ : ∃ t, ts[j]? = some t := ⟨_, List.getElem?_eq_getElem (by rw [HTL.out]; exact hlj)⟩
      have hk := HKD.out j x t hx ht
      have HGA := Lib.hid (goodFor_at HG.out hk)
      have hO1 : O[j]? = some (oneAt ⟨x.what, t⟩ (colAt j (rowsOf hs))) := by rw [← HO.out]; exact onesOf_at hk
      have HER := Lib.hid (onesRes_err (n := m) hO1)
      have HOK := Lib.hid (onesRes_ok (n := m) hO1)
      have hwf := word_facts (k := ⟨x.what, t⟩)
      clear hx ht hk hO1
      have HCJ := Lib.hid (HCL.out j)
      have ROW := Lib.hid (fun (k : Nat) (hk : k < m) (w' : World) (hb' : Below w.heap.size w w') => row_val (HR.out.keep hb') HQ.out hk hlj)
      generalize hcol : colAt j (rowsOf hs) = col at *
      rcases hwf with ⟨hc, e1⟩ | ⟨hc, e1, ⟨hsu, e2⟩ | ⟨hsu, e2, bl, bm, hbl, hbm, e3, e4, hlm⟩⟩
      · have E := Lib.hid (oneRes_count hc col m)
        clear hc hcol
        go_wp2_with (first
            | (at_builtin; refine wpList_append_one valSlice' rfl _ _ rfl rfl rfl hown hb (Nat.le_refl _) rfl (by intro u hu; simp at hu; rcases hu with rfl | rfl | rfl <;> rfl) (by omega) ?_; intro v1 w6 hown6 hb6 _))
        go_roundw
        case rel => exact ⟨j + 1, acc ++ [ofV m], by omega, by go_num, by simp [HAL.out], by rw [valsCells_more]; exact hown6, hb6, by rw [HRES.out, HOK.out (by rw [E.out]), E.out]; exact resWith_ok _ _ _⟩
        case measure => simp [intOf]; omega
      · have E := Lib.hid (oneRes_sum hc hsu col m)
        have HOWN := Lib.hid hown
        clear hc hsu hcol hown
        go_wp2_with fail
        go_loopw [8, 9, 10] (fun u v i wx => ∃ (H L : Int) (k : Nat), u = .int .i64 H ∧ v = .int .i64 L ∧ i = .int .i64 k ∧ k ≤ m ∧ Halves (sumN (col.take k)) H L k ∧ wx = wr) (fun _ _ i _ => m - (intOf i).toNat)
        case atStart => exact ⟨0, 0, 0, rfl, rfl, rfl, by omega, Halves.zero, rfl⟩
        case round =>
          obtain ⟨H, L, k, rfl, rfl, rfl, hk, hH, rfl⟩ := hrel
          have HH := Lib.hid hH
          by_cases hkm : k < m
          · obtain ⟨gr, og, xr, g2, o2, v, rfl, hxm, -, hxc, b0, hv, hvm, c0, c1, c2⟩ := ROW.out k hkm wr hb
            have hvf := (HF.out xr hxm v hvm).2.1
            have HST := Lib.hid (hH.step hvf)
            have HT := Lib.hid (sumN_take hv)
            have hpar := tparts v.n hvf
            obtain ⟨f0, f1, f2, f3, f4⟩ := hpar
            obtain ⟨-, p1, p2, q1, q2⟩ := hH
            clear hvf hv hvm hxm hb
            go_wp2_with fail
            go_roundw
            case rel => exact ⟨_, _, k + 1, rfl, rfl, by go_num, by omega, HT.out ▸ HST.out, trivial⟩
            case measure => simp [intOf]; omega
          · obtain rfl : k = m := by omega
            obtain ⟨H', L', hH', hL', p1, p2, q1, q2, hsum⟩ := hH.done hm
            obtain ⟨-, r1, r2, r3, r4⟩ := hH
            have HSU := Lib.hid (show sumN col = H' * 4294967296 + L' by rw [hsum, List.take_of_length_le (by rw [HCJ.out]; exact Nat.le_refl _)])
            have HTD := Lib.hid hH'
            have t1 := Int.tmod_add_mul_tdiv L 4294967296
            have t2 : -4294967296 ≤ L.tdiv 4294967296 ∧ L.tdiv 4294967296 ≤ 4294967296 := by omega
            obtain ⟨t2, t3⟩ := t2
            clear hsum t1
            by_cases hneg : L' < 0
            · have HFI := Lib.hid (half_fits (s := sumN col) (H := H' - 1) (L := L' + 4294967296) (by omega) (by omega) (by have := HSU.out; omega))
              rw [← hL'] at hneg
              have d0 : decide (L.tmod 4294967296 < 0) = true := decide_eq_true hneg
              rw [← hH'] at HFI
              have HVS := Lib.hid (show sumN col = ((H + L.tdiv 4294967296 - 1) * 4294967296 + (L.tmod 4294967296 + 4294967296)) by have := HSU.out; omega)
              by_cases hlo : (H + L.tdiv 4294967296 - 1) < -2147483648
              · have d1 : decide ((H + L.tdiv 4294967296 - 1) < -2147483648) = true := decide_eq_true hlo
                have E9 := Lib.hid (E.out.trans (if_neg (fun h => absurd (HFI.out.1 h).1 (by omega))))
                have HRO := Lib.hid (show onesRes O k = (9, []) from HRES.out.trans ((congrArg (resWith acc) (HER.out (by rw [E9.out]; decide))).trans (by rw [E9.out]; exact resWith_err (by decide))))
                go_wp2_with fail
                go_ret2
                refine ⟨⟨none, 0, ?_, ?_⟩, HBR.out⟩
                · rw [HRO.out]; rfl
                · rw [HRO.out]; exact ⟨rfl, Sees.nil _ 3⟩
              · have d1 : decide ((H + L.tdiv 4294967296 - 1) < -2147483648) = false := decide_eq_false hlo
                by_cases hhi : 2147483647 < (H + L.tdiv 4294967296 - 1)
                · have d2 : decide (2147483647 < (H + L.tdiv 4294967296 - 1)) = true := decide_eq_true hhi
                  have E9 := Lib.hid (E.out.trans (if_neg (fun h => absurd (HFI.out.1 h).2 (by omega))))
                  have HRO := Lib.hid (show onesRes O k = (9, []) from HRES.out.trans ((congrArg (resWith acc) (HER.out (by rw [E9.out]; decide))).trans (by rw [E9.out]; exact resWith_err (by decide))))
                  go_wp2_with fail
                  go_ret2
                  refine ⟨⟨none, 0, ?_, ?_⟩, HBR.out⟩
                  · rw [HRO.out]; rfl
                  · rw [HRO.out]; exact ⟨rfl, Sees.nil _ 3⟩
                · have d2 : decide (2147483647 < (H + L.tdiv 4294967296 - 1)) = false := decide_eq_false hhi
                  have hown := HOWN.out
                  have E9 := Lib.hid (E.out.trans (if_pos (HFI.out.2 ⟨by omega, by omega⟩)))
                  go_wp2_with (first
                    | (at_builtin; refine wpList_append_one valSlice' rfl _ _ rfl rfl rfl hown hb (Nat.le_refl _) rfl (by intro u hu; simp at hu; rcases hu with rfl | rfl | rfl <;> rfl) (by omega) ?_; intro v1 w6 hown6 hb6 _))
                  go_roundw
                  case rel => exact ⟨j + 1, acc ++ [ofV (sumN col)], by omega, by go_num, by simp [HAL.out], by rw [valsCells_more, HVS.out, hH', hL']; exact hown6, hb6, by rw [HRES.out, HOK.out (by rw [E9.out]), E9.out]; exact resWith_ok _ _ _⟩
                  case measure => simp [intOf]; omega
            · have HFI := Lib.hid (half_fits (s := sumN col) (H := H') (L := L') (by omega) (by omega) (by have := HSU.out; omega))
              rw [← hL'] at hneg
              have d0 : decide (L.tmod 4294967296 < 0) = false := decide_eq_false hneg
              rw [← hH'] at HFI
              have HVS := Lib.hid (show sumN col = ((H + L.tdiv 4294967296) * 4294967296 + L.tmod 4294967296) by have := HSU.out; omega)
              by_cases hlo : (H + L.tdiv 4294967296) < -2147483648
              · have d1 : decide ((H + L.tdiv 4294967296) < -2147483648) = true := decide_eq_true hlo
                have E9 := Lib.hid (E.out.trans (if_neg (fun h => absurd (HFI.out.1 h).1 (by omega))))
                have HRO := Lib.hid (show onesRes O k = (9, []) from HRES.out.trans ((congrArg (resWith acc) (HER.out (by rw [E9.out]; decide))).trans (by rw [E9.out]; exact resWith_err (by decide))))
                go_wp2_with fail
                go_ret2
                refine ⟨⟨none, 0, ?_, ?_⟩, HBR.out⟩
                · rw [HRO.out]; rfl
                · rw [HRO.out]; exact ⟨rfl, Sees.nil _ 3⟩
              · have d1 : decide ((H + L.tdiv 4294967296) < -2147483648) = false := decide_eq_false hlo
                by_cases hhi : 2147483647 < (H + L.tdiv 4294967296)
                · have d2 : decide (2147483647 < (H + L.tdiv 4294967296)) = true := decide_eq_true hhi
                  have E9 := Lib.hid (E.out.trans (if_neg (fun h => absurd (HFI.out.1 h).2 (by omega))))
                  have HRO := Lib.hid (show onesRes O k = (9, []) from HRES.out.trans ((congrArg (resWith acc) (HER.out (by rw [E9.out]; decide))).trans (by rw [E9.out]; exact resWith_err (by decide))))
                  go_wp2_with fail
                  go_ret2
                  refine ⟨⟨none, 0, ?_, ?_⟩, HBR.out⟩
                  · rw [HRO.out]; rfl
                  · rw [HRO.out]; exact ⟨rfl, Sees.nil _ 3⟩
                · have d2 : decide (2147483647 < (H + L.tdiv 4294967296)) = false := decide_eq_false hhi
                  have hown := HOWN.out
                  have E9 := Lib.hid (E.out.trans (if_pos (HFI.out.2 ⟨by omega, by omega⟩)))
                  go_wp2_with (first
                    | (at_builtin; refine wpList_append_one valSlice' rfl _ _ rfl rfl rfl hown hb (Nat.le_refl _) rfl (by intro u hu; simp at hu; rcases hu with rfl | rfl | rfl <;> rfl) (by omega) ?_; intro v1 w6 hown6 hb6 _))
                  go_roundw
                  case rel => exact ⟨j + 1, acc ++ [ofV (sumN col)], by omega, by go_num, by simp [HAL.out], by rw [valsCells_more, HVS.out, hH', hL']; exact hown6, hb6, by rw [HRES.out, HOK.out (by rw [E9.out]), E9.out]; exact resWith_ok _ _ _⟩
                  case measure => simp [intOf]; omega
      · have E := Lib.hid (oneRes_edge hc hsu col m)
        have HGC := Lib.hid (HGA.out.resolve_left hc)
        have HOWN := Lib.hid hown
        by_cases hm0 : m = 0
        · subst hm0
          have E5 := Lib.hid (E.out.trans (if_pos rfl))
          have HRO := Lib.hid (show onesRes O 0 = (5, []) from HRES.out.trans ((congrArg (resWith acc) (HER.out (by rw [E5.out]; decide))).trans (by rw [E5.out]; exact resWith_err (by decide))))
          clear hc hsu hcol hown hbl hbm
          go_wp2_with fail
          go_ret2
          refine ⟨⟨none, 0, ?_, ?_⟩, HBR.out⟩
          · rw [HRO.out]; rfl
          · rw [HRO.out]; exact ⟨rfl, Sees.nil _ 3⟩
        · have E5 := Lib.hid (E.out.trans (if_neg hm0))
          have hpos : 0 < m := by omega
          have e0 : ((m : Int) == 0) = false := by simp; omega
          have HLO := Lib.hid hown
          obtain ⟨gr, og, xr, g2, o2, v, rfl, hxm, -, hxc, b0, hv, hvm, c0, c1, c2⟩ := ROW.out 0 hpos wr hb
          rw [Nat.add_zero] at b0
          have hga : ga < wr.heap.size := World.block_lt_of_cell? wr _ a0
          obtain ⟨w1, hw1⟩ : ∃ w1, wr.alloc (.cells #[.int .i64 v.type, .int .i64 v.n, .string v.s] 26) = w1 := ⟨_, rfl⟩
          have HO1 := Lib.hid (show Own3 w1 wr.heap.size (bestOf x.what (col.take 1)) by rw [← hw1, bestOf_one hv]; exact own3_new wr v)
          have HB1 := Lib.hid (show Below wr.heap.size wr w1 by rw [← hw1]; exact (Below.refl _ _).alloc (Nat.le_refl _) _)
          have HW1 := Lib.hid hw1
          have HTK := Lib.hid (fun k v (h : col[k]? = some v) (h0 : 0 < k) => bestOf_take (wh := x.what) h h0)
          have HBM := Lib.hid (show ∀ k, 0 < k → k ≤ m → vcheck (bestOf x.what (col.take k)) = 0 ∧ (bestOf x.what (col.take k)).type = t from fun k h0 h1 =>
            HGC.out _ (List.mem_of_mem_take (bestOf_mem x.what (col.take k) (by intro e; have := congrArg List.length e; rw [List.length_take, HCJ.out] at this; simp at this; omega))))
          have HBL := Lib.hid (show ∀ c : Int, takes x.what c false = ((bl && decide (c < 0)) || (bm && decide (0 < c))) by intro c; subst hbl hbm; simp [takes])
          have HLM := Lib.hid hlm
          clear hc hsu hcol hown hbl hbm hw1 hlm hv hxm hvm
          go_wp2_with (first | rw [HW1.out])
          obtain ⟨wo, hwo⟩ : ∃ wo, wo = wr := ⟨_, rfl⟩
          subst hwo
          go_loopw [15] (fun i wx => ∃ k : Nat, i = .int .i64 k ∧ 1 ≤ k ∧ k ≤ m ∧ Own3 wx wo.heap.size (bestOf x.what (col.take k)) ∧ Below wo.heap.size wo wx) (fun i _ => m - (intOf i).toNat)
          case atStart => exact ⟨1, rfl, by omega, by omega, HO1.out, HB1.out⟩
          case round =>
            obtain ⟨k, rfl, hk1, hk, hbo, hbx⟩ := hrel
            have HBO := Lib.hid hbo
            have HBX := Lib.hid hbx
            have HBS := Lib.hid (HBR.out.trans (hbx.mono hwr))
            obtain ⟨z0, z1, z2, f0, f1, f2, zl⟩ := hbo.cells
            have hwx := hbx.size
            by_cases hkm : k < m
            · obtain ⟨gr', og', xr2, g3, o3, v2, er, hxm, -, hxc2, b0, hv, hvm, c0, c1, c2⟩ := ROW.out k hkm wr HBS.out
              obtain ⟨rfl, rfl⟩ : gr = gr' ∧ og = og' := by injection er with er; injection er with e1 e2; exact ⟨e1, e2⟩
              have a1 := (hbx.cell (p := ⟨ga, oa + j * 9, none⟩) hga).trans a0
              have hga2 := Nat.lt_of_lt_of_le hga hwx
              have T := Lib.hid (fun w' => rorder_any v2 (bestOf x.what (col.take k)) w' (HGC.out _ (List.mem_of_getElem? hv)).1 (HBM.out k (by omega) hk).1 ((HGC.out _ (List.mem_of_getElem? hv)).2.trans (HBM.out k (by omega) hk).2.symm))
              have HST := Lib.hid (HTK.out k v2 hv (by omega))
              have hgr : gr < wr.heap.size := World.block_lt_of_cell? wr _ b0
              have hg3 : g3 < wr.heap.size := World.block_lt_of_cell? wr _ c0
              have hdl : wo.heap.size < wr.drew.heap.size := zl
              generalize hbv : bestOf x.what (col.take k) = bv at *
              generalize vorder v2 bv = vc at *
              clear hbo hbx er hv hvm hxm hbv
              go_wp2_with fail
              go_still_tail 8, (by kernel_rfl)
              change wpList _ _ _ _ _ wr.drew
              go_wp2_with fail
              refine (T.out wr.drew).mono ?_
              rintro e w5 ⟨rfl, hb5⟩
              have HB5 := Lib.hid (show Below wr.heap.size wr w5 from below_of_drew (Below.mono hb5 (Nat.le_refl _)))
              have HO5 := Lib.hid (HBO.out.keep HB5.out)
              have HB6 := Lib.hid (HBX.out.trans (HB5.out.mono hwx))
              have a2 := (HB5.out.cell (p := ⟨ga, oa + j * 9, none⟩) hga2).trans a1
              have b2 := (HB5.out.cell (p := ⟨gr, og + k, none⟩) hgr).trans b0
              have d0 := (HB5.out.cell (p := ⟨g3, o3 + j * 3, none⟩) hg3).trans c0
              have d1 := (HB5.out.cell (p := ⟨g3, o3 + j * 3 + 1, none⟩) hg3).trans c1
              have d2 := (HB5.out.cell (p := ⟨g3, o3 + j * 3 + 2, none⟩) hg3).trans c2
              obtain ⟨y0, y1, y2, h0, h1, h2, yl⟩ := HO5.out.cells
              have HBLC := Lib.hid (HBL.out vc)
              obtain ⟨bc, hdc⟩ : ∃ bc, decide (vc < 0) = bc := ⟨_, rfl⟩
              obtain ⟨bd, hdd⟩ : ∃ bd, decide (0 < vc) = bd := ⟨_, rfl⟩
              rw [hdc, hdd] at HBLC
              clear hb5 a0 a1 b0 c0 c1 c2 z0 z1 z2 f0 f1 f2
              cases bl with
              | true =>
                obtain rfl := HLM.out rfl
                cases bc with
                | true =>
                  have HV := Lib.hid (show bestOf x.what (col.take (k + 1)) = v2 from HST.out.trans (if_pos (by rw [HBLC.out]; simp)))
                  go_wp2_with fail
                  go_roundw
                  case rel => exact ⟨k + 1, by go_num, by omega, by omega, by rw [HV.out]; exact own3_set HO5.out v2.type v2.n v2.s, below_set3 HB6.out (Nat.le_refl _) _ _ _⟩
                  case measure => simp [intOf]; omega
                | false =>
                  have HV := Lib.hid (show bestOf x.what (col.take (k + 1)) = bv from HST.out.trans (if_neg (by rw [HBLC.out]; simp)))
                  go_wp2_with fail
                  go_roundw
                  case rel => exact ⟨k + 1, by go_num, by omega, by omega, by rw [HV.out]; exact HO5.out, HB6.out⟩
                  case measure => simp [intOf]; omega
              | false =>
                cases bm with
                | true =>
                  cases bd with
                  | true =>
                    have HV := Lib.hid (show bestOf x.what (col.take (k + 1)) = v2 from HST.out.trans (if_pos (by rw [HBLC.out]; simp)))
                    go_wp2_with fail
                    go_roundw
                    case rel => exact ⟨k + 1, by go_num, by omega, by omega, by rw [HV.out]; exact own3_set HO5.out v2.type v2.n v2.s, below_set3 HB6.out (Nat.le_refl _) _ _ _⟩
                    case measure => simp [intOf]; omega
                  | false =>
                    have HV := Lib.hid (show bestOf x.what (col.take (k + 1)) = bv from HST.out.trans (if_neg (by rw [HBLC.out]; simp)))
                    go_wp2_with fail
                    go_roundw
                    case rel => exact ⟨k + 1, by go_num, by omega, by omega, by rw [HV.out]; exact HO5.out, HB6.out⟩
                    case measure => simp [intOf]; omega
                | false =>
                  have HV := Lib.hid (show bestOf x.what (col.take (k + 1)) = bv from HST.out.trans (if_neg (by rw [HBLC.out]; simp)))
                  go_wp2_with fail
                  go_roundw
                  case rel => exact ⟨k + 1, by go_num, by omega, by omega, by rw [HV.out]; exact HO5.out, HB6.out⟩
                  case measure => simp [intOf]; omega
            · obtain rfl : k = m := by omega
              have HBE := Lib.hid (show bestOf x.what col = bestOf x.what (col.take k) by rw [List.take_of_length_le (by rw [HCJ.out]; exact Nat.le_refl _)])
              generalize hbv : bestOf x.what (col.take k) = bv at *
              have hown := own_keep HOWN.out HBX.out
              have hb2 := HBS.out
              clear hbo hbx hbv
              go_wp2_with (first
                | (at_builtin; refine wpList_append_one valSlice' rfl _ _ rfl rfl rfl hown hb2 (Nat.le_refl _) rfl (by intro u hu; simp at hu; rcases hu with rfl | rfl | rfl <;> rfl) (by omega) ?_; intro v1 w6 hown6 hb6 _))
              go_roundw
              case rel => exact ⟨j + 1, acc ++ [bv], by omega, by go_num, by simp [HAL.out], by rw [valsCells_more]; exact hown6, hb6, by rw [HRES.out, HOK.out (by rw [E5.out]), E5.out, HBE.out]; exact resWith_ok _ _ _⟩
              case measure => simp [intOf]; omega
    · obtain rfl : j = n := by omega
      have HRO := Lib.hid (show onesRes O m = (0, acc) by rw [HRES.out, List.drop_of_length_le (by rw [HOL.out]; omega)]; exact resWith_nil acc)
      have HV := HV0.out
      subst HV
      have hs := Sees.of_own HOW.out
      obtain ⟨A', c', e', hs⟩ := hs
      injection e' with e1 e2 e3
      subst e1 e3
      have HS := Lib.hid hs
      clear hs hown hb
      go_wp2_with fail
      go_ret2
      refine ⟨⟨vA, vC, ?_, ?_⟩, HBR.out⟩
      · rw [HRO.out, HAL.out]; rfl
      · rw [HRO.out]; exact ⟨rfl, by rw [HAL.out]; exact HS.out⟩
end Go.Proofs.YtfdihajhhadidaaDoor
