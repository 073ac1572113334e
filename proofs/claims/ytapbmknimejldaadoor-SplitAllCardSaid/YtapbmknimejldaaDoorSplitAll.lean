/- Of the law SplitAll: the card Rows.SplitAllCardSaid, without any condition: whatever the rows, the columns and the number, it returns true. -/
import Derived.Test.YtapbmknimejldaaDoorFrame
import Derived.Test.YtapbmknimejldaaDoorSplitLaw
import Derived.Test.YtapbmknimejldaaDoorLaidErr
import Derived.Test.YtapbmknimejldaaDoorOpenRows
import Derived.Test.YtapbmknimejldaaDoorOpenInts
import Derived.Deep.DeepHandedRow
import Derived.BigQuiet
namespace Go.Proofs.YtapbmknimejldaaDoor.splitAll
open Go.ChangeShapes Go.WideShapes Go.ChangeAt Go.RowKit

theorem own_cell {w : World} {B e g n cap k : Nat} {xs : List Value} {u : Value} (h : w.ownsRow B e 1 (.slice (some ⟨g, 0, none⟩) n cap) n xs) (hk : xs[k]? = some u) :
    w.cell? ⟨g, k, none⟩ = some u ∧ w.frozen? ⟨g, k, none⟩ = false ∧ g < w.heap.size := by
  refine ⟨?_, ?_, (h.lt g rfl).2⟩
  · have := h.cells (g := g) rfl k u hk
    rwa [addr_addN, Nat.zero_add] at this
  · rcases h.2 with ⟨e, _⟩ | ⟨q, cap, cur, e, _, hh, _⟩
    · cases e
    · injection e with e
      injection e with e
      injection e with e
      subst e
      unfold World.frozen?
      rw [show w.heap[(⟨g, k, none⟩ : Addr).block]? = _ from hh]; simp
theorem intCells_set (l : List Int) (k : Nat) (x : Int) : (intCells l).set k (.int .i64 x) = intCells (l.set k x) := by
  unfold intCells; rw [List.map_set]
theorem zeros_list (m : Nat) : (madeCells (Value.int .i64 0).cells (m * 1)).toList = intCells (List.replicate m 0) := by
  rw [Nat.mul_one]
  apply List.ext_getElem?
  intro q
  by_cases hq : q < m
  · rw [Array.getElem?_toList]
    unfold madeCells intCells
    rw [Array.getElem?_map, Array.getElem?_range, List.getElem?_map, List.getElem?_replicate]
    simp [hq, Value.cells, Nat.mod_one]
  · rw [List.getElem?_eq_none (by rw [Array.length_toList, size_madeCells]; omega), List.getElem?_eq_none (by simp [intCells]; omega)]

/-- Where each row is, as far as it is told. -/
def Told (pf : Nat → Int) (m i k : Nat) (whl : List Int) : Prop := whl.length = m ∧ ∀ x, x < m → (pf x < i ∨ (x : Int) ∈ (partList pf m i).take k) → whl[x]? = some (pf x)
theorem Told.start (pf : Nat → Int) (m : Nat) (h : ∀ x, x < m → 0 ≤ pf x) : Told pf m 0 0 (List.replicate m 0) := by
  refine ⟨by simp, fun x hx ho => ?_⟩
  rcases ho with ho | ho
  · have := h x hx; omega
  · simp at ho
theorem Told.next {pf : Nat → Int} {m i k : Nat} {whl : List Int} (h : Told pf m i k whl) (hk : (partList pf m i).length ≤ k) : Told pf m (i + 1) 0 whl := by
  refine ⟨h.1, fun x hx ho => ?_⟩
  rcases ho with ho | ho
  · by_cases e : pf x < i
    · exact h.2 x hx (Or.inl e)
    · refine h.2 x hx (Or.inr ?_)
      rw [List.take_of_length_le hk]
      exact part_mem hx (by omega)
  · simp at ho
theorem Told.step {pf : Nat → Int} {m i k x : Nat} {whl : List Int} (h : Told pf m i k whl) (hk : (partList pf m i)[k]? = some (x : Int)) (hx : x < m) (hp : pf x = i) : Told pf m i (k + 1) (whl.set x i) := by
  refine ⟨by rw [List.length_set]; exact h.1, fun y hy ho => ?_⟩
  rw [List.getElem?_set]
  by_cases e : x = y
  · subst e
    rw [if_pos rfl, if_pos (by rw [h.1]; exact hx), hp]
  · rw [if_neg e]
    refine h.2 y hy ?_
    rcases ho with ho | ho
    · exact Or.inl ho
    · rw [List.take_add_one, hk] at ho
      rcases List.mem_append.1 ho with ho | ho
      · exact Or.inr ho
      · simp at ho; omega

set_option maxHeartbeats 4000000 in
set_option maxRecDepth 100000 in
theorem walk (A C : Option Addr) (m c k ck : Nat) (n : Int) (hs : List RowH) (cols : List Int) (w : World) (hG : ErrT w) (hR : SeesRows w A m c hs) (hw : ∀ h ∈ hs, ∀ v ∈ h.r, v.wf) (hC : Sees w C k ck 1 (intCells cols)) :
    Calls Tryd.prog 3 #[.slice A m c, .slice C k ck, .int .i64 n] w fun e w' => e = .returned (.bool true) ∧ Below w.heap.size w w' := by
  have HR := Lib.hid hR
  have HC := Lib.hid hC
  have HG := Lib.hid hG
  have HWF := Lib.hid hw
  have hcap := hR.1.2.1
  have hmax := hR.1.2.2.1
  have hckk := hC.2.1
  have hckm := hC.2.2.1
  unfold maxLen at hmax hckm
  have HLn := Lib.hid hR.len
  have HCn := Lib.hid (intCells_len hC)
  have T1 := Lib.hid (part_any none none 0 0 0 0 3 [] [] w (by omega) (by omega) ⟨rfl, Sees.nil w 3⟩ (fun v h => by cases h) (Sees.nil w 1))
  clear hR hw hC hG
  go_enter Tryd.func3, Tryd.ntmps3
  go_wp2_with fail
  refine (T1.out).mono ?_
  rintro e w1 ⟨rfl, hb1⟩
  have HB1 := Lib.hid hb1
  clear hb1 T1
  rw [if_neg (show ¬ ([] : List Int).any (badCol 0) = true by decide), show partOf [] [] 3 = 0 from rfl]
  obtain ⟨w2, hw2⟩ : ∃ w2, w1.alloc (.cells #[.int .i64 0] 3) = w2 := ⟨_, rfl⟩
  have hb2 : Below w1.heap.size w1 w2 := by rw [← hw2]; exact (Below.refl _ _).alloc (Nat.le_refl _) _
  have hs0 : Sees w2 (some ⟨w1.heap.size, 0, none⟩) 1 1 1 (intCells [0]) := by
    rw [← hw2]
    refine ⟨rfl, Nat.le_refl _, by unfold maxLen; omega, (fun e => by cases e), fun _ => ⟨_, _, rfl, by simp, fun j u hu => ?_⟩⟩
    rw [Nat.zero_add, cell_of_row _ _ _ _ _ _ (heap_alloc_new w1 _), ← Array.getElem?_toList]
    exact hu
  have T2 := Lib.hid (part_any none (some ⟨w1.heap.size, 0, none⟩) 0 0 1 1 3 [] [0] w2 (by omega) (by omega) ⟨rfl, Sees.nil w2 3⟩ (fun v h => by cases h) hs0)
  have HB2 := Lib.hid (below_step HB1.out hb2)
  have HW2 := Lib.hid hw2
  clear hb2 hs0 hw2
  go_wp2_with (first | rw [HW2.out])
  refine (T2.out).mono ?_
  rintro e w3 ⟨rfl, hb3⟩
  have HB3 := Lib.hid (below_step HB2.out hb3)
  clear hb3 T2
  rw [if_pos (show ([0] : List Int).any (badCol 0) = true by decide)]
  have T3 := Lib.hid (same_err (.iface 38 (.int .i64 1)) 1 1 w3 (HG.out.keep HB3.out) (Or.inr ⟨rfl, by decide⟩))
  go_wp2_with fail
  refine (T3.out).mono ?_
  rintro e w4 ⟨rfl, hb4⟩
  have HB4 := Lib.hid (below_step HB3.out hb4)
  clear hb4 T3
  have T4 := Lib.hid (parts_any A C m c k ck n hs cols w4 (HR.out.keep HB4.out) HWF.out (HC.out.keep HB4.out))
  go_wp2_with fail
  refine (T4.out).mono ?_
  rintro e w5 ⟨hres, hb5⟩
  have HB5 := Lib.hid (below_step HB4.out hb5)
  clear hb5 T4
  rcases hres with ⟨ke, _, rfl⟩ | ⟨h1, h8, hm3, hgood, g, vals, rfl, hl⟩
  · go_wp2_with fail
    go_ret
    exact ⟨rfl, HB5.out⟩
  obtain ⟨N, rfl⟩ : ∃ N : Nat, n = N := ⟨n.toNat, by omega⟩
  rw [Int.toNat_natCast] at hl ⊢
  have HL := Lib.hid hl
  have HGD := Lib.hid hgood
  have HPB := Lib.hid (pf_bound (cols := cols) (N := N) (by omega) HLn.out)
  generalize hpf : pfOf hs cols N = pf at HL HPB
  have HPF := Lib.hid hpf
  have hN8 : N ≤ 8 := by omega
  have hN1 : 1 ≤ N := by omega
  clear hl hgood hpf h1 h8
  obtain ⟨ht, _, _, hzs, i0, hi, hz, hsz, hby⟩ := intSlice
  obtain ⟨w6, hmk, hown6, hg6⟩ := run_makeSlice_full (P := Tryd.prog) w5 w5.heap.size 23 3 i0 (.int .i64 0) 1 ht hi hz hsz .i64 .i64 m (by omega) (by rw [hby]; omega) (by unfold maxLen; omega) (Nat.le_refl _)
  rw [zeros_list] at hown6
  have HOW6 := Lib.hid hown6
  have HB6 := Lib.hid (show Below w5.heap.size w5 w6 from (Below.refl w5.heap.size w5).grown hg6 (Nat.le_refl _) (fun k hk => by cases hk))
  have HT0 := Lib.hid (Told.start pf m (fun x hx => (HPB.out x hx).1))
  have d0 : ((N : Int) != N) = false := by simp
  clear hown6 hg6 ht hi hz hsz hby hzs
  go_wp2_with fail
  clear hmk
  go_loopw [15, 16] (fun y i wr => ∃ (q : Nat) (whl : List Int), q ≤ N ∧ i = .int .i64 q ∧ y = .int .i64 (sumLen pf m q : Nat) ∧ wr.ownsRow w5.heap.size 3 1 (.slice (some ⟨w5.heap.size, 0, none⟩) m m) m (intCells whl) ∧ Told pf m q 0 whl ∧ Below w5.heap.size w5 wr) (fun _ i _ => N - (intOf i).toNat)
  case atStart => exact ⟨0, _, by omega, rfl, rfl, HOW6.out, HT0.out, HB6.out⟩
  case round =>
    obtain ⟨q, whl, hq, rfl, rfl, hown, htold, hb⟩ := hrel
    have HOW := Lib.hid hown
    have HTO := Lib.hid htold
    have HBR := Lib.hid hb
    clear hown htold hb
    by_cases hqN : q < N
    · have hsl := sumLen_le pf m q
      have hpl := partList_le pf m q
      have hsl2 : q * m ≤ 8 * 300 := Nat.mul_le_mul (by omega) hm3
      obtain ⟨vA, vC, hvq⟩ := own_shape (HL.out.rows q hqN)
      have HVQ := Lib.hid hvq
      generalize hpn : (partList pf m q).length = pn at hpl hvq HVQ
      have HPN := Lib.hid hpn
      have hss := Sees.of_own (HL.out.rows q hqN)
      obtain ⟨vA', vC', hv', hse⟩ := hss
      rw [hvq, HPN.out] at hv'
      injection hv' with e1 e2 e3
      subst e1 e3
      rw [HPN.out] at hse
      have HSE := Lib.hid hse
      have hvc := hse.2.1
      have hvcm := hse.2.2.1
      unfold maxLen at hvcm
      have CO := Lib.hid (show ∀ w', Below w5.heap.size w5 w' → w'.cell? ⟨g, q, none⟩ = some (.slice vA pn vC) from fun w' hb' => by
        have := (own_cell (HL.out.keep hb').outer (k := q) (u := vals q) (by rw [List.getElem?_map, List.getElem?_range hqN]; rfl)).1
        rw [this, HVQ.out])
      clear hvq hpn hse
      have k0 := CO.out wr HBR.out
      go_wp2_with fail
      clear k0
      go_loopw [15, 17] (fun y i wr => ∃ (p : Nat) (whl : List Int), p ≤ pn ∧ i = .int .i64 p ∧ y = .int .i64 (sumLen pf m q + p : Nat) ∧ wr.ownsRow w5.heap.size 3 1 (.slice (some ⟨w5.heap.size, 0, none⟩) m m) m (intCells whl) ∧ Told pf m q p whl ∧ Below w5.heap.size w5 wr) (fun _ i _ => pn - (intOf i).toNat)
      case atStart => exact ⟨0, whl, by omega, rfl, rfl, HOW.out, HTO.out, HBR.out⟩
      case round =>
        obtain ⟨p, whl, hp, rfl, rfl, hown, htold, hb⟩ := hrel
        have HBR := Lib.hid hb
        have HOW := Lib.hid hown
        have HTO := Lib.hid htold
        have k0 := CO.out wr hb
        by_cases hpp : p < pn
        · obtain ⟨gi, oi, xi, rfl, hxi, c1⟩ := ints_at (HSE.out.keep hb) hpp
          obtain ⟨x, rfl, hxm, hpx⟩ := part_get hxi
          obtain ⟨ww, hww⟩ : ∃ ww, whl[x]? = some ww := ⟨_, List.getElem?_eq_getElem (by rw [htold.1]; exact hxm)⟩
          obtain ⟨s1, s2, s3⟩ := own_cell hown (k := x) (u := .int .i64 ww) (intCells_get hww)
          have HNT := Lib.hid (htold.step hxi hxm hpx)
          have HST := Lib.hid (hown.stored x (.int .i64 q)).1
          have HBS := Lib.hid (hb.setCell (p := ⟨w5.heap.size, x, none⟩) (Nat.le_refl _) (.int .i64 (q : Int)))
          have dx : decide (m ≤ x) = false := decide_eq_false (by omega)
          have dx' : decide ((m : Int) ≤ (x : Int)) = false := decide_eq_false (by omega)
          by_cases hp0 : p = 0
          · subst hp0
            rw [Nat.add_zero] at c1
            have dp0 : decide (0 < 0) = false := by decide
            simp only [Int.natCast_zero]
            clear hb hown htold hxi hww
            go_wp2_with fail
            go_roundw
            case rel => exact ⟨1, _, by omega, rfl, by go_num, by rw [intCells_set] at HST; exact HST.out, HNT.out, HBS.out⟩
            case measure => simp [intOf]; omega
          · obtain ⟨p', rfl⟩ : ∃ p', p = p' + 1 := ⟨p - 1, by omega⟩
            obtain ⟨gj, oj, xj, ej, hxj, c2⟩ := ints_at (HSE.out.keep hb) (show p' < pn by omega)
            cases ej
            have hlt := part_before hxj hxi
            have dj : decide ((x : Int) ≤ xj) = false := decide_eq_false (by omega)
            have dp : decide (0 < p' + 1) = true := decide_eq_true (by omega)
            have ei : ((p' + 1 : Nat) : Int) - 1 = (p' : Int) := by omega
            have en : (((p' + 1 : Nat) : Int) - 1).toNat = p' := by omega
            clear hb hown htold hxi hxj hww hlt
            go_wp2_with fail
            go_roundw
            case rel => exact ⟨p' + 1 + 1, _, by omega, by go_num, by go_num, by rw [intCells_set] at HST; exact HST.out, HNT.out, HBS.out⟩
            case measure => simp [intOf]; omega
        · obtain rfl : pn = p := by omega
          have HNT := Lib.hid (htold.next (by rw [HPN.out]; exact Nat.le_refl _))
          have ES := Lib.hid (show sumLen pf m (q + 1) = sumLen pf m q + pn by rw [sumLen, HPN.out])
          clear hb hown htold
          go_wp2_with fail
          go_roundw
          case rel => exact ⟨q + 1, whl, by omega, by go_num, by rw [ES.out], HOW.out, HNT.out, HBR.out⟩
          case measure => simp [intOf]; omega
    · obtain rfl : N = q := by omega
      have HSA := Lib.hid (sumLen_all m HPB.out)
      have HWH := Lib.hid (show ∀ x, x < m → whl[x]? = some (pf x) from fun x hx => HTO.out.2 x hx (Or.inl (HPB.out x hx).2))
      rw [HSA.out]
      have HOB := Lib.hid (show ∀ w', Below w5.heap.size w5 w' → Below w.heap.size w w' from fun w' hb' => below_step HB5.out hb')
      go_wp2_with fail
      go_loopw [20, 19] (fun _ i wr => ∃ q : Nat, 1 ≤ q ∧ i = .int .i64 q ∧ wr.ownsRow w5.heap.size 3 1 (.slice (some ⟨w5.heap.size, 0, none⟩) m m) m (intCells whl) ∧ Below w5.heap.size w5 wr) (fun _ i _ => 400 - (intOf i).toNat)
      case atStart => exact ⟨1, by omega, rfl, HOW.out, HBR.out⟩
      case round =>
        obtain ⟨q, hq1, rfl, hown, hb⟩ := hrel
        have HBQ := Lib.hid hb
        have HOQ := Lib.hid hown
        by_cases hqm : q < m
        · have dq : decide (q < m) = true := decide_eq_true hqm
          by_cases hq40 : q < 40
          · have d40 : decide (q < 40) = true := decide_eq_true hq40
            have d40' : decide ((q : Int) < 40) = true := decide_eq_true (by omega)
            obtain ⟨xq, hxq⟩ : ∃ xq, hs[q]? = some xq := ⟨_, List.getElem?_eq_getElem (by rw [HLn.out]; exact hqm)⟩
            obtain ⟨x0, hx0⟩ : ∃ x0, hs[0]? = some x0 := ⟨_, List.getElem?_eq_getElem (by rw [HLn.out]; omega)⟩
            have HXQ := Lib.hid hxq
            have HX0 := Lib.hid hx0
            clear hb hown hxq hx0
            go_wp2_with fail
            go_loopw [20, 21] (fun y i wr => ∃ (p : Nat) (b : Bool), p ≤ k ∧ i = .int .i64 p ∧ y = .bool b ∧ (b = true → ∀ c ∈ cols.take p, xq.r.getD c.toNat noVal = x0.r.getD c.toNat noVal) ∧ wr.ownsRow w5.heap.size 3 1 (.slice (some ⟨w5.heap.size, 0, none⟩) m m) m (intCells whl) ∧ Below w5.heap.size w5 wr) (fun _ i _ => k - (intOf i).toNat)
            case atStart => exact ⟨0, true, by omega, rfl, rfl, by simp, HOQ.out, HBQ.out⟩
            case round =>
              obtain ⟨p, b, hp, rfl, rfl, hsame, hown, hb⟩ := hrel
              have HSM := Lib.hid hsame
              have HBP := Lib.hid hb
              have HOP := Lib.hid hown
              clear hsame hown
              by_cases hpk : p < k
              · have HKR := Lib.hid (fun nq => show (wr.drewN nq).ownsRow w5.heap.size 3 1 (.slice (some ⟨w5.heap.size, 0, none⟩) m m) m (intCells whl) from HOP.out)
                cases b with
                | false =>
                  clear hb
                  go_wp2_with fail
                  go_quiet (fail)
                  have HBN := Lib.hid (below_drewN HBP.out nq)
                  have HON := Lib.hid (HKR.out nq)
                  generalize wr.drewN nq = wz at HBN HON ⊢
                  go_wp2_with fail
                  go_roundw
                  case rel => exact ⟨p + 1, false, by omega, by go_num, rfl, by simp, HON.out, HBN.out⟩
                  case measure => simp [intOf]; omega
                | true =>
                  obtain ⟨gr, or_, yq, rfl, hyq, hvq, r1⟩ := (HR.out.keep (HOB.out wr hb)).at_ hqm
                  obtain rfl : yq = xq := by have := hyq.symm.trans HXQ.out; injection this
                  obtain ⟨gr2, or2, y0, e2, hy0, hv0, r0⟩ := (HR.out.keep (HOB.out wr hb)).at_ (show 0 < m by omega)
                  cases e2
                  obtain rfl : y0 = x0 := by have := hy0.symm.trans HX0.out; injection this
                  rw [Nat.add_zero] at r0
                  obtain ⟨gc, oc, cx, rfl, hcx, c1⟩ := ints_at (HC.out.keep (HOB.out wr hb)) hpk
                  have hcm := List.mem_of_getElem? hcx
                  have b1 := (List.any_eq_false.1 (HGD.out yq (List.mem_of_getElem? hyq))) cx hcm
                  have b2 := (List.any_eq_false.1 (HGD.out y0 (List.mem_of_getElem? hy0))) cx hcm
                  unfold badCol at b1 b2
                  simp at b1 b2
                  obtain ⟨j, rfl⟩ : ∃ j : Nat, cx = j := ⟨cx.toNat, by omega⟩
                  obtain ⟨ga, oa, va, ea, ha, hva, a0, a1, a2⟩ := hvq.at_ (show j < yq.n by omega)
                  obtain ⟨gb, ob, vb, eb, hb2, hvb, b0, b1', b2'⟩ := hv0.at_ (show j < y0.n by omega)
                  rw [ea] at r1
                  rw [eb] at r0
                  have n1 : j < yq.n := by omega
                  have n2 : j < y0.n := by omega
                  have HNX := Lib.hid (show va = vb → ∀ c ∈ cols.take (p + 1), yq.r.getD c.toNat noVal = y0.r.getD c.toNat noVal by
                    intro e c hc
                    rw [List.take_add_one, hcx] at hc
                    rcases List.mem_append.1 hc with hc | hc
                    · exact HSM.out rfl c hc
                    · simp at hc
                      subst hc
                      rw [Int.toNat_natCast, List.getD_eq_getElem?_getD, List.getD_eq_getElem?_getD, hva, hvb, e])
                  by_cases hvv : va = vb
                  · have HN1 := Lib.hid (HNX.out hvv)
                    subst hvv
                    clear hb hyq hvq hy0 hv0 hcx hcm hva hvb b1 b2
                    go_wp2_with fail
                    go_quiet (fail)
                    have HBN := Lib.hid (below_drewN HBP.out nq)
                    have HON := Lib.hid (HKR.out nq)
                    generalize wr.drewN nq = wz at HBN HON ⊢
                    go_wp2_with fail
                    go_roundw
                    case rel => exact ⟨p + 1, true, by omega, by go_num, rfl, fun _ => HN1.out, HON.out, HBN.out⟩
                    case measure => simp [intOf]; omega
                  · rcases val_diff hvv with h | ⟨h1, h⟩ | ⟨h1, h2, h⟩
                    · clear hb hyq hvq hy0 hv0 hcx hcm hva hvb b1 b2 hvv
                      go_wp2_with fail
                      go_quiet (fail)
                      have HBN := Lib.hid (below_drewN HBP.out nq)
                      have HON := Lib.hid (HKR.out nq)
                      generalize wr.drewN nq = wz at HBN HON ⊢
                      go_wp2_with fail
                      go_roundw
                      case rel => exact ⟨p + 1, false, by omega, by go_num, rfl, by simp, HON.out, HBN.out⟩
                      case measure => simp [intOf]; omega
                    · rw [h1] at a0
                      clear hb hyq hvq hy0 hv0 hcx hcm hva hvb b1 b2 hvv h1
                      go_wp2_with fail
                      go_quiet (fail)
                      have HBN := Lib.hid (below_drewN HBP.out nq)
                      have HON := Lib.hid (HKR.out nq)
                      generalize wr.drewN nq = wz at HBN HON ⊢
                      go_wp2_with fail
                      go_roundw
                      case rel => exact ⟨p + 1, false, by omega, by go_num, rfl, by simp, HON.out, HBN.out⟩
                      case measure => simp [intOf]; omega
                    · rw [h1] at a0
                      rw [h2] at a1
                      clear hb hyq hvq hy0 hv0 hcx hcm hva hvb b1 b2 hvv h1 h2
                      go_wp2_with fail
                      go_quiet (fail)
                      have HBN := Lib.hid (below_drewN HBP.out nq)
                      have HON := Lib.hid (HKR.out nq)
                      generalize wr.drewN nq = wz at HBN HON ⊢
                      go_wp2_with fail
                      go_roundw
                      case rel => exact ⟨p + 1, false, by omega, by go_num, rfl, by simp, HON.out, HBN.out⟩
                      case measure => simp [intOf]; omega
              · have htk : cols.take p = cols := List.take_of_length_le (by rw [HCn.out]; omega)
                rw [htk] at HSM
                have HKR := Lib.hid (fun nq => show (wr.drewN nq).ownsRow w5.heap.size 3 1 (.slice (some ⟨w5.heap.size, 0, none⟩) m m) m (intCells whl) from HOP.out)
                cases b with
                | false =>
                  clear hb htk
                  go_wp2_with fail
                  go_quiet (fail)
                  have HBN := Lib.hid (below_drewN HBP.out nq)
                  have HON := Lib.hid (HKR.out nq)
                  generalize wr.drewN nq = wz at HBN HON ⊢
                  go_wp2_with fail
                  go_roundw
                  case rel => exact ⟨q + 1, by omega, by go_num, HON.out, HBN.out⟩
                  case measure => simp [intOf]; omega
                | true =>
                  have hpq : pf q = pf 0 := by
                    rw [← HPF.out]
                    unfold pfOf
                    rw [HXQ.out, HX0.out]
                    show partOf xq.r cols N = partOf x0.r cols N
                    unfold partOf
                    rw [partSum_same cols 0 (HSM.out rfl)]
                  have f1 := (own_cell HOP.out (k := q) (intCells_get (HWH.out q hqm))).1
                  have f0 := (own_cell HOP.out (k := 0) (intCells_get (HWH.out 0 (by omega)))).1
                  rw [hpq] at f1
                  have hm0 : 0 < m := by omega
                  clear hb htk hpq
                  go_wp2_with fail
                  go_quiet (fail)
                  have HBN := Lib.hid (below_drewN HBP.out nq)
                  have HON := Lib.hid (HKR.out nq)
                  generalize wr.drewN nq = wz at HBN HON ⊢
                  go_wp2_with fail
                  go_roundw
                  case rel => exact ⟨q + 1, by omega, by go_num, HON.out, HBN.out⟩
                  case measure => simp [intOf]; omega
          · have d40 : decide (q < 40) = false := decide_eq_false hq40
            have d40' : decide ((q : Int) < 40) = false := decide_eq_false (by omega)
            clear hb hown
            go_wp2_with fail
            go_ret
            exact ⟨by simp, HOB.out _ HBQ.out⟩
        · have dq : decide (q < m) = false := decide_eq_false hqm
          clear hb hown
          go_wp2_with fail
          go_ret
          exact ⟨by simp, HOB.out _ HBQ.out⟩

set_option maxRecDepth 100000 in
theorem contract (H : Type) (enc : TypeId × Value → H) (W : World) (base : Nat) (args : Array Value) (ds gs : List (DataW H)) (before : List MemPlace)
    (hval : ∀ (j : Nat) t v, Tryd.f3.params[j]? = some t → args[j]? = some v → Value.okWide Tryd.prog W .any base t v)
    (hW : DataW.Whole enc Tryd.prog Tryd.f3.params.toList Rows.splitAllSpec.vars false W args.toList ds gs before)
    (hsz : (DataW.weightsEach Tryd.prog (Tryd.f3.params.toList ++ (OpenSpec.ofChange Rows.splitAllSpec).bare.plain.varTypes Tryd.prog) (ds ++ gs)).all (· ≤ reachBytes) = true) (hL : laidMetH Tryd.prog Rows.splitAllRow.laid W) :
    Calls Tryd.prog 3 args W fun e W' => ∃ v, e = .returned v ∧ Rows.splitAllSpec.post enc Tryd.prog Tryd.f3 false true false false W args v W' := by
  have hW' := hW
  obtain ⟨p, q, hA0, hV, rfl, hfz, hnd⟩ := hW
  have hA : DataW.TrodAll enc Tryd.prog W 0 (fun _ => true) true Tryd.f3.params.toList args.toList ds p := hA0
  rw [Tryd.params3] at hA hval
  obtain ⟨v0, vs0, d0, ds0, p0, q0, hargs, rfl, rfl, h0, r0⟩ := trodAll_cons hA
  obtain ⟨v1, vs1, d1, ds1, p1, q1, rfl, rfl, rfl, h1, r1⟩ := trodAll_cons r0
  obtain ⟨v2, vs2, d2, ds2, p2, q2, rfl, rfl, rfl, h2, r2⟩ := trodAll_cons r1
  obtain ⟨rfl, rfl, rfl⟩ := trodAll_nil r2
  obtain rfl : args = #[v0, v1, v2] := by cases args; simp_all
  obtain ⟨rfl, rfl⟩ := trodVars_none hV
  have hv0 := hval 0 22 v0 rfl rfl
  have hv1 := hval 1 23 v1 rfl rfl
  obtain ⟨a2, rfl, rfl, rfl, w2⟩ := open_int Tryd.underlying3 (hval 2 3 v2 rfl rfl) h2
  obtain ⟨A, m, c, hs, rfl, hR, hw⟩ := open_rows (okWide_slice Tryd.underlying22 hv0) h0
  obtain ⟨C, k, ck, cols, rfl, hC, _⟩ := open_ints (okWide_slice Tryd.underlying23 hv1) h1
  refine (walk A C m c k ck a2 hs cols W (errT_of_laid hL) hR hw hC).mono fun e W' ⟨he, hb⟩ => ?_
  subst he
  exact ⟨_, rfl, law_post laidOut Tryd.underlying4 (by kernel_rfl) rfl (by rw [Tryd.params3]; intro t ht; simp only [List.mem_cons, List.not_mem_nil, or_false] at ht; rcases ht with rfl | rfl | rfl; all_goals exact ⟨by kernel_rfl, of_decide_eq_true (by kernel_rfl)⟩) hW' rfl hb⟩

theorem reads (os : Os) {H : Type} (enc : TypeId × Value → H) : ∃ places, DataW.whole enc Tryd.prog ((laidWorld_err os).forCall (fun _ _ => 0) ⟨#[], #[.slice none 0 0, .slice none 0 0, .int .i64 0], []⟩).memory Tryd.f3.params.toList Rows.splitAllSpec.vars false (#[.slice none 0 0, .slice none 0 0, .int .i64 0] : Array Value).toList 8 = some ([.nil, .nil, .lit (.int .i64 0)], [], places) :=
  ⟨[], by kernel_rfl⟩

set_option maxRecDepth 100000 in
theorem lifted (os : Os) (started : os.Started) (H : Type) (enc : TypeId × Value → H) (F : Stop.Interp) :
    ReturnsInHanded {} Tryd.checked os 3 .any ((OpenSpec.ofChange Rows.splitAllSpec).preRow enc Tryd.prog Tryd.f3 Rows.splitAllRow.domain false Rows.splitAllRow.laid) (((OpenSpec.ofChange Rows.splitAllSpec).at F).post enc Tryd.prog Tryd.f3 false true false false) := by
  obtain ⟨places, hx⟩ := reads os enc
  refine returnsInHanded_of_row (C := Tryd.checked) (s := OpenSpec.ofChange Rows.splitAllSpec) own started (by kernel_rfl) Tryd.func3
    (witness_row_at (enc := enc) (C := Tryd.checked) false (laidWorld_err os) #[.slice none 0 0, .slice none 0 0, .int .i64 0] rfl (by kernel_rfl) (by kernel_rfl) (by kernel_rfl)
      (OpenSpec.preRow_of_cond 8 hx (by kernel_rfl) (fun k hk => by cases hk) (by kernel_rfl) (laid_met_err os _))) ?_
  intro W base args ds gs before hval hW _ _ hsz hL _ _
  exact contract H enc W base args ds gs before hval hW hsz hL

theorem said : Rows.SplitAllSaid :=
  OpenClaim.holds_of_cond 3 Tryd.f3 rfl rfl rfl rfl rfl rfl rfl ⟨rfl, rfl, rfl, rfl, rfl⟩ rfl rfl rfl rfl rfl (by kernel_rfl) Tryd.func3 (by kernel_rfl)
    (of_decide_eq_true (by kernel_rfl)) (by unfold Func.isWrapper; first | (rw [if_pos (by decide +kernel)]; kernel_rfl) | (rw [if_neg (by decide +kernel)]; exact ⟨rfl, rfl⟩))
    (fun os started H enc _ F => by rw [OpenClaim.pre_eq_preRow]; exact lifted os started H enc F)

theorem plain (f : FuncId) (fn : Func) (hf : Tryd.pinned.checked.prog.funcNamed "sluicebook/sluicelaw4.SplitAll" = some f) (hfn : Tryd.pinned.checked.prog.funcs[f]? = some fn) :
    true = Tryd.pinned.checked.prog.looks [] ∧ ∀ (j : Nat) t, fn.params[j]? = some t → Tryd.pinned.checked.prog.wantsStandIn t = false := by
  obtain rfl : f = 3 := Option.some.inj ((show Tryd.prog.funcNamed "sluicebook/sluicelaw4.SplitAll" = some 3 by kernel_rfl).symm.trans hf) |>.symm
  obtain rfl : fn = Tryd.f3 := (Option.some.inj (Tryd.func3.symm.trans hfn)).symm
  refine ⟨by kernel_rfl, fun j t ht => ?_⟩
  rw [Tryd.params3] at ht
  have hm := Array.mem_of_getElem? ht
  simp only [List.mem_toArray, List.mem_cons, List.not_mem_nil, or_false] at hm
  rcases hm with rfl | rfl | rfl
  · exact (show Tryd.prog.wantsStandIn 22 = false by kernel_rfl)
  · exact (show Tryd.prog.wantsStandIn 23 = false by kernel_rfl)
  · exact (show Tryd.prog.wantsStandIn 3 = false by kernel_rfl)

theorem card : Rows.SplitAllCardSaid :=
  Claim7.holds_tied_plain_at .later [] _ _ _ _ said (fun _ h => by cases h) (by kernel_rfl) (fun _ h => by cases h) splitAll_row_tie rfl ⟨rfl, rfl⟩ (by kernel_rfl) rfl plain (by kernel_rfl)
#print axioms card
end Go.Proofs.YtapbmknimejldaaDoor.splitAll
