/- AggTells where New is right: what any rows come to, with any aggregates, some in one, some in another one that is joined. -/
import Derived.Test.YtfdihajhhadidaaDoorAggSum
import Derived.Test.YtfdihajhhadidaaDoorAggMade
import Derived.Test.YtfdihajhhadidaaDoorAggJoin
import Derived.Test.YtfdihajhhadidaaDoorRefVal
import Derived.Test.YtfdihajhhadidaaDoorOpenAggs
import Derived.Test.YtfdihajhhadidaaDoorOpenRows
import Derived.Test.YtfdihajhhadidaaDoorOpenInts
import Derived.Test.YtfdihajhhadidaaDoorFrame
import Derived.Test.YtfdihajhhadidaaDoorLaidErr
namespace Go.Proofs.YtfdihajhhadidaaDoor.aggTells
open Go.ChangeShapes Go.WideShapes Go.ChangeAt Go.RowKit

theorem errIs (k : Int) : ErrIs (errV k) k := by
  by_cases h : k = 0
  · exact Or.inl ⟨by rw [h]; rfl, h⟩
  · exact Or.inr ⟨errV_ne h, h⟩
theorem new_bad {A0 T0 : Option Addr} {n c m tc : Nat} {l : List AggH} {ts : List Int} {w : World} {k : Int} (hl : SeesAggs w A0 n c l) (ht : Sees w T0 m tc 1 (intCells ts)) (h : newFault l ts = k) (hk : k ≠ 0) :
    Calls Tryd.prog 11 #[.slice A0 n c, .slice T0 m tc] w fun e w' => e = .returned (.tuple #[.pointer none, errV k]) ∧ Below w.heap.size w w' := by
  refine (new_any A0 T0 n c m tc l ts w hl ht).mono ?_
  rintro e w' ⟨h1, h2⟩
  rw [h, if_neg hk] at h1
  exact ⟨h1, h2⟩
theorem new_good {A0 T0 : Option Addr} {n c m tc : Nat} {l : List AggH} {ts : List Int} {w : World} (hl : SeesAggs w A0 n c l) (ht : Sees w T0 m tc 1 (intCells ts)) (h : newFault l ts = 0) :
    Calls Tryd.prog 11 #[.slice A0 n c, .slice T0 m tc] w fun e w' => (∃ A c, e = .returned (.tuple #[.pointer (some ⟨w.heap.size, 0, none⟩), .nilIface]) ∧ AccAt w' w.heap.size w.heap.size A c (onesOf (kdsOf l ts) []) 0) ∧ Below w.heap.size w w' := by
  refine (new_any A0 T0 n c m tc l ts w hl ht).mono ?_
  rintro e w' ⟨h1, h2⟩
  rw [h, if_pos rfl] at h1
  exact ⟨h1, h2⟩
/-- What the law has behind j rows: one accumulator, another one behind it, the good rows behind both. -/
structure Mixed (W w2 w3 : World) (ks : List Kd) (hs : List RowH) (n cA cE : Nat) (A E : Option Addr) (cut : Int) (wx : World) (v : Value) (j : Nat) (ra rb : List (List Val)) (gs : List RowH) : Prop where
  a : AccAt wx W.heap.size W.heap.size A cA (onesOf ks ra) ra.length
  b : AccAt wx w2.heap.size w2.heap.size E cE (onesOf ks rb) rb.length
  g : wx.ownsRow w3.heap.size 38 1 v gs.length (rowCells gs)
  eq : rowsOf gs = ra ++ rb
  mem : ∀ x ∈ gs, x ∈ hs ∧ x.n = n
  ga : goodFor ks ra
  gb : goodFor ks rb
  gab : goodFor ks (ra ++ rb)
  late : rb = [] ∨ cut ≤ j
  few : gs.length ≤ j
  low : Below W.heap.size W wx
  big : w3.heap.size ≤ wx.heap.size
/-- Where the blocks lie. -/
structure Feet (W w2 w3 : World) (n cA cE : Nat) (A E : Option Addr) : Prop where
  fa : ∀ k, foot W.heap.size A n cA k → W.heap.size ≤ k ∧ k < w2.heap.size
  fe : ∀ k, foot w2.heap.size E n cE k → w2.heap.size ≤ k ∧ k < w3.heap.size
  le1 : W.heap.size ≤ w2.heap.size
  le2 : w2.heap.size ≤ w3.heap.size
theorem only_of_below {B : Nat} {a b : World} (h : Below B a b) : Only (fun k => B ≤ k) a b := ⟨h.os, h.tape, h.output, h.size, fun k _ hs => h.block k (by omega)⟩
theorem own_low {w : World} {B B' e size n : Nat} {v : Value} {xs : List Value} (h : w.ownsRow B e size v n xs) (hB : B' ≤ B) : w.ownsRow B' e size v n xs :=
  ⟨h.1, h.2.imp id fun ⟨g, cap, cur, e1, hb, rest⟩ => ⟨g, cap, cur, e1, Nat.le_trans hB hb, rest⟩⟩
section
variable {W w2 w3 wx wy : World} {ks : List Kd} {hs gs : List RowH} {n cA cE j : Nat} {A E : Option Addr} {cut : Int} {v : Value} {ra rb : List (List Val)}
theorem Mixed.keep (h : Mixed W w2 w3 ks hs n cA cE A E cut wx v j ra rb gs) (hb : Below wx.heap.size wx wy) : Mixed W w2 w3 ks hs n cA cE A E cut wy v j ra rb gs :=
  ⟨h.a.keep hb, h.b.keep hb, own_keep h.g hb, h.eq, h.mem, h.ga, h.gb, h.gab, h.late, h.few, below_step h.low hb, Nat.le_trans h.big hb.size⟩
/-- The first one's turn leaves the rest. -/
theorem Mixed.turnA (h : Mixed W w2 w3 ks hs n cA cE A E cut wx v j ra rb gs) (hf : Feet W w2 w3 n cA cE A E) (hk : ks.length = n) (hy : Only (foot W.heap.size A (onesOf ks ra).length cA) wx wy) :
    AccAt wy w2.heap.size w2.heap.size E cE (onesOf ks rb) rb.length ∧ wy.ownsRow w3.heap.size 38 1 v gs.length (rowCells gs) ∧ Below W.heap.size W wy ∧ w3.heap.size ≤ wy.heap.size := by
  rw [onesOf_length, hk] at hy
  have hlt := h.g.lt
  refine ⟨h.b.other hy (fun hs => ?_) (fun k hk' hs => ?_), hy.own h.g (fun k hk' hs => ?_), h.low.trans (hy.below h.low.size (fun k hk' => (hf.fa k hk').1)), Nat.le_trans h.big hy.size⟩
  · have := (hf.fa _ hs).2; omega
  · have h1 := (hf.fa _ hs).2
    rw [onesOf_length, hk] at hk'
    have := (hf.fe k (Or.inr hk')).1
    omega
  · have h1 := (hf.fa _ hs).2
    have := (hlt k hk').1
    have := hf.le2
    omega
theorem Mixed.turnE (h : Mixed W w2 w3 ks hs n cA cE A E cut wx v j ra rb gs) (hf : Feet W w2 w3 n cA cE A E) (hk : ks.length = n) (hy : Only (foot w2.heap.size E (onesOf ks rb).length cE) wx wy) :
    AccAt wy W.heap.size W.heap.size A cA (onesOf ks ra) ra.length ∧ wy.ownsRow w3.heap.size 38 1 v gs.length (rowCells gs) ∧ Below W.heap.size W wy ∧ w3.heap.size ≤ wy.heap.size := by
  rw [onesOf_length, hk] at hy
  have hlt := h.g.lt
  have hle := hf.le1
  refine ⟨h.a.other hy (fun hs => ?_) (fun k hk' hs => ?_), hy.own h.g (fun k hk' hs => ?_), h.low.trans (hy.below h.low.size (fun k hk' => by have := (hf.fe k hk').1; omega)), Nat.le_trans h.big hy.size⟩
  · have h1 := (hf.fe _ hs).1
    have := (hf.fa _ (Or.inl rfl)).2
    omega
  · have h1 := (hf.fe _ hs).1
    rw [onesOf_length, hk] at hk'
    have := (hf.fa k (Or.inr hk')).2
    omega
  · have h1 := (hf.fe _ hs).2
    have := (hlt k hk').1
    omega
/-- A row more behind the good ones leaves both. -/
theorem Mixed.grow (hf : Feet W w2 w3 n cA cE A E) (hk : ks.length = n) (ha : AccAt wx W.heap.size W.heap.size A cA (onesOf ks ra) ra.length) (hb : AccAt wx w2.heap.size w2.heap.size E cE (onesOf ks rb) rb.length) (hy : Below w3.heap.size wx wy) :
    AccAt wy W.heap.size W.heap.size A cA (onesOf ks ra) ra.length ∧ AccAt wy w2.heap.size w2.heap.size E cE (onesOf ks rb) rb.length := by
  have h1 := hf.le1
  have h2 := hf.le2
  refine ⟨ha.other (only_of_below hy) ?_ (fun k hk' => ?_), hb.other (only_of_below hy) ?_ (fun k hk' => ?_)⟩
  · have := (hf.fa _ (Or.inl rfl)).2; omega
  · rw [onesOf_length, hk] at hk'; have := (hf.fa k (Or.inr hk')).2; omega
  · have := (hf.fe _ (Or.inl rfl)).2; omega
  · rw [onesOf_length, hk] at hk'; have := (hf.fe k (Or.inr hk')).2; omega
theorem Mixed.mids (h : Mixed W w2 w3 ks hs n cA cE A E cut wx v j ra rb gs) (hw : ∀ x ∈ hs, ∀ v ∈ x.r, v.wf) (h60 : j ≤ 60) : Mid (onesOf ks ra) ∧ Mid (onesOf ks rb) ∧ ra.length + rb.length = gs.length := by
  have hall : ∀ r ∈ ra ++ rb, ∀ v ∈ r, fits v.n := by
    intro r hr v hv
    rw [← h.eq] at hr
    obtain ⟨x, hx, rfl⟩ := List.mem_map.1 hr
    exact (hw x (h.mem x hx).1 v hv).2.1
  have hl : ra.length + rb.length = gs.length := by
    have := congrArg List.length h.eq
    unfold rowsOf at this
    rw [List.length_map, List.length_append] at this
    exact this.symm
  have hf := h.few
  exact ⟨ones_small ks ra (fun r hr => hall r (List.mem_append_left _ hr)) (by omega), ones_small ks rb (fun r hr => hall r (List.mem_append_right _ hr)) (by omega), hl⟩
end
theorem rowsOf_snoc (gs : List RowH) (x : RowH) : rowsOf (gs ++ [x]) = rowsOf gs ++ [x.r] := by simp [rowsOf]
theorem rowCells_snoc (gs : List RowH) (x : RowH) : rowCells (gs ++ [x]) = rowCells gs ++ (#[Value.slice x.R x.n x.c] : Array Value).toList := by simp [rowCells]
theorem rowSlice : SliceTy Tryd.prog 24 38 (.slice none 0 0) 1 24 := SliceTy.of Tryd.underlying24 (by kernel_rfl) rfl (by decide) (by decide)
theorem kd_ok {k : Kd} (h : kdFault k = 0) (hc : ¬ isCount k.what) : 1 ≤ k.type ∧ k.type ≤ 3 := by
  unfold kdFault at h
  rw [if_neg hc] at h
  by_cases h1 : isSum k.what ∨ isLeast k.what = true ∨ isMost k.what = true
  · rw [if_pos h1] at h
    by_cases h2 : 1 ≤ k.type ∧ k.type ≤ 3
    · exact h2
    · rw [if_pos h2] at h; omega
  · rw [if_neg h1] at h; omega
set_option maxHeartbeats 8000000 in
set_option maxRecDepth 100000 in
theorem walk_good (A0 T0 R0 : Option Addr) (n c tc m rc : Nat) (cut : Int) (l : List AggH) (ts : List Int) (hs : List RowH) (W : World) (hG : ErrT W) (hl : SeesAggs W A0 n c l) (ht : Sees W T0 n tc 1 (intCells ts)) (hR : SeesRows W R0 m rc hs)
    (hw : ∀ x ∈ hs, ∀ v ∈ x.r, v.wf) (hnf : newFault l ts = 0) (h6 : n ≤ 6) :
    Calls Tryd.prog 3 #[.slice A0 n c, .slice T0 n tc, .slice R0 m rc, .int .i64 cut] W fun e W' => e = .returned (.bool true) ∧ Below W.heap.size W W' := by
  have HL := Lib.hid hl
  have HT := Lib.hid ht
  have HR := Lib.hid hR
  have HWF := Lib.hid hw
  have HG := Lib.hid hG
  have HNF := Lib.hid hnf
  have hcap := hl.2.2.1
  have hmax := hl.2.2.2.1
  have htc := ht.2.1
  have htm := ht.2.2.1
  have hrc := hR.1.2.1
  have hrm := hR.1.2.2.1
  unfold maxLen at hmax htm hrm
  have HTL := Lib.hid (show ts.length = l.length by rw [intCells_len ht, hl.1])
  have hnw : newAt (kdsOf l ts) = 0 := by
    unfold newFault at hnf
    rw [if_neg (by rw [HTL.out]; simp), if_neg (by rw [hl.1]; omega)] at hnf
    exact hnf
  have HK0 := Lib.hid (fun (j : Nat) (x : AggH) (t : Int) (h1 : l[j]? = some x) (h2 : ts[j]? = some t) => newAt_all hnw _ (List.mem_of_getElem? (kdsOf_at h1 h2)))
  have HKL := Lib.hid (show (kdsOf l ts).length = n by rw [kdsOf_length HTL.out, hl.1])
  have e0 : ((n : Int) != n) = false := by simp
  have d6 : decide (6 < n) = false := decide_eq_false (by omega)
  have d6' : decide (6 < (n : Int)) = false := decide_eq_false (by omega)
  clear hl ht hR hw hG hnf hnw
  go_enter Tryd.func3, Tryd.ntmps3
  go_wp2_with fail
  go_loopw [9, 10] (fun u v wx => ∃ j : Nat, j ≤ n ∧ u = .int .i64 0 ∧ v = .int .i64 j ∧ W = wx) (fun _ v _ => n - (intOf v).toNat)
  case atStart => exact ⟨0, by omega, rfl, rfl, rfl⟩
  case round =>
    obtain ⟨j, hj, rfl, rfl, rfl⟩ := hrel
    by_cases hlj : j < n
    · obtain ⟨ga, oa, x, rfl, -, hx, b0, -⟩ := HL.out.at_ hlj
      obtain ⟨gt, ot, t, rfl, ht, t0⟩ := ints_at HT.out hlj
      have hkd := HK0.out j x t hx ht
      by_cases hc : isCount x.what
      · have ec : (x.what.toList == [99, 111, 117, 110, 116]) = true := by rw [Lib.toList_data]; unfold isCount at hc; rw [hc]; rfl
        have es : (x.what.toList == [115, 117, 109]) = false := by rw [Lib.toList_data]; unfold isCount at hc; rw [hc]; rfl
        have gc : (x.what.toList != [99, 111, 117, 110, 116]) = false := by rw [bne, ec]; rfl
        clear hc hx ht hkd
        go_wp2_with fail
        go_roundw
        case rel => exact ⟨j + 1, by omega, rfl, by go_num, by trivial⟩
        case measure => simp [intOf]; omega
      · have hty := kd_ok hkd hc
        have hwd := kdFault_word hkd hc
        have ec : (x.what.toList == [99, 111, 117, 110, 116]) = false := by rw [Lib.toList_data]; exact beq_eq_false_iff_ne.2 hc
        have gc : (x.what.toList != [99, 111, 117, 110, 116]) = true := by rw [bne, ec]; rfl
        have d1 : decide (t < 1) = false := decide_eq_false (by have := hty.1; simp at this; omega)
        have d2 : decide (3 < t) = false := decide_eq_false (by have := hty.2; simp at this; omega)
        rcases hwd with ⟨hs, h1⟩ | ⟨hs, hlm⟩
        · have es : (x.what.toList == [115, 117, 109]) = true := by rw [Lib.toList_data]; unfold isSum at hs; simp at hs; rw [hs]; rfl
          have gs : (x.what.toList != [115, 117, 109]) = false := by rw [bne, es]; rfl
          have h1 : t = 1 := h1
          subst h1
          clear hc hx ht hkd hty hs d1 d2
          go_wp2_with fail
          go_roundw
          case rel => exact ⟨j + 1, by omega, rfl, by go_num, by trivial⟩
          case measure => simp [intOf]; omega
        · have es : (x.what.toList == [115, 117, 109]) = false := by rw [Lib.toList_data]; exact beq_eq_false_iff_ne.2 hs
          have gs : (x.what.toList != [115, 117, 109]) = true := by rw [bne, es]; rfl
          by_cases hl : isLeast x.what = true
          · have el : (x.what.toList == [108, 101, 97, 115, 116]) = true := by rw [Lib.toList_data]; exact hl
            have gl : (x.what.toList != [108, 101, 97, 115, 116]) = false := by rw [bne, el]; rfl
            clear hc hx ht hkd hty hs hl hlm
            go_wp2_with fail
            go_roundw
            case rel => exact ⟨j + 1, by omega, rfl, by go_num, by trivial⟩
            case measure => simp [intOf]; omega
          · have hm : isMost x.what = true := hlm.resolve_left hl
            have el : (x.what.toList == [108, 101, 97, 115, 116]) = false := by rw [Lib.toList_data]; simpa [isLeast] using hl
            have gl : (x.what.toList != [108, 101, 97, 115, 116]) = true := by rw [bne, el]; rfl
            have em : (x.what.toList == [109, 111, 115, 116]) = true := by rw [Lib.toList_data]; exact hm
            have gm : (x.what.toList != [109, 111, 115, 116]) = false := by rw [bne, em]; rfl
            clear hc hx ht hkd hty hs hl hlm hm
            go_wp2_with fail
            go_roundw
            case rel => exact ⟨j + 1, by omega, rfl, by go_num, by trivial⟩
            case measure => simp [intOf]; omega
    · obtain rfl : n = j := by omega
      have HN := Lib.hid (fun w' (hb : Below W.heap.size W w') => new_good (HL.out.keep hb) (HT.out.keep hb) HNF.out)
      go_wp2_with fail
      refine (HN.out W (Below.refl _ _)).mono ?_
      rintro e w1 ⟨⟨A, cA, rfl, ha⟩, hb1⟩
      have HA1 := Lib.hid ha
      have HB1 := Lib.hid hb1
      clear ha hb1
      go_wp2_with fail
      refine (same_err .nilIface 0 0 w1 (HG.out.keep HB1.out) (Or.inl ⟨rfl, rfl⟩)).mono ?_
      rintro e w2 ⟨rfl, hb2⟩
      have HA2 := Lib.hid (HA1.out.keep hb2)
      have HB2 := Lib.hid (below_step HB1.out hb2)
      clear hb2
      go_wp2_with fail
      refine (HN.out w2 HB2.out).mono ?_
      rintro e w3 ⟨⟨E, cE, rfl, he⟩, hb3⟩
      have HA3 := Lib.hid (HA2.out.keep hb3)
      have HB3 := Lib.hid (below_step HB2.out hb3)
      have HE3 := Lib.hid he
      have hlen0 : (onesOf (kdsOf l ts) []).length = n := by rw [onesOf_length, HKL.out]
      have HFT := Lib.hid (show Feet W w2 w3 n cA cE A E from ⟨by
        rintro k (rfl | hk)
        · exact ⟨Nat.le_refl _, HA2.out.lt⟩
        · have := HA2.out.own.lt k (by rw [hlen0]; exact hk); exact this, by
        rintro k (rfl | hk)
        · exact ⟨Nat.le_refl _, HE3.out.lt⟩
        · have := HE3.out.own.lt k (by rw [hlen0]; exact hk); exact this, HB2.out.size, hb3.size⟩)
      have HM0 := Lib.hid (show Mixed W w2 w3 (kdsOf l ts) hs n cA cE A E cut w3 (.slice none 0 0) 0 [] [] [] from
        ⟨HA3.out, HE3.out, World.ownsRow_nil _ _ _ _, rfl, (fun x hx => by cases hx), goodFor_nil _, goodFor_nil _, goodFor_nil _, Or.inl rfl, Nat.le_refl _, HB3.out, Nat.le_refl _⟩)
      clear he hb3 hlen0
      go_wp2_with fail
      go_loopw [16, 17] (fun v i wx => ∃ (j : Nat) (ra rb : List (List Val)) (gs : List RowH), j ≤ m ∧ j ≤ 60 ∧ i = .int .i64 j ∧ Mixed W w2 w3 (kdsOf l ts) hs n cA cE A E cut wx v j ra rb gs) (fun _ i _ => m - (intOf i).toNat)
      case atStart => exact ⟨0, [], [], [], by omega, by omega, rfl, HM0.out⟩
      case round =>
        obtain ⟨j, ra, rb, gs, hjm, hj60, rfl, hmx⟩ := hrel
        have HMX := Lib.hid hmx
        have hlow := hmx.low
        clear hmx
        by_cases hlj : j < m
        · by_cases hl60 : j < 60
          · have d60 : decide (j < 60) = true := decide_eq_true hl60
            obtain ⟨gr, og, ⟨R2, xn, xc, xr⟩, rfl, hx, hsv, r0⟩ := (HR.out.keep hlow).at_ hlj
            have hmem := List.mem_of_getElem? hx
            have HSV := Lib.hid (show SeesVals wr R2 xn xc xr from hsv)
            have HSW := Lib.hid (show SeesVals W R2 xn xc xr from HR.out.2 _ hmem)
            have HWX := Lib.hid (show ∀ v ∈ xr, v.wf from HWF.out _ hmem)
            have HMEM := Lib.hid hmem
            have hxc : xn ≤ xc := HSV.out.2.2.1
            have hxm : xc ≤ 2 ^ 63 - 1 := HSV.out.2.2.2.1
            have HXL := Lib.hid (show xr.length = xn from HSV.out.1)
            have r0 : wr.cell? ⟨gr, og + j, none⟩ = some (.slice R2 xn xc) := r0
            obtain ⟨F, hF⟩ : ∃ F, rowFault (kdsOf l ts) xr = F := ⟨_, rfl⟩
            have HF := Lib.hid hF
            have hF2 := hF
            unfold rowFault at hF2
            rw [HXL.out, HKL.out] at hF2
            clear hx hsv hmem hlow hF
            obtain ⟨wo, hwo⟩ : ∃ wo, wo = wr := ⟨_, rfl⟩
            subst hwo
            by_cases hxn : xn = n
            · rw [if_neg (by simpa using hxn)] at hF2
              obtain rfl : n = xn := hxn.symm
              have dxn : ((n : Int) != n) = false := by simp
              clear hxn
              have HF0 := Lib.hid (show F = faultAt ((kdsOf l ts).drop 0) (xr.drop 0) from hF2.symm)
              clear hF2
              go_wp2_with fail
              go_loopw [9, 19] (fun u v wx => ∃ (q : Int) (k : Nat), u = .int .i64 q ∧ v = .int .i64 k ∧ k ≤ n ∧ Below wo.heap.size wo wx ∧ ((q ≠ 0 ∧ F = q) ∨ (q = 0 ∧ F = faultAt ((kdsOf l ts).drop k) (xr.drop k)))) (fun _ v _ => n - (intOf v).toNat)
              case atStart => exact ⟨0, 0, rfl, rfl, by omega, Below.refl _ _, Or.inr ⟨rfl, HF0.out⟩⟩
              case round =>
                obtain ⟨q, k, rfl, rfl, hk, hbx, hq⟩ := hrel
                have HBX := Lib.hid hbx
                rcases hq with ⟨hq0, rfl⟩ | ⟨rfl, hFk⟩
                · have HMY := Lib.hid (HMX.out.keep HBX.out)
                  have HMI := Lib.hid (HMX.out.mids HWF.out hj60)
                  have HFAR := Lib.hid (show ∀ q, W.heap.size ≤ q → 0 < n → ∀ ad, R2 = some ad → ad.block ≠ q from fun q hq h0 ad ead => by
                    obtain ⟨g9, o9, e9, h9, -⟩ := HSW.out.2.2.2.2.2 h0
                    rw [ead] at e9; injection e9 with e9; rw [e9]; show g9 ≠ q; omega)
                  have dff : ((F : Int) == F) = true := by simp
                  have dnz : ((F : Int) == 0) = false := by simpa using hq0
                  by_cases hcut : (j : Int) < cut
                  · have dcut : decide ((j : Int) < cut) = true := decide_eq_true hcut
                    have hlrr : ra.length ≤ 60 := by have := HMI.out.2.2; have := HMX.out.few; omega
                    have T := Lib.hid (put_any W.heap.size W.heap.size cA ra.length n xc A R2 (onesOf (kdsOf l ts) ra) xr wr HMY.out.a (HSV.out.keep HBX.out) HWX.out HMI.out.1 (by omega) (fun h0 ad ead hft => by
                      rw [onesOf_length, HKL.out] at hft
                      have h7 := HFT.out.fa ad.block hft
                      have h8 := HFT.out.le1
                      exact HFAR.out ad.block (by omega) h0 ad ead rfl))
                    unfold AddRowSays at T
                    rw [kds_ones] at T
                    rw [HF.out] at T
                    go_wp2_with fail
                    all_goals
                      refine (T.out).mono ?_
                      rintro e w4 ⟨rfl, hy4, hacc⟩
                      obtain ⟨hoth, hg4, hlow4, hbig4⟩ := HMY.out.turnA HFT.out HKL.out hy4
                      have HOTH := Lib.hid hoth
                      have HG4 := Lib.hid hg4
                      have HLOW4 := Lib.hid hlow4
                      have HBIG4 := Lib.hid hbig4
                      rw [if_neg (by simpa using hq0)] at hacc
                      have HACC := Lib.hid hacc
                      clear hy4 hacc hoth hg4 hlow4 hbig4
                      go_wp2_with fail
                      refine (same_err (errV F) F F w4 (HG.out.keep HLOW4.out) (errIs F)).mono ?_
                      rintro e w5 ⟨rfl, hb5⟩
                      rw [dff]
                      have HACC5 := Lib.hid (HACC.out.keep hb5)
                      have HOTH5 := Lib.hid (HOTH.out.keep hb5)
                      have HLOW5 := Lib.hid (below_step HLOW4.out hb5)
                      have HBIG5 := Lib.hid (Nat.le_trans HBIG4.out hb5.size)
                      have hg5 := own_keep HG4.out hb5
                      have HG5 := Lib.hid hg5
                      clear hb5 hg5
                      go_wp2_with fail
                      go_roundw
                      case rel => exact ⟨j + 1, ra, rb, gs, by omega, by omega, by go_num, ⟨HACC5.out, HOTH5.out, HG5.out, HMX.out.eq, HMX.out.mem, HMX.out.ga, HMX.out.gb, HMX.out.gab, HMX.out.late.imp id (fun h => by omega), by have := HMX.out.few; omega, HLOW5.out, HBIG5.out⟩⟩
                      case measure => simp [intOf]; omega
                  · have dcut : decide ((j : Int) < cut) = false := decide_eq_false hcut
                    have hlrr : rb.length ≤ 60 := by have := HMI.out.2.2; have := HMX.out.few; omega
                    have T := Lib.hid (put_any w2.heap.size w2.heap.size cE rb.length n xc E R2 (onesOf (kdsOf l ts) rb) xr wr HMY.out.b (HSV.out.keep HBX.out) HWX.out HMI.out.2.1 (by omega) (fun h0 ad ead hft => by
                      rw [onesOf_length, HKL.out] at hft
                      have h7 := HFT.out.fe ad.block hft
                      have h8 := HFT.out.le1
                      exact HFAR.out ad.block (by omega) h0 ad ead rfl))
                    unfold AddRowSays at T
                    rw [kds_ones] at T
                    rw [HF.out] at T
                    go_wp2_with fail
                    all_goals
                      refine (T.out).mono ?_
                      rintro e w4 ⟨rfl, hy4, hacc⟩
                      obtain ⟨hoth, hg4, hlow4, hbig4⟩ := HMY.out.turnE HFT.out HKL.out hy4
                      have HOTH := Lib.hid hoth
                      have HG4 := Lib.hid hg4
                      have HLOW4 := Lib.hid hlow4
                      have HBIG4 := Lib.hid hbig4
                      rw [if_neg (by simpa using hq0)] at hacc
                      have HACC := Lib.hid hacc
                      clear hy4 hacc hoth hg4 hlow4 hbig4
                      go_wp2_with fail
                      refine (same_err (errV F) F F w4 (HG.out.keep HLOW4.out) (errIs F)).mono ?_
                      rintro e w5 ⟨rfl, hb5⟩
                      rw [dff]
                      have HACC5 := Lib.hid (HACC.out.keep hb5)
                      have HOTH5 := Lib.hid (HOTH.out.keep hb5)
                      have HLOW5 := Lib.hid (below_step HLOW4.out hb5)
                      have HBIG5 := Lib.hid (Nat.le_trans HBIG4.out hb5.size)
                      have hg5 := own_keep HG4.out hb5
                      have HG5 := Lib.hid hg5
                      clear hb5 hg5
                      go_wp2_with fail
                      go_roundw
                      case rel => exact ⟨j + 1, ra, rb, gs, by omega, by omega, by go_num, ⟨HOTH5.out, HACC5.out, HG5.out, HMX.out.eq, HMX.out.mem, HMX.out.ga, HMX.out.gb, HMX.out.gab, HMX.out.late.imp id (fun h => by omega), by have := HMX.out.few; omega, HLOW5.out, HBIG5.out⟩⟩
                      case measure => simp [intOf]; omega
                · have HFK := Lib.hid hFk
                  clear hFk
                  by_cases hkx : k < n
                  · have HLOWX := Lib.hid (below_step HMX.out.low hbx)
                    obtain ⟨ga, oa, x, rfl, -, hxx, b0, -⟩ := (HL.out.keep HLOWX.out).at_ hkx
                    obtain ⟨gt, ot, t, rfl, ht, t0⟩ := ints_at (HT.out.keep HLOWX.out) hkx
                    obtain ⟨g2, o2, v2, rfl, -, hv, c0, c1, c2⟩ := (HSV.out.keep hbx).at_ hkx
                    have hgt : gt < wr.heap.size := World.block_lt_of_cell? wr _ t0
                    have hg2 : g2 < wr.heap.size := World.block_lt_of_cell? wr _ c0
                    have hkd := kdsOf_at hxx ht
                    have HST := Lib.hid (HFK.out.trans (faultAt_step hkd hv))
                    have HVW := Lib.hid (HWX.out v2 (List.mem_of_getElem? hv))
                    have HF1 := Lib.hid (show fault1 ⟨x.what, t⟩ v2 = if isCount x.what then 0 else if vcheck v2 ≠ 0 then vcheck v2 else if v2.type ≠ t then 8 else 0 from rfl)
                    clear hkd hxx ht hv hbx
                    by_cases hc : isCount x.what
                    · have ec : (x.what.toList == [99, 111, 117, 110, 116]) = true := by rw [Lib.toList_data]; unfold isCount at hc; rw [hc]; rfl
                      have E1 := Lib.hid (HF1.out.trans (if_pos hc))
                      clear hc
                      go_wp2_with fail
                      go_roundw
                      case rel => exact ⟨0, k + 1, rfl, by go_num, by omega, HBX.out, Or.inr ⟨rfl, HST.out.trans (if_neg (fun h => h E1.out))⟩⟩
                      case measure => simp [intOf]; omega
                    · have ec : (x.what.toList == [99, 111, 117, 110, 116]) = false := by rw [Lib.toList_data]; exact beq_eq_false_iff_ne.2 hc
                      rw [if_neg hc] at HF1
                      have T := Lib.hid (fun w' => rval_any v2 w' HVW.out.2.2)
                      unfold ValSays at T
                      obtain ⟨vc, hvc⟩ : ∃ vc, vcheck v2 = vc := ⟨_, rfl⟩
                      rw [hvc] at T HF1
                      clear hc hvc
                      go_wp2_with fail
                      refine (T.out wr).mono ?_
                      rintro e w4 ⟨rfl, hb4⟩
                      have HB4 := Lib.hid (HBX.out.trans (hb4.mono HBX.out.size))
                      have t1 := (hb4.cell (p := ⟨gt, ot + k, none⟩) hgt).trans t0
                      have y0 := (hb4.cell (p := ⟨g2, o2 + k * 3, none⟩) hg2).trans c0
                      clear hb4 t0 c0 c1 c2 b0
                      by_cases hvc : vc = 0
                      · subst hvc
                        rw [if_neg (by simp)] at HF1
                        by_cases hty : v2.type = t
                        · have dty : (v2.type == t) = true := by simpa using hty
                          have dtn : (v2.type != t) = false := by simpa using hty
                          have E1 := Lib.hid (HF1.out.trans (if_neg (fun h => h hty)))
                          clear hty
                          go_wp2_with fail
                          go_quiet (fail)
                          go_wp2_with fail
                          go_roundw
                          case rel => exact ⟨0, k + 1, rfl, by go_num, by omega, below_drewN HB4.out nq, Or.inr ⟨rfl, HST.out.trans (if_neg (fun h => h E1.out))⟩⟩
                          case measure => simp [intOf]; omega
                        · have dty : (v2.type == t) = false := by simpa using hty
                          have dtn : (v2.type != t) = true := by simpa using hty
                          have E1 := Lib.hid (HF1.out.trans (if_pos hty))
                          clear hty
                          go_wp2_with fail
                          go_quiet (fail)
                          go_wp2_with fail
                          go_roundw
                          case rel => exact ⟨8, k + 1, rfl, by go_num, by omega, below_drewN HB4.out nq, Or.inl ⟨by decide, HST.out.trans ((if_pos (by rw [E1.out]; decide)).trans E1.out)⟩⟩
                          case measure => simp [intOf]; omega
                      · have dvc : (vc == 0) = false := by simpa using hvc
                        have HVC := Lib.hid hvc
                        rw [if_pos hvc] at HF1
                        clear hvc
                        go_wp2_with fail
                        go_quiet (fail)
                        go_wp2_with fail
                        go_roundw
                        case rel => exact ⟨vc, k + 1, rfl, by go_num, by omega, below_drewN HB4.out nq, Or.inl ⟨HVC.out, HST.out.trans ((if_pos (by rw [HF1.out]; exact HVC.out)).trans HF1.out)⟩⟩
                        case measure => simp [intOf]; omega
                  · have HFA := Lib.hid (show faultAt (kdsOf l ts) xr = 0 from HF0.out.symm.trans (HFK.out.trans (faultAt_end (kdsOf l ts) xr (j := k) (by rw [HKL.out]; omega))))
                    obtain rfl : F = 0 := HF0.out.trans HFA.out
                    have HMY := Lib.hid (HMX.out.keep HBX.out)
                    have HMI := Lib.hid (HMX.out.mids HWF.out hj60)
                    have HFAR := Lib.hid (show ∀ q, W.heap.size ≤ q → 0 < n → ∀ ad, R2 = some ad → ad.block ≠ q from fun q hq h0 ad ead => by
                      obtain ⟨g9, o9, e9, h9, -⟩ := HSW.out.2.2.2.2.2 h0
                      rw [ead] at e9; injection e9 with e9; rw [e9]; show g9 ≠ q; omega)
                    have dff : ((0 : Int) == 0) = true := by simp
                    have HF1 := Lib.hid (show rowFault (kdsOf l ts) xr = 0 from HF.out)
                    by_cases hcut : (j : Int) < cut
                    · have dcut : decide ((j : Int) < cut) = true := decide_eq_true hcut
                      have hlrr : ra.length ≤ 60 := by have := HMI.out.2.2; have := HMX.out.few; omega
                      have T := Lib.hid (put_any W.heap.size W.heap.size cA ra.length n xc A R2 (onesOf (kdsOf l ts) ra) xr wr HMY.out.a (HSV.out.keep HBX.out) HWX.out HMI.out.1 (by omega) (fun h0 ad ead hft => by
                        rw [onesOf_length, HKL.out] at hft
                        have h7 := HFT.out.fa ad.block hft
                        have h8 := HFT.out.le1
                        exact HFAR.out ad.block (by omega) h0 ad ead rfl))
                      unfold AddRowSays at T
                      rw [kds_ones] at T
                      rw [HF1.out] at T
                      go_wp2_with fail
                      refine (T.out).mono ?_
                      rintro e w4 ⟨rfl, hy4, hacc⟩
                      obtain ⟨hoth, hg4, hlow4, hbig4⟩ := HMY.out.turnA HFT.out HKL.out hy4
                      have HOTH := Lib.hid hoth
                      have HG4 := Lib.hid hg4
                      have HLOW4 := Lib.hid hlow4
                      have HBIG4 := Lib.hid hbig4
                      rw [if_pos trivial, addRow_ones _ _ _ (by rw [HXL.out, HKL.out])] at hacc
                      have HACC := Lib.hid hacc
                      clear hy4 hacc hoth hg4 hlow4 hbig4
                      go_wp2_with fail
                      refine (same_err (errV 0) 0 0 w4 (HG.out.keep HLOW4.out) (errIs 0)).mono ?_
                      rintro e w5 ⟨rfl, hb5⟩
                      rw [dff]
                      have HACC5 := Lib.hid (HACC.out.keep hb5)
                      have HOTH5 := Lib.hid (HOTH.out.keep hb5)
                      have HLOW5 := Lib.hid (below_step HLOW4.out hb5)
                      have HBIG5 := Lib.hid (Nat.le_trans HBIG4.out hb5.size)
                      have hg5 := own_keep HG4.out hb5
                      have hb6 : Below w3.heap.size w5 w5 := Below.refl _ _
                      have hbig := HBIG5.out
                      have hgl : gs.length ≤ 60 := by have := HMX.out.few; omega
                      clear hb5
                      go_wp2_with (first
                        | (at_builtin; refine wpList_append_one rowSlice rfl _ _ rfl rfl rfl hg5 hb6 hbig rfl (by intro u hu; simp at hu; subst hu; rfl) (by omega) ?_; intro v1 w6 hown6 hb7 _))
                      have HOWN6 := Lib.hid hown6
                      have HB7 := Lib.hid hb7
                      clear hown6 hb7 hg5
                      go_roundw
                      case rel =>
                        have hrb : rb = [] := HMX.out.late.resolve_right (by omega)
                        obtain ⟨ga6, gb6⟩ := Mixed.grow (ra := ra ++ [xr]) (rb := rb) HFT.out HKL.out (by rw [List.length_append]; exact HACC5.out) HOTH5.out HB7.out
                        have hgood := fault_good (kdsOf l ts) ra xr HMX.out.ga (by rw [HXL.out, HKL.out]) (HFA.out)
                        refine ⟨j + 1, ra ++ [xr], rb, gs ++ [⟨R2, n, xc, xr⟩], by omega, by omega, by go_num, ⟨ga6, gb6, by rw [rowCells_snoc, List.length_append]; exact HOWN6.out, by rw [rowsOf_snoc, HMX.out.eq, hrb]; simp, ?_, hgood, HMX.out.gb, by rw [hrb, List.append_nil]; exact hgood, Or.inl hrb, by have := HMX.out.few; rw [List.length_append]; simp; omega, HLOW5.out.trans (HB7.out.mono (by have := HFT.out.le1; have := HFT.out.le2; omega)), Nat.le_trans hbig HB7.out.size⟩⟩
                        intro y hy
                        rcases List.mem_append.1 hy with hy | hy
                        · exact HMX.out.mem y hy
                        · obtain rfl := List.mem_singleton.1 hy
                          exact ⟨HMEM.out, rfl⟩
                      case measure => simp [intOf]; omega
                    · have dcut : decide ((j : Int) < cut) = false := decide_eq_false hcut
                      have hlrr : rb.length ≤ 60 := by have := HMI.out.2.2; have := HMX.out.few; omega
                      have T := Lib.hid (put_any w2.heap.size w2.heap.size cE rb.length n xc E R2 (onesOf (kdsOf l ts) rb) xr wr HMY.out.b (HSV.out.keep HBX.out) HWX.out HMI.out.2.1 (by omega) (fun h0 ad ead hft => by
                        rw [onesOf_length, HKL.out] at hft
                        have h7 := HFT.out.fe ad.block hft
                        have h8 := HFT.out.le1
                        exact HFAR.out ad.block (by omega) h0 ad ead rfl))
                      unfold AddRowSays at T
                      rw [kds_ones] at T
                      rw [HF1.out] at T
                      go_wp2_with fail
                      refine (T.out).mono ?_
                      rintro e w4 ⟨rfl, hy4, hacc⟩
                      obtain ⟨hoth, hg4, hlow4, hbig4⟩ := HMY.out.turnE HFT.out HKL.out hy4
                      have HOTH := Lib.hid hoth
                      have HG4 := Lib.hid hg4
                      have HLOW4 := Lib.hid hlow4
                      have HBIG4 := Lib.hid hbig4
                      rw [if_pos trivial, addRow_ones _ _ _ (by rw [HXL.out, HKL.out])] at hacc
                      have HACC := Lib.hid hacc
                      clear hy4 hacc hoth hg4 hlow4 hbig4
                      go_wp2_with fail
                      refine (same_err (errV 0) 0 0 w4 (HG.out.keep HLOW4.out) (errIs 0)).mono ?_
                      rintro e w5 ⟨rfl, hb5⟩
                      rw [dff]
                      have HACC5 := Lib.hid (HACC.out.keep hb5)
                      have HOTH5 := Lib.hid (HOTH.out.keep hb5)
                      have HLOW5 := Lib.hid (below_step HLOW4.out hb5)
                      have HBIG5 := Lib.hid (Nat.le_trans HBIG4.out hb5.size)
                      have hg5 := own_keep HG4.out hb5
                      have hb6 : Below w3.heap.size w5 w5 := Below.refl _ _
                      have hbig := HBIG5.out
                      have hgl : gs.length ≤ 60 := by have := HMX.out.few; omega
                      clear hb5
                      go_wp2_with (first
                        | (at_builtin; refine wpList_append_one rowSlice rfl _ _ rfl rfl rfl hg5 hb6 hbig rfl (by intro u hu; simp at hu; subst hu; rfl) (by omega) ?_; intro v1 w6 hown6 hb7 _))
                      have HOWN6 := Lib.hid hown6
                      have HB7 := Lib.hid hb7
                      clear hown6 hb7 hg5
                      go_roundw
                      case rel =>
                        obtain ⟨ga6, gb6⟩ := Mixed.grow (ra := ra) (rb := rb ++ [xr]) HFT.out HKL.out HOTH5.out (by rw [List.length_append]; exact HACC5.out) HB7.out
                        have hgood := fault_good (kdsOf l ts) rb xr HMX.out.gb (by rw [HXL.out, HKL.out]) (HFA.out)
                        have hgood2 := fault_good (kdsOf l ts) (ra ++ rb) xr HMX.out.gab (by rw [HXL.out, HKL.out]) (HFA.out)
                        refine ⟨j + 1, ra, rb ++ [xr], gs ++ [⟨R2, n, xc, xr⟩], by omega, by omega, by go_num, ⟨ga6, gb6, by rw [rowCells_snoc, List.length_append]; exact HOWN6.out, by rw [rowsOf_snoc, HMX.out.eq, List.append_assoc], ?_, HMX.out.ga, hgood, by rw [← List.append_assoc]; exact hgood2, Or.inr (by omega), by have := HMX.out.few; rw [List.length_append]; simp; omega, HLOW5.out.trans (HB7.out.mono (by have := HFT.out.le1; have := HFT.out.le2; omega)), Nat.le_trans hbig HB7.out.size⟩⟩
                        intro y hy
                        rcases List.mem_append.1 hy with hy | hy
                        · exact HMX.out.mem y hy
                        · obtain rfl := List.mem_singleton.1 hy
                          exact ⟨HMEM.out, rfl⟩
                      case measure => simp [intOf]; omega
            · rw [if_pos hxn] at hF2
              have dxn : ((xn : Int) != n) = true := by simp; omega
              subst hF2
              have hq0 : (3 : Int) ≠ 0 := by decide
              have HF3 := HF
              have hbx := Below.refl wo.heap.size wo
              have HBX := Lib.hid hbx
              go_wp2_with fail
              go_loopw [9, 19] (fun u v wx => u = .int .i64 3 ∧ v = .int .i64 0 ∧ wo = wx) (fun _ _ _ => 0)
              case atStart => exact ⟨rfl, rfl, rfl⟩
              case round =>
                obtain ⟨rfl, rfl, rfl⟩ := hrel
                clear hxn
                have HMY := Lib.hid (HMX.out.keep HBX.out)
                have HMI := Lib.hid (HMX.out.mids HWF.out hj60)
                have HFAR := Lib.hid (show ∀ q, W.heap.size ≤ q → 0 < xn → ∀ ad, R2 = some ad → ad.block ≠ q from fun q hq h0 ad ead => by
                  obtain ⟨g9, o9, e9, h9, -⟩ := HSW.out.2.2.2.2.2 h0
                  rw [ead] at e9; injection e9 with e9; rw [e9]; show g9 ≠ q; omega)
                have dff : ((3 : Int) == 3) = true := by simp
                have dnz : ((3 : Int) == 0) = false := by decide
                by_cases hcut : (j : Int) < cut
                · have dcut : decide ((j : Int) < cut) = true := decide_eq_true hcut
                  have hlrr : ra.length ≤ 60 := by have := HMI.out.2.2; have := HMX.out.few; omega
                  have T := Lib.hid (put_any W.heap.size W.heap.size cA ra.length xn xc A R2 (onesOf (kdsOf l ts) ra) xr wo HMY.out.a (HSV.out.keep HBX.out) HWX.out HMI.out.1 (by omega) (fun h0 ad ead hft => by
                    rw [onesOf_length, HKL.out] at hft
                    have h7 := HFT.out.fa ad.block hft
                    have h8 := HFT.out.le1
                    exact HFAR.out ad.block (by omega) h0 ad ead rfl))
                  unfold AddRowSays at T
                  rw [kds_ones] at T
                  rw [HF.out] at T
                  go_wp2_with fail
                  all_goals
                    refine (T.out).mono ?_
                    rintro e w4 ⟨rfl, hy4, hacc⟩
                    obtain ⟨hoth, hg4, hlow4, hbig4⟩ := HMY.out.turnA HFT.out HKL.out hy4
                    have HOTH := Lib.hid hoth
                    have HG4 := Lib.hid hg4
                    have HLOW4 := Lib.hid hlow4
                    have HBIG4 := Lib.hid hbig4
                    rw [if_neg (by decide)] at hacc
                    have HACC := Lib.hid hacc
                    clear hy4 hacc hoth hg4 hlow4 hbig4
                    go_wp2_with fail
                    refine (same_err (errV 3) 3 3 w4 (HG.out.keep HLOW4.out) (errIs 3)).mono ?_
                    rintro e w5 ⟨rfl, hb5⟩
                    rw [dff]
                    have HACC5 := Lib.hid (HACC.out.keep hb5)
                    have HOTH5 := Lib.hid (HOTH.out.keep hb5)
                    have HLOW5 := Lib.hid (below_step HLOW4.out hb5)
                    have HBIG5 := Lib.hid (Nat.le_trans HBIG4.out hb5.size)
                    have hg5 := own_keep HG4.out hb5
                    have HG5 := Lib.hid hg5
                    clear hb5 hg5
                    go_wp2_with fail
                    go_roundw
                    case rel => exact ⟨j + 1, ra, rb, gs, by omega, by omega, by go_num, ⟨HACC5.out, HOTH5.out, HG5.out, HMX.out.eq, HMX.out.mem, HMX.out.ga, HMX.out.gb, HMX.out.gab, HMX.out.late.imp id (fun h => by omega), by have := HMX.out.few; omega, HLOW5.out, HBIG5.out⟩⟩
                    case measure => simp [intOf]; omega
                · have dcut : decide ((j : Int) < cut) = false := decide_eq_false hcut
                  have hlrr : rb.length ≤ 60 := by have := HMI.out.2.2; have := HMX.out.few; omega
                  have T := Lib.hid (put_any w2.heap.size w2.heap.size cE rb.length xn xc E R2 (onesOf (kdsOf l ts) rb) xr wo HMY.out.b (HSV.out.keep HBX.out) HWX.out HMI.out.2.1 (by omega) (fun h0 ad ead hft => by
                    rw [onesOf_length, HKL.out] at hft
                    have h7 := HFT.out.fe ad.block hft
                    have h8 := HFT.out.le1
                    exact HFAR.out ad.block (by omega) h0 ad ead rfl))
                  unfold AddRowSays at T
                  rw [kds_ones] at T
                  rw [HF.out] at T
                  go_wp2_with fail
                  all_goals
                    refine (T.out).mono ?_
                    rintro e w4 ⟨rfl, hy4, hacc⟩
                    obtain ⟨hoth, hg4, hlow4, hbig4⟩ := HMY.out.turnE HFT.out HKL.out hy4
                    have HOTH := Lib.hid hoth
                    have HG4 := Lib.hid hg4
                    have HLOW4 := Lib.hid hlow4
                    have HBIG4 := Lib.hid hbig4
                    rw [if_neg (by decide)] at hacc
                    have HACC := Lib.hid hacc
                    clear hy4 hacc hoth hg4 hlow4 hbig4
                    go_wp2_with fail
                    refine (same_err (errV 3) 3 3 w4 (HG.out.keep HLOW4.out) (errIs 3)).mono ?_
                    rintro e w5 ⟨rfl, hb5⟩
                    rw [dff]
                    have HACC5 := Lib.hid (HACC.out.keep hb5)
                    have HOTH5 := Lib.hid (HOTH.out.keep hb5)
                    have HLOW5 := Lib.hid (below_step HLOW4.out hb5)
                    have HBIG5 := Lib.hid (Nat.le_trans HBIG4.out hb5.size)
                    have hg5 := own_keep HG4.out hb5
                    have HG5 := Lib.hid hg5
                    clear hb5 hg5
                    go_wp2_with fail
                    go_roundw
                    case rel => exact ⟨j + 1, ra, rb, gs, by omega, by omega, by go_num, ⟨HOTH5.out, HACC5.out, HG5.out, HMX.out.eq, HMX.out.mem, HMX.out.ga, HMX.out.gb, HMX.out.gab, HMX.out.late.imp id (fun h => by omega), by have := HMX.out.few; omega, HLOW5.out, HBIG5.out⟩⟩
                    case measure => simp [intOf]; omega
          · have d60 : decide (j < 60) = false := decide_eq_false hl60
            have HMI := Lib.hid (HMX.out.mids HWF.out hj60)
            have hgl : gs.length ≤ 60 := by have := HMX.out.few; omega
            have hrl : ra.length + rb.length = gs.length := HMI.out.2.2
            have HRL := Lib.hid hrl
            obtain ⟨T', tc', hv', hsg⟩ := Sees.of_own HMX.out.g
            subst hv'
            have HSG := Lib.hid hsg
            have HGA := Lib.hid HMX.out.a
            have HJ := Lib.hid (join_any W.heap.size W.heap.size cA ra.length w2.heap.size cE rb.length A E (onesOf (kdsOf l ts) ra) (onesOf (kdsOf l ts) rb) wr HMX.out.a
              ⟨HMX.out.b.box, Nat.le_trans HFT.out.le1 HMX.out.b.low, own_low HMX.out.b.own HFT.out.le1, HMX.out.b.off⟩ (by rw [kds_ones, kds_ones]) HMI.out.1 HMI.out.2.1 (by omega) (by rw [onesOf_length, HKL.out]; omega)
              (fun h => by rw [onesOf_length, HKL.out] at h; have := (HFT.out.fa _ h).2; omega))
            have HJN := Lib.hid (show (if rb.length = 0 then onesOf (kdsOf l ts) ra else joinOnes (onesOf (kdsOf l ts) ra) (onesOf (kdsOf l ts) rb) (ra.length == 0)) = onesOf (kdsOf l ts) (ra ++ rb) by
              by_cases h : rb.length = 0
              · rw [if_pos h, List.length_eq_zero_iff.1 h, List.append_nil]
              · rw [if_neg h]; exact joinOnes_ones _ _ _ HMX.out.ga HMX.out.gb h)
            unfold JoinSays at HJ
            rw [HJN.out, hrl] at HJ
            clear hsg hrl
            go_wp2_with fail
            refine (HJ.out).mono ?_
            rintro e w4 ⟨rfl, hy, hacc⟩
            obtain ⟨-, hg4, hlow4, -⟩ := HMX.out.turnA HFT.out HKL.out hy
            have HACC := Lib.hid hacc
            have HLOW4 := Lib.hid hlow4
            obtain ⟨T2, tc2, hv2, hs4⟩ := Sees.of_own hg4
            injection hv2 with hv3 hv4 hv5
            subst hv3 hv5
            have HT4 := Lib.hid (total_any A0 T' n c gs.length tc' l ts gs w4 (HL.out.keep HLOW4.out) ⟨hs4, fun y hy => (HR.out.2 y (HMX.out.mem y hy).1).keep HLOW4.out⟩ (fun y hy => (HMX.out.mem y hy).2) HTL.out (by rw [HMX.out.eq]; exact HMX.out.gab) (fun y hy => HWF.out y (HMX.out.mem y hy).1) (by omega) (by omega))
            have HR4 := Lib.hid (fun w' hb => resultAll_any W.heap.size W.heap.size cA gs.length A (onesOf (kdsOf l ts) (ra ++ rb)) w' (HACC.out.keep hb) (by rw [onesOf_length, HKL.out]; omega))
            have HC4 := Lib.hid (fun w' hb => count_any W.heap.size W.heap.size cA gs.length A (onesOf (kdsOf l ts) (ra ++ rb)) w' (HACC.out.keep hb))
            unfold TotSays at HT4
            unfold ResultSays at HR4
            rw [HMX.out.eq] at HT4
            generalize onesRes (onesOf (kdsOf l ts) (ra ++ rb)) gs.length = res at HT4 HR4
            obtain ⟨rk, rv⟩ := res
            have drk : (rk == rk) = true := by simp
            have dgl : ((gs.length : Int) == gs.length) = true := by simp
            clear hy hacc hg4 hlow4 hs4
            go_wp2_with fail
            refine (HT4.out).mono ?_
            rintro e w5 ⟨⟨T5, c5, rfl, hv5⟩, hb5⟩
            have HV5 := Lib.hid hv5
            have HB5 := Lib.hid hb5
            clear hv5 hb5
            go_wp2_with fail
            refine (HR4.out w5 HB5.out).mono ?_
            rintro e w6 ⟨⟨T6, c6, rfl, hv6, -⟩, hb6⟩
            have HV6 := Lib.hid hv6
            have HV56 := Lib.hid (HV5.out.keep hb6)
            have HB6 := Lib.hid (below_step HB5.out hb6)
            clear hv6 hb6
            go_wp2_with fail
            refine (same_err (errV rk) rk rk w6 (HG.out.keep (below_step HLOW4.out HB6.out)) (errIs rk)).mono ?_
            rintro e w7 ⟨rfl, hb7⟩
            have HV7 := Lib.hid (HV6.out.keep hb7)
            have HV57 := Lib.hid (HV56.out.keep hb7)
            have HB7 := Lib.hid (below_step HB6.out hb7)
            rw [drk]
            clear hb7
            go_wp2_with fail
            refine (sameVals_any T6 T5 rv.length c6 c5 rv w7 HV7.out HV57.out).mono ?_
            rintro e w8 ⟨rfl, hb8⟩
            have HB8 := Lib.hid (below_step HB7.out hb8)
            clear hb8
            go_wp2_with fail
            refine (HC4.out w8 HB8.out).mono ?_
            rintro e w9 ⟨rfl, rfl⟩
            go_wp2_with fail
            go_ret
            exact ⟨rfl, below_step HLOW4.out HB8.out⟩
        · have HMI := Lib.hid (HMX.out.mids HWF.out hj60)
          have hgl : gs.length ≤ 60 := by have := HMX.out.few; omega
          have hrl : ra.length + rb.length = gs.length := HMI.out.2.2
          have HRL := Lib.hid hrl
          obtain ⟨T', tc', hv', hsg⟩ := Sees.of_own HMX.out.g
          subst hv'
          have HSG := Lib.hid hsg
          have HGA := Lib.hid HMX.out.a
          have HJ := Lib.hid (join_any W.heap.size W.heap.size cA ra.length w2.heap.size cE rb.length A E (onesOf (kdsOf l ts) ra) (onesOf (kdsOf l ts) rb) wr HMX.out.a
            ⟨HMX.out.b.box, Nat.le_trans HFT.out.le1 HMX.out.b.low, own_low HMX.out.b.own HFT.out.le1, HMX.out.b.off⟩ (by rw [kds_ones, kds_ones]) HMI.out.1 HMI.out.2.1 (by omega) (by rw [onesOf_length, HKL.out]; omega)
            (fun h => by rw [onesOf_length, HKL.out] at h; have := (HFT.out.fa _ h).2; omega))
          have HJN := Lib.hid (show (if rb.length = 0 then onesOf (kdsOf l ts) ra else joinOnes (onesOf (kdsOf l ts) ra) (onesOf (kdsOf l ts) rb) (ra.length == 0)) = onesOf (kdsOf l ts) (ra ++ rb) by
            by_cases h : rb.length = 0
            · rw [if_pos h, List.length_eq_zero_iff.1 h, List.append_nil]
            · rw [if_neg h]; exact joinOnes_ones _ _ _ HMX.out.ga HMX.out.gb h)
          unfold JoinSays at HJ
          rw [HJN.out, hrl] at HJ
          clear hsg hrl
          go_wp2_with fail
          refine (HJ.out).mono ?_
          rintro e w4 ⟨rfl, hy, hacc⟩
          obtain ⟨-, hg4, hlow4, -⟩ := HMX.out.turnA HFT.out HKL.out hy
          have HACC := Lib.hid hacc
          have HLOW4 := Lib.hid hlow4
          obtain ⟨T2, tc2, hv2, hs4⟩ := Sees.of_own hg4
          injection hv2 with hv3 hv4 hv5
          subst hv3 hv5
          have HT4 := Lib.hid (total_any A0 T' n c gs.length tc' l ts gs w4 (HL.out.keep HLOW4.out) ⟨hs4, fun y hy => (HR.out.2 y (HMX.out.mem y hy).1).keep HLOW4.out⟩ (fun y hy => (HMX.out.mem y hy).2) HTL.out (by rw [HMX.out.eq]; exact HMX.out.gab) (fun y hy => HWF.out y (HMX.out.mem y hy).1) (by omega) (by omega))
          have HR4 := Lib.hid (fun w' hb => resultAll_any W.heap.size W.heap.size cA gs.length A (onesOf (kdsOf l ts) (ra ++ rb)) w' (HACC.out.keep hb) (by rw [onesOf_length, HKL.out]; omega))
          have HC4 := Lib.hid (fun w' hb => count_any W.heap.size W.heap.size cA gs.length A (onesOf (kdsOf l ts) (ra ++ rb)) w' (HACC.out.keep hb))
          unfold TotSays at HT4
          unfold ResultSays at HR4
          rw [HMX.out.eq] at HT4
          generalize onesRes (onesOf (kdsOf l ts) (ra ++ rb)) gs.length = res at HT4 HR4
          obtain ⟨rk, rv⟩ := res
          have drk : (rk == rk) = true := by simp
          have dgl : ((gs.length : Int) == gs.length) = true := by simp
          clear hy hacc hg4 hlow4 hs4
          go_wp2_with fail
          refine (HT4.out).mono ?_
          rintro e w5 ⟨⟨T5, c5, rfl, hv5⟩, hb5⟩
          have HV5 := Lib.hid hv5
          have HB5 := Lib.hid hb5
          clear hv5 hb5
          go_wp2_with fail
          refine (HR4.out w5 HB5.out).mono ?_
          rintro e w6 ⟨⟨T6, c6, rfl, hv6, -⟩, hb6⟩
          have HV6 := Lib.hid hv6
          have HV56 := Lib.hid (HV5.out.keep hb6)
          have HB6 := Lib.hid (below_step HB5.out hb6)
          clear hv6 hb6
          go_wp2_with fail
          refine (same_err (errV rk) rk rk w6 (HG.out.keep (below_step HLOW4.out HB6.out)) (errIs rk)).mono ?_
          rintro e w7 ⟨rfl, hb7⟩
          have HV7 := Lib.hid (HV6.out.keep hb7)
          have HV57 := Lib.hid (HV56.out.keep hb7)
          have HB7 := Lib.hid (below_step HB6.out hb7)
          rw [drk]
          clear hb7
          go_wp2_with fail
          refine (sameVals_any T6 T5 rv.length c6 c5 rv w7 HV7.out HV57.out).mono ?_
          rintro e w8 ⟨rfl, hb8⟩
          have HB8 := Lib.hid (below_step HB7.out hb8)
          clear hb8
          go_wp2_with fail
          refine (HC4.out w8 HB8.out).mono ?_
          rintro e w9 ⟨rfl, rfl⟩
          go_wp2_with fail
          go_ret
          exact ⟨rfl, below_step HLOW4.out HB8.out⟩
end Go.Proofs.YtfdihajhhadidaaDoor.aggTells
