/- (*Acc).Add, walked: a row more. -/
import Derived.Test.YtjnlonemnjljiaaDoorAggAdd
import Derived.Test.YtjnlonemnjljiaaDoorAggCheck
namespace Go.Proofs.YtjnlonemnjljiaaDoor
open Go.ChangeShapes Go.WideShapes Go.ChangeAt Go.RowKit

theorem below_of_drew {B : Nat} {a w : World} (h : Below B a.drew w) : Below B a w := ⟨h.os, h.tape, h.output, h.size, h.block⟩
theorem small_fits {n : Int} (h : fits n) : small n := by unfold fits lo63 hi63 at h; unfold small; omega
theorem small_add {a b : Int} (ha : -9223372036854775808000 ≤ a ∧ a ≤ 9223372036854775808000) (hb : fits b) : small (a + b) := by unfold fits lo63 hi63 at hb; unfold small; omega
theorem mid_small {a : Int} (h : -9223372036854775808000 ≤ a ∧ a ≤ 9223372036854775808000) : small a := by unfold small; omega
/-- Sums that a hundred more cannot bring over. -/
def Mid (l : List One) : Prop := ∀ o ∈ l, -9223372036854775808000 ≤ o.sum ∧ o.sum ≤ 9223372036854775808000
def AddRowSays (B p c n : Nat) (A : Option Addr) (l : List One) (vals : List Val) (w : World) (e : Ending) (w' : World) : Prop :=
  e = .returned (errV (rowFault (l.map kdOf) vals)) ∧ Only (foot p A l.length c) w w' ∧
    (if rowFault (l.map kdOf) vals = 0 then AccAt w' B p A c (addRow l vals (n == 0)) (n + 1) else AccAt w' B p A c l n)
theorem addTo_fst (o : One) (t : Int) (ed : Val) (first : Bool) : kdOf (addTo o t ed first) = kdOf o := by unfold addTo; split <;> rfl
theorem zipUp_kds {α : Type} {f : One → α → One} (h : ∀ o x, kdOf (f o x) = kdOf o) : ∀ (l : List One) (r : List α), (zipUp f l r).map kdOf = l.map kdOf
  | o :: l, x :: r => by rw [zipUp, List.map_cons, List.map_cons, h, zipUp_kds h l r]
  | [], [] => rfl
  | [], _ :: _ => rfl
  | _ :: _, [] => rfl
section
variable {w w' : World} {B p c n : Nat} {A : Option Addr} {l l' : List One}
theorem AccAt.turned {g : Nat} (h : AccAt w B p (some ⟨g, 0, none⟩) c l n) (hl : l'.length = l.length) (hgp : g ≠ p) (ho : OnesAt w' B g c l') (hy : Only (· = g) w w') : AccAt w' B p (some ⟨g, 0, none⟩) c l' n := by
  refine ⟨?_, h.low, ho, ?_⟩
  · rw [hy.block p h.lt (fun e => hgp e.symm), hl]; exact h.box
  · rw [hl]; exact h.off
theorem AccAt.counted (h : AccAt w B p A c l n) (m : Nat) : AccAt (w.setCell ⟨p, 1, none⟩ (.int .i64 (m : Int))) B p A c l m := by
  have hb := h.box
  refine ⟨?_, h.low, own_other h.own h.off, h.off⟩
  unfold World.setCell
  have hlt : p < w.heap.size := h.lt
  rw [Array.getElem?_modify]
  simp only [if_true]
  rw [hb]
  rfl
theorem AccAt.free (h : AccAt w B p A c l n) : w.frozen? ⟨p, 1, none⟩ = false := by
  unfold World.frozen?
  rw [show w.heap[(⟨p, 1, none⟩ : Addr).block]? = _ from h.box]; simp
end

theorem rowFault_len {ks : List Kd} {vs : List Val} (h : rowFault ks vs = 0) : vs.length = ks.length := by
  unfold rowFault at h
  by_cases e : vs.length = ks.length
  · exact e
  · rw [if_pos e] at h; omega
set_option maxHeartbeats 2000000 in
set_option maxRecDepth 100000 in
theorem put_any (B p c n m cv : Nat) (A V : Option Addr) (l : List One) (vals : List Val) (w : World) (h : AccAt w B p A c l n) (hV : SeesVals w V m cv vals) (hw : ∀ v ∈ vals, v.wf) (hmid : Mid l) (hn : n ≤ 1000000)
    (hfar : 0 < m → ∀ ad, V = some ad → ¬ foot p A l.length c ad.block) :
    Calls Tryd.prog 12 #[.pointer (some ⟨p, 0, none⟩), .slice V m cv] w (AddRowSays B p c n A l vals w) := by
  have T := Lib.hid (check_any B p c n m cv A V l vals w h hV (fun v hv => (hw v hv).2.2))
  have HA := Lib.hid h
  have HV := Lib.hid hV
  have HWF := Lib.hid hw
  have HMID := Lib.hid hmid
  have HFAR := Lib.hid hfar
  by_cases hz : rowFault (l.map kdOf) vals = 0
  · have hlen : vals.length = l.length := by have := rowFault_len hz; rwa [List.length_map] at this
    have hm := hV.1
    rw [hz] at T
    have HZ := Lib.hid hz
    have hmx := hV.2.2.2.1
    have hmc := hV.2.2.1
    have hlx := h.sees.2.2.1
    have hlc := h.sees.2.1
    unfold maxLen at hmx hlx
    have HLEN := Lib.hid hlen
    have hL : l.length = m := by omega
    have HL := Lib.hid hL
    rw [hL] at hlc
    have CELLS := Lib.hid (fun (w' : World) (l' : List One) (h' : AccAt w' B p A c l' n) (e : l'.length = l.length) => show w'.cell? ⟨p, 0, none⟩ = some (.slice A m c) ∧ w'.cell? ⟨p, 1, none⟩ = some (.int .i64 n) by have := h'.cells; rw [e, hL] at this; exact this)
    have HFAR2 := Lib.hid (show 0 < m → ∀ ad, V = some ad → ¬ foot p A m c ad.block by rw [hL] at hfar; exact hfar)
    have HBIN := Lib.hid (show ((n : Int) == 0) = (n == 0) by cases n <;> rfl)
    clear h hV hw hmid hfar hz hlen hm hL
    go_enter Tryd.func12, Tryd.ntmps12
    go_wp2_with fail
    refine (T.out).mono ?_
    rintro e w1 ⟨rfl, hb1⟩
    obtain ⟨k0, k1⟩ := CELLS.out w1 l (HA.out.keep hb1) rfl
    have HB1 := Lib.hid (Only.of_below (S := foot p A m c) hb1)
    have HA1 := Lib.hid (HA.out.keep hb1)
    clear hb1
    rw [errV_zero]
    go_wp2_with fail
    clear k0 k1
    go_loopw [19] (fun i wr => ∃ j : Nat, j ≤ m ∧ i = .int .i64 j ∧ AccAt wr B p A c (mixUp (fun o v => addTo o v.n v (n == 0)) j l vals) n ∧ Only (foot p A m c) w wr) (fun i _ => m - (intOf i).toNat)
    case atStart => exact ⟨0, by omega, rfl, by rw [mixUp_zero]; exact HA1.out, HB1.out⟩
    case round =>
      obtain ⟨j, hj, rfl, ha, ho⟩ := hrel
      have HAR := Lib.hid ha
      have HOR := Lib.hid ho
      obtain ⟨k0, k1⟩ := CELLS.out wr _ ha mixUp_length
      clear ha ho
      by_cases hlj : j < m
      · obtain ⟨o, ho⟩ : ∃ o, l[j]? = some o := ⟨_, List.getElem?_eq_getElem (by rw [HL.out]; exact hlj)⟩
        have hmo := mixUp_at (f := fun o (v : Val) => addTo o v.n v (n == 0)) (r := vals) ho
        obtain ⟨g, rfl, hgp, -, hgl, hown⟩ := HAR.out.at_ hmo
        obtain ⟨⟨a0, -⟩, -⟩ := OnesAt.facts hown hmo
        obtain ⟨gv, ov, v, rfl, hgv, hv, v0, v1, v2⟩ := (HOR.out.vals_far HV.out HFAR2.out).at_ hlj
        have HSTEP := Lib.hid (mixUp_step (f := fun o (v : Val) => addTo o v.n v (n == 0)) ho hv)
        have HSKIP := Lib.hid (mixUp_skip (f := fun o (v : Val) => addTo o v.n v (n == 0)) ho hv)
        have HMO := Lib.hid hmo
        have HOWN := Lib.hid hown
        have HO := Lib.hid ho
        have HVV := Lib.hid hv
        clear hmo hown ho hv
        by_cases hc : isCount o.what
        · have e2 : (o.what.toList == [99, 111, 117, 110, 116]) = true := by rw [Lib.toList_data]; unfold isCount at hc; rw [hc]; rfl
          have E := Lib.hid (HSKIP.out (show addTo o v.n v (n == 0) = o from if_pos hc))
          clear hc
          go_wp2_with fail
          go_roundw
          case rel => exact ⟨j + 1, by omega, by go_num, by rw [E.out]; exact HAR.out, HOR.out⟩
          case measure => simp [intOf]; omega
        · have e2 : (o.what.toList == [99, 111, 117, 110, 116]) = false := by rw [Lib.toList_data]; exact beq_eq_false_iff_ne.2 hc
          have E := Lib.hid (show addTo o v.n v (n == 0) = addOne o v.n v (n == 0) from if_neg hc)
          clear hc
          have hfit := (HWF.out v (List.mem_of_getElem? HVV.out)).2.1
          have TOF := Lib.hid (fun w' => aggOf_any v.n w' hfit.1 hfit.2)
          have HSM := Lib.hid (show small o.sum ∧ small v.n from ⟨mid_small (HMID.out o (List.mem_of_getElem? HO.out)), small_fits hfit⟩)
          have HFF := Lib.hid (HFAR2.out (by omega) _ rfl)
          have hpl := HAR.out.lt
          have DIFF : gv ≠ p ∧ gv ≠ g ∧ p ≠ g := ⟨fun e => HFF.out (Or.inl e), fun e => HFF.out (Or.inr (by rw [show (⟨gv, ov, none⟩ : Addr).block = gv from rfl, e]; rfl)), fun e => hgp e.symm⟩
          have HD := Lib.hid DIFF
          have x1 := HBIN.out
          clear hfit hgp DIFF
          go_wp2_with fail
          go_region_held3 (fun w' => w'.cell? ⟨gv, ov + j * 3, none⟩ = some (.int .i64 v.type) ∧ w'.cell? ⟨gv, ov + j * 3 + 1, none⟩ = some (.int .i64 v.n) ∧ w'.cell? ⟨gv, ov + j * 3 + 2, none⟩ = some (.string v.s) ∧ w'.cell? ⟨p, 1, none⟩ = some (.int .i64 n)) (first | go_keep | exact ⟨q0, q1, q2, q3⟩ | exact ⟨r0, r1, r2, r3⟩)
            (first
              | (go_at_call 35; refine (TOF.out _).mono ?_; rintro e w3 ⟨rfl, hb3⟩; have hs3 := hb3.size; have q0 := (hb3.cell (p := ⟨gv, ov + j * 3, none⟩) hgv).trans v0; have q1 := (hb3.cell (p := ⟨gv, ov + j * 3 + 1, none⟩) hgv).trans v1; have q2 := (hb3.cell (p := ⟨gv, ov + j * 3 + 2, none⟩) hgv).trans v2; have q3 := (hb3.cell (p := ⟨p, 1, none⟩) hpl).trans k1; have HB3 := Lib.hid hb3; clear hb3)
              | (go_at_call 34; refine (add_any B g j c (mixUp (fun o (v : Val) => addTo o v.n v (n == 0)) j l vals) o v.n v (n == 0) _ (own_keep HOWN.out (below_of_drew HB3.out)) HMO.out HSM.out.1 HSM.out.2).mono ?_; rintro e w5 ⟨rfl, hon5, hy5⟩; have r0 := (hy5.cell (p := ⟨gv, ov + j * 3, none⟩) (Nat.lt_of_lt_of_le hgv hs3) HD.out.2.1).trans q0; have r1 := (hy5.cell (p := ⟨gv, ov + j * 3 + 1, none⟩) (Nat.lt_of_lt_of_le hgv hs3) HD.out.2.1).trans q1; have r2 := (hy5.cell (p := ⟨gv, ov + j * 3 + 2, none⟩) (Nat.lt_of_lt_of_le hgv hs3) HD.out.2.1).trans q2; have r3 := (hy5.cell (p := ⟨p, 1, none⟩) (Nat.lt_of_lt_of_le hpl hs3) HD.out.2.2).trans q3; have HON5 := Lib.hid hon5; have HY5 := Lib.hid hy5; clear hon5 hy5))
          go_wp2_with fail
          go_roundw
          case rel =>
            refine ⟨j + 1, by omega, by go_num, ?_, ?_⟩
            · have h3 := HAR.out.keep (below_of_drew HB3.out)
              have := h3.turned (l' := (mixUp (fun o (v : Val) => addTo o v.n v (n == 0)) j l vals).set j (addOne o v.n v (n == 0))) List.length_set (fun e => HD.out.2.2 e.symm) HON5.out HY5.out
              rw [← HSTEP.out, E.out]
              exact this
            · exact (HOR.out.trans (Only.of_below (below_of_drew HB3.out))).trans (HY5.out.mono fun k hk => Or.inr (by rw [show k = g from hk]; rfl))
          case measure => simp [intOf]; omega
      · have e : mixUp (fun o (v : Val) => addTo o v.n v (n == 0)) j l vals = addRow l vals (n == 0) := mixUp_all (by rw [HL.out]; omega) HLEN.out
        rw [e] at HAR
        have HKDS := Lib.hid (show (addRow l vals (n == 0)).length = l.length from zipUp_length _ _ _)
        have hfr := HAR.out.free
        have ec : ((n : Int) + 1) = ((n + 1 : Nat) : Int) := by omega
        have HCN := Lib.hid (HAR.out.counted (n + 1))
        have HOC := Lib.hid (HOR.out.setCell (p := ⟨p, 1, none⟩) (Or.inl rfl) (.int .i64 ((n + 1 : Nat) : Int)))
        have EC := Lib.hid ec
        clear e ec
        go_wp2_with fail
        go_ret
        rw [EC.out]
        refine ⟨by rw [HZ.out]; rfl, by rw [HL.out]; exact HOC.out, ?_⟩
        rw [if_pos HZ.out]
        exact HCN.out
  · unfold CheckSays at T
    rw [errV_ne hz] at T
    have HZ := Lib.hid hz
    generalize hkz : rowFault (l.map kdOf) vals = kz at T HZ
    have HKZ := Lib.hid hkz
    clear h hV hw hmid hfar hz hkz
    go_enter Tryd.func12, Tryd.ntmps12
    go_wp2_with fail
    refine (T.out).mono ?_
    rintro e w1 ⟨rfl, hb1⟩
    have HA1 := Lib.hid (HA.out.keep hb1)
    have HB1 := Lib.hid (Only.of_below (S := foot p A l.length c) hb1)
    clear hb1
    go_wp2_with fail
    go_ret
    unfold AddRowSays
    rw [HKZ.out, if_neg HZ.out, errV_ne HZ.out]
    exact ⟨rfl, HB1.out, HA1.out⟩
end Go.Proofs.YtjnlonemnjljiaaDoor
