/- (*Acc).Join, walked, of two of the same kinds. -/
import Derived.Test.YtfdihajhhadidaaDoorAggPut
import Derived.Test.YtfdihajhhadidaaDoorAggSame
namespace Go.Proofs.YtfdihajhhadidaaDoor
open Go.ChangeShapes Go.WideShapes Go.ChangeAt Go.RowKit

theorem two_keep {W w' : World} {p r : Nat} {v0 v1 u0 u1 : Value} (hb : Below W.heap.size W w') (hp : p < W.heap.size) (hr : r < W.heap.size)
    (h : (W.cell? ⟨p, 0, none⟩ = some v0 ∧ W.cell? ⟨p, 1, none⟩ = some v1) ∧ W.cell? ⟨r, 0, none⟩ = some u0 ∧ W.cell? ⟨r, 1, none⟩ = some u1) :
    (w'.cell? ⟨p, 0, none⟩ = some v0 ∧ w'.cell? ⟨p, 1, none⟩ = some v1) ∧ w'.cell? ⟨r, 0, none⟩ = some u0 ∧ w'.cell? ⟨r, 1, none⟩ = some u1 :=
  ⟨⟨(hb.cell hp).trans h.1.1, (hb.cell hp).trans h.1.2⟩, (hb.cell hr).trans h.2.1, (hb.cell hr).trans h.2.2⟩
theorem belowDrew (w : World) : Below w.heap.size w w.drew := ⟨rfl, rfl, rfl, Nat.le_refl _, fun _ _ => rfl⟩
theorem AccAt.drew {w : World} {B p c n : Nat} {A : Option Addr} {l : List One} (h : AccAt w B p A c l n) : AccAt w.drew B p A c l n := h.keep (belowDrew w)
def JoinSays (B p c n k : Nat) (A : Option Addr) (l m : List One) (w : World) (e : Ending) (w' : World) : Prop :=
  e = .returned .nilIface ∧ Only (foot p A l.length c) w w' ∧ AccAt w' B p A c (if k = 0 then l else joinOnes l m (n == 0)) (n + k)
set_option maxHeartbeats 2000000 in
set_option maxRecDepth 100000 in
theorem join_any (B p c n r d k : Nat) (A E : Option Addr) (l m : List One) (w : World) (hl : AccAt w B p A c l n) (hm : AccAt w B r E d m k) (hk : l.map kdOf = m.map kdOf) (hml : Mid l) (hmm : Mid m) (hn : n + k ≤ 1000000) (hlen : l.length ≤ 1000)
    (hr : ¬ foot p A l.length c r) :
    Calls Tryd.prog 15 #[.pointer (some ⟨p, 0, none⟩), .pointer (some ⟨r, 0, none⟩)] w (JoinSays B p c n k A l m w) := by
  have hlm : m.length = l.length := by have := congrArg List.length hk; simpa using this.symm
  have HA := Lib.hid hl
  have HM := Lib.hid hm
  have HML := Lib.hid hml
  have HMM := Lib.hid hmm
  have HR := Lib.hid hr
  have HLM := Lib.hid hlm
  obtain ⟨k0, k1⟩ := hl.cells
  obtain ⟨m0, m1⟩ := hm.cells
  have TE := Lib.hid (fun w' (hb : Below w.heap.size w w') => equal_any A E l.length c d l m w' (hl.keep hb).sees (by have := (hm.keep hb).sees; rwa [hlm] at this) hk)
  have TC := Lib.hid (fun w' (hb : Below w.heap.size w w') => cloneOnes_any E l.length d m w' (by have := (hm.keep hb).sees; rwa [hlm] at this) (by omega))
  have hlx := hl.sees.2.2.1
  have hlc := hl.sees.2.1
  unfold maxLen at hlx
  rw [hlm] at m0
  have CELLS := Lib.hid (fun (w' : World) (l' : List One) (n' : Nat) (h' : AccAt w' B p A c l' n') (e : l'.length = l.length) => show w'.cell? ⟨p, 0, none⟩ = some (.slice A l.length c) ∧ w'.cell? ⟨p, 1, none⟩ = some (.int .i64 n') by have := h'.cells; rwa [e] at this)
  have HP := Lib.hid hl.lt
  have hrl := hm.lt
  have hLL : (0 : Nat) ≤ 0 := Nat.le_refl _
  generalize hL : l.length = L at *
  have HL := Lib.hid hL
  clear hl hm hk hml hmm hr hlm hLL hL
  go_enter Tryd.func15, Tryd.ntmps15
  go_wp2_with fail
  go_still_tail 8, (by kernel_rfl)
  change wpList _ _ _ _ _ w.drew
  have hpl : p < w.drew.heap.size := HP.out
  have hrl' : r < w.drew.heap.size := hrl
  go_wp2_with fail
  refine (TE.out w.drew (Below.refl _ w).drew).mono ?_
  rintro e w1 ⟨rfl, hb1⟩
  obtain ⟨⟨q0, q1⟩, p0, p1⟩ := two_keep hb1 hpl hrl' ⟨⟨k0, k1⟩, m0, m1⟩
  have HB1 := Lib.hid (below_of_drew (Below.mono hb1 (show w.heap.size ≤ w.drew.heap.size from Nat.le_refl _)))
  have hs1 := hb1.size
  clear hb1 k0 k1 m0 m1
  by_cases hk0 : k = 0
  · subst hk0
    go_wp2_with fail
    go_ret
    exact ⟨rfl, Only.of_below HB1.out, by rw [if_pos rfl]; exact HA.out.keep HB1.out⟩
  · have e0 : ((k : Int) == 0) = false := by simp; omega
    have HK0 := Lib.hid hk0
    clear hk0
    go_wp2_with fail
    refine (TC.out w1 HB1.out).mono ?_
    rintro e w4 ⟨⟨A', c', rfl, hs', hfar⟩, hb4⟩
    have HS := Lib.hid hs'
    have HB4 := Lib.hid (below_step HB1.out hb4)
    have hs4 := hb4.size
    have HFAR := Lib.hid (show 0 < L → ∀ ad, A' = some ad → ¬ foot p A L c ad.block from fun _ ad e => by
      have h1 := hfar ad e
      have h2 := HP.out
      intro hf
      have hsz : w.heap.size ≤ w1.heap.size := hs1
      rcases hf with hf | hf
      · omega
      · have := (HL.out ▸ HA.out.own).lt ad.block hf
        omega)
    obtain ⟨⟨x0, x1⟩, y0, y1⟩ := two_keep hb4 (Nat.lt_of_lt_of_le hpl hs1) (Nat.lt_of_lt_of_le hrl' hs1) ⟨⟨q0, q1⟩, p0, p1⟩
    have HA4 := Lib.hid (HA.out.keep HB4.out)
    have HM4 := Lib.hid (HM.out.keep HB4.out)
    have hcL := hs'.2.1
    have hcx := hs'.2.2.1
    unfold maxLen at hcx
    have HBIN := Lib.hid (show ((n : Int) == 0) = (n == 0) by cases n <;> rfl)
    have HR4 := Lib.hid (show r < w4.heap.size from Nat.lt_of_lt_of_le hrl' (Nat.le_trans hs1 hs4))
    have Y1 := Lib.hid y1
    clear hs' hfar hb4 q0 q1 p0 p1 y0 y1 hs4
    go_wp2_with fail
    clear x0 x1
    go_loopw [34] (fun i wr => ∃ j : Nat, j ≤ L ∧ i = .int .i64 j ∧ AccAt wr B p A c (mixUp (fun o (q : One) => addTo o q.sum q.edge (n == 0)) j l m) n ∧ Only (foot p A L c) w4 wr) (fun i _ => L - (intOf i).toNat)
    case atStart => exact ⟨0, by omega, rfl, by rw [mixUp_zero]; exact HA4.out, Only.refl _ _⟩
    case round =>
      obtain ⟨j, hj, rfl, ha, ho⟩ := hrel
      have HAR := Lib.hid ha
      have HOR := Lib.hid ho
      obtain ⟨k0, k1⟩ := CELLS.out wr _ _ ha (mixUp_length.trans HL.out)
      clear ha ho
      by_cases hlj : j < L
      · obtain ⟨o, ho⟩ : ∃ o, l[j]? = some o := ⟨_, List.getElem?_eq_getElem (by rw [HL.out]; exact hlj)⟩
        obtain ⟨q, hq⟩ : ∃ q, m[j]? = some q := ⟨_, List.getElem?_eq_getElem (by rw [HLM.out]; exact hlj)⟩
        have hmo := mixUp_at (f := fun o (q : One) => addTo o q.sum q.edge (n == 0)) (r := m) ho
        obtain ⟨g, rfl, hgp, -, hgl, hown⟩ := HAR.out.at_ hmo
        obtain ⟨⟨a0, -⟩, -⟩ := OnesAt.facts hown hmo
        obtain ⟨gv, ov, rfl, hgv, -, -, v2, v3, v4, v5, v6⟩ := ones_at (HOR.out.sees_far HS.out HFAR.out) hq
        have HSTEP := Lib.hid (mixUp_step (f := fun o (q : One) => addTo o q.sum q.edge (n == 0)) ho hq)
        have HSKIP := Lib.hid (mixUp_skip (f := fun o (q : One) => addTo o q.sum q.edge (n == 0)) ho hq)
        have HMO := Lib.hid hmo
        have HOWN := Lib.hid hown
        have HO := Lib.hid ho
        have HQ := Lib.hid hq
        clear hmo hown ho hq
        by_cases hc : isCount o.what
        · have e2 : (o.what.toList == [99, 111, 117, 110, 116]) = true := by rw [Lib.toList_data]; unfold isCount at hc; rw [hc]; rfl
          have E' := Lib.hid (HSKIP.out (show addTo o q.sum q.edge (n == 0) = o from if_pos hc))
          clear hc
          go_wp2_with fail
          go_roundw
          case rel => exact ⟨j + 1, by omega, by go_num, by rw [E'.out]; exact HAR.out, HOR.out⟩
          case measure => simp [intOf]; omega
        · have e2 : (o.what.toList == [99, 111, 117, 110, 116]) = false := by rw [Lib.toList_data]; exact beq_eq_false_iff_ne.2 hc
          have E' := Lib.hid (show addTo o q.sum q.edge (n == 0) = addOne o q.sum q.edge (n == 0) from if_neg hc)
          clear hc
          have HSM := Lib.hid (show small o.sum ∧ small q.sum from ⟨mid_small (HML.out o (List.mem_of_getElem? HO.out)), mid_small (HMM.out q (List.mem_of_getElem? HQ.out))⟩)
          have HFF := Lib.hid (HFAR.out (by omega) _ rfl)
          have hplr := HAR.out.lt
          have DIFF : gv ≠ p ∧ gv ≠ g ∧ p ≠ g := ⟨fun e => HFF.out (Or.inl e), fun e => HFF.out (Or.inr (by rw [show (⟨gv, ov, none⟩ : Addr).block = gv from rfl, e]; rfl)), fun e => hgp e.symm⟩
          have HD := Lib.hid DIFF
          have z1 := HBIN.out
          have hov : (0 : Int) ≤ (j : Int) := by omega
          clear hgp DIFF
          go_wp2_with fail
          go_region_held3 (fun w' => w'.cell? ⟨gv, ov + j * 7 + 2, none⟩ = some (.int .i64 (hiOf q.sum)) ∧ w'.cell? ⟨gv, ov + j * 7 + 3, none⟩ = some (.int .u64 (loOf q.sum)) ∧ w'.cell? ⟨gv, ov + j * 7 + 4, none⟩ = some (.int .i64 q.edge.type) ∧ w'.cell? ⟨gv, ov + j * 7 + 5, none⟩ = some (.int .i64 q.edge.n) ∧ w'.cell? ⟨gv, ov + j * 7 + 6, none⟩ = some (.string q.edge.s) ∧ w'.cell? ⟨p, 1, none⟩ = some (.int .i64 n)) (first | go_keep | exact ⟨r0, r1, r2, r3, r4, r5⟩)
            (first
              | (go_at_call 41; refine (add_any B g j c (mixUp (fun o (q : One) => addTo o q.sum q.edge (n == 0)) j l m) o q.sum q.edge (n == 0) _ (own_keep HOWN.out (belowDrew wr)) HMO.out HSM.out.1 HSM.out.2).mono ?_; rintro e w5 ⟨rfl, hon5, hy5⟩; have r0 := (hy5.cell (p := ⟨gv, ov + j * 7 + 2, none⟩) hgv HD.out.2.1).trans v2; have r1 := (hy5.cell (p := ⟨gv, ov + j * 7 + 3, none⟩) hgv HD.out.2.1).trans v3; have r2 := (hy5.cell (p := ⟨gv, ov + j * 7 + 4, none⟩) hgv HD.out.2.1).trans v4; have r3 := (hy5.cell (p := ⟨gv, ov + j * 7 + 5, none⟩) hgv HD.out.2.1).trans v5; have r4 := (hy5.cell (p := ⟨gv, ov + j * 7 + 6, none⟩) hgv HD.out.2.1).trans v6; have r5 := (hy5.cell (p := ⟨p, 1, none⟩) hplr HD.out.2.2).trans k1; have HON5 := Lib.hid hon5; have HY5 := Lib.hid hy5; clear hon5 hy5))
          go_wp2_with fail
          go_roundw
          case rel =>
            refine ⟨j + 1, by omega, by go_num, ?_, ?_⟩
            · have h3 := HAR.out.keep (belowDrew wr)
              have := h3.turned (l' := (mixUp (fun o (q : One) => addTo o q.sum q.edge (n == 0)) j l m).set j (addOne o q.sum q.edge (n == 0))) List.length_set (fun e => HD.out.2.2 e.symm) HON5.out HY5.out
              rw [← HSTEP.out, E'.out]
              exact this
            · exact (HOR.out.trans (Only.of_below (belowDrew wr))).trans (HY5.out.mono fun k hk => Or.inr (by rw [show k = g from hk]; rfl))
          case measure => simp [intOf]; omega
      · have e : mixUp (fun o (q : One) => addTo o q.sum q.edge (n == 0)) j l m = joinOnes l m (n == 0) := mixUp_all (by rw [HL.out]; omega) (by rw [HLM.out, HL.out])
        rw [e] at HAR
        have hfr := HAR.out.drew.free
        have y1 := (HOR.out.cell (p := ⟨r, 1, none⟩) HR4.out HR.out).trans Y1.out
        have ec : ((n : Int) + k) = ((n + k : Nat) : Int) := by omega
        have EC := Lib.hid ec
        clear e ec
        go_wp2_with fail
        go_still_tail 11, (by kernel_rfl)
        change wpList _ _ _ _ _ wr.drew
        go_wp2_with fail
        go_ret
        rw [EC.out]
        refine ⟨rfl, ?_, ?_⟩
        · rw [HL.out]
          exact ((Only.of_below HB4.out).trans HOR.out).drew.setCell (p := ⟨p, 1, none⟩) (Or.inl rfl) _
        · rw [if_neg HK0.out]
          exact HAR.out.drew.counted (n + k)
end Go.Proofs.YtfdihajhhadidaaDoor
