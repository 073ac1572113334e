/- An accumulator as it lies; (*Acc).Count, (*Acc).check walked. -/
import Derived.Test.YtjnlonemnjljiaaDoorAggFn
namespace Go.Proofs.YtjnlonemnjljiaaDoor
open Go.ChangeShapes Go.WideShapes Go.ChangeAt Go.RowKit

/-- An accumulator: in block p its aggregates (a row of the call's own) and how many rows. -/
structure AccAt (w : World) (B p : Nat) (A : Option Addr) (c : Nat) (l : List One) (n : Nat) : Prop where
  box : w.heap[p]? = some (.cells #[.slice A l.length c, .int .i64 n] 81 (0, 0))
  low : B ≤ p
  own : w.ownsRow B 87 7 (.slice A l.length c) l.length (onesCells l)
  off : (Value.slice A l.length c).ownBlock ≠ some p
/-- The blocks that are an accumulator's. -/
def foot (p : Nat) (A : Option Addr) (n c : Nat) (k : Nat) : Prop := k = p ∨ (Value.slice A n c).ownBlock = some k
section
variable {w w' : World} {B p c n : Nat} {A : Option Addr} {l : List One}
theorem AccAt.lt (h : AccAt w B p A c l n) : p < w.heap.size := (Array.getElem?_eq_some_iff.1 h.box).1
theorem AccAt.keep (h : AccAt w B p A c l n) (hb : Below w.heap.size w w') : AccAt w' B p A c l n := ⟨(hb.block p h.lt).trans h.box, h.low, own_keep h.own hb, h.off⟩
theorem AccAt.cells (h : AccAt w B p A c l n) : w.cell? ⟨p, 0, none⟩ = some (.slice A l.length c) ∧ w.cell? ⟨p, 1, none⟩ = some (.int .i64 n) := box2 h.box
theorem AccAt.sees (h : AccAt w B p A c l n) : Sees w A l.length c 7 (onesCells l) := by
  obtain ⟨A', c', e, hs⟩ := Sees.of_own h.own
  injection e with e1 e2 e3
  subst e1 e3
  exact hs
theorem AccAt.at_ (h : AccAt w B p A c l n) {k : Nat} {o : One} (hk : l[k]? = some o) : ∃ g, A = some ⟨g, 0, none⟩ ∧ g ≠ p ∧ B ≤ g ∧ g < w.heap.size ∧ OnesAt w B g c l := by
  have hlt : k < l.length := (List.getElem?_eq_some_iff.1 hk).1
  have ho := h.own
  have hf := h.off
  rcases ho.2 with ⟨e, h0⟩ | ⟨g, cap, cur, e, hrest⟩
  · injection e with e1 e2; omega
  · injection e with e1 e2 e3
    subst e1 e3
    exact ⟨g, rfl, fun e => hf (by rw [e]; rfl), (ho.lt g rfl).1, (ho.lt g rfl).2, ho⟩
/-- Another accumulator's turn leaves this one. -/
theorem AccAt.other {S : Nat → Prop} (h : AccAt w B p A c l n) (hw : Only S w w') (hp : ¬ S p) (hA : ∀ k, (Value.slice A l.length c).ownBlock = some k → ¬ S k) : AccAt w' B p A c l n :=
  ⟨(hw.block p h.lt hp).trans h.box, h.low, Only.own hw h.own hA, h.off⟩
end


theorem kds_at {l : List One} {k : Nat} {o : One} (h : l[k]? = some o) : (l.map kdOf)[k]? = some (kdOf o) := by rw [List.getElem?_map, h]; rfl
set_option maxHeartbeats 2000000 in
set_option maxRecDepth 100000 in
theorem check_any (B p c n m cv : Nat) (A V : Option Addr) (l : List One) (vals : List Val) (w : World) (h : AccAt w B p A c l n) (hV : SeesVals w V m cv vals) (hs : ∀ v ∈ vals, v.s.size ≤ maxLen) :
    Calls Tryd.prog 33 #[.pointer (some ⟨p, 0, none⟩), .slice V m cv] w (CheckSays w (rowFault (l.map kdOf) vals)) := by
  have HA := Lib.hid h
  have HV := Lib.hid hV
  have HS := Lib.hid hs
  have k0 := h.cells.1
  have hm := hV.1
  have hmx := hV.2.2.2.1
  have hmc := hV.2.2.1
  have hlc := h.sees.2.1
  have hlx := h.sees.2.2.1
  unfold maxLen at hmx hlx
  have HM := Lib.hid hm
  have HF := Lib.hid (show rowFault (l.map kdOf) vals = if vals.length ≠ l.length then 3 else faultAt (l.map kdOf) vals by unfold rowFault; rw [List.length_map])
  generalize hL : l.length = L at *
  have HL := Lib.hid hL
  clear h hV hs hL
  by_cases hne : m = L
  · subst hne
    have e1 : ((m : Int) != m) = false := by simp
    rw [hm] at HF
    have HF2 := Lib.hid (show rowFault (l.map kdOf) vals = faultAt (l.map kdOf) vals by rw [HF.out, if_neg (by simp)])
    clear hm HF
    go_enter Tryd.func33, Tryd.ntmps33
    go_wp2_with fail
    go_loopw [22] (fun i wr => ∃ k : Nat, k ≤ m ∧ i = .int .i64 k ∧ faultAt (l.map kdOf) vals = faultAt ((l.map kdOf).drop k) (vals.drop k) ∧ Below w.heap.size w wr) (fun i _ => m - (intOf i).toNat)
    case atStart => exact ⟨0, by omega, rfl, rfl, Below.refl _ _⟩
    case round =>
      obtain ⟨k, hk, rfl, hf, hb⟩ := hrel
      have HB := Lib.hid hb
      have HFA := Lib.hid hf
      clear hf
      by_cases hlk : k < m
      · obtain ⟨o, ho⟩ : ∃ o, l[k]? = some o := ⟨_, List.getElem?_eq_getElem (by rw [HL.out]; exact hlk)⟩
        obtain ⟨ga, rfl, -, -, -, hown⟩ := (HA.out.keep hb).at_ ho
        obtain ⟨⟨a0, a1, a2, a3, a4, a5, a6⟩, -⟩ := OnesAt.facts hown ho
        obtain ⟨gv, ov, v, rfl, hgv, hv, v0, v1, v2⟩ := (HV.out.keep hb).at_ hlk
        have HST := Lib.hid (faultAt_step (kds_at ho) hv)
        have T := Lib.hid (fun w' => vcheck_any v w')
        have HFO := Lib.hid (show fault1 (kdOf o) v = if isCount o.what then 0 else if vcheck v ≠ 0 then vcheck v else if v.type ≠ o.type then 8 else 0 from rfl)
        obtain ⟨w1, hw1⟩ : ∃ w1, wr.alloc (.cells #[.string o.what, .int .i64 o.type, .int .i64 (hiOf o.sum), .int .u64 (loOf o.sum), .int .i64 o.edge.type, .int .i64 o.edge.n, .string o.edge.s] 87) = w1 := ⟨_, rfl⟩
        have hb1 : Below wr.heap.size wr w1 := by rw [← hw1]; exact (Below.refl _ _).alloc (Nat.le_refl _) _
        have hB1 : w1.heap[wr.heap.size]? = some (.cells #[.string o.what, .int .i64 o.type, .int .i64 (hiOf o.sum), .int .u64 (loOf o.sum), .int .i64 o.edge.type, .int .i64 o.edge.n, .string o.edge.s] 87 (0, 0)) := by rw [← hw1]; exact heap_alloc_new wr _
        have c0 : w1.cell? ⟨wr.heap.size, 0, none⟩ = some (.string o.what) := by rw [cell_of_row _ _ _ _ _ _ hB1]; rfl
        have c1 : w1.cell? ⟨wr.heap.size, 1, none⟩ = some (.int .i64 o.type) := by rw [cell_of_row _ _ _ _ _ _ hB1]; rfl
        have u0 := (hb1.cell (p := ⟨gv, ov + k * 3, none⟩) hgv).trans v0
        have u1 := (hb1.cell (p := ⟨gv, ov + k * 3 + 1, none⟩) hgv).trans v1
        have u2 := (hb1.cell (p := ⟨gv, ov + k * 3 + 2, none⟩) hgv).trans v2
        have hlt1 : wr.heap.size < w1.heap.size := (Array.getElem?_eq_some_iff.1 hB1).1
        have hlt2 : gv < w1.heap.size := Nat.lt_of_lt_of_le hgv hb1.size
        have HW1 := Lib.hid hw1
        have HB1 := Lib.hid (below_step HB.out hb1)
        clear hown ho hv hw1 hb1 hB1 hb
        by_cases hc : isCount o.what
        · have e2 : (o.what.toList == [99, 111, 117, 110, 116]) = true := by rw [Lib.toList_data]; unfold isCount at hc; rw [hc]; rfl
          have E := Lib.hid (show fault1 (kdOf o) v = 0 from if_pos hc)
          clear hc
          go_wp2_with (first | rw [HW1.out])
          go_roundw
          case rel => exact ⟨k + 1, by omega, by go_num, by rw [HFA.out, HST.out, E.out]; rfl, HB1.out⟩
          case measure => simp [intOf]; omega
        · have e2 : (o.what.toList == [99, 111, 117, 110, 116]) = false := by rw [Lib.toList_data]; exact beq_eq_false_iff_ne.2 hc
          rw [if_neg hc] at HFO
          clear hc
          by_cases hz : vcheck v = 0
          · rw [hz] at T HFO
            rw [if_neg (by simp)] at HFO
            clear hz
            by_cases ht : v.type = o.type
            · have e3 : (v.type != o.type) = false := by simp [ht]
              have E := Lib.hid (HFO.out.trans (if_neg (by simpa using ht)))
              clear ht HFO
              go_wp2_with (first | rw [HW1.out])
              refine (T.out _).mono ?_
              rintro e w3 ⟨rfl, hb3⟩
              have q0 := (hb3.cell (p := ⟨gv, ov + k * 3, none⟩) hlt2).trans u0
              have q1 := (hb3.cell (p := ⟨wr.heap.size, 1, none⟩) hlt1).trans c1
              have HB3 := Lib.hid (below_step HB1.out hb3)
              clear hb3
              rw [errV_zero]
              go_wp2_with fail
              go_quiet (fail)
              go_wp2_with fail
              go_roundw
              case rel => exact ⟨k + 1, by omega, by go_num, by rw [HFA.out, HST.out, E.out]; rfl, below_drewN HB3.out nq⟩
              case measure => simp [intOf]; omega
            · have e3 : (v.type != o.type) = true := by simp [ht]
              have E := Lib.hid (HFO.out.trans (if_pos ht))
              clear ht HFO
              go_wp2_with (first | rw [HW1.out])
              refine (T.out _).mono ?_
              rintro e w3 ⟨rfl, hb3⟩
              have q0 := (hb3.cell (p := ⟨gv, ov + k * 3, none⟩) hlt2).trans u0
              have q1 := (hb3.cell (p := ⟨wr.heap.size, 1, none⟩) hlt1).trans c1
              have HB3 := Lib.hid (below_step HB1.out hb3)
              clear hb3
              rw [errV_zero]
              go_wp2_with fail
              go_quiet (fail)
              go_wp2_with fail
              go_ret
              exact ⟨by rw [HF2.out, HFA.out, HST.out, E.out]; rfl, below_drewN HB3.out nq⟩
          · have E := Lib.hid (HFO.out.trans (if_pos hz))
            rw [errV_ne hz] at T
            have HZ := Lib.hid hz
            generalize vcheck v = kz at T E HZ
            clear hz HFO
            go_wp2_with (first | rw [HW1.out])
            refine (T.out _).mono ?_
            rintro e w3 ⟨rfl, hb3⟩
            have HB3 := Lib.hid (below_step HB1.out hb3)
            clear hb3
            go_wp2_with fail
            go_ret
            exact ⟨by rw [HF2.out, HFA.out, HST.out, E.out, if_pos HZ.out, errV_ne HZ.out]; rfl, HB3.out⟩
      · have E := Lib.hid (faultAt_end (l.map kdOf) vals (j := k) (by rw [List.length_map, HL.out]; omega))
        clear hb
        go_wp2_with fail
        go_ret
        exact ⟨by rw [HF2.out, HFA.out, E.out]; rfl, HB.out⟩
  · have e1 : ((m : Int) != L) = true := by simp; omega
    have HF2 := Lib.hid (show rowFault (l.map kdOf) vals = 3 by rw [HF.out, HM.out, if_pos hne])
    clear hne hm HF
    go_enter Tryd.func33, Tryd.ntmps33
    go_wp2_with fail
    go_ret
    exact ⟨by rw [HF2.out]; rfl, Below.refl _ _⟩
end Go.Proofs.YtjnlonemnjljiaaDoor
