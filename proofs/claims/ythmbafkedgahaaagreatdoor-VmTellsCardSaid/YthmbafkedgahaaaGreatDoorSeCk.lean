/- The document's states of code, as they lie; sluiceref2.Op, sluiceref2.reach: walked. sluiceref2.Check, walked: it says what verify says. -/
import Derived.Test.YthmbafkedgahaaaGreatDoorVeCk
import Derived.Test.YthmbafkedgahaaaGreatDoorVeOp
import Derived.Test.YthmbafkedgahaaaGreatDoorVeOf
import Derived.Test.YthmbafkedgahaaaGreatDoorRefRule
import Derived.Test.YthmbafkedgahaaaGreatDoorRefVal
import Derived.Laws.MakeOwn
import Derived.Laws.OwnMore
namespace Go.Proofs.YthmbafkedgahaaaGreatDoor
open Go.ChangeShapes Go.WideShapes Go.ChangeAt Go.RowKit

def StR (q : Nat) (w : World) (u0 u1 : Value) : Option (List Int) → Prop
  | none => u0 = .bool false ∧ u1 = .slice none 0 0
  | some l => u0 = .bool true ∧ ∃ A c, u1 = .slice A l.length c ∧ Sees w A l.length c 1 (intCells l) ∧ (0 < l.length → ∀ ad, A = some ad → ad.block ≠ q)
structure RsAt (w : World) (B q n : Nat) (st : Sts) : Prop where
  row : ∃ us : Array Value, w.heap[q]? = some (.cells us 84 (0, 0)) ∧ us.size = (n + 1) * 2 ∧ ∀ (k : Nat) (o : Option (List Int)), st[k]? = some o → ∃ u0 u1, us[k * 2]? = some u0 ∧ us[k * 2 + 1]? = some u1 ∧ StR q w u0 u1 o
  len : st.length = n + 1
  low : B ≤ q
section
variable {w w' : World} {B q n : Nat} {st : Sts}
theorem StR.only {S : Nat → Prop} {u0 u1 : Value} {o : Option (List Int)} (h : StR q w u0 u1 o) (hy : Only S w w') (hS : ∀ k, S k → k < w.heap.size → k = q) : StR q w' u0 u1 o := by
  cases o with
  | none => exact h
  | some l =>
    obtain ⟨e0, A, c, e, hs, hf⟩ := h
    refine ⟨e0, A, c, e, hy.sees_far hs (fun h0 ad e' hS' => ?_), hf⟩
    obtain ⟨g, o, e2, hg, -⟩ := hs.2.2.2.2 h0
    have e3 := hf h0 ad e'
    rw [e'] at e2
    injection e2 with e2
    subst e2
    exact e3 (hS _ hS' hg)
theorem RsAt.only {S : Nat → Prop} (h : RsAt w B q n st) (hy : Only S w w') (hq : ¬ S q) (hS : ∀ k, S k → k < w.heap.size → k = q) : RsAt w' B q n st := by
  obtain ⟨us, h1, h2, h3⟩ := h.row
  refine ⟨⟨us, (hy.block q (box_lt h1) hq).trans h1, h2, fun k o ho => ?_⟩, h.len, h.low⟩
  obtain ⟨u0, u1, a, b, c⟩ := h3 k o ho
  exact ⟨u0, u1, a, b, c.only hy hS⟩
theorem RsAt.keep (h : RsAt w B q n st) (hb : Below w.heap.size w w') : RsAt w' B q n st :=
  h.only (Only.of_below (S := fun _ => False) hb) (fun h => h) (fun _ h _ => h.elim)
theorem RsAt.put {wf : World} {u : Value} {l : List Int} {i : Nat} (h : RsAt w B q n st) (hi : i ≤ n)
    (hrow : ∀ us, w.heap[q]? = some (.cells us 84 (0, 0)) → wf.heap[q]? = some (.cells ((us.setIfInBounds (i * 2) (.bool true)).setIfInBounds (i * 2 + 1) u) 84 (0, 0)))
    (hy : Only (fun k => k = q) w wf) (hu : StR q wf (.bool true) u (some l)) : RsAt wf B q n (st.set i (some l)) := by
  obtain ⟨us, h1, h2, h3⟩ := h.row
  refine ⟨⟨_, hrow us h1, by simpa using h2, fun k o ho => ?_⟩, by rw [List.length_set]; exact h.len, h.low⟩
  rw [List.getElem?_set] at ho
  by_cases hk : i = k
  · subst hk
    rw [if_pos rfl] at ho
    have hlt : i < st.length := by rw [h.len]; omega
    rw [if_pos hlt] at ho
    injection ho with ho
    subst ho
    refine ⟨.bool true, u, ?_, ?_, hu⟩
    · rw [Array.getElem?_setIfInBounds_ne (by omega), Array.getElem?_setIfInBounds_self, if_pos (by omega)]
    · rw [Array.getElem?_setIfInBounds_self, if_pos (by simp; omega)]
  · rw [if_neg hk] at ho
    obtain ⟨u0, u1, a, b, c⟩ := h3 k o ho
    refine ⟨u0, u1, ?_, ?_, c.only hy (fun k hk _ => hk)⟩
    · rw [Array.getElem?_setIfInBounds_ne (by omega), Array.getElem?_setIfInBounds_ne (by omega)]; exact a
    · rw [Array.getElem?_setIfInBounds_ne (by omega), Array.getElem?_setIfInBounds_ne (by omega)]; exact b
theorem RsAt.at_ (h : RsAt w B q n st) {i : Nat} (hi : i ≤ n) : ∃ u0 u1, w.cell? ⟨q, i * 2, none⟩ = some u0 ∧ w.cell? ⟨q, i * 2 + 1, none⟩ = some u1 ∧ StR q w u0 u1 (st.getD i none) ∧ w.frozen? ⟨q, i * 2, none⟩ = false ∧ w.frozen? ⟨q, i * 2 + 1, none⟩ = false ∧ q < w.heap.size := by
  obtain ⟨us, h1, h2, h3⟩ := h.row
  have hlt : i < st.length := by rw [h.len]; omega
  obtain ⟨u0, u1, a, b, c⟩ := h3 i _ (List.getElem?_eq_getElem hlt)
  refine ⟨u0, u1, by rw [cell_of_row _ _ _ _ _ _ h1]; exact a, by rw [cell_of_row _ _ _ _ _ _ h1]; exact b, ?_, box_free h1, box_free h1, box_lt h1⟩
  rw [List.getD_eq_getElem?_getD, List.getElem?_eq_getElem hlt]
  exact c
end
set_option maxHeartbeats 1000000 in
theorem rop_any (k : Int) (w : World) : Calls Tryz.prog 34 #[.int .i64 k] w fun e w' => e = .returned (.tuple #[.string (opNm k), .bool (decide (opErr k = 0))]) ∧ Below w.heap.size w w' := by
  have T := Lib.hid (rops_any w)
  by_cases h2 : k < 2
  · have d0 : decide (k < 2) = true := decide_eq_true h2
    have E2 := Lib.hid (show opErr k = 1 by unfold opErr; rw [if_neg (by omega)])
    have E3 := Lib.hid (show opNm k = ⟨#[]⟩ by unfold opNm; rw [E2.out, if_neg (by decide)])
    go_enter Tryz.func34, Tryz.ntmps34
    go_wp2_with fail
    refine (T.out).mono ?_
    rintro e w1 ⟨A, c, rfl, -, hb⟩
    have HB := Lib.hid hb
    clear hb
    go_wp2_with fail
    go_ret2
    exact ⟨by rw [E2.out, E3.out]; rfl, HB.out⟩
  have d0 : decide (k < 2) = false := decide_eq_false h2
  by_cases h16 : 16 ≤ k
  · have d1 : decide (16 ≤ k) = true := decide_eq_true h16
    have E2 := Lib.hid (show opErr k = 1 by unfold opErr; rw [if_neg (by omega)])
    have E3 := Lib.hid (show opNm k = ⟨#[]⟩ by unfold opNm; rw [E2.out, if_neg (by decide)])
    go_enter Tryz.func34, Tryz.ntmps34
    go_wp2_with fail
    refine (T.out).mono ?_
    rintro e w1 ⟨A, c, rfl, -, hb⟩
    have HB := Lib.hid hb
    clear hb
    go_wp2_with fail
    go_ret2
    exact ⟨by rw [E2.out, E3.out]; rfl, HB.out⟩
  · obtain ⟨j, rfl⟩ : ∃ j : Nat, k = j := ⟨k.toNat, by omega⟩
    have d1 : decide (16 ≤ (j : Int)) = false := decide_eq_false (by omega)
    have hj : j < 17 := by omega
    have E2 := Lib.hid (show opErr j = 0 by unfold opErr; rw [if_pos (by omega)])
    have E3 := Lib.hid (show opNm j = opsB.getD j ⟨#[]⟩ by unfold opNm; rw [E2.out, if_pos rfl, Int.toNat_natCast])
    clear h2 h16
    go_enter Tryz.func34, Tryz.ntmps34
    go_wp2_with fail
    refine (T.out).mono ?_
    rintro e w1 ⟨A, c, rfl, hs, hb⟩
    have hc1 := hs.2.1
    have hc2 := hs.2.2.1
    unfold maxLen at hc2
    have HB := Lib.hid hb
    obtain ⟨g, o, u, rfl, hu, q⟩ := hs.at_ hj
    have hu2 : u = .string (opsB.getD j ⟨#[]⟩) := by
      have h17 : j < opsB.length := hj
      rw [strCells_get (List.getElem?_eq_getElem h17)] at hu
      rw [List.getD_eq_getElem?_getD, List.getElem?_eq_getElem h17]
      exact (Option.some.inj hu).symm
    subst hu2
    clear hs hb hu
    generalize opsB.getD j ⟨#[]⟩ = s at q E3
    go_wp2_with fail
    go_ret2
    exact ⟨by rw [E2.out, E3.out]; rfl, HB.out⟩
def SReachSays (B q n : Nat) (r : Int × Sts) (w : World) (e : Ending) (w' : World) : Prop := e = .returned (.bool (decide (r.1 = 0))) ∧ RsAt w' B q n r.2 ∧ Only (· = q) w w'
set_option maxHeartbeats 4000000 in
set_option maxRecDepth 100000 in
theorem sreach_any (B q n : Nat) (st : Sts) (i c : Nat) (A : Option Addr) (l : List Int) (w : World) (h : RsAt w B q n st) (hi : i ≤ n) (_hn : n ≤ 100000) (hs : Sees w A l.length c 1 (intCells l)) (hl : l.length ≤ 100000) (hfar : 0 < l.length → ∀ ad, A = some ad → ad.block ≠ q) :
    Calls Tryz.prog 36 #[.slice (some ⟨q, 0, none⟩) (n + 1) (n + 1), .int .i64 i, .slice A l.length c] w (SReachSays B q n (reachP st i l) w) := by
  obtain ⟨u0, u1, k0, k1, hu, f0, f1, hq⟩ := h.at_ hi
  have H := Lib.hid h
  have HS := Lib.hid hs
  have hi1 : i < n + 1 := by omega
  have hi2 : (i : Int) < (n : Int) + 1 := by omega
  have hc1 := hs.2.1
  have hc2 := hs.2.2.1
  unfold maxLen at hc2
  obtain ⟨m, hm⟩ : ∃ m, m = l.length := ⟨_, rfl⟩
  rw [← hm] at HS hc1 ⊢ hl
  have HM := Lib.hid hm
  cases hg : st.getD i none with
  | none =>
    have E := Lib.hid (show reachP st i l = (0, st.set i (some l)) by unfold reachP; rw [hg])
    rw [hg] at hu
    obtain ⟨rfl, rfl⟩ : u0 = .bool false ∧ u1 = .slice none 0 0 := hu
    obtain ⟨w1, hw1⟩ : ∃ w1, w.setCell ⟨q, i * 2, none⟩ (.bool true) = w1 := ⟨_, rfl⟩
    have hy1 : Only (fun k => k = q) w w1 := by rw [← hw1]; exact (Only.refl (fun k => k = q) w).setCell (p := ⟨q, i * 2, none⟩) rfl _
    have hs1 : w1.heap.size = w.heap.size := by rw [← hw1]; simp [World.setCell]
    obtain ⟨us, r1, r2, -⟩ := h.row
    have hb1 : w1.heap[q]? = some (.cells (us.setIfInBounds (i * 2) (.bool true)) 84 (0, 0)) := by rw [← hw1]; exact box_set (i := i * 2) (.bool true) r1
    have HSEE1 := Lib.hid (show Sees w1 A m c 1 (intCells l) from hy1.sees_far HS.out (fun h0 ad e hq => hfar (by omega) ad e hq))
    have HW1 := Lib.hid hw1
    have HR := Lib.hid r1
    have HR1 := Lib.hid hb1
    have HY1 := Lib.hid hy1
    have HOWN0 := Lib.hid (show (w1.alloc (.cells #[] 3)).ownsRow w.heap.size 3 1 (.slice (some ⟨w.heap.size, 0, none⟩) 0 0) 0 [] from by
      have := World.ownsRow_made (base := w.heap.size) (e := 3) (size := 1) w1 #[] 0 (by omega) (Nat.zero_le _) rfl
      rwa [hs1] at this)
    have HBA := Lib.hid (show Below w.heap.size w1 (w1.alloc (.cells #[] 3)) from (Below.refl _ _).alloc (by omega) _)
    have HBN := Lib.hid (show Below w1.heap.size w1 (w1.alloc (.cells #[] 3)) from (Below.refl _ _).alloc (Nat.le_refl _) _)
    clear h hs hg hw1 hm r1 hb1 hy1 hfar
    go_enter Tryz.func36, Tryz.ntmps36
    go_wp2_with (first | rw [HW1.out] | (at_builtin; refine wpList_append_src intSlice rfl _ _ rfl rfl rfl HOWN0.out (HSEE1.out.keep HBN.out) HBA.out (by omega) (ints_one l) (by omega) ?_))
    intro v' w2 hown hb2 _
    have hown : w2.ownsRow w.heap.size 3 1 v' m (intCells l) := by first | exact hown | (rw [Nat.zero_add, List.nil_append] at hown; exact hown)
    obtain ⟨A3, c3, rfl, hs3⟩ := Sees.of_own hown
    have hq2 : q < w1.heap.size := by omega
    have b2 := (hb2.block q hq).trans HR1.out
    have g0 := box_free (i := i * 2 + 1) b2
    have g1 : ∃ x, w2.cell? ⟨q, i * 2 + 1, none⟩ = some x := by
      refine ⟨(us.setIfInBounds (i * 2) (.bool true))[i * 2 + 1]'(by simp; omega), ?_⟩
      rw [cell_of_row _ _ _ _ _ _ b2, Array.getElem?_eq_getElem]
    obtain ⟨x1, g1⟩ := g1
    have HS3 := Lib.hid hs3
    have HO3 := Lib.hid hown
    have HB2 := Lib.hid hb2
    have HBX2 := Lib.hid b2
    clear hown hs3 hb2 b2 k0 k1
    go_wp2_with fail
    go_ret
    rw [E.out]
    have hy2 : Only (fun k => k = q) w w2 := HY1.out.trans ⟨HB2.out.os, HB2.out.tape, HB2.out.output, HB2.out.size, fun k hk _ => HB2.out.block k (by omega)⟩
    have hyf := hy2.setCell (p := ⟨q, i * 2 + 1, none⟩) rfl (.slice A3 m c3)
    refine ⟨rfl, H.out.put hi (fun us' h' => ?_) hyf ⟨rfl, A3, c3, by rw [← HM.out], ?_, fun h0 ad e => ?_⟩, hyf⟩
    · rw [HR.out] at h'
      injection h' with h'
      injection h' with h' _ _
      subst h'
      exact box_set _ HBX2.out
    · rw [← HM.out]
      refine Only.sees_far ((Only.refl (fun k => k = q) w2).setCell (p := ⟨q, i * 2 + 1, none⟩) rfl _) HS3.out (fun h0 ad e hq' => ?_)
      subst e
      have := (HO3.out.lt _ rfl).1
      have hq' : ad.block = q := hq'
      omega
    · subst e
      have := (HO3.out.lt _ rfl).1
      omega
  | some m2 =>
    rw [hg] at hu
    obtain ⟨rfl, A2, c2, rfl, hs2, -⟩ := hu
    have E := Lib.hid (show reachP st i l = (if m2 = l then 0 else 3, st) by unfold reachP; rw [hg])
    have HS2 := Lib.hid hs2
    have hc3 := hs2.2.1
    have hc4 := hs2.2.2.1
    unfold maxLen at hc4
    obtain ⟨k2, hk2⟩ : ∃ k2, k2 = m2.length := ⟨_, rfl⟩
    rw [← hk2] at k1 HS2 hc3
    have HK2 := Lib.hid hk2
    clear h hs hg hs2 hk2 hm
    by_cases hlen : k2 = m
    · subst hlen
      have e0 : ((k2 : Int) == k2) = true := by simp
      go_enter Tryz.func36, Tryz.ntmps36
      go_wp2_with fail
      go_loopw [7] (fun u wx => ∃ k : Nat, k ≤ k2 ∧ u = .int .i64 k ∧ m2.take k = l.take k ∧ Below w.heap.size w wx) (fun u _ => k2 - (intOf u).toNat)
      case atStart => exact ⟨0, by omega, rfl, rfl, Below.refl _ _⟩
      case round =>
        obtain ⟨k, hk, rfl, heq, hb⟩ := hrel
        have HEQ := Lib.hid heq
        have HB := Lib.hid hb
        have k0w := (hb.cell (p := ⟨q, i * 2, none⟩) hq).trans k0
        have k1w := (hb.cell (p := ⟨q, i * 2 + 1, none⟩) hq).trans k1
        clear heq hb
        by_cases hkn : k < k2
        · obtain ⟨ga, oa, x, rfl, hx, qx⟩ := ints_at (HS2.out.keep HB.out) hkn
          obtain ⟨gb, ob, y, rfl, hy, qy⟩ := ints_at (HS.out.keep HB.out) hkn
          have HXK := Lib.hid hx
          have HYK := Lib.hid hy
          clear hx hy k0 k1 k0w
          by_cases hxy : x = y
          · subst hxy
            have e1 : (x == x) = true := by simp
            go_wp2_with fail
            go_quiet (fail)
            go_wp2_with fail
            go_roundw
            case rel => exact ⟨k + 1, by omega, by go_num, by rw [List.take_add_one, List.take_add_one, HEQ.out, HXK.out, HYK.out], below_drewN HB.out _⟩
            case measure => simp [intOf]; omega
          · have e1 : (x == y) = false := by simpa using hxy
            have NE := Lib.hid (show ¬ m2 = l from fun h => by rw [h, HYK.out] at HXK; exact hxy (Option.some.inj HXK.out).symm)
            clear hxy
            go_wp2_with fail
            go_quiet (fail)
            go_wp2_with fail
            go_ret
            rw [E.out, if_neg NE.out]
            exact ⟨rfl, H.out.keep (below_drewN HB.out _), Only.of_below (below_drewN HB.out _)⟩
        · obtain rfl : k = k2 := by omega
          have YE := Lib.hid (show m2 = l from by
            have := HEQ.out
            rwa [List.take_of_length_le (by rw [← HK2.out]; exact Nat.le_refl _), List.take_of_length_le (by rw [← HM.out]; exact Nat.le_refl _)] at this)
          clear k0 k1 k0w k1w
          go_wp2_with fail
          go_ret
          rw [E.out, if_pos YE.out]
          exact ⟨rfl, H.out.keep HB.out, Only.of_below HB.out⟩
    · have e0 : ((k2 : Int) == m) = false := beq_eq_false_iff_ne.2 (fun h => hlen (by omega))
      have NE := Lib.hid (show ¬ m2 = l from fun h => hlen (by rw [HK2.out, HM.out, h]))
      clear hlen
      go_enter Tryz.func36, Tryz.ntmps36
      go_wp2_with fail
      go_ret
      rw [E.out, if_neg NE.out]
      exact ⟨rfl, H.out, Only.refl _ _⟩
end Go.Proofs.YthmbafkedgahaaaGreatDoor
namespace Go.Proofs.YthmbafkedgahaaaGreatDoor
open Go.ChangeShapes Go.WideShapes Go.ChangeAt Go.RowKit

theorem results_tmp4 {fn : Func} {t u v x : Tmp} (h : fn.results = #[.tmp t, .tmp u, .tmp v, .tmp x]) (tmps : Array Value) (P : Program) (w : World) :
    (results fn tmps).run P w = .ok (.tuple #[tmps.getD t undef, tmps.getD u undef, tmps.getD v undef, tmps.getD x undef]) w := by
  simp [results, h]
def FourSays (v : Ver) (W : World) (e : Ending) (w' : World) : Prop := e = .returned (.tuple #[.int .i64 v.place, .int .i64 v.err, .int .i64 v.ty, .int .i64 v.most]) ∧ Below W.heap.size W w'
theorem rstSlice : SliceTy Tryz.prog 82 84 (.agg #[.bool false, .slice none 0 0]) 2 32 := SliceTy.of Tryz.underlying82 (by kernel_rfl) rfl (by decide) (by decide)
theorem RsAt.new {w : World} {B q n : Nat} (hq : w.ownsRow B 84 2 (.slice (some ⟨q, 0, none⟩) (n + 1) (n + 1)) (n + 1) (madeCells (Value.agg #[.bool false, .slice none 0 0]).cells ((n + 1) * 2)).toList) :
    RsAt w B q n (List.replicate (n + 1) none) := by
  have hql := hq.lt q rfl
  refine ⟨?_, by simp, hql.1⟩
  rcases hq.2 with ⟨e, _⟩ | ⟨g, cap, cur, e, h1, h2, h3, h4, h5, h6⟩
  · cases e
  · injection e with e1 e2 e3
    injection e1 with e1
    injection e1 with e1
    subst e1 e3
    refine ⟨cur, h2, h5, fun k o ho => ?_⟩
    rw [List.getElem?_replicate] at ho
    split at ho
    · rename_i hk
      injection ho with ho
      subst ho
      have key : ∀ j u, j < (n + 1) * 2 → (madeCells (Value.agg #[.bool false, .slice none 0 0]).cells ((n + 1) * 2))[j]? = some u → cur[j]? = some u := by
        intro j u hj hu
        have e6 : (cur.toList.take ((n + 1) * 2))[j]? = _ := congrArg (fun z : List Value => z[j]?) h6
        rw [List.getElem?_take_of_lt hj, Array.getElem?_toList, Array.getElem?_toList] at e6
        rw [e6, hu]
      refine ⟨.bool false, .slice none 0 0, key _ _ (by omega) ?_, key _ _ (by omega) ?_, rfl, rfl⟩
      · unfold madeCells
        rw [Array.getElem?_map, Array.getElem?_range]
        simp [show k * 2 < (n + 1) * 2 by omega, Value.cells]
      · unfold madeCells
        rw [Array.getElem?_map, Array.getElem?_range]
        simp [show k * 2 + 1 < (n + 1) * 2 by omega, Value.cells]
    · cases ho
theorem RsAt.first {w : World} {B q n : Nat} (h : RsAt w B q n (List.replicate (n + 1) none)) : RsAt (w.setCell ⟨q, 0, none⟩ (.bool true)) B q n (startP n) := by
  obtain ⟨us, h1, h2, h3⟩ := h.row
  have hy : Only (fun k => k = q) w (w.setCell ⟨q, 0, none⟩ (.bool true)) := (Only.refl (fun k => k = q) w).setCell (p := ⟨q, 0, none⟩) rfl _
  refine ⟨⟨_, box_set (i := 0) (.bool true) h1, by simpa using h2, fun k o ho => ?_⟩, by simp [startP], h.low⟩
  cases k with
  | zero =>
    obtain ⟨u0, u1, a, b, c⟩ := h3 0 none (by simp)
    obtain ⟨rfl, rfl⟩ : u0 = .bool false ∧ u1 = .slice none 0 0 := c
    have ho : some ([] : List Int) = o := by injection ho
    subst ho
    refine ⟨.bool true, .slice none 0 0, ?_, ?_, rfl, none, 0, rfl, Sees.nil _ _, fun h => absurd h (by decide)⟩
    · rw [Nat.zero_mul, Array.getElem?_setIfInBounds_self, if_pos (by omega)]
    · rw [Array.getElem?_setIfInBounds_ne (by omega)]; exact b
  | succ k =>
    unfold startP at ho
    rw [List.getElem?_cons_succ] at ho
    have hk : (List.replicate (n + 1) (none : Option (List Int)))[k + 1]? = some o := by
      rw [List.replicate_succ, List.getElem?_cons_succ]; exact ho
    obtain ⟨u0, u1, a, b, c⟩ := h3 (k + 1) o hk
    refine ⟨u0, u1, ?_, ?_, c.only hy (fun k hk _ => hk)⟩
    · rw [Array.getElem?_setIfInBounds_ne (by omega)]; exact a
    · rw [Array.getElem?_setIfInBounds_ne (by omega)]; exact b
section
variable {code : List Ins} {cols : List Col} {n k : Nat} {st : Sts} {most : Nat} {x : Ins} {l : List Int} {f : Int}
theorem ver_stop (hl : code.length = n) (h1 : ¬ 1200 < n) (h2 : schemaErr cols = 0) (hr : runP cols n 0 code (startP n) 0 = runP cols n k (code.drop k) st most) (hx : code[k]? = some x) (hs : (stepP cols n k x st most).1 = f) (hf : f ≠ 0) :
    verP code cols = ⟨k, f, 0, 0⟩ := by
  have e := runP_step (cols := cols) (len := n) (st := st) (most := most) hx
  rw [hs, if_pos hf] at e
  unfold verP
  rw [hl, if_neg h1, if_neg (by simpa using h2), hr, e, if_pos hf]
theorem ver_next {st' : Sts} {most' : Nat} (hr : runP cols n 0 code (startP n) 0 = runP cols n k (code.drop k) st most) (hx : code[k]? = some x) (hs : stepP cols n k x st most = (0, st', most')) :
    runP cols n 0 code (startP n) 0 = runP cols n (k + 1) (code.drop (k + 1)) st' most' := by
  have e := runP_step (cols := cols) (len := n) (st := st) (most := most) hx
  rw [hs, if_neg (by simp)] at e
  exact hr.trans e
theorem stepP_none (h : st.getD k none = none) : (stepP cols n k x st most).1 = 5 := by unfold stepP; rw [h]
theorem stepP_a (h : st.getD k none = some l) (ha : argErr n k cols.length x = f) (hf : f ≠ 0) : (stepP cols n k x st most).1 = f := by
  subst ha; rw [stepP_arg h hf]
theorem stepP_c (h : st.getD k none = some l) (ha : argErr n k cols.length x = 0) (hc : (actP cols x l).1 = f) (hf : f ≠ 0) : (stepP cols n k x st most).1 = f := by
  subst hc; rw [stepP_act h ha hf]
theorem actP_short (h : l.length < need x) : (actP cols x l).1 = 6 := by unfold actP; rw [if_pos h]
theorem actP_bad {j d : Nat} {u : List Int} (hn : need x = d) (hl : l.length = j + d) (hp : putTy cols x (l.drop j) = (f, u)) (hf : f ≠ 0) : (actP cols x l).1 = f := by
  unfold actP; rw [hn, hl, if_neg (by omega), show j + d - d = j by omega, hp, if_pos hf]
theorem actP_long {j d : Nat} {u : List Int} (hn : need x = d) (hl : l.length = j + d) (hp : putTy cols x (l.drop j) = (0, u)) (h6 : 64 < j + u.length) : (actP cols x l).1 = 4 := by
  unfold actP; rw [hn, hl, if_neg (by omega), show j + d - d = j by omega, hp, if_neg (by simp), if_pos (by rw [List.length_append, List.length_take, hl]; show 64 < min j (j + d) + u.length; omega)]
theorem actP_ok {j d : Nat} {u : List Int} (hn : need x = d) (hl : l.length = j + d) (hp : putTy cols x (l.drop j) = (0, u)) (h6 : ¬ 64 < j + u.length) : actP cols x l = (0, l.take j ++ u) := by
  unfold actP; rw [hn, hl, if_neg (by omega), show j + d - d = j by omega, hp, if_neg (by simp), if_neg (by rw [List.length_append, List.length_take, hl]; show ¬ 64 < min j (j + d) + u.length; omega)]
theorem reachP_3 {i : Nat} (h : (reachP st i l).1 ≠ 0) : (reachP st i l).1 = 3 := by
  unfold reachP at h ⊢
  split
  · rename_i h1; rw [h1] at h; exact absurd rfl h
  · rename_i m h1
    rw [h1] at h
    by_cases e : m = l
    · have h : (if m = l then (0 : Int) else 3) ≠ 0 := h
      rw [if_pos e] at h; exact absurd rfl h
    · show (if m = l then (0 : Int) else 3) = 3
      rw [if_neg e]
section
variable {u : List Int} {a : Nat} (h : st.getD k none = some l) (ha : argErr n k cols.length x = 0) (hc : actP cols x l = (0, u))
include h ha hc
theorem step_n (h4 : x.what ≠ 4) (h5 : x.what ≠ 5) : stepP cols n k x st most = ((reachP st (k + 1) u).1, (reachP st (k + 1) u).2, max most u.length) := by
  have := stepP_next (most := most) h ha (by rw [hc]) h4 h5
  rw [hc] at this; exact this
theorem step_j (h4 : x.what = 4) (e : x.arg = a) : stepP cols n k x st most = ((reachP st (k + 1 + a) u).1, (reachP st (k + 1 + a) u).2, max most u.length) := by
  have := stepP_jump (most := most) h ha (by rw [hc]) h4 e
  rw [hc] at this; exact this
theorem step_e1 (h5 : x.what = 5) (e : x.arg = a) (hr : (reachP st (k + 1 + a) u).1 ≠ 0) : stepP cols n k x st most = ((reachP st (k + 1 + a) u).1, (reachP st (k + 1 + a) u).2, max most u.length) := by
  have := stepP_else1 (most := most) h ha (by rw [hc]) h5 e (by rw [hc]; exact hr)
  rw [hc] at this; exact this
theorem step_e2 (h5 : x.what = 5) (e : x.arg = a) (hr : (reachP st (k + 1 + a) u).1 = 0) : stepP cols n k x st most = ((reachP (reachP st (k + 1 + a) u).2 (k + 1) u).1, (reachP (reachP st (k + 1 + a) u).2 (k + 1) u).2, max most u.length) := by
  have := stepP_else2 (most := most) h ha (by rw [hc]) h5 e (by rw [hc]; exact hr)
  rw [hc] at this; exact this
end
end
theorem own_form {w : World} {B e size n c : Nat} {A : Option Addr} {xs : List Value} (h : w.ownsRow B e size (.slice A n c) n xs) : (A = none ∧ n = 0 ∧ c = 0) ∨ ∃ g, A = some ⟨g, 0, none⟩ := by
  rcases h.2 with ⟨e1, e2⟩ | ⟨g, cap, cur, e1, -⟩
  · injection e1 with e1 e3 e4; exact Or.inl ⟨e1, e2, e4⟩
  · injection e1 with e1; exact Or.inr ⟨g, e1⟩
theorem own_addr {w : World} {B e size n c : Nat} {A : Option Addr} {xs : List Value} (h : w.ownsRow B e size (.slice A n c) n xs) (hn : 0 < n) : ∃ g, A = some ⟨g, 0, none⟩ := by
  rcases own_form h with ⟨-, h0, -⟩ | h1
  · omega
  · exact h1
theorem own_take {w : World} {B e n j c : Nat} {A : Option Addr} {l : List Int} (h : w.ownsRow B e 1 (.slice A n c) n (intCells l)) (hj : j ≤ n) : w.ownsRow B e 1 (.slice A j c) j (intCells (l.take j)) := by
  rcases own_form h with ⟨rfl, rfl, rfl⟩ | ⟨g, rfl⟩
  · obtain rfl : j = 0 := by omega
    have := World.ownsRow_nil w B e 1
    exact this
  · obtain ⟨d, rfl⟩ : ∃ d, n = j + d := ⟨n - j, by omega⟩
    exact own_prefix h
set_option maxHeartbeats 16000000 in
set_option maxRecDepth 100000 in
theorem sck_any (A0 : Option Addr) (n c : Nat) (code : List Ins) (K : Option Addr) (nk ck : Nat) (cols : List Col) (W : World) (hC : SeesCode W A0 n c code) (hK : SeesCols W K nk ck cols) (hs : ∀ x ∈ cols, x.name.size ≤ maxLen) (hw : ∀ x ∈ code, x.val.s.size ≤ maxLen) :
    Calls Tryz.prog 7 #[.slice A0 n c, .slice K nk ck] W (FourSays (verP code cols) W) := by
  have hl := hC.1
  have hcc := hC.2.2.1
  have hcm := hC.2.2.2.1
  unfold maxLen at hcm
  have hkc := hK.2.2.1
  have hkm := hK.2.2.2.1
  unfold maxLen at hkm
  by_cases h1200 : 1200 < n
  · have d0 : decide (1200 < n) = true := decide_eq_true h1200
    have d0' : decide (1200 < (n : Int)) = true := decide_eq_true (by omega)
    have E := Lib.hid (show verP code cols = ⟨0, 4, 0, 0⟩ by unfold verP; rw [hl]; exact if_pos h1200)
    clear hC hK hs
    go_enter Tryz.func7, Tryz.ntmps7
    go_wp2_with fail
    refine bodyPost_ret (results_tmp4 rfl _ _ _) rfl ?_
    rw [E.out]
    exact ⟨rfl, Below.refl _ _⟩
  have d0 : decide (1200 < n) = false := decide_eq_false h1200
  have d0' : decide (1200 < (n : Int)) = false := decide_eq_false (by omega)
  have TS := Lib.hid (rschemaR_any cols K nk ck W hK hs)
  by_cases hse : schemaErr cols = 0
  · rw [hse] at TS
    have EV := Lib.hid (show verP code cols = (if (runP cols n 0 code (startP n) 0).2.1 ≠ 0 then (⟨(runP cols n 0 code (startP n) 0).1, (runP cols n 0 code (startP n) 0).2.1, 0, 0⟩ : Ver) else if (endP n (runP cols n 0 code (startP n) 0).2.2.1).length ≠ 1 then ⟨n, 3, 0, 0⟩ else
      ⟨0, 0, (endP n (runP cols n 0 code (startP n) 0).2.2.1).headD 0, (runP cols n 0 code (startP n) 0).2.2.2⟩) by
      unfold verP; rw [hl, if_neg h1200, if_neg (by simpa using hse)])
    have HC := Lib.hid hC
    have HK := Lib.hid hK
    have HLL := Lib.hid hl
    have HWF := Lib.hid hw
    have H12 := Lib.hid h1200
    have HSE := Lib.hid hse
    clear hC hK hs hse hl hw
    obtain ⟨ht, _, _, hzs, i0, hi, hz, hsz, hby⟩ := rstSlice
    obtain ⟨wq, hmk, hownq, hgq⟩ := run_makeSlice_full (P := Tryz.prog) W W.heap.size 82 84 i0 (.agg #[.bool false, .slice none 0 0]) 2 ht hi hz hsz .i64 .i64 (n + 1) (by omega) (by rw [hby]; omega) (by unfold maxLen; omega) (Nat.le_refl _)
    have hbq : Below W.heap.size W wq := (Below.refl _ _).grown hgq (Nat.le_refl _) (fun k hk => by cases hk)
    rw [show ((n + 1 : Nat) : Int) = (n : Int) + 1 by omega] at hmk
    obtain ⟨q, hq⟩ : ∃ q, q = W.heap.size := ⟨_, rfl⟩
    rw [← hq] at hmk hownq
    have hr0 := RsAt.new hownq
    obtain ⟨w1, hw1⟩ : ∃ w1, wq.setCell ⟨q, 0, none⟩ (.bool true) = w1 := ⟨_, rfl⟩
    have hr1 := hr0.first
    rw [hw1] at hr1
    obtain ⟨u0, hu0⟩ : ∃ u0, wq.cell? ⟨q, 0, none⟩ = some u0 := by
      obtain ⟨a, b, h1, -⟩ := hr0.at_ (i := 0) (by omega)
      rw [Nat.zero_mul] at h1
      exact ⟨a, h1⟩
    have hf0 : wq.frozen? ⟨q, 0, none⟩ = false := by
      obtain ⟨a, b, -, -, -, h1, -, -⟩ := hr0.at_ (i := 0) (by omega)
      rw [Nat.zero_mul] at h1
      exact h1
    have HR1 := Lib.hid hr1
    have HBW := Lib.hid (show Below W.heap.size W w1 by
      rw [← hw1]
      exact hbq.setCell (p := ⟨q, 0, none⟩) (show W.heap.size ≤ q by omega) _)
    have HMK := Lib.hid hmk
    have HW1 := Lib.hid hw1
    have HQ := Lib.hid hq
    clear hownq hgq hbq hw1 hr0 hr1 ht hi hz hsz hby hzs hmk hq
    go_enter Tryz.func7, Tryz.ntmps7
    go_wp2_with fail
    refine (TS.out).mono ?_
    rintro e w0 ⟨rfl, rfl⟩
    go_wp2_with (first | rw [HMK.out] | rw [HW1.out])
    clear hu0 hf0
    go_loopw [10, 11] (fun mo u wx => ∃ (k : Nat) (st : Sts) (most : Nat), k ≤ n ∧ u = .int .i64 k ∧ mo = .int .i64 most ∧ RsAt wx q q n st ∧ Below W.heap.size W wx ∧ Small64 st ∧ most ≤ 64 ∧ runP cols n 0 code (startP n) 0 = runP cols n k (code.drop k) st most) (fun _ u _ => n - (intOf u).toNat)
    case atStart => exact ⟨0, startP n, 0, by omega, rfl, rfl, HR1.out, HBW.out, start_small n, by omega, rfl⟩
    case round =>
      obtain ⟨k, st, most, hk, rfl, rfl, hrs, hlow, hsm, hmo, hrun⟩ := hrel
      have HRS := Lib.hid hrs
      have HLOW := Lib.hid hlow
      have HSM := Lib.hid hsm
      have HRUN := Lib.hid hrun
      clear hrs hlow hsm hrun
      by_cases hkn : k < n
      · obtain ⟨gC, oC, x, rfl, hgc, hx, c0, c1, c2, c3, c4⟩ := (HC.out.keep HLOW.out).at_ hkn
        obtain ⟨u0, u1, k0, k1, hu, f0, f1, hqw⟩ := HRS.out.at_ (i := k) (by omega)
        have HX := Lib.hid hx
        have HXS := Lib.hid (HWF.out x (List.mem_of_getElem? hx))
        have hkn1 : k < n + 1 := by omega
        have hkn2 : (k : Int) < (n : Int) + 1 := by omega
        clear hx
        cases hst : st.getD k none with
        | none =>
          rw [hst] at hu
          obtain ⟨rfl, rfl⟩ : u0 = .bool false ∧ u1 = .slice none 0 0 := hu
          have E := Lib.hid (ver_stop HLL.out H12.out HSE.out HRUN.out HX.out (stepP_none hst) (by decide))
          clear hst c0 c1 c2 c3 c4
          go_wp2_with fail
          refine bodyPost_ret (results_tmp4 rfl _ _ _) rfl ?_
          rw [E.out]
          exact ⟨rfl, HLOW.out⟩
        | some l =>
          rw [hst] at hu
          obtain ⟨rfl, A', c', rfl, hsA, hfA⟩ := hu
          have HST := Lib.hid hst
          obtain ⟨m, hm⟩ : ∃ m, m = l.length := ⟨_, rfl⟩
          have hm64 : m ≤ 64 := by rw [hm]; exact HSM.out k l hst
          rw [← hm] at k1 hsA
          have HM := Lib.hid hm
          obtain ⟨w1, hw1⟩ : ∃ w1, wr.alloc (.cells #[.int .i64 x.what, .int .i64 x.arg, .int .i64 x.val.type, .int .i64 x.val.n, .string x.val.s] 86) = w1 := ⟨_, rfl⟩
          have hb1 : Below wr.heap.size wr w1 := by rw [← hw1]; exact (Below.refl _ _).alloc (Nat.le_refl _) _
          have hx1 := heap_alloc_new wr (.cells #[.int .i64 x.what, .int .i64 x.arg, .int .i64 x.val.type, .int .i64 x.val.n, .string x.val.s] 86)
          rw [hw1] at hx1
          have HX1 := Lib.hid hx1
          have HRS1 := Lib.hid (HRS.out.keep hb1)
          have HSA1 := Lib.hid (hsA.keep hb1)
          have k0' := (hb1.cell (p := ⟨q, k * 2, none⟩) hqw).trans k0
          have k1' := (hb1.cell (p := ⟨q, k * 2 + 1, none⟩) hqw).trans k1
          have HB1 := Lib.hid hb1
          have HW1 := Lib.hid hw1
          have hs1 : w1.heap.size = wr.heap.size + 1 := by rw [← hw1]; simp
          have HS1 := Lib.hid hs1
          have HLOW1 := Lib.hid (below_step HLOW.out hb1)
          clear hst hsA hfA hm hw1 hb1 hx1 hs1
          go_wp2_with (first | rw [HW1.out] | (at_builtin; refine wpList_append_src intSlice rfl _ _ rfl rfl rfl (World.ownsRow_nil w1 w1.heap.size _ _) HSA1.out (Below.refl _ _) (Nat.le_refl _) (ints_one l) (by omega) ?_))
          intro v' w2 hown hb2 _
          have hown : w2.ownsRow w1.heap.size 3 1 v' m (intCells l) := by first | exact hown | (rw [Nat.zero_add, List.nil_append] at hown; exact hown)
          clear k0' k1' k0 k1 f0 f1 c0 c1 c2 c3 c4
          -- BEGIN ROUND
          by_cases hwh : x.what = 1
          · as_aux_lemma =>
              have HWH := Lib.hid hwh
              clear hwh
              have HN4 := Lib.hid (show x.what ≠ 4 by rw [HWH.out]; decide)
              have HN5 := Lib.hid (show x.what ≠ 5 by rw [HWH.out]; decide)
              have HB2 := Lib.hid hb2
              obtain ⟨x0, x1, x2, x3, x4⟩ := box5 ((HB2.out.block _ (by rw [HS1.out]; omega)).trans HX1.out)
              rw [HWH.out] at x0
              obtain ⟨A2, c2, rfl, hs2⟩ := Sees.of_own hown
              have HS2 := Lib.hid hs2
              have hc2 := hs2.2.1
              have hc3 := hs2.2.2.1
              unfold maxLen at hc3
              have HO2 := Lib.hid hown
              clear hown hb2 hs2
              have TV := Lib.hid (rval_any x.val w2 HXS.out)
              obtain ⟨vc, hvc⟩ : ∃ vc, vc = vcheck x.val := ⟨_, rfl⟩
              rw [← hvc] at TV
              have HVC := Lib.hid hvc
              clear hvc
              have HA := Lib.hid (show argErr n k cols.length x = vc by unfold argErr; rw [if_pos HWH.out, HVC.out])
              by_cases hv : vc = 0
              · subst hv
                go_wp2_with fail
                refine (TV.out).mono ?_
                rintro e w3 ⟨rfl, hb3⟩
                have HB3 := Lib.hid (HB2.out.trans (hb3.mono HB2.out.size))
                have HO3 := Lib.hid (own_keep HO2.out hb3)
                clear hb3 x0 x1 x2 x3 x4
                obtain ⟨x0, x1, x2, x3, x4⟩ := box5 ((HB3.out.block _ (by rw [HS1.out]; omega)).trans HX1.out)
                rw [HWH.out] at x0
                have HP := Lib.hid (show putTy cols x (l.drop m) = (0, [x.val.type]) by unfold putTy; rw [if_pos HWH.out])
                have HN := Lib.hid (show need x = 0 by unfold need; rw [if_neg (by rw [HWH.out]; decide), if_neg (by rw [HWH.out]; decide)])
                have HL := Lib.hid (show l.length = m + 0 from HM.out.symm)
                have HTK := Lib.hid (show l.take m = l from List.take_of_length_le (by rw [HM.out]; exact Nat.le_refl _))
                go_wp2_with (first | (at_builtin; refine wpList_append_one intSlice rfl _ _ rfl rfl rfl HO3.out HB3.out (Nat.le_refl _) rfl (by intro u hu; simp at hu; subst hu; rfl) (by omega) ?_))
                all_goals
                  intro v' w5 hown5 hb5 _
                  have hown5 : w5.ownsRow w1.heap.size 3 1 v' (m + 1) (intCells (l ++ [x.val.type])) := by rw [← intCells_app]; exact hown5
                  obtain ⟨A5, c5, rfl, hs5⟩ := Sees.of_own hown5
                  have HS5 := Lib.hid hs5
                  have HB5 := Lib.hid hb5
                  have HO5 := Lib.hid hown5
                  clear hown5 hb5 hs5 x0 x1 x2 x3 x4
                  try (rename_i hmc; clear hmc)
                  have HFAR := Lib.hid (show 0 < (l ++ [x.val.type]).length → ∀ ad, A5 = some ad → ad.block ≠ q by
                    intro _ ad e
                    subst e
                    have := (HO5.out.lt _ rfl).1
                    have := HS1.out
                    omega)
                  have HLT := Lib.hid (show (l ++ [x.val.type]).length = m + 1 by have := HM.out; simp; omega)
                  have HST5 := Lib.hid (show Sees w5 A5 ((l ++ [x.val.type]).length) c5 1 (intCells (l ++ [x.val.type])) by rw [HLT.out]; exact HS5.out)
                  obtain ⟨x0, x1, x2, x3, x4⟩ := box5 ((HB5.out.block _ (by rw [HS1.out]; omega)).trans HX1.out)
                  rw [HWH.out] at x0
                  by_cases h64 : 64 < m + 1
                  · have d64 : decide (64 < m + 1) = true := decide_eq_true h64
                    have d64' : decide (64 < ((m + 1 : Nat) : Int)) = true := decide_eq_true (by omega)
                    have d64'' : decide (64 < (m : Int) + 1) = true := decide_eq_true (by omega)
                    have E := Lib.hid (ver_stop HLL.out H12.out HSE.out HRUN.out HX.out (stepP_c HST.out HA.out (actP_long HN.out HL.out HP.out (by simp; omega)) (by decide)) (by decide))
                    clear h64
                    go_wp2_with fail
                    refine bodyPost_ret (results_tmp4 rfl _ _ _) rfl ?_
                    rw [E.out]
                    exact ⟨rfl, below_step HLOW1.out HB5.out⟩
                  · have d64 : decide (64 < m + 1) = false := decide_eq_false h64
                    have d64' : decide (64 < ((m + 1 : Nat) : Int)) = false := decide_eq_false (by omega)
                    have d64'' : decide (64 < (m : Int) + 1) = false := decide_eq_false (by omega)
                    have AE := Lib.hid (show actP cols x l = (0, l ++ [x.val.type]) from (actP_ok HN.out HL.out HP.out (by simp; omega)).trans (by rw [HTK.out]))
                    have h64' : m + 1 ≤ 64 := by omega
                    clear h64
                    have HSMN := Lib.hid (stepP_small (cols := cols) (len := n) (i := k) (x := x) HSM.out hmo)
                    by_cases hmb : most < m + 1
                    · have dm : decide (most < m + 1) = true := decide_eq_true hmb
                      have dm' : decide ((most : Int) < ((m + 1 : Nat) : Int)) = true := decide_eq_true (by omega)
                      have dm'' : decide ((most : Int) < (m : Int) + 1) = true := decide_eq_true (by omega)
                      have HMX := Lib.hid (show max most (l ++ [x.val.type]).length = m + 1 by rw [HLT.out]; omega)
                      clear hmb
                      have HRS5 := Lib.hid (HRS1.out.keep HB5.out)
                      have TRa := Lib.hid (sreach_any q q n st (k + 1) c5 A5 (l ++ [x.val.type]) w5 HRS5.out (by omega) (by omega) HST5.out (by rw [HLT.out]; omega) (by intro h0 ad e; exact HFAR.out h0 ad e))
                      rw [HLT.out] at TRa
                      obtain ⟨ra, hra⟩ : ∃ r, r = reachP st (k + 1) (l ++ [x.val.type]) := ⟨_, rfl⟩
                      rw [← hra] at TRa
                      have HRa := Lib.hid hra
                      clear hra
                      rw [show (((k + 1 : Nat) : Int)) = (k : Int) + 1 by omega] at TRa
                      have STEP := Lib.hid (step_n (most := most) HST.out HA.out AE.out HN4.out HN5.out)
                      rw [← HRa.out, HMX.out] at STEP
                      go_wp2_with fail
                      refine (TRa.out).mono ?_
                      rintro e w8 ⟨rfl, hrs8, hon8⟩
                      have HRS8 := Lib.hid hrs8
                      have HLOW8 := Lib.hid ((below_step HLOW1.out HB5.out).trans (hon8.below (below_step HLOW1.out HB5.out).size (fun k hk => by have hk : k = q := hk; have := HQ.out; omega)))
                      clear hrs8 hon8
                      clear x0 x1 x2 x3 x4
                      by_cases h0 : ra.1 = 0
                      · have D0 : decide (ra.1 = 0) = true := decide_eq_true h0
                        rw [D0]
                        rw [h0] at STEP
                        clear h0 D0
                        have HRUN2 := Lib.hid (ver_next HRUN.out HX.out STEP.out)
                        rw [STEP.out] at HSMN
                        go_wp2_with fail
                        go_roundw
                        case rel => exact ⟨k + 1, ra.2, m + 1, by omega, by go_num, by go_num, HRS8.out, HLOW8.out, HSMN.out.1, HSMN.out.2, HRUN2.out⟩
                        case measure => simp [intOf]; omega
                      · have D0 : decide (ra.1 = 0) = false := decide_eq_false h0
                        rw [D0]
                        have E := Lib.hid (ver_stop HLL.out H12.out HSE.out HRUN.out HX.out (show (stepP cols n k x st most).1 = 3 by rw [STEP.out]; show ra.1 = 3; rw [HRa.out] at h0 ⊢; exact reachP_3 h0) (by decide))
                        clear h0 D0
                        go_wp2_with fail
                        refine bodyPost_ret (results_tmp4 rfl _ _ _) rfl ?_
                        rw [E.out]
                        exact ⟨rfl, HLOW8.out⟩
                    · have dm : decide (most < m + 1) = false := decide_eq_false hmb
                      have dm' : decide ((most : Int) < ((m + 1 : Nat) : Int)) = false := decide_eq_false (by omega)
                      have dm'' : decide ((most : Int) < (m : Int) + 1) = false := decide_eq_false (by omega)
                      have HMX := Lib.hid (show max most (l ++ [x.val.type]).length = most by rw [HLT.out]; omega)
                      clear hmb
                      have HRS5 := Lib.hid (HRS1.out.keep HB5.out)
                      have TRa := Lib.hid (sreach_any q q n st (k + 1) c5 A5 (l ++ [x.val.type]) w5 HRS5.out (by omega) (by omega) HST5.out (by rw [HLT.out]; omega) (by intro h0 ad e; exact HFAR.out h0 ad e))
                      rw [HLT.out] at TRa
                      obtain ⟨ra, hra⟩ : ∃ r, r = reachP st (k + 1) (l ++ [x.val.type]) := ⟨_, rfl⟩
                      rw [← hra] at TRa
                      have HRa := Lib.hid hra
                      clear hra
                      rw [show (((k + 1 : Nat) : Int)) = (k : Int) + 1 by omega] at TRa
                      have STEP := Lib.hid (step_n (most := most) HST.out HA.out AE.out HN4.out HN5.out)
                      rw [← HRa.out, HMX.out] at STEP
                      go_wp2_with fail
                      refine (TRa.out).mono ?_
                      rintro e w8 ⟨rfl, hrs8, hon8⟩
                      have HRS8 := Lib.hid hrs8
                      have HLOW8 := Lib.hid ((below_step HLOW1.out HB5.out).trans (hon8.below (below_step HLOW1.out HB5.out).size (fun k hk => by have hk : k = q := hk; have := HQ.out; omega)))
                      clear hrs8 hon8
                      clear x0 x1 x2 x3 x4
                      by_cases h0 : ra.1 = 0
                      · have D0 : decide (ra.1 = 0) = true := decide_eq_true h0
                        rw [D0]
                        rw [h0] at STEP
                        clear h0 D0
                        have HRUN2 := Lib.hid (ver_next HRUN.out HX.out STEP.out)
                        rw [STEP.out] at HSMN
                        go_wp2_with fail
                        go_roundw
                        case rel => exact ⟨k + 1, ra.2, most, by omega, by go_num, by go_num, HRS8.out, HLOW8.out, HSMN.out.1, HSMN.out.2, HRUN2.out⟩
                        case measure => simp [intOf]; omega
                      · have D0 : decide (ra.1 = 0) = false := decide_eq_false h0
                        rw [D0]
                        have E := Lib.hid (ver_stop HLL.out H12.out HSE.out HRUN.out HX.out (show (stepP cols n k x st most).1 = 3 by rw [STEP.out]; show ra.1 = 3; rw [HRa.out] at h0 ⊢; exact reachP_3 h0) (by decide))
                        clear h0 D0
                        go_wp2_with fail
                        refine bodyPost_ret (results_tmp4 rfl _ _ _) rfl ?_
                        rw [E.out]
                        exact ⟨rfl, HLOW8.out⟩
              · have e1 : (vc != 0) = true := by simpa using hv
                have E := Lib.hid (ver_stop HLL.out H12.out HSE.out HRUN.out HX.out (stepP_a HST.out HA.out hv) hv)
                clear hv
                go_wp2_with fail
                refine (TV.out).mono ?_
                rintro e w3 ⟨rfl, hb3⟩
                have HB3 := Lib.hid (HB2.out.trans (hb3.mono HB2.out.size))
                clear hb3
                go_wp2_with fail
                refine bodyPost_ret (results_tmp4 rfl _ _ _) rfl ?_
                rw [E.out]
                exact ⟨rfl, below_step HLOW1.out HB3.out⟩
          have h1 := hwh
          clear hwh
          by_cases hwh : x.what = 2
          · as_aux_lemma =>
              have HWH := Lib.hid hwh
              clear hwh
              have HN4 := Lib.hid (show x.what ≠ 4 by rw [HWH.out]; decide)
              have HN5 := Lib.hid (show x.what ≠ 5 by rw [HWH.out]; decide)
              have HB2 := Lib.hid hb2
              obtain ⟨x0, x1, x2, x3, x4⟩ := box5 ((HB2.out.block _ (by rw [HS1.out]; omega)).trans HX1.out)
              rw [HWH.out] at x0
              obtain ⟨A2, c2, rfl, hs2⟩ := Sees.of_own hown
              have HS2 := Lib.hid hs2
              have hc2 := hs2.2.1
              have hc3 := hs2.2.2.1
              unfold maxLen at hc3
              have HO2 := Lib.hid hown
              clear hown hb2 hs2
              have HKS := Lib.hid (HK.out.keep (below_step HLOW1.out HB2.out))
              obtain ⟨xa, hxa⟩ : ∃ xa, xa = x.arg := ⟨_, rfl⟩
              rw [← hxa] at x1
              have HXA := Lib.hid hxa
              clear hxa
              by_cases hg0 : xa < 0
              · have d1 : decide (xa < 0) = true := decide_eq_true hg0
                have HA := Lib.hid (show argErr n k cols.length x = 1 by unfold argErr; rw [if_neg (by rw [HWH.out]; decide), if_pos HWH.out, if_neg (by rw [← HXA.out]; have := HK.out.1; omega)])
                clear hg0
                have E := Lib.hid (ver_stop HLL.out H12.out HSE.out HRUN.out HX.out (stepP_a HST.out HA.out (by decide)) (by decide))
                go_wp2_with fail
                refine bodyPost_ret (results_tmp4 rfl _ _ _) rfl ?_
                rw [E.out]
                exact ⟨rfl, below_step HLOW1.out HB2.out⟩
              · have d1 : decide (xa < 0) = false := decide_eq_false hg0
                obtain ⟨a, rfl⟩ : ∃ a : Nat, xa = a := ⟨xa.toNat, by omega⟩
                by_cases hg1 : nk ≤ a
                · have d2 : decide (nk ≤ a) = true := decide_eq_true hg1
                  have d2' : decide ((nk : Int) ≤ (a : Int)) = true := decide_eq_true (by omega)
                  have HA := Lib.hid (show argErr n k cols.length x = 1 by unfold argErr; rw [if_neg (by rw [HWH.out]; decide), if_pos HWH.out, if_neg (by rw [← HXA.out]; have := HK.out.1; omega)])
                  clear hg0 hg1
                  have E := Lib.hid (ver_stop HLL.out H12.out HSE.out HRUN.out HX.out (stepP_a HST.out HA.out (by decide)) (by decide))
                  go_wp2_with fail
                  refine bodyPost_ret (results_tmp4 rfl _ _ _) rfl ?_
                  rw [E.out]
                  exact ⟨rfl, below_step HLOW1.out HB2.out⟩
                · have d2 : decide (nk ≤ a) = false := decide_eq_false hg1
                  have d2' : decide ((nk : Int) ≤ (a : Int)) = false := decide_eq_false (by omega)
                  have hak : a < nk := by omega
                  have hak' : (a : Int) < (nk : Int) := by omega
                  obtain ⟨gk, ok, y, rfl, hgk, hy, y0, y1⟩ := HKS.out.at_ hak
                  have HA := Lib.hid (show argErr n k cols.length x = 0 by unfold argErr; rw [if_neg (by rw [HWH.out]; decide), if_pos HWH.out, if_pos (by rw [← HXA.out]; have := HK.out.1; omega)])
                  have HP := Lib.hid (show putTy cols x (l.drop m) = (0, [y.type]) by unfold putTy; rw [if_neg (by rw [HWH.out]; decide), if_pos HWH.out, ← HXA.out, Int.toNat_natCast, List.getD_eq_getElem?_getD, hy]; rfl)
                  clear hg0 hg1 hy
                  have HN := Lib.hid (show need x = 0 by unfold need; rw [if_neg (by rw [HWH.out]; decide), if_neg (by rw [HWH.out]; decide)])
                  have HL := Lib.hid (show l.length = m + 0 from HM.out.symm)
                  have HTK := Lib.hid (show l.take m = l from List.take_of_length_le (by rw [HM.out]; exact Nat.le_refl _))
                  go_wp2_with (first | (at_builtin; refine wpList_append_one intSlice rfl _ _ rfl rfl rfl HO2.out HB2.out (Nat.le_refl _) rfl (by intro u hu; simp at hu; subst hu; rfl) (by omega) ?_))
                  all_goals
                    intro v' w5 hown5 hb5 _
                    have hown5 : w5.ownsRow w1.heap.size 3 1 v' (m + 1) (intCells (l ++ [y.type])) := by rw [← intCells_app]; exact hown5
                    obtain ⟨A5, c5, rfl, hs5⟩ := Sees.of_own hown5
                    have HS5 := Lib.hid hs5
                    have HB5 := Lib.hid hb5
                    have HO5 := Lib.hid hown5
                    clear hown5 hb5 hs5 x0 x1 x2 x3 x4 y0 y1
                    try (rename_i hmc; clear hmc)
                    have HFAR := Lib.hid (show 0 < (l ++ [y.type]).length → ∀ ad, A5 = some ad → ad.block ≠ q by
                      intro _ ad e
                      subst e
                      have := (HO5.out.lt _ rfl).1
                      have := HS1.out
                      omega)
                    have HLT := Lib.hid (show (l ++ [y.type]).length = m + 1 by have := HM.out; simp; omega)
                    have HST5 := Lib.hid (show Sees w5 A5 ((l ++ [y.type]).length) c5 1 (intCells (l ++ [y.type])) by rw [HLT.out]; exact HS5.out)
                    obtain ⟨x0, x1, x2, x3, x4⟩ := box5 ((HB5.out.block _ (by rw [HS1.out]; omega)).trans HX1.out)
                    rw [HWH.out] at x0
                    by_cases h64 : 64 < m + 1
                    · have d64 : decide (64 < m + 1) = true := decide_eq_true h64
                      have d64' : decide (64 < ((m + 1 : Nat) : Int)) = true := decide_eq_true (by omega)
                      have d64'' : decide (64 < (m : Int) + 1) = true := decide_eq_true (by omega)
                      have E := Lib.hid (ver_stop HLL.out H12.out HSE.out HRUN.out HX.out (stepP_c HST.out HA.out (actP_long HN.out HL.out HP.out (by simp; omega)) (by decide)) (by decide))
                      clear h64
                      go_wp2_with fail
                      refine bodyPost_ret (results_tmp4 rfl _ _ _) rfl ?_
                      rw [E.out]
                      exact ⟨rfl, below_step HLOW1.out HB5.out⟩
                    · have d64 : decide (64 < m + 1) = false := decide_eq_false h64
                      have d64' : decide (64 < ((m + 1 : Nat) : Int)) = false := decide_eq_false (by omega)
                      have d64'' : decide (64 < (m : Int) + 1) = false := decide_eq_false (by omega)
                      have AE := Lib.hid (show actP cols x l = (0, l ++ [y.type]) from (actP_ok HN.out HL.out HP.out (by simp; omega)).trans (by rw [HTK.out]))
                      have h64' : m + 1 ≤ 64 := by omega
                      clear h64
                      have HSMN := Lib.hid (stepP_small (cols := cols) (len := n) (i := k) (x := x) HSM.out hmo)
                      by_cases hmb : most < m + 1
                      · have dm : decide (most < m + 1) = true := decide_eq_true hmb
                        have dm' : decide ((most : Int) < ((m + 1 : Nat) : Int)) = true := decide_eq_true (by omega)
                        have dm'' : decide ((most : Int) < (m : Int) + 1) = true := decide_eq_true (by omega)
                        have HMX := Lib.hid (show max most (l ++ [y.type]).length = m + 1 by rw [HLT.out]; omega)
                        clear hmb
                        have HRS5 := Lib.hid (HRS1.out.keep HB5.out)
                        have TRa := Lib.hid (sreach_any q q n st (k + 1) c5 A5 (l ++ [y.type]) w5 HRS5.out (by omega) (by omega) HST5.out (by rw [HLT.out]; omega) (by intro h0 ad e; exact HFAR.out h0 ad e))
                        rw [HLT.out] at TRa
                        obtain ⟨ra, hra⟩ : ∃ r, r = reachP st (k + 1) (l ++ [y.type]) := ⟨_, rfl⟩
                        rw [← hra] at TRa
                        have HRa := Lib.hid hra
                        clear hra
                        rw [show (((k + 1 : Nat) : Int)) = (k : Int) + 1 by omega] at TRa
                        have STEP := Lib.hid (step_n (most := most) HST.out HA.out AE.out HN4.out HN5.out)
                        rw [← HRa.out, HMX.out] at STEP
                        go_wp2_with fail
                        refine (TRa.out).mono ?_
                        rintro e w8 ⟨rfl, hrs8, hon8⟩
                        have HRS8 := Lib.hid hrs8
                        have HLOW8 := Lib.hid ((below_step HLOW1.out HB5.out).trans (hon8.below (below_step HLOW1.out HB5.out).size (fun k hk => by have hk : k = q := hk; have := HQ.out; omega)))
                        clear hrs8 hon8
                        clear x0 x1 x2 x3 x4
                        by_cases h0 : ra.1 = 0
                        · have D0 : decide (ra.1 = 0) = true := decide_eq_true h0
                          rw [D0]
                          rw [h0] at STEP
                          clear h0 D0
                          have HRUN2 := Lib.hid (ver_next HRUN.out HX.out STEP.out)
                          rw [STEP.out] at HSMN
                          go_wp2_with fail
                          go_roundw
                          case rel => exact ⟨k + 1, ra.2, m + 1, by omega, by go_num, by go_num, HRS8.out, HLOW8.out, HSMN.out.1, HSMN.out.2, HRUN2.out⟩
                          case measure => simp [intOf]; omega
                        · have D0 : decide (ra.1 = 0) = false := decide_eq_false h0
                          rw [D0]
                          have E := Lib.hid (ver_stop HLL.out H12.out HSE.out HRUN.out HX.out (show (stepP cols n k x st most).1 = 3 by rw [STEP.out]; show ra.1 = 3; rw [HRa.out] at h0 ⊢; exact reachP_3 h0) (by decide))
                          clear h0 D0
                          go_wp2_with fail
                          refine bodyPost_ret (results_tmp4 rfl _ _ _) rfl ?_
                          rw [E.out]
                          exact ⟨rfl, HLOW8.out⟩
                      · have dm : decide (most < m + 1) = false := decide_eq_false hmb
                        have dm' : decide ((most : Int) < ((m + 1 : Nat) : Int)) = false := decide_eq_false (by omega)
                        have dm'' : decide ((most : Int) < (m : Int) + 1) = false := decide_eq_false (by omega)
                        have HMX := Lib.hid (show max most (l ++ [y.type]).length = most by rw [HLT.out]; omega)
                        clear hmb
                        have HRS5 := Lib.hid (HRS1.out.keep HB5.out)
                        have TRa := Lib.hid (sreach_any q q n st (k + 1) c5 A5 (l ++ [y.type]) w5 HRS5.out (by omega) (by omega) HST5.out (by rw [HLT.out]; omega) (by intro h0 ad e; exact HFAR.out h0 ad e))
                        rw [HLT.out] at TRa
                        obtain ⟨ra, hra⟩ : ∃ r, r = reachP st (k + 1) (l ++ [y.type]) := ⟨_, rfl⟩
                        rw [← hra] at TRa
                        have HRa := Lib.hid hra
                        clear hra
                        rw [show (((k + 1 : Nat) : Int)) = (k : Int) + 1 by omega] at TRa
                        have STEP := Lib.hid (step_n (most := most) HST.out HA.out AE.out HN4.out HN5.out)
                        rw [← HRa.out, HMX.out] at STEP
                        go_wp2_with fail
                        refine (TRa.out).mono ?_
                        rintro e w8 ⟨rfl, hrs8, hon8⟩
                        have HRS8 := Lib.hid hrs8
                        have HLOW8 := Lib.hid ((below_step HLOW1.out HB5.out).trans (hon8.below (below_step HLOW1.out HB5.out).size (fun k hk => by have hk : k = q := hk; have := HQ.out; omega)))
                        clear hrs8 hon8
                        clear x0 x1 x2 x3 x4
                        by_cases h0 : ra.1 = 0
                        · have D0 : decide (ra.1 = 0) = true := decide_eq_true h0
                          rw [D0]
                          rw [h0] at STEP
                          clear h0 D0
                          have HRUN2 := Lib.hid (ver_next HRUN.out HX.out STEP.out)
                          rw [STEP.out] at HSMN
                          go_wp2_with fail
                          go_roundw
                          case rel => exact ⟨k + 1, ra.2, most, by omega, by go_num, by go_num, HRS8.out, HLOW8.out, HSMN.out.1, HSMN.out.2, HRUN2.out⟩
                          case measure => simp [intOf]; omega
                        · have D0 : decide (ra.1 = 0) = false := decide_eq_false h0
                          rw [D0]
                          have E := Lib.hid (ver_stop HLL.out H12.out HSE.out HRUN.out HX.out (show (stepP cols n k x st most).1 = 3 by rw [STEP.out]; show ra.1 = 3; rw [HRa.out] at h0 ⊢; exact reachP_3 h0) (by decide))
                          clear h0 D0
                          go_wp2_with fail
                          refine bodyPost_ret (results_tmp4 rfl _ _ _) rfl ?_
                          rw [E.out]
                          exact ⟨rfl, HLOW8.out⟩
          have h2 := hwh
          clear hwh
          by_cases hwh : x.what = 3
          · as_aux_lemma =>
              have HWH := Lib.hid hwh
              clear hwh
              have HN4 := Lib.hid (show x.what ≠ 4 by rw [HWH.out]; decide)
              have HN5 := Lib.hid (show x.what ≠ 5 by rw [HWH.out]; decide)
              have HB2 := Lib.hid hb2
              obtain ⟨x0, x1, x2, x3, x4⟩ := box5 ((HB2.out.block _ (by rw [HS1.out]; omega)).trans HX1.out)
              rw [HWH.out] at x0
              obtain ⟨A2, c2, rfl, hs2⟩ := Sees.of_own hown
              have HS2 := Lib.hid hs2
              have hc2 := hs2.2.1
              have hc3 := hs2.2.2.1
              unfold maxLen at hc3
              have HO2 := Lib.hid hown
              clear hown hb2 hs2
              have TO := Lib.hid (rop_any x.arg w2)
              obtain ⟨oe, hoe⟩ : ∃ oe, oe = opErr x.arg := ⟨_, rfl⟩
              rw [← hoe] at TO
              have HOE := Lib.hid hoe
              clear hoe
              obtain ⟨nm, hnm⟩ : ∃ nm, nm = opNm x.arg := ⟨_, rfl⟩
              rw [← hnm] at TO
              have HNM := Lib.hid hnm
              clear hnm
              obtain ⟨xa, hxa⟩ : ∃ xa, xa = x.arg := ⟨_, rfl⟩
              rw [← hxa] at x1 TO
              have HXA := Lib.hid hxa
              clear hxa
              have HA := Lib.hid (show argErr n k cols.length x = oe by unfold argErr; rw [if_neg (by rw [HWH.out]; decide), if_neg (by rw [HWH.out]; decide), if_pos HWH.out, HOE.out])
              by_cases ho : oe = 0
              · have D0 : decide (oe = 0) = true := decide_eq_true ho
                rw [D0] at TO
                subst ho
                clear D0
                have HAR := Lib.hid (show arityOf nm = 1 ∨ arityOf nm = 2 by rw [HNM.out]; exact op_arity HOE.out.symm)
                rcases HAR.out with har | har
                · have HR := Lib.hid har
                  clear har
                  have HN := Lib.hid (show need x = 1 by unfold need; rw [if_pos HWH.out, ← HNM.out, HR.out]; rfl)
                  go_wp2_with fail
                  refine (TO.out).mono ?_
                  rintro e w3 ⟨rfl, hb3⟩
                  have HB3 := Lib.hid (HB2.out.trans (hb3.mono HB2.out.size))
                  have HO3 := Lib.hid (own_keep HO2.out hb3)
                  have HS3 := Lib.hid (HS2.out.keep hb3)
                  clear hb3 HO2 HS2 x0 x1 x2 x3 x4
                  obtain ⟨x0, x1, x2, x3, x4⟩ := box5 ((HB3.out.block _ (by rw [HS1.out]; omega)).trans HX1.out)
                  rw [HWH.out] at x0
                  have TA := Lib.hid (rarity_any nm w3)
                  rw [HR.out] at TA
                  go_wp2_with fail
                  refine (TA.out).mono ?_
                  rintro e w2 ⟨rfl, hb3⟩
                  have HB2 := Lib.hid (HB3.out.trans (hb3.mono HB3.out.size))
                  have HO2 := Lib.hid (own_keep HO3.out hb3)
                  have HS2 := Lib.hid (HS3.out.keep hb3)
                  clear hb3 HO3 HS3 x0 x1 x2 x3 x4
                  obtain ⟨x0, x1, x2, x3, x4⟩ := box5 ((HB2.out.block _ (by rw [HS1.out]; omega)).trans HX1.out)
                  rw [HWH.out] at x0
                  by_cases hmd : m < 1
                  · have dd : decide (m < 1) = true := decide_eq_true hmd
                    have dd' : decide ((m : Int) < 1) = true := decide_eq_true (by omega)
                    have E := Lib.hid (ver_stop HLL.out H12.out HSE.out HRUN.out HX.out (stepP_c HST.out HA.out (actP_short (by rw [HN.out, ← HM.out]; exact hmd)) (by decide)) (by decide))
                    clear hmd
                    go_wp2_with fail
                    refine bodyPost_ret (results_tmp4 rfl _ _ _) rfl ?_
                    rw [E.out]
                    exact ⟨rfl, below_step HLOW1.out HB2.out⟩
                  · have dd : decide (m < 1) = false := decide_eq_false hmd
                    have dd' : decide ((m : Int) < 1) = false := decide_eq_false (by omega)
                    obtain ⟨j, hj⟩ : ∃ j, m = j + 1 := ⟨m - 1, by omega⟩
                    have HJ := Lib.hid hj
                    have ej : (m : Int) - 1 = (j : Int) := by omega
                    have ej' : m - j = 1 := by omega
                    have hjm : j ≤ m := by omega
                    have hjc : j < c2 := by omega
                    have hjc1 : ¬ c2 = j := by omega
                    have hjc2 : ¬ j = c2 := by omega
                    obtain ⟨g, rfl⟩ : ∃ g, A2 = some ⟨g, 0, none⟩ := own_addr HO2.out (by omega)
                    have HOP := Lib.hid (show w2.ownsRow w1.heap.size 3 1 (.slice (some ⟨g, 0, none⟩) j c2) j (intCells (l.take j)) from by have h := HO2.out; rw [HJ.out] at h; exact own_prefix h)
                    have HOFF := Lib.hid (show Sees w2 (some ⟨g, j, none⟩) 1 (c2 - j) 1 (intCells (l.drop j)) from by have h := HS2.out; rw [HJ.out] at h; exact sees_drop h)
                    have HL := Lib.hid (show l.length = j + 1 by rw [← HM.out, HJ.out])
                    clear hmd hj
                    have TR := Lib.hid (rrule_any nm (l.drop j) (some ⟨g, j, none⟩) 1 (c2 - j) w2 HOFF.out)
                    obtain ⟨re, hre⟩ : ∃ re, re = ruleErr nm (l.drop j) := ⟨_, rfl⟩
                    obtain ⟨ry, hry⟩ : ∃ ry, ry = ruleTy nm (l.drop j) := ⟨_, rfl⟩
                    rw [← hre, ← hry] at TR
                    have HRE := Lib.hid hre
                    have HRY := Lib.hid hry
                    clear hre hry
                    go_wp2_with fail
                    refine (TR.out).mono ?_
                    rintro e w3 ⟨rfl, hb3⟩
                    have HB3 := Lib.hid (HB2.out.trans (hb3.mono HB2.out.size))
                    have HO3 := Lib.hid (own_keep HOP.out hb3)
                    clear hb3 x0 x1 x2 x3 x4
                    obtain ⟨x0, x1, x2, x3, x4⟩ := box5 ((HB3.out.block _ (by rw [HS1.out]; omega)).trans HX1.out)
                    rw [HWH.out] at x0
                    by_cases hr0 : re = 0
                    · subst hr0
                      have HP := Lib.hid (show putTy cols x (l.drop j) = (0, [ry]) by unfold putTy; rw [if_neg (by rw [HWH.out]; decide), if_neg (by rw [HWH.out]; decide), if_pos HWH.out, ← HNM.out, ← HRE.out, ← HRY.out, if_neg (by decide)])
                      go_wp2_with (first | (at_builtin; refine wpList_append_one intSlice rfl _ _ rfl rfl rfl HO3.out HB3.out (Nat.le_refl _) rfl (by intro u hu; simp at hu; subst hu; rfl) (by omega) ?_))
                      intro v' w5 hown5 hb5 _
                      have hown5 : w5.ownsRow w1.heap.size 3 1 v' (j + 1) (intCells (l.take j ++ [ry])) := by rw [← intCells_app]; exact hown5
                      obtain ⟨A5, c5, rfl, hs5⟩ := Sees.of_own hown5
                      have HS5 := Lib.hid hs5
                      have HB5 := Lib.hid hb5
                      have HO5 := Lib.hid hown5
                      clear hown5 hb5 hs5 x0 x1 x2 x3 x4
                      have HFAR := Lib.hid (show 0 < (l.take j ++ [ry]).length → ∀ ad, A5 = some ad → ad.block ≠ q by
                        intro _ ad e
                        subst e
                        have := (HO5.out.lt _ rfl).1
                        have := HS1.out
                        omega)
                      have HLT := Lib.hid (show (l.take j ++ [ry]).length = j + 1 by have := HM.out; simp; omega)
                      have HST5 := Lib.hid (show Sees w5 A5 ((l.take j ++ [ry]).length) c5 1 (intCells (l.take j ++ [ry])) by rw [HLT.out]; exact HS5.out)
                      obtain ⟨x0, x1, x2, x3, x4⟩ := box5 ((HB5.out.block _ (by rw [HS1.out]; omega)).trans HX1.out)
                      rw [HWH.out] at x0
                      by_cases h64 : 64 < j + 1
                      · have d64 : decide (64 < j + 1) = true := decide_eq_true h64
                        have d64' : decide (64 < ((j + 1 : Nat) : Int)) = true := decide_eq_true (by omega)
                        have d64'' : decide (64 < (j : Int) + 1) = true := decide_eq_true (by omega)
                        have E := Lib.hid (ver_stop HLL.out H12.out HSE.out HRUN.out HX.out (stepP_c HST.out HA.out (actP_long HN.out HL.out HP.out (by simp; omega)) (by decide)) (by decide))
                        clear h64
                        go_wp2_with fail
                        refine bodyPost_ret (results_tmp4 rfl _ _ _) rfl ?_
                        rw [E.out]
                        exact ⟨rfl, below_step HLOW1.out HB5.out⟩
                      · have d64 : decide (64 < j + 1) = false := decide_eq_false h64
                        have d64' : decide (64 < ((j + 1 : Nat) : Int)) = false := decide_eq_false (by omega)
                        have d64'' : decide (64 < (j : Int) + 1) = false := decide_eq_false (by omega)
                        have AE := Lib.hid (show actP cols x l = (0, l.take j ++ [ry]) from (actP_ok HN.out HL.out HP.out (by simp; omega)))
                        have h64' : j + 1 ≤ 64 := by omega
                        clear h64
                        have HSMN := Lib.hid (stepP_small (cols := cols) (len := n) (i := k) (x := x) HSM.out hmo)
                        by_cases hmb : most < j + 1
                        · have dm : decide (most < j + 1) = true := decide_eq_true hmb
                          have dm' : decide ((most : Int) < ((j + 1 : Nat) : Int)) = true := decide_eq_true (by omega)
                          have dm'' : decide ((most : Int) < (j : Int) + 1) = true := decide_eq_true (by omega)
                          have HMX := Lib.hid (show max most (l.take j ++ [ry]).length = j + 1 by rw [HLT.out]; omega)
                          clear hmb
                          have HRS5 := Lib.hid (HRS1.out.keep HB5.out)
                          have TRa := Lib.hid (sreach_any q q n st (k + 1) c5 A5 (l.take j ++ [ry]) w5 HRS5.out (by omega) (by omega) HST5.out (by rw [HLT.out]; omega) (by intro h0 ad e; exact HFAR.out h0 ad e))
                          rw [HLT.out] at TRa
                          obtain ⟨ra, hra⟩ : ∃ r, r = reachP st (k + 1) (l.take j ++ [ry]) := ⟨_, rfl⟩
                          rw [← hra] at TRa
                          have HRa := Lib.hid hra
                          clear hra
                          rw [show (((k + 1 : Nat) : Int)) = (k : Int) + 1 by omega] at TRa
                          have STEP := Lib.hid (step_n (most := most) HST.out HA.out AE.out HN4.out HN5.out)
                          rw [← HRa.out, HMX.out] at STEP
                          go_wp2_with fail
                          refine (TRa.out).mono ?_
                          rintro e w8 ⟨rfl, hrs8, hon8⟩
                          have HRS8 := Lib.hid hrs8
                          have HLOW8 := Lib.hid ((below_step HLOW1.out HB5.out).trans (hon8.below (below_step HLOW1.out HB5.out).size (fun k hk => by have hk : k = q := hk; have := HQ.out; omega)))
                          clear hrs8 hon8
                          clear x0 x1 x2 x3 x4
                          by_cases h0 : ra.1 = 0
                          · have D0 : decide (ra.1 = 0) = true := decide_eq_true h0
                            rw [D0]
                            rw [h0] at STEP
                            clear h0 D0
                            have HRUN2 := Lib.hid (ver_next HRUN.out HX.out STEP.out)
                            rw [STEP.out] at HSMN
                            go_wp2_with fail
                            go_roundw
                            case rel => exact ⟨k + 1, ra.2, j + 1, by omega, by go_num, by go_num, HRS8.out, HLOW8.out, HSMN.out.1, HSMN.out.2, HRUN2.out⟩
                            case measure => simp [intOf]; omega
                          · have D0 : decide (ra.1 = 0) = false := decide_eq_false h0
                            rw [D0]
                            have E := Lib.hid (ver_stop HLL.out H12.out HSE.out HRUN.out HX.out (show (stepP cols n k x st most).1 = 3 by rw [STEP.out]; show ra.1 = 3; rw [HRa.out] at h0 ⊢; exact reachP_3 h0) (by decide))
                            clear h0 D0
                            go_wp2_with fail
                            refine bodyPost_ret (results_tmp4 rfl _ _ _) rfl ?_
                            rw [E.out]
                            exact ⟨rfl, HLOW8.out⟩
                        · have dm : decide (most < j + 1) = false := decide_eq_false hmb
                          have dm' : decide ((most : Int) < ((j + 1 : Nat) : Int)) = false := decide_eq_false (by omega)
                          have dm'' : decide ((most : Int) < (j : Int) + 1) = false := decide_eq_false (by omega)
                          have HMX := Lib.hid (show max most (l.take j ++ [ry]).length = most by rw [HLT.out]; omega)
                          clear hmb
                          have HRS5 := Lib.hid (HRS1.out.keep HB5.out)
                          have TRa := Lib.hid (sreach_any q q n st (k + 1) c5 A5 (l.take j ++ [ry]) w5 HRS5.out (by omega) (by omega) HST5.out (by rw [HLT.out]; omega) (by intro h0 ad e; exact HFAR.out h0 ad e))
                          rw [HLT.out] at TRa
                          obtain ⟨ra, hra⟩ : ∃ r, r = reachP st (k + 1) (l.take j ++ [ry]) := ⟨_, rfl⟩
                          rw [← hra] at TRa
                          have HRa := Lib.hid hra
                          clear hra
                          rw [show (((k + 1 : Nat) : Int)) = (k : Int) + 1 by omega] at TRa
                          have STEP := Lib.hid (step_n (most := most) HST.out HA.out AE.out HN4.out HN5.out)
                          rw [← HRa.out, HMX.out] at STEP
                          go_wp2_with fail
                          refine (TRa.out).mono ?_
                          rintro e w8 ⟨rfl, hrs8, hon8⟩
                          have HRS8 := Lib.hid hrs8
                          have HLOW8 := Lib.hid ((below_step HLOW1.out HB5.out).trans (hon8.below (below_step HLOW1.out HB5.out).size (fun k hk => by have hk : k = q := hk; have := HQ.out; omega)))
                          clear hrs8 hon8
                          clear x0 x1 x2 x3 x4
                          by_cases h0 : ra.1 = 0
                          · have D0 : decide (ra.1 = 0) = true := decide_eq_true h0
                            rw [D0]
                            rw [h0] at STEP
                            clear h0 D0
                            have HRUN2 := Lib.hid (ver_next HRUN.out HX.out STEP.out)
                            rw [STEP.out] at HSMN
                            go_wp2_with fail
                            go_roundw
                            case rel => exact ⟨k + 1, ra.2, most, by omega, by go_num, by go_num, HRS8.out, HLOW8.out, HSMN.out.1, HSMN.out.2, HRUN2.out⟩
                            case measure => simp [intOf]; omega
                          · have D0 : decide (ra.1 = 0) = false := decide_eq_false h0
                            rw [D0]
                            have E := Lib.hid (ver_stop HLL.out H12.out HSE.out HRUN.out HX.out (show (stepP cols n k x st most).1 = 3 by rw [STEP.out]; show ra.1 = 3; rw [HRa.out] at h0 ⊢; exact reachP_3 h0) (by decide))
                            clear h0 D0
                            go_wp2_with fail
                            refine bodyPost_ret (results_tmp4 rfl _ _ _) rfl ?_
                            rw [E.out]
                            exact ⟨rfl, HLOW8.out⟩
                    · have e3 : (re != 0) = true := by simpa using hr0
                      have HP := Lib.hid (show putTy cols x (l.drop j) = (8, []) by unfold putTy; rw [if_neg (by rw [HWH.out]; decide), if_neg (by rw [HWH.out]; decide), if_pos HWH.out, ← HNM.out, ← HRE.out, if_pos hr0])
                      have E := Lib.hid (ver_stop HLL.out H12.out HSE.out HRUN.out HX.out (stepP_c HST.out HA.out (actP_bad HN.out HL.out HP.out (by decide)) (by decide)) (by decide))
                      clear hr0
                      go_wp2_with fail
                      refine bodyPost_ret (results_tmp4 rfl _ _ _) rfl ?_
                      rw [E.out]
                      exact ⟨rfl, below_step HLOW1.out HB3.out⟩
                · have HR := Lib.hid har
                  clear har
                  have HN := Lib.hid (show need x = 2 by unfold need; rw [if_pos HWH.out, ← HNM.out, HR.out]; rfl)
                  go_wp2_with fail
                  refine (TO.out).mono ?_
                  rintro e w3 ⟨rfl, hb3⟩
                  have HB3 := Lib.hid (HB2.out.trans (hb3.mono HB2.out.size))
                  have HO3 := Lib.hid (own_keep HO2.out hb3)
                  have HS3 := Lib.hid (HS2.out.keep hb3)
                  clear hb3 HO2 HS2 x0 x1 x2 x3 x4
                  obtain ⟨x0, x1, x2, x3, x4⟩ := box5 ((HB3.out.block _ (by rw [HS1.out]; omega)).trans HX1.out)
                  rw [HWH.out] at x0
                  have TA := Lib.hid (rarity_any nm w3)
                  rw [HR.out] at TA
                  go_wp2_with fail
                  refine (TA.out).mono ?_
                  rintro e w2 ⟨rfl, hb3⟩
                  have HB2 := Lib.hid (HB3.out.trans (hb3.mono HB3.out.size))
                  have HO2 := Lib.hid (own_keep HO3.out hb3)
                  have HS2 := Lib.hid (HS3.out.keep hb3)
                  clear hb3 HO3 HS3 x0 x1 x2 x3 x4
                  obtain ⟨x0, x1, x2, x3, x4⟩ := box5 ((HB2.out.block _ (by rw [HS1.out]; omega)).trans HX1.out)
                  rw [HWH.out] at x0
                  by_cases hmd : m < 2
                  · have dd : decide (m < 2) = true := decide_eq_true hmd
                    have dd' : decide ((m : Int) < 2) = true := decide_eq_true (by omega)
                    have E := Lib.hid (ver_stop HLL.out H12.out HSE.out HRUN.out HX.out (stepP_c HST.out HA.out (actP_short (by rw [HN.out, ← HM.out]; exact hmd)) (by decide)) (by decide))
                    clear hmd
                    go_wp2_with fail
                    refine bodyPost_ret (results_tmp4 rfl _ _ _) rfl ?_
                    rw [E.out]
                    exact ⟨rfl, below_step HLOW1.out HB2.out⟩
                  · have dd : decide (m < 2) = false := decide_eq_false hmd
                    have dd' : decide ((m : Int) < 2) = false := decide_eq_false (by omega)
                    obtain ⟨j, hj⟩ : ∃ j, m = j + 2 := ⟨m - 2, by omega⟩
                    have HJ := Lib.hid hj
                    have ej : (m : Int) - 2 = (j : Int) := by omega
                    have ej' : m - j = 2 := by omega
                    have hjm : j ≤ m := by omega
                    have hjc : j < c2 := by omega
                    have hjc1 : ¬ c2 = j := by omega
                    have hjc2 : ¬ j = c2 := by omega
                    obtain ⟨g, rfl⟩ : ∃ g, A2 = some ⟨g, 0, none⟩ := own_addr HO2.out (by omega)
                    have HOP := Lib.hid (show w2.ownsRow w1.heap.size 3 1 (.slice (some ⟨g, 0, none⟩) j c2) j (intCells (l.take j)) from by have h := HO2.out; rw [HJ.out] at h; exact own_prefix h)
                    have HOFF := Lib.hid (show Sees w2 (some ⟨g, j, none⟩) 2 (c2 - j) 1 (intCells (l.drop j)) from by have h := HS2.out; rw [HJ.out] at h; exact sees_drop h)
                    have HL := Lib.hid (show l.length = j + 2 by rw [← HM.out, HJ.out])
                    clear hmd hj
                    have TR := Lib.hid (rrule_any nm (l.drop j) (some ⟨g, j, none⟩) 2 (c2 - j) w2 HOFF.out)
                    obtain ⟨re, hre⟩ : ∃ re, re = ruleErr nm (l.drop j) := ⟨_, rfl⟩
                    obtain ⟨ry, hry⟩ : ∃ ry, ry = ruleTy nm (l.drop j) := ⟨_, rfl⟩
                    rw [← hre, ← hry] at TR
                    have HRE := Lib.hid hre
                    have HRY := Lib.hid hry
                    clear hre hry
                    go_wp2_with fail
                    refine (TR.out).mono ?_
                    rintro e w3 ⟨rfl, hb3⟩
                    have HB3 := Lib.hid (HB2.out.trans (hb3.mono HB2.out.size))
                    have HO3 := Lib.hid (own_keep HOP.out hb3)
                    clear hb3 x0 x1 x2 x3 x4
                    obtain ⟨x0, x1, x2, x3, x4⟩ := box5 ((HB3.out.block _ (by rw [HS1.out]; omega)).trans HX1.out)
                    rw [HWH.out] at x0
                    by_cases hr0 : re = 0
                    · subst hr0
                      have HP := Lib.hid (show putTy cols x (l.drop j) = (0, [ry]) by unfold putTy; rw [if_neg (by rw [HWH.out]; decide), if_neg (by rw [HWH.out]; decide), if_pos HWH.out, ← HNM.out, ← HRE.out, ← HRY.out, if_neg (by decide)])
                      go_wp2_with (first | (at_builtin; refine wpList_append_one intSlice rfl _ _ rfl rfl rfl HO3.out HB3.out (Nat.le_refl _) rfl (by intro u hu; simp at hu; subst hu; rfl) (by omega) ?_))
                      intro v' w5 hown5 hb5 _
                      have hown5 : w5.ownsRow w1.heap.size 3 1 v' (j + 1) (intCells (l.take j ++ [ry])) := by rw [← intCells_app]; exact hown5
                      obtain ⟨A5, c5, rfl, hs5⟩ := Sees.of_own hown5
                      have HS5 := Lib.hid hs5
                      have HB5 := Lib.hid hb5
                      have HO5 := Lib.hid hown5
                      clear hown5 hb5 hs5 x0 x1 x2 x3 x4
                      have HFAR := Lib.hid (show 0 < (l.take j ++ [ry]).length → ∀ ad, A5 = some ad → ad.block ≠ q by
                        intro _ ad e
                        subst e
                        have := (HO5.out.lt _ rfl).1
                        have := HS1.out
                        omega)
                      have HLT := Lib.hid (show (l.take j ++ [ry]).length = j + 1 by have := HM.out; simp; omega)
                      have HST5 := Lib.hid (show Sees w5 A5 ((l.take j ++ [ry]).length) c5 1 (intCells (l.take j ++ [ry])) by rw [HLT.out]; exact HS5.out)
                      obtain ⟨x0, x1, x2, x3, x4⟩ := box5 ((HB5.out.block _ (by rw [HS1.out]; omega)).trans HX1.out)
                      rw [HWH.out] at x0
                      by_cases h64 : 64 < j + 1
                      · have d64 : decide (64 < j + 1) = true := decide_eq_true h64
                        have d64' : decide (64 < ((j + 1 : Nat) : Int)) = true := decide_eq_true (by omega)
                        have d64'' : decide (64 < (j : Int) + 1) = true := decide_eq_true (by omega)
                        have E := Lib.hid (ver_stop HLL.out H12.out HSE.out HRUN.out HX.out (stepP_c HST.out HA.out (actP_long HN.out HL.out HP.out (by simp; omega)) (by decide)) (by decide))
                        clear h64
                        go_wp2_with fail
                        refine bodyPost_ret (results_tmp4 rfl _ _ _) rfl ?_
                        rw [E.out]
                        exact ⟨rfl, below_step HLOW1.out HB5.out⟩
                      · have d64 : decide (64 < j + 1) = false := decide_eq_false h64
                        have d64' : decide (64 < ((j + 1 : Nat) : Int)) = false := decide_eq_false (by omega)
                        have d64'' : decide (64 < (j : Int) + 1) = false := decide_eq_false (by omega)
                        have AE := Lib.hid (show actP cols x l = (0, l.take j ++ [ry]) from (actP_ok HN.out HL.out HP.out (by simp; omega)))
                        have h64' : j + 1 ≤ 64 := by omega
                        clear h64
                        have HSMN := Lib.hid (stepP_small (cols := cols) (len := n) (i := k) (x := x) HSM.out hmo)
                        by_cases hmb : most < j + 1
                        · have dm : decide (most < j + 1) = true := decide_eq_true hmb
                          have dm' : decide ((most : Int) < ((j + 1 : Nat) : Int)) = true := decide_eq_true (by omega)
                          have dm'' : decide ((most : Int) < (j : Int) + 1) = true := decide_eq_true (by omega)
                          have HMX := Lib.hid (show max most (l.take j ++ [ry]).length = j + 1 by rw [HLT.out]; omega)
                          clear hmb
                          have HRS5 := Lib.hid (HRS1.out.keep HB5.out)
                          have TRa := Lib.hid (sreach_any q q n st (k + 1) c5 A5 (l.take j ++ [ry]) w5 HRS5.out (by omega) (by omega) HST5.out (by rw [HLT.out]; omega) (by intro h0 ad e; exact HFAR.out h0 ad e))
                          rw [HLT.out] at TRa
                          obtain ⟨ra, hra⟩ : ∃ r, r = reachP st (k + 1) (l.take j ++ [ry]) := ⟨_, rfl⟩
                          rw [← hra] at TRa
                          have HRa := Lib.hid hra
                          clear hra
                          rw [show (((k + 1 : Nat) : Int)) = (k : Int) + 1 by omega] at TRa
                          have STEP := Lib.hid (step_n (most := most) HST.out HA.out AE.out HN4.out HN5.out)
                          rw [← HRa.out, HMX.out] at STEP
                          go_wp2_with fail
                          refine (TRa.out).mono ?_
                          rintro e w8 ⟨rfl, hrs8, hon8⟩
                          have HRS8 := Lib.hid hrs8
                          have HLOW8 := Lib.hid ((below_step HLOW1.out HB5.out).trans (hon8.below (below_step HLOW1.out HB5.out).size (fun k hk => by have hk : k = q := hk; have := HQ.out; omega)))
                          clear hrs8 hon8
                          clear x0 x1 x2 x3 x4
                          by_cases h0 : ra.1 = 0
                          · have D0 : decide (ra.1 = 0) = true := decide_eq_true h0
                            rw [D0]
                            rw [h0] at STEP
                            clear h0 D0
                            have HRUN2 := Lib.hid (ver_next HRUN.out HX.out STEP.out)
                            rw [STEP.out] at HSMN
                            go_wp2_with fail
                            go_roundw
                            case rel => exact ⟨k + 1, ra.2, j + 1, by omega, by go_num, by go_num, HRS8.out, HLOW8.out, HSMN.out.1, HSMN.out.2, HRUN2.out⟩
                            case measure => simp [intOf]; omega
                          · have D0 : decide (ra.1 = 0) = false := decide_eq_false h0
                            rw [D0]
                            have E := Lib.hid (ver_stop HLL.out H12.out HSE.out HRUN.out HX.out (show (stepP cols n k x st most).1 = 3 by rw [STEP.out]; show ra.1 = 3; rw [HRa.out] at h0 ⊢; exact reachP_3 h0) (by decide))
                            clear h0 D0
                            go_wp2_with fail
                            refine bodyPost_ret (results_tmp4 rfl _ _ _) rfl ?_
                            rw [E.out]
                            exact ⟨rfl, HLOW8.out⟩
                        · have dm : decide (most < j + 1) = false := decide_eq_false hmb
                          have dm' : decide ((most : Int) < ((j + 1 : Nat) : Int)) = false := decide_eq_false (by omega)
                          have dm'' : decide ((most : Int) < (j : Int) + 1) = false := decide_eq_false (by omega)
                          have HMX := Lib.hid (show max most (l.take j ++ [ry]).length = most by rw [HLT.out]; omega)
                          clear hmb
                          have HRS5 := Lib.hid (HRS1.out.keep HB5.out)
                          have TRa := Lib.hid (sreach_any q q n st (k + 1) c5 A5 (l.take j ++ [ry]) w5 HRS5.out (by omega) (by omega) HST5.out (by rw [HLT.out]; omega) (by intro h0 ad e; exact HFAR.out h0 ad e))
                          rw [HLT.out] at TRa
                          obtain ⟨ra, hra⟩ : ∃ r, r = reachP st (k + 1) (l.take j ++ [ry]) := ⟨_, rfl⟩
                          rw [← hra] at TRa
                          have HRa := Lib.hid hra
                          clear hra
                          rw [show (((k + 1 : Nat) : Int)) = (k : Int) + 1 by omega] at TRa
                          have STEP := Lib.hid (step_n (most := most) HST.out HA.out AE.out HN4.out HN5.out)
                          rw [← HRa.out, HMX.out] at STEP
                          go_wp2_with fail
                          refine (TRa.out).mono ?_
                          rintro e w8 ⟨rfl, hrs8, hon8⟩
                          have HRS8 := Lib.hid hrs8
                          have HLOW8 := Lib.hid ((below_step HLOW1.out HB5.out).trans (hon8.below (below_step HLOW1.out HB5.out).size (fun k hk => by have hk : k = q := hk; have := HQ.out; omega)))
                          clear hrs8 hon8
                          clear x0 x1 x2 x3 x4
                          by_cases h0 : ra.1 = 0
                          · have D0 : decide (ra.1 = 0) = true := decide_eq_true h0
                            rw [D0]
                            rw [h0] at STEP
                            clear h0 D0
                            have HRUN2 := Lib.hid (ver_next HRUN.out HX.out STEP.out)
                            rw [STEP.out] at HSMN
                            go_wp2_with fail
                            go_roundw
                            case rel => exact ⟨k + 1, ra.2, most, by omega, by go_num, by go_num, HRS8.out, HLOW8.out, HSMN.out.1, HSMN.out.2, HRUN2.out⟩
                            case measure => simp [intOf]; omega
                          · have D0 : decide (ra.1 = 0) = false := decide_eq_false h0
                            rw [D0]
                            have E := Lib.hid (ver_stop HLL.out H12.out HSE.out HRUN.out HX.out (show (stepP cols n k x st most).1 = 3 by rw [STEP.out]; show ra.1 = 3; rw [HRa.out] at h0 ⊢; exact reachP_3 h0) (by decide))
                            clear h0 D0
                            go_wp2_with fail
                            refine bodyPost_ret (results_tmp4 rfl _ _ _) rfl ?_
                            rw [E.out]
                            exact ⟨rfl, HLOW8.out⟩
                    · have e3 : (re != 0) = true := by simpa using hr0
                      have HP := Lib.hid (show putTy cols x (l.drop j) = (8, []) by unfold putTy; rw [if_neg (by rw [HWH.out]; decide), if_neg (by rw [HWH.out]; decide), if_pos HWH.out, ← HNM.out, ← HRE.out, if_pos hr0])
                      have E := Lib.hid (ver_stop HLL.out H12.out HSE.out HRUN.out HX.out (stepP_c HST.out HA.out (actP_bad HN.out HL.out HP.out (by decide)) (by decide)) (by decide))
                      clear hr0
                      go_wp2_with fail
                      refine bodyPost_ret (results_tmp4 rfl _ _ _) rfl ?_
                      rw [E.out]
                      exact ⟨rfl, below_step HLOW1.out HB3.out⟩
              · have D0 : decide (oe = 0) = false := decide_eq_false ho
                rw [D0] at TO
                have ho1 : oe = 1 := by
                  rcases opErr_01 x.arg with h | h
                  · exact absurd (HOE.out.trans h) ho
                  · exact HOE.out.trans h
                have E := Lib.hid (ver_stop HLL.out H12.out HSE.out HRUN.out HX.out (stepP_a (f := 1) HST.out (HA.out.trans ho1) (by decide)) (by decide))
                clear ho ho1 D0
                go_wp2_with fail
                refine (TO.out).mono ?_
                rintro e w3 ⟨rfl, hb3⟩
                have HB3 := Lib.hid (HB2.out.trans (hb3.mono HB2.out.size))
                clear hb3
                go_wp2_with fail
                refine bodyPost_ret (results_tmp4 rfl _ _ _) rfl ?_
                rw [E.out]
                exact ⟨rfl, below_step HLOW1.out HB3.out⟩
          have h3 := hwh
          clear hwh
          by_cases hwh : x.what = 4
          · as_aux_lemma =>
              have HWH := Lib.hid hwh
              clear hwh
              have HB2 := Lib.hid hb2
              obtain ⟨x0, x1, x2, x3, x4⟩ := box5 ((HB2.out.block _ (by rw [HS1.out]; omega)).trans HX1.out)
              rw [HWH.out] at x0
              obtain ⟨A2, c2, rfl, hs2⟩ := Sees.of_own hown
              have HS2 := Lib.hid hs2
              have hc2 := hs2.2.1
              have hc3 := hs2.2.2.1
              unfold maxLen at hc3
              have HO2 := Lib.hid hown
              clear hown hb2 hs2
              obtain ⟨xa, hxa⟩ : ∃ xa, xa = x.arg := ⟨_, rfl⟩
              rw [← hxa] at x1
              have HXA := Lib.hid hxa
              clear hxa
              by_cases hg0 : xa < 0
              · have d1 : decide (xa < 0) = true := decide_eq_true hg0
                have HA := Lib.hid (show argErr n k cols.length x = 1 by unfold argErr; rw [if_neg (by rw [HWH.out]; decide), if_neg (by rw [HWH.out]; decide), if_neg (by rw [HWH.out]; decide), if_pos (by rw [HWH.out]; decide), if_neg (by rw [← HXA.out]; omega)])
                clear hg0
                have E := Lib.hid (ver_stop HLL.out H12.out HSE.out HRUN.out HX.out (stepP_a HST.out HA.out (by decide)) (by decide))
                go_wp2_with fail
                refine bodyPost_ret (results_tmp4 rfl _ _ _) rfl ?_
                rw [E.out]
                exact ⟨rfl, below_step HLOW1.out HB2.out⟩
              · have d1 : decide (xa < 0) = false := decide_eq_false hg0
                obtain ⟨a, rfl⟩ : ∃ a : Nat, xa = a := ⟨xa.toNat, by omega⟩
                by_cases hg1 : (n : Int) - k - 1 < a
                · have d2 : decide ((n : Int) - k - 1 < a) = true := decide_eq_true hg1
                  have HA := Lib.hid (show argErr n k cols.length x = 1 by unfold argErr; rw [if_neg (by rw [HWH.out]; decide), if_neg (by rw [HWH.out]; decide), if_neg (by rw [HWH.out]; decide), if_pos (by rw [HWH.out]; decide), if_neg (by rw [← HXA.out]; omega)])
                  clear hg0 hg1
                  have E := Lib.hid (ver_stop HLL.out H12.out HSE.out HRUN.out HX.out (stepP_a HST.out HA.out (by decide)) (by decide))
                  go_wp2_with fail
                  refine bodyPost_ret (results_tmp4 rfl _ _ _) rfl ?_
                  rw [E.out]
                  exact ⟨rfl, below_step HLOW1.out HB2.out⟩
                · have d2 : decide ((n : Int) - k - 1 < a) = false := decide_eq_false hg1
                  have hak : k + 1 + a ≤ n := by omega
                  have HA := Lib.hid (show argErr n k cols.length x = 0 by unfold argErr; rw [if_neg (by rw [HWH.out]; decide), if_neg (by rw [HWH.out]; decide), if_neg (by rw [HWH.out]; decide), if_pos (by rw [HWH.out]; decide), if_pos (by rw [← HXA.out]; omega)])
                  have HAE := Lib.hid (show x.arg = a from HXA.out.symm)
                  clear hg0 hg1
                  have HN := Lib.hid (show need x = 0 by unfold need; rw [if_neg (by rw [HWH.out]; decide), if_neg (by rw [HWH.out]; decide)])
                  have HL := Lib.hid (show l.length = m + 0 from HM.out.symm)
                  have HTK := Lib.hid (show l.take m = l from List.take_of_length_le (by rw [HM.out]; exact Nat.le_refl _))
                  have HP := Lib.hid (show putTy cols x (l.drop m) = (0, []) by unfold putTy; rw [if_neg (by rw [HWH.out]; decide), if_neg (by rw [HWH.out]; decide), if_neg (by rw [HWH.out]; decide), if_neg (by rw [HWH.out]; decide), if_neg (by rw [HWH.out]; decide)])
                  have HFAR := Lib.hid (show 0 < (l ++ []).length → ∀ ad, A2 = some ad → ad.block ≠ q by
                    intro _ ad e
                    subst e
                    have := (HO2.out.lt _ rfl).1
                    have := HS1.out
                    omega)
                  have HSP := Lib.hid (show Sees w2 A2 (m + 0) c2 1 (intCells (l ++ [])) by rw [List.append_nil]; exact HS2.out)
                  clear x0 x1 x2 x3 x4
                  by_cases hcm : c2 = m
                  · subst c2
                    have HLT := Lib.hid (show (l ++ []).length = m by have := HM.out; simp; omega)
                    have HST5 := Lib.hid (show Sees w2 A2 ((l ++ []).length) m 1 (intCells (l ++ [])) by rw [HLT.out]; exact HSP.out)
                    obtain ⟨x0, x1, x2, x3, x4⟩ := box5 ((HB2.out.block _ (by rw [HS1.out]; omega)).trans HX1.out)
                    rw [HWH.out] at x0
                    rw [HAE.out] at x1
                    by_cases h64 : 64 < m
                    · have d64 : decide (64 < m) = true := decide_eq_true h64
                      have d64' : decide (64 < ((m : Nat) : Int)) = true := decide_eq_true (by omega)
                      have d64'' : decide (64 < (m : Int)) = true := decide_eq_true (by omega)
                      have E := Lib.hid (ver_stop HLL.out H12.out HSE.out HRUN.out HX.out (stepP_c HST.out HA.out (actP_long HN.out HL.out HP.out (by simp; omega)) (by decide)) (by decide))
                      clear h64
                      go_wp2_with fail
                      refine bodyPost_ret (results_tmp4 rfl _ _ _) rfl ?_
                      rw [E.out]
                      exact ⟨rfl, below_step HLOW1.out HB2.out⟩
                    · have d64 : decide (64 < m) = false := decide_eq_false h64
                      have d64' : decide (64 < ((m : Nat) : Int)) = false := decide_eq_false (by omega)
                      have d64'' : decide (64 < (m : Int)) = false := decide_eq_false (by omega)
                      have AE := Lib.hid (show actP cols x l = (0, l ++ []) from (actP_ok HN.out HL.out HP.out (by simp; omega)).trans (by rw [HTK.out]))
                      have h64' : m ≤ 64 := by omega
                      clear h64
                      have HSMN := Lib.hid (stepP_small (cols := cols) (len := n) (i := k) (x := x) HSM.out hmo)
                      by_cases hmb : most < m
                      · have dm : decide (most < m) = true := decide_eq_true hmb
                        have dm' : decide ((most : Int) < ((m : Nat) : Int)) = true := decide_eq_true (by omega)
                        have dm'' : decide ((most : Int) < (m : Int)) = true := decide_eq_true (by omega)
                        have HMX := Lib.hid (show max most (l ++ []).length = m by rw [HLT.out]; omega)
                        clear hmb
                        have HRS5 := Lib.hid (HRS1.out.keep HB2.out)
                        have TRa := Lib.hid (sreach_any q q n st (k + 1 + a) m A2 (l ++ []) w2 HRS5.out (by omega) (by omega) HST5.out (by rw [HLT.out]; omega) (by intro h0 ad e; exact HFAR.out h0 ad e))
                        rw [HLT.out] at TRa
                        obtain ⟨ra, hra⟩ : ∃ r, r = reachP st (k + 1 + a) (l ++ []) := ⟨_, rfl⟩
                        rw [← hra] at TRa
                        have HRa := Lib.hid hra
                        clear hra
                        rw [show (((k + 1 + a : Nat) : Int)) = (k : Int) + 1 + (a : Int) by omega] at TRa
                        go_wp2_with fail
                        refine (TRa.out).mono ?_
                        rintro e w8 ⟨rfl, hrs8, hon8⟩
                        have HRS8 := Lib.hid hrs8
                        have HLOW8 := Lib.hid ((below_step HLOW1.out HB2.out).trans (hon8.below (below_step HLOW1.out HB2.out).size (fun k hk => by have hk : k = q := hk; have := HQ.out; omega)))
                        have HST8 := Lib.hid (hon8.sees_far HST5.out (fun h0 ad e hq => HFAR.out h0 ad e hq))
                        have HX8 := Lib.hid ((hon8.block wr.heap.size (by have := HB2.out.size; have := HS1.out; omega) (by intro e; have e : wr.heap.size = q := e; omega)).trans ((HB2.out.block _ (by rw [HS1.out]; omega)).trans HX1.out))
                        clear hrs8 hon8 x0 x1 x2 x3 x4
                        obtain ⟨x0, x1, x2, x3, x4⟩ := box5 HX8.out
                        rw [HWH.out] at x0
                        by_cases h0 : ra.1 = 0
                        · have STEP := Lib.hid (step_j (most := most) HST.out HA.out AE.out HWH.out HAE.out)
                          rw [← HRa.out, HMX.out, h0] at STEP
                          have D0 : decide (ra.1 = 0) = true := decide_eq_true h0
                          rw [D0]
                          clear h0 D0
                          have HRUN2 := Lib.hid (ver_next HRUN.out HX.out STEP.out)
                          rw [STEP.out] at HSMN
                          go_wp2_with fail
                          go_roundw
                          case rel => exact ⟨k + 1, ra.2, m, by omega, by go_num, by go_num, HRS8.out, HLOW8.out, HSMN.out.1, HSMN.out.2, HRUN2.out⟩
                          case measure => simp [intOf]; omega
                        · have D0 : decide (ra.1 = 0) = false := decide_eq_false h0
                          rw [D0]
                          have E := Lib.hid (ver_stop HLL.out H12.out HSE.out HRUN.out HX.out (show (stepP cols n k x st most).1 = 3 by rw [step_j (most := most) HST.out HA.out AE.out HWH.out HAE.out]; show (reachP st (k + 1 + a) _).1 = 3; rw [HRa.out] at h0; exact reachP_3 h0) (by decide))
                          clear h0 D0
                          go_wp2_with fail
                          refine bodyPost_ret (results_tmp4 rfl _ _ _) rfl ?_
                          rw [E.out]
                          exact ⟨rfl, HLOW8.out⟩
                      · have dm : decide (most < m) = false := decide_eq_false hmb
                        have dm' : decide ((most : Int) < ((m : Nat) : Int)) = false := decide_eq_false (by omega)
                        have dm'' : decide ((most : Int) < (m : Int)) = false := decide_eq_false (by omega)
                        have HMX := Lib.hid (show max most (l ++ []).length = most by rw [HLT.out]; omega)
                        clear hmb
                        have HRS5 := Lib.hid (HRS1.out.keep HB2.out)
                        have TRa := Lib.hid (sreach_any q q n st (k + 1 + a) m A2 (l ++ []) w2 HRS5.out (by omega) (by omega) HST5.out (by rw [HLT.out]; omega) (by intro h0 ad e; exact HFAR.out h0 ad e))
                        rw [HLT.out] at TRa
                        obtain ⟨ra, hra⟩ : ∃ r, r = reachP st (k + 1 + a) (l ++ []) := ⟨_, rfl⟩
                        rw [← hra] at TRa
                        have HRa := Lib.hid hra
                        clear hra
                        rw [show (((k + 1 + a : Nat) : Int)) = (k : Int) + 1 + (a : Int) by omega] at TRa
                        go_wp2_with fail
                        refine (TRa.out).mono ?_
                        rintro e w8 ⟨rfl, hrs8, hon8⟩
                        have HRS8 := Lib.hid hrs8
                        have HLOW8 := Lib.hid ((below_step HLOW1.out HB2.out).trans (hon8.below (below_step HLOW1.out HB2.out).size (fun k hk => by have hk : k = q := hk; have := HQ.out; omega)))
                        have HST8 := Lib.hid (hon8.sees_far HST5.out (fun h0 ad e hq => HFAR.out h0 ad e hq))
                        have HX8 := Lib.hid ((hon8.block wr.heap.size (by have := HB2.out.size; have := HS1.out; omega) (by intro e; have e : wr.heap.size = q := e; omega)).trans ((HB2.out.block _ (by rw [HS1.out]; omega)).trans HX1.out))
                        clear hrs8 hon8 x0 x1 x2 x3 x4
                        obtain ⟨x0, x1, x2, x3, x4⟩ := box5 HX8.out
                        rw [HWH.out] at x0
                        by_cases h0 : ra.1 = 0
                        · have STEP := Lib.hid (step_j (most := most) HST.out HA.out AE.out HWH.out HAE.out)
                          rw [← HRa.out, HMX.out, h0] at STEP
                          have D0 : decide (ra.1 = 0) = true := decide_eq_true h0
                          rw [D0]
                          clear h0 D0
                          have HRUN2 := Lib.hid (ver_next HRUN.out HX.out STEP.out)
                          rw [STEP.out] at HSMN
                          go_wp2_with fail
                          go_roundw
                          case rel => exact ⟨k + 1, ra.2, most, by omega, by go_num, by go_num, HRS8.out, HLOW8.out, HSMN.out.1, HSMN.out.2, HRUN2.out⟩
                          case measure => simp [intOf]; omega
                        · have D0 : decide (ra.1 = 0) = false := decide_eq_false h0
                          rw [D0]
                          have E := Lib.hid (ver_stop HLL.out H12.out HSE.out HRUN.out HX.out (show (stepP cols n k x st most).1 = 3 by rw [step_j (most := most) HST.out HA.out AE.out HWH.out HAE.out]; show (reachP st (k + 1 + a) _).1 = 3; rw [HRa.out] at h0; exact reachP_3 h0) (by decide))
                          clear h0 D0
                          go_wp2_with fail
                          refine bodyPost_ret (results_tmp4 rfl _ _ _) rfl ?_
                          rw [E.out]
                          exact ⟨rfl, HLOW8.out⟩
                  · have hcm2 : ¬ m = c2 := fun e => hcm e.symm
                    have HLT := Lib.hid (show (l ++ []).length = m by have := HM.out; simp; omega)
                    have HST5 := Lib.hid (show Sees w2 A2 ((l ++ []).length) c2 1 (intCells (l ++ [])) by rw [HLT.out]; exact HSP.out)
                    obtain ⟨x0, x1, x2, x3, x4⟩ := box5 ((HB2.out.block _ (by rw [HS1.out]; omega)).trans HX1.out)
                    rw [HWH.out] at x0
                    rw [HAE.out] at x1
                    by_cases h64 : 64 < m
                    · have d64 : decide (64 < m) = true := decide_eq_true h64
                      have d64' : decide (64 < ((m : Nat) : Int)) = true := decide_eq_true (by omega)
                      have d64'' : decide (64 < (m : Int)) = true := decide_eq_true (by omega)
                      have E := Lib.hid (ver_stop HLL.out H12.out HSE.out HRUN.out HX.out (stepP_c HST.out HA.out (actP_long HN.out HL.out HP.out (by simp; omega)) (by decide)) (by decide))
                      clear h64
                      go_wp2_with fail
                      refine bodyPost_ret (results_tmp4 rfl _ _ _) rfl ?_
                      rw [E.out]
                      exact ⟨rfl, below_step HLOW1.out HB2.out⟩
                    · have d64 : decide (64 < m) = false := decide_eq_false h64
                      have d64' : decide (64 < ((m : Nat) : Int)) = false := decide_eq_false (by omega)
                      have d64'' : decide (64 < (m : Int)) = false := decide_eq_false (by omega)
                      have AE := Lib.hid (show actP cols x l = (0, l ++ []) from (actP_ok HN.out HL.out HP.out (by simp; omega)).trans (by rw [HTK.out]))
                      have h64' : m ≤ 64 := by omega
                      clear h64
                      have HSMN := Lib.hid (stepP_small (cols := cols) (len := n) (i := k) (x := x) HSM.out hmo)
                      by_cases hmb : most < m
                      · have dm : decide (most < m) = true := decide_eq_true hmb
                        have dm' : decide ((most : Int) < ((m : Nat) : Int)) = true := decide_eq_true (by omega)
                        have dm'' : decide ((most : Int) < (m : Int)) = true := decide_eq_true (by omega)
                        have HMX := Lib.hid (show max most (l ++ []).length = m by rw [HLT.out]; omega)
                        clear hmb
                        have HRS5 := Lib.hid (HRS1.out.keep HB2.out)
                        have TRa := Lib.hid (sreach_any q q n st (k + 1 + a) c2 A2 (l ++ []) w2 HRS5.out (by omega) (by omega) HST5.out (by rw [HLT.out]; omega) (by intro h0 ad e; exact HFAR.out h0 ad e))
                        rw [HLT.out] at TRa
                        obtain ⟨ra, hra⟩ : ∃ r, r = reachP st (k + 1 + a) (l ++ []) := ⟨_, rfl⟩
                        rw [← hra] at TRa
                        have HRa := Lib.hid hra
                        clear hra
                        rw [show (((k + 1 + a : Nat) : Int)) = (k : Int) + 1 + (a : Int) by omega] at TRa
                        go_wp2_with fail
                        refine (TRa.out).mono ?_
                        rintro e w8 ⟨rfl, hrs8, hon8⟩
                        have HRS8 := Lib.hid hrs8
                        have HLOW8 := Lib.hid ((below_step HLOW1.out HB2.out).trans (hon8.below (below_step HLOW1.out HB2.out).size (fun k hk => by have hk : k = q := hk; have := HQ.out; omega)))
                        have HST8 := Lib.hid (hon8.sees_far HST5.out (fun h0 ad e hq => HFAR.out h0 ad e hq))
                        have HX8 := Lib.hid ((hon8.block wr.heap.size (by have := HB2.out.size; have := HS1.out; omega) (by intro e; have e : wr.heap.size = q := e; omega)).trans ((HB2.out.block _ (by rw [HS1.out]; omega)).trans HX1.out))
                        clear hrs8 hon8 x0 x1 x2 x3 x4
                        obtain ⟨x0, x1, x2, x3, x4⟩ := box5 HX8.out
                        rw [HWH.out] at x0
                        by_cases h0 : ra.1 = 0
                        · have STEP := Lib.hid (step_j (most := most) HST.out HA.out AE.out HWH.out HAE.out)
                          rw [← HRa.out, HMX.out, h0] at STEP
                          have D0 : decide (ra.1 = 0) = true := decide_eq_true h0
                          rw [D0]
                          clear h0 D0
                          have HRUN2 := Lib.hid (ver_next HRUN.out HX.out STEP.out)
                          rw [STEP.out] at HSMN
                          go_wp2_with fail
                          go_roundw
                          case rel => exact ⟨k + 1, ra.2, m, by omega, by go_num, by go_num, HRS8.out, HLOW8.out, HSMN.out.1, HSMN.out.2, HRUN2.out⟩
                          case measure => simp [intOf]; omega
                        · have D0 : decide (ra.1 = 0) = false := decide_eq_false h0
                          rw [D0]
                          have E := Lib.hid (ver_stop HLL.out H12.out HSE.out HRUN.out HX.out (show (stepP cols n k x st most).1 = 3 by rw [step_j (most := most) HST.out HA.out AE.out HWH.out HAE.out]; show (reachP st (k + 1 + a) _).1 = 3; rw [HRa.out] at h0; exact reachP_3 h0) (by decide))
                          clear h0 D0
                          go_wp2_with fail
                          refine bodyPost_ret (results_tmp4 rfl _ _ _) rfl ?_
                          rw [E.out]
                          exact ⟨rfl, HLOW8.out⟩
                      · have dm : decide (most < m) = false := decide_eq_false hmb
                        have dm' : decide ((most : Int) < ((m : Nat) : Int)) = false := decide_eq_false (by omega)
                        have dm'' : decide ((most : Int) < (m : Int)) = false := decide_eq_false (by omega)
                        have HMX := Lib.hid (show max most (l ++ []).length = most by rw [HLT.out]; omega)
                        clear hmb
                        have HRS5 := Lib.hid (HRS1.out.keep HB2.out)
                        have TRa := Lib.hid (sreach_any q q n st (k + 1 + a) c2 A2 (l ++ []) w2 HRS5.out (by omega) (by omega) HST5.out (by rw [HLT.out]; omega) (by intro h0 ad e; exact HFAR.out h0 ad e))
                        rw [HLT.out] at TRa
                        obtain ⟨ra, hra⟩ : ∃ r, r = reachP st (k + 1 + a) (l ++ []) := ⟨_, rfl⟩
                        rw [← hra] at TRa
                        have HRa := Lib.hid hra
                        clear hra
                        rw [show (((k + 1 + a : Nat) : Int)) = (k : Int) + 1 + (a : Int) by omega] at TRa
                        go_wp2_with fail
                        refine (TRa.out).mono ?_
                        rintro e w8 ⟨rfl, hrs8, hon8⟩
                        have HRS8 := Lib.hid hrs8
                        have HLOW8 := Lib.hid ((below_step HLOW1.out HB2.out).trans (hon8.below (below_step HLOW1.out HB2.out).size (fun k hk => by have hk : k = q := hk; have := HQ.out; omega)))
                        have HST8 := Lib.hid (hon8.sees_far HST5.out (fun h0 ad e hq => HFAR.out h0 ad e hq))
                        have HX8 := Lib.hid ((hon8.block wr.heap.size (by have := HB2.out.size; have := HS1.out; omega) (by intro e; have e : wr.heap.size = q := e; omega)).trans ((HB2.out.block _ (by rw [HS1.out]; omega)).trans HX1.out))
                        clear hrs8 hon8 x0 x1 x2 x3 x4
                        obtain ⟨x0, x1, x2, x3, x4⟩ := box5 HX8.out
                        rw [HWH.out] at x0
                        by_cases h0 : ra.1 = 0
                        · have STEP := Lib.hid (step_j (most := most) HST.out HA.out AE.out HWH.out HAE.out)
                          rw [← HRa.out, HMX.out, h0] at STEP
                          have D0 : decide (ra.1 = 0) = true := decide_eq_true h0
                          rw [D0]
                          clear h0 D0
                          have HRUN2 := Lib.hid (ver_next HRUN.out HX.out STEP.out)
                          rw [STEP.out] at HSMN
                          go_wp2_with fail
                          go_roundw
                          case rel => exact ⟨k + 1, ra.2, most, by omega, by go_num, by go_num, HRS8.out, HLOW8.out, HSMN.out.1, HSMN.out.2, HRUN2.out⟩
                          case measure => simp [intOf]; omega
                        · have D0 : decide (ra.1 = 0) = false := decide_eq_false h0
                          rw [D0]
                          have E := Lib.hid (ver_stop HLL.out H12.out HSE.out HRUN.out HX.out (show (stepP cols n k x st most).1 = 3 by rw [step_j (most := most) HST.out HA.out AE.out HWH.out HAE.out]; show (reachP st (k + 1 + a) _).1 = 3; rw [HRa.out] at h0; exact reachP_3 h0) (by decide))
                          clear h0 D0
                          go_wp2_with fail
                          refine bodyPost_ret (results_tmp4 rfl _ _ _) rfl ?_
                          rw [E.out]
                          exact ⟨rfl, HLOW8.out⟩
          have h4 := hwh
          clear hwh
          by_cases hwh : x.what = 5
          · as_aux_lemma =>
              have HWH := Lib.hid hwh
              clear hwh
              have HB2 := Lib.hid hb2
              obtain ⟨x0, x1, x2, x3, x4⟩ := box5 ((HB2.out.block _ (by rw [HS1.out]; omega)).trans HX1.out)
              rw [HWH.out] at x0
              obtain ⟨A2, c2, rfl, hs2⟩ := Sees.of_own hown
              have HS2 := Lib.hid hs2
              have hc2 := hs2.2.1
              have hc3 := hs2.2.2.1
              unfold maxLen at hc3
              have HO2 := Lib.hid hown
              clear hown hb2 hs2
              obtain ⟨xa, hxa⟩ : ∃ xa, xa = x.arg := ⟨_, rfl⟩
              rw [← hxa] at x1
              have HXA := Lib.hid hxa
              clear hxa
              by_cases hg0 : xa < 0
              · have d1 : decide (xa < 0) = true := decide_eq_true hg0
                have HA := Lib.hid (show argErr n k cols.length x = 1 by unfold argErr; rw [if_neg (by rw [HWH.out]; decide), if_neg (by rw [HWH.out]; decide), if_neg (by rw [HWH.out]; decide), if_pos (by rw [HWH.out]; decide), if_neg (by rw [← HXA.out]; omega)])
                clear hg0
                have E := Lib.hid (ver_stop HLL.out H12.out HSE.out HRUN.out HX.out (stepP_a HST.out HA.out (by decide)) (by decide))
                go_wp2_with fail
                refine bodyPost_ret (results_tmp4 rfl _ _ _) rfl ?_
                rw [E.out]
                exact ⟨rfl, below_step HLOW1.out HB2.out⟩
              · have d1 : decide (xa < 0) = false := decide_eq_false hg0
                obtain ⟨a, rfl⟩ : ∃ a : Nat, xa = a := ⟨xa.toNat, by omega⟩
                by_cases hg1 : (n : Int) - k - 1 < a
                · have d2 : decide ((n : Int) - k - 1 < a) = true := decide_eq_true hg1
                  have HA := Lib.hid (show argErr n k cols.length x = 1 by unfold argErr; rw [if_neg (by rw [HWH.out]; decide), if_neg (by rw [HWH.out]; decide), if_neg (by rw [HWH.out]; decide), if_pos (by rw [HWH.out]; decide), if_neg (by rw [← HXA.out]; omega)])
                  clear hg0 hg1
                  have E := Lib.hid (ver_stop HLL.out H12.out HSE.out HRUN.out HX.out (stepP_a HST.out HA.out (by decide)) (by decide))
                  go_wp2_with fail
                  refine bodyPost_ret (results_tmp4 rfl _ _ _) rfl ?_
                  rw [E.out]
                  exact ⟨rfl, below_step HLOW1.out HB2.out⟩
                · have d2 : decide ((n : Int) - k - 1 < a) = false := decide_eq_false hg1
                  have hak : k + 1 + a ≤ n := by omega
                  have HA := Lib.hid (show argErr n k cols.length x = 0 by unfold argErr; rw [if_neg (by rw [HWH.out]; decide), if_neg (by rw [HWH.out]; decide), if_neg (by rw [HWH.out]; decide), if_pos (by rw [HWH.out]; decide), if_pos (by rw [← HXA.out]; omega)])
                  have HAE := Lib.hid (show x.arg = a from HXA.out.symm)
                  clear hg0 hg1
                  have HN := Lib.hid (show need x = 1 by unfold need; rw [if_neg (by rw [HWH.out]; decide), if_pos (by rw [HWH.out]; decide)])
                  by_cases hmd : m < 1
                  · have dd : decide (m < 1) = true := decide_eq_true hmd
                    have dd' : decide ((m : Int) < 1) = true := decide_eq_true (by omega)
                    have E := Lib.hid (ver_stop HLL.out H12.out HSE.out HRUN.out HX.out (stepP_c HST.out HA.out (actP_short (by rw [HN.out, ← HM.out]; exact hmd)) (by decide)) (by decide))
                    clear hmd
                    go_wp2_with fail
                    refine bodyPost_ret (results_tmp4 rfl _ _ _) rfl ?_
                    rw [E.out]
                    exact ⟨rfl, below_step HLOW1.out HB2.out⟩
                  · have dd : decide (m < 1) = false := decide_eq_false hmd
                    have dd' : decide ((m : Int) < 1) = false := decide_eq_false (by omega)
                    obtain ⟨j, hj⟩ : ∃ j, m = j + 1 := ⟨m - 1, by omega⟩
                    have HJ := Lib.hid hj
                    have ej : (m : Int) - 1 = (j : Int) := by omega
                    have ej' : m - j = 1 := by omega
                    have hjm : j ≤ m := by omega
                    have hjc : j < c2 := by omega
                    have hjc1 : ¬ c2 = j := by omega
                    have hjc2 : ¬ j = c2 := by omega
                    obtain ⟨g, rfl⟩ : ∃ g, A2 = some ⟨g, 0, none⟩ := own_addr HO2.out (by omega)
                    have HOP := Lib.hid (show w2.ownsRow w1.heap.size 3 1 (.slice (some ⟨g, 0, none⟩) j c2) j (intCells (l.take j)) from by have h := HO2.out; rw [HJ.out] at h; exact own_prefix h)
                    have HOFF := Lib.hid (show Sees w2 (some ⟨g, j, none⟩) 1 (c2 - j) 1 (intCells (l.drop j)) from by have h := HS2.out; rw [HJ.out] at h; exact sees_drop h)
                    have HL := Lib.hid (show l.length = j + 1 by rw [← HM.out, HJ.out])
                    clear hmd hj
                    obtain ⟨y, hy⟩ : ∃ y, (l.drop j).headD 0 = y := ⟨_, rfl⟩
                    obtain ⟨ga, oa, y', eA, hy', y0⟩ := ints_at HOFF.out (show 0 < 1 by decide)
                    rw [Nat.add_zero] at y0
                    injection eA with eA
                    injection eA with e1 e2
                    subst e1 e2
                    obtain rfl : y = y' := by
                      rw [← hy]
                      cases hd : l.drop j with
                      | nil => rw [hd] at hy'; cases hy'
                      | cons a r => rw [hd] at hy'; exact Option.some.inj hy'
                    have HY := Lib.hid hy
                    clear hy hy'
                    by_cases hy2 : y = 2
                    · have HP := Lib.hid (show putTy cols x (l.drop j) = (0, []) by unfold putTy; rw [if_neg (by rw [HWH.out]; decide), if_neg (by rw [HWH.out]; decide), if_neg (by rw [HWH.out]; decide), if_pos HWH.out, if_neg (by rw [HY.out, hy2]; decide)])
                      subst hy2
                      have HSP := Lib.hid (sees_ints HOP.out)
                      have HFAR := Lib.hid (show 0 < (l.take j).length → ∀ ad, (some ⟨g, 0, none⟩ : Option Addr) = some ad → ad.block ≠ q by
                        intro _ ad e
                        injection e with e
                        rw [← e]
                        have h1 : w1.heap.size ≤ g := (HO2.out.lt g rfl).1
                        have := HS1.out
                        show g ≠ q
                        omega)
                      have HFAR := Lib.hid (show 0 < (l.take j ++ []).length → ∀ ad, (some ⟨g, 0, none⟩ : Option Addr) = some ad → ad.block ≠ q by rw [List.append_nil]; exact HFAR.out)
                      have HSP := Lib.hid (show Sees w2 (some ⟨g, 0, none⟩) (j + 0) c2 1 (intCells (l.take j ++ [])) by rw [List.append_nil]; exact HSP.out)
                      clear x0 x1 x2 x3 x4
                      have HLT := Lib.hid (show (l.take j ++ []).length = j by have := HM.out; simp; omega)
                      have HST5 := Lib.hid (show Sees w2 (some ⟨g, 0, none⟩) ((l.take j ++ []).length) c2 1 (intCells (l.take j ++ [])) by rw [HLT.out]; exact HSP.out)
                      obtain ⟨x0, x1, x2, x3, x4⟩ := box5 ((HB2.out.block _ (by rw [HS1.out]; omega)).trans HX1.out)
                      rw [HWH.out] at x0
                      rw [HAE.out] at x1
                      by_cases h64 : 64 < j
                      · have d64 : decide (64 < j) = true := decide_eq_true h64
                        have d64' : decide (64 < ((j : Nat) : Int)) = true := decide_eq_true (by omega)
                        have d64'' : decide (64 < (j : Int)) = true := decide_eq_true (by omega)
                        have E := Lib.hid (ver_stop HLL.out H12.out HSE.out HRUN.out HX.out (stepP_c HST.out HA.out (actP_long HN.out HL.out HP.out (by simp; omega)) (by decide)) (by decide))
                        clear h64
                        go_wp2_with fail
                        refine bodyPost_ret (results_tmp4 rfl _ _ _) rfl ?_
                        rw [E.out]
                        exact ⟨rfl, below_step HLOW1.out HB2.out⟩
                      · have d64 : decide (64 < j) = false := decide_eq_false h64
                        have d64' : decide (64 < ((j : Nat) : Int)) = false := decide_eq_false (by omega)
                        have d64'' : decide (64 < (j : Int)) = false := decide_eq_false (by omega)
                        have AE := Lib.hid (show actP cols x l = (0, l.take j ++ []) from (actP_ok HN.out HL.out HP.out (by simp; omega)))
                        have h64' : j ≤ 64 := by omega
                        clear h64
                        have HSMN := Lib.hid (stepP_small (cols := cols) (len := n) (i := k) (x := x) HSM.out hmo)
                        by_cases hmb : most < j
                        · have dm : decide (most < j) = true := decide_eq_true hmb
                          have dm' : decide ((most : Int) < ((j : Nat) : Int)) = true := decide_eq_true (by omega)
                          have dm'' : decide ((most : Int) < (j : Int)) = true := decide_eq_true (by omega)
                          have HMX := Lib.hid (show max most (l.take j ++ []).length = j by rw [HLT.out]; omega)
                          clear hmb
                          have HRS5 := Lib.hid (HRS1.out.keep HB2.out)
                          have TRa := Lib.hid (sreach_any q q n st (k + 1 + a) c2 (some ⟨g, 0, none⟩) (l.take j ++ []) w2 HRS5.out (by omega) (by omega) HST5.out (by rw [HLT.out]; omega) (by intro h0 ad e; exact HFAR.out h0 ad e))
                          rw [HLT.out] at TRa
                          obtain ⟨ra, hra⟩ : ∃ r, r = reachP st (k + 1 + a) (l.take j ++ []) := ⟨_, rfl⟩
                          rw [← hra] at TRa
                          have HRa := Lib.hid hra
                          clear hra
                          rw [show (((k + 1 + a : Nat) : Int)) = (k : Int) + 1 + (a : Int) by omega] at TRa
                          go_wp2_with fail
                          refine (TRa.out).mono ?_
                          rintro e w8 ⟨rfl, hrs8, hon8⟩
                          have HRS8 := Lib.hid hrs8
                          have HLOW8 := Lib.hid ((below_step HLOW1.out HB2.out).trans (hon8.below (below_step HLOW1.out HB2.out).size (fun k hk => by have hk : k = q := hk; have := HQ.out; omega)))
                          have HST8 := Lib.hid (hon8.sees_far HST5.out (fun h0 ad e hq => HFAR.out h0 ad e hq))
                          have HX8 := Lib.hid ((hon8.block wr.heap.size (by have := HB2.out.size; have := HS1.out; omega) (by intro e; have e : wr.heap.size = q := e; omega)).trans ((HB2.out.block _ (by rw [HS1.out]; omega)).trans HX1.out))
                          clear hrs8 hon8 x0 x1 x2 x3 x4
                          obtain ⟨x0, x1, x2, x3, x4⟩ := box5 HX8.out
                          rw [HWH.out] at x0
                          by_cases h0 : ra.1 = 0
                          · have D0 : decide (ra.1 = 0) = true := decide_eq_true h0
                            rw [D0]
                            have STEP := Lib.hid (step_e2 (most := most) HST.out HA.out AE.out HWH.out HAE.out (by rw [← HRa.out]; exact h0))
                            rw [← HRa.out, HMX.out] at STEP
                            clear h0 D0
                            have TRb := Lib.hid (sreach_any q q n ra.2 (k + 1) c2 (some ⟨g, 0, none⟩) (l.take j ++ []) w8 HRS8.out (by omega) (by omega) HST8.out (by rw [HLT.out]; omega) (by intro h0 ad e; exact HFAR.out h0 ad e))
                            rw [HLT.out] at TRb
                            obtain ⟨rb, hrb⟩ : ∃ r, r = reachP ra.2 (k + 1) (l.take j ++ []) := ⟨_, rfl⟩
                            rw [← hrb] at TRb
                            have HRb := Lib.hid hrb
                            clear hrb
                            rw [show (((k + 1 : Nat) : Int)) = (k : Int) + 1 by omega] at TRb
                            rw [← HRb.out] at STEP
                            go_wp2_with fail
                            refine (TRb.out).mono ?_
                            rintro e w9 ⟨rfl, hrs9, hon9⟩
                            have HRS9 := Lib.hid hrs9
                            have HLOW9 := Lib.hid (HLOW8.out.trans (hon9.below HLOW8.out.size (fun k hk => by have hk : k = q := hk; have := HQ.out; omega)))
                            clear hrs9 hon9 x0 x1 x2 x3 x4
                            by_cases h0 : rb.1 = 0
                            · have D0 : decide (rb.1 = 0) = true := decide_eq_true h0
                              rw [D0]
                              rw [h0] at STEP
                              clear h0 D0
                              have HRUN2 := Lib.hid (ver_next HRUN.out HX.out STEP.out)
                              rw [STEP.out] at HSMN
                              go_wp2_with fail
                              go_roundw
                              case rel => exact ⟨k + 1, rb.2, j, by omega, by go_num, by go_num, HRS9.out, HLOW9.out, HSMN.out.1, HSMN.out.2, HRUN2.out⟩
                              case measure => simp [intOf]; omega
                            · have D0 : decide (rb.1 = 0) = false := decide_eq_false h0
                              rw [D0]
                              have E := Lib.hid (ver_stop HLL.out H12.out HSE.out HRUN.out HX.out (show (stepP cols n k x st most).1 = 3 by rw [STEP.out]; show rb.1 = 3; rw [HRb.out] at h0 ⊢; exact reachP_3 h0) (by decide))
                              clear h0 D0
                              go_wp2_with fail
                              refine bodyPost_ret (results_tmp4 rfl _ _ _) rfl ?_
                              rw [E.out]
                              exact ⟨rfl, HLOW9.out⟩
                          · have D0 : decide (ra.1 = 0) = false := decide_eq_false h0
                            rw [D0]
                            have E := Lib.hid (ver_stop HLL.out H12.out HSE.out HRUN.out HX.out (show (stepP cols n k x st most).1 = 3 by rw [step_e1 (most := most) HST.out HA.out AE.out HWH.out HAE.out (by rw [← HRa.out]; exact h0)]; show (reachP st (k + 1 + a) _).1 = 3; rw [HRa.out] at h0; exact reachP_3 h0) (by decide))
                            clear h0 D0
                            go_wp2_with fail
                            refine bodyPost_ret (results_tmp4 rfl _ _ _) rfl ?_
                            rw [E.out]
                            exact ⟨rfl, HLOW8.out⟩
                        · have dm : decide (most < j) = false := decide_eq_false hmb
                          have dm' : decide ((most : Int) < ((j : Nat) : Int)) = false := decide_eq_false (by omega)
                          have dm'' : decide ((most : Int) < (j : Int)) = false := decide_eq_false (by omega)
                          have HMX := Lib.hid (show max most (l.take j ++ []).length = most by rw [HLT.out]; omega)
                          clear hmb
                          have HRS5 := Lib.hid (HRS1.out.keep HB2.out)
                          have TRa := Lib.hid (sreach_any q q n st (k + 1 + a) c2 (some ⟨g, 0, none⟩) (l.take j ++ []) w2 HRS5.out (by omega) (by omega) HST5.out (by rw [HLT.out]; omega) (by intro h0 ad e; exact HFAR.out h0 ad e))
                          rw [HLT.out] at TRa
                          obtain ⟨ra, hra⟩ : ∃ r, r = reachP st (k + 1 + a) (l.take j ++ []) := ⟨_, rfl⟩
                          rw [← hra] at TRa
                          have HRa := Lib.hid hra
                          clear hra
                          rw [show (((k + 1 + a : Nat) : Int)) = (k : Int) + 1 + (a : Int) by omega] at TRa
                          go_wp2_with fail
                          refine (TRa.out).mono ?_
                          rintro e w8 ⟨rfl, hrs8, hon8⟩
                          have HRS8 := Lib.hid hrs8
                          have HLOW8 := Lib.hid ((below_step HLOW1.out HB2.out).trans (hon8.below (below_step HLOW1.out HB2.out).size (fun k hk => by have hk : k = q := hk; have := HQ.out; omega)))
                          have HST8 := Lib.hid (hon8.sees_far HST5.out (fun h0 ad e hq => HFAR.out h0 ad e hq))
                          have HX8 := Lib.hid ((hon8.block wr.heap.size (by have := HB2.out.size; have := HS1.out; omega) (by intro e; have e : wr.heap.size = q := e; omega)).trans ((HB2.out.block _ (by rw [HS1.out]; omega)).trans HX1.out))
                          clear hrs8 hon8 x0 x1 x2 x3 x4
                          obtain ⟨x0, x1, x2, x3, x4⟩ := box5 HX8.out
                          rw [HWH.out] at x0
                          by_cases h0 : ra.1 = 0
                          · have D0 : decide (ra.1 = 0) = true := decide_eq_true h0
                            rw [D0]
                            have STEP := Lib.hid (step_e2 (most := most) HST.out HA.out AE.out HWH.out HAE.out (by rw [← HRa.out]; exact h0))
                            rw [← HRa.out, HMX.out] at STEP
                            clear h0 D0
                            have TRb := Lib.hid (sreach_any q q n ra.2 (k + 1) c2 (some ⟨g, 0, none⟩) (l.take j ++ []) w8 HRS8.out (by omega) (by omega) HST8.out (by rw [HLT.out]; omega) (by intro h0 ad e; exact HFAR.out h0 ad e))
                            rw [HLT.out] at TRb
                            obtain ⟨rb, hrb⟩ : ∃ r, r = reachP ra.2 (k + 1) (l.take j ++ []) := ⟨_, rfl⟩
                            rw [← hrb] at TRb
                            have HRb := Lib.hid hrb
                            clear hrb
                            rw [show (((k + 1 : Nat) : Int)) = (k : Int) + 1 by omega] at TRb
                            rw [← HRb.out] at STEP
                            go_wp2_with fail
                            refine (TRb.out).mono ?_
                            rintro e w9 ⟨rfl, hrs9, hon9⟩
                            have HRS9 := Lib.hid hrs9
                            have HLOW9 := Lib.hid (HLOW8.out.trans (hon9.below HLOW8.out.size (fun k hk => by have hk : k = q := hk; have := HQ.out; omega)))
                            clear hrs9 hon9 x0 x1 x2 x3 x4
                            by_cases h0 : rb.1 = 0
                            · have D0 : decide (rb.1 = 0) = true := decide_eq_true h0
                              rw [D0]
                              rw [h0] at STEP
                              clear h0 D0
                              have HRUN2 := Lib.hid (ver_next HRUN.out HX.out STEP.out)
                              rw [STEP.out] at HSMN
                              go_wp2_with fail
                              go_roundw
                              case rel => exact ⟨k + 1, rb.2, most, by omega, by go_num, by go_num, HRS9.out, HLOW9.out, HSMN.out.1, HSMN.out.2, HRUN2.out⟩
                              case measure => simp [intOf]; omega
                            · have D0 : decide (rb.1 = 0) = false := decide_eq_false h0
                              rw [D0]
                              have E := Lib.hid (ver_stop HLL.out H12.out HSE.out HRUN.out HX.out (show (stepP cols n k x st most).1 = 3 by rw [STEP.out]; show rb.1 = 3; rw [HRb.out] at h0 ⊢; exact reachP_3 h0) (by decide))
                              clear h0 D0
                              go_wp2_with fail
                              refine bodyPost_ret (results_tmp4 rfl _ _ _) rfl ?_
                              rw [E.out]
                              exact ⟨rfl, HLOW9.out⟩
                          · have D0 : decide (ra.1 = 0) = false := decide_eq_false h0
                            rw [D0]
                            have E := Lib.hid (ver_stop HLL.out H12.out HSE.out HRUN.out HX.out (show (stepP cols n k x st most).1 = 3 by rw [step_e1 (most := most) HST.out HA.out AE.out HWH.out HAE.out (by rw [← HRa.out]; exact h0)]; show (reachP st (k + 1 + a) _).1 = 3; rw [HRa.out] at h0; exact reachP_3 h0) (by decide))
                            clear h0 D0
                            go_wp2_with fail
                            refine bodyPost_ret (results_tmp4 rfl _ _ _) rfl ?_
                            rw [E.out]
                            exact ⟨rfl, HLOW8.out⟩
                    · have e2 : (y != 2) = true := by simpa using hy2
                      have HP := Lib.hid (show putTy cols x (l.drop j) = (8, []) by unfold putTy; rw [if_neg (by rw [HWH.out]; decide), if_neg (by rw [HWH.out]; decide), if_neg (by rw [HWH.out]; decide), if_pos HWH.out, if_pos (by rw [HY.out]; exact hy2)])
                      have E := Lib.hid (ver_stop HLL.out H12.out HSE.out HRUN.out HX.out (stepP_c HST.out HA.out (actP_bad HN.out HL.out HP.out (by decide)) (by decide)) (by decide))
                      clear hy2
                      go_wp2_with fail
                      refine bodyPost_ret (results_tmp4 rfl _ _ _) rfl ?_
                      rw [E.out]
                      exact ⟨rfl, below_step HLOW1.out HB2.out⟩
          have h5 := hwh
          clear hwh
          by_cases hwh : x.what = 6
          · as_aux_lemma =>
              have HWH := Lib.hid hwh
              clear hwh
              have HN4 := Lib.hid (show x.what ≠ 4 by rw [HWH.out]; decide)
              have HN5 := Lib.hid (show x.what ≠ 5 by rw [HWH.out]; decide)
              have HB2 := Lib.hid hb2
              obtain ⟨x0, x1, x2, x3, x4⟩ := box5 ((HB2.out.block _ (by rw [HS1.out]; omega)).trans HX1.out)
              rw [HWH.out] at x0
              obtain ⟨A2, c2, rfl, hs2⟩ := Sees.of_own hown
              have HS2 := Lib.hid hs2
              have hc2 := hs2.2.1
              have hc3 := hs2.2.2.1
              unfold maxLen at hc3
              have HO2 := Lib.hid hown
              clear hown hb2 hs2
              have HA := Lib.hid (show argErr n k cols.length x = 0 by unfold argErr; rw [if_neg (by rw [HWH.out]; decide), if_neg (by rw [HWH.out]; decide), if_neg (by rw [HWH.out]; decide), if_neg (by rw [HWH.out]; decide), if_pos (by rw [HWH.out]; decide)])
              have HN := Lib.hid (show need x = 1 by unfold need; rw [if_neg (by rw [HWH.out]; decide), if_pos (by rw [HWH.out]; decide)])
              by_cases hmd : m < 1
              · have dd : decide (m < 1) = true := decide_eq_true hmd
                have dd' : decide ((m : Int) < 1) = true := decide_eq_true (by omega)
                have E := Lib.hid (ver_stop HLL.out H12.out HSE.out HRUN.out HX.out (stepP_c HST.out HA.out (actP_short (by rw [HN.out, ← HM.out]; exact hmd)) (by decide)) (by decide))
                clear hmd
                go_wp2_with fail
                refine bodyPost_ret (results_tmp4 rfl _ _ _) rfl ?_
                rw [E.out]
                exact ⟨rfl, below_step HLOW1.out HB2.out⟩
              · have dd : decide (m < 1) = false := decide_eq_false hmd
                have dd' : decide ((m : Int) < 1) = false := decide_eq_false (by omega)
                obtain ⟨j, hj⟩ : ∃ j, m = j + 1 := ⟨m - 1, by omega⟩
                have HJ := Lib.hid hj
                have ej : (m : Int) - 1 = (j : Int) := by omega
                have ej' : m - j = 1 := by omega
                have hjm : j ≤ m := by omega
                have hjc : j < c2 := by omega
                have hjc1 : ¬ c2 = j := by omega
                have hjc2 : ¬ j = c2 := by omega
                obtain ⟨g, rfl⟩ : ∃ g, A2 = some ⟨g, 0, none⟩ := own_addr HO2.out (by omega)
                have HOP := Lib.hid (show w2.ownsRow w1.heap.size 3 1 (.slice (some ⟨g, 0, none⟩) j c2) j (intCells (l.take j)) from by have h := HO2.out; rw [HJ.out] at h; exact own_prefix h)
                have HOFF := Lib.hid (show Sees w2 (some ⟨g, j, none⟩) 1 (c2 - j) 1 (intCells (l.drop j)) from by have h := HS2.out; rw [HJ.out] at h; exact sees_drop h)
                have HL := Lib.hid (show l.length = j + 1 by rw [← HM.out, HJ.out])
                clear hmd hj
                obtain ⟨y, hy⟩ : ∃ y, (l.drop j).headD 0 = y := ⟨_, rfl⟩
                obtain ⟨ga, oa, y', eA, hy', y0⟩ := ints_at HOFF.out (show 0 < 1 by decide)
                rw [Nat.add_zero] at y0
                injection eA with eA
                injection eA with e1 e2
                subst e1 e2
                obtain rfl : y = y' := by
                  rw [← hy]
                  cases hd : l.drop j with
                  | nil => rw [hd] at hy'; cases hy'
                  | cons a r => rw [hd] at hy'; exact Option.some.inj hy'
                have HY := Lib.hid hy
                clear hy hy'
                have HP := Lib.hid (show putTy cols x (l.drop j) = (0, [y, y]) by unfold putTy; rw [if_neg (by rw [HWH.out]; decide), if_neg (by rw [HWH.out]; decide), if_neg (by rw [HWH.out]; decide), if_neg (by rw [HWH.out]; decide), if_pos HWH.out, HY.out])
                go_wp2_with (first | (at_builtin; refine wpList_append_one intSlice rfl _ _ rfl rfl rfl HOP.out HB2.out (Nat.le_refl _) rfl (by intro u hu; simp at hu; subst hu; rfl) (by omega) ?_))
                intro v' w4 hown4 hb4 _
                have hown4 : w4.ownsRow w1.heap.size 3 1 v' (j + 1) (intCells (l.take j ++ [y])) := by rw [← intCells_app]; exact hown4
                obtain ⟨A4, c4, rfl, hs4⟩ := Sees.of_own hown4
                have HB4 := Lib.hid hb4
                have HO4 := Lib.hid hown4
                clear hown4 hb4 hs4 x0 x1 x2 x3 x4 y0
                obtain ⟨x0, x1, x2, x3, x4⟩ := box5 ((HB4.out.block _ (by rw [HS1.out]; omega)).trans HX1.out)
                rw [HWH.out] at x0
                go_wp2_with (first | (at_builtin; refine wpList_append_one intSlice rfl _ _ rfl rfl rfl HO4.out HB4.out (Nat.le_refl _) rfl (by intro u hu; simp at hu; subst hu; rfl) (by omega) ?_))
                intro v' w5 hown5 hb5 _
                have hown5 : w5.ownsRow w1.heap.size 3 1 v' (j + 1 + 1) (intCells (l.take j ++ [y, y])) := by rw [show l.take j ++ [y, y] = (l.take j ++ [y]) ++ [y] by simp, ← intCells_app]; exact hown5
                obtain ⟨A5, c5, rfl, hs5⟩ := Sees.of_own hown5
                have HS5 := Lib.hid hs5
                have HB5 := Lib.hid hb5
                have HO5 := Lib.hid hown5
                clear hown5 hb5 hs5 x0 x1 x2 x3 x4
                have HFAR := Lib.hid (show 0 < (l.take j ++ [y, y]).length → ∀ ad, A5 = some ad → ad.block ≠ q by
                  intro _ ad e
                  subst e
                  have := (HO5.out.lt _ rfl).1
                  have := HS1.out
                  omega)
                have HLT := Lib.hid (show (l.take j ++ [y, y]).length = j + 1 + 1 by have := HM.out; simp; omega)
                have HST5 := Lib.hid (show Sees w5 A5 ((l.take j ++ [y, y]).length) c5 1 (intCells (l.take j ++ [y, y])) by rw [HLT.out]; exact HS5.out)
                obtain ⟨x0, x1, x2, x3, x4⟩ := box5 ((HB5.out.block _ (by rw [HS1.out]; omega)).trans HX1.out)
                rw [HWH.out] at x0
                by_cases h64 : 64 < j + 1 + 1
                · have d64 : decide (64 < j + 1 + 1) = true := decide_eq_true h64
                  have d64' : decide (64 < ((j + 1 + 1 : Nat) : Int)) = true := decide_eq_true (by omega)
                  have d64'' : decide (64 < (j : Int) + 1 + 1) = true := decide_eq_true (by omega)
                  have E := Lib.hid (ver_stop HLL.out H12.out HSE.out HRUN.out HX.out (stepP_c HST.out HA.out (actP_long HN.out HL.out HP.out (by simp; omega)) (by decide)) (by decide))
                  clear h64
                  go_wp2_with fail
                  refine bodyPost_ret (results_tmp4 rfl _ _ _) rfl ?_
                  rw [E.out]
                  exact ⟨rfl, below_step HLOW1.out HB5.out⟩
                · have d64 : decide (64 < j + 1 + 1) = false := decide_eq_false h64
                  have d64' : decide (64 < ((j + 1 + 1 : Nat) : Int)) = false := decide_eq_false (by omega)
                  have d64'' : decide (64 < (j : Int) + 1 + 1) = false := decide_eq_false (by omega)
                  have AE := Lib.hid (show actP cols x l = (0, l.take j ++ [y, y]) from (actP_ok HN.out HL.out HP.out (by simp; omega)))
                  have h64' : j + 1 + 1 ≤ 64 := by omega
                  clear h64
                  have HSMN := Lib.hid (stepP_small (cols := cols) (len := n) (i := k) (x := x) HSM.out hmo)
                  by_cases hmb : most < j + 1 + 1
                  · have dm : decide (most < j + 1 + 1) = true := decide_eq_true hmb
                    have dm' : decide ((most : Int) < ((j + 1 + 1 : Nat) : Int)) = true := decide_eq_true (by omega)
                    have dm'' : decide ((most : Int) < (j : Int) + 1 + 1) = true := decide_eq_true (by omega)
                    have HMX := Lib.hid (show max most (l.take j ++ [y, y]).length = j + 1 + 1 by rw [HLT.out]; omega)
                    clear hmb
                    have HRS5 := Lib.hid (HRS1.out.keep HB5.out)
                    have TRa := Lib.hid (sreach_any q q n st (k + 1) c5 A5 (l.take j ++ [y, y]) w5 HRS5.out (by omega) (by omega) HST5.out (by rw [HLT.out]; omega) (by intro h0 ad e; exact HFAR.out h0 ad e))
                    rw [HLT.out] at TRa
                    obtain ⟨ra, hra⟩ : ∃ r, r = reachP st (k + 1) (l.take j ++ [y, y]) := ⟨_, rfl⟩
                    rw [← hra] at TRa
                    have HRa := Lib.hid hra
                    clear hra
                    rw [show (((k + 1 : Nat) : Int)) = (k : Int) + 1 by omega] at TRa
                    have STEP := Lib.hid (step_n (most := most) HST.out HA.out AE.out HN4.out HN5.out)
                    rw [← HRa.out, HMX.out] at STEP
                    go_wp2_with fail
                    refine (TRa.out).mono ?_
                    rintro e w8 ⟨rfl, hrs8, hon8⟩
                    have HRS8 := Lib.hid hrs8
                    have HLOW8 := Lib.hid ((below_step HLOW1.out HB5.out).trans (hon8.below (below_step HLOW1.out HB5.out).size (fun k hk => by have hk : k = q := hk; have := HQ.out; omega)))
                    clear hrs8 hon8
                    clear x0 x1 x2 x3 x4
                    by_cases h0 : ra.1 = 0
                    · have D0 : decide (ra.1 = 0) = true := decide_eq_true h0
                      rw [D0]
                      rw [h0] at STEP
                      clear h0 D0
                      have HRUN2 := Lib.hid (ver_next HRUN.out HX.out STEP.out)
                      rw [STEP.out] at HSMN
                      go_wp2_with fail
                      go_roundw
                      case rel => exact ⟨k + 1, ra.2, j + 1 + 1, by omega, by go_num, by go_num, HRS8.out, HLOW8.out, HSMN.out.1, HSMN.out.2, HRUN2.out⟩
                      case measure => simp [intOf]; omega
                    · have D0 : decide (ra.1 = 0) = false := decide_eq_false h0
                      rw [D0]
                      have E := Lib.hid (ver_stop HLL.out H12.out HSE.out HRUN.out HX.out (show (stepP cols n k x st most).1 = 3 by rw [STEP.out]; show ra.1 = 3; rw [HRa.out] at h0 ⊢; exact reachP_3 h0) (by decide))
                      clear h0 D0
                      go_wp2_with fail
                      refine bodyPost_ret (results_tmp4 rfl _ _ _) rfl ?_
                      rw [E.out]
                      exact ⟨rfl, HLOW8.out⟩
                  · have dm : decide (most < j + 1 + 1) = false := decide_eq_false hmb
                    have dm' : decide ((most : Int) < ((j + 1 + 1 : Nat) : Int)) = false := decide_eq_false (by omega)
                    have dm'' : decide ((most : Int) < (j : Int) + 1 + 1) = false := decide_eq_false (by omega)
                    have HMX := Lib.hid (show max most (l.take j ++ [y, y]).length = most by rw [HLT.out]; omega)
                    clear hmb
                    have HRS5 := Lib.hid (HRS1.out.keep HB5.out)
                    have TRa := Lib.hid (sreach_any q q n st (k + 1) c5 A5 (l.take j ++ [y, y]) w5 HRS5.out (by omega) (by omega) HST5.out (by rw [HLT.out]; omega) (by intro h0 ad e; exact HFAR.out h0 ad e))
                    rw [HLT.out] at TRa
                    obtain ⟨ra, hra⟩ : ∃ r, r = reachP st (k + 1) (l.take j ++ [y, y]) := ⟨_, rfl⟩
                    rw [← hra] at TRa
                    have HRa := Lib.hid hra
                    clear hra
                    rw [show (((k + 1 : Nat) : Int)) = (k : Int) + 1 by omega] at TRa
                    have STEP := Lib.hid (step_n (most := most) HST.out HA.out AE.out HN4.out HN5.out)
                    rw [← HRa.out, HMX.out] at STEP
                    go_wp2_with fail
                    refine (TRa.out).mono ?_
                    rintro e w8 ⟨rfl, hrs8, hon8⟩
                    have HRS8 := Lib.hid hrs8
                    have HLOW8 := Lib.hid ((below_step HLOW1.out HB5.out).trans (hon8.below (below_step HLOW1.out HB5.out).size (fun k hk => by have hk : k = q := hk; have := HQ.out; omega)))
                    clear hrs8 hon8
                    clear x0 x1 x2 x3 x4
                    by_cases h0 : ra.1 = 0
                    · have D0 : decide (ra.1 = 0) = true := decide_eq_true h0
                      rw [D0]
                      rw [h0] at STEP
                      clear h0 D0
                      have HRUN2 := Lib.hid (ver_next HRUN.out HX.out STEP.out)
                      rw [STEP.out] at HSMN
                      go_wp2_with fail
                      go_roundw
                      case rel => exact ⟨k + 1, ra.2, most, by omega, by go_num, by go_num, HRS8.out, HLOW8.out, HSMN.out.1, HSMN.out.2, HRUN2.out⟩
                      case measure => simp [intOf]; omega
                    · have D0 : decide (ra.1 = 0) = false := decide_eq_false h0
                      rw [D0]
                      have E := Lib.hid (ver_stop HLL.out H12.out HSE.out HRUN.out HX.out (show (stepP cols n k x st most).1 = 3 by rw [STEP.out]; show ra.1 = 3; rw [HRa.out] at h0 ⊢; exact reachP_3 h0) (by decide))
                      clear h0 D0
                      go_wp2_with fail
                      refine bodyPost_ret (results_tmp4 rfl _ _ _) rfl ?_
                      rw [E.out]
                      exact ⟨rfl, HLOW8.out⟩
          have h6 := hwh
          clear hwh
          by_cases hwh : x.what = 7
          · as_aux_lemma =>
              have HWH := Lib.hid hwh
              clear hwh
              have HN4 := Lib.hid (show x.what ≠ 4 by rw [HWH.out]; decide)
              have HN5 := Lib.hid (show x.what ≠ 5 by rw [HWH.out]; decide)
              have HB2 := Lib.hid hb2
              obtain ⟨x0, x1, x2, x3, x4⟩ := box5 ((HB2.out.block _ (by rw [HS1.out]; omega)).trans HX1.out)
              rw [HWH.out] at x0
              obtain ⟨A2, c2, rfl, hs2⟩ := Sees.of_own hown
              have HS2 := Lib.hid hs2
              have hc2 := hs2.2.1
              have hc3 := hs2.2.2.1
              unfold maxLen at hc3
              have HO2 := Lib.hid hown
              clear hown hb2 hs2
              have HA := Lib.hid (show argErr n k cols.length x = 0 by unfold argErr; rw [if_neg (by rw [HWH.out]; decide), if_neg (by rw [HWH.out]; decide), if_neg (by rw [HWH.out]; decide), if_neg (by rw [HWH.out]; decide), if_pos (by rw [HWH.out]; decide)])
              have HN := Lib.hid (show need x = 1 by unfold need; rw [if_neg (by rw [HWH.out]; decide), if_pos (by rw [HWH.out]; decide)])
              by_cases hmd : m < 1
              · have dd : decide (m < 1) = true := decide_eq_true hmd
                have dd' : decide ((m : Int) < 1) = true := decide_eq_true (by omega)
                have E := Lib.hid (ver_stop HLL.out H12.out HSE.out HRUN.out HX.out (stepP_c HST.out HA.out (actP_short (by rw [HN.out, ← HM.out]; exact hmd)) (by decide)) (by decide))
                clear hmd
                go_wp2_with fail
                refine bodyPost_ret (results_tmp4 rfl _ _ _) rfl ?_
                rw [E.out]
                exact ⟨rfl, below_step HLOW1.out HB2.out⟩
              · have dd : decide (m < 1) = false := decide_eq_false hmd
                have dd' : decide ((m : Int) < 1) = false := decide_eq_false (by omega)
                obtain ⟨j, hj⟩ : ∃ j, m = j + 1 := ⟨m - 1, by omega⟩
                have HJ := Lib.hid hj
                have ej : (m : Int) - 1 = (j : Int) := by omega
                have ej' : m - j = 1 := by omega
                have hjm : j ≤ m := by omega
                have hjc : j < c2 := by omega
                have hjc1 : ¬ c2 = j := by omega
                have hjc2 : ¬ j = c2 := by omega
                obtain ⟨g, rfl⟩ : ∃ g, A2 = some ⟨g, 0, none⟩ := own_addr HO2.out (by omega)
                have HOP := Lib.hid (show w2.ownsRow w1.heap.size 3 1 (.slice (some ⟨g, 0, none⟩) j c2) j (intCells (l.take j)) from by have h := HO2.out; rw [HJ.out] at h; exact own_prefix h)
                have HOFF := Lib.hid (show Sees w2 (some ⟨g, j, none⟩) 1 (c2 - j) 1 (intCells (l.drop j)) from by have h := HS2.out; rw [HJ.out] at h; exact sees_drop h)
                have HL := Lib.hid (show l.length = j + 1 by rw [← HM.out, HJ.out])
                clear hmd hj
                have HP := Lib.hid (show putTy cols x (l.drop j) = (0, []) by unfold putTy; rw [if_neg (by rw [HWH.out]; decide), if_neg (by rw [HWH.out]; decide), if_neg (by rw [HWH.out]; decide), if_neg (by rw [HWH.out]; decide), if_neg (by rw [HWH.out]; decide)])
                have HSP := Lib.hid (sees_ints HOP.out)
                have HFAR := Lib.hid (show 0 < (l.take j).length → ∀ ad, (some ⟨g, 0, none⟩ : Option Addr) = some ad → ad.block ≠ q by
                  intro _ ad e
                  injection e with e
                  rw [← e]
                  have h1 : w1.heap.size ≤ g := (HO2.out.lt g rfl).1
                  have := HS1.out
                  show g ≠ q
                  omega)
                have HFAR := Lib.hid (show 0 < (l.take j ++ []).length → ∀ ad, (some ⟨g, 0, none⟩ : Option Addr) = some ad → ad.block ≠ q by rw [List.append_nil]; exact HFAR.out)
                have HSP := Lib.hid (show Sees w2 (some ⟨g, 0, none⟩) (j + 0) c2 1 (intCells (l.take j ++ [])) by rw [List.append_nil]; exact HSP.out)
                clear x0 x1 x2 x3 x4
                have HLT := Lib.hid (show (l.take j ++ []).length = j by have := HM.out; simp; omega)
                have HST5 := Lib.hid (show Sees w2 (some ⟨g, 0, none⟩) ((l.take j ++ []).length) c2 1 (intCells (l.take j ++ [])) by rw [HLT.out]; exact HSP.out)
                obtain ⟨x0, x1, x2, x3, x4⟩ := box5 ((HB2.out.block _ (by rw [HS1.out]; omega)).trans HX1.out)
                rw [HWH.out] at x0
                by_cases h64 : 64 < j
                · have d64 : decide (64 < j) = true := decide_eq_true h64
                  have d64' : decide (64 < ((j : Nat) : Int)) = true := decide_eq_true (by omega)
                  have d64'' : decide (64 < (j : Int)) = true := decide_eq_true (by omega)
                  have E := Lib.hid (ver_stop HLL.out H12.out HSE.out HRUN.out HX.out (stepP_c HST.out HA.out (actP_long HN.out HL.out HP.out (by simp; omega)) (by decide)) (by decide))
                  clear h64
                  go_wp2_with fail
                  refine bodyPost_ret (results_tmp4 rfl _ _ _) rfl ?_
                  rw [E.out]
                  exact ⟨rfl, below_step HLOW1.out HB2.out⟩
                · have d64 : decide (64 < j) = false := decide_eq_false h64
                  have d64' : decide (64 < ((j : Nat) : Int)) = false := decide_eq_false (by omega)
                  have d64'' : decide (64 < (j : Int)) = false := decide_eq_false (by omega)
                  have AE := Lib.hid (show actP cols x l = (0, l.take j ++ []) from (actP_ok HN.out HL.out HP.out (by simp; omega)))
                  have h64' : j ≤ 64 := by omega
                  clear h64
                  have HSMN := Lib.hid (stepP_small (cols := cols) (len := n) (i := k) (x := x) HSM.out hmo)
                  by_cases hmb : most < j
                  · have dm : decide (most < j) = true := decide_eq_true hmb
                    have dm' : decide ((most : Int) < ((j : Nat) : Int)) = true := decide_eq_true (by omega)
                    have dm'' : decide ((most : Int) < (j : Int)) = true := decide_eq_true (by omega)
                    have HMX := Lib.hid (show max most (l.take j ++ []).length = j by rw [HLT.out]; omega)
                    clear hmb
                    have HRS5 := Lib.hid (HRS1.out.keep HB2.out)
                    have TRa := Lib.hid (sreach_any q q n st (k + 1) c2 (some ⟨g, 0, none⟩) (l.take j ++ []) w2 HRS5.out (by omega) (by omega) HST5.out (by rw [HLT.out]; omega) (by intro h0 ad e; exact HFAR.out h0 ad e))
                    rw [HLT.out] at TRa
                    obtain ⟨ra, hra⟩ : ∃ r, r = reachP st (k + 1) (l.take j ++ []) := ⟨_, rfl⟩
                    rw [← hra] at TRa
                    have HRa := Lib.hid hra
                    clear hra
                    rw [show (((k + 1 : Nat) : Int)) = (k : Int) + 1 by omega] at TRa
                    have STEP := Lib.hid (step_n (most := most) HST.out HA.out AE.out HN4.out HN5.out)
                    rw [← HRa.out, HMX.out] at STEP
                    go_wp2_with fail
                    refine (TRa.out).mono ?_
                    rintro e w8 ⟨rfl, hrs8, hon8⟩
                    have HRS8 := Lib.hid hrs8
                    have HLOW8 := Lib.hid ((below_step HLOW1.out HB2.out).trans (hon8.below (below_step HLOW1.out HB2.out).size (fun k hk => by have hk : k = q := hk; have := HQ.out; omega)))
                    clear hrs8 hon8
                    clear x0 x1 x2 x3 x4
                    by_cases h0 : ra.1 = 0
                    · have D0 : decide (ra.1 = 0) = true := decide_eq_true h0
                      rw [D0]
                      rw [h0] at STEP
                      clear h0 D0
                      have HRUN2 := Lib.hid (ver_next HRUN.out HX.out STEP.out)
                      rw [STEP.out] at HSMN
                      go_wp2_with fail
                      go_roundw
                      case rel => exact ⟨k + 1, ra.2, j, by omega, by go_num, by go_num, HRS8.out, HLOW8.out, HSMN.out.1, HSMN.out.2, HRUN2.out⟩
                      case measure => simp [intOf]; omega
                    · have D0 : decide (ra.1 = 0) = false := decide_eq_false h0
                      rw [D0]
                      have E := Lib.hid (ver_stop HLL.out H12.out HSE.out HRUN.out HX.out (show (stepP cols n k x st most).1 = 3 by rw [STEP.out]; show ra.1 = 3; rw [HRa.out] at h0 ⊢; exact reachP_3 h0) (by decide))
                      clear h0 D0
                      go_wp2_with fail
                      refine bodyPost_ret (results_tmp4 rfl _ _ _) rfl ?_
                      rw [E.out]
                      exact ⟨rfl, HLOW8.out⟩
                  · have dm : decide (most < j) = false := decide_eq_false hmb
                    have dm' : decide ((most : Int) < ((j : Nat) : Int)) = false := decide_eq_false (by omega)
                    have dm'' : decide ((most : Int) < (j : Int)) = false := decide_eq_false (by omega)
                    have HMX := Lib.hid (show max most (l.take j ++ []).length = most by rw [HLT.out]; omega)
                    clear hmb
                    have HRS5 := Lib.hid (HRS1.out.keep HB2.out)
                    have TRa := Lib.hid (sreach_any q q n st (k + 1) c2 (some ⟨g, 0, none⟩) (l.take j ++ []) w2 HRS5.out (by omega) (by omega) HST5.out (by rw [HLT.out]; omega) (by intro h0 ad e; exact HFAR.out h0 ad e))
                    rw [HLT.out] at TRa
                    obtain ⟨ra, hra⟩ : ∃ r, r = reachP st (k + 1) (l.take j ++ []) := ⟨_, rfl⟩
                    rw [← hra] at TRa
                    have HRa := Lib.hid hra
                    clear hra
                    rw [show (((k + 1 : Nat) : Int)) = (k : Int) + 1 by omega] at TRa
                    have STEP := Lib.hid (step_n (most := most) HST.out HA.out AE.out HN4.out HN5.out)
                    rw [← HRa.out, HMX.out] at STEP
                    go_wp2_with fail
                    refine (TRa.out).mono ?_
                    rintro e w8 ⟨rfl, hrs8, hon8⟩
                    have HRS8 := Lib.hid hrs8
                    have HLOW8 := Lib.hid ((below_step HLOW1.out HB2.out).trans (hon8.below (below_step HLOW1.out HB2.out).size (fun k hk => by have hk : k = q := hk; have := HQ.out; omega)))
                    clear hrs8 hon8
                    clear x0 x1 x2 x3 x4
                    by_cases h0 : ra.1 = 0
                    · have D0 : decide (ra.1 = 0) = true := decide_eq_true h0
                      rw [D0]
                      rw [h0] at STEP
                      clear h0 D0
                      have HRUN2 := Lib.hid (ver_next HRUN.out HX.out STEP.out)
                      rw [STEP.out] at HSMN
                      go_wp2_with fail
                      go_roundw
                      case rel => exact ⟨k + 1, ra.2, most, by omega, by go_num, by go_num, HRS8.out, HLOW8.out, HSMN.out.1, HSMN.out.2, HRUN2.out⟩
                      case measure => simp [intOf]; omega
                    · have D0 : decide (ra.1 = 0) = false := decide_eq_false h0
                      rw [D0]
                      have E := Lib.hid (ver_stop HLL.out H12.out HSE.out HRUN.out HX.out (show (stepP cols n k x st most).1 = 3 by rw [STEP.out]; show ra.1 = 3; rw [HRa.out] at h0 ⊢; exact reachP_3 h0) (by decide))
                      clear h0 D0
                      go_wp2_with fail
                      refine bodyPost_ret (results_tmp4 rfl _ _ _) rfl ?_
                      rw [E.out]
                      exact ⟨rfl, HLOW8.out⟩
          have h7 := hwh
          clear hwh
          have HB2 := Lib.hid hb2
          obtain ⟨x0, x1, x2, x3, x4⟩ := box5 ((HB2.out.block _ (by rw [HS1.out]; omega)).trans HX1.out)
          have t1 : (x.what == 1) = false := beq_eq_false_iff_ne.2 h1
          have t2 : (x.what == 2) = false := beq_eq_false_iff_ne.2 h2
          have t3 : (x.what == 3) = false := beq_eq_false_iff_ne.2 h3
          have t4 : (x.what == 4) = false := beq_eq_false_iff_ne.2 h4
          have t5 : (x.what == 5) = false := beq_eq_false_iff_ne.2 h5
          have t6 : (x.what == 6) = false := beq_eq_false_iff_ne.2 h6
          have t7 : (x.what == 7) = false := beq_eq_false_iff_ne.2 h7
          have E := Lib.hid (ver_stop HLL.out H12.out HSE.out HRUN.out HX.out (stepP_a HST.out (show argErr n k cols.length x = 1 by unfold argErr; rw [if_neg h1, if_neg h2, if_neg h3, if_neg (by omega), if_neg (by omega)]) (by decide)) (by decide))
          clear h1 h2 h3 h4 h5 h6 h7
          go_wp2_with fail
          refine bodyPost_ret (results_tmp4 rfl _ _ _) rfl ?_
          rw [E.out]
          exact ⟨rfl, below_step HLOW1.out HB2.out⟩
          -- END ROUND
      · obtain rfl : k = n := by omega
        have RE := Lib.hid (show runP cols k k (code.drop k) st most = (k, 0, st, most) by rw [List.drop_of_length_le (by rw [HLL.out]; exact Nat.le_refl _)]; rfl)
        have RS2 := Lib.hid (HRUN.out.trans RE.out)
        have EV2 := Lib.hid (show verP code cols = (if (endP k st).length ≠ 1 then ⟨k, 3, 0, 0⟩ else ⟨0, 0, (endP k st).headD 0, most⟩) by
          rw [EV.out, RS2.out, if_neg (show ¬ (0 : Int) ≠ 0 by decide)])
        obtain ⟨u0, u1, k0, k1, hu, f0, f1, hqw⟩ := HRS.out.at_ (i := k) (by omega)
        have hq1 : k < k + 1 := by omega
        have hq2 : (k : Int) < (k : Int) + 1 := by omega
        cases hst : st.getD k none with
        | none =>
          rw [hst] at hu
          obtain ⟨rfl, rfl⟩ : u0 = .bool false ∧ u1 = .slice none 0 0 := hu
          have EN := Lib.hid (show (endP k st).length ≠ 1 by unfold endP; rw [hst]; decide)
          clear hst
          go_wp2_with fail
          refine bodyPost_ret (results_tmp4 rfl _ _ _) rfl ?_
          rw [EV2.out, if_pos EN.out]
          exact ⟨rfl, HLOW.out⟩
        | some l =>
          rw [hst] at hu
          obtain ⟨rfl, A', c', rfl, hsA, hfA⟩ := hu
          have EN := Lib.hid (show endP k st = l by unfold endP; rw [hst]; rfl)
          obtain ⟨ml, hml⟩ : ∃ ml, ml = l.length := ⟨_, rfl⟩
          rw [← hml] at k1 hsA
          have HML := Lib.hid hml
          have HSA := Lib.hid hsA
          clear hst hml hsA hfA
          by_cases h1 : ml = 1
          · subst h1
            obtain ⟨t, rfl⟩ : ∃ t, l = [t] := by
              have := HML.out
              match l, this with
              | [t], _ => exact ⟨t, rfl⟩
            obtain ⟨ga, oa, y, rfl, hy, y0⟩ := ints_at HSA.out (show 0 < 1 by decide)
            rw [Nat.add_zero] at y0
            obtain rfl : t = y := Option.some.inj hy
            clear hy
            go_wp2_with fail
            go_quiet (fail)
            go_wp2_with fail
            refine bodyPost_ret (results_tmp4 rfl _ _ _) rfl ?_
            rw [EV2.out, EN.out, if_neg (by simp)]
            exact ⟨rfl, below_drewN HLOW.out _⟩
          · have e1 : ((ml : Int) == 1) = false := beq_eq_false_iff_ne.2 (by omega)
            have e2 : (ml == 1) = false := beq_eq_false_iff_ne.2 h1
            have HN1 := Lib.hid h1
            clear h1
            go_wp2_with fail
            refine bodyPost_ret (results_tmp4 rfl _ _ _) rfl ?_
            rw [EV2.out, EN.out, if_pos (by rw [← HML.out]; exact HN1.out)]
            exact ⟨rfl, HLOW.out⟩
  · have E := Lib.hid (show verP code cols = ⟨0, schemaErr cols, 0, 0⟩ by unfold verP; rw [hl, if_neg h1200, if_pos hse])
    have e1 : (schemaErr cols != 0) = true := by simpa using hse
    generalize schemaErr cols = se at TS E e1
    clear hC hK hs hse
    go_enter Tryz.func7, Tryz.ntmps7
    go_wp2_with fail
    refine (TS.out).mono ?_
    rintro e w0 ⟨rfl, rfl⟩
    go_wp2_with fail
    refine bodyPost_ret (results_tmp4 rfl _ _ _) rfl ?_
    rw [E.out]
    exact ⟨rfl, Below.refl _ _⟩
end Go.Proofs.YthmbafkedgahaaaGreatDoor
