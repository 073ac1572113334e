/- The checker of code, as it lies: its block p, the states' block q; (*checker).reach, walked. -/
import Derived.Test.YteoheaahlokdiaaDoorVeMem
import Derived.Deep.RegionLaw
import Derived.Deep.CutRange
namespace Go.Proofs.YteoheaahlokdiaaDoor
open Go.ChangeShapes Go.WideShapes Go.ChangeAt Go.RowKit

/-- A state in its cell. -/
def StV (p q : Nat) (w : World) (u : Value) : Option (List Int) → Prop
  | none => u = .slice none 0 0
  | some l => ∃ ad c, u = .slice (some ad) l.length c ∧ Sees w (some ad) l.length c 1 (intCells l) ∧ (0 < l.length → ad.block ≠ p ∧ ad.block ≠ q)
structure CkAt (w : World) (B p q : Nat) (C : Option Addr) (n cc : Nat) (K : Option Addr) (nk ck : Nat) (st : Sts) (most : Nat) : Prop where
  box : w.heap[p]? = some (.cells #[.slice C n cc, .slice K nk ck, .slice (some ⟨q, 0, none⟩) (n + 1) (n + 1), .int .i64 most] 106 (0, 0))
  row : ∃ us : Array Value, w.heap[q]? = some (.cells us 103 (0, 0)) ∧ us.size = n + 1 ∧ ∀ (k : Nat) (o : Option (List Int)), st[k]? = some o → ∃ u, us[k]? = some u ∧ StV p q w u o
  len : st.length = n + 1
  low : B ≤ p ∧ B ≤ q
  off : p ≠ q
theorem box4 {w : World} {b : Nat} {x y z t : Value} {T : TypeId} (h : w.heap[b]? = some (.cells #[x, y, z, t] T (0, 0))) : w.cell? ⟨b, 0, none⟩ = some x ∧ w.cell? ⟨b, 1, none⟩ = some y ∧ w.cell? ⟨b, 2, none⟩ = some z ∧ w.cell? ⟨b, 3, none⟩ = some t := by
  refine ⟨?_, ?_, ?_, ?_⟩ <;> (rw [cell_of_row _ _ _ _ _ _ h]; rfl)
theorem box5 {w : World} {b : Nat} {x y z t u : Value} {T : TypeId} (h : w.heap[b]? = some (.cells #[x, y, z, t, u] T (0, 0))) : w.cell? ⟨b, 0, none⟩ = some x ∧ w.cell? ⟨b, 1, none⟩ = some y ∧ w.cell? ⟨b, 2, none⟩ = some z ∧ w.cell? ⟨b, 3, none⟩ = some t ∧ w.cell? ⟨b, 4, none⟩ = some u := by
  refine ⟨?_, ?_, ?_, ?_, ?_⟩ <;> (rw [cell_of_row _ _ _ _ _ _ h]; rfl)
theorem box_lt {w : World} {b : Nat} {o : Obj} (h : w.heap[b]? = some o) : b < w.heap.size := (Array.getElem?_eq_some_iff.1 h).1
section
variable {w w' : World} {B p q : Nat} {C : Option Addr} {n cc : Nat} {K : Option Addr} {nk ck : Nat} {st : Sts} {most : Nat}
theorem StV.only {S : Nat → Prop} {u : Value} {o : Option (List Int)} (h : StV p q w u o) (hy : Only S w w') (hS : ∀ k, S k → k < w.heap.size → k = p ∨ k = q) : StV p q w' u o := by
  cases o with
  | none => exact h
  | some l =>
    obtain ⟨ad, c, e, hs, hf⟩ := h
    refine ⟨ad, c, e, hy.sees_far hs (fun h0 ad' e' hS' => ?_), hf⟩
    injection e' with e'
    subst e'
    obtain ⟨g, o, e2, hg, -⟩ := hs.2.2.2.2 h0
    injection e2 with e2
    subst e2
    rcases hS _ hS' hg with h1 | h1
    · exact (hf h0).1 h1
    · exact (hf h0).2 h1
theorem CkAt.keep (h : CkAt w B p q C n cc K nk ck st most) (hb : Below w.heap.size w w') : CkAt w' B p q C n cc K nk ck st most := by
  obtain ⟨us, h1, h2, h3⟩ := h.row
  refine ⟨(hb.block p (box_lt h.box)).trans h.box, ⟨us, (hb.block q (box_lt h1)).trans h1, h2, fun k o ho => ?_⟩, h.len, h.low, h.off⟩
  obtain ⟨u, hu, hs⟩ := h3 k o ho
  exact ⟨u, hu, hs.only (Only.of_below (S := fun _ => False) hb) (fun _ h _ => h.elim)⟩
/-- What a step's action leaves. -/
theorem CkAt.acted {m' : Nat} (h : CkAt w B p q C n cc K nk ck st most) (hy : Only (fun k => k = p ∨ w.heap.size ≤ k) w w')
    (hb : w'.heap[p]? = some (.cells #[.slice C n cc, .slice K nk ck, .slice (some ⟨q, 0, none⟩) (n + 1) (n + 1), .int .i64 m'] 106 (0, 0))) : CkAt w' B p q C n cc K nk ck st m' := by
  obtain ⟨us, h1, h2, h3⟩ := h.row
  have hq := box_lt h1
  refine ⟨hb, ⟨us, (hy.block q hq (fun e => e.elim (fun e => h.off e.symm) (fun e => by omega))).trans h1, h2, fun k o ho => ?_⟩, h.len, h.low, h.off⟩
  obtain ⟨u, hu, hs⟩ := h3 k o ho
  exact ⟨u, hu, hs.only hy (fun k hk hl => hk.elim Or.inl (fun e => by omega))⟩
theorem CkAt.stored {u : Value} {l : List Int} {i : Nat} (h : CkAt w B p q C n cc K nk ck st most) (hi : i ≤ n) (hu : StV p q w u (some l)) : CkAt (w.setCell ⟨q, i, none⟩ u) B p q C n cc K nk ck (st.set i (some l)) most := by
  obtain ⟨us, h1, h2, h3⟩ := h.row
  have hy : Only (fun k => k = q) w (w.setCell ⟨q, i, none⟩ u) := (Only.refl (fun k => k = q) w).setCell (p := ⟨q, i, none⟩) rfl u
  refine ⟨(hy.block p (box_lt h.box) h.off).trans h.box, ⟨_, box_set u h1, by simpa using h2, fun k o ho => ?_⟩, by rw [List.length_set]; exact h.len, h.low, h.off⟩
  rw [List.getElem?_set] at ho
  by_cases hk : i = k
  · subst hk
    rw [if_pos rfl] at ho
    have hlt : i < st.length := by rw [h.len]; omega
    rw [if_pos hlt] at ho
    injection ho with ho
    subst ho
    exact ⟨u, by rw [Array.getElem?_setIfInBounds_self]; rw [if_pos (by omega)], hu.only hy (fun k hk _ => Or.inr hk)⟩
  · rw [if_neg hk] at ho
    obtain ⟨v, hv, hs⟩ := h3 k o ho
    exact ⟨v, by rw [Array.getElem?_setIfInBounds_ne hk]; exact hv, hs.only hy (fun k hk _ => Or.inr hk)⟩
theorem CkAt.at_ (h : CkAt w B p q C n cc K nk ck st most) {i : Nat} (hi : i ≤ n) : ∃ u, w.cell? ⟨q, i, none⟩ = some u ∧ StV p q w u (st.getD i none) ∧ w.frozen? ⟨q, i, none⟩ = false := by
  obtain ⟨us, h1, h2, h3⟩ := h.row
  have hlt : i < st.length := by rw [h.len]; omega
  obtain ⟨u, hu, hs⟩ := h3 i _ (List.getElem?_eq_getElem hlt)
  refine ⟨u, by rw [cell_of_row _ _ _ _ _ _ h1]; exact hu, ?_, box_free h1⟩
  rw [List.getD_eq_getElem?_getD, List.getElem?_eq_getElem hlt]
  exact hs
end
def ReachSays (B p q : Nat) (C : Option Addr) (n cc : Nat) (K : Option Addr) (nk ck : Nat) (r : Int × Sts) (most : Nat) (w : World) (e : Ending) (w' : World) : Prop :=
  e = .returned (errV r.1) ∧ CkAt w' B p q C n cc K nk ck r.2 most ∧ Only (· = q) w w'
set_option maxHeartbeats 4000000 in
set_option maxRecDepth 100000 in
theorem reach_any (B p q : Nat) (C : Option Addr) (n cc : Nat) (K : Option Addr) (nk ck : Nat) (st : Sts) (most i c : Nat) (ad : Addr) (l : List Int) (w : World) (h : CkAt w B p q C n cc K nk ck st most) (hi : i ≤ n) (_hn : n ≤ 100000)
    (hs : Sees w (some ad) l.length c 1 (intCells l)) (hl : l.length ≤ 100000) (hfar : 0 < l.length → ad.block ≠ p ∧ ad.block ≠ q) :
    Calls Tryd.prog 123 #[.pointer (some ⟨p, 0, none⟩), .int .i64 i, .slice (some ad) l.length c] w (ReachSays B p q C n cc K nk ck (reachP st i l) most w) := by
  have qn := fun (w : World) (a : Option Addr) (n c n' c' : Nat) => Lib.run_eql_slice_nil (P := Tryd.prog) w 103 _ a n c n' c' Tryd.underlying103
  obtain ⟨-, -, k2, -⟩ := box4 h.box
  obtain ⟨u, ku, hu, fu⟩ := h.at_ hi
  have H := Lib.hid h
  have HS := Lib.hid hs
  have HF := Lib.hid hfar
  have hp := box_lt h.box
  have hq : q < w.heap.size := World.block_lt_of_cell? w _ ku
  have hi1 : i < n + 1 := by omega
  have hi2 : (i : Int) < (n : Int) + 1 := by omega
  unfold reachP
  cases hg : st.getD i none with
  | none =>
    rw [hg] at hu
    have hu : u = .slice none 0 0 := hu
    subst hu
    have T := Lib.hid (fun (w' : World) (hb : Below w.heap.size w w') => cloneSt ad l.length c l w' (hs.keep hb) (by omega))
    have BD := Lib.hid (show Below w.heap.size w w.drew from (Below.refl _ _).drew)
    obtain ⟨m, hm⟩ : ∃ m, m = l.length := ⟨_, rfl⟩
    rw [← hm] at T ⊢
    have HM := Lib.hid hm
    clear h hs hfar hg fu hm
    go_enter Tryd.func123, Tryd.ntmps123
    go_wp2_with fail
    have M := Lib.hid (fun (w3 : World) (hb : Below w.heap.size w w3) (g c' : Nat) (hown : w3.ownsRow w.heap.size 3 1 (.slice (some ⟨g, 0, none⟩) m c') m (intCells l)) => show (w3.cell? ⟨p, 2, none⟩ = some (.slice (some ⟨q, 0, none⟩) (n + 1) (n + 1)) ∧ w3.cell? ⟨q, i, none⟩ = some (.slice none 0 0) ∧ w3.frozen? ⟨q, i, none⟩ = false) ∧ ∃ w4, w3.setCell ⟨q, i, none⟩ (.slice (some ⟨g, 0, none⟩) m c') = w4 ∧ CkAt w4 B p q C n cc K nk ck (st.set i (some l)) most ∧ Only (· = q) w w4 ∧ w4.cell? ⟨p, 2, none⟩ = some (.slice (some ⟨q, 0, none⟩) (n + 1) (n + 1)) ∧ w4.cell? ⟨q, i, none⟩ = some (.slice (some ⟨g, 0, none⟩) m c') from by
      have h3 := H.out.keep hb
      have hst : StV p q w3 (.slice (some ⟨g, 0, none⟩) m c') (some l) := by
        obtain ⟨A, c2, e, hs⟩ := Sees.of_own hown
        injection e with e1 e2 e3
        subst e1 e3
        obtain rfl := HM.out
        refine ⟨_, _, rfl, hs, fun _ => ?_⟩
        have := (hown.lt g rfl).1
        exact ⟨fun e => by have e : g = p := e; omega, fun e => by have e : g = q := e; omega⟩
      have h4 := h3.stored (i := i) (by omega) hst
      refine ⟨⟨(box4 h3.box).2.2.1, (hb.cell (p := ⟨q, i, none⟩) (by assumption)).trans ku, ?_⟩, _, rfl, h4, ?_, (box4 h4.box).2.2.1, ?_⟩
      · obtain ⟨u, _, _, hf⟩ := h3.at_ (i := i) (by omega)
        exact hf
      · exact (Only.of_below hb).setCell (S := (· = q)) (p := ⟨q, i, none⟩) rfl _
      · obtain ⟨us, g1, g2, -⟩ := h3.row
        rw [cell_of_row _ _ _ _ _ _ (box_set (i := i) (.slice (some ⟨g, 0, none⟩) m c') g1), Array.getElem?_setIfInBounds_self, if_pos (by omega)])
    clear hu
    go_region_law (go_simp; go_at_call 121; refine (T.out _ BD.out).mono ?_; rintro e w3 ⟨⟨g, c', rfl, hown⟩, hb3⟩; obtain ⟨⟨q2, q3, q4⟩, w4, hw4, hck, hon, r2, r3⟩ := M.out w3 (BD.out.trans hb3) g c' hown; have HW4 := Lib.hid hw4; have HCK := Lib.hid hck; have HON := Lib.hid hon; have R2 := Lib.hid r2; have R3 := Lib.hid r3; clear hb3 hw4 hck hon hown r2 r3)
    all_goals
      rw [HW4.out]
      have r2 := R2.out
      have r3 := R3.out
      clear q2 q3 q4
      go_wp2_with fail
      go_ret
      exact ⟨rfl, HCK.out, HON.out⟩
  | some m =>
    rw [hg] at hu
    obtain ⟨ad2, c2, rfl, hs2, -⟩ := hu
    have T := Lib.hid (equalSt (some ad2) (some ad) m.length c2 l.length c m l w hs2 hs)
    obtain ⟨k1, hk1⟩ : ∃ k1, k1 = l.length := ⟨_, rfl⟩
    obtain ⟨k3, hk3⟩ : ∃ k3, k3 = m.length := ⟨_, rfl⟩
    rw [← hk1, ← hk3] at T
    rw [← hk1]
    rw [← hk3] at ku
    dsimp only
    obtain ⟨rk, hrk⟩ : ∃ rk : Int, rk = (if m = l then 0 else 3) := ⟨_, rfl⟩
    rw [← hrk]
    have HRK := Lib.hid hrk
    clear h hs hfar hg fu hs2 hk1 hk3 hrk
    go_enter Tryd.func123, Tryd.ntmps123
    go_wp2_with fail
    refine (T.out).mono ?_
    rintro e w1 ⟨rfl, hb⟩
    have HB := Lib.hid hb
    clear hb
    by_cases hml : m = l
    · obtain rfl : rk = 0 := HRK.out.trans (if_pos hml)
      rw [decide_eq_true hml]
      clear hml
      go_wp2_with fail
      go_ret
      exact ⟨rfl, H.out.keep HB.out, Only.of_below HB.out⟩
    · obtain rfl : rk = 3 := HRK.out.trans (if_neg hml)
      rw [decide_eq_false hml]
      clear hml
      go_wp2_with fail
      go_ret
      exact ⟨rfl, H.out.keep HB.out, Only.of_below HB.out⟩
end Go.Proofs.YteoheaahlokdiaaDoor
