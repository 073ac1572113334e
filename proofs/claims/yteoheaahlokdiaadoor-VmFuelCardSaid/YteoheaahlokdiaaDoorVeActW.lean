/- Memory while an instruction acts on a state: the checker's block p, the state's block b, the instruction's block xb, the row g of what lies on the stack. -/
import Derived.Test.YteoheaahlokdiaaDoorVeArg
namespace Go.Proofs.YteoheaahlokdiaaDoor
open Go.ChangeShapes Go.WideShapes Go.ChangeAt Go.RowKit

structure ActW (w : World) (H p b xb g j c : Nat) (CV KV AV : Value) (most : Nat) (x : Ins) (l : List Int) : Prop where
  pb : w.heap[p]? = some (.cells #[CV, KV, AV, .int .i64 most] 106 (0, 0))
  bb : w.heap[b]? = some (.cells #[.slice (some ⟨g, 0, none⟩) j c] 103 (0, 0))
  xx : w.heap[xb]? = some (.cells #[.int .i64 x.what, .int .i64 x.arg, .int .i64 x.val.type, .int .i64 x.val.n, .string x.val.s] 55 (0, 0))
  own : w.ownsRow H 3 1 (.slice (some ⟨g, 0, none⟩) j c) j (intCells l)
  bg : b ≠ g
  xg : xb ≠ g
  bx : b ≠ xb
  lo : p < H
  hb : H ≤ b
  hx : H ≤ xb
theorem own_prefix {w : World} {B e g j k c : Nat} {l : List Int} (h : w.ownsRow B e 1 (.slice (some ⟨g, 0, none⟩) (j + k) c) (j + k) (intCells l)) : w.ownsRow B e 1 (.slice (some ⟨g, 0, none⟩) j c) j (intCells (l.take j)) := by
  have hl := h.1
  have hll : l.length = j + k := by simpa [intCells] using hl
  refine ⟨by simp [intCells]; omega, ?_⟩
  rcases h.2 with ⟨e, _⟩ | ⟨q, cap, cur, e, h1, h2, h3, h4, h5, h6⟩
  · cases e
  · injection e with e1 e2 e3
    injection e1 with e1
    injection e1 with e1
    subst e1 e3
    refine Or.inr ⟨g, c, cur, rfl, h1, h2, by omega, h4, h5, ?_⟩
    rw [Nat.mul_one] at h6 ⊢
    have : cur.toList.take j = (cur.toList.take (j + k)).take j := by rw [List.take_take, Nat.min_eq_left (by omega)]
    rw [this, h6]
    unfold intCells
    rw [List.map_take]
section
variable {w w' : World} {H p b xb g j c : Nat} {CV KV AV : Value} {most : Nat} {x : Ins} {l : List Int}
theorem ActW.len (h : ActW w H p b xb g j c CV KV AV most x l) : l.length = j := by simpa [intCells] using h.own.1
theorem ActW.keep (h : ActW w H p b xb g j c CV KV AV most x l) (hb : Below w.heap.size w w') : ActW w' H p b xb g j c CV KV AV most x l :=
  ⟨(hb.block p (box_lt h.pb)).trans h.pb, (hb.block b (box_lt h.bb)).trans h.bb, (hb.block xb (box_lt h.xx)).trans h.xx, own_keep h.own hb, h.bg, h.xg, h.bx, h.lo, h.hb, h.hx⟩
theorem ActW.took {k : Nat} (h : ActW w H p b xb g (j + k) c CV KV AV most x l) : ActW (w.setCell ⟨b, 0, none⟩ (.slice (some ⟨g, 0, none⟩) j c)) H p b xb g j c CV KV AV most x (l.take j) := by
  have hy : Only (fun k => k = b) w (w.setCell ⟨b, 0, none⟩ (.slice (some ⟨g, 0, none⟩) j c)) := (Only.refl (fun k => k = b) w).setCell (p := ⟨b, 0, none⟩) rfl _
  have hpb : p ≠ b := fun e => by have := h.lo; have := h.hb; omega
  refine ⟨(hy.block p (box_lt h.pb) hpb).trans h.pb, ?_, (hy.block xb (box_lt h.xx) (fun e => h.bx e.symm)).trans h.xx, own_other (own_prefix h.own) (fun e => ?_), h.bg, h.xg, h.bx, h.lo, h.hb, h.hx⟩
  · rw [box_set (i := 0) _ h.bb]; rfl
  · injection e with e; exact h.bg e.symm
theorem ActW.put {w2 : World} {g' j' c' : Nat} {l' : List Int} (h : ActW w H p b xb g j c CV KV AV most x l) (hg : w.grownBy w2 (some g)) (hown : w2.ownsRow H 3 1 (.slice (some ⟨g', 0, none⟩) j' c') j' (intCells l')) (hat : g = g' ∨ w.heap.size ≤ g') :
    ActW (w2.setCell ⟨b, 0, none⟩ (.slice (some ⟨g', 0, none⟩) j' c')) H p b xb g' j' c' CV KV AV most x l' ∧ (∃ u, w2.cell? ⟨b, 0, none⟩ = some u) ∧ w2.frozen? ⟨b, 0, none⟩ = false ∧ Only (fun k => H ≤ k) w (w2.setCell ⟨b, 0, none⟩ (.slice (some ⟨g', 0, none⟩) j' c')) := by
  have hpb : p ≠ b := fun e => by have := h.lo; have := h.hb; omega
  have hgH : H ≤ g := (h.own.lt g rfl).1
  have hpg : p ≠ g := fun e => by have := h.lo; omega
  have hyg : Only (fun k => k = g) w w2 := Only.of_grown hg (fun k hk => by injection hk)
  have hy : Only (fun k => k = b) w2 (w2.setCell ⟨b, 0, none⟩ (.slice (some ⟨g', 0, none⟩) j' c')) := (Only.refl (fun k => k = b) w2).setCell (p := ⟨b, 0, none⟩) rfl _
  have b2 := (hyg.block b (box_lt h.bb) h.bg).trans h.bb
  have p2 := (hyg.block p (box_lt h.pb) hpg).trans h.pb
  have x2 := (hyg.block xb (box_lt h.xx) h.xg).trans h.xx
  have bl := box_lt h.bb
  have xl := box_lt h.xx
  have hbg' : b ≠ g' := fun e => hat.elim (fun h1 => h.bg (by omega)) (fun h1 => by omega)
  have hxg' : xb ≠ g' := fun e => hat.elim (fun h1 => h.xg (by omega)) (fun h1 => by omega)
  refine ⟨⟨(hy.block p (box_lt p2) hpb).trans p2, ?_, (hy.block xb (box_lt x2) (fun e => h.bx e.symm)).trans x2, own_other hown (fun e => ?_), hbg', hxg', h.bx, h.lo, h.hb, h.hx⟩, ⟨_, box1 b2⟩, box_free b2, ?_⟩
  · rw [box_set (i := 0) _ b2]; rfl
  · injection e with e; exact hbg' e.symm
  · exact (hyg.mono (fun k hk => by rw [hk]; exact hgH)).trans (hy.mono (fun k hk => by rw [hk]; exact h.hb))
theorem ActW.cells (h : ActW w H p b xb g j c CV KV AV most x l) :
    (w.cell? ⟨b, 0, none⟩ = some (.slice (some ⟨g, 0, none⟩) j c) ∧ w.frozen? ⟨b, 0, none⟩ = false) ∧ (w.cell? ⟨p, 1, none⟩ = some KV ∧ w.cell? ⟨p, 3, none⟩ = some (.int .i64 most) ∧ w.frozen? ⟨p, 3, none⟩ = false) ∧
    (w.cell? ⟨xb, 0, none⟩ = some (.int .i64 x.what) ∧ w.cell? ⟨xb, 1, none⟩ = some (.int .i64 x.arg) ∧ w.cell? ⟨xb, 2, none⟩ = some (.int .i64 x.val.type)) := by
  obtain ⟨-, k1, -, k3⟩ := box4 h.pb
  obtain ⟨x0, x1, x2, -, -⟩ := box5 h.xx
  exact ⟨⟨box1 h.bb, box_free h.bb⟩, ⟨k1, k3, box_free h.pb⟩, x0, x1, x2⟩
theorem ActW.done (h : ActW w H p b xb g j c CV KV AV most x l) (m : Nat) :
    (w.setCell ⟨p, 3, none⟩ (.int .i64 m)).heap[b]? = some (.cells #[.slice (some ⟨g, 0, none⟩) j c] 103 (0, 0)) ∧ (w.setCell ⟨p, 3, none⟩ (.int .i64 m)).ownsRow H 3 1 (.slice (some ⟨g, 0, none⟩) j c) j (intCells l) ∧
      (w.setCell ⟨p, 3, none⟩ (.int .i64 m)).heap[p]? = some (.cells #[CV, KV, AV, .int .i64 m] 106 (0, 0)) := by
  have hpb : b ≠ p := fun e => by have := h.lo; have := h.hb; omega
  have hgH : H ≤ g := (h.own.lt g rfl).1
  have hy : Only (fun k => k = p) w (w.setCell ⟨p, 3, none⟩ (.int .i64 m)) := (Only.refl (fun k => k = p) w).setCell (p := ⟨p, 3, none⟩) rfl _
  refine ⟨(hy.block b (box_lt h.bb) hpb).trans h.bb, own_other h.own (fun e => ?_), ?_⟩
  · injection e with e; have := h.lo; have e : g = p := e; omega
  · rw [box_set (i := 3) _ h.pb]; rfl
end
/-- What acting leaves. -/
def ActSays (H p b : Nat) (CV KV AV : Value) (most : Nat) (r : Int × List Int) (w : World) (e : Ending) (w' : World) : Prop :=
  e = .returned (errV r.1) ∧ Only (fun k => k = p ∨ H ≤ k) w w' ∧ (r.1 = 0 → ∃ g c, b ≠ g ∧ w'.heap[b]? = some (.cells #[.slice (some ⟨g, 0, none⟩) r.2.length c] 103 (0, 0)) ∧ w'.ownsRow H 3 1 (.slice (some ⟨g, 0, none⟩) r.2.length c) r.2.length (intCells r.2) ∧
    w'.heap[p]? = some (.cells #[CV, KV, AV, .int .i64 (max most r.2.length : Nat)] 106 (0, 0)))
end Go.Proofs.YteoheaahlokdiaaDoor
