/- (*checker).act: as it finds and leaves things. -/
import Derived.Test.YteoheaahlokdiaaDoorVeActW
namespace Go.Proofs.YteoheaahlokdiaaDoor
open Go.ChangeShapes Go.WideShapes Go.ChangeAt Go.RowKit

/-- As an action finds it: m on the stack. -/
structure ActPre (w : World) (H p b g m c : Nat) (CV KV AV : Value) (most : Nat) (l : List Int) : Prop where
  pb : w.heap[p]? = some (.cells #[CV, KV, AV, .int .i64 most] 106 (0, 0))
  bb : w.heap[b]? = some (.cells #[.slice (some ⟨g, 0, none⟩) m c] 103 (0, 0))
  own : w.ownsRow H 3 1 (.slice (some ⟨g, 0, none⟩) m c) m (intCells l)
  bg : b ≠ g
  lo : p < H
  hb : H ≤ b
theorem ActPre.start {w : World} {H p b g m c : Nat} {CV KV AV : Value} {most : Nat} {l : List Int} (h : ActPre w H p b g m c CV KV AV most l) (x : Ins) : ActW (w.alloc (.cells #[.int .i64 x.what, .int .i64 x.arg, .int .i64 x.val.type, .int .i64 x.val.n, .string x.val.s] 55)) H p b w.heap.size g m c CV KV AV most x l := by
  have hb : Below w.heap.size w (w.alloc (.cells #[.int .i64 x.what, .int .i64 x.arg, .int .i64 x.val.type, .int .i64 x.val.n, .string x.val.s] 55)) := (Below.refl _ _).alloc (Nat.le_refl _) _
  have hgl := (h.own.lt g rfl).2
  have hbl := box_lt h.bb
  exact ⟨(hb.block p (box_lt h.pb)).trans h.pb, (hb.block b hbl).trans h.bb, heap_alloc_new w _, own_keep h.own hb, h.bg, by omega, by omega, h.lo, h.hb, by have := h.hb; omega⟩
theorem sees_ints {w : World} {B e g m c : Nat} {l : List Int} (h : w.ownsRow B e 1 (.slice (some ⟨g, 0, none⟩) m c) m (intCells l)) : Sees w (some ⟨g, 0, none⟩) m c 1 (intCells l) := by
  obtain ⟨A, c2, e, hs⟩ := Sees.of_own h
  injection e with e1 e2 e3
  subst e1 e3
  exact hs
theorem ActSays.ok {w wt w' : World} {H p b xb g j c : Nat} {CV KV AV : Value} {most : Nat} {x : Ins} {lt : List Int} {r : Int × List Int} {e : Ending} (h : ActW wt H p b xb g j c CV KV AV most x lt) (hy : Only (fun k => k = p ∨ H ≤ k) w wt) (E : r = (0, lt)) (he : e = .returned .nilIface)
    (hw' : ∃ q, w' = (wt.setCell ⟨p, 3, none⟩ (.int .i64 (max (most : Int) (j : Int)))).drewN q) : ActSays H p b CV KV AV most r w e w' := by
  obtain ⟨q, rfl⟩ := hw'
  subst E
  have hl := h.len
  have em : max (most : Int) (j : Int) = ((max most j : Nat) : Int) := by omega
  rw [em]
  obtain ⟨d1, d2, d3⟩ := h.done (max most j)
  refine ⟨he, (hy.setCell (p := ⟨p, 3, none⟩) (Or.inl rfl) _).drewN q, fun _ => ⟨g, c, h.bg, ?_, ?_, ?_⟩⟩
  · show _ = some (Obj.cells #[.slice (some ⟨g, 0, none⟩) lt.length c] 103 (0, 0))
    rw [hl]; exact d1
  · show World.ownsRow _ H 3 1 (.slice (some ⟨g, 0, none⟩) lt.length c) lt.length (intCells lt)
    rw [hl]; exact d2
  · show _ = some (Obj.cells #[CV, KV, AV, .int .i64 (max most lt.length : Nat)] 106 (0, 0))
    rw [hl]; exact d3
theorem ActSays.bad {w wt : World} {H p b : Nat} {CV KV AV : Value} {most : Nat} {r : Int × List Int} {e : Ending} {k : Int} {lt : List Int} (hy : Only (fun k => k = p ∨ H ≤ k) w wt) (E : r = (k, lt)) (he : e = .returned (errV k)) (hk : k ≠ 0) : ActSays H p b CV KV AV most r w e wt := by
  subst E
  exact ⟨he, hy, fun h => absurd h hk⟩
theorem intCells_app (l : List Int) (a : Int) : intCells l ++ (#[Value.int .i64 a] : Array Value).toList = intCells (l ++ [a]) := by simp [intCells]
theorem intCells_app2 (l : List Int) (a b : Int) : intCells l ++ (#[Value.int .i64 a, Value.int .i64 b] : Array Value).toList = intCells (l ++ [a, b]) := by simp [intCells]

end Go.Proofs.YteoheaahlokdiaaDoor
