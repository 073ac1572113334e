/- plain.Told and sluicesame.Error, walked: an Errno that is no OK is told; nil is OK. -/
import Derived.Test.YtjnlonemnjljiaaDoorAs
import Derived.Test.YtjnlonemnjljiaaDoorWords
namespace Go.Proofs.YtjnlonemnjljiaaDoor
open Go.RowKit

/-- What errors.errorType holds. -/
def ErrT (w : World) : Prop := w.cell? ⟨0, 0, none⟩ = some (.iface 176 (.agg #[.pointer (some ⟨4, 25, none⟩)]))
theorem ErrT.keep {w w' : World} (h : ErrT w) (hb : Below w.heap.size w w') : ErrT w' :=
  (hb.cell (p := ⟨0, 0, none⟩) (World.block_lt_of_cell? w _ h)).trans h
/-- An error that is nil, or an Errno that is not OK. -/
def ErrIs (v : Value) (k : Int) : Prop := (v = .nilIface ∧ k = 0) ∨ (v = .iface 78 (.int .i64 k) ∧ k ≠ 0)

set_option maxHeartbeats 1000000 in
theorem told_any (v : Value) (k : Int) (w : World) (hg : ErrT w) (hv : ErrIs v k) :
    Calls Tryd.prog 32 #[v] w fun e w' => e = .returned (.int .i64 k) ∧ Below w.heap.size w w' := by
  rcases hv with ⟨rfl, rfl⟩ | ⟨rfl, hk⟩
  · go_enter Tryd.func32, Tryd.ntmps32
    go_wp2_with fail
    go_ret
    exact ⟨rfl, Below.refl _ _⟩
  · have hb0 : Below w.heap.size w (w.alloc (.cells #[.int .i64 0] 78)) := (Below.refl _ _).alloc (Nat.le_refl _) _
    have HG := Lib.hid (hg.keep hb0)
    clear hg hk
    go_enter Tryd.func32, Tryd.ntmps32
    go_wp2_with fail
    refine (as_hit ⟨w.heap.size, 0, none⟩ k (.int .i64 0) _ HG.out (by simp) (by simp)).mono ?_
    rintro e w1 ⟨rfl, rfl⟩
    go_wp2_with fail
    go_ret
    exact ⟨rfl, ((((((Below.refl _ _).alloc (Nat.le_refl _) _).alloc (by simp) _).alloc (by simp; omega) _).alloc (by simp; omega) _).alloc (by simp; omega) _)⟩

theorem same_err (v : Value) (k e : Int) (w : World) (hg : ErrT w) (hv : ErrIs v k) :
    Calls Tryd.prog 11 #[v, .int .i64 e] w fun ev w' => ev = .returned (.bool (k == e)) ∧ Below w.heap.size w w' := by
  have HG := Lib.hid hg
  have HV := Lib.hid hv
  clear hg hv
  go_enter Tryd.func11, Tryd.ntmps11
  go_wp2_with (first | (go_at_call 32; refine (told_any _ k _ HG.out HV.out).mono ?_; rintro e w' ⟨rfl, hb⟩))
  go_ret
  exact ⟨rfl, hb⟩
end Go.Proofs.YtjnlonemnjljiaaDoor
