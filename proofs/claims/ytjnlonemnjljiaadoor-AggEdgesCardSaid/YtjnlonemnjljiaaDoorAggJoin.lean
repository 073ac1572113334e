/- (*Acc).Join, walked, of two of the same kinds. -/
import Derived.Test.YtjnlonemnjljiaaDoorAggPut
import Derived.Test.YtjnlonemnjljiaaDoorAggSame
namespace Go.Proofs.YtjnlonemnjljiaaDoor
open Go.ChangeShapes Go.WideShapes Go.ChangeAt Go.RowKit

theorem two_keep {W w' : World} {p r : Nat} {v0 v1 u0 u1 : Value} (hb : Below W.heap.size W w') (hp : p < W.heap.size) (hr : r < W.heap.size)
    (h : (W.cell? ⟨p, 0, none⟩ = some v0 ∧ W.cell? ⟨p, 1, none⟩ = some v1) ∧ W.cell? ⟨r, 0, none⟩ = some u0 ∧ W.cell? ⟨r, 1, none⟩ = some u1) :
    (w'.cell? ⟨p, 0, none⟩ = some v0 ∧ w'.cell? ⟨p, 1, none⟩ = some v1) ∧ w'.cell? ⟨r, 0, none⟩ = some u0 ∧ w'.cell? ⟨r, 1, none⟩ = some u1 :=
  ⟨⟨(hb.cell hp).trans h.1.1, (hb.cell hp).trans h.1.2⟩, (hb.cell hr).trans h.2.1, (hb.cell hr).trans h.2.2⟩
theorem belowDrew (w : World) : Below w.heap.size w w.drew := ⟨rfl, rfl, rfl, Nat.le_refl _, fun _ _ => rfl⟩
theorem AccAt.drew {w : World} {B p c n : Nat} {A : Option Addr} {l : List One} (h : AccAt w B p A c l n) : AccAt w.drew B p A c l n := h.keep (belowDrew w)
def JoinSays (B p c n k : Nat) (A : Option Addr) (l m : List One) (w : World) (e : Ending) (w' : World) : Prop :=
  e = .returned .nilIface ∧ Only (foot p A l.length c) w w' ∧ AccAt w' B p A c (if k = 0 then l else joinOnes l m (n == 0)) (n + k)
end Go.Proofs.YtjnlonemnjljiaaDoor
