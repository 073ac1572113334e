/- agg.of, agg.Total.plus, agg.Total.value, walked: numbers of 128 bits. agg.One: how one aggregate lies; (One).sort, (*Acc).Count's kind of cell: walked. Memory of an accumulator: what only some blocks may change; the row of its aggregates; sums and edges stored in it. Aggregates, plain: what adding a row, joining, telling come to. No program in sight. sluiceref1.Order, walked, of two values that are right and of one type; sluicesame.Vals over two lists that are the same. Values are in one order, plain. -/
import Derived.Test.YtpbbkpfaphjdoabGreatDoorSErr
import Derived.Test.YtpbbkpfaphjdoabGreatDoorSWords
import Derived.IntWalk
import Derived.Laws.Externs
import Derived.StillTailTactics
import Derived.Deep.QuietTactic
import Derived.BigQuiet
import Derived.Deep.RegionHeld3
import Derived.Test.YtpbbkpfaphjdoabGreatDoorSVals
import Derived.Test.YtpbbkpfaphjdoabGreatDoorSOnly
namespace Go.Proofs.YtpbbkpfaphjdoabGreatDoor
open Go.ChangeShapes Go.WideShapes Go.ChangeAt Go.RowKit
def fits64 (t : Int) : Prop := -9223372036854775808 ≤ t ∧ t ≤ 9223372036854775807
instance (t : Int) : Decidable (fits64 t) := inferInstanceAs (Decidable (_ ∧ _))
end Go.Proofs.YtpbbkpfaphjdoabGreatDoor
namespace Go.Proofs.YtpbbkpfaphjdoabGreatDoor
open Go.ChangeShapes Go.WideShapes Go.ChangeAt Go.RowKit
structure One where
 what : ByteArray
 type : Int
 sum : Int
 edge : Val
def isCount (s : ByteArray) : Prop := s.data.toList = [99, 111, 117, 110, 116]
instance (s : ByteArray) : Decidable (isCount s) := inferInstanceAs (Decidable (_ = _))
end Go.Proofs.YtpbbkpfaphjdoabGreatDoor
namespace Go.Proofs.YtpbbkpfaphjdoabGreatDoor
open Go.ChangeShapes Go.WideShapes Go.ChangeAt Go.RowKit
section
variable {w : World} {B g cap k : Nat} {l : List One} {o : One}
end
end Go.Proofs.YtpbbkpfaphjdoabGreatDoor
namespace Go.Proofs.YtpbbkpfaphjdoabGreatDoor
open Go.RowKit
structure Kd where
 what : ByteArray
 type : Int
def isSum (s : ByteArray) : Prop := s.data.toList = [115, 117, 109]
instance (s : ByteArray) : Decidable (isSum s) := inferInstanceAs (Decidable (_ = _))
section
variable {α : Type} {f : One → α → One} {l : List One} {r : List α} {j : Nat} {o : One} {x : α}
end
end Go.Proofs.YtpbbkpfaphjdoabGreatDoor
namespace Go.Proofs.YtpbbkpfaphjdoabGreatDoor
open Go.ChangeShapes Go.WideShapes Go.ChangeAt Go.RowKit
end Go.Proofs.YtpbbkpfaphjdoabGreatDoor
namespace Go.Proofs.YtpbbkpfaphjdoabGreatDoor
theorem toList_inj {s t : ByteArray} (h : s.data.toList = t.data.toList) : s = t := by
 obtain ⟨⟨a⟩⟩ := s; obtain ⟨⟨b⟩⟩ := t; simp at h; rw [h]
end Go.Proofs.YtpbbkpfaphjdoabGreatDoor
