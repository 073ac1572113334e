import Derived.Test.YtjoeeilncekgpaaGreatDoorTErr
import Derived.Test.YtjoeeilncekgpaaGreatDoorTWords
import Derived.IntWalk
import Derived.Laws.Externs
import Derived.StillTailTactics
import Derived.Deep.QuietTactic
import Derived.BigQuiet
import Derived.Deep.RegionHeld3
import Derived.Test.YtjoeeilncekgpaaGreatDoorTVals
import Derived.Test.YtjoeeilncekgpaaGreatDoorTOnly
namespace Go.Proofs.YtjoeeilncekgpaaGreatDoor
open Go.ChangeShapes Go.WideShapes Go.ChangeAt Go.RowKit
def fits64 (t : Int) : Prop := -9223372036854775808 ≤ t ∧ t ≤ 9223372036854775807
instance (t : Int) : Decidable (fits64 t) := inferInstanceAs (Decidable (_ ∧ _))
end Go.Proofs.YtjoeeilncekgpaaGreatDoor
namespace Go.Proofs.YtjoeeilncekgpaaGreatDoor
open Go.ChangeShapes Go.WideShapes Go.ChangeAt Go.RowKit
structure One where
 what : ByteArray
 type : Int
 sum : Int
 edge : Val
def isCount (s : ByteArray) : Prop := s.data.toList = [99, 111, 117, 110, 116]
instance (s : ByteArray) : Decidable (isCount s) := inferInstanceAs (Decidable (_ = _))
end Go.Proofs.YtjoeeilncekgpaaGreatDoor
namespace Go.Proofs.YtjoeeilncekgpaaGreatDoor
open Go.ChangeShapes Go.WideShapes Go.ChangeAt Go.RowKit
section
variable {w : World} {B g cap k : Nat} {l : List One} {o : One}
end
end Go.Proofs.YtjoeeilncekgpaaGreatDoor
namespace Go.Proofs.YtjoeeilncekgpaaGreatDoor
open Go.RowKit
structure Kd where
 what : ByteArray
 type : Int
def isSum (s : ByteArray) : Prop := s.data.toList = [115, 117, 109]
instance (s : ByteArray) : Decidable (isSum s) := inferInstanceAs (Decidable (_ = _))
section
variable {α : Type} {f : One → α → One} {l : List One} {r : List α} {j : Nat} {o : One} {x : α}
end
end Go.Proofs.YtjoeeilncekgpaaGreatDoor
namespace Go.Proofs.YtjoeeilncekgpaaGreatDoor
open Go.ChangeShapes Go.WideShapes Go.ChangeAt Go.RowKit
end Go.Proofs.YtjoeeilncekgpaaGreatDoor
namespace Go.Proofs.YtjoeeilncekgpaaGreatDoor
theorem toList_inj {s t : ByteArray} (h : s.data.toList = t.data.toList) : s = t := by
 obtain ⟨⟨a⟩⟩ := s; obtain ⟨⟨b⟩⟩ := t; simp at h; rw [h]
end Go.Proofs.YtjoeeilncekgpaaGreatDoor
