/- tree.Size, walked: how many nodes, as a number of 64 bits. tree.below and tree.full, walked: how many are below each other, whether there are more than may be. The listed table tree.words as a walk sees it; tree.Name, walked. tree.node, walked: what is wrong with one node. tree.nodes and tree.Check, walked: what is wrong with an expression. How many parts an expression has, plain: sizes, what a check says of its parts. Expressions but for where they lie. -/
import Derived.Test.YtkgdfccpkiglaaaDoorSEx
import Derived.Test.YtkgdfccpkiglaaaDoorSArity
import Derived.Test.YtkgdfccpkiglaaaDoorSRowName
namespace Go.Proofs.YtkgdfccpkiglaaaDoor
open Go.ChangeShapes Go.WideShapes Go.ChangeAt Go.RowKit
end Go.Proofs.YtkgdfccpkiglaaaDoor
namespace Go.Proofs.YtkgdfccpkiglaaaDoor
open Go.ChangeShapes Go.WideShapes Go.ChangeAt Go.RowKit
end Go.Proofs.YtkgdfccpkiglaaaDoor
namespace Go.Proofs.YtkgdfccpkiglaaaDoor
open Go.ChangeShapes Go.WideShapes Go.ChangeAt Go.RowKit
end Go.Proofs.YtkgdfccpkiglaaaDoor
namespace Go.Proofs.YtkgdfccpkiglaaaDoor
open Go.ChangeShapes Go.WideShapes Go.ChangeAt Go.RowKit
def isCol (s : ByteArray) : Prop := s.data.toList = [99, 111, 108]
def isVal (s : ByteArray) : Prop := s.data.toList = [118, 97, 108]
instance (s : ByteArray) : Decidable (isCol s) := inferInstanceAs (Decidable (_ = _))
instance (s : ByteArray) : Decidable (isVal s) := inferInstanceAs (Decidable (_ = _))
section
variable (op name : ByteArray) (A : Option Addr) (c : Nat) (pos : Int) (w : World) (t m : Int) (s : ByteArray)
end
end Go.Proofs.YtkgdfccpkiglaaaDoor
namespace Go.Proofs.YtkgdfccpkiglaaaDoor
open Go.ChangeShapes Go.WideShapes Go.ChangeAt Go.RowKit
end Go.Proofs.YtkgdfccpkiglaaaDoor
namespace Go.Proofs.YtkgdfccpkiglaaaDoor
open Go.ChangeShapes Go.WideShapes Go.ChangeAt Go.RowKit
end Go.Proofs.YtkgdfccpkiglaaaDoor
namespace Go.Proofs.YtkgdfccpkiglaaaDoor
open Go.ChangeShapes Go.WideShapes Go.ChangeAt Go.RowKit
end Go.Proofs.YtkgdfccpkiglaaaDoor
