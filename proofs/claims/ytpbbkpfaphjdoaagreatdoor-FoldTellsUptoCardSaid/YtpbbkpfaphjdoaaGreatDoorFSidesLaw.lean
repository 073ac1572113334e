/- Of expressions made of right ones: an if of a value that is true or false, a comparison of two, an and, an or with such a value: what they come to. No program in sight. -/
import Derived.Test.YtpbbkpfaphjdoaaGreatDoorFEval
namespace Go.Proofs.YtpbbkpfaphjdoaaGreatDoor
open Go.ChangeShapes Go.WideShapes Go.ChangeAt Go.RowKit
structure PartOk (cols : List Col) (x : Ex) : Prop where
 below : exBelow 29 x = true
 nodes : nodesErr x = 0
 ty : (ofE cols x).h = 0
section
variable {cols : List Col} {r : List Val} {a b : Ex} {A : Option Addr} {c : Nat}
end
end Go.Proofs.YtpbbkpfaphjdoaaGreatDoor
