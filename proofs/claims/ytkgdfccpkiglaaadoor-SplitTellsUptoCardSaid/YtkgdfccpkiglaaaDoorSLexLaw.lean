/- sluiceref1.Digits, walked: a number's digits. A value as text: plain, and sluiceref1.Show, walked. Words of a text, plain: what the document says they are; that each is read again where blanks stand behind it. -/
import Derived.Test.YtkgdfccpkiglaaaDoorSVals
import Derived.Lib.ItoaMem
import Derived.Lib.Replace
import Derived.Lib.AtoiAll
namespace Go.Proofs.YtkgdfccpkiglaaaDoor
open Go.ChangeShapes Go.WideShapes Go.ChangeAt Go.RowKit
end Go.Proofs.YtkgdfccpkiglaaaDoor
namespace Go.Proofs.YtkgdfccpkiglaaaDoor
open Go.ChangeShapes Go.WideShapes Go.ChangeAt Go.RowKit
theorem belowNew' (w : World) (o : Obj) : Below w.heap.size w (w.alloc o) := (Below.refl _ _).alloc (Nat.le_refl _) _
end Go.Proofs.YtkgdfccpkiglaaaDoor
namespace Go.Proofs.YtkgdfccpkiglaaaDoor
def isL (b : UInt8) : Bool := decide (97 ≤ b.toNat ∧ b.toNat ≤ 122)
def isD (b : UInt8) : Bool := decide (48 ≤ b.toNat ∧ b.toNat ≤ 57)
structure Tok where
 kind : Int
 text : List UInt8
 at_ : Nat
inductive LexR where
 | ok (l : List Tok)
 | bad (e : Int) (at_ : Nat)
end Go.Proofs.YtkgdfccpkiglaaaDoor
