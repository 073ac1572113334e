/- Words of a text, plain: what the document says they are; that each is read again where blanks stand behind it. -/
import Derived.Test.YtpbbkpfaphjdoaaGreatDoorFShow
import Derived.Lib.AtoiAll
namespace Go.Proofs.YtpbbkpfaphjdoaaGreatDoor
def isL (b : UInt8) : Bool := decide (97 ≤ b.toNat ∧ b.toNat ≤ 122)
def isD (b : UInt8) : Bool := decide (48 ≤ b.toNat ∧ b.toNat ≤ 57)
structure Tok where
 kind : Int
 text : List UInt8
 at_ : Nat
inductive LexR where
 | ok (l : List Tok)
 | bad (e : Int) (at_ : Nat)
end Go.Proofs.YtpbbkpfaphjdoaaGreatDoor
