/- Package lex and the document's words: letter, digit, span, walked. -/
import Derived.Test.YtidamhejeaadpaaGreatDoorLexLaw
import Derived.Test.YtidamhejeaadpaaGreatDoorRefVal
import Derived.Test.YtidamhejeaadpaaGreatDoorPrint
namespace Go.Proofs.YtidamhejeaadpaaGreatDoor
open Go.ChangeShapes Go.WideShapes Go.ChangeAt Go.RowKit

theorem isL_dec (b : UInt8) : isL b = (decide (97 ≤ (b.toNat : Int)) && decide ((b.toNat : Int) ≤ 122)) := by
  unfold isL; rw [Bool.decide_and]; congr 1 <;> (congr 1; apply propext; omega)
theorem isD_dec (b : UInt8) : isD b = (decide (48 ≤ (b.toNat : Int)) && decide ((b.toNat : Int) ≤ 57)) := by
  unfold isD; rw [Bool.decide_and]; congr 1 <;> (congr 1; apply propext; omega)
def ByteFn (f : Nat) (p : UInt8 → Bool) : Prop := ∀ (b : UInt8) (w : World), Calls Tryz.prog f #[.int .u8 (b.toNat : Int)] w fun e w' => e = .returned (.bool (p b)) ∧ w = w'
/-- How far a text goes on so. -/
def spanN (p : UInt8 → Bool) (s : ByteArray) : Nat := (s.data.toList.takeWhile p).length
theorem tw_some {p : UInt8 → Bool} {l : List UInt8} {k : Nat} {b : UInt8} (h : (l.take k).all p = true) (hk : l[k]? = some b) (hp : p b = false) : (l.takeWhile p).length = k := by
  have hlt : k < l.length := (List.getElem?_eq_some_iff.1 hk).1
  have := tw_app (l.take k) (l.drop k) h (fun x hx => by
    rw [List.head?_drop, hk] at hx
    injection hx with hx; rw [← hx]; exact hp)
  rw [List.take_append_drop] at this
  rw [this.1, List.length_take]; omega
theorem tw_full {p : UInt8 → Bool} {l : List UInt8} (h : l.all p = true) : (l.takeWhile p).length = l.length := by
  have := tw_app l [] h (fun x hx => by cases hx)
  rw [List.append_nil] at this
  rw [this.1]
-- spans
-- spans end
end Go.Proofs.YtidamhejeaadpaaGreatDoor
