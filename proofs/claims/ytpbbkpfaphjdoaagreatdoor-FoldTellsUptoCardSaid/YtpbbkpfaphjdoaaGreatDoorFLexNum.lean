/- Package lex: a number at the beginning of a text, walked. -/
import Derived.Test.YtpbbkpfaphjdoaaGreatDoorFLexFns
import Derived.Shelf.Strconv.AtoiAll
namespace Go.Proofs.YtpbbkpfaphjdoaaGreatDoor
open Go.ChangeShapes Go.WideShapes Go.ChangeAt Go.RowKit
structure NumT (w : World) : Prop where
 rng : ∃ te pe, w.cell? ⟨8, 0, none⟩ = some (.iface te pe) ∧ 8 < w.heap.size
 syn : ∃ te pe, w.cell? ⟨7, 0, none⟩ = some (.iface te pe) ∧ 7 < w.heap.size
theorem NumT.keep {w w' : World} (h : NumT w) (hb : Below w.heap.size w w') : NumT w' := by
 obtain ⟨⟨a, b, h1, h2⟩, ⟨c, d, h3, h4⟩⟩ := h
 exact ⟨⟨a, b, (hb.cell (p := ⟨8, 0, none⟩) h2).trans h1, Nat.lt_of_lt_of_le h2 hb.size⟩, ⟨c, d, (hb.cell (p := ⟨7, 0, none⟩) h4).trans h3, Nat.lt_of_lt_of_le h4 hb.size⟩⟩
def numBad (l : List UInt8) : Prop := (1 < (l.takeWhile isD).length ∧ l.head? = some 48) ∨ (l.dropWhile isD).head?.any isL = true
instance (l : List UInt8) : Decidable (numBad l) := by unfold numBad; infer_instance
end Go.Proofs.YtpbbkpfaphjdoaaGreatDoor
