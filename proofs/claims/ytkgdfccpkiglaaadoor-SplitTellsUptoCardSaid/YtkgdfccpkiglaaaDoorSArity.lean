/- val.Print, walked: a value as text. Package lex and the document's words: letter, digit, span, walked. Package lex: a number at the beginning of a text, walked. Rows of strings that are listed (laid) or lie in a slice: what a walk sees; slices.Contains over them. The listed tables kind.ops and tree.levels as a walk sees them; tree.Arity, walked. tree.Arity, walked, at any text. -/
import Derived.Test.YtkgdfccpkiglaaaDoorSLexLaw
import Derived.Lib.ReplaceLaws
import Derived.Lib.AppendIntMem
import Derived.Lib.ItoaLen
import Derived.Test.YtkgdfccpkiglaaaDoorSRefVal
import Derived.Shelf.Strconv.AtoiAll
import Derived.Lib.SlicesS
import Derived.Test.YtkgdfccpkiglaaaDoorSWords
import Derived.Test.YtkgdfccpkiglaaaDoorSShelf
import Derived.LaidMore
import Derived.OpenShut
import Derived.FnData
import Derived.Deep.Slices
namespace Go.Proofs.YtkgdfccpkiglaaaDoor
open Go.ChangeShapes Go.WideShapes Go.ChangeAt Go.RowKit
structure TextT (w : World) : Prop where
 tab : Lib.TabBelow Tryd.prog w.heap.size w "internal/strconv.uint64pow10" .u64 Lib.pow10Tab
 maxl : ∃ m, w.cell? ⟨1, 0, none⟩ = some (.int .i64 m) ∧ 1 < w.heap.size
theorem TextT.keep {w w' : World} (h : TextT w) (hb : Below w.heap.size w w') : TextT w' :=
 ⟨fun w2 h2 => h.tab w2 (hb.trans (h2.mono hb.size)), by obtain ⟨m, h1, h2⟩ := h.maxl; exact ⟨m, (hb.cell (p := ⟨1, 0, none⟩) h2).trans h1, Nat.lt_of_lt_of_le h2 hb.size⟩⟩
end Go.Proofs.YtkgdfccpkiglaaaDoor
namespace Go.Proofs.YtkgdfccpkiglaaaDoor
open Go.ChangeShapes Go.WideShapes Go.ChangeAt Go.RowKit
end Go.Proofs.YtkgdfccpkiglaaaDoor
namespace Go.Proofs.YtkgdfccpkiglaaaDoor
open Go.ChangeShapes Go.WideShapes Go.ChangeAt Go.RowKit
def numBad (l : List UInt8) : Prop := (1 < (l.takeWhile isD).length ∧ l.head? = some 48) ∨ (l.dropWhile isD).head?.any isL = true
instance (l : List UInt8) : Decidable (numBad l) := by unfold numBad; infer_instance
end Go.Proofs.YtkgdfccpkiglaaaDoor
namespace Go.Proofs.YtkgdfccpkiglaaaDoor
open Go.ChangeShapes Go.WideShapes Go.ChangeAt Go.RowKit
section
variable {P : Program} {W : World}
end
end Go.Proofs.YtkgdfccpkiglaaaDoor
namespace Go.Proofs.YtkgdfccpkiglaaaDoor
open Go.ChangeShapes Go.WideShapes Go.ChangeAt Go.RowKit
end Go.Proofs.YtkgdfccpkiglaaaDoor
namespace Go.Proofs.YtkgdfccpkiglaaaDoor
open Go.ChangeShapes Go.WideShapes Go.ChangeAt Go.RowKit
end Go.Proofs.YtkgdfccpkiglaaaDoor
