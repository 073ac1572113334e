/- val.Print, walked: a value as text. Package lex and the document's words: letter, digit, span, walked. -/
import Derived.Test.YtpbbkpfaphjdoaaGreatDoorFShow
import Derived.Lib.ReplaceLaws
import Derived.Lib.AppendIntMem
import Derived.Lib.ItoaLen
import Derived.Test.YtpbbkpfaphjdoaaGreatDoorFLexLaw
import Derived.Test.YtpbbkpfaphjdoaaGreatDoorFRefVal
namespace Go.Proofs.YtpbbkpfaphjdoaaGreatDoor
open Go.ChangeShapes Go.WideShapes Go.ChangeAt Go.RowKit
structure TextT (w : World) : Prop where
 tab : Lib.TabBelow Tryz.prog w.heap.size w "internal/strconv.uint64pow10" .u64 Lib.pow10Tab
 maxl : ∃ m, w.cell? ⟨6, 0, none⟩ = some (.int .i64 m) ∧ 6 < w.heap.size
theorem TextT.keep {w w' : World} (h : TextT w) (hb : Below w.heap.size w w') : TextT w' :=
 ⟨fun w2 h2 => h.tab w2 (hb.trans (h2.mono hb.size)), by obtain ⟨m, h1, h2⟩ := h.maxl; exact ⟨m, (hb.cell (p := ⟨6, 0, none⟩) h2).trans h1, Nat.lt_of_lt_of_le h2 hb.size⟩⟩
end Go.Proofs.YtpbbkpfaphjdoaaGreatDoor
namespace Go.Proofs.YtpbbkpfaphjdoaaGreatDoor
open Go.ChangeShapes Go.WideShapes Go.ChangeAt Go.RowKit
end Go.Proofs.YtpbbkpfaphjdoaaGreatDoor
