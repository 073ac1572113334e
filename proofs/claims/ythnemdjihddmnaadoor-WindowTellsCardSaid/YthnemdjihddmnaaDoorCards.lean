/-
  DERIVED. GIVEN WITH THE SEED: THE CARDS: each row of YthnemdjihddmnaaDoorRows.lean that lists a variable, with what it lists TIED to the program's text (the seventh form; the later family's looks); each row that meets fmt, with fmt's text TOLD by the authors' own Lean function (tested against real Go, not proved from fmt's source: count such statements apart). THE CARD IS WHAT COUNTS. Prove the row's statement (the work); the ties are given (YthnemdjihddmnaaDoorTie.lean); close each card by the builder's one call (the guide's Derived/Test/ToyasCard.lean, 'card_holds'). Laid BY PROGRAM, IN A SANDBOX (cutbox-door.mjs). By AI agents, Wed Nov 11 2026. No macro, syntax, notation, axiom, sorry.
-/
import Derived.Test.YthnemdjihddmnaaDoorRows
import GoSem.ClaimSeven
namespace Go.Proofs.YthnemdjihddmnaaDoor
namespace Rows

/-- THE TIED CARD OF 'sluicelaw4.WindowSums'. -/
def windowSumsCard : Claim7 := { stood := { row := windowSumsRow, standIns := [], harness := (true, "e82fbb942c9e2e0e60401b3b5f5b1381eb9d3df8d283dcb5a90fdbcf109850dc"), looks := true }, kinds := [], alts := [], laidByText := true, laidKinds := [.handle], laidTests := true, laidLooks := .later }
def WindowSumsCardSaid : Prop := Claim7.holds Tryd.pinned (.plain (OpenSpec.ofChange windowSumsSpec)) windowSumsCard

/-- THE TIED CARD OF 'sluicelaw2.WindowTells'. -/
def windowTellsCard : Claim7 := { stood := { row := windowTellsRow, standIns := [], harness := (true, "e82fbb942c9e2e0e60401b3b5f5b1381eb9d3df8d283dcb5a90fdbcf109850dc"), looks := true }, kinds := [], alts := [], laidByText := true, laidKinds := [.handle], laidTests := true, laidLooks := .later }
def WindowTellsCardSaid : Prop := Claim7.holds Tryd.pinned (.plain (OpenSpec.ofChange windowTellsSpec)) windowTellsCard

/-- THE TIED CARD OF 'sluicelaw4.SplitAll'. -/
def splitAllCard : Claim7 := { stood := { row := splitAllRow, standIns := [], harness := (true, "e82fbb942c9e2e0e60401b3b5f5b1381eb9d3df8d283dcb5a90fdbcf109850dc"), looks := true }, kinds := [], alts := [], laidByText := true, laidKinds := [.handle], laidTests := true, laidLooks := .later }
def SplitAllCardSaid : Prop := Claim7.holds Tryd.pinned (.plain (OpenSpec.ofChange splitAllSpec)) splitAllCard

/-- THE TIED CARD OF 'sluicelaw4.ValLaws'. -/
def valLawsCard : Claim7 := { stood := { row := valLawsRow, standIns := [], harness := (true, "e82fbb942c9e2e0e60401b3b5f5b1381eb9d3df8d283dcb5a90fdbcf109850dc"), looks := true }, kinds := [], alts := [], laidByText := true, laidKinds := [.handle], laidTests := true, laidLooks := .later }
def ValLawsCardSaid : Prop := Claim7.holds Tryd.pinned (.plain (OpenSpec.ofChange valLawsSpec)) valLawsCard

/-- THE TIED CARD OF 'sluicelaw4.KindParts'. -/
def kindPartsCard : Claim7 := { stood := { row := kindPartsRow, standIns := [], harness := (true, "e82fbb942c9e2e0e60401b3b5f5b1381eb9d3df8d283dcb5a90fdbcf109850dc"), looks := true }, kinds := [], alts := [], laidByText := true, laidKinds := [.widerDeep, .widerDeep, .widerDeep], laidTests := true, laidLooks := .later }
def KindPartsCardSaid : Prop := Claim7.holds Tryd.pinned (.plain (OpenSpec.ofChange kindPartsSpec)) kindPartsCard

/-- THE TIED CARD OF 'sluicelaw4.EvalSwaps'. -/
def evalSwapsCard : Claim7 := { stood := { row := evalSwapsRow, standIns := [], harness := (true, "e82fbb942c9e2e0e60401b3b5f5b1381eb9d3df8d283dcb5a90fdbcf109850dc"), looks := true }, kinds := [], alts := [], laidByText := true, laidKinds := [.widerDeep, .widerDeep], laidTests := true, laidLooks := .later }
def EvalSwapsCardSaid : Prop := Claim7.holds Tryd.pinned (.plain (OpenSpec.ofChange evalSwapsSpec)) evalSwapsCard

/-- THE TIED CARD OF 'sluicelaw2.AggTells'. -/
def aggTellsCard : Claim7 := { stood := { row := aggTellsRow, standIns := [], harness := (true, "e82fbb942c9e2e0e60401b3b5f5b1381eb9d3df8d283dcb5a90fdbcf109850dc"), looks := true }, kinds := [], alts := [], laidByText := true, laidKinds := [.handle], laidTests := true, laidLooks := .later }
def AggTellsCardSaid : Prop := Claim7.holds Tryd.pinned (.plain (OpenSpec.ofChange aggTellsSpec)) aggTellsCard

/-- THE TIED CARD OF 'sluicelaw2.AggAny'. -/
def aggAnyCard : Claim7 := { stood := { row := aggAnyRow, standIns := [], harness := (true, "e82fbb942c9e2e0e60401b3b5f5b1381eb9d3df8d283dcb5a90fdbcf109850dc"), looks := true }, kinds := [], alts := [], laidByText := true, laidKinds := [.handle], laidTests := true, laidLooks := .later }
def AggAnyCardSaid : Prop := Claim7.holds Tryd.pinned (.plain (OpenSpec.ofChange aggAnySpec)) aggAnyCard

/-- THE SECOND FORM's CARD OF 'sluicelaw4.WindowSums'. -/
def windowSumsUptoCard : Claim7 := { stood := { row := windowSumsUptoRow, standIns := [], harness := (true, "e82fbb942c9e2e0e60401b3b5f5b1381eb9d3df8d283dcb5a90fdbcf109850dc"), looks := true }, kinds := [], alts := [], laidByText := true, laidKinds := [.handle], laidTests := true, laidLooks := .later }
def WindowSumsUptoCardSaid : Prop := Claim7.holds Tryd.pinned (.plain (OpenSpec.upto windowSumsSpec)) windowSumsUptoCard

/-- THE SECOND FORM's CARD OF 'sluicelaw2.WindowTells'. -/
def windowTellsUptoCard : Claim7 := { stood := { row := windowTellsUptoRow, standIns := [], harness := (true, "e82fbb942c9e2e0e60401b3b5f5b1381eb9d3df8d283dcb5a90fdbcf109850dc"), looks := true }, kinds := [], alts := [], laidByText := true, laidKinds := [.handle], laidTests := true, laidLooks := .later }
def WindowTellsUptoCardSaid : Prop := Claim7.holds Tryd.pinned (.plain (OpenSpec.upto windowTellsSpec)) windowTellsUptoCard

/-- THE SECOND FORM's CARD OF 'sluicelaw4.SplitAll'. -/
def splitAllUptoCard : Claim7 := { stood := { row := splitAllUptoRow, standIns := [], harness := (true, "e82fbb942c9e2e0e60401b3b5f5b1381eb9d3df8d283dcb5a90fdbcf109850dc"), looks := true }, kinds := [], alts := [], laidByText := true, laidKinds := [.handle], laidTests := true, laidLooks := .later }
def SplitAllUptoCardSaid : Prop := Claim7.holds Tryd.pinned (.plain (OpenSpec.upto splitAllSpec)) splitAllUptoCard

/-- THE SECOND FORM's CARD OF 'sluicelaw4.ValLaws'. -/
def valLawsUptoCard : Claim7 := { stood := { row := valLawsUptoRow, standIns := [], harness := (true, "e82fbb942c9e2e0e60401b3b5f5b1381eb9d3df8d283dcb5a90fdbcf109850dc"), looks := true }, kinds := [], alts := [], laidByText := true, laidKinds := [.handle], laidTests := true, laidLooks := .later }
def ValLawsUptoCardSaid : Prop := Claim7.holds Tryd.pinned (.plain (OpenSpec.upto valLawsSpec)) valLawsUptoCard

/-- THE SECOND FORM's CARD OF 'sluicelaw4.KindParts'. -/
def kindPartsUptoCard : Claim7 := { stood := { row := kindPartsUptoRow, standIns := [], harness := (true, "e82fbb942c9e2e0e60401b3b5f5b1381eb9d3df8d283dcb5a90fdbcf109850dc"), looks := true }, kinds := [], alts := [], laidByText := true, laidKinds := [.widerDeep, .widerDeep, .widerDeep], laidTests := true, laidLooks := .later }
def KindPartsUptoCardSaid : Prop := Claim7.holds Tryd.pinned (.plain (OpenSpec.upto kindPartsSpec)) kindPartsUptoCard

/-- THE SECOND FORM's CARD OF 'sluicelaw4.EvalSwaps'. -/
def evalSwapsUptoCard : Claim7 := { stood := { row := evalSwapsUptoRow, standIns := [], harness := (true, "e82fbb942c9e2e0e60401b3b5f5b1381eb9d3df8d283dcb5a90fdbcf109850dc"), looks := true }, kinds := [], alts := [], laidByText := true, laidKinds := [.widerDeep, .widerDeep], laidTests := true, laidLooks := .later }
def EvalSwapsUptoCardSaid : Prop := Claim7.holds Tryd.pinned (.plain (OpenSpec.upto evalSwapsSpec)) evalSwapsUptoCard

/-- THE SECOND FORM's CARD OF 'sluicelaw2.AggTells'. -/
def aggTellsUptoCard : Claim7 := { stood := { row := aggTellsUptoRow, standIns := [], harness := (true, "e82fbb942c9e2e0e60401b3b5f5b1381eb9d3df8d283dcb5a90fdbcf109850dc"), looks := true }, kinds := [], alts := [], laidByText := true, laidKinds := [.handle], laidTests := true, laidLooks := .later }
def AggTellsUptoCardSaid : Prop := Claim7.holds Tryd.pinned (.plain (OpenSpec.upto aggTellsSpec)) aggTellsUptoCard

/-- THE SECOND FORM's CARD OF 'sluicelaw2.AggAny'. -/
def aggAnyUptoCard : Claim7 := { stood := { row := aggAnyUptoRow, standIns := [], harness := (true, "e82fbb942c9e2e0e60401b3b5f5b1381eb9d3df8d283dcb5a90fdbcf109850dc"), looks := true }, kinds := [], alts := [], laidByText := true, laidKinds := [.handle], laidTests := true, laidLooks := .later }
def AggAnyUptoCardSaid : Prop := Claim7.holds Tryd.pinned (.plain (OpenSpec.upto aggAnySpec)) aggAnyUptoCard
end Rows
end Go.Proofs.YthnemdjihddmnaaDoor
