/-
  DERIVED. GIVEN WITH THE SEED: THE CARDS: each row of YtapbmknimejldaaDoorRows.lean that lists a variable, with what it lists TIED to the program's text (the seventh form; the later family's looks); each row that meets fmt, with fmt's text TOLD by the authors' own Lean function (tested against real Go, not proved from fmt's source: count such statements apart). THE CARD IS WHAT COUNTS. Prove the row's statement (the work); the ties are given (YtapbmknimejldaaDoorTie.lean); close each card by the builder's one call (the guide's Derived/Test/ToyasCard.lean, 'card_holds'). Laid BY PROGRAM, IN A SANDBOX (cutbox-door.mjs). By AI agents, Wed Nov 11 2026. No macro, syntax, notation, axiom, sorry.
-/
import Derived.Test.YtapbmknimejldaaDoorRows
import GoSem.ClaimSeven
namespace Go.Proofs.YtapbmknimejldaaDoor
namespace Rows

/-- THE TIED CARD OF 'sluicelaw4.SplitAll'. -/
def splitAllCard : Claim7 := { stood := { row := splitAllRow, standIns := [], harness := (true, "c6e37f1cc845263fc2d92f0b553a222cd921d12b67f0470b3fb51600b321e306"), looks := true }, kinds := [], alts := [], laidByText := true, laidKinds := [.handle], laidTests := true, laidLooks := .later }
def SplitAllCardSaid : Prop := Claim7.holds Tryd.pinned (.plain (OpenSpec.ofChange splitAllSpec)) splitAllCard

/-- THE TIED CARD OF 'sluicelaw4.KindParts'. -/
def kindPartsCard : Claim7 := { stood := { row := kindPartsRow, standIns := [], harness := (true, "c6e37f1cc845263fc2d92f0b553a222cd921d12b67f0470b3fb51600b321e306"), looks := true }, kinds := [], alts := [], laidByText := true, laidKinds := [.widerDeep, .widerDeep, .widerDeep], laidTests := true, laidLooks := .later }
def KindPartsCardSaid : Prop := Claim7.holds Tryd.pinned (.plain (OpenSpec.ofChange kindPartsSpec)) kindPartsCard

/-- THE TIED CARD OF 'sluicelaw2.AggTells'. -/
def aggTellsCard : Claim7 := { stood := { row := aggTellsRow, standIns := [], harness := (true, "c6e37f1cc845263fc2d92f0b553a222cd921d12b67f0470b3fb51600b321e306"), looks := true }, kinds := [], alts := [], laidByText := true, laidKinds := [.handle], laidTests := true, laidLooks := .later }
def AggTellsCardSaid : Prop := Claim7.holds Tryd.pinned (.plain (OpenSpec.ofChange aggTellsSpec)) aggTellsCard

/-- THE TIED CARD OF 'sluicelaw2.AggAny'. -/
def aggAnyCard : Claim7 := { stood := { row := aggAnyRow, standIns := [], harness := (true, "c6e37f1cc845263fc2d92f0b553a222cd921d12b67f0470b3fb51600b321e306"), looks := true }, kinds := [], alts := [], laidByText := true, laidKinds := [.handle], laidTests := true, laidLooks := .later }
def AggAnyCardSaid : Prop := Claim7.holds Tryd.pinned (.plain (OpenSpec.ofChange aggAnySpec)) aggAnyCard

/-- THE TIED CARD OF 'sluicelaw1.KindTells'. -/
def kindTellsCard : Claim7 := { stood := { row := kindTellsRow, standIns := [], harness := (true, "c6e37f1cc845263fc2d92f0b553a222cd921d12b67f0470b3fb51600b321e306"), looks := true }, kinds := [], alts := [], laidByText := true, laidKinds := [.handle, .widerDeep, .widerDeep, .widerDeep], laidTests := true, laidLooks := .later }
def KindTellsCardSaid : Prop := Claim7.holds Tryd.pinned (.plain (OpenSpec.ofChange kindTellsSpec)) kindTellsCard

/-- THE TIED CARD OF 'sluicelaw4.AggEdges'. -/
def aggEdgesCard : Claim7 := { stood := { row := aggEdgesRow, standIns := [], harness := (true, "c6e37f1cc845263fc2d92f0b553a222cd921d12b67f0470b3fb51600b321e306"), looks := true }, kinds := [], alts := [], laidByText := true, laidKinds := [.handle], laidTests := true, laidLooks := .later }
def AggEdgesCardSaid : Prop := Claim7.holds Tryd.pinned (.plain (OpenSpec.ofChange aggEdgesSpec)) aggEdgesCard

/-- THE TIED CARD OF 'sluicelaw1.EvalSides'. -/
def evalSidesCard : Claim7 := { stood := { row := evalSidesRow, standIns := [], harness := (true, "c6e37f1cc845263fc2d92f0b553a222cd921d12b67f0470b3fb51600b321e306"), looks := true }, kinds := [], alts := [], laidByText := true, laidKinds := [.widerDeep, .widerDeep, .widerDeep], laidTests := true, laidLooks := .later }
def EvalSidesCardSaid : Prop := Claim7.holds Tryd.pinned (.plain (OpenSpec.ofChange evalSidesSpec)) evalSidesCard

/-- THE TIED CARD OF 'sluicelaw1.KindHolds'. -/
def kindHoldsCard : Claim7 := { stood := { row := kindHoldsRow, standIns := [], harness := (true, "c6e37f1cc845263fc2d92f0b553a222cd921d12b67f0470b3fb51600b321e306"), looks := true }, kinds := [], alts := [], laidByText := true, laidKinds := [.handle, .widerDeep, .widerDeep, .widerDeep], laidTests := true, laidLooks := .later }
def KindHoldsCardSaid : Prop := Claim7.holds Tryd.pinned (.plain (OpenSpec.ofChange kindHoldsSpec)) kindHoldsCard

/-- THE SECOND FORM's CARD OF 'sluicelaw4.SplitAll'. -/
def splitAllUptoCard : Claim7 := { stood := { row := splitAllUptoRow, standIns := [], harness := (true, "c6e37f1cc845263fc2d92f0b553a222cd921d12b67f0470b3fb51600b321e306"), looks := true }, kinds := [], alts := [], laidByText := true, laidKinds := [.handle], laidTests := true, laidLooks := .later }
def SplitAllUptoCardSaid : Prop := Claim7.holds Tryd.pinned (.plain (OpenSpec.upto splitAllSpec)) splitAllUptoCard

/-- THE SECOND FORM's CARD OF 'sluicelaw4.KindParts'. -/
def kindPartsUptoCard : Claim7 := { stood := { row := kindPartsUptoRow, standIns := [], harness := (true, "c6e37f1cc845263fc2d92f0b553a222cd921d12b67f0470b3fb51600b321e306"), looks := true }, kinds := [], alts := [], laidByText := true, laidKinds := [.widerDeep, .widerDeep, .widerDeep], laidTests := true, laidLooks := .later }
def KindPartsUptoCardSaid : Prop := Claim7.holds Tryd.pinned (.plain (OpenSpec.upto kindPartsSpec)) kindPartsUptoCard

/-- THE SECOND FORM's CARD OF 'sluicelaw2.AggTells'. -/
def aggTellsUptoCard : Claim7 := { stood := { row := aggTellsUptoRow, standIns := [], harness := (true, "c6e37f1cc845263fc2d92f0b553a222cd921d12b67f0470b3fb51600b321e306"), looks := true }, kinds := [], alts := [], laidByText := true, laidKinds := [.handle], laidTests := true, laidLooks := .later }
def AggTellsUptoCardSaid : Prop := Claim7.holds Tryd.pinned (.plain (OpenSpec.upto aggTellsSpec)) aggTellsUptoCard

/-- THE SECOND FORM's CARD OF 'sluicelaw2.AggAny'. -/
def aggAnyUptoCard : Claim7 := { stood := { row := aggAnyUptoRow, standIns := [], harness := (true, "c6e37f1cc845263fc2d92f0b553a222cd921d12b67f0470b3fb51600b321e306"), looks := true }, kinds := [], alts := [], laidByText := true, laidKinds := [.handle], laidTests := true, laidLooks := .later }
def AggAnyUptoCardSaid : Prop := Claim7.holds Tryd.pinned (.plain (OpenSpec.upto aggAnySpec)) aggAnyUptoCard

/-- THE SECOND FORM's CARD OF 'sluicelaw1.KindTells'. -/
def kindTellsUptoCard : Claim7 := { stood := { row := kindTellsUptoRow, standIns := [], harness := (true, "c6e37f1cc845263fc2d92f0b553a222cd921d12b67f0470b3fb51600b321e306"), looks := true }, kinds := [], alts := [], laidByText := true, laidKinds := [.handle, .widerDeep, .widerDeep, .widerDeep], laidTests := true, laidLooks := .later }
def KindTellsUptoCardSaid : Prop := Claim7.holds Tryd.pinned (.plain (OpenSpec.upto kindTellsSpec)) kindTellsUptoCard

/-- THE SECOND FORM's CARD OF 'sluicelaw4.AggEdges'. -/
def aggEdgesUptoCard : Claim7 := { stood := { row := aggEdgesUptoRow, standIns := [], harness := (true, "c6e37f1cc845263fc2d92f0b553a222cd921d12b67f0470b3fb51600b321e306"), looks := true }, kinds := [], alts := [], laidByText := true, laidKinds := [.handle], laidTests := true, laidLooks := .later }
def AggEdgesUptoCardSaid : Prop := Claim7.holds Tryd.pinned (.plain (OpenSpec.upto aggEdgesSpec)) aggEdgesUptoCard

/-- THE SECOND FORM's CARD OF 'sluicelaw1.EvalSides'. -/
def evalSidesUptoCard : Claim7 := { stood := { row := evalSidesUptoRow, standIns := [], harness := (true, "c6e37f1cc845263fc2d92f0b553a222cd921d12b67f0470b3fb51600b321e306"), looks := true }, kinds := [], alts := [], laidByText := true, laidKinds := [.widerDeep, .widerDeep, .widerDeep], laidTests := true, laidLooks := .later }
def EvalSidesUptoCardSaid : Prop := Claim7.holds Tryd.pinned (.plain (OpenSpec.upto evalSidesSpec)) evalSidesUptoCard

/-- THE SECOND FORM's CARD OF 'sluicelaw1.KindHolds'. -/
def kindHoldsUptoCard : Claim7 := { stood := { row := kindHoldsUptoRow, standIns := [], harness := (true, "c6e37f1cc845263fc2d92f0b553a222cd921d12b67f0470b3fb51600b321e306"), looks := true }, kinds := [], alts := [], laidByText := true, laidKinds := [.handle, .widerDeep, .widerDeep, .widerDeep], laidTests := true, laidLooks := .later }
def KindHoldsUptoCardSaid : Prop := Claim7.holds Tryd.pinned (.plain (OpenSpec.upto kindHoldsSpec)) kindHoldsUptoCard
end Rows
end Go.Proofs.YtapbmknimejldaaDoor
