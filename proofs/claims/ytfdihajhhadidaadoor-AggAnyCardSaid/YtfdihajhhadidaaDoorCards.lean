/-
  DERIVED. GIVEN WITH THE SEED: THE CARDS: each row of YtfdihajhhadidaaDoorRows.lean that lists a variable, with what it lists TIED to the program's text (the seventh form; the later family's looks); each row that meets fmt, with fmt's text TOLD by the authors' own Lean function (tested against real Go, not proved from fmt's source: count such statements apart). THE CARD IS WHAT COUNTS. Prove the row's statement (the work); the ties are given (YtfdihajhhadidaaDoorTie.lean); close each card by the builder's one call (the guide's Derived/Test/ToyasCard.lean, 'card_holds'). Laid BY PROGRAM, IN A SANDBOX (cutbox-door.mjs). By AI agents, Wed Nov 11 2026. No macro, syntax, notation, axiom, sorry.
-/
import Derived.Test.YtfdihajhhadidaaDoorRows
import GoSem.ClaimSeven
namespace Go.Proofs.YtfdihajhhadidaaDoor
namespace Rows

/-- THE TIED CARD OF 'sluicelaw2.AggTells'. -/
def aggTellsCard : Claim7 := { stood := { row := aggTellsRow, standIns := [], harness := (true, "a43cdb719081fc743f1567fa1bf872f6f82b9abbf4ab1ee1931d5d565145206f"), looks := true }, kinds := [], alts := [], laidByText := true, laidKinds := [.handle], laidTests := true, laidLooks := .later }
def AggTellsCardSaid : Prop := Claim7.holds Tryd.pinned (.plain (OpenSpec.ofChange aggTellsSpec)) aggTellsCard

/-- THE TIED CARD OF 'sluicelaw2.AggAny'. -/
def aggAnyCard : Claim7 := { stood := { row := aggAnyRow, standIns := [], harness := (true, "a43cdb719081fc743f1567fa1bf872f6f82b9abbf4ab1ee1931d5d565145206f"), looks := true }, kinds := [], alts := [], laidByText := true, laidKinds := [.handle], laidTests := true, laidLooks := .later }
def AggAnyCardSaid : Prop := Claim7.holds Tryd.pinned (.plain (OpenSpec.ofChange aggAnySpec)) aggAnyCard

/-- THE TIED CARD OF 'sluicelaw4.AggEdges'. -/
def aggEdgesCard : Claim7 := { stood := { row := aggEdgesRow, standIns := [], harness := (true, "a43cdb719081fc743f1567fa1bf872f6f82b9abbf4ab1ee1931d5d565145206f"), looks := true }, kinds := [], alts := [], laidByText := true, laidKinds := [.handle], laidTests := true, laidLooks := .later }
def AggEdgesCardSaid : Prop := Claim7.holds Tryd.pinned (.plain (OpenSpec.ofChange aggEdgesSpec)) aggEdgesCard

/-- THE TIED CARD OF 'sluicelaw4.VerifyCuts'. -/
def verifyCutsCard : Claim7 := { stood := { row := verifyCutsRow, standIns := [], harness := (true, "a43cdb719081fc743f1567fa1bf872f6f82b9abbf4ab1ee1931d5d565145206f"), looks := true }, kinds := [], alts := [], laidByText := true, laidKinds := [.handle, .widerDeep, .widerDeep], laidTests := true, laidLooks := .later }
def VerifyCutsCardSaid : Prop := Claim7.holds Tryd.pinned (.plain (OpenSpec.ofChange verifyCutsSpec)) verifyCutsCard

/-- THE TIED CARD OF 'sluicelaw2.VerifyTells'. -/
def verifyTellsCard : Claim7 := { stood := { row := verifyTellsRow, standIns := [], harness := (true, "a43cdb719081fc743f1567fa1bf872f6f82b9abbf4ab1ee1931d5d565145206f"), looks := true }, kinds := [], alts := [], laidByText := true, laidKinds := [.handle, .widerDeep, .widerDeep], laidTests := true, laidLooks := .later }
def VerifyTellsCardSaid : Prop := Claim7.holds Tryd.pinned (.plain (OpenSpec.ofChange verifyTellsSpec)) verifyTellsCard

/-- THE TIED CARD OF 'sluicelaw3.SplitTells'. -/
def splitTellsCard : Claim7 := { stood := { row := splitTellsRow, standIns := [], harness := (true, "a43cdb719081fc743f1567fa1bf872f6f82b9abbf4ab1ee1931d5d565145206f"), looks := true }, kinds := [], alts := [], laidByText := true, laidKinds := [.handle], laidTests := true, laidLooks := .later }
def SplitTellsCardSaid : Prop := Claim7.holds Tryd.pinned (.plain (OpenSpec.ofChange splitTellsSpec)) splitTellsCard

/-- THE TIED CARD OF 'sluicelaw2.VerifySound'. -/
def verifySoundCard : Claim7 := { stood := { row := verifySoundRow, standIns := [], harness := (true, "a43cdb719081fc743f1567fa1bf872f6f82b9abbf4ab1ee1931d5d565145206f"), looks := true }, kinds := [], alts := [], laidByText := true, laidKinds := [.handle, .widerDeep, .widerDeep], laidTests := true, laidLooks := .later }
def VerifySoundCardSaid : Prop := Claim7.holds Tryd.pinned (.plain (OpenSpec.ofChange verifySoundSpec)) verifySoundCard

/-- THE TIED CARD OF 'sluicelaw2.VmFuel'. -/
def vmFuelCard : Claim7 := { stood := { row := vmFuelRow, standIns := [], harness := (true, "a43cdb719081fc743f1567fa1bf872f6f82b9abbf4ab1ee1931d5d565145206f"), looks := true }, kinds := [], alts := [], laidByText := true, laidKinds := [.handle, .widerDeep, .widerDeep], laidTests := true, laidLooks := .later }
def VmFuelCardSaid : Prop := Claim7.holds Tryd.pinned (.plain (OpenSpec.ofChange vmFuelSpec)) vmFuelCard

/-- THE SECOND FORM's CARD OF 'sluicelaw2.AggTells'. -/
def aggTellsUptoCard : Claim7 := { stood := { row := aggTellsUptoRow, standIns := [], harness := (true, "a43cdb719081fc743f1567fa1bf872f6f82b9abbf4ab1ee1931d5d565145206f"), looks := true }, kinds := [], alts := [], laidByText := true, laidKinds := [.handle], laidTests := true, laidLooks := .later }
def AggTellsUptoCardSaid : Prop := Claim7.holds Tryd.pinned (.plain (OpenSpec.upto aggTellsSpec)) aggTellsUptoCard

/-- THE SECOND FORM's CARD OF 'sluicelaw2.AggAny'. -/
def aggAnyUptoCard : Claim7 := { stood := { row := aggAnyUptoRow, standIns := [], harness := (true, "a43cdb719081fc743f1567fa1bf872f6f82b9abbf4ab1ee1931d5d565145206f"), looks := true }, kinds := [], alts := [], laidByText := true, laidKinds := [.handle], laidTests := true, laidLooks := .later }
def AggAnyUptoCardSaid : Prop := Claim7.holds Tryd.pinned (.plain (OpenSpec.upto aggAnySpec)) aggAnyUptoCard

/-- THE SECOND FORM's CARD OF 'sluicelaw4.AggEdges'. -/
def aggEdgesUptoCard : Claim7 := { stood := { row := aggEdgesUptoRow, standIns := [], harness := (true, "a43cdb719081fc743f1567fa1bf872f6f82b9abbf4ab1ee1931d5d565145206f"), looks := true }, kinds := [], alts := [], laidByText := true, laidKinds := [.handle], laidTests := true, laidLooks := .later }
def AggEdgesUptoCardSaid : Prop := Claim7.holds Tryd.pinned (.plain (OpenSpec.upto aggEdgesSpec)) aggEdgesUptoCard

/-- THE SECOND FORM's CARD OF 'sluicelaw4.VerifyCuts'. -/
def verifyCutsUptoCard : Claim7 := { stood := { row := verifyCutsUptoRow, standIns := [], harness := (true, "a43cdb719081fc743f1567fa1bf872f6f82b9abbf4ab1ee1931d5d565145206f"), looks := true }, kinds := [], alts := [], laidByText := true, laidKinds := [.handle, .widerDeep, .widerDeep], laidTests := true, laidLooks := .later }
def VerifyCutsUptoCardSaid : Prop := Claim7.holds Tryd.pinned (.plain (OpenSpec.upto verifyCutsSpec)) verifyCutsUptoCard

/-- THE SECOND FORM's CARD OF 'sluicelaw2.VerifyTells'. -/
def verifyTellsUptoCard : Claim7 := { stood := { row := verifyTellsUptoRow, standIns := [], harness := (true, "a43cdb719081fc743f1567fa1bf872f6f82b9abbf4ab1ee1931d5d565145206f"), looks := true }, kinds := [], alts := [], laidByText := true, laidKinds := [.handle, .widerDeep, .widerDeep], laidTests := true, laidLooks := .later }
def VerifyTellsUptoCardSaid : Prop := Claim7.holds Tryd.pinned (.plain (OpenSpec.upto verifyTellsSpec)) verifyTellsUptoCard

/-- THE SECOND FORM's CARD OF 'sluicelaw3.SplitTells'. -/
def splitTellsUptoCard : Claim7 := { stood := { row := splitTellsUptoRow, standIns := [], harness := (true, "a43cdb719081fc743f1567fa1bf872f6f82b9abbf4ab1ee1931d5d565145206f"), looks := true }, kinds := [], alts := [], laidByText := true, laidKinds := [.handle], laidTests := true, laidLooks := .later }
def SplitTellsUptoCardSaid : Prop := Claim7.holds Tryd.pinned (.plain (OpenSpec.upto splitTellsSpec)) splitTellsUptoCard

/-- THE SECOND FORM's CARD OF 'sluicelaw2.VerifySound'. -/
def verifySoundUptoCard : Claim7 := { stood := { row := verifySoundUptoRow, standIns := [], harness := (true, "a43cdb719081fc743f1567fa1bf872f6f82b9abbf4ab1ee1931d5d565145206f"), looks := true }, kinds := [], alts := [], laidByText := true, laidKinds := [.handle, .widerDeep, .widerDeep], laidTests := true, laidLooks := .later }
def VerifySoundUptoCardSaid : Prop := Claim7.holds Tryd.pinned (.plain (OpenSpec.upto verifySoundSpec)) verifySoundUptoCard

/-- THE SECOND FORM's CARD OF 'sluicelaw2.VmFuel'. -/
def vmFuelUptoCard : Claim7 := { stood := { row := vmFuelUptoRow, standIns := [], harness := (true, "a43cdb719081fc743f1567fa1bf872f6f82b9abbf4ab1ee1931d5d565145206f"), looks := true }, kinds := [], alts := [], laidByText := true, laidKinds := [.handle, .widerDeep, .widerDeep], laidTests := true, laidLooks := .later }
def VmFuelUptoCardSaid : Prop := Claim7.holds Tryd.pinned (.plain (OpenSpec.upto vmFuelSpec)) vmFuelUptoCard
end Rows
end Go.Proofs.YtfdihajhhadidaaDoor
