/-
  DERIVED. GIVEN WITH THE SEED: THE CARDS: each row of YtjnlonemnjljiaaDoorRows.lean that lists a variable, with what it lists TIED to the program's text (the seventh form; the later family's looks); each row that meets fmt, with fmt's text TOLD by the authors' own Lean function (tested against real Go, not proved from fmt's source: count such statements apart). THE CARD IS WHAT COUNTS. Prove the row's statement (the work); the ties are given (YtjnlonemnjljiaaDoorTie.lean); close each card by the builder's one call (the guide's Derived/Test/ToyasCard.lean, 'card_holds'). Laid BY PROGRAM, IN A SANDBOX (cutbox-door.mjs). By AI agents, Wed Nov 11 2026. No macro, syntax, notation, axiom, sorry.
-/
import Derived.Test.YtjnlonemnjljiaaDoorRows
import GoSem.ClaimSeven
namespace Go.Proofs.YtjnlonemnjljiaaDoor
namespace Rows

/-- THE TIED CARD OF 'sluicelaw4.AggEdges'. -/
def aggEdgesCard : Claim7 := { stood := { row := aggEdgesRow, standIns := [], harness := (true, "304a43ea740643c47de5771d7531524e25e8027741e5edf3d2cbbdc104977606"), looks := true }, kinds := [], alts := [], laidByText := true, laidKinds := [.handle], laidTests := true, laidLooks := .later }
def AggEdgesCardSaid : Prop := Claim7.holds Tryd.pinned (.plain (OpenSpec.ofChange aggEdgesSpec)) aggEdgesCard

/-- THE TIED CARD OF 'sluicelaw4.VerifyCuts'. -/
def verifyCutsCard : Claim7 := { stood := { row := verifyCutsRow, standIns := [], harness := (true, "304a43ea740643c47de5771d7531524e25e8027741e5edf3d2cbbdc104977606"), looks := true }, kinds := [], alts := [], laidByText := true, laidKinds := [.handle, .widerDeep, .widerDeep], laidTests := true, laidLooks := .later }
def VerifyCutsCardSaid : Prop := Claim7.holds Tryd.pinned (.plain (OpenSpec.ofChange verifyCutsSpec)) verifyCutsCard

/-- THE TIED CARD OF 'sluicelaw2.VerifyTells'. -/
def verifyTellsCard : Claim7 := { stood := { row := verifyTellsRow, standIns := [], harness := (true, "304a43ea740643c47de5771d7531524e25e8027741e5edf3d2cbbdc104977606"), looks := true }, kinds := [], alts := [], laidByText := true, laidKinds := [.handle, .widerDeep, .widerDeep], laidTests := true, laidLooks := .later }
def VerifyTellsCardSaid : Prop := Claim7.holds Tryd.pinned (.plain (OpenSpec.ofChange verifyTellsSpec)) verifyTellsCard

/-- THE TIED CARD OF 'sluicelaw3.SplitTells'. -/
def splitTellsCard : Claim7 := { stood := { row := splitTellsRow, standIns := [], harness := (true, "304a43ea740643c47de5771d7531524e25e8027741e5edf3d2cbbdc104977606"), looks := true }, kinds := [], alts := [], laidByText := true, laidKinds := [.handle], laidTests := true, laidLooks := .later }
def SplitTellsCardSaid : Prop := Claim7.holds Tryd.pinned (.plain (OpenSpec.ofChange splitTellsSpec)) splitTellsCard

/-- THE TIED CARD OF 'sluicelaw2.VerifySound'. -/
def verifySoundCard : Claim7 := { stood := { row := verifySoundRow, standIns := [], harness := (true, "304a43ea740643c47de5771d7531524e25e8027741e5edf3d2cbbdc104977606"), looks := true }, kinds := [], alts := [], laidByText := true, laidKinds := [.handle, .widerDeep, .widerDeep], laidTests := true, laidLooks := .later }
def VerifySoundCardSaid : Prop := Claim7.holds Tryd.pinned (.plain (OpenSpec.ofChange verifySoundSpec)) verifySoundCard

/-- THE TIED CARD OF 'sluicelaw2.VmFuel'. -/
def vmFuelCard : Claim7 := { stood := { row := vmFuelRow, standIns := [], harness := (true, "304a43ea740643c47de5771d7531524e25e8027741e5edf3d2cbbdc104977606"), looks := true }, kinds := [], alts := [], laidByText := true, laidKinds := [.handle, .widerDeep, .widerDeep], laidTests := true, laidLooks := .later }
def VmFuelCardSaid : Prop := Claim7.holds Tryd.pinned (.plain (OpenSpec.ofChange vmFuelSpec)) vmFuelCard

/-- THE SECOND FORM's CARD OF 'sluicelaw4.AggEdges'. -/
def aggEdgesUptoCard : Claim7 := { stood := { row := aggEdgesUptoRow, standIns := [], harness := (true, "304a43ea740643c47de5771d7531524e25e8027741e5edf3d2cbbdc104977606"), looks := true }, kinds := [], alts := [], laidByText := true, laidKinds := [.handle], laidTests := true, laidLooks := .later }
def AggEdgesUptoCardSaid : Prop := Claim7.holds Tryd.pinned (.plain (OpenSpec.upto aggEdgesSpec)) aggEdgesUptoCard

/-- THE SECOND FORM's CARD OF 'sluicelaw4.VerifyCuts'. -/
def verifyCutsUptoCard : Claim7 := { stood := { row := verifyCutsUptoRow, standIns := [], harness := (true, "304a43ea740643c47de5771d7531524e25e8027741e5edf3d2cbbdc104977606"), looks := true }, kinds := [], alts := [], laidByText := true, laidKinds := [.handle, .widerDeep, .widerDeep], laidTests := true, laidLooks := .later }
def VerifyCutsUptoCardSaid : Prop := Claim7.holds Tryd.pinned (.plain (OpenSpec.upto verifyCutsSpec)) verifyCutsUptoCard

/-- THE SECOND FORM's CARD OF 'sluicelaw2.VerifyTells'. -/
def verifyTellsUptoCard : Claim7 := { stood := { row := verifyTellsUptoRow, standIns := [], harness := (true, "304a43ea740643c47de5771d7531524e25e8027741e5edf3d2cbbdc104977606"), looks := true }, kinds := [], alts := [], laidByText := true, laidKinds := [.handle, .widerDeep, .widerDeep], laidTests := true, laidLooks := .later }
def VerifyTellsUptoCardSaid : Prop := Claim7.holds Tryd.pinned (.plain (OpenSpec.upto verifyTellsSpec)) verifyTellsUptoCard

/-- THE SECOND FORM's CARD OF 'sluicelaw3.SplitTells'. -/
def splitTellsUptoCard : Claim7 := { stood := { row := splitTellsUptoRow, standIns := [], harness := (true, "304a43ea740643c47de5771d7531524e25e8027741e5edf3d2cbbdc104977606"), looks := true }, kinds := [], alts := [], laidByText := true, laidKinds := [.handle], laidTests := true, laidLooks := .later }
def SplitTellsUptoCardSaid : Prop := Claim7.holds Tryd.pinned (.plain (OpenSpec.upto splitTellsSpec)) splitTellsUptoCard

/-- THE SECOND FORM's CARD OF 'sluicelaw2.VerifySound'. -/
def verifySoundUptoCard : Claim7 := { stood := { row := verifySoundUptoRow, standIns := [], harness := (true, "304a43ea740643c47de5771d7531524e25e8027741e5edf3d2cbbdc104977606"), looks := true }, kinds := [], alts := [], laidByText := true, laidKinds := [.handle, .widerDeep, .widerDeep], laidTests := true, laidLooks := .later }
def VerifySoundUptoCardSaid : Prop := Claim7.holds Tryd.pinned (.plain (OpenSpec.upto verifySoundSpec)) verifySoundUptoCard

/-- THE SECOND FORM's CARD OF 'sluicelaw2.VmFuel'. -/
def vmFuelUptoCard : Claim7 := { stood := { row := vmFuelUptoRow, standIns := [], harness := (true, "304a43ea740643c47de5771d7531524e25e8027741e5edf3d2cbbdc104977606"), looks := true }, kinds := [], alts := [], laidByText := true, laidKinds := [.handle, .widerDeep, .widerDeep], laidTests := true, laidLooks := .later }
def VmFuelUptoCardSaid : Prop := Claim7.holds Tryd.pinned (.plain (OpenSpec.upto vmFuelSpec)) vmFuelUptoCard
end Rows
end Go.Proofs.YtjnlonemnjljiaaDoor
