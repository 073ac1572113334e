/-
  DERIVED. GIVEN WITH THE SEED: THE CARDS: each row of YthmbafkedgahaaaGreatDoorRows.lean that lists a variable, with what it lists TIED to the program's text (the seventh form; the later family's looks); each row that meets fmt, with fmt's text TOLD by the authors' own Lean function (tested against real Go, not proved from fmt's source: count such statements apart). THE CARD IS WHAT COUNTS. Prove the row's statement (the work); the ties are given (YthmbafkedgahaaaGreatDoorTie.lean); close each card by the builder's one call (the guide's Derived/Test/ToyasCard.lean, 'card_holds'). Laid BY PROGRAM, IN A SANDBOX (cutbox-door.mjs). By AI agents, Wed Nov 11 2026. No macro, syntax, notation, axiom, sorry.
-/
import Derived.Test.YthmbafkedgahaaaGreatDoorRows
import GoSem.ClaimSeven
namespace Go.Proofs.YthmbafkedgahaaaGreatDoor
namespace Rows

/-- THE TIED CARD OF 'sluicelaw2.VmTells'. -/
def vmTellsCard : Claim7 := { stood := { row := vmTellsRow, standIns := [], harness := (true, "c9d09e0e20cb74e25b4d2836cb004e6ac5c88b61ccc39401715d828f0943f5f6"), looks := true }, kinds := [], alts := [], laidByText := true, laidKinds := [.handle, .widerDeep, .widerDeep], laidTests := true, laidLooks := .later }
def VmTellsCardSaid : Prop := Claim7.holds Tryz.pinned (.plain (OpenSpec.ofChange vmTellsSpec)) vmTellsCard

/-- THE TIED CARD OF 'sluicelaw1.EvalTells'. -/
def evalTellsCard : Claim7 := { stood := { row := evalTellsRow, standIns := [], harness := (true, "c9d09e0e20cb74e25b4d2836cb004e6ac5c88b61ccc39401715d828f0943f5f6"), looks := true }, kinds := [], alts := [], laidByText := true, laidKinds := [.handle, .widerDeep, .widerDeep, .widerDeep], laidTests := true, laidLooks := .later }
def EvalTellsCardSaid : Prop := Claim7.holds Tryz.pinned (.plain (OpenSpec.ofChange evalTellsSpec)) evalTellsCard

/-- THE TIED CARD OF 'sluicelaw2.CodeRuns'. -/
def codeRunsCard : Claim7 := { stood := { row := codeRunsRow, standIns := [], harness := (true, "c9d09e0e20cb74e25b4d2836cb004e6ac5c88b61ccc39401715d828f0943f5f6"), looks := true }, kinds := [], alts := [], laidByText := true, laidKinds := [.handle, .widerDeep, .widerDeep, .widerDeep], laidTests := true, laidLooks := .later }
def CodeRunsCardSaid : Prop := Claim7.holds Tryz.pinned (.plain (OpenSpec.ofChange codeRunsSpec)) codeRunsCard

/-- THE TIED CARD OF 'sluicelaw2.FoldTells'. -/
def foldTellsCard : Claim7 := { stood := { row := foldTellsRow, standIns := [], harness := (true, "c9d09e0e20cb74e25b4d2836cb004e6ac5c88b61ccc39401715d828f0943f5f6"), looks := true }, kinds := [], alts := [], laidByText := true, laidKinds := [.handle, .widerDeep, .widerDeep, .widerDeep], laidTests := true, laidLooks := .later }
def FoldTellsCardSaid : Prop := Claim7.holds Tryz.pinned (.plain (OpenSpec.ofChange foldTellsSpec)) foldTellsCard

/-- THE SECOND FORM's CARD OF 'sluicelaw2.VmTells'. -/
def vmTellsUptoCard : Claim7 := { stood := { row := vmTellsUptoRow, standIns := [], harness := (true, "c9d09e0e20cb74e25b4d2836cb004e6ac5c88b61ccc39401715d828f0943f5f6"), looks := true }, kinds := [], alts := [], laidByText := true, laidKinds := [.handle, .widerDeep, .widerDeep], laidTests := true, laidLooks := .later }
def VmTellsUptoCardSaid : Prop := Claim7.holds Tryz.pinned (.plain (OpenSpec.upto vmTellsSpec)) vmTellsUptoCard

/-- THE SECOND FORM's CARD OF 'sluicelaw1.EvalTells'. -/
def evalTellsUptoCard : Claim7 := { stood := { row := evalTellsUptoRow, standIns := [], harness := (true, "c9d09e0e20cb74e25b4d2836cb004e6ac5c88b61ccc39401715d828f0943f5f6"), looks := true }, kinds := [], alts := [], laidByText := true, laidKinds := [.handle, .widerDeep, .widerDeep, .widerDeep], laidTests := true, laidLooks := .later }
def EvalTellsUptoCardSaid : Prop := Claim7.holds Tryz.pinned (.plain (OpenSpec.upto evalTellsSpec)) evalTellsUptoCard

/-- THE SECOND FORM's CARD OF 'sluicelaw2.CodeRuns'. -/
def codeRunsUptoCard : Claim7 := { stood := { row := codeRunsUptoRow, standIns := [], harness := (true, "c9d09e0e20cb74e25b4d2836cb004e6ac5c88b61ccc39401715d828f0943f5f6"), looks := true }, kinds := [], alts := [], laidByText := true, laidKinds := [.handle, .widerDeep, .widerDeep, .widerDeep], laidTests := true, laidLooks := .later }
def CodeRunsUptoCardSaid : Prop := Claim7.holds Tryz.pinned (.plain (OpenSpec.upto codeRunsSpec)) codeRunsUptoCard

/-- THE SECOND FORM's CARD OF 'sluicelaw2.FoldTells'. -/
def foldTellsUptoCard : Claim7 := { stood := { row := foldTellsUptoRow, standIns := [], harness := (true, "c9d09e0e20cb74e25b4d2836cb004e6ac5c88b61ccc39401715d828f0943f5f6"), looks := true }, kinds := [], alts := [], laidByText := true, laidKinds := [.handle, .widerDeep, .widerDeep, .widerDeep], laidTests := true, laidLooks := .later }
def FoldTellsUptoCardSaid : Prop := Claim7.holds Tryz.pinned (.plain (OpenSpec.upto foldTellsSpec)) foldTellsUptoCard
end Rows
end Go.Proofs.YthmbafkedgahaaaGreatDoor
