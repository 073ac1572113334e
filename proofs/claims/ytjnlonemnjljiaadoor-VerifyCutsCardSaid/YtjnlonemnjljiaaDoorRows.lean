/-
  NARROWER THAN 'FOR EVERY INPUT', by the rows' own cells (each row's printed sentence says how): AggEdges: laid · VerifyCuts: laid · VerifyTells: laid · SplitTells: laid · VerifySound: laid · VmFuel: laid.
  DERIVED. THE GIVEN ROWS OF THIS SEAT. 6 by the template 'for every input the law returns true; each argument reads behind the call as it read before'; 0 by the template 'total and deterministic' (their statements: YtjnlonemnjljiaaDoorTotals.lean).
  GIVEN WITH THE SEED: the statements are not yours to turn. If you find one false, say at which input.
  Laid BY PROGRAM, IN A SANDBOX (cutbox-rows.mjs): the forced cells as the released guide's own fill.sh prints them over the translation e313a01906936310… (all of the seat's roots in one cut). By AI agents, Wed Nov 11 2026. No macro, syntax, notation, axiom, sorry.
-/
import Derived.Test.YtjnlonemnjljiaaDoorChecked
import GoSem.Claim
import GoSem.ClaimJoined
import GoSem.ClaimMapViews
import Derived.JoinedTies
import Derived.KernelRfl
namespace Go.Proofs.YtjnlonemnjljiaaDoor
/- THE CELL 'sum', in the pinned program and in every row, IS THE sha256 OF THE DUMP (.gsa) THAT YtjnlonemnjljiaaDoorProg.lean LOADS. Nothing in Lean hashes anything: it is a label: what it is worth is what the hold of that sum in a sandbox is worth. -/
noncomputable def Tryd.pinned : Pinned := { name := "ytjnlonemnjljiaadoor", sum := "e313a01906936310fc68377faee794bf3de014254d95779c5ae6c6796f1f4ef3", checked := Tryd.checked }
namespace Rows
def none {H : Type} : Left H := { results := [], args := [] }

/- WHAT THE LISTED PACKAGE-LEVEL VARIABLES READ AS WHEN THE CALL BEGINS. Each datum BY PROGRAM (the guide's laid-datum.mjs) off the statement by which the dump's own 'gosem.cut.vars' lays the variable. In a bare row this is a premise. The card (YtjnlonemnjljiaaDoorCards.lean) ties it to the program's text. -/
def laid_errors_errorType {H : Type} : DataW H := .iface "internal/reflectlite.rtype" (.agg [.ptr (.lit (.string [101, 114, 114, 111, 114]))])
def laid_sluicebook_tree_levels {H : Type} : DataW H := .agg [.slice [.lit (.string [111, 114])] [], .slice [.lit (.string [97, 110, 100])] [], .slice [.lit (.string [61]), .lit (.string [60, 62]), .lit (.string [60]), .lit (.string [60, 61]), .lit (.string [62]), .lit (.string [62, 61])] [], .slice [.lit (.string [43]), .lit (.string [45])] [], .slice [.lit (.string [42]), .lit (.string [47]), .lit (.string [37])] []]
def laid_sluicebook_kind_ops {H : Type} : DataW H := .agg [.lit (.string [111, 114]), .lit (.string [97, 110, 100]), .lit (.string [110, 111, 116]), .lit (.string [61]), .lit (.string [60, 62]), .lit (.string [60]), .lit (.string [60, 61]), .lit (.string [62]), .lit (.string [62, 61]), .lit (.string [43]), .lit (.string [45]), .lit (.string [42]), .lit (.string [47]), .lit (.string [37]), .lit (.string [110, 101, 103]), .lit (.string [108, 101, 110]), .lit (.string [105, 102])]

/-- 'sluicelaw4.AggEdges': WHATEVER THE INPUT: true; the input reads as it did. -/
def aggEdgesSpec : ChangeSpec := { name := "aggEdges", fn := fun _ => fun
  | [d1, d2, d3] => { results := [.lit (.bool true)], args := [d1, d2, d3] }
  | _ => none }
def aggEdgesRow : OpenClaim := { program := "ytjnlonemnjljiaadoor", sum := "e313a01906936310fc68377faee794bf3de014254d95779c5ae6c6796f1f4ef3", func := "sluicebook/sluicelaw4.AggEdges", spec := "aggEdges", inPlace := ["internal/reflectlite.ValueOf", "(internal/reflectlite.Value).Type", "(internal/reflectlite.Value).IsNil", "internal/reflectlite.TypeOf", "(internal/reflectlite.Value).Elem", "(internal/reflectlite.Value).Set", "math/bits.Add64", "internal/bytealg.abigen_runtime_cmpstring"], unfollowed := true, recurses := true, named := ["errors.errorType"], apart := false, laid := [("errors.errorType", laid_errors_errorType)] }
def AggEdgesSaid : Prop := aggEdgesRow.holds Tryd.pinned (OpenSpec.ofChange aggEdgesSpec)

/-- ITS FALSE NEIGHBOUR: 'it returns false'. Refute it at one input. -/
def aggEdgesWrong : ChangeSpec := { name := "aggEdges", fn := fun _ => fun
  | [d1, d2, d3] => { results := [.lit (.bool false)], args := [d1, d2, d3] }
  | _ => none }
def AggEdgesWrongFalsely : Prop := aggEdgesRow.holds Tryd.pinned (OpenSpec.ofChange aggEdgesWrong)

/-- 'sluicelaw4.VerifyCuts': WHATEVER THE INPUT: true; the input reads as it did. -/
def verifyCutsSpec : ChangeSpec := { name := "verifyCuts", fn := fun _ => fun
  | [d1, d2] => { results := [.lit (.bool true)], args := [d1, d2] }
  | _ => none }
def verifyCutsRow : OpenClaim := { program := "ytjnlonemnjljiaadoor", sum := "e313a01906936310fc68377faee794bf3de014254d95779c5ae6c6796f1f4ef3", func := "sluicebook/sluicelaw4.VerifyCuts", spec := "verifyCuts", inPlace := ["internal/reflectlite.ValueOf", "(internal/reflectlite.Value).Type", "(internal/reflectlite.Value).IsNil", "internal/reflectlite.TypeOf", "(internal/reflectlite.Value).Elem", "(internal/reflectlite.Value).Set"], unfollowed := true, recurses := true, named := ["sluicebook/kind.ops", "sluicebook/tree.levels", "errors.errorType"], apart := false, laid := [("errors.errorType", laid_errors_errorType), ("sluicebook/tree.levels", laid_sluicebook_tree_levels), ("sluicebook/kind.ops", laid_sluicebook_kind_ops)] }
def VerifyCutsSaid : Prop := verifyCutsRow.holds Tryd.pinned (OpenSpec.ofChange verifyCutsSpec)

/-- ITS FALSE NEIGHBOUR: 'it returns false'. Refute it at one input. -/
def verifyCutsWrong : ChangeSpec := { name := "verifyCuts", fn := fun _ => fun
  | [d1, d2] => { results := [.lit (.bool false)], args := [d1, d2] }
  | _ => none }
def VerifyCutsWrongFalsely : Prop := verifyCutsRow.holds Tryd.pinned (OpenSpec.ofChange verifyCutsWrong)

/-- 'sluicelaw2.VerifyTells': WHATEVER THE INPUT: true; the input reads as it did. -/
def verifyTellsSpec : ChangeSpec := { name := "verifyTells", fn := fun _ => fun
  | [d1, d2] => { results := [.lit (.bool true)], args := [d1, d2] }
  | _ => none }
def verifyTellsRow : OpenClaim := { program := "ytjnlonemnjljiaadoor", sum := "e313a01906936310fc68377faee794bf3de014254d95779c5ae6c6796f1f4ef3", func := "sluicebook/sluicelaw2.VerifyTells", spec := "verifyTells", inPlace := ["internal/reflectlite.ValueOf", "(internal/reflectlite.Value).Type", "(internal/reflectlite.Value).IsNil", "internal/reflectlite.TypeOf", "(internal/reflectlite.Value).Elem", "(internal/reflectlite.Value).Set"], unfollowed := true, recurses := true, named := ["sluicebook/kind.ops", "sluicebook/tree.levels", "errors.errorType"], apart := false, laid := [("errors.errorType", laid_errors_errorType), ("sluicebook/tree.levels", laid_sluicebook_tree_levels), ("sluicebook/kind.ops", laid_sluicebook_kind_ops)] }
def VerifyTellsSaid : Prop := verifyTellsRow.holds Tryd.pinned (OpenSpec.ofChange verifyTellsSpec)

/-- ITS FALSE NEIGHBOUR: 'it returns false'. Refute it at one input. -/
def verifyTellsWrong : ChangeSpec := { name := "verifyTells", fn := fun _ => fun
  | [d1, d2] => { results := [.lit (.bool false)], args := [d1, d2] }
  | _ => none }
def VerifyTellsWrongFalsely : Prop := verifyTellsRow.holds Tryd.pinned (OpenSpec.ofChange verifyTellsWrong)

/-- 'sluicelaw3.SplitTells': WHATEVER THE INPUT: true; the input reads as it did. -/
def splitTellsSpec : ChangeSpec := { name := "splitTells", fn := fun _ => fun
  | [d1, d2, d3, d4, d5] => { results := [.lit (.bool true)], args := [d1, d2, d3, d4, d5] }
  | _ => none }
def splitTellsRow : OpenClaim := { program := "ytjnlonemnjljiaadoor", sum := "e313a01906936310fc68377faee794bf3de014254d95779c5ae6c6796f1f4ef3", func := "sluicebook/sluicelaw3.SplitTells", spec := "splitTells", inPlace := ["internal/reflectlite.ValueOf", "(internal/reflectlite.Value).Type", "(internal/reflectlite.Value).IsNil", "internal/reflectlite.TypeOf", "(internal/reflectlite.Value).Elem", "(internal/reflectlite.Value).Set", "internal/bytealg.abigen_runtime_cmpstring"], unfollowed := true, recurses := true, named := ["errors.errorType"], apart := false, laid := [("errors.errorType", laid_errors_errorType)] }
def SplitTellsSaid : Prop := splitTellsRow.holds Tryd.pinned (OpenSpec.ofChange splitTellsSpec)

/-- ITS FALSE NEIGHBOUR: 'it returns false'. Refute it at one input. -/
def splitTellsWrong : ChangeSpec := { name := "splitTells", fn := fun _ => fun
  | [d1, d2, d3, d4, d5] => { results := [.lit (.bool false)], args := [d1, d2, d3, d4, d5] }
  | _ => none }
def SplitTellsWrongFalsely : Prop := splitTellsRow.holds Tryd.pinned (OpenSpec.ofChange splitTellsWrong)

/-- 'sluicelaw2.VerifySound': WHATEVER THE INPUT: true; the input reads as it did. -/
def verifySoundSpec : ChangeSpec := { name := "verifySound", fn := fun _ => fun
  | [d1, d2, d3] => { results := [.lit (.bool true)], args := [d1, d2, d3] }
  | _ => none }
def verifySoundRow : OpenClaim := { program := "ytjnlonemnjljiaadoor", sum := "e313a01906936310fc68377faee794bf3de014254d95779c5ae6c6796f1f4ef3", func := "sluicebook/sluicelaw2.VerifySound", spec := "verifySound", inPlace := ["internal/bytealg.abigen_runtime_cmpstring", "internal/reflectlite.ValueOf", "(internal/reflectlite.Value).Type", "(internal/reflectlite.Value).IsNil", "internal/reflectlite.TypeOf", "(internal/reflectlite.Value).Elem", "(internal/reflectlite.Value).Set"], unfollowed := true, recurses := true, named := ["sluicebook/kind.ops", "sluicebook/tree.levels", "errors.errorType"], apart := false, laid := [("errors.errorType", laid_errors_errorType), ("sluicebook/tree.levels", laid_sluicebook_tree_levels), ("sluicebook/kind.ops", laid_sluicebook_kind_ops)] }
def VerifySoundSaid : Prop := verifySoundRow.holds Tryd.pinned (OpenSpec.ofChange verifySoundSpec)

/-- ITS FALSE NEIGHBOUR: 'it returns false'. Refute it at one input. -/
def verifySoundWrong : ChangeSpec := { name := "verifySound", fn := fun _ => fun
  | [d1, d2, d3] => { results := [.lit (.bool false)], args := [d1, d2, d3] }
  | _ => none }
def VerifySoundWrongFalsely : Prop := verifySoundRow.holds Tryd.pinned (OpenSpec.ofChange verifySoundWrong)

/-- 'sluicelaw2.VmFuel': WHATEVER THE INPUT: true; the input reads as it did. -/
def vmFuelSpec : ChangeSpec := { name := "vmFuel", fn := fun _ => fun
  | [d1, d2, d3] => { results := [.lit (.bool true)], args := [d1, d2, d3] }
  | _ => none }
def vmFuelRow : OpenClaim := { program := "ytjnlonemnjljiaadoor", sum := "e313a01906936310fc68377faee794bf3de014254d95779c5ae6c6796f1f4ef3", func := "sluicebook/sluicelaw2.VmFuel", spec := "vmFuel", inPlace := ["internal/bytealg.abigen_runtime_cmpstring", "internal/reflectlite.ValueOf", "(internal/reflectlite.Value).Type", "(internal/reflectlite.Value).IsNil", "internal/reflectlite.TypeOf", "(internal/reflectlite.Value).Elem", "(internal/reflectlite.Value).Set"], unfollowed := true, recurses := true, named := ["sluicebook/kind.ops", "sluicebook/tree.levels", "errors.errorType"], apart := false, laid := [("errors.errorType", laid_errors_errorType), ("sluicebook/tree.levels", laid_sluicebook_tree_levels), ("sluicebook/kind.ops", laid_sluicebook_kind_ops)] }
def VmFuelSaid : Prop := vmFuelRow.holds Tryd.pinned (OpenSpec.ofChange vmFuelSpec)

/-- ITS FALSE NEIGHBOUR: 'it returns false'. Refute it at one input. -/
def vmFuelWrong : ChangeSpec := { name := "vmFuel", fn := fun _ => fun
  | [d1, d2, d3] => { results := [.lit (.bool false)], args := [d1, d2, d3] }
  | _ => none }
def VmFuelWrongFalsely : Prop := vmFuelRow.holds Tryd.pinned (OpenSpec.ofChange vmFuelWrong)

/- THE SECOND FORM. 'bulk': how many values and letters a reading holds, each counted each time it is reached (what is shared counts as often as it is met; a slice's spare places count too). A statement '..UptoSaid' is the law's where the arguments, and the package variables that the reading takes, are together of bulk at most 1048576: NARROWER than '..Said'. Prove '..Said' where nothing that the law and all that it calls make is longer than what came in: it says more and counts as full. Else prove '..UptoSaid'. A law counts once. -/
mutual
def uptoBulk {H : Type} : DataW H → Nat
  | .lit (.string bytes) => bytes.length + 1
  | .lit _ => 1
  | .nil => 1
  | .ptr d => uptoBulk d + 1
  | .slice elems spare => uptoBulkAll elems + uptoBulkAll spare + 1
  | .agg parts => uptoBulkAll parts + 1
  | .iface _ d => uptoBulk d + 1
  | .map entries => uptoBulkEntries entries + 1
  | .held _ => 1
def uptoBulkAll {H : Type} : List (DataW H) → Nat
  | [] => 0
  | d :: r => uptoBulk d + uptoBulkAll r
def uptoBulkEntries {H : Type} : List (Lit × DataW H) → Nat
  | [] => 0
  | x :: r => uptoBulkEntry x + uptoBulkEntries r
def uptoBulkEntry {H : Type} : Lit × DataW H → Nat
  | (.string bytes, d) => bytes.length + uptoBulk d + 1
  | (_, d) => uptoBulk d + 1
 end
def uptoSmall : (H : Type) → List (DataW H) → Bool := fun _ ds => decide (uptoBulkAll ds ≤ 1048576)
def OpenSpec.upto (s : _root_.Go.ChangeSpec) : _root_.Go.OpenSpec := { _root_.Go.OpenSpec.ofChange s with cond := some uptoSmall }

/-- 'sluicelaw4.AggEdges', WHERE WHAT IT READS IS OF BULK AT MOST 1048576: true; the input reads as it did. -/
def aggEdgesUptoRow : OpenClaim := { program := "ytjnlonemnjljiaadoor", sum := "e313a01906936310fc68377faee794bf3de014254d95779c5ae6c6796f1f4ef3", func := "sluicebook/sluicelaw4.AggEdges", spec := "aggEdges", inPlace := ["internal/reflectlite.ValueOf", "(internal/reflectlite.Value).Type", "(internal/reflectlite.Value).IsNil", "internal/reflectlite.TypeOf", "(internal/reflectlite.Value).Elem", "(internal/reflectlite.Value).Set", "math/bits.Add64", "internal/bytealg.abigen_runtime_cmpstring"], unfollowed := true, recurses := true, named := ["errors.errorType"], apart := false, laid := [("errors.errorType", laid_errors_errorType)], narrowed := true }
def AggEdgesUptoSaid : Prop := aggEdgesUptoRow.holds Tryd.pinned (OpenSpec.upto aggEdgesSpec)

/-- 'sluicelaw4.VerifyCuts', WHERE WHAT IT READS IS OF BULK AT MOST 1048576: true; the input reads as it did. -/
def verifyCutsUptoRow : OpenClaim := { program := "ytjnlonemnjljiaadoor", sum := "e313a01906936310fc68377faee794bf3de014254d95779c5ae6c6796f1f4ef3", func := "sluicebook/sluicelaw4.VerifyCuts", spec := "verifyCuts", inPlace := ["internal/reflectlite.ValueOf", "(internal/reflectlite.Value).Type", "(internal/reflectlite.Value).IsNil", "internal/reflectlite.TypeOf", "(internal/reflectlite.Value).Elem", "(internal/reflectlite.Value).Set"], unfollowed := true, recurses := true, named := ["sluicebook/kind.ops", "sluicebook/tree.levels", "errors.errorType"], apart := false, laid := [("errors.errorType", laid_errors_errorType), ("sluicebook/tree.levels", laid_sluicebook_tree_levels), ("sluicebook/kind.ops", laid_sluicebook_kind_ops)], narrowed := true }
def VerifyCutsUptoSaid : Prop := verifyCutsUptoRow.holds Tryd.pinned (OpenSpec.upto verifyCutsSpec)

/-- 'sluicelaw2.VerifyTells', WHERE WHAT IT READS IS OF BULK AT MOST 1048576: true; the input reads as it did. -/
def verifyTellsUptoRow : OpenClaim := { program := "ytjnlonemnjljiaadoor", sum := "e313a01906936310fc68377faee794bf3de014254d95779c5ae6c6796f1f4ef3", func := "sluicebook/sluicelaw2.VerifyTells", spec := "verifyTells", inPlace := ["internal/reflectlite.ValueOf", "(internal/reflectlite.Value).Type", "(internal/reflectlite.Value).IsNil", "internal/reflectlite.TypeOf", "(internal/reflectlite.Value).Elem", "(internal/reflectlite.Value).Set"], unfollowed := true, recurses := true, named := ["sluicebook/kind.ops", "sluicebook/tree.levels", "errors.errorType"], apart := false, laid := [("errors.errorType", laid_errors_errorType), ("sluicebook/tree.levels", laid_sluicebook_tree_levels), ("sluicebook/kind.ops", laid_sluicebook_kind_ops)], narrowed := true }
def VerifyTellsUptoSaid : Prop := verifyTellsUptoRow.holds Tryd.pinned (OpenSpec.upto verifyTellsSpec)

/-- 'sluicelaw3.SplitTells', WHERE WHAT IT READS IS OF BULK AT MOST 1048576: true; the input reads as it did. -/
def splitTellsUptoRow : OpenClaim := { program := "ytjnlonemnjljiaadoor", sum := "e313a01906936310fc68377faee794bf3de014254d95779c5ae6c6796f1f4ef3", func := "sluicebook/sluicelaw3.SplitTells", spec := "splitTells", inPlace := ["internal/reflectlite.ValueOf", "(internal/reflectlite.Value).Type", "(internal/reflectlite.Value).IsNil", "internal/reflectlite.TypeOf", "(internal/reflectlite.Value).Elem", "(internal/reflectlite.Value).Set", "internal/bytealg.abigen_runtime_cmpstring"], unfollowed := true, recurses := true, named := ["errors.errorType"], apart := false, laid := [("errors.errorType", laid_errors_errorType)], narrowed := true }
def SplitTellsUptoSaid : Prop := splitTellsUptoRow.holds Tryd.pinned (OpenSpec.upto splitTellsSpec)

/-- 'sluicelaw2.VerifySound', WHERE WHAT IT READS IS OF BULK AT MOST 1048576: true; the input reads as it did. -/
def verifySoundUptoRow : OpenClaim := { program := "ytjnlonemnjljiaadoor", sum := "e313a01906936310fc68377faee794bf3de014254d95779c5ae6c6796f1f4ef3", func := "sluicebook/sluicelaw2.VerifySound", spec := "verifySound", inPlace := ["internal/bytealg.abigen_runtime_cmpstring", "internal/reflectlite.ValueOf", "(internal/reflectlite.Value).Type", "(internal/reflectlite.Value).IsNil", "internal/reflectlite.TypeOf", "(internal/reflectlite.Value).Elem", "(internal/reflectlite.Value).Set"], unfollowed := true, recurses := true, named := ["sluicebook/kind.ops", "sluicebook/tree.levels", "errors.errorType"], apart := false, laid := [("errors.errorType", laid_errors_errorType), ("sluicebook/tree.levels", laid_sluicebook_tree_levels), ("sluicebook/kind.ops", laid_sluicebook_kind_ops)], narrowed := true }
def VerifySoundUptoSaid : Prop := verifySoundUptoRow.holds Tryd.pinned (OpenSpec.upto verifySoundSpec)

/-- 'sluicelaw2.VmFuel', WHERE WHAT IT READS IS OF BULK AT MOST 1048576: true; the input reads as it did. -/
def vmFuelUptoRow : OpenClaim := { program := "ytjnlonemnjljiaadoor", sum := "e313a01906936310fc68377faee794bf3de014254d95779c5ae6c6796f1f4ef3", func := "sluicebook/sluicelaw2.VmFuel", spec := "vmFuel", inPlace := ["internal/bytealg.abigen_runtime_cmpstring", "internal/reflectlite.ValueOf", "(internal/reflectlite.Value).Type", "(internal/reflectlite.Value).IsNil", "internal/reflectlite.TypeOf", "(internal/reflectlite.Value).Elem", "(internal/reflectlite.Value).Set"], unfollowed := true, recurses := true, named := ["sluicebook/kind.ops", "sluicebook/tree.levels", "errors.errorType"], apart := false, laid := [("errors.errorType", laid_errors_errorType), ("sluicebook/tree.levels", laid_sluicebook_tree_levels), ("sluicebook/kind.ops", laid_sluicebook_kind_ops)], narrowed := true }
def VmFuelUptoSaid : Prop := vmFuelUptoRow.holds Tryd.pinned (OpenSpec.upto vmFuelSpec)

end Rows
end Go.Proofs.YtjnlonemnjljiaaDoor
