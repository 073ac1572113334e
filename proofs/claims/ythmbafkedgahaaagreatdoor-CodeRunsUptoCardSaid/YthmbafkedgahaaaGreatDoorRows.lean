/-
  NARROWER THAN 'FOR EVERY INPUT', by the rows' own cells (each row's printed sentence says how): VmTells: laid · EvalTells: loops, laid · CodeRuns: loops, laid · FoldTells: loops, laid.
  DERIVED. THE GIVEN ROWS OF THIS SEAT. 4 by the template 'for every input the law returns true; each argument reads behind the call as it read before'; 0 by the template 'total and deterministic' (their statements: YthmbafkedgahaaaGreatDoorTotals.lean).
  GIVEN WITH THE SEED: the statements are not yours to turn. If you find one false, say at which input.
  Laid BY PROGRAM, IN A SANDBOX (cutbox-rows.mjs): the forced cells as the released guide's own fill.sh prints them over the translation 9bda174407517be9… (all of the seat's roots in one cut). By AI agents, Wed Nov 11 2026. No macro, syntax, notation, axiom, sorry.
-/
import Derived.Test.YthmbafkedgahaaaGreatDoorChecked
import GoSem.Claim
import GoSem.ClaimJoined
import GoSem.ClaimMapViews
import Derived.JoinedTies
import Derived.KernelRfl
namespace Go.Proofs.YthmbafkedgahaaaGreatDoor
/- THE CELL 'sum', in the pinned program and in every row, IS THE sha256 OF THE DUMP (.gsa) THAT YthmbafkedgahaaaGreatDoorProg.lean LOADS. Nothing in Lean hashes anything: it is a label: what it is worth is what the hold of that sum in a sandbox is worth. -/
noncomputable def Tryz.pinned : Pinned := { name := "ythmbafkedgahaaagreatdoor", sum := "9bda174407517be9ebe308c129b6ec17ca449cec264314967ffdd3284b1a14c7", checked := Tryz.checked }
namespace Rows
def none {H : Type} : Left H := { results := [], args := [] }

/- WHAT THE LISTED PACKAGE-LEVEL VARIABLES READ AS WHEN THE CALL BEGINS. Each datum BY PROGRAM (the guide's laid-datum.mjs) off the statement by which the dump's own 'gosem.cut.vars' lays the variable. In a bare row this is a premise. The card (YthmbafkedgahaaaGreatDoorCards.lean) ties it to the program's text. -/
def laid_errors_errorType {H : Type} : DataW H := .iface "internal/reflectlite.rtype" (.agg [.ptr (.lit (.string [101, 114, 114, 111, 114]))])
def laid_sluicebook_tree_levels {H : Type} : DataW H := .agg [.slice [.lit (.string [111, 114])] [], .slice [.lit (.string [97, 110, 100])] [], .slice [.lit (.string [61]), .lit (.string [60, 62]), .lit (.string [60]), .lit (.string [60, 61]), .lit (.string [62]), .lit (.string [62, 61])] [], .slice [.lit (.string [43]), .lit (.string [45])] [], .slice [.lit (.string [42]), .lit (.string [47]), .lit (.string [37])] []]
def laid_sluicebook_kind_ops {H : Type} : DataW H := .agg [.lit (.string [111, 114]), .lit (.string [97, 110, 100]), .lit (.string [110, 111, 116]), .lit (.string [61]), .lit (.string [60, 62]), .lit (.string [60]), .lit (.string [60, 61]), .lit (.string [62]), .lit (.string [62, 61]), .lit (.string [43]), .lit (.string [45]), .lit (.string [42]), .lit (.string [47]), .lit (.string [37]), .lit (.string [110, 101, 103]), .lit (.string [108, 101, 110]), .lit (.string [105, 102])]
def laid_sluicebook_tree_words {H : Type} : DataW H := .agg [.lit (.string [111, 114]), .lit (.string [97, 110, 100]), .lit (.string [110, 111, 116]), .lit (.string [116, 114, 117, 101]), .lit (.string [102, 97, 108, 115, 101]), .lit (.string [108, 101, 110]), .lit (.string [105, 102]), .lit (.string [115, 101, 108, 101, 99, 116]), .lit (.string [97, 115]), .lit (.string [102, 114, 111, 109]), .lit (.string [119, 104, 101, 114, 101]), .lit (.string [103, 114, 111, 117, 112]), .lit (.string [98, 121]), .lit (.string [119, 105, 110, 100, 111, 119]), .lit (.string [115, 108, 105, 100, 101]), .lit (.string [99, 111, 117, 110, 116]), .lit (.string [115, 117, 109]), .lit (.string [108, 101, 97, 115, 116]), .lit (.string [109, 111, 115, 116])]

/-- 'sluicelaw2.VmTells': WHATEVER THE INPUT: true; the input reads as it did. -/
def vmTellsSpec : ChangeSpec := { name := "vmTells", fn := fun _ => fun
  | [d1, d2, d3, d4] => { results := [.lit (.bool true)], args := [d1, d2, d3, d4] }
  | _ => none }
def vmTellsRow : OpenClaim := { program := "ythmbafkedgahaaagreatdoor", sum := "9bda174407517be9ebe308c129b6ec17ca449cec264314967ffdd3284b1a14c7", func := "sluicebook/sluicelaw2.VmTells", spec := "vmTells", inPlace := ["internal/bytealg.abigen_runtime_cmpstring", "internal/reflectlite.ValueOf", "(internal/reflectlite.Value).Type", "(internal/reflectlite.Value).IsNil", "internal/reflectlite.TypeOf", "(internal/reflectlite.Value).Elem", "(internal/reflectlite.Value).Set"], unfollowed := true, recurses := true, named := ["sluicebook/kind.ops", "sluicebook/tree.levels", "errors.errorType"], apart := false, laid := [("errors.errorType", laid_errors_errorType), ("sluicebook/tree.levels", laid_sluicebook_tree_levels), ("sluicebook/kind.ops", laid_sluicebook_kind_ops)] }
def VmTellsSaid : Prop := vmTellsRow.holds Tryz.pinned (OpenSpec.ofChange vmTellsSpec)

/-- ITS FALSE NEIGHBOUR: 'it returns false'. Refute it at one input. -/
def vmTellsWrong : ChangeSpec := { name := "vmTells", fn := fun _ => fun
  | [d1, d2, d3, d4] => { results := [.lit (.bool false)], args := [d1, d2, d3, d4] }
  | _ => none }
def VmTellsWrongFalsely : Prop := vmTellsRow.holds Tryz.pinned (OpenSpec.ofChange vmTellsWrong)

/-- 'sluicelaw1.EvalTells': WHATEVER THE INPUT: true; the input reads as it did. -/
def evalTellsSpec : ChangeSpec := { name := "evalTells", fn := fun _ => fun
  | [d1, d2, d3, d4, d5] => { results := [.lit (.bool true)], args := [d1, d2, d3, d4, d5] }
  | _ => none }
def evalTellsRow : OpenClaim := { program := "ythmbafkedgahaaagreatdoor", sum := "9bda174407517be9ebe308c129b6ec17ca449cec264314967ffdd3284b1a14c7", func := "sluicebook/sluicelaw1.EvalTells", spec := "evalTells", inPlace := ["internal/bytealg.abigen_runtime_cmpstring", "internal/reflectlite.ValueOf", "(internal/reflectlite.Value).Type", "(internal/reflectlite.Value).IsNil", "internal/reflectlite.TypeOf", "(internal/reflectlite.Value).Elem", "(internal/reflectlite.Value).Set"], unfollowed := true, recurses := true, named := ["sluicebook/kind.ops", "sluicebook/tree.levels", "errors.errorType", "sluicebook/tree.words"], loops := true, apart := false, laid := [("errors.errorType", laid_errors_errorType), ("sluicebook/tree.words", laid_sluicebook_tree_words), ("sluicebook/tree.levels", laid_sluicebook_tree_levels), ("sluicebook/kind.ops", laid_sluicebook_kind_ops)] }
def EvalTellsSaid : Prop := evalTellsRow.holds Tryz.pinned (OpenSpec.ofChange evalTellsSpec)

/-- ITS FALSE NEIGHBOUR: 'it returns false'. Refute it at one input. -/
def evalTellsWrong : ChangeSpec := { name := "evalTells", fn := fun _ => fun
  | [d1, d2, d3, d4, d5] => { results := [.lit (.bool false)], args := [d1, d2, d3, d4, d5] }
  | _ => none }
def EvalTellsWrongFalsely : Prop := evalTellsRow.holds Tryz.pinned (OpenSpec.ofChange evalTellsWrong)

/-- 'sluicelaw2.CodeRuns': WHATEVER THE INPUT: true; the input reads as it did. -/
def codeRunsSpec : ChangeSpec := { name := "codeRuns", fn := fun _ => fun
  | [d1, d2, d3] => { results := [.lit (.bool true)], args := [d1, d2, d3] }
  | _ => none }
def codeRunsRow : OpenClaim := { program := "ythmbafkedgahaaagreatdoor", sum := "9bda174407517be9ebe308c129b6ec17ca449cec264314967ffdd3284b1a14c7", func := "sluicebook/sluicelaw2.CodeRuns", spec := "codeRuns", inPlace := ["internal/bytealg.abigen_runtime_cmpstring", "internal/reflectlite.ValueOf", "(internal/reflectlite.Value).Type", "(internal/reflectlite.Value).IsNil", "internal/reflectlite.TypeOf", "(internal/reflectlite.Value).Elem", "(internal/reflectlite.Value).Set"], unfollowed := true, recurses := true, named := ["sluicebook/tree.levels", "sluicebook/tree.words", "sluicebook/kind.ops", "errors.errorType"], loops := true, apart := false, laid := [("errors.errorType", laid_errors_errorType), ("sluicebook/tree.words", laid_sluicebook_tree_words), ("sluicebook/tree.levels", laid_sluicebook_tree_levels), ("sluicebook/kind.ops", laid_sluicebook_kind_ops)] }
def CodeRunsSaid : Prop := codeRunsRow.holds Tryz.pinned (OpenSpec.ofChange codeRunsSpec)

/-- ITS FALSE NEIGHBOUR: 'it returns false'. Refute it at one input. -/
def codeRunsWrong : ChangeSpec := { name := "codeRuns", fn := fun _ => fun
  | [d1, d2, d3] => { results := [.lit (.bool false)], args := [d1, d2, d3] }
  | _ => none }
def CodeRunsWrongFalsely : Prop := codeRunsRow.holds Tryz.pinned (OpenSpec.ofChange codeRunsWrong)

/-- 'sluicelaw2.FoldTells': WHATEVER THE INPUT: true; the input reads as it did. -/
def foldTellsSpec : ChangeSpec := { name := "foldTells", fn := fun _ => fun
  | [d1, d2] => { results := [.lit (.bool true)], args := [d1, d2] }
  | _ => none }
def foldTellsRow : OpenClaim := { program := "ythmbafkedgahaaagreatdoor", sum := "9bda174407517be9ebe308c129b6ec17ca449cec264314967ffdd3284b1a14c7", func := "sluicebook/sluicelaw2.FoldTells", spec := "foldTells", inPlace := ["internal/bytealg.abigen_runtime_cmpstring", "internal/reflectlite.ValueOf", "(internal/reflectlite.Value).Type", "(internal/reflectlite.Value).IsNil", "internal/reflectlite.TypeOf", "(internal/reflectlite.Value).Elem", "(internal/reflectlite.Value).Set"], unfollowed := true, recurses := true, named := ["sluicebook/tree.levels", "sluicebook/tree.words", "sluicebook/kind.ops", "errors.errorType"], loops := true, apart := false, laid := [("errors.errorType", laid_errors_errorType), ("sluicebook/tree.words", laid_sluicebook_tree_words), ("sluicebook/tree.levels", laid_sluicebook_tree_levels), ("sluicebook/kind.ops", laid_sluicebook_kind_ops)] }
def FoldTellsSaid : Prop := foldTellsRow.holds Tryz.pinned (OpenSpec.ofChange foldTellsSpec)

/-- ITS FALSE NEIGHBOUR: 'it returns false'. Refute it at one input. -/
def foldTellsWrong : ChangeSpec := { name := "foldTells", fn := fun _ => fun
  | [d1, d2] => { results := [.lit (.bool false)], args := [d1, d2] }
  | _ => none }
def FoldTellsWrongFalsely : Prop := foldTellsRow.holds Tryz.pinned (OpenSpec.ofChange foldTellsWrong)

/- THE SECOND FORM. 'bulk': how many values and letters a reading holds, each counted each time it is reached (what is shared counts as often as it is met; a slice's spare places count too). A statement '..UptoSaid' is the law's where the arguments, and the package variables that the reading takes, are together of bulk at most 1048576: NARROWER than '..Said'. Prove '..Said' where nothing that the law and all that it calls make is longer than what came in: it says more and counts as full. Else prove '..UptoSaid'. A law counts once. -/
mutual
def uptoBulk {H : Type} : DataW H → Nat
  | .lit (.string bytes) => bytes.length + 1
  | .lit _ => 1
  | .nil => 1
  | .ptr d => uptoBulk d + 1
  | .slice elems spare => uptoBulkAll elems + uptoBulkAll spare + 1
  | .agg parts => uptoBulkAll parts + 1
  | .iface _ d => uptoBulk d + 1
  | .map entries => uptoBulkEntries entries + 1
  | .held _ => 1
def uptoBulkAll {H : Type} : List (DataW H) → Nat
  | [] => 0
  | d :: r => uptoBulk d + uptoBulkAll r
def uptoBulkEntries {H : Type} : List (Lit × DataW H) → Nat
  | [] => 0
  | x :: r => uptoBulkEntry x + uptoBulkEntries r
def uptoBulkEntry {H : Type} : Lit × DataW H → Nat
  | (.string bytes, d) => bytes.length + uptoBulk d + 1
  | (_, d) => uptoBulk d + 1
 end
def uptoSmall : (H : Type) → List (DataW H) → Bool := fun _ ds => decide (uptoBulkAll ds ≤ 1048576)
def OpenSpec.upto (s : _root_.Go.ChangeSpec) : _root_.Go.OpenSpec := { _root_.Go.OpenSpec.ofChange s with cond := some uptoSmall }

/-- 'sluicelaw2.VmTells', WHERE WHAT IT READS IS OF BULK AT MOST 1048576: true; the input reads as it did. -/
def vmTellsUptoRow : OpenClaim := { program := "ythmbafkedgahaaagreatdoor", sum := "9bda174407517be9ebe308c129b6ec17ca449cec264314967ffdd3284b1a14c7", func := "sluicebook/sluicelaw2.VmTells", spec := "vmTells", inPlace := ["internal/bytealg.abigen_runtime_cmpstring", "internal/reflectlite.ValueOf", "(internal/reflectlite.Value).Type", "(internal/reflectlite.Value).IsNil", "internal/reflectlite.TypeOf", "(internal/reflectlite.Value).Elem", "(internal/reflectlite.Value).Set"], unfollowed := true, recurses := true, named := ["sluicebook/kind.ops", "sluicebook/tree.levels", "errors.errorType"], apart := false, laid := [("errors.errorType", laid_errors_errorType), ("sluicebook/tree.levels", laid_sluicebook_tree_levels), ("sluicebook/kind.ops", laid_sluicebook_kind_ops)], narrowed := true }
def VmTellsUptoSaid : Prop := vmTellsUptoRow.holds Tryz.pinned (OpenSpec.upto vmTellsSpec)

/-- 'sluicelaw1.EvalTells', WHERE WHAT IT READS IS OF BULK AT MOST 1048576: true; the input reads as it did. -/
def evalTellsUptoRow : OpenClaim := { program := "ythmbafkedgahaaagreatdoor", sum := "9bda174407517be9ebe308c129b6ec17ca449cec264314967ffdd3284b1a14c7", func := "sluicebook/sluicelaw1.EvalTells", spec := "evalTells", inPlace := ["internal/bytealg.abigen_runtime_cmpstring", "internal/reflectlite.ValueOf", "(internal/reflectlite.Value).Type", "(internal/reflectlite.Value).IsNil", "internal/reflectlite.TypeOf", "(internal/reflectlite.Value).Elem", "(internal/reflectlite.Value).Set"], unfollowed := true, recurses := true, named := ["sluicebook/kind.ops", "sluicebook/tree.levels", "errors.errorType", "sluicebook/tree.words"], loops := true, apart := false, laid := [("errors.errorType", laid_errors_errorType), ("sluicebook/tree.words", laid_sluicebook_tree_words), ("sluicebook/tree.levels", laid_sluicebook_tree_levels), ("sluicebook/kind.ops", laid_sluicebook_kind_ops)], narrowed := true }
def EvalTellsUptoSaid : Prop := evalTellsUptoRow.holds Tryz.pinned (OpenSpec.upto evalTellsSpec)

/-- 'sluicelaw2.CodeRuns', WHERE WHAT IT READS IS OF BULK AT MOST 1048576: true; the input reads as it did. -/
def codeRunsUptoRow : OpenClaim := { program := "ythmbafkedgahaaagreatdoor", sum := "9bda174407517be9ebe308c129b6ec17ca449cec264314967ffdd3284b1a14c7", func := "sluicebook/sluicelaw2.CodeRuns", spec := "codeRuns", inPlace := ["internal/bytealg.abigen_runtime_cmpstring", "internal/reflectlite.ValueOf", "(internal/reflectlite.Value).Type", "(internal/reflectlite.Value).IsNil", "internal/reflectlite.TypeOf", "(internal/reflectlite.Value).Elem", "(internal/reflectlite.Value).Set"], unfollowed := true, recurses := true, named := ["sluicebook/tree.levels", "sluicebook/tree.words", "sluicebook/kind.ops", "errors.errorType"], loops := true, apart := false, laid := [("errors.errorType", laid_errors_errorType), ("sluicebook/tree.words", laid_sluicebook_tree_words), ("sluicebook/tree.levels", laid_sluicebook_tree_levels), ("sluicebook/kind.ops", laid_sluicebook_kind_ops)], narrowed := true }
def CodeRunsUptoSaid : Prop := codeRunsUptoRow.holds Tryz.pinned (OpenSpec.upto codeRunsSpec)

/-- 'sluicelaw2.FoldTells', WHERE WHAT IT READS IS OF BULK AT MOST 1048576: true; the input reads as it did. -/
def foldTellsUptoRow : OpenClaim := { program := "ythmbafkedgahaaagreatdoor", sum := "9bda174407517be9ebe308c129b6ec17ca449cec264314967ffdd3284b1a14c7", func := "sluicebook/sluicelaw2.FoldTells", spec := "foldTells", inPlace := ["internal/bytealg.abigen_runtime_cmpstring", "internal/reflectlite.ValueOf", "(internal/reflectlite.Value).Type", "(internal/reflectlite.Value).IsNil", "internal/reflectlite.TypeOf", "(internal/reflectlite.Value).Elem", "(internal/reflectlite.Value).Set"], unfollowed := true, recurses := true, named := ["sluicebook/tree.levels", "sluicebook/tree.words", "sluicebook/kind.ops", "errors.errorType"], loops := true, apart := false, laid := [("errors.errorType", laid_errors_errorType), ("sluicebook/tree.words", laid_sluicebook_tree_words), ("sluicebook/tree.levels", laid_sluicebook_tree_levels), ("sluicebook/kind.ops", laid_sluicebook_kind_ops)], narrowed := true }
def FoldTellsUptoSaid : Prop := foldTellsUptoRow.holds Tryz.pinned (OpenSpec.upto foldTellsSpec)

end Rows
end Go.Proofs.YthmbafkedgahaaaGreatDoor
