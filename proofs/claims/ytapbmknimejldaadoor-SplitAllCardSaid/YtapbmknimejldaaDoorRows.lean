/-
  NARROWER THAN 'FOR EVERY INPUT', by the rows' own cells (each row's printed sentence says how): SplitAll: laid · KindParts: loops, laid · AggTells: loops, laid · AggAny: loops, laid · KindTells: loops, laid · AggEdges: laid · EvalSides: loops, laid · KindHolds: loops, laid.
  DERIVED. THE GIVEN ROWS OF THIS SEAT. 8 by the template 'for every input the law returns true; each argument reads behind the call as it read before'; 0 by the template 'total and deterministic' (their statements: YtapbmknimejldaaDoorTotals.lean).
  GIVEN WITH THE SEED: the statements are not yours to turn. If you find one false, say at which input.
  Laid BY PROGRAM, IN A SANDBOX (cutbox-rows.mjs): the forced cells as the released guide's own fill.sh prints them over the translation f863b6dbb487bc2c… (all of the seat's roots in one cut). By AI agents, Wed Nov 11 2026. No macro, syntax, notation, axiom, sorry.
-/
import Derived.Test.YtapbmknimejldaaDoorChecked
import GoSem.Claim
import GoSem.ClaimJoined
import GoSem.ClaimMapViews
import Derived.JoinedTies
import Derived.KernelRfl
namespace Go.Proofs.YtapbmknimejldaaDoor
/- THE CELL 'sum', in the pinned program and in every row, IS THE sha256 OF THE DUMP (.gsa) THAT YtapbmknimejldaaDoorProg.lean LOADS. Nothing in Lean hashes anything: it is a label: what it is worth is what the hold of that sum in a sandbox is worth. -/
noncomputable def Tryd.pinned : Pinned := { name := "ytapbmknimejldaadoor", sum := "f863b6dbb487bc2c7e4e12b803d0060e057d6661432335bc3b870117f49cfa57", checked := Tryd.checked }
namespace Rows
def none {H : Type} : Left H := { results := [], args := [] }

/- WHAT THE LISTED PACKAGE-LEVEL VARIABLES READ AS WHEN THE CALL BEGINS. Each datum BY PROGRAM (the guide's laid-datum.mjs) off the statement by which the dump's own 'gosem.cut.vars' lays the variable. In a bare row this is a premise. The card (YtapbmknimejldaaDoorCards.lean) ties it to the program's text. -/
def laid_errors_errorType {H : Type} : DataW H := .iface "internal/reflectlite.rtype" (.agg [.ptr (.lit (.string [101, 114, 114, 111, 114]))])
def laid_sluicebook_tree_words {H : Type} : DataW H := .agg [.lit (.string [111, 114]), .lit (.string [97, 110, 100]), .lit (.string [110, 111, 116]), .lit (.string [116, 114, 117, 101]), .lit (.string [102, 97, 108, 115, 101]), .lit (.string [108, 101, 110]), .lit (.string [105, 102]), .lit (.string [115, 101, 108, 101, 99, 116]), .lit (.string [97, 115]), .lit (.string [102, 114, 111, 109]), .lit (.string [119, 104, 101, 114, 101]), .lit (.string [103, 114, 111, 117, 112]), .lit (.string [98, 121]), .lit (.string [119, 105, 110, 100, 111, 119]), .lit (.string [115, 108, 105, 100, 101]), .lit (.string [99, 111, 117, 110, 116]), .lit (.string [115, 117, 109]), .lit (.string [108, 101, 97, 115, 116]), .lit (.string [109, 111, 115, 116])]
def laid_sluicebook_tree_levels {H : Type} : DataW H := .agg [.slice [.lit (.string [111, 114])] [], .slice [.lit (.string [97, 110, 100])] [], .slice [.lit (.string [61]), .lit (.string [60, 62]), .lit (.string [60]), .lit (.string [60, 61]), .lit (.string [62]), .lit (.string [62, 61])] [], .slice [.lit (.string [43]), .lit (.string [45])] [], .slice [.lit (.string [42]), .lit (.string [47]), .lit (.string [37])] []]
def laid_sluicebook_kind_ops {H : Type} : DataW H := .agg [.lit (.string [111, 114]), .lit (.string [97, 110, 100]), .lit (.string [110, 111, 116]), .lit (.string [61]), .lit (.string [60, 62]), .lit (.string [60]), .lit (.string [60, 61]), .lit (.string [62]), .lit (.string [62, 61]), .lit (.string [43]), .lit (.string [45]), .lit (.string [42]), .lit (.string [47]), .lit (.string [37]), .lit (.string [110, 101, 103]), .lit (.string [108, 101, 110]), .lit (.string [105, 102])]

/-- 'sluicelaw4.SplitAll': WHATEVER THE INPUT: true; the input reads as it did. -/
def splitAllSpec : ChangeSpec := { name := "splitAll", fn := fun _ => fun
  | [d1, d2, d3] => { results := [.lit (.bool true)], args := [d1, d2, d3] }
  | _ => none }
def splitAllRow : OpenClaim := { program := "ytapbmknimejldaadoor", sum := "f863b6dbb487bc2c7e4e12b803d0060e057d6661432335bc3b870117f49cfa57", func := "sluicebook/sluicelaw4.SplitAll", spec := "splitAll", inPlace := ["internal/reflectlite.ValueOf", "(internal/reflectlite.Value).Type", "(internal/reflectlite.Value).IsNil", "internal/reflectlite.TypeOf", "(internal/reflectlite.Value).Elem", "(internal/reflectlite.Value).Set"], unfollowed := true, recurses := true, named := ["errors.errorType"], apart := false, laid := [("errors.errorType", laid_errors_errorType)] }
def SplitAllSaid : Prop := splitAllRow.holds Tryd.pinned (OpenSpec.ofChange splitAllSpec)

/-- ITS FALSE NEIGHBOUR: 'it returns false'. Refute it at one input. -/
def splitAllWrong : ChangeSpec := { name := "splitAll", fn := fun _ => fun
  | [d1, d2, d3] => { results := [.lit (.bool false)], args := [d1, d2, d3] }
  | _ => none }
def SplitAllWrongFalsely : Prop := splitAllRow.holds Tryd.pinned (OpenSpec.ofChange splitAllWrong)

/-- 'sluicelaw4.KindParts': WHATEVER THE INPUT: true; the input reads as it did. -/
def kindPartsSpec : ChangeSpec := { name := "kindParts", fn := fun _ => fun
  | [d1, d2, d3] => { results := [.lit (.bool true)], args := [d1, d2, d3] }
  | _ => none }
def kindPartsRow : OpenClaim := { program := "ytapbmknimejldaadoor", sum := "f863b6dbb487bc2c7e4e12b803d0060e057d6661432335bc3b870117f49cfa57", func := "sluicebook/sluicelaw4.KindParts", spec := "kindParts", unfollowed := true, recurses := true, named := ["sluicebook/tree.levels", "sluicebook/tree.words", "sluicebook/kind.ops"], loops := true, apart := false, laid := [("sluicebook/tree.words", laid_sluicebook_tree_words), ("sluicebook/tree.levels", laid_sluicebook_tree_levels), ("sluicebook/kind.ops", laid_sluicebook_kind_ops)] }
def KindPartsSaid : Prop := kindPartsRow.holds Tryd.pinned (OpenSpec.ofChange kindPartsSpec)

/-- ITS FALSE NEIGHBOUR: 'it returns false'. Refute it at one input. -/
def kindPartsWrong : ChangeSpec := { name := "kindParts", fn := fun _ => fun
  | [d1, d2, d3] => { results := [.lit (.bool false)], args := [d1, d2, d3] }
  | _ => none }
def KindPartsWrongFalsely : Prop := kindPartsRow.holds Tryd.pinned (OpenSpec.ofChange kindPartsWrong)

/-- 'sluicelaw2.AggTells': WHATEVER THE INPUT: true; the input reads as it did. -/
def aggTellsSpec : ChangeSpec := { name := "aggTells", fn := fun _ => fun
  | [d1, d2, d3, d4] => { results := [.lit (.bool true)], args := [d1, d2, d3, d4] }
  | _ => none }
def aggTellsRow : OpenClaim := { program := "ytapbmknimejldaadoor", sum := "f863b6dbb487bc2c7e4e12b803d0060e057d6661432335bc3b870117f49cfa57", func := "sluicebook/sluicelaw2.AggTells", spec := "aggTells", inPlace := ["internal/reflectlite.ValueOf", "(internal/reflectlite.Value).Type", "(internal/reflectlite.Value).IsNil", "internal/reflectlite.TypeOf", "(internal/reflectlite.Value).Elem", "(internal/reflectlite.Value).Set", "math/bits.Add64", "internal/bytealg.abigen_runtime_cmpstring"], unfollowed := true, recurses := true, named := ["errors.errorType"], loops := true, apart := false, laid := [("errors.errorType", laid_errors_errorType)] }
def AggTellsSaid : Prop := aggTellsRow.holds Tryd.pinned (OpenSpec.ofChange aggTellsSpec)

/-- ITS FALSE NEIGHBOUR: 'it returns false'. Refute it at one input. -/
def aggTellsWrong : ChangeSpec := { name := "aggTells", fn := fun _ => fun
  | [d1, d2, d3, d4] => { results := [.lit (.bool false)], args := [d1, d2, d3, d4] }
  | _ => none }
def AggTellsWrongFalsely : Prop := aggTellsRow.holds Tryd.pinned (OpenSpec.ofChange aggTellsWrong)

/-- 'sluicelaw2.AggAny': WHATEVER THE INPUT: true; the input reads as it did. -/
def aggAnySpec : ChangeSpec := { name := "aggAny", fn := fun _ => fun
  | [d1, d2, d3, d4] => { results := [.lit (.bool true)], args := [d1, d2, d3, d4] }
  | _ => none }
def aggAnyRow : OpenClaim := { program := "ytapbmknimejldaadoor", sum := "f863b6dbb487bc2c7e4e12b803d0060e057d6661432335bc3b870117f49cfa57", func := "sluicebook/sluicelaw2.AggAny", spec := "aggAny", inPlace := ["math/bits.Add64", "internal/bytealg.abigen_runtime_cmpstring", "internal/reflectlite.ValueOf", "(internal/reflectlite.Value).Type", "(internal/reflectlite.Value).IsNil", "internal/reflectlite.TypeOf", "(internal/reflectlite.Value).Elem", "(internal/reflectlite.Value).Set"], unfollowed := true, recurses := true, named := ["errors.errorType"], loops := true, apart := false, laid := [("errors.errorType", laid_errors_errorType)] }
def AggAnySaid : Prop := aggAnyRow.holds Tryd.pinned (OpenSpec.ofChange aggAnySpec)

/-- ITS FALSE NEIGHBOUR: 'it returns false'. Refute it at one input. -/
def aggAnyWrong : ChangeSpec := { name := "aggAny", fn := fun _ => fun
  | [d1, d2, d3, d4] => { results := [.lit (.bool false)], args := [d1, d2, d3, d4] }
  | _ => none }
def AggAnyWrongFalsely : Prop := aggAnyRow.holds Tryd.pinned (OpenSpec.ofChange aggAnyWrong)

/-- 'sluicelaw1.KindTells': WHATEVER THE INPUT: true; the input reads as it did. -/
def kindTellsSpec : ChangeSpec := { name := "kindTells", fn := fun _ => fun
  | [d1, d2, d3, d4] => { results := [.lit (.bool true)], args := [d1, d2, d3, d4] }
  | _ => none }
def kindTellsRow : OpenClaim := { program := "ytapbmknimejldaadoor", sum := "f863b6dbb487bc2c7e4e12b803d0060e057d6661432335bc3b870117f49cfa57", func := "sluicebook/sluicelaw1.KindTells", spec := "kindTells", inPlace := ["internal/reflectlite.ValueOf", "(internal/reflectlite.Value).Type", "(internal/reflectlite.Value).IsNil", "internal/reflectlite.TypeOf", "(internal/reflectlite.Value).Elem", "(internal/reflectlite.Value).Set"], unfollowed := true, recurses := true, named := ["sluicebook/kind.ops", "sluicebook/tree.levels", "errors.errorType", "sluicebook/tree.words"], loops := true, apart := false, laid := [("errors.errorType", laid_errors_errorType), ("sluicebook/tree.words", laid_sluicebook_tree_words), ("sluicebook/tree.levels", laid_sluicebook_tree_levels), ("sluicebook/kind.ops", laid_sluicebook_kind_ops)] }
def KindTellsSaid : Prop := kindTellsRow.holds Tryd.pinned (OpenSpec.ofChange kindTellsSpec)

/-- ITS FALSE NEIGHBOUR: 'it returns false'. Refute it at one input. -/
def kindTellsWrong : ChangeSpec := { name := "kindTells", fn := fun _ => fun
  | [d1, d2, d3, d4] => { results := [.lit (.bool false)], args := [d1, d2, d3, d4] }
  | _ => none }
def KindTellsWrongFalsely : Prop := kindTellsRow.holds Tryd.pinned (OpenSpec.ofChange kindTellsWrong)

/-- 'sluicelaw4.AggEdges': WHATEVER THE INPUT: true; the input reads as it did. -/
def aggEdgesSpec : ChangeSpec := { name := "aggEdges", fn := fun _ => fun
  | [d1, d2, d3] => { results := [.lit (.bool true)], args := [d1, d2, d3] }
  | _ => none }
def aggEdgesRow : OpenClaim := { program := "ytapbmknimejldaadoor", sum := "f863b6dbb487bc2c7e4e12b803d0060e057d6661432335bc3b870117f49cfa57", func := "sluicebook/sluicelaw4.AggEdges", spec := "aggEdges", inPlace := ["internal/reflectlite.ValueOf", "(internal/reflectlite.Value).Type", "(internal/reflectlite.Value).IsNil", "internal/reflectlite.TypeOf", "(internal/reflectlite.Value).Elem", "(internal/reflectlite.Value).Set", "math/bits.Add64", "internal/bytealg.abigen_runtime_cmpstring"], unfollowed := true, recurses := true, named := ["errors.errorType"], apart := false, laid := [("errors.errorType", laid_errors_errorType)] }
def AggEdgesSaid : Prop := aggEdgesRow.holds Tryd.pinned (OpenSpec.ofChange aggEdgesSpec)

/-- ITS FALSE NEIGHBOUR: 'it returns false'. Refute it at one input. -/
def aggEdgesWrong : ChangeSpec := { name := "aggEdges", fn := fun _ => fun
  | [d1, d2, d3] => { results := [.lit (.bool false)], args := [d1, d2, d3] }
  | _ => none }
def AggEdgesWrongFalsely : Prop := aggEdgesRow.holds Tryd.pinned (OpenSpec.ofChange aggEdgesWrong)

/-- 'sluicelaw1.EvalSides': WHATEVER THE INPUT: true; the input reads as it did. -/
def evalSidesSpec : ChangeSpec := { name := "evalSides", fn := fun _ => fun
  | [d1, d2, d3, d4] => { results := [.lit (.bool true)], args := [d1, d2, d3, d4] }
  | _ => none }
def evalSidesRow : OpenClaim := { program := "ytapbmknimejldaadoor", sum := "f863b6dbb487bc2c7e4e12b803d0060e057d6661432335bc3b870117f49cfa57", func := "sluicebook/sluicelaw1.EvalSides", spec := "evalSides", inPlace := ["internal/bytealg.abigen_runtime_cmpstring"], unfollowed := true, recurses := true, named := ["sluicebook/tree.levels", "sluicebook/tree.words", "sluicebook/kind.ops"], loops := true, apart := false, laid := [("sluicebook/tree.words", laid_sluicebook_tree_words), ("sluicebook/tree.levels", laid_sluicebook_tree_levels), ("sluicebook/kind.ops", laid_sluicebook_kind_ops)] }
def EvalSidesSaid : Prop := evalSidesRow.holds Tryd.pinned (OpenSpec.ofChange evalSidesSpec)

/-- ITS FALSE NEIGHBOUR: 'it returns false'. Refute it at one input. -/
def evalSidesWrong : ChangeSpec := { name := "evalSides", fn := fun _ => fun
  | [d1, d2, d3, d4] => { results := [.lit (.bool false)], args := [d1, d2, d3, d4] }
  | _ => none }
def EvalSidesWrongFalsely : Prop := evalSidesRow.holds Tryd.pinned (OpenSpec.ofChange evalSidesWrong)

/-- 'sluicelaw1.KindHolds': WHATEVER THE INPUT: true; the input reads as it did. -/
def kindHoldsSpec : ChangeSpec := { name := "kindHolds", fn := fun _ => fun
  | [d1, d2, d3] => { results := [.lit (.bool true)], args := [d1, d2, d3] }
  | _ => none }
def kindHoldsRow : OpenClaim := { program := "ytapbmknimejldaadoor", sum := "f863b6dbb487bc2c7e4e12b803d0060e057d6661432335bc3b870117f49cfa57", func := "sluicebook/sluicelaw1.KindHolds", spec := "kindHolds", inPlace := ["internal/bytealg.abigen_runtime_cmpstring", "internal/reflectlite.ValueOf", "(internal/reflectlite.Value).Type", "(internal/reflectlite.Value).IsNil", "internal/reflectlite.TypeOf", "(internal/reflectlite.Value).Elem", "(internal/reflectlite.Value).Set"], unfollowed := true, recurses := true, named := ["sluicebook/kind.ops", "sluicebook/tree.levels", "sluicebook/tree.words", "errors.errorType"], loops := true, apart := false, laid := [("errors.errorType", laid_errors_errorType), ("sluicebook/tree.words", laid_sluicebook_tree_words), ("sluicebook/tree.levels", laid_sluicebook_tree_levels), ("sluicebook/kind.ops", laid_sluicebook_kind_ops)] }
def KindHoldsSaid : Prop := kindHoldsRow.holds Tryd.pinned (OpenSpec.ofChange kindHoldsSpec)

/-- ITS FALSE NEIGHBOUR: 'it returns false'. Refute it at one input. -/
def kindHoldsWrong : ChangeSpec := { name := "kindHolds", fn := fun _ => fun
  | [d1, d2, d3] => { results := [.lit (.bool false)], args := [d1, d2, d3] }
  | _ => none }
def KindHoldsWrongFalsely : Prop := kindHoldsRow.holds Tryd.pinned (OpenSpec.ofChange kindHoldsWrong)

/- THE SECOND FORM. 'bulk': how many values and letters a reading holds, each counted each time it is reached (what is shared counts as often as it is met; a slice's spare places count too). A statement '..UptoSaid' is the law's where the arguments, and the package variables that the reading takes, are together of bulk at most 1048576: NARROWER than '..Said'. Prove '..Said' where nothing that the law and all that it calls make is longer than what came in: it says more and counts as full. Else prove '..UptoSaid'. A law counts once. -/
mutual
def uptoBulk {H : Type} : DataW H → Nat
  | .lit (.string bytes) => bytes.length + 1
  | .lit _ => 1
  | .nil => 1
  | .ptr d => uptoBulk d + 1
  | .slice elems spare => uptoBulkAll elems + uptoBulkAll spare + 1
  | .agg parts => uptoBulkAll parts + 1
  | .iface _ d => uptoBulk d + 1
  | .map entries => uptoBulkEntries entries + 1
  | .held _ => 1
def uptoBulkAll {H : Type} : List (DataW H) → Nat
  | [] => 0
  | d :: r => uptoBulk d + uptoBulkAll r
def uptoBulkEntries {H : Type} : List (Lit × DataW H) → Nat
  | [] => 0
  | x :: r => uptoBulkEntry x + uptoBulkEntries r
def uptoBulkEntry {H : Type} : Lit × DataW H → Nat
  | (.string bytes, d) => bytes.length + uptoBulk d + 1
  | (_, d) => uptoBulk d + 1
 end
def uptoSmall : (H : Type) → List (DataW H) → Bool := fun _ ds => decide (uptoBulkAll ds ≤ 1048576)
def OpenSpec.upto (s : _root_.Go.ChangeSpec) : _root_.Go.OpenSpec := { _root_.Go.OpenSpec.ofChange s with cond := some uptoSmall }

/-- 'sluicelaw4.SplitAll', WHERE WHAT IT READS IS OF BULK AT MOST 1048576: true; the input reads as it did. -/
def splitAllUptoRow : OpenClaim := { program := "ytapbmknimejldaadoor", sum := "f863b6dbb487bc2c7e4e12b803d0060e057d6661432335bc3b870117f49cfa57", func := "sluicebook/sluicelaw4.SplitAll", spec := "splitAll", inPlace := ["internal/reflectlite.ValueOf", "(internal/reflectlite.Value).Type", "(internal/reflectlite.Value).IsNil", "internal/reflectlite.TypeOf", "(internal/reflectlite.Value).Elem", "(internal/reflectlite.Value).Set"], unfollowed := true, recurses := true, named := ["errors.errorType"], apart := false, laid := [("errors.errorType", laid_errors_errorType)], narrowed := true }
def SplitAllUptoSaid : Prop := splitAllUptoRow.holds Tryd.pinned (OpenSpec.upto splitAllSpec)

/-- 'sluicelaw4.KindParts', WHERE WHAT IT READS IS OF BULK AT MOST 1048576: true; the input reads as it did. -/
def kindPartsUptoRow : OpenClaim := { program := "ytapbmknimejldaadoor", sum := "f863b6dbb487bc2c7e4e12b803d0060e057d6661432335bc3b870117f49cfa57", func := "sluicebook/sluicelaw4.KindParts", spec := "kindParts", unfollowed := true, recurses := true, named := ["sluicebook/tree.levels", "sluicebook/tree.words", "sluicebook/kind.ops"], loops := true, apart := false, laid := [("sluicebook/tree.words", laid_sluicebook_tree_words), ("sluicebook/tree.levels", laid_sluicebook_tree_levels), ("sluicebook/kind.ops", laid_sluicebook_kind_ops)], narrowed := true }
def KindPartsUptoSaid : Prop := kindPartsUptoRow.holds Tryd.pinned (OpenSpec.upto kindPartsSpec)

/-- 'sluicelaw2.AggTells', WHERE WHAT IT READS IS OF BULK AT MOST 1048576: true; the input reads as it did. -/
def aggTellsUptoRow : OpenClaim := { program := "ytapbmknimejldaadoor", sum := "f863b6dbb487bc2c7e4e12b803d0060e057d6661432335bc3b870117f49cfa57", func := "sluicebook/sluicelaw2.AggTells", spec := "aggTells", inPlace := ["internal/reflectlite.ValueOf", "(internal/reflectlite.Value).Type", "(internal/reflectlite.Value).IsNil", "internal/reflectlite.TypeOf", "(internal/reflectlite.Value).Elem", "(internal/reflectlite.Value).Set", "math/bits.Add64", "internal/bytealg.abigen_runtime_cmpstring"], unfollowed := true, recurses := true, named := ["errors.errorType"], loops := true, apart := false, laid := [("errors.errorType", laid_errors_errorType)], narrowed := true }
def AggTellsUptoSaid : Prop := aggTellsUptoRow.holds Tryd.pinned (OpenSpec.upto aggTellsSpec)

/-- 'sluicelaw2.AggAny', WHERE WHAT IT READS IS OF BULK AT MOST 1048576: true; the input reads as it did. -/
def aggAnyUptoRow : OpenClaim := { program := "ytapbmknimejldaadoor", sum := "f863b6dbb487bc2c7e4e12b803d0060e057d6661432335bc3b870117f49cfa57", func := "sluicebook/sluicelaw2.AggAny", spec := "aggAny", inPlace := ["math/bits.Add64", "internal/bytealg.abigen_runtime_cmpstring", "internal/reflectlite.ValueOf", "(internal/reflectlite.Value).Type", "(internal/reflectlite.Value).IsNil", "internal/reflectlite.TypeOf", "(internal/reflectlite.Value).Elem", "(internal/reflectlite.Value).Set"], unfollowed := true, recurses := true, named := ["errors.errorType"], loops := true, apart := false, laid := [("errors.errorType", laid_errors_errorType)], narrowed := true }
def AggAnyUptoSaid : Prop := aggAnyUptoRow.holds Tryd.pinned (OpenSpec.upto aggAnySpec)

/-- 'sluicelaw1.KindTells', WHERE WHAT IT READS IS OF BULK AT MOST 1048576: true; the input reads as it did. -/
def kindTellsUptoRow : OpenClaim := { program := "ytapbmknimejldaadoor", sum := "f863b6dbb487bc2c7e4e12b803d0060e057d6661432335bc3b870117f49cfa57", func := "sluicebook/sluicelaw1.KindTells", spec := "kindTells", inPlace := ["internal/reflectlite.ValueOf", "(internal/reflectlite.Value).Type", "(internal/reflectlite.Value).IsNil", "internal/reflectlite.TypeOf", "(internal/reflectlite.Value).Elem", "(internal/reflectlite.Value).Set"], unfollowed := true, recurses := true, named := ["sluicebook/kind.ops", "sluicebook/tree.levels", "errors.errorType", "sluicebook/tree.words"], loops := true, apart := false, laid := [("errors.errorType", laid_errors_errorType), ("sluicebook/tree.words", laid_sluicebook_tree_words), ("sluicebook/tree.levels", laid_sluicebook_tree_levels), ("sluicebook/kind.ops", laid_sluicebook_kind_ops)], narrowed := true }
def KindTellsUptoSaid : Prop := kindTellsUptoRow.holds Tryd.pinned (OpenSpec.upto kindTellsSpec)

/-- 'sluicelaw4.AggEdges', WHERE WHAT IT READS IS OF BULK AT MOST 1048576: true; the input reads as it did. -/
def aggEdgesUptoRow : OpenClaim := { program := "ytapbmknimejldaadoor", sum := "f863b6dbb487bc2c7e4e12b803d0060e057d6661432335bc3b870117f49cfa57", func := "sluicebook/sluicelaw4.AggEdges", spec := "aggEdges", inPlace := ["internal/reflectlite.ValueOf", "(internal/reflectlite.Value).Type", "(internal/reflectlite.Value).IsNil", "internal/reflectlite.TypeOf", "(internal/reflectlite.Value).Elem", "(internal/reflectlite.Value).Set", "math/bits.Add64", "internal/bytealg.abigen_runtime_cmpstring"], unfollowed := true, recurses := true, named := ["errors.errorType"], apart := false, laid := [("errors.errorType", laid_errors_errorType)], narrowed := true }
def AggEdgesUptoSaid : Prop := aggEdgesUptoRow.holds Tryd.pinned (OpenSpec.upto aggEdgesSpec)

/-- 'sluicelaw1.EvalSides', WHERE WHAT IT READS IS OF BULK AT MOST 1048576: true; the input reads as it did. -/
def evalSidesUptoRow : OpenClaim := { program := "ytapbmknimejldaadoor", sum := "f863b6dbb487bc2c7e4e12b803d0060e057d6661432335bc3b870117f49cfa57", func := "sluicebook/sluicelaw1.EvalSides", spec := "evalSides", inPlace := ["internal/bytealg.abigen_runtime_cmpstring"], unfollowed := true, recurses := true, named := ["sluicebook/tree.levels", "sluicebook/tree.words", "sluicebook/kind.ops"], loops := true, apart := false, laid := [("sluicebook/tree.words", laid_sluicebook_tree_words), ("sluicebook/tree.levels", laid_sluicebook_tree_levels), ("sluicebook/kind.ops", laid_sluicebook_kind_ops)], narrowed := true }
def EvalSidesUptoSaid : Prop := evalSidesUptoRow.holds Tryd.pinned (OpenSpec.upto evalSidesSpec)

/-- 'sluicelaw1.KindHolds', WHERE WHAT IT READS IS OF BULK AT MOST 1048576: true; the input reads as it did. -/
def kindHoldsUptoRow : OpenClaim := { program := "ytapbmknimejldaadoor", sum := "f863b6dbb487bc2c7e4e12b803d0060e057d6661432335bc3b870117f49cfa57", func := "sluicebook/sluicelaw1.KindHolds", spec := "kindHolds", inPlace := ["internal/bytealg.abigen_runtime_cmpstring", "internal/reflectlite.ValueOf", "(internal/reflectlite.Value).Type", "(internal/reflectlite.Value).IsNil", "internal/reflectlite.TypeOf", "(internal/reflectlite.Value).Elem", "(internal/reflectlite.Value).Set"], unfollowed := true, recurses := true, named := ["sluicebook/kind.ops", "sluicebook/tree.levels", "sluicebook/tree.words", "errors.errorType"], loops := true, apart := false, laid := [("errors.errorType", laid_errors_errorType), ("sluicebook/tree.words", laid_sluicebook_tree_words), ("sluicebook/tree.levels", laid_sluicebook_tree_levels), ("sluicebook/kind.ops", laid_sluicebook_kind_ops)], narrowed := true }
def KindHoldsUptoSaid : Prop := kindHoldsUptoRow.holds Tryd.pinned (OpenSpec.upto kindHoldsSpec)

end Rows
end Go.Proofs.YtapbmknimejldaaDoor
