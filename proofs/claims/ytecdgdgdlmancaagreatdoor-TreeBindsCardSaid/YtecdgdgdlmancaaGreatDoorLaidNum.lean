/- The library's errors of numbers, tables and the longest needle, as a row that lists them gives them; a world of a witness. -/
import Derived.Test.YtecdgdgdlmancaaGreatDoorLexNum
import Derived.Test.YtecdgdgdlmancaaGreatDoorArity
import Derived.Stop.LaidErr
import Derived.Lib.LaidTab
import Derived.LaidLaws
import Derived.LaidMore
import Derived.LaidHandle
import Derived.Lay
namespace Go.Proofs.YtecdgdgdlmancaaGreatDoor
open Go.ChangeShapes Go.WideShapes Go.ChangeAt Go.RowKit

theorem star_es : "*" ++ "errors.errorString" = "*errors.errorString" := by decide
theorem row_es (u : TypeId) (h : Tryz.prog.typeName? 3 u = some "*errors.errorString") : u = 200 :=
  typeName_ptr_named (nm := "errors.errorString") (by rw [star_es]; kernel_rfl) (by kernel_rfl) (by decide) u (by rw [star_es]; exact h)
theorem numT_of {r : List (String × DataW Unit)} {W : World} (h : laidMet Tryz.prog (("strconv.ErrRange", Rows.laid_strconv_ErrRange) :: ("strconv.ErrSyntax", Rows.laid_strconv_ErrSyntax) :: r) W) : NumT W := by
  obtain ⟨a0, s0, hv0, -, -, -⟩ := laid_sentinel h (show Tryz.prog.globalNamed "strconv.ErrRange" = some 9 by kernel_rfl) (show (Tryz.prog.globals[9]?).map (·.type) = some 37 by kernel_rfl) Tryz.underlying37 row_es Tryz.underlying200 Tryz.underlying202 rfl rfl Tryz.underlying9 (by kernel_rfl) (by kernel_rfl)
  obtain ⟨a1, s1, hv1, -, -, -⟩ := laid_sentinel h.tail (show Tryz.prog.globalNamed "strconv.ErrSyntax" = some 8 by kernel_rfl) (show (Tryz.prog.globals[8]?).map (·.type) = some 37 by kernel_rfl) Tryz.underlying37 row_es Tryz.underlying200 Tryz.underlying202 rfl rfl Tryz.underlying9 (by kernel_rfl) (by kernel_rfl)
  have c0 : W.cell? ⟨9, 0, none⟩ = some (.iface 200 (.pointer (some a0))) := by
    have h0 := World.var?_cell (show Tryz.prog.globalNamed "strconv.ErrRange" = some 9 by kernel_rfl) hv0 0; simpa using h0
  have c1 : W.cell? ⟨8, 0, none⟩ = some (.iface 200 (.pointer (some a1))) := by
    have h0 := World.var?_cell (show Tryz.prog.globalNamed "strconv.ErrSyntax" = some 8 by kernel_rfl) hv1 0; simpa using h0
  exact ⟨⟨_, _, c0, World.block_lt_of_cell? W _ c0⟩, ⟨_, _, c1, World.block_lt_of_cell? W _ c1⟩⟩
/-- Listed variables laid by the kit's function over any world. -/
theorem laidMet_over {P : Program} {w0 w' : World} {laid : List (String × DataW Unit)} (hh : w'.heap = (w0.layVars P laid).heap) (hf : w0.layFits P laid [] = true) (hi : w0.layIfaces P laid w' = true) : laidMet P laid w' := by
  have e1 : (laid.filter fun x => (laid.map (·.1)).contains x.1) = laid := List.filter_eq_self.2 fun x hx => List.contains_iff_mem.2 (List.mem_map.2 ⟨x, hx, rfl⟩)
  have e2 : (laid.filter fun x => !(laid.map (·.1)).contains x.1) = [] := List.filter_eq_nil_iff.2 fun x hx => by rw [List.contains_iff_mem.2 (List.mem_map.2 ⟨x, hx, rfl⟩)]; simp
  exact laidMet_layVars (w0 := w0) (laid.map (·.1)) [] (by rw [e1]; exact hh) (by rw [e1]; exact hf) (by rw [e1]; exact hi) (by rw [e2]; exact LaidIn.none)
/-- The table of tens and the library's MaxLen, out of what a row lists and the world's shape. -/
theorem textT_of {W : World} {l : List (String × DataW Unit)} (h : laidMet Tryz.prog l W) (hx : ("internal/strconv.uint64pow10", Rows.laid_internal_strconv_uint64pow10) ∈ l) (hsh : W.ShapedOpen Tryz.prog) : TextT W := by
  constructor
  · obtain ⟨g, t, cs, fuel, p, hg, ht, hv, hd⟩ := laid_var h hx
    obtain rfl := Option.some.inj ((show Tryz.prog.globalNamed "internal/strconv.uint64pow10" = some 4 by kernel_rfl).symm.trans hg)
    obtain rfl := Option.some.inj ((show (Tryz.prog.globals[4]?).map (·.type) = some 173 by kernel_rfl).symm.trans ht)
    have hd' : DataW.trod (fun _ => ()) Tryz.prog W 0 (fun _ => true) false fuel 173 cs.toList = some (Lib.tabData .u64 Lib.pow10Tab, p) := hd
    refine Lib.tabBelow_of_tabIs ?_
    unfold Lib.TabIs
    have := Lib.cells_of_tab Tryz.underlying173 (by kernel_rfl) (by kernel_rfl) (by kernel_rfl) hd'
    rw [hv, ← this]
  · obtain ⟨m, hm⟩ := Tryz.laysM155.s1_3 W hsh
    have hm' : W.cell? ⟨5, 0, none⟩ = some (.int .i64 m) := hm
    refine ⟨m, hm', ?_⟩
    rcases Nat.lt_or_ge 5 W.heap.size with h' | h'
    · exact h'
    · simp [World.cell?, Array.getElem?_eq_none h'] at hm'
end Go.Proofs.YtecdgdgdlmancaaGreatDoor
