/- The listed tables kind.ops and tree.levels as a walk sees them; tree.Arity, walked. -/
import Derived.Test.YteoheaahlokdiaaDoorStrs
import Derived.Test.YteoheaahlokdiaaDoorErr
import Derived.Deep.Slices
namespace Go.Proofs.YteoheaahlokdiaaDoor
open Go.ChangeShapes Go.WideShapes Go.ChangeAt Go.RowKit

def opsL : List (List UInt8) := [[111, 114], [97, 110, 100], [110, 111, 116], [61], [60, 62], [60], [60, 61], [62], [62, 61], [43], [45], [42], [47], [37], [110, 101, 103], [108, 101, 110], [105, 102]]
def lvlL : Nat → List (List UInt8)
  | 0 => [[111, 114]]
  | 1 => [[97, 110, 100]]
  | 2 => [[61], [60, 62], [60], [60, 61], [62], [62, 61]]
  | 3 => [[43], [45]]
  | 4 => [[42], [47], [37]]
  | _ => []
def lvlB (k : Nat) : List ByteArray := (lvlL k).map mkB
def opsB : List ByteArray := opsL.map mkB

/-- What kind.ops holds. -/
def OpsT (w : World) : Prop := Sees w (some ⟨0, 0, none⟩) 17 17 1 (strCells opsB)
theorem OpsT.keep {w w' : World} (h : OpsT w) (hb : Below w.heap.size w w') : OpsT w' := Sees.keep h hb
/-- What tree.levels holds. -/
def LevelsT (w : World) : Prop := ∃ (A : Nat → Option Addr) (c : Nat → Nat), ∀ j, j < 5 →
  w.cell? ⟨3, j, none⟩ = some (.slice (A j) (lvlB j).length (c j)) ∧ Sees w (A j) (lvlB j).length (c j) 1 (strCells (lvlB j))
theorem LevelsT.keep {w w' : World} (h : LevelsT w) (hb : Below w.heap.size w w') : LevelsT w' := by
  obtain ⟨A, c, h⟩ := h
  refine ⟨A, c, fun j hj => ?_⟩
  obtain ⟨h1, h2⟩ := h j hj
  exact ⟨(hb.cell (p := ⟨3, j, none⟩) (World.block_lt_of_cell? w _ h1)).trans h1, h2.keep hb⟩

theorem gOps : Tryd.prog.globalNamed "sluicebook/kind.ops" = some 0 := by kernel_rfl
theorem gLevels : Tryd.prog.globalNamed "sluicebook/tree.levels" = some 3 := by kernel_rfl
theorem tOps : (Tryd.prog.globals[0]?).map (·.type) = some 161 := by kernel_rfl
theorem tLevels : (Tryd.prog.globals[3]?).map (·.type) = some 229 := by kernel_rfl
theorem cellsS : Tryd.prog.cellsOf 9 = 1 := by kernel_rfl
theorem cellsSS : Tryd.prog.cellsOf 87 = 1 := by kernel_rfl

theorem opsT_of {W : World} {l : List (String × DataW Unit)} (h : laidMet Tryd.prog l W) (hx : ("sluicebook/kind.ops", Rows.laid_sluicebook_kind_ops) ∈ l) : OpsT W := by
  obtain ⟨g, t, cs, fuel, p, hg, ht, hv, hd⟩ := laid_var h hx
  obtain rfl := Option.some.inj (gOps.symm.trans hg)
  obtain rfl := Option.some.inj (tOps.symm.trans ht)
  have hd' : DataW.trod (fun _ => ()) Tryd.prog W 0 (fun _ => true) false fuel 161 cs.toList = some (.agg (opsL.map litS), p) := hd
  have hel := open_arr_strs Tryd.underlying161 Tryd.underlying9 cellsS hd'
  have hc : ∀ (i : Nat) (s : ByteArray), opsB[i]? = some s → W.cell? ⟨0, i, none⟩ = some (.string s) := by
    intro i s hs
    unfold opsB at hs
    rw [List.getElem?_map] at hs
    obtain ⟨l, hl, rfl⟩ := Option.map_eq_some_iff.1 hs
    have hi : i < 17 := (List.getElem?_eq_some_iff.1 hl).1
    have := hel i l hl hi
    rw [World.var?_cell hg hv i, ← Array.getElem?_toList]
    exact this
  refine ⟨rfl, Nat.le_refl _, by unfold maxLen; omega, (fun e => by cases e), fun _ => ⟨_, _, rfl, World.block_lt_of_cell? W _ (hc 0 _ rfl), fun j u hu => ?_⟩⟩
  obtain ⟨s, hs, rfl⟩ := strCells_at hu
  rw [Nat.zero_add]
  exact hc j s hs

theorem levelsT_of {W : World} {l : List (String × DataW Unit)} (h : laidMet Tryd.prog l W) (hx : ("sluicebook/tree.levels", Rows.laid_sluicebook_tree_levels) ∈ l) : LevelsT W := by
  obtain ⟨g, t, cs, fuel, p, hg, ht, hv, hd⟩ := laid_var h hx
  obtain rfl := Option.some.inj (gLevels.symm.trans hg)
  obtain rfl := Option.some.inj (tLevels.symm.trans ht)
  have hd' : DataW.trod (fun _ => ()) Tryd.prog W 0 (fun _ => true) false fuel 229 cs.toList = some (.agg ((List.range 5).map fun j => .slice ((lvlL j).map litS) []), p) := hd
  obtain ⟨xs, m, _, hxx, _, hxs, hel⟩ := DataW.trod_array Tryd.underlying229 hd'
  have key : ∀ j, j < 5 → ∃ (A : Option Addr) (c : Nat), W.cell? ⟨3, j, none⟩ = some (.slice A (lvlB j).length c) ∧ Sees W A (lvlB j).length c 1 (strCells (lvlB j)) := by
    intro j hj
    have h1 := hel j hj
    rw [cellsSS, Nat.mul_one] at h1
    injection hxx with hx1 _
    injection hx1 with hx1
    have h2 : (xs.map (·.1))[j]? = some (.slice ((lvlL j).map litS) []) := by rw [← hx1, List.getElem?_map, List.getElem?_range hj]; rfl
    rw [List.getElem?_map] at h2
    obtain ⟨y, hy, hy2⟩ := Option.map_eq_some_iff.1 h2
    obtain ⟨y1, y2⟩ := y
    simp only at hy2
    subst hy2
    rw [hy] at h1
    obtain ⟨A, c, hcs, hsee⟩ := open_row_strs Tryd.underlying87 Tryd.underlying9 cellsS h1
    have hlen : (lvlB j).length = (lvlL j).length := by simp [lvlB]
    refine ⟨A, c, ?_, by rw [hlen]; exact hsee⟩
    have e4 : (cs.toList.drop j)[0]? = some (.slice A (lvlL j).length c) := by
      have : ((cs.toList.drop j).take 1)[0]? = some (.slice A (lvlL j).length c) := by rw [hcs]; rfl
      rwa [List.getElem?_take_of_lt (by omega)] at this
    rw [List.getElem?_drop, Nat.add_zero] at e4
    rw [World.var?_cell hg hv j, ← Array.getElem?_toList, e4, hlen]
  obtain ⟨A, hA⟩ := Go.Deep.choose_lt (α := Option Addr × Nat) (p := fun j x => W.cell? ⟨3, j, none⟩ = some (.slice x.1 (lvlB j).length x.2) ∧ Sees W x.1 (lvlB j).length x.2 1 (strCells (lvlB j)))
    (fun j hj => by obtain ⟨A, c, h⟩ := key j hj; exact ⟨(A, c), h⟩)
  exact ⟨fun j => (A j).1, fun j => (A j).2, fun j hj => hA j hj⟩
end Go.Proofs.YteoheaahlokdiaaDoor
