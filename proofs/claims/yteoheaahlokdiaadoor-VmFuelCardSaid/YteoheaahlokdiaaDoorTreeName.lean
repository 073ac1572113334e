/- The listed table tree.words as a walk sees it; tree.Name, walked. -/
import Derived.Test.YteoheaahlokdiaaDoorLevels
import Derived.Test.YteoheaahlokdiaaDoorRowName
namespace Go.Proofs.YteoheaahlokdiaaDoor
open Go.ChangeShapes Go.WideShapes Go.ChangeAt Go.RowKit

def wordsL : List (List UInt8) := [[111, 114], [97, 110, 100], [110, 111, 116], [116, 114, 117, 101], [102, 97, 108, 115, 101], [108, 101, 110], [105, 102], [115, 101, 108, 101, 99, 116], [97, 115], [102, 114, 111, 109], [119, 104, 101, 114, 101], [103, 114, 111, 117, 112], [98, 121], [119, 105, 110, 100, 111, 119], [115, 108, 105, 100, 101], [99, 111, 117, 110, 116], [115, 117, 109], [108, 101, 97, 115, 116], [109, 111, 115, 116]]
def wordsB : List ByteArray := wordsL.map mkB
/-- What tree.words holds. -/
def WordsT (w : World) : Prop := Sees w (some ⟨4, 0, none⟩) 19 19 1 (strCells wordsB)
theorem WordsT.keep {w w' : World} (h : WordsT w) (hb : Below w.heap.size w w') : WordsT w' := Sees.keep h hb
theorem gWords : Tryd.prog.globalNamed "sluicebook/tree.words" = some 4 := by kernel_rfl
theorem tWords : (Tryd.prog.globals[4]?).map (·.type) = some 237 := by kernel_rfl
theorem wordsT_of {W : World} {l : List (String × DataW Unit)} (h : laidMet Tryd.prog l W) (hx : ("sluicebook/tree.words", Rows.laid_sluicebook_tree_words) ∈ l) : WordsT W := by
  obtain ⟨g, t, cs, fuel, p, hg, ht, hv, hd⟩ := laid_var h hx
  obtain rfl := Option.some.inj (gWords.symm.trans hg)
  obtain rfl := Option.some.inj (tWords.symm.trans ht)
  have hd' : DataW.trod (fun _ => ()) Tryd.prog W 0 (fun _ => true) false fuel 237 cs.toList = some (.agg (wordsL.map litS), p) := hd
  have hel := open_arr_strs Tryd.underlying237 Tryd.underlying9 cellsS hd'
  have hc : ∀ (i : Nat) (s : ByteArray), wordsB[i]? = some s → W.cell? ⟨4, i, none⟩ = some (.string s) := by
    intro i s hs
    unfold wordsB at hs
    rw [List.getElem?_map] at hs
    obtain ⟨l, hl, rfl⟩ := Option.map_eq_some_iff.1 hs
    have hi : i < 19 := (List.getElem?_eq_some_iff.1 hl).1
    have := hel i l hl hi
    rw [World.var?_cell hg hv i, ← Array.getElem?_toList]
    exact this
  refine ⟨rfl, Nat.le_refl _, by unfold maxLen; omega, (fun e => by cases e), fun _ => ⟨_, _, rfl, World.block_lt_of_cell? W _ (hc 0 _ rfl), fun j u hu => ?_⟩⟩
  obtain ⟨s, hs, rfl⟩ := strCells_at hu
  rw [Nat.zero_add]
  exact hc j s hs

/-- May a text be a name? -/
def treeName (s : ByteArray) : Bool := nameOk s.data.toList && !Lib.containsS wordsB s
set_option maxHeartbeats 1000000 in
theorem tname_any (s : ByteArray) (w : World) (hW : WordsT w) (hs : s.size ≤ maxLen) : Calls Tryd.prog 147 #[.string s] w fun e w' => e = .returned (.bool (treeName s)) ∧ Below w.heap.size w w' := by
  have T := Lib.hid (rname_any s w hs)
  have HW := Lib.hid hW
  unfold treeName
  clear hW
  generalize nameOk s.data.toList = r at T ⊢
  cases r with
  | true =>
    go_enter Tryd.func147, Tryd.ntmps147
    go_wp2_with fail
    refine (T.out).mono ?_
    rintro e w1 ⟨rfl, hb1⟩
    have HB1 := Lib.hid hb1
    have HW1 := Lib.hid (HW.out.keep hb1)
    clear hb1
    go_wp2_with fail
    refine (contains_any _ _ _ _ _ _ HW1.out).mono ?_
    rintro e w' ⟨rfl, rfl⟩
    go_wp2_with fail
    go_ret
    exact ⟨rfl, HB1.out⟩
  | false =>
    go_enter Tryd.func147, Tryd.ntmps147
    go_wp2_with fail
    refine (T.out).mono ?_
    rintro e w1 ⟨rfl, hb1⟩
    have HB1 := Lib.hid hb1
    clear hb1
    go_wp2_with fail
    go_ret
    exact ⟨rfl, HB1.out⟩
end Go.Proofs.YteoheaahlokdiaaDoor
