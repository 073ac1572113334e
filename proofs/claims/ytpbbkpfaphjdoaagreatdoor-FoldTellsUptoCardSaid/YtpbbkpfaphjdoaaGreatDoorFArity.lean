/- Rows of strings that are listed (laid) or lie in a slice: what a walk sees; slices.Contains over them. The listed tables kind.ops and tree.levels as a walk sees them; tree.Arity, walked. tree.Arity, walked, at any text. -/
import Derived.Test.YtpbbkpfaphjdoaaGreatDoorFWords
import Derived.Test.YtpbbkpfaphjdoaaGreatDoorFShelf
import Derived.LaidMore
import Derived.OpenShut
import Derived.FnData
import Derived.Test.YtpbbkpfaphjdoaaGreatDoorFErr
import Derived.Deep.Slices
namespace Go.Proofs.YtpbbkpfaphjdoaaGreatDoor
open Go.ChangeShapes Go.WideShapes Go.ChangeAt Go.RowKit
def mkB (l : List UInt8) : ByteArray := ⟨l.toArray⟩
theorem mkB_data (s : ByteArray) : mkB s.data.toList = s := rfl
theorem data_mkB (l : List UInt8) : (mkB l).data.toList = l := by simp [mkB]
def strCells (zs : List ByteArray) : List Value := zs.map .string
theorem strCells_at {zs : List ByteArray} {k : Nat} {u : Value} (h : (strCells zs)[k]? = some u) : ∃ s, zs[k]? = some s ∧ u = .string s := by
 unfold strCells at h
 rw [List.getElem?_map] at h
 cases hx : zs[k]? with
 | none => rw [hx] at h; cases h
 | some x => rw [hx] at h; exact ⟨x, rfl, by simpa using h.symm⟩
theorem strCells_get {zs : List ByteArray} {k : Nat} {s : ByteArray} (h : zs[k]? = some s) : (strCells zs)[k]? = some (.string s) := by
 unfold strCells; rw [List.getElem?_map, h]; rfl
theorem contains_any (A : Option Addr) (n c : Nat) (zs : List ByteArray) (x : ByteArray) (w : World) (h : Sees w A n c 1 (strCells zs)) :
  Calls Tryz.prog 120 #[.slice A n c, .string x] w fun e w' => e = .returned (.bool (Lib.containsS zs x)) ∧ w = w' := by
 have hl : zs.length = n := by have := h.1; simpa [strCells] using this
 have hm := h.2.1
 have hm2 := h.2.2.1
 unfold maxLen at hm2
 rcases Nat.eq_zero_or_pos n with rfl | hp
 ·obtain rfl := List.eq_nil_of_length_eq_zero hl
  exact (Tryz.slices_Contains_string_empty A c x w).mono fun _ _ ⟨h1, h2⟩ => ⟨h1, h2.symm⟩
 ·obtain ⟨g, o, rfl, _, hc⟩ := h.2.2.2.2 hp
  have := Tryz.slices_Contains_string g o n c zs x w (by omega) (by omega) (fun j hj => hc j _ (by
   rw [strCells_get (List.getElem?_eq_getElem hj)]; simp [List.getD, List.getElem?_eq_getElem hj]))
  rw [List.take_of_length_le (by omega)] at this
  exact this.mono fun _ _ ⟨h1, h2⟩ => ⟨h1, h2.symm⟩
section
variable {P : Program} {W : World}
theorem laid_vars {n : String} {d : DataW Unit} : ∀ {l : List (String × DataW Unit)} {ps : List MemPlace}, DataW.LaidVars P W l ps → (n, d) ∈ l →
  ∃ g t cs fuel p, P.globalNamed n = some g ∧ (P.globals[g]?).map (·.type) = some t ∧ W.var? P n = some cs ∧ DataW.trod (fun _ => ()) P W 0 (fun _ => true) false fuel t cs.toList = some (d, p)
 | [], _, _, hx => by cases hx
 | (n', d') :: r, ps, h, hx => by
  obtain ⟨g, t, cs, fuel, p, q, h1, h2, h3, h4, h5, _⟩ := h
  rcases List.mem_cons.1 hx with e | hx
  ·injection e with e1 e2
   subst e1 e2
   exact ⟨g, t, cs, fuel, p, h1, h2, h3, h4⟩
  ·exact laid_vars h5 hx
theorem laid_var {l : List (String × DataW Unit)} {n : String} {d : DataW Unit} (h : laidMet P l W) (hx : (n, d) ∈ l) :
  ∃ g t cs fuel p, P.globalNamed n = some g ∧ (P.globals[g]?).map (·.type) = some t ∧ W.var? P n = some cs ∧ DataW.trod (fun _ => ()) P W 0 (fun _ => true) false fuel t cs.toList = some (d, p) := by
 obtain ⟨ps, h1, _⟩ := h
 exact laid_vars h1 hx
def litS (l : List UInt8) : DataW Unit := .lit (.string l)
theorem open_arr_strs {t e : TypeId} {n fuel : Nat} {cs : List Value} {ls : List (List UInt8)} {p : List MemPlace} (ht : P.underlying t = some (.array n e)) (he : P.underlying e = some .string)
  (hC : P.cellsOf e = 1) (h : DataW.trod (fun _ => ()) P W 0 (fun _ => true) false fuel t cs = some (.agg (ls.map litS), p)) :
  ∀ (i : Nat) (l : List UInt8), ls[i]? = some l → i < n → cs[i]? = some (.string (mkB l)) := by
 obtain ⟨xs, m, _, hx, _, hxs, hel⟩ := DataW.trod_array ht h
 intro i l hl hi
 have h1 := hel i hi
 rw [hC, Nat.mul_one] at h1
 injection hx with hx1 _
 injection hx1 with hx1
 have h2 : (xs.map (·.1))[i]? = some (litS l) := by rw [← hx1, List.getElem?_map, hl]; rfl
 rw [List.getElem?_map] at h2
 obtain ⟨y, hy, hy2⟩ := Option.map_eq_some_iff.1 h2
 rw [hy] at h1
 obtain ⟨s, e1, e2, _⟩ := DataW.trod_string he h1
 have e3 : s.data.toList = l := by
  have e2' : litS l = DataW.lit (.string s.data.toList) := by rw [← hy2, e2]
  injection e2' with e2'
  injection e2' with e2'
  exact e2'.symm
 have e4 : (cs.drop i)[0]? = some (.string s) := by
  have : ((cs.drop i).take 1)[0]? = some (.string s) := by rw [e1]; rfl
  rwa [List.getElem?_take_of_lt (by omega)] at this
 rw [List.getElem?_drop, Nat.add_zero] at e4
 rw [e4, ← e3]; rfl
theorem open_row_strs {t e : TypeId} {fuel : Nat} {cs : List Value} {ls : List (List UInt8)} {p : List MemPlace} (ht : P.underlying t = some (.slice e)) (he : P.underlying e = some .string)
  (hC : P.cellsOf e = 1) (h : DataW.trod (fun _ => ()) P W 0 (fun _ => true) false fuel t cs = some (.slice (ls.map litS) [], p)) :
  ∃ A c, cs = [.slice A ls.length c] ∧ Sees W A ls.length c 1 (strCells (ls.map mkB)) := by
 have h0 := h
 obtain ⟨a, cap, hcs, hlc, hel⟩ := open_row ht hC h
 rw [List.length_map] at hcs hlc
 have hcm : cap ≤ maxLen := by
  rcases DataW.trod_slice ht h0 with ⟨_, hx⟩ | ⟨a', len', cap', _, _, _, _, hcs', _, _, _, hm, _⟩
  ·simp at hx
  ·rw [hcs] at hcs'
   injection hcs' with hcs' _
   injection hcs' with _ _ hcs'
   omega
 refine ⟨some a, cap, hcs, by simp [strCells], hlc, hcm, (fun e => by cases e), fun hp => ?_⟩
 obtain ⟨g, o, sp⟩ := a
 have h1 : (ls.map litS)[0]? = some (litS ls[0]) := by rw [List.getElem?_map, List.getElem?_eq_getElem hp]; rfl
 obtain ⟨v0, _, _, hc0, _⟩ := hel 0 _ h1
 have hspot : sp = none := by simpa [Addr.add] using World.cell?_spot hc0
 subst hspot
 refine ⟨g, o, rfl, ?_, fun j u hu => ?_⟩
 ·have := World.block_lt_of_cell? W _ hc0
  simpa [Addr.add] using this
 ·obtain ⟨s, hs, rfl⟩ := strCells_at hu
  rw [List.getElem?_map] at hs
  obtain ⟨l, hl, rfl⟩ := Option.map_eq_some_iff.1 hs
  obtain ⟨v, m, q, hcj, htr⟩ := hel j (litS l) (by rw [List.getElem?_map, hl]; rfl)
  obtain ⟨s, e1, e2, _⟩ := DataW.trod_string he htr
  have e3 : s.data.toList = l := by
   injection e2 with e2 _
   injection e2 with e2
   injection e2 with e2
   exact e2.symm
  injection e1 with e1
  subst e1
  rw [addr_addN] at hcj
  rw [hcj, ← e3]; rfl
end
end Go.Proofs.YtpbbkpfaphjdoaaGreatDoor
namespace Go.Proofs.YtpbbkpfaphjdoaaGreatDoor
open Go.ChangeShapes Go.WideShapes Go.ChangeAt Go.RowKit
def opsL : List (List UInt8) := [[111, 114], [97, 110, 100], [110, 111, 116], [61], [60, 62], [60], [60, 61], [62], [62, 61], [43], [45], [42], [47], [37], [110, 101, 103], [108, 101, 110], [105, 102]]
def lvlL : Nat → List (List UInt8)
 | 0 => [[111, 114]]
 | 1 => [[97, 110, 100]]
 | 2 => [[61], [60, 62], [60], [60, 61], [62], [62, 61]]
 | 3 => [[43], [45]]
 | 4 => [[42], [47], [37]]
 | _ => []
def lvlB (k : Nat) : List ByteArray := (lvlL k).map mkB
def opsB : List ByteArray := opsL.map mkB
def OpsT (w : World) : Prop := Sees w (some ⟨5, 0, none⟩) 17 17 1 (strCells opsB)
theorem OpsT.keep {w w' : World} (h : OpsT w) (hb : Below w.heap.size w w') : OpsT w' := Sees.keep h hb
def LevelsT (w : World) : Prop := ∃ (A : Nat → Option Addr) (c : Nat → Nat), ∀ j, j < 5 →
 w.cell? ⟨2, j, none⟩ = some (.slice (A j) (lvlB j).length (c j)) ∧ Sees w (A j) (lvlB j).length (c j) 1 (strCells (lvlB j))
theorem LevelsT.keep {w w' : World} (h : LevelsT w) (hb : Below w.heap.size w w') : LevelsT w' := by
 obtain ⟨A, c, h⟩ := h
 refine ⟨A, c, fun j hj => ?_⟩
 obtain ⟨h1, h2⟩ := h j hj
 exact ⟨(hb.cell (p := ⟨2, j, none⟩) (World.block_lt_of_cell? w _ h1)).trans h1, h2.keep hb⟩
theorem gOps : Tryz.prog.globalNamed "sluicebook/kind.ops" = some 5 := by kernel_rfl
theorem gLevels : Tryz.prog.globalNamed "sluicebook/tree.levels" = some 2 := by kernel_rfl
theorem tOps : (Tryz.prog.globals[5]?).map (·.type) = some 253 := by kernel_rfl
theorem tLevels : (Tryz.prog.globals[2]?).map (·.type) = some 222 := by kernel_rfl
theorem cellsS : Tryz.prog.cellsOf 9 = 1 := by kernel_rfl
theorem cellsSS : Tryz.prog.cellsOf 27 = 1 := by kernel_rfl
theorem opsT_of {W : World} {l : List (String × DataW Unit)} (h : laidMet Tryz.prog l W) (hx : ("sluicebook/kind.ops", Rows.laid_sluicebook_kind_ops) ∈ l) : OpsT W := by
 obtain ⟨g, t, cs, fuel, p, hg, ht, hv, hd⟩ := laid_var h hx
 obtain rfl := Option.some.inj (gOps.symm.trans hg)
 obtain rfl := Option.some.inj (tOps.symm.trans ht)
 have hd' : DataW.trod (fun _ => ()) Tryz.prog W 0 (fun _ => true) false fuel 253 cs.toList = some (.agg (opsL.map litS), p) := hd
 have hel := open_arr_strs Tryz.underlying253 Tryz.underlying9 cellsS hd'
 have hc : ∀ (i : Nat) (s : ByteArray), opsB[i]? = some s → W.cell? ⟨5, i, none⟩ = some (.string s) := by
  intro i s hs
  unfold opsB at hs
  rw [List.getElem?_map] at hs
  obtain ⟨l, hl, rfl⟩ := Option.map_eq_some_iff.1 hs
  have hi : i < 17 := (List.getElem?_eq_some_iff.1 hl).1
  have := hel i l hl hi
  rw [World.var?_cell hg hv i, ← Array.getElem?_toList]
  exact this
 refine ⟨rfl, Nat.le_refl _, by unfold maxLen; omega, (fun e => by cases e), fun _ => ⟨_, _, rfl, World.block_lt_of_cell? W _ (hc 0 _ rfl), fun j u hu => ?_⟩⟩
 obtain ⟨s, hs, rfl⟩ := strCells_at hu
 rw [Nat.zero_add]
 exact hc j s hs
theorem levelsT_of {W : World} {l : List (String × DataW Unit)} (h : laidMet Tryz.prog l W) (hx : ("sluicebook/tree.levels", Rows.laid_sluicebook_tree_levels) ∈ l) : LevelsT W := by
 obtain ⟨g, t, cs, fuel, p, hg, ht, hv, hd⟩ := laid_var h hx
 obtain rfl := Option.some.inj (gLevels.symm.trans hg)
 obtain rfl := Option.some.inj (tLevels.symm.trans ht)
 have hd' : DataW.trod (fun _ => ()) Tryz.prog W 0 (fun _ => true) false fuel 222 cs.toList = some (.agg ((List.range 5).map fun j => .slice ((lvlL j).map litS) []), p) := hd
 obtain ⟨xs, m, _, hxx, _, hxs, hel⟩ := DataW.trod_array Tryz.underlying222 hd'
 have key : ∀ j, j < 5 → ∃ (A : Option Addr) (c : Nat), W.cell? ⟨2, j, none⟩ = some (.slice A (lvlB j).length c) ∧ Sees W A (lvlB j).length c 1 (strCells (lvlB j)) := by
  intro j hj
  have h1 := hel j hj
  rw [cellsSS, Nat.mul_one] at h1
  injection hxx with hx1 _
  injection hx1 with hx1
  have h2 : (xs.map (·.1))[j]? = some (.slice ((lvlL j).map litS) []) := by rw [← hx1, List.getElem?_map, List.getElem?_range hj]; rfl
  rw [List.getElem?_map] at h2
  obtain ⟨y, hy, hy2⟩ := Option.map_eq_some_iff.1 h2
  obtain ⟨y1, y2⟩ := y
  simp only at hy2
  subst hy2
  rw [hy] at h1
  obtain ⟨A, c, hcs, hsee⟩ := open_row_strs Tryz.underlying27 Tryz.underlying9 cellsS h1
  have hlen : (lvlB j).length = (lvlL j).length := by simp [lvlB]
  refine ⟨A, c, ?_, by rw [hlen]; exact hsee⟩
  have e4 : (cs.toList.drop j)[0]? = some (.slice A (lvlL j).length c) := by
   have : ((cs.toList.drop j).take 1)[0]? = some (.slice A (lvlL j).length c) := by rw [hcs]; rfl
   rwa [List.getElem?_take_of_lt (by omega)] at this
  rw [List.getElem?_drop, Nat.add_zero] at e4
  rw [World.var?_cell hg hv j, ← Array.getElem?_toList, e4, hlen]
 obtain ⟨A, hA⟩ := Go.Deep.choose_lt (α := Option Addr × Nat) (p := fun j x => W.cell? ⟨2, j, none⟩ = some (.slice x.1 (lvlB j).length x.2) ∧ Sees W x.1 (lvlB j).length x.2 1 (strCells (lvlB j)))
  (fun j hj => by obtain ⟨A, c, h⟩ := key j hj; exact ⟨(A, c), h⟩)
 exact ⟨fun j => (A j).1, fun j => (A j).2, fun j hj => hA j hj⟩
end Go.Proofs.YtpbbkpfaphjdoaaGreatDoor
namespace Go.Proofs.YtpbbkpfaphjdoaaGreatDoor
open Go.ChangeShapes Go.WideShapes Go.ChangeAt Go.RowKit
def isSign (s : ByteArray) : Bool := (List.range 5).any fun j => Lib.containsS (lvlB j) s
def signAr (s : ByteArray) : Int := if isSign s = true then 2 else -1
def arityOf (s : ByteArray) : Int :=
 if s.data.toList = [99, 111, 108] ∨ s.data.toList = [118, 97, 108] then 0
 else if s.data.toList = [110, 111, 116] ∨ s.data.toList = [110, 101, 103] ∨ s.data.toList = [108, 101, 110] then 1
 else if s.data.toList = [105, 102] then 3
 else signAr s
theorem bytes_of {s : ByteArray} {l : List UInt8} (h : s.data.toList = l) : s = mkB l := by rw [← h]; rfl
theorem str_ne {s : ByteArray} {l : List UInt8} (h : s.data.toList ≠ l) : (s.toList == l) = false := by
 rw [Lib.toList_data]; exact beq_eq_false_iff_ne.2 h
theorem arity_col (w : World) : Calls Tryz.prog 212 #[.string ⟨#[99, 111, 108]⟩] w fun e w' => e = .returned (.int .i64 0) ∧ w = w' := by
 go_enter Tryz.func212, Tryz.ntmps212
 go_wp2_with fail
 go_ret
 exact ⟨rfl, rfl⟩
theorem arity_val (w : World) : Calls Tryz.prog 212 #[.string ⟨#[118, 97, 108]⟩] w fun e w' => e = .returned (.int .i64 0) ∧ w = w' := by
 go_enter Tryz.func212, Tryz.ntmps212
 go_wp2_with fail
 go_ret
 exact ⟨rfl, rfl⟩
theorem arity_not (w : World) : Calls Tryz.prog 212 #[.string ⟨#[110, 111, 116]⟩] w fun e w' => e = .returned (.int .i64 1) ∧ w = w' := by
 go_enter Tryz.func212, Tryz.ntmps212
 go_wp2_with fail
 go_ret
 exact ⟨rfl, rfl⟩
theorem arity_neg (w : World) : Calls Tryz.prog 212 #[.string ⟨#[110, 101, 103]⟩] w fun e w' => e = .returned (.int .i64 1) ∧ w = w' := by
 go_enter Tryz.func212, Tryz.ntmps212
 go_wp2_with fail
 go_ret
 exact ⟨rfl, rfl⟩
theorem arity_len (w : World) : Calls Tryz.prog 212 #[.string ⟨#[108, 101, 110]⟩] w fun e w' => e = .returned (.int .i64 1) ∧ w = w' := by
 go_enter Tryz.func212, Tryz.ntmps212
 go_wp2_with fail
 go_ret
 exact ⟨rfl, rfl⟩
theorem arity_if (w : World) : Calls Tryz.prog 212 #[.string ⟨#[105, 102]⟩] w fun e w' => e = .returned (.int .i64 3) ∧ w = w' := by
 go_enter Tryz.func212, Tryz.ntmps212
 go_wp2_with fail
 go_ret
 exact ⟨rfl, rfl⟩
theorem isSign_take {s : ByteArray} {k : Nat} (h : ∀ j, j < k → Lib.containsS (lvlB j) s = false) (hk : k = 5) : isSign s = false := by
 subst hk
 unfold isSign
 rw [List.any_eq_false]
 intro j hj
 rw [h j (List.mem_range.1 hj)]; decide
theorem no_next {s : ByteArray} {k : Nat} (h : ∀ j, j < k → Lib.containsS (lvlB j) s = false) (hk : Lib.containsS (lvlB k) s = false) : ∀ j, j < k + 1 → Lib.containsS (lvlB j) s = false := by
 intro j hj
 by_cases e : j = k
 ·rw [e]; exact hk
 ·exact h j (by omega)
theorem isSign_hit {s : ByteArray} {k : Nat} (h : Lib.containsS (lvlB k) s = true) (hk : k < 5) : isSign s = true := by
 unfold isSign
 rw [List.any_eq_true]
 exact ⟨k, List.mem_range.2 hk, h⟩
set_option maxHeartbeats 4000000 in
set_option maxRecDepth 100000 in
theorem arity_sign (s : ByteArray) (w : World) (hT : LevelsT w)
  (h1 : s.data.toList ≠ [99, 111, 108]) (h2 : s.data.toList ≠ [118, 97, 108]) (h3 : s.data.toList ≠ [110, 111, 116]) (h4 : s.data.toList ≠ [110, 101, 103]) (h5 : s.data.toList ≠ [108, 101, 110]) (h6 : s.data.toList ≠ [105, 102]) :
  Calls Tryz.prog 212 #[.string s] w fun e w' => e = .returned (.int .i64 (signAr s)) ∧ w = w' := by
 have e1 := str_ne h1
 have e2 := str_ne h2
 have e3 := str_ne h3
 have e4 := str_ne h4
 have e5 := str_ne h5
 have e6 := str_ne h6
 clear h1 h2 h3 h4 h5 h6
 obtain ⟨A, c, hT⟩ := hT
 have c0 := (hT 0 (by omega)).1
 have c1 := (hT 1 (by omega)).1
 have c2 := (hT 2 (by omega)).1
 have c3 := (hT 3 (by omega)).1
 have c4 := (hT 4 (by omega)).1
 have HT := Lib.hid (fun j hj => (hT j hj).2)
 clear hT
 have i0 : ∀ w, (Instr.index 222 (.agg #[.slice (A 0) (lvlB 0).length (c 0), .slice (A 1) (lvlB 1).length (c 1), .slice (A 2) (lvlB 2).length (c 2), .slice (A 3) (lvlB 3).length (c 3), .slice (A 4) (lvlB 4).length (c 4)]) (.int .i64 0)).run Tryz.prog w = .ok (.slice (A 0) (lvlB 0).length (c 0)) w := fun _ => by kernel_rfl
 have i1 : ∀ w, (Instr.index 222 (.agg #[.slice (A 0) (lvlB 0).length (c 0), .slice (A 1) (lvlB 1).length (c 1), .slice (A 2) (lvlB 2).length (c 2), .slice (A 3) (lvlB 3).length (c 3), .slice (A 4) (lvlB 4).length (c 4)]) (.int .i64 1)).run Tryz.prog w = .ok (.slice (A 1) (lvlB 1).length (c 1)) w := fun _ => by kernel_rfl
 have i2 : ∀ w, (Instr.index 222 (.agg #[.slice (A 0) (lvlB 0).length (c 0), .slice (A 1) (lvlB 1).length (c 1), .slice (A 2) (lvlB 2).length (c 2), .slice (A 3) (lvlB 3).length (c 3), .slice (A 4) (lvlB 4).length (c 4)]) (.int .i64 2)).run Tryz.prog w = .ok (.slice (A 2) (lvlB 2).length (c 2)) w := fun _ => by kernel_rfl
 have i3 : ∀ w, (Instr.index 222 (.agg #[.slice (A 0) (lvlB 0).length (c 0), .slice (A 1) (lvlB 1).length (c 1), .slice (A 2) (lvlB 2).length (c 2), .slice (A 3) (lvlB 3).length (c 3), .slice (A 4) (lvlB 4).length (c 4)]) (.int .i64 3)).run Tryz.prog w = .ok (.slice (A 3) (lvlB 3).length (c 3)) w := fun _ => by kernel_rfl
 have i4 : ∀ w, (Instr.index 222 (.agg #[.slice (A 0) (lvlB 0).length (c 0), .slice (A 1) (lvlB 1).length (c 1), .slice (A 2) (lvlB 2).length (c 2), .slice (A 3) (lvlB 3).length (c 3), .slice (A 4) (lvlB 4).length (c 4)]) (.int .i64 4)).run Tryz.prog w = .ok (.slice (A 4) (lvlB 4).length (c 4)) w := fun _ => by kernel_rfl
 go_enter Tryz.func212, Tryz.ntmps212
 go_wp2_with fail
 go_loop [4, 16] (fun _ i => ∃ k : Nat, k ≤ 5 ∧ i = .int .i64 k ∧ ∀ j, j < k → Lib.containsS (lvlB j) s = false) (fun _ i => 5 - (intOf i).toNat)
 case atStart => exact ⟨0, by omega, rfl, fun j hj => by omega⟩
 case round =>
  obtain ⟨k, hk, rfl, hno⟩ := hrel
  have HN := Lib.hid hno
  clear hno
  by_cases hk5 : k = 5
  ·have E := Lib.hid (show signAr s = -1 by unfold signAr; rw [isSign_take HN.out hk5]; rfl)
   subst hk5
   go_wp2_with fail
   go_ret
   exact ⟨by rw [E.out]; rfl, rfl⟩
  ·have hlt : k < 5 := by omega
   have HS := Lib.hid (HT.out k hlt)
   generalize hB : Lib.containsS (lvlB k) s = b
   cases b with
   | true =>
    have E := Lib.hid (show signAr s = 2 by unfold signAr; rw [isSign_hit hB hlt]; rfl)
    have HB := Lib.hid hB
    clear hB hk5
    obtain rfl | rfl | rfl | rfl | rfl : k = 0 ∨ k = 1 ∨ k = 2 ∨ k = 3 ∨ k = 4 := by omega
    all_goals
     go_wp2_with fail
     refine (contains_any _ _ _ _ _ _ HS.out).mono ?_
     rintro e w' ⟨rfl, rfl⟩
     rw [HB.out]
     go_wp2_with fail
     go_ret
     exact ⟨by rw [E.out]; rfl, rfl⟩
   | false =>
    have HB := Lib.hid hB
    clear hB hk5
    obtain rfl | rfl | rfl | rfl | rfl : k = 0 ∨ k = 1 ∨ k = 2 ∨ k = 3 ∨ k = 4 := by omega
    all_goals
     go_wp2_with fail
     refine (contains_any _ _ _ _ _ _ HS.out).mono ?_
     rintro e w' ⟨rfl, rfl⟩
     rw [HB.out]
     go_wp2_with fail
     go_round
     case rel => first | exact ⟨1, by omega, rfl, no_next HN.out HB.out⟩ | exact ⟨2, by omega, rfl, no_next HN.out HB.out⟩ | exact ⟨3, by omega, rfl, no_next HN.out HB.out⟩ | exact ⟨4, by omega, rfl, no_next HN.out HB.out⟩ | exact ⟨5, by omega, rfl, no_next HN.out HB.out⟩
     case measure => simp [intOf]
theorem arity_any (s : ByteArray) (w : World) (hT : LevelsT w) : Calls Tryz.prog 212 #[.string s] w fun e w' => e = .returned (.int .i64 (arityOf s)) ∧ w = w' := by
 unfold arityOf
 by_cases h1 : s.data.toList = [99, 111, 108]
 ·rw [if_pos (Or.inl h1), bytes_of h1]; exact arity_col w
 by_cases h2 : s.data.toList = [118, 97, 108]
 ·rw [if_pos (Or.inr h2), bytes_of h2]; exact arity_val w
 rw [if_neg (fun h => h.elim h1 h2)]
 by_cases h3 : s.data.toList = [110, 111, 116]
 ·rw [if_pos (Or.inl h3), bytes_of h3]; exact arity_not w
 by_cases h4 : s.data.toList = [110, 101, 103]
 ·rw [if_pos (Or.inr (Or.inl h4)), bytes_of h4]; exact arity_neg w
 by_cases h5 : s.data.toList = [108, 101, 110]
 ·rw [if_pos (Or.inr (Or.inr h5)), bytes_of h5]; exact arity_len w
 rw [if_neg (fun h => h.elim h3 (fun h => h.elim h4 h5))]
 by_cases h6 : s.data.toList = [105, 102]
 ·rw [if_pos h6, bytes_of h6]; exact arity_if w
 rw [if_neg h6]
 exact arity_sign s w hT h1 h2 h3 h4 h5 h6
end Go.Proofs.YtpbbkpfaphjdoaaGreatDoor
