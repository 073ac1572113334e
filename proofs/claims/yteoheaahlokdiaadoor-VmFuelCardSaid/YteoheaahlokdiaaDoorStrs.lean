/- Rows of strings that are listed (laid) or lie in a slice: what a walk sees; slices.Contains over them. -/
import Derived.Test.YteoheaahlokdiaaDoorWords
import Derived.Test.YteoheaahlokdiaaDoorShelf
import Derived.LaidMore
import Derived.OpenShut
import Derived.FnData
namespace Go.Proofs.YteoheaahlokdiaaDoor
open Go.ChangeShapes Go.WideShapes Go.ChangeAt Go.RowKit

def mkB (l : List UInt8) : ByteArray := ⟨l.toArray⟩
theorem mkB_data (s : ByteArray) : mkB s.data.toList = s := rfl
theorem data_mkB (l : List UInt8) : (mkB l).data.toList = l := by simp [mkB]
def strCells (zs : List ByteArray) : List Value := zs.map .string
theorem strCells_at {zs : List ByteArray} {k : Nat} {u : Value} (h : (strCells zs)[k]? = some u) : ∃ s, zs[k]? = some s ∧ u = .string s := by
  unfold strCells at h
  rw [List.getElem?_map] at h
  cases hx : zs[k]? with
  | none => rw [hx] at h; cases h
  | some x => rw [hx] at h; exact ⟨x, rfl, by simpa using h.symm⟩
theorem strCells_get {zs : List ByteArray} {k : Nat} {s : ByteArray} (h : zs[k]? = some s) : (strCells zs)[k]? = some (.string s) := by
  unfold strCells; rw [List.getElem?_map, h]; rfl

theorem contains_any (A : Option Addr) (n c : Nat) (zs : List ByteArray) (x : ByteArray) (w : World) (h : Sees w A n c 1 (strCells zs)) :
    Calls Tryd.prog 158 #[.slice A n c, .string x] w fun e w' => e = .returned (.bool (Lib.containsS zs x)) ∧ w = w' := by
  have hl : zs.length = n := by have := h.1; simpa [strCells] using this
  have hm := h.2.1
  have hm2 := h.2.2.1
  unfold maxLen at hm2
  rcases Nat.eq_zero_or_pos n with rfl | hp
  · obtain rfl := List.eq_nil_of_length_eq_zero hl
    exact (Tryd.slices_Contains_string_empty A c x w).mono fun _ _ ⟨h1, h2⟩ => ⟨h1, h2.symm⟩
  · obtain ⟨g, o, rfl, _, hc⟩ := h.2.2.2.2 hp
    have := Tryd.slices_Contains_string g o n c zs x w (by omega) (by omega) (fun j hj => hc j _ (by
      rw [strCells_get (List.getElem?_eq_getElem hj)]; simp [List.getD, List.getElem?_eq_getElem hj]))
    rw [List.take_of_length_le (by omega)] at this
    exact this.mono fun _ _ ⟨h1, h2⟩ => ⟨h1, h2.symm⟩

section
variable {P : Program} {W : World}
theorem laid_vars {n : String} {d : DataW Unit} : ∀ {l : List (String × DataW Unit)} {ps : List MemPlace}, DataW.LaidVars P W l ps → (n, d) ∈ l →
    ∃ g t cs fuel p, P.globalNamed n = some g ∧ (P.globals[g]?).map (·.type) = some t ∧ W.var? P n = some cs ∧ DataW.trod (fun _ => ()) P W 0 (fun _ => true) false fuel t cs.toList = some (d, p)
  | [], _, _, hx => by cases hx
  | (n', d') :: r, ps, h, hx => by
    obtain ⟨g, t, cs, fuel, p, q, h1, h2, h3, h4, h5, _⟩ := h
    rcases List.mem_cons.1 hx with e | hx
    · injection e with e1 e2
      subst e1 e2
      exact ⟨g, t, cs, fuel, p, h1, h2, h3, h4⟩
    · exact laid_vars h5 hx
theorem laid_var {l : List (String × DataW Unit)} {n : String} {d : DataW Unit} (h : laidMet P l W) (hx : (n, d) ∈ l) :
    ∃ g t cs fuel p, P.globalNamed n = some g ∧ (P.globals[g]?).map (·.type) = some t ∧ W.var? P n = some cs ∧ DataW.trod (fun _ => ()) P W 0 (fun _ => true) false fuel t cs.toList = some (d, p) := by
  obtain ⟨ps, h1, _⟩ := h
  exact laid_vars h1 hx

def litS (l : List UInt8) : DataW Unit := .lit (.string l)
/-- An array of strings that is read as such texts. -/
theorem open_arr_strs {t e : TypeId} {n fuel : Nat} {cs : List Value} {ls : List (List UInt8)} {p : List MemPlace} (ht : P.underlying t = some (.array n e)) (he : P.underlying e = some .string)
    (hC : P.cellsOf e = 1) (h : DataW.trod (fun _ => ()) P W 0 (fun _ => true) false fuel t cs = some (.agg (ls.map litS), p)) :
    ∀ (i : Nat) (l : List UInt8), ls[i]? = some l → i < n → cs[i]? = some (.string (mkB l)) := by
  obtain ⟨xs, m, _, hx, _, hxs, hel⟩ := DataW.trod_array ht h
  intro i l hl hi
  have h1 := hel i hi
  rw [hC, Nat.mul_one] at h1
  injection hx with hx1 _
  injection hx1 with hx1
  have h2 : (xs.map (·.1))[i]? = some (litS l) := by rw [← hx1, List.getElem?_map, hl]; rfl
  rw [List.getElem?_map] at h2
  obtain ⟨y, hy, hy2⟩ := Option.map_eq_some_iff.1 h2
  rw [hy] at h1
  obtain ⟨s, e1, e2, _⟩ := DataW.trod_string he h1
  have e3 : s.data.toList = l := by
    have e2' : litS l = DataW.lit (.string s.data.toList) := by rw [← hy2, e2]
    injection e2' with e2'
    injection e2' with e2'
    exact e2'.symm
  have e4 : (cs.drop i)[0]? = some (.string s) := by
    have : ((cs.drop i).take 1)[0]? = some (.string s) := by rw [e1]; rfl
    rwa [List.getElem?_take_of_lt (by omega)] at this
  rw [List.getElem?_drop, Nat.add_zero] at e4
  rw [e4, ← e3]; rfl
/-- A slice of strings that is read as such texts, without spare. -/
theorem open_row_strs {t e : TypeId} {fuel : Nat} {cs : List Value} {ls : List (List UInt8)} {p : List MemPlace} (ht : P.underlying t = some (.slice e)) (he : P.underlying e = some .string)
    (hC : P.cellsOf e = 1) (h : DataW.trod (fun _ => ()) P W 0 (fun _ => true) false fuel t cs = some (.slice (ls.map litS) [], p)) :
    ∃ A c, cs = [.slice A ls.length c] ∧ Sees W A ls.length c 1 (strCells (ls.map mkB)) := by
  have h0 := h
  obtain ⟨a, cap, hcs, hlc, hel⟩ := open_row ht hC h
  rw [List.length_map] at hcs hlc
  have hcm : cap ≤ maxLen := by
    rcases DataW.trod_slice ht h0 with ⟨_, hx⟩ | ⟨a', len', cap', _, _, _, _, hcs', _, _, _, hm, _⟩
    · simp at hx
    · rw [hcs] at hcs'
      injection hcs' with hcs' _
      injection hcs' with _ _ hcs'
      omega
  refine ⟨some a, cap, hcs, by simp [strCells], hlc, hcm, (fun e => by cases e), fun hp => ?_⟩
  obtain ⟨g, o, sp⟩ := a
  have h1 : (ls.map litS)[0]? = some (litS ls[0]) := by rw [List.getElem?_map, List.getElem?_eq_getElem hp]; rfl
  obtain ⟨v0, _, _, hc0, _⟩ := hel 0 _ h1
  have hspot : sp = none := by simpa [Addr.add] using World.cell?_spot hc0
  subst hspot
  refine ⟨g, o, rfl, ?_, fun j u hu => ?_⟩
  · have := World.block_lt_of_cell? W _ hc0
    simpa [Addr.add] using this
  · obtain ⟨s, hs, rfl⟩ := strCells_at hu
    rw [List.getElem?_map] at hs
    obtain ⟨l, hl, rfl⟩ := Option.map_eq_some_iff.1 hs
    obtain ⟨v, m, q, hcj, htr⟩ := hel j (litS l) (by rw [List.getElem?_map, hl]; rfl)
    obtain ⟨s, e1, e2, _⟩ := DataW.trod_string he htr
    have e3 : s.data.toList = l := by
      injection e2 with e2 _
      injection e2 with e2
      injection e2 with e2
      exact e2.symm
    injection e1 with e1
    subst e1
    rw [addr_addN] at hcj
    rw [hcj, ← e3]; rfl
end
end Go.Proofs.YteoheaahlokdiaaDoor
