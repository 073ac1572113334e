/- Code as it lies: instructions of five cells each; an argument that is a list of them. What verify says of code: plain. -/
import Derived.Test.YthmbafkedgahaaaDoorOpenVals
import Derived.Test.YthmbafkedgahaaaDoorRule
import Derived.Test.YthmbafkedgahaaaDoorSchema
namespace Go.Proofs.YthmbafkedgahaaaDoor
open Go.ChangeShapes Go.WideShapes Go.ChangeAt Go.RowKit

/-- An instruction. -/
structure Ins where
  what : Int
  arg : Int
  val : Val
def insCells (x : Ins) : List Value := [.int .i64 x.what, .int .i64 x.arg, .int .i64 x.val.type, .int .i64 x.val.n, .string x.val.s]
def insV (x : Ins) : Value := .agg #[.int .i64 x.what, .int .i64 x.arg, .int .i64 x.val.type, .int .i64 x.val.n, .string x.val.s]
def codeCells (l : List Ins) : List Value := l.flatMap insCells
def Ins.wf (x : Ins) : Prop := fits x.what ∧ fits x.arg ∧ x.val.wf
theorem codeCells_length (l : List Ins) : (codeCells l).length = l.length * 5 := by
  induction l with
  | nil => rfl
  | cons c l ih => simp only [codeCells, List.flatMap_cons, List.length_append, List.length_cons] at *; simp [insCells, ih]; omega
theorem codeCells_at : ∀ {l : List Ins} {k : Nat} {x : Ins}, l[k]? = some x → (codeCells l)[k * 5]? = some (.int .i64 x.what) ∧ (codeCells l)[k * 5 + 1]? = some (.int .i64 x.arg) ∧ (codeCells l)[k * 5 + 2]? = some (.int .i64 x.val.type) ∧ (codeCells l)[k * 5 + 3]? = some (.int .i64 x.val.n) ∧ (codeCells l)[k * 5 + 4]? = some (.string x.val.s)
  | x :: l, 0, c, h => by simp at h; subst h; exact ⟨rfl, rfl, rfl, rfl, rfl⟩
  | x :: l, k + 1, c, h => by
    have ih := codeCells_at (l := l) (k := k) (by simpa using h)
    have e : codeCells (x :: l) = .int .i64 x.what :: .int .i64 x.arg :: .int .i64 x.val.type :: .int .i64 x.val.n :: .string x.val.s :: codeCells l := rfl
    rw [e, show (k + 1) * 5 = k * 5 + 1 + 1 + 1 + 1 + 1 by omega]
    simpa using ih
  | [], k, c, h => by simp at h
theorem codeCells_one (l : List Ins) : ∀ u ∈ codeCells l, u.oneCell' = true := by
  intro u hu
  unfold codeCells at hu
  obtain ⟨x, _, hx⟩ := List.mem_flatMap.1 hu
  unfold insCells at hx
  simp only [List.mem_cons, List.not_mem_nil, or_false] at hx
  rcases hx with rfl | rfl | rfl | rfl | rfl <;> rfl
def SeesCode (w : World) (A : Option Addr) (n c : Nat) (l : List Ins) : Prop := l.length = n ∧ Sees w A n c 5 (codeCells l)
theorem SeesCode.keep {w w' : World} {A : Option Addr} {n c : Nat} {l : List Ins} (h : SeesCode w A n c l) (hb : Below w.heap.size w w') : SeesCode w' A n c l := ⟨h.1, h.2.keep hb⟩
theorem SeesCode.at_ {w : World} {A : Option Addr} {n c : Nat} {l : List Ins} (h : SeesCode w A n c l) {k : Nat} (hk : k < n) :
    ∃ g o x, A = some ⟨g, o, none⟩ ∧ g < w.heap.size ∧ l[k]? = some x ∧ w.cell? ⟨g, o + k * 5, none⟩ = some (.int .i64 x.what) ∧ w.cell? ⟨g, o + k * 5 + 1, none⟩ = some (.int .i64 x.arg) ∧ w.cell? ⟨g, o + k * 5 + 2, none⟩ = some (.int .i64 x.val.type) ∧ w.cell? ⟨g, o + k * 5 + 3, none⟩ = some (.int .i64 x.val.n) ∧ w.cell? ⟨g, o + k * 5 + 4, none⟩ = some (.string x.val.s) := by
  obtain ⟨g, o, e, hg, hc⟩ := h.2.2.2.2.2 (by omega)
  have hl : l[k]? = some (l[k]'(by have := h.1; omega)) := List.getElem?_eq_getElem _
  obtain ⟨h0, h1, h2, h3, h4⟩ := codeCells_at hl
  exact ⟨g, o, _, e, hg, hl, hc _ _ h0, hc _ _ h1, hc _ _ h2, hc _ _ h3, hc _ _ h4⟩

theorem cellsIns : Tryd.prog.cellsOf 39 = 5 := by kernel_rfl
section
variable {H : Type} {enc : TypeId × Value → H} {w : World}
set_option maxRecDepth 100000 in
theorem ins_of {m : Nat} {cs : List Value} {y : DataW H × List MemPlace} (h : DataW.trod enc Tryd.prog w 0 (fun _ => true) true m 39 cs = some y) :
    ∃ x : Ins, cs = insCells x ∧ x.wf := by
  obtain ⟨xs, n, _, _, hlen, hxs, hf⟩ := DataW.trod_struct Tryd.underlying39 h
  rw [cellsIns] at hlen
  match cs, hlen with
  | [v0, v1, v2, v3, v4], _ =>
    have hx : xs.length = 3 := hxs
    have h0 : DataW.trod enc Tryd.prog w 0 (fun _ => true) true n 3 (([v0, v1, v2, v3, v4].drop 0).take (Tryd.prog.cellsOf 3)) = xs[0]? := hf 0 _ rfl
    have h1 : DataW.trod enc Tryd.prog w 0 (fun _ => true) true n 3 (([v0, v1, v2, v3, v4].drop 1).take (Tryd.prog.cellsOf 3)) = xs[1]? := hf 1 _ rfl
    have h2 : DataW.trod enc Tryd.prog w 0 (fun _ => true) true n 23 (([v0, v1, v2, v3, v4].drop 2).take (Tryd.prog.cellsOf 23)) = xs[2]? := hf 2 _ rfl
    rw [cells3v, List.getElem?_eq_getElem (by omega)] at h0 h1
    rw [cellsVal, List.getElem?_eq_getElem (by omega)] at h2
    obtain ⟨a, e0, _, ha⟩ := DataW.trod_int Tryd.underlying3 h0
    obtain ⟨b, e1, _, hb⟩ := DataW.trod_int Tryd.underlying3 h1
    obtain ⟨v, e2, hv⟩ := val_of h2
    injection e0 with e0
    injection e1 with e1
    subst e0 e1
    have e2' : [v2, v3, v4] = valCells v := e2
    unfold valCells at e2'
    simp only [List.cons.injEq, and_true] at e2'
    obtain ⟨rfl, rfl, rfl⟩ := e2'
    exact ⟨⟨a, b, v⟩, rfl, fits_of ha, fits_of hb, hv⟩
set_option maxRecDepth 100000 in
theorem open_code {v : Value} {d : DataW H} {p : List MemPlace} (hok : ∃ A n c, v = .slice A n c) (h : DataW.Trod enc Tryd.prog w 0 (fun _ => true) true 31 v d p) :
    ∃ (A : Option Addr) (n c : Nat) (l : List Ins), v = .slice A n c ∧ SeesCode w A n c l ∧ ∀ x ∈ l, x.wf := by
  obtain ⟨A0, n0, c0, rfl⟩ := hok
  obtain ⟨fuel, hf⟩ := h
  obtain ⟨A, n, c, css, ds, e, hn, _, hs, hl, hR, _⟩ := open_sees Tryd.underlying31 cellsIns (by decide) hf
    (fun u _ => ∃ x : Ins, u = insCells x ∧ x.wf) (fun m cs' y _ hy => ins_of hy)
  have hall : ∀ u ∈ css, ∃ x : Ins, u = insCells x ∧ x.wf := by
    intro u hu
    obtain ⟨k, hk⟩ := List.mem_iff_getElem?.1 hu
    obtain ⟨_, _, hx⟩ := hR k u hk
    exact hx
  obtain ⟨l, hl1, hl2⟩ : ∃ l : List Ins, css = l.map insCells ∧ ∀ x ∈ l, x.wf := by
    clear hR hs hn hl hf e
    induction css with
    | nil => exact ⟨[], rfl, by simp⟩
    | cons u css ih =>
      obtain ⟨l, rfl, h2⟩ := ih fun u hu => hall u (List.mem_cons_of_mem _ hu)
      obtain ⟨x, rfl, h3⟩ := hall u List.mem_cons_self
      exact ⟨x :: l, rfl, fun y hy => (List.mem_cons.1 hy).elim (fun e => by rw [e]; exact h3) (fun hy => h2 y hy)⟩
  subst hl1
  have e : Value.slice A0 n0 c0 = .slice A n c := by simpa [Value.cells] using e
  refine ⟨A, n, c, l, e, ⟨by simpa using hn, ?_⟩, hl2⟩
  rw [show codeCells l = (l.map insCells).flatten from List.flatMap_def]
  exact hs
end
end Go.Proofs.YthmbafkedgahaaaDoor
namespace Go.Proofs.YthmbafkedgahaaaDoor
open Go.RowKit

def opErr (k : Int) : Int := if 2 ≤ k ∧ k < 16 then 0 else 1
def opNm (k : Int) : ByteArray := if opErr k = 0 then opsB.getD k.toNat ⟨#[]⟩ else ⟨#[]⟩
/-- What is wrong with the number, or the value, of the instruction at i of len. -/
def argErr (len i nc : Nat) (x : Ins) : Int :=
  if x.what = 1 then vcheck x.val else if x.what = 2 then (if 0 ≤ x.arg ∧ x.arg < nc then 0 else 1) else if x.what = 3 then opErr x.arg
  else if x.what = 4 ∨ x.what = 5 then (if 0 ≤ x.arg ∧ x.arg < (len : Int) - i then 0 else 1) else if x.what = 6 ∨ x.what = 7 then 0 else 1
def need (x : Ins) : Nat := if x.what = 3 then (arityOf (opNm x.arg)).toNat else if x.what = 5 ∨ x.what = 6 ∨ x.what = 7 then 1 else 0
/-- The fault, and what is laid on the stack, of what was taken off. -/
def putTy (cols : List Col) (x : Ins) (off : List Int) : Int × List Int :=
  if x.what = 1 then (0, [x.val.type]) else if x.what = 2 then (0, [(cols.getD x.arg.toNat ⟨⟨#[]⟩, 0⟩).type])
  else if x.what = 3 then (if ruleErr (opNm x.arg) off ≠ 0 then (8, []) else (0, [ruleTy (opNm x.arg) off]))
  else if x.what = 5 then (if off.headD 0 ≠ 2 then (8, []) else (0, [])) else if x.what = 6 then (0, [off.headD 0, off.headD 0]) else (0, [])
def actP (cols : List Col) (x : Ins) (l : List Int) : Int × List Int :=
  if l.length < need x then (6, l) else
    if (putTy cols x (l.drop (l.length - need x))).1 ≠ 0 then ((putTy cols x (l.drop (l.length - need x))).1, l) else
      if 64 < (l.take (l.length - need x) ++ (putTy cols x (l.drop (l.length - need x))).2).length then (4, l)
      else (0, l.take (l.length - need x) ++ (putTy cols x (l.drop (l.length - need x))).2)
abbrev Sts := List (Option (List Int))
def reachP (st : Sts) (i : Nat) (l : List Int) : Int × Sts := match st.getD i none with
  | none => (0, st.set i (some l))
  | some m => (if m = l then 0 else 3, st)
theorem reachP_len (st : Sts) (i : Nat) (l : List Int) : (reachP st i l).2.length = st.length := by
  unfold reachP; split
  · exact List.length_set
  · rfl
/-- A step: the fault, the states, how many at most. -/
def stepP (cols : List Col) (len i : Nat) (x : Ins) (st : Sts) (most : Nat) : Int × Sts × Nat := match st.getD i none with
  | none => (5, st, most)
  | some l =>
    if argErr len i cols.length x ≠ 0 then (argErr len i cols.length x, st, most) else
    if (actP cols x l).1 ≠ 0 then ((actP cols x l).1, st, most) else
    if x.what = 4 then ((reachP st (i + 1 + x.arg.toNat) (actP cols x l).2).1, (reachP st (i + 1 + x.arg.toNat) (actP cols x l).2).2, max most (actP cols x l).2.length) else
    if x.what = 5 then
      (if (reachP st (i + 1 + x.arg.toNat) (actP cols x l).2).1 ≠ 0 then ((reachP st (i + 1 + x.arg.toNat) (actP cols x l).2).1, (reachP st (i + 1 + x.arg.toNat) (actP cols x l).2).2, max most (actP cols x l).2.length) else
        ((reachP (reachP st (i + 1 + x.arg.toNat) (actP cols x l).2).2 (i + 1) (actP cols x l).2).1, (reachP (reachP st (i + 1 + x.arg.toNat) (actP cols x l).2).2 (i + 1) (actP cols x l).2).2, max most (actP cols x l).2.length))
    else ((reachP st (i + 1) (actP cols x l).2).1, (reachP st (i + 1) (actP cols x l).2).2, max most (actP cols x l).2.length)
/-- All steps from i on: where, the fault, the states, how many at most. -/
def runP (cols : List Col) (len : Nat) : Nat → List Ins → Sts → Nat → Nat × Int × Sts × Nat
  | i, [], st, most => (i, 0, st, most)
  | i, x :: l, st, most => if (stepP cols len i x st most).1 ≠ 0 then (i, (stepP cols len i x st most).1, (stepP cols len i x st most).2) else runP cols len (i + 1) l (stepP cols len i x st most).2.1 (stepP cols len i x st most).2.2
def startP (len : Nat) : Sts := some [] :: List.replicate len none
theorem startP_len (len : Nat) : (startP len).length = len + 1 := by simp [startP]
def endP (len : Nat) (st : Sts) : List Int := (st.getD len none).getD []
/-- Of code: where, the fault; the type, how many at most. -/
structure Ver where
  place : Nat
  err : Int
  ty : Int
  most : Nat
def verP (l : List Ins) (cols : List Col) : Ver :=
  if 1200 < l.length then ⟨0, 4, 0, 0⟩ else if schemaErr cols ≠ 0 then ⟨0, schemaErr cols, 0, 0⟩ else
  if (runP cols l.length 0 l (startP l.length) 0).2.1 ≠ 0 then ⟨(runP cols l.length 0 l (startP l.length) 0).1, (runP cols l.length 0 l (startP l.length) 0).2.1, 0, 0⟩ else
  if (endP l.length (runP cols l.length 0 l (startP l.length) 0).2.2.1).length ≠ 1 then ⟨l.length, 3, 0, 0⟩ else
  ⟨0, 0, (endP l.length (runP cols l.length 0 l (startP l.length) 0).2.2.1).headD 0, (runP cols l.length 0 l (startP l.length) 0).2.2.2⟩
end Go.Proofs.YthmbafkedgahaaaDoor
