/- Expressions made short, in plain Lean: what becomes of any; it is of the same type, comes to the same, has no more nodes and no other columns; made short once more it stays. No program in sight. Expressions made short, in plain Lean, the second part: what comes of it, how many nodes, which columns; once more. -/
import Derived.Test.YtpbbkpfaphjdoaaDoorSidesLaw
import Derived.Test.YtpbbkpfaphjdoaaDoorCheck
namespace Go.Proofs.YtpbbkpfaphjdoaaDoor
open Go.ChangeShapes Go.WideShapes Go.ChangeAt Go.RowKit

/-! ### where it lies does not matter -/
mutual
theorem strip_of (cols : List Col) : ∀ e : Ex, ofE cols (strip e) = ofE cols e
  | .mk op name v A c args pos => by rw [strip, ofE_mk, ofE_mk, strip_fault cols args, strip_types cols args]
theorem strip_fault (cols : List Col) : ∀ l : List Ex, ofFault cols (strips l) = ofFault cols l
  | [] => by rw [strips]
  | a :: l => by rw [strips, ofFault, ofFault, strip_of cols a, strip_fault cols l]
theorem strip_types (cols : List Col) : ∀ l : List Ex, ofTypes cols (strips l) = ofTypes cols l
  | [] => by rw [strips]
  | a :: l => by rw [strips, ofTypes, ofTypes, strip_of cols a, strip_types cols l]
end
mutual
theorem strip_ev (cols : List Col) (r : List Val) : ∀ e : Ex, evE cols r (strip e) = evE cols r e
  | .mk op name v A c args pos => by rw [strip, evE_mk, evE_mk, strip_evAt cols r args 0, strip_evAt cols r args _, strip_evLoop cols r op args []]
theorem strip_evAt (cols : List Col) (r : List Val) : ∀ (l : List Ex) (k : Nat), evAt cols r (strips l) k = evAt cols r l k
  | [], k => by rw [strips]
  | a :: l, 0 => by rw [strips, evAt, evAt, strip_ev cols r a]
  | a :: l, k + 1 => by rw [strips, evAt, evAt, strip_evAt cols r l k]
theorem strip_evLoop (cols : List Col) (r : List Val) (op : ByteArray) : ∀ (l : List Ex) (acc : List Val), evLoop cols r op (strips l) acc = evLoop cols r op l acc
  | [], acc => by rw [strips]
  | a :: l, acc => by rw [strips, evLoop, evLoop, strip_ev cols r a, strip_evLoop cols r op l _]
end
mutual
theorem strip_n : ∀ e : Ex, exN (strip e) = exN e
  | .mk op name v A c args pos => by rw [strip, exN, exN, strip_ns args]
theorem strip_ns : ∀ l : List Ex, exNs (strips l) = exNs l
  | [] => by rw [strips]
  | a :: l => by rw [strips, exNs, exNs, strip_n a, strip_ns l]
end
mutual
/-- Names of columns, as they stand. -/
def exNames : Ex → List ByteArray
  | .mk op name _ _ _ args _ => (if isCol op then [name] else []) ++ exNamess args
def exNamess : List Ex → List ByteArray
  | [] => []
  | a :: l => exNames a ++ exNamess l
end
theorem exNamess_mem {n : ByteArray} : ∀ {l : List Ex}, n ∈ exNamess l ↔ ∃ a ∈ l, n ∈ exNames a
  | [] => by rw [exNamess]; simp
  | a :: l => by rw [exNamess, List.mem_append, exNamess_mem]; simp
mutual
theorem strip_names : ∀ e : Ex, exNames (strip e) = exNames e
  | .mk op name v A c args pos => by rw [strip, exNames, exNames, strip_namess args]
theorem strip_namess : ∀ l : List Ex, exNamess (strips l) = exNamess l
  | [] => by rw [strips]
  | a :: l => by rw [strips, exNamess, exNamess, strip_names a, strip_namess l]
end

/-! ### made short -/
def isNot (s : ByteArray) : Prop := s.data.toList = [110, 111, 116]
instance (s : ByteArray) : Decidable (isNot s) := inferInstanceAs (Decidable (_ = _))
def exVal (v : Val) (pos : Int) : Ex := .mk (mkB [118, 97, 108]) (mkB []) v none 0 [] pos
def allVal (l : List Ex) : Bool := l.all fun a => decide (isVal a.op)
def valsOf (l : List Ex) : List Val := l.map (·.val)
def mayStand (v : Val) : Bool := decide (v.type ≠ 1 ∨ 0 ≤ v.n)
/-- Does a value come of it, that may stand there? -/
def foldable (op : ByteArray) (l : List Ex) : Bool := allVal l && (decide (applyErr op (valsOf l) = 0) && mayStand (applyVal op (valsOf l)))
def foldRest (op name : ByteArray) (v : Val) (A : Option Addr) (c : Nat) (pos : Int) : List Ex → Ex
  | [] => .mk op name v A c [] pos
  | a :: r =>
    if isNot op ∧ isNot a.op then a.args.headD a
    else if ¬ isVal a.op then .mk op name v A c (a :: r) pos
    else if stops op a.val then a
    else if isAnd op ∨ isOr op then r.headD a
    else if isIf op then (a :: r).getD (2 - a.val.n).toNat a
    else .mk op name v A c (a :: r) pos
def foldTop (op name : ByteArray) (v : Val) (A : Option Addr) (c : Nat) (pos : Int) (l : List Ex) : Ex :=
  if foldable op l = true then exVal (applyVal op (valsOf l)) pos else foldRest op name v A c pos l
mutual
def foldE : Ex → Ex
  | .mk op name v A c args pos => if args.isEmpty = true then .mk op name v A c args pos else foldTop op name v none 0 pos (foldEs args)
def foldEs : List Ex → List Ex
  | [] => []
  | a :: l => foldE a :: foldEs l
end
theorem foldEs_map : ∀ l : List Ex, foldEs l = l.map foldE
  | [] => by rw [foldEs]; rfl
  | a :: l => by rw [foldEs, foldEs_map l]; rfl
theorem foldE_leaf {e : Ex} (h : e.args = []) : foldE e = e := by
  cases e with
  | mk op name v A c args pos => rw [foldE, if_pos (by rw [show args = [] from h]; rfl)]
theorem foldE_node {op name : ByteArray} {v : Val} {A : Option Addr} {c : Nat} {args : List Ex} {pos : Int} (h : args ≠ []) : foldE (.mk op name v A c args pos) = foldTop op name v none 0 pos (foldEs args) := by
  rw [foldE, if_neg (by simpa using h)]
theorem strips_vals (l : List Ex) : valsOf (strips l) = valsOf l := by
  rw [strips_map]; unfold valsOf; rw [List.map_map]; exact List.map_congr_left fun a _ => strip_val a
theorem strips_allVal (l : List Ex) : allVal (strips l) = allVal l := by
  rw [strips_map]; unfold allVal; rw [List.all_map]; congr 1; funext a; show decide (isVal (strip a).op) = _; rw [strip_op]
theorem strips_foldable (op : ByteArray) (l : List Ex) : foldable op (strips l) = foldable op l := by unfold foldable; rw [strips_vals, strips_allVal]
theorem strip_exVal (v : Val) (pos : Int) : strip (exVal v pos) = exVal v pos := by unfold exVal; rw [strip, strips]
theorem strips_headD (l : List Ex) (a : Ex) : (strips l).headD (strip a) = strip (l.headD a) := by cases l with
  | nil => rw [strips]; rfl
  | cons x l => rw [strips]; rfl
theorem strips_getD (l : List Ex) (k : Nat) (a : Ex) : (strips l).getD k (strip a) = strip (l.getD k a) := by
  rw [strips_map, List.getD_eq_getElem?_getD, List.getD_eq_getElem?_getD, List.getElem?_map]
  cases l[k]? with
  | none => rfl
  | some x => rfl
theorem strip_rest (op name : ByteArray) (v : Val) (A : Option Addr) (c : Nat) (pos : Int) (l : List Ex) : strip (foldRest op name v A c pos l) = foldRest op name v none 0 pos (strips l) := by
  cases l with
  | nil => rw [strips, foldRest, foldRest, strip, strips]
  | cons a r =>
    rw [strips, foldRest, foldRest, strip_op, strip_val, strip_args]
    by_cases h1 : isNot op ∧ isNot a.op
    · rw [if_pos h1, if_pos h1, strips_headD]
    rw [if_neg h1, if_neg h1]
    by_cases h2 : ¬ isVal a.op
    · rw [if_pos h2, if_pos h2, strip, strips]
    rw [if_neg h2, if_neg h2]
    by_cases h3 : stops op a.val
    · rw [if_pos h3, if_pos h3]
    rw [if_neg h3, if_neg h3]
    by_cases h4 : isAnd op ∨ isOr op
    · rw [if_pos h4, if_pos h4, strips_headD]
    rw [if_neg h4, if_neg h4]
    by_cases h5 : isIf op
    · rw [if_pos h5, if_pos h5, ← strips_getD, strips]
    rw [if_neg h5, if_neg h5, strip, strips]
theorem strip_top (op name : ByteArray) (v : Val) (A : Option Addr) (c : Nat) (pos : Int) (l : List Ex) : strip (foldTop op name v A c pos l) = foldTop op name v none 0 pos (strips l) := by
  unfold foldTop
  rw [strips_foldable, strips_vals]
  by_cases h : foldable op l = true
  · rw [if_pos h, if_pos h, strip_exVal]
  · rw [if_neg h, if_neg h, strip_rest]

/-! ### what is right stays right, of the same type -/
structure Good (cols : List Col) (e : Ex) : Prop where
  nodes : nodesErr e = 0
  ty : (ofE cols e).h = 0
  wf : WfE e
theorem nodesErrs_zero : ∀ {l : List Ex}, (∀ a ∈ l, nodesErr a = 0) → nodesErrs l = 0
  | [], _ => by rw [nodesErrs]
  | a :: l, h => by rw [nodesErrs, h a (by simp), if_neg (by decide)]; exact nodesErrs_zero fun x hx => h x (List.mem_cons_of_mem _ hx)
theorem ofFault_zero {cols : List Col} : ∀ {l : List Ex}, (∀ a ∈ l, (ofE cols a).h = 0) → (ofFault cols l).h = 0
  | [], _ => by rw [ofFault]
  | a :: l, h => by rw [ofFault, if_neg (by rw [h a (by simp)]; decide)]; exact ofFault_zero fun x hx => h x (List.mem_cons_of_mem _ hx)
section
variable {cols : List Col} {op name : ByteArray} {v : Val} {A : Option Addr} {c : Nat} {pos : Int} {args : List Ex}
theorem good_mk (hn : nodeErrOf op name v args.length = 0) (hw : v.wf) (ha : ∀ a ∈ args, Good cols a) (ho : (ofNode cols op name v (ofTypes cols args) pos).h = 0) :
    Good cols (.mk op name v A c args pos) ∧ ofE cols (.mk op name v A c args pos) = ofNode cols op name v (ofTypes cols args) pos := by
  have e : ofE cols (.mk op name v A c args pos) = ofNode cols op name v (ofTypes cols args) pos := by
    rw [ofE_mk, if_neg (by rw [ofFault_zero fun a h => (ha a h).ty]; decide)]
  refine ⟨⟨?_, by rw [e]; exact ho, .mk hw fun a h => (ha a h).wf⟩, e⟩
  rw [nodesErr, hn, if_neg (by decide)]
  exact nodesErrs_zero fun a h => (ha a h).nodes
theorem good_parts (h : Good cols (.mk op name v A c args pos)) : nodeErrOf op name v args.length = 0 ∧ v.wf ∧ (∀ a ∈ args, Good cols a) ∧ (ofNode cols op name v (ofTypes cols args) pos).h = 0 ∧ ofE cols (.mk op name v A c args pos) = ofNode cols op name v (ofTypes cols args) pos := by
  obtain ⟨p1, p2, p3⟩ := ofE_parts h.ty
  obtain ⟨n1, n2⟩ := nodesErr_parts h.nodes
  obtain ⟨w1, w2⟩ := h.wf.parts
  exact ⟨n1, w1, fun a ha => ⟨nodesErrs_all n2 a ha, p1 a ha, w2 a ha⟩, p3, p2⟩
theorem good_val {a : Ex} (h : Good cols a) (hv : isVal a.op) : right a.val ∧ ofE cols a = ⟨a.val.type, 0, 0⟩ ∧ a.args = [] ∧ mayStand a.val = true := by
  obtain ⟨op, name, v, A, c, args, pos⟩ := a
  replace hv : isVal op := hv
  obtain ⟨h1, h2, h3, h4, h5⟩ := good_parts h
  refine ⟨⟨h2, nodeErr_val h1 hv⟩, ?_, ?_, ?_⟩
  · rw [h5]; unfold ofNode; rw [if_pos hv]; rfl
  · have h6 := (nodeErr_len h1).1
    rw [show arityOf op = 0 by rw [bytes_of hv]; decide] at h6
    have : args.length = 0 := by omega
    exact List.eq_nil_of_length_eq_zero this
  · show mayStand v = true
    have hvc := nodeErr_val h1 hv
    by_cases h6 : v.type = 1 ∧ v.n < 0
    · exfalso
      unfold nodeErrOf at h1
      split at h1
      · omega
      split at h1
      · omega
      revert h1
      simp [hvc]
    · unfold mayStand
      apply decide_eq_true
      omega
theorem vals_right (ha : ∀ a ∈ args, Good cols a) (hv : allVal args = true) : (∀ u ∈ valsOf args, right u) ∧ typesOf (valsOf args) = ofTypes cols args := by
  have hv' : ∀ a ∈ args, isVal a.op := fun a h => of_decide_eq_true (List.all_eq_true.1 hv a h)
  refine ⟨fun u hu => ?_, ?_⟩
  · obtain ⟨a, h1, rfl⟩ := List.mem_map.1 hu
    exact (good_val (ha a h1) (hv' a h1)).1
  · rw [ofTypes_map]
    unfold typesOf valsOf
    rw [List.map_map]
    exact List.map_congr_left fun a h => by
      show a.val.type = _
      rw [(good_val (ha a h) (hv' a h)).2.1]
theorem good_exVal {u : Val} (hr : right u) (hm : mayStand u = true) : Good cols (exVal u pos) ∧ ofE cols (exVal u pos) = ⟨u.type, 0, 0⟩ := by
  have hn : nodeErrOf (mkB [118, 97, 108]) (mkB []) u 0 = 0 := by
    unfold nodeErrOf
    rw [if_neg (by decide), if_neg (by
      intro h
      rcases h with h | h | h
      · exact absurd h (by decide)
      · exact h.2 rfl
      · exact h.1 (by decide)), if_neg (by simp [show isVal (mkB [118, 97, 108]) by decide]), hr.2, if_neg (by decide), if_neg (by
        have := of_decide_eq_true hm
        omega)]
  have ho : ofNode cols (mkB [118, 97, 108]) (mkB []) u (ofTypes cols []) pos = ⟨u.type, 0, 0⟩ := by unfold ofNode; rw [if_pos (by decide)]
  have := good_mk (A := none) (c := 0) (pos := pos) (args := []) hn hr.1 (fun a h => by cases h) (by rw [ho])
  exact ⟨this.1, by rw [← ho]; exact this.2⟩
/-- What an operation of right parts must be. -/
structure OpOk (cols : List Col) (op name : ByteArray) (v : Val) (args : List Ex) : Prop where
  node : nodeErrOf op name v args.length = 0
  wf : v.wf
  each : ∀ a ∈ args, Good cols a
  rule : ruleErr op (ofTypes cols args) = 0
  val : ¬ isVal op
  col : ¬ isCol op
theorem ops_not {op : ByteArray} (h : isNot op) : grp op = 0 ∧ arityOf op = 1 := by rw [bytes_of h]; exact ⟨by decide, by decide⟩
theorem ops_and {op : ByteArray} (h : isAnd op ∨ isOr op) : grp op = 0 ∧ arityOf op = 2 := by
  rcases h with h | h
  · rw [bytes_of h]; exact ⟨by decide, by decide⟩
  · rw [bytes_of h]; exact ⟨by decide, by decide⟩
theorem OpOk.same (h : OpOk cols op name v args) : Good cols (.mk op name v A c args pos) ∧ (ofE cols (.mk op name v A c args pos)).t = typeGrp (grp op) (ofTypes cols args) := by
  have ho : ofNode cols op name v (ofTypes cols args) pos = ⟨typeGrp (grp op) (ofTypes cols args), 0, 0⟩ := by
    unfold ofNode
    rw [if_neg h.val, if_neg h.col, if_neg (by simp [h.rule])]
    unfold ruleTy
    rw [if_pos h.rule]
  have := good_mk (A := A) (c := c) (pos := pos) h.node h.wf h.each (by rw [ho])
  exact ⟨this.1, by rw [this.2, ho]⟩
theorem OpOk.bool (h : OpOk cols op name v args) (hg : grp op = 0) {a : Ex} (ha : a ∈ args) : (ofE cols a).t = 2 := by
  have := (ruleErr_parts h.rule).2.2
  rw [hg] at this
  exact allThe_at this (by rw [ofTypes_map]; exact List.mem_map.2 ⟨a, ha, rfl⟩)
theorem OpOk.len (h : OpOk cols op name v args) : (args.length : Int) = arityOf op := by
  have := (ruleErr_parts h.rule).2.1
  rwa [ofTypes_length] at this
theorem val_bool {a : Ex} (h : Good cols a) (hv : isVal a.op) (ht : (ofE cols a).t = 2) : a.val.n = 0 ∨ a.val.n = 1 := by
  obtain ⟨h1, h2, _, _⟩ := good_val h hv
  rw [h2] at ht
  exact bool_of h1.2 ht
/-- Not of a not: its part. -/
theorem not_part {a : Ex} (h : Good cols a) (hn : isNot a.op) : ∃ b, a.args = [b] ∧ Good cols b ∧ (ofE cols b).t = 2 ∧ (ofE cols a).t = 2 := by
  obtain ⟨op, name, v, A, c, args, pos⟩ := a
  replace hn : isNot op := hn
  obtain ⟨h1, h2, h3, h4, h5⟩ := good_parts h
  have hv : ¬ isVal op := by rw [bytes_of hn]; decide
  have hc : ¬ isCol op := by rw [bytes_of hn]; decide
  obtain ⟨q1, q2⟩ := ofNode_op hv hc h4
  have ho : OpOk cols op name v args := ⟨h1, h2, h3, q1, hv, hc⟩
  obtain ⟨g1, g2⟩ := ops_not hn
  have hl := ho.len
  rw [g2] at hl
  match args, hl, ho, h3, h5, q2 with
  | [b], _, ho, h3, h5, q2 =>
    refine ⟨b, rfl, h3 b (by simp), ho.bool g1 (by simp), ?_⟩
    rw [h5, q2, g1]; rfl
/-- An if: its parts. -/
theorem if_parts (h : OpOk cols op name v args) (hi : isIf op) : ∃ a b d, args = [a, b, d] ∧ (ofE cols a).t = 2 ∧ (ofE cols b).t = (ofE cols d).t ∧ typeGrp (grp op) (ofTypes cols args) = (ofE cols b).t := by
  obtain ⟨i1, i2⟩ := if_grp hi
  have hl := h.len
  rw [i2] at hl
  match args, hl, h with
  | [a, b, d], _, h =>
    have hf := (ruleErr_parts h.rule).2.2
    have ht : ofTypes cols [a, b, d] = [(ofE cols a).t, (ofE cols b).t, (ofE cols d).t] := by rw [ofTypes_map]; rfl
    rw [ht, i1] at hf
    have hf' : (((ofE cols a).t == 2) && ((ofE cols b).t == (ofE cols d).t)) = true := hf
    simp at hf'
    exact ⟨a, b, d, rfl, hf'.1, hf'.2, by rw [ht, i1]; rfl⟩
theorem and_parts (h : OpOk cols op name v args) (hi : isAnd op ∨ isOr op) : ∃ a b, args = [a, b] ∧ (ofE cols a).t = 2 ∧ (ofE cols b).t = 2 ∧ typeGrp (grp op) (ofTypes cols args) = 2 := by
  obtain ⟨i1, i2⟩ := ops_and hi
  have hl := h.len
  rw [i2] at hl
  match args, hl, h with
  | [a, b], _, h => exact ⟨a, b, rfl, h.bool i1 (by simp), h.bool i1 (by simp), by rw [i1]; rfl⟩
theorem stops_and {op : ByteArray} {u : Val} (h : stops op u) : isAnd op ∨ isOr op := by
  unfold stops at h
  rcases h with ⟨h, _⟩ | ⟨h, _⟩
  · exact Or.inl h
  · exact Or.inr h
/-- The ways of what is not a value. -/
theorem rest_ways (h : OpOk cols op name v args) : 
    (foldRest op name v A c pos args = .mk op name v A c args pos) ∨
    (isNot op ∧ ∃ a b, args = [a] ∧ isNot a.op ∧ a.args = [b] ∧ foldRest op name v A c pos args = b) ∨
    ((isAnd op ∨ isOr op) ∧ ∃ a b, args = [a, b] ∧ isVal a.op ∧ stops op a.val ∧ foldRest op name v A c pos args = a) ∨
    ((isAnd op ∨ isOr op) ∧ ∃ a b, args = [a, b] ∧ isVal a.op ∧ ¬ stops op a.val ∧ foldRest op name v A c pos args = b) ∨
    (isIf op ∧ ∃ a b d, args = [a, b, d] ∧ isVal a.op ∧ a.val.n = 1 ∧ foldRest op name v A c pos args = b) ∨
    (isIf op ∧ ∃ a b d, args = [a, b, d] ∧ isVal a.op ∧ a.val.n = 0 ∧ foldRest op name v A c pos args = d) := by
  cases args with
  | nil => exact Or.inl (by rw [foldRest])
  | cons a r =>
    have hga := h.each a (by simp)
    rw [foldRest]
    by_cases h1 : isNot op ∧ isNot a.op
    · rw [if_pos h1]
      obtain ⟨b, hb, _⟩ := not_part hga h1.2
      have hl := h.len
      rw [(ops_not h1.1).2] at hl
      have : r = [] := List.eq_nil_of_length_eq_zero (by simp at hl; omega)
      subst this
      exact Or.inr (Or.inl ⟨h1.1, a, b, rfl, h1.2, hb, by rw [hb]; rfl⟩)
    rw [if_neg h1]
    by_cases h2 : ¬ isVal a.op
    · rw [if_pos h2]; exact Or.inl rfl
    rw [if_neg h2]
    replace h2 : isVal a.op := Decidable.not_not.1 h2
    by_cases h3 : stops op a.val
    · rw [if_pos h3]
      obtain ⟨x, y, e, _⟩ := and_parts h (stops_and h3)
      injection e with e1 e2
      subst e1 e2
      exact Or.inr (Or.inr (Or.inl ⟨stops_and h3, a, y, rfl, h2, h3, rfl⟩))
    rw [if_neg h3]
    by_cases h4 : isAnd op ∨ isOr op
    · rw [if_pos h4]
      obtain ⟨x, y, e, _⟩ := and_parts h h4
      injection e with e1 e2
      subst e1 e2
      exact Or.inr (Or.inr (Or.inr (Or.inl ⟨h4, a, y, rfl, h2, h3, rfl⟩)))
    rw [if_neg h4]
    by_cases h5 : isIf op
    · rw [if_pos h5]
      obtain ⟨x, y, d, e, t1, _⟩ := if_parts h h5
      injection e with e1 e2
      subst e1 e2
      rcases val_bool hga h2 t1 with hz | hz
      · exact Or.inr (Or.inr (Or.inr (Or.inr (Or.inr ⟨h5, a, y, d, rfl, h2, hz, by rw [hz]; rfl⟩))))
      · exact Or.inr (Or.inr (Or.inr (Or.inr (Or.inl ⟨h5, a, y, d, rfl, h2, hz, by rw [hz]; rfl⟩))))
    rw [if_neg h5]; exact Or.inl rfl
theorem foldable_parts {op : ByteArray} {l : List Ex} (h : foldable op l = true) : allVal l = true ∧ applyErr op (valsOf l) = 0 ∧ mayStand (applyVal op (valsOf l)) = true := by
  unfold foldable at h
  simp only [Bool.and_eq_true, decide_eq_true_eq] at h
  exact h
theorem top_good (h : OpOk cols op name v args) : Good cols (foldTop op name v A c pos args) ∧ (ofE cols (foldTop op name v A c pos args)).t = typeGrp (grp op) (ofTypes cols args) := by
  unfold foldTop
  by_cases hf : foldable op args = true
  · rw [if_pos hf]
    obtain ⟨f1, f2, f3⟩ := foldable_parts hf
    obtain ⟨r1, r2⟩ := vals_right h.each f1
    obtain ⟨o1, o2, o3⟩ := ruleErr_parts h.rule
    rcases apply_sound o1 (l := valsOf args) (by unfold valsOf; rw [List.length_map]; exact h.len) r1 (by rw [r2]; exact o3) with ⟨a1, a2, a3⟩ | ⟨a1, _⟩
    · have := good_exVal (cols := cols) (pos := pos) a2 f3
      exact ⟨this.1, by rw [this.2, ← r2]; exact a3⟩
    · rw [a1] at f2; omega
  · rw [if_neg hf]
    rcases rest_ways (A := A) (c := c) (pos := pos) h with e | ⟨hn, a, b, rfl, h1, h2, e⟩ | ⟨hn, a, b, rfl, h1, h2, e⟩ | ⟨hn, a, b, rfl, h1, h2, e⟩ | ⟨hn, a, b, d, rfl, h1, h2, e⟩ | ⟨hn, a, b, d, rfl, h1, h2, e⟩
    · rw [e]; exact h.same
    · rw [e]
      obtain ⟨b', hb, hg, ht, _⟩ := not_part (h.each a (by simp)) h1
      rw [h2] at hb
      injection hb with hb _
      subst hb
      exact ⟨hg, by rw [ht, (ops_not hn).1]; rfl⟩
    · rw [e]
      obtain ⟨x, y, e1, t1, t2, t3⟩ := and_parts h hn
      injection e1 with e1 e2
      injection e2 with e2 _
      subst e1 e2
      exact ⟨h.each _ (by simp), by rw [t1, t3]⟩
    · rw [e]
      obtain ⟨x, y, e1, t1, t2, t3⟩ := and_parts h hn
      injection e1 with e1 e2
      injection e2 with e2 _
      subst e1 e2
      exact ⟨h.each _ (by simp), by rw [t2, t3]⟩
    · rw [e]
      obtain ⟨x, y, z, e1, t1, t2, t3⟩ := if_parts h hn
      injection e1 with e1 e2
      injection e2 with e2 e3
      injection e3 with e3 _
      subst e1 e2 e3
      exact ⟨h.each _ (by simp), by rw [t3]⟩
    · rw [e]
      obtain ⟨x, y, z, e1, t1, t2, t3⟩ := if_parts h hn
      injection e1 with e1 e2
      injection e2 with e2 e3
      injection e3 with e3 _
      subst e1 e2 e3
      exact ⟨h.each _ (by simp), by rw [← t2, t3]⟩
end
end Go.Proofs.YtpbbkpfaphjdoaaDoor
namespace Go.Proofs.YtpbbkpfaphjdoaaDoor
open Go.ChangeShapes Go.WideShapes Go.ChangeAt Go.RowKit

theorem ev_good {cols : List Col} {r : List Val} {e : Ex} (hr : RowOk cols r) (h : Good cols e) : EvOk (evE cols r e) (ofE cols e).t := ev_wf hr _ e (Nat.le_refl _) h.wf h.nodes h.ty
theorem ev_val {cols : List Col} {r : List Val} {e : Ex} (h : isVal e.op) : evE cols r e = ⟨0, e.val⟩ := by
  cases e with
  | mk op name v A c args pos => rw [evE_mk, if_pos (show isVal op from h)]; rfl
theorem no_stops {op : ByteArray} {u : Val} (h : ¬ (isAnd op ∨ isOr op)) : ¬ stops op u := fun hs => h (stops_and hs)
section
variable {cols : List Col} {r : List Val} {op name : ByteArray} {v : Val} {A A' : Option Addr} {c c' : Nat} {pos : Int} {args : List Ex}
theorem loop_vals (hop : ¬ (isAnd op ∨ isOr op)) : ∀ (l : List Ex) (acc : List Val), (∀ a ∈ l, isVal a.op) → evLoop cols r op l acc = ⟨applyErr op (acc ++ valsOf l), applyVal op (acc ++ valsOf l)⟩
  | [], acc, _ => by rw [evLoop]; simp [valsOf]
  | a :: l, acc, h => by
    rw [evLoop, ev_val (h a (by simp)), if_neg (by simp), if_neg (no_stops hop), loop_vals hop l _ (fun x hx => h x (List.mem_cons_of_mem _ hx))]
    simp [valsOf]
/-- Of two of which the first is true under an and, false under an or: the second. -/
theorem second_is {x y : Val} (hop : isAnd op ∨ isOr op) (hx : right x ∧ x.type = 2) (hy : right y ∧ y.type = 2) (h1 : ¬ stops op x) (h2 : ¬ stops op y) : applyErr op [x, y] = 0 ∧ applyVal op [x, y] = y := by
  have bx := bool_of hx.1.2 hx.2
  have by_ := bool_of hy.1.2 hy.2
  have ty := truth_of hy.1 hy.2
  rcases hop with hop | hop
  · have n1 : x.n = 1 := by
      rcases bx with h | h
      · exact (h1 (Or.inl ⟨hop, h⟩)).elim
      · exact h
    have n2 : y.n = 1 := by
      rcases by_ with h | h
      · exact (h2 (Or.inl ⟨hop, h⟩)).elim
      · exact h
    rw [bytes_of hop]
    refine ⟨rfl, ?_⟩
    show truthV (decide (1 < x.n + y.n)) = y
    rw [ty, n1, n2]; rfl
  · have n1 : x.n = 0 := by
      rcases bx with h | h
      · exact h
      · exact (h1 (Or.inr ⟨hop, h⟩)).elim
    have n2 : y.n = 0 := by
      rcases by_ with h | h
      · exact h
      · exact (h2 (Or.inr ⟨hop, h⟩)).elim
    rw [bytes_of hop]
    refine ⟨rfl, ?_⟩
    show truthV (decide (0 < x.n + y.n)) = y
    rw [ty, n1, n2]; rfl
/-- Of two of which one stops it: that one. -/
theorem stop_is {x y : Val} (hx : right x ∧ x.type = 2) (hy : right y ∧ y.type = 2) (h : stops op x ∨ stops op y) : (if stops op x then x else y) = applyVal op [x, y] := by
  have bx := bool_of hx.1.2 hx.2
  have by_ := bool_of hy.1.2 hy.2
  have tx := truth_of hx.1 hx.2
  have ty := truth_of hy.1 hy.2
  have hop : isAnd op ∨ isOr op := by
    rcases h with h | h
    · exact stops_and h
    · exact stops_and h
  rcases hop with hop | hop
  · have s1 : ∀ u : Val, stops op u ↔ u.n = 0 := by
      intro u
      constructor
      · intro hs
        rcases hs with hs | hs
        · exact hs.2
        · rw [bytes_of hop] at hs; exact absurd hs.1 (by decide)
      · exact fun e => Or.inl ⟨hop, e⟩
    rw [show applyVal op [x, y] = truthV (decide (1 < x.n + y.n)) by rw [bytes_of hop]; rfl]
    rw [s1, s1] at h
    by_cases h0 : x.n = 0
    · rw [if_pos ((s1 x).2 h0), tx, h0]
      rcases by_ with e | e <;> rw [e] <;> rfl
    · rw [if_neg (fun e => h0 ((s1 x).1 e)), ty]
      have : y.n = 0 := h.resolve_left h0
      rw [this]
      rcases bx with e | e <;> rw [e] <;> rfl
  · have s1 : ∀ u : Val, stops op u ↔ u.n = 1 := by
      intro u
      constructor
      · intro hs
        rcases hs with hs | hs
        · rw [bytes_of hop] at hs; exact absurd hs.1 (by decide)
        · exact hs.2
      · exact fun e => Or.inr ⟨hop, e⟩
    rw [show applyVal op [x, y] = truthV (decide (0 < x.n + y.n)) by rw [bytes_of hop]; rfl]
    rw [s1, s1] at h
    by_cases h0 : x.n = 1
    · rw [if_pos ((s1 x).2 h0), tx, h0]
      rcases by_ with e | e <;> rw [e] <;> rfl
    · rw [if_neg (fun e => h0 ((s1 x).1 e)), ty]
      have : y.n = 1 := h.resolve_left h0
      rw [this]
      rcases bx with e | e <;> rw [e] <;> rfl
theorem val_right {a : Ex} (h : Good cols a) (hv : isVal a.op) (ht : (ofE cols a).t = 2) : right a.val ∧ a.val.type = 2 := by
  obtain ⟨h1, h2, _⟩ := good_val h hv
  exact ⟨h1, by rw [h2] at ht; exact ht⟩
/-- A not of a part. -/
theorem not_ev {op name : ByteArray} {v : Val} {A : Option Addr} {c : Nat} {pos : Int} {b : Ex} (hn : isNot op) : evE cols r (.mk op name v A c [b] pos) = if (evE cols r b).k ≠ 0 then ⟨(evE cols r b).k, noVal⟩ else ⟨0, truthV ((evE cols r b).v.n == 0)⟩ := by
  have h : ∀ op : ByteArray, isNot op → ¬ isVal op ∧ ¬ isCol op ∧ ¬ isIf op ∧ ¬ (isAnd op ∨ isOr op) := by
    intro op h; rw [bytes_of h]; exact ⟨by decide, by decide, by decide, by decide⟩
  obtain ⟨h1, h2, h3, h4⟩ := h op hn
  rw [evE_mk, if_neg h1, if_neg h2, if_neg h3, evLoop]
  by_cases hk : (evE cols r b).k = 0
  · rw [if_neg (by simp [hk]), if_neg (no_stops h4), if_neg (by simp [hk]), evLoop]
    rw [bytes_of hn]; rfl
  · rw [if_pos hk, if_pos hk]
theorem evR_eq {x : EvR} {k : Int} {u : Val} (h1 : x.k = k) (h2 : x.v = u) : x = ⟨k, u⟩ := by cases x; simp at h1 h2; rw [h1, h2]
theorem top_ev (hr : RowOk cols r) (h : OpOk cols op name v args) : evE cols r (foldTop op name v A c pos args) = evE cols r (.mk op name v A' c' args pos) := by
  have hok : ∀ a ∈ args, EvOk (evE cols r a) (ofE cols a).t := fun a ha => ev_good hr (h.each a ha)
  unfold foldTop
  by_cases hf : foldable op args = true
  · rw [if_pos hf]
    obtain ⟨f1, f2, f3⟩ := foldable_parts hf
    have hv : ∀ a ∈ args, isVal a.op := fun a ha => of_decide_eq_true (List.all_eq_true.1 f1 a ha)
    rw [ev_val (show isVal (exVal _ pos).op by show isVal (mkB [118, 97, 108]); decide), evE_mk, if_neg h.val, if_neg h.col]
    show (⟨0, applyVal op (valsOf args)⟩ : EvR) = _
    by_cases hi : isIf op
    · rw [if_pos hi]
      obtain ⟨a, b, d, e, t1, t2, _⟩ := if_parts h hi
      subst e
      have va := val_bool (h.each a (by simp)) (hv a (by simp)) t1
      have e0 : evAt cols r [a, b, d] 0 = ⟨0, a.val⟩ := by rw [evAt_get (a := a) rfl, ev_val (hv a (by simp))]
      have e1 : evAt cols r [a, b, d] 1 = ⟨0, b.val⟩ := by rw [evAt_get (a := b) rfl, ev_val (hv b (by simp))]
      have e2 : evAt cols r [a, b, d] 2 = ⟨0, d.val⟩ := by rw [evAt_get (a := d) rfl, ev_val (hv d (by simp))]
      rw [e0, if_neg (by simp)]
      rw [show applyVal op (valsOf [a, b, d]) = if a.val.n = 1 then b.val else d.val by rw [bytes_of hi]; rfl]
      show _ = evAt cols r [a, b, d] (2 - a.val.n).toNat
      rcases va with hz | hz
      · rw [hz, if_neg (by decide)]; exact e2.symm
      · rw [hz, if_pos rfl]; exact e1.symm
    rw [if_neg hi]
    by_cases ho : isAnd op ∨ isOr op
    · obtain ⟨a, b, e, t1, t2, _⟩ := and_parts h ho
      subst e
      have ra := val_right (h.each a (by simp)) (hv a (by simp)) t1
      have rb := val_right (h.each b (by simp)) (hv b (by simp)) t2
      rw [loop_two, ev_val (hv a (by simp)), ev_val (hv b (by simp)), if_neg (by simp)]
      show (⟨0, applyVal op [a.val, b.val]⟩ : EvR) = _
      by_cases s1 : stops op a.val
      · rw [if_pos s1]
        have := stop_is ra rb (Or.inl s1)
        rw [if_pos s1] at this
        rw [← this]
      · rw [if_neg s1, if_neg (by simp)]
        by_cases s2 : stops op b.val
        · rw [if_pos s2]
          have := stop_is ra rb (Or.inr s2)
          rw [if_neg s1] at this
          rw [← this]
        · rw [if_neg s2]
          show _ = (⟨applyErr op [a.val, b.val], applyVal op [a.val, b.val]⟩ : EvR)
          rw [(second_is ho ra rb s1 s2).1]
    · rw [loop_vals ho args [] hv, List.nil_append, f2]
  · rw [if_neg hf]
    rcases rest_ways (A := A) (c := c) (pos := pos) h with e | ⟨hn, a, b, rfl, h1, h2, e⟩ | ⟨hn, a, b, rfl, h1, h2, e⟩ | ⟨hn, a, b, rfl, h1, h2, e⟩ | ⟨hn, a, b, d, rfl, h1, h2, e⟩ | ⟨hn, a, b, d, rfl, h1, h2, e⟩
    · rw [e, evE_mk, evE_mk]
    · rw [e, not_ev hn]
      have hga := h.each a (by simp)
      obtain ⟨b', hb, hg, ht, _⟩ := not_part hga h1
      rw [h2] at hb
      injection hb with hb _
      subst hb
      have ea : evE cols r a = if (evE cols r b).k ≠ 0 then ⟨(evE cols r b).k, noVal⟩ else ⟨0, truthV ((evE cols r b).v.n == 0)⟩ := by
        obtain ⟨op2, name2, v2, A2, c2, args2, pos2⟩ := a
        replace h2 : args2 = [b] := h2
        subst h2
        exact not_ev h1
      rcases ev_good hr hg with ⟨k1, k2, k3⟩ | ⟨k1, k2⟩
      · rw [ea, if_neg (show ¬ (evE cols r b).k ≠ 0 by simp [k1]), if_neg (by simp)]
        refine evR_eq k1 ?_
        rw [ht] at k3
        have tb := truth_of k2 k3
        have nb := bool_of k2.2 k3
        show (evE cols r b).v = truthV ((truthV ((evE cols r b).v.n == 0)).n == 0)
        rcases nb with hz | hz
        · rw [tb, hz]; rfl
        · rw [tb, hz]; rfl
      · rw [ea, if_pos (by simp [k1]), if_pos (by simp [k1])]
        exact evR_eq rfl k2
    · rw [e, evE_mk, if_neg h.val, if_neg h.col]
      have hi : ¬ isIf op := by
        rcases hn with hn | hn <;> (rw [bytes_of hn]; decide)
      rw [if_neg hi, loop_two, ev_val h1, if_neg (by simp), if_pos h2]
    · rw [e, evE_mk, if_neg h.val, if_neg h.col]
      have hi : ¬ isIf op := by
        rcases hn with hn | hn <;> (rw [bytes_of hn]; decide)
      obtain ⟨x, y, e1, t1, t2, t3⟩ := and_parts h hn
      injection e1 with e1 e2
      injection e2 with e2 _
      subst e1 e2
      rw [if_neg hi, loop_two, ev_val h1, if_neg (by simp), if_neg h2]
      rcases hok b (by simp) with ⟨k1, k2, k3⟩ | ⟨k1, k2⟩
      · rw [if_neg (by simp [k1])]
        by_cases s2 : stops op (evE cols r b).v
        · rw [if_pos s2]; exact evR_eq k1 rfl
        · rw [if_neg s2]
          obtain ⟨z1, z2⟩ := second_is hn (val_right (h.each a (by simp)) h1 t1) ⟨k2, by rw [k3, t2]⟩ h2 s2
          exact evR_eq (k1.trans z1.symm) z2.symm
      · rw [if_pos (by rw [k1]; decide)]
        exact evR_eq rfl k2
    · rw [e, evE_mk, if_neg h.val, if_neg h.col, if_pos hn]
      have e0 : evAt cols r [a, b, d] 0 = ⟨0, a.val⟩ := by rw [evAt_get (a := a) rfl, ev_val h1]
      rw [e0, if_neg (by simp)]
      show _ = evAt cols r [a, b, d] (2 - a.val.n).toNat
      rw [h2]; exact (evAt_get (a := b) rfl).symm
    · rw [e, evE_mk, if_neg h.val, if_neg h.col, if_pos hn]
      have e0 : evAt cols r [a, b, d] 0 = ⟨0, a.val⟩ := by rw [evAt_get (a := a) rfl, ev_val h1]
      rw [e0, if_neg (by simp)]
      show _ = evAt cols r [a, b, d] (2 - a.val.n).toNat
      rw [h2]; exact (evAt_get (a := d) rfl).symm
theorem exN_args (e : Ex) : exN e = exNs e.args + 1 := by cases e with | mk op name v A c args pos => rw [exN]; rfl
theorem top_size (h : OpOk cols op name v args) : exN (foldTop op name v A c pos args) ≤ exNs args + 1 := by
  unfold foldTop
  by_cases hf : foldable op args = true
  · rw [if_pos hf]
    have : exN (exVal (applyVal op (valsOf args)) pos) = 1 := by unfold exVal; rw [exN, exNs]
    omega
  · rw [if_neg hf]
    rcases rest_ways (A := A) (c := c) (pos := pos) h with e | ⟨hn, a, b, rfl, h1, h2, e⟩ | ⟨hn, a, b, rfl, h1, h2, e⟩ | ⟨hn, a, b, rfl, h1, h2, e⟩ | ⟨hn, a, b, d, rfl, h1, h2, e⟩ | ⟨hn, a, b, d, rfl, h1, h2, e⟩
    · rw [e, exN]; exact Nat.le_refl _
    · rw [e, exNs, exNs, exN_args a, h2, exNs, exNs]; omega
    · rw [e, exNs]; omega
    · rw [e, exNs, exNs]; omega
    · rw [e, exNs, exNs]; omega
    · rw [e, exNs, exNs, exNs]; omega
theorem top_below (h : OpOk cols op name v args) {n : Nat} (hb : ∀ a ∈ args, exBelow n a = true) : exBelow (n + 1) (foldTop op name v A c pos args) = true := by
  have hup : ∀ a ∈ args, exBelow (n + 1) a = true := fun a ha => below_mono n a (hb a ha)
  unfold foldTop
  by_cases hf : foldable op args = true
  · rw [if_pos hf, exBelow_all]; rfl
  · rw [if_neg hf]
    rcases rest_ways (A := A) (c := c) (pos := pos) h with e | ⟨hn, a, b, rfl, h1, h2, e⟩ | ⟨hn, a, b, rfl, h1, h2, e⟩ | ⟨hn, a, b, rfl, h1, h2, e⟩ | ⟨hn, a, b, d, rfl, h1, h2, e⟩ | ⟨hn, a, b, d, rfl, h1, h2, e⟩
    · rw [e, exBelow_all]; exact List.all_eq_true.2 hb
    · rw [e]
      have ha := hb a (by simp)
      cases n with
      | zero => rw [exBelow] at ha; cases ha
      | succ n =>
        rw [exBelow_all, h2] at ha
        have : exBelow n b = true := List.all_eq_true.1 ha b (by simp)
        exact below_mono _ _ (below_mono _ _ this)
    · rw [e]; exact hup _ (by simp)
    · rw [e]; exact hup _ (by simp)
    · rw [e]; exact hup _ (by simp)
    · rw [e]; exact hup _ (by simp)
theorem exNames_args {e : Ex} {n : ByteArray} (h : n ∈ exNamess e.args) : n ∈ exNames e := by
  cases e with
  | mk op name v A c args pos => rw [exNames]; exact List.mem_append_right _ h
theorem top_names (h : OpOk cols op name v args) {n : ByteArray} (hb : n ∈ exNames (foldTop op name v A c pos args)) : n ∈ exNamess args := by
  unfold foldTop at hb
  by_cases hf : foldable op args = true
  · rw [if_pos hf] at hb
    unfold exVal at hb
    rw [exNames, exNamess, if_neg (by decide)] at hb
    cases hb
  · rw [if_neg hf] at hb
    rcases rest_ways (A := A) (c := c) (pos := pos) h with e | ⟨hn, a, b, rfl, h1, h2, e⟩ | ⟨hn, a, b, rfl, h1, h2, e⟩ | ⟨hn, a, b, rfl, h1, h2, e⟩ | ⟨hn, a, b, d, rfl, h1, h2, e⟩ | ⟨hn, a, b, d, rfl, h1, h2, e⟩
    · rw [e, exNames, if_neg h.col] at hb; exact hb
    · rw [e] at hb
      exact exNamess_mem.2 ⟨a, by simp, exNames_args (by rw [h2]; exact exNamess_mem.2 ⟨b, by simp, hb⟩)⟩
    · rw [e] at hb; exact exNamess_mem.2 ⟨a, by simp, hb⟩
    · rw [e] at hb; exact exNamess_mem.2 ⟨b, by simp, hb⟩
    · rw [e] at hb; exact exNamess_mem.2 ⟨b, by simp, hb⟩
    · rw [e] at hb; exact exNamess_mem.2 ⟨d, by simp, hb⟩
/-- What is short. -/
inductive Folded : Ex → Prop
  | leaf {e : Ex} (h : e.args = []) : Folded e
  | node {e : Ex} (h : e.args ≠ []) (ha : ∀ a ∈ e.args, Folded a) (ht : foldTop e.op e.name e.val none 0 e.pos e.args = .mk e.op e.name e.val none 0 e.args e.pos) : Folded e
theorem Folded.each {e : Ex} (h : Folded e) : ∀ a ∈ e.args, Folded a := by
  cases h with
  | leaf h => intro a ha; rw [h] at ha; cases ha
  | node _ ha _ => exact ha
theorem top_folded (h : OpOk cols op name v args) (hb : ∀ a ∈ args, Folded a) : Folded (foldTop op name v none 0 pos args) := by
  by_cases hf : foldable op args = true
  · unfold foldTop
    rw [if_pos hf]; exact .leaf rfl
  · have hfr : foldTop op name v none 0 pos args = foldRest op name v none 0 pos args := by unfold foldTop; rw [if_neg hf]
    rw [hfr]
    rcases rest_ways (A := none) (c := 0) (pos := pos) h with e | ⟨hn, a, b, rfl, h1, h2, e⟩ | ⟨hn, a, b, rfl, h1, h2, e⟩ | ⟨hn, a, b, rfl, h1, h2, e⟩ | ⟨hn, a, b, d, rfl, h1, h2, e⟩ | ⟨hn, a, b, d, rfl, h1, h2, e⟩
    · rw [e]
      by_cases hz : args = []
      · exact .leaf hz
      · exact .node hz hb (by show foldTop op name v none 0 pos args = _; rw [hfr, e]; rfl)
    · rw [e]; exact (hb a (by simp)).each b (by rw [h2]; simp)
    · rw [e]; exact hb _ (by simp)
    · rw [e]; exact hb _ (by simp)
    · rw [e]; exact hb _ (by simp)
    · rw [e]; exact hb _ (by simp)
end

/-! ### the whole -/
theorem good_opok {cols : List Col} {op name : ByteArray} {v : Val} {A : Option Addr} {c : Nat} {pos : Int} {args : List Ex} (h : Good cols (.mk op name v A c args pos)) (hne : args ≠ []) : OpOk cols op name v args := by
  obtain ⟨h1, h2, h3, h4, h5⟩ := good_parts h
  have hl := (nodeErr_len h1).1
  have hp : 0 < args.length := List.length_pos_iff.2 hne
  obtain ⟨hv, hc⟩ := arity_pos (s := op) (by omega)
  exact ⟨h1, h2, h3, (ofNode_op hv hc h4).1, hv, hc⟩
theorem fold_good {cols : List Col} : ∀ (m : Nat) (e : Ex), SizeOf.sizeOf e ≤ m → Good cols e → Good cols (foldE e) ∧ (ofE cols (foldE e)).t = (ofE cols e).t
  | 0, e, hm, _ => by cases e; simp at hm
  | m + 1, .mk op name v A c args pos, hm, h => by
    by_cases hne : args = []
    · rw [foldE_leaf (show (Ex.mk op name v A c args pos).args = [] from hne)]; exact ⟨h, rfl⟩
    have ho := good_opok h hne
    have ih : ∀ a ∈ args, Good cols (foldE a) ∧ (ofE cols (foldE a)).t = (ofE cols a).t := fun a ha =>
      fold_good m a (by have := ex_lt (e := .mk op name v A c args pos) ha; omega) (ho.each a ha)
    have ht : ofTypes cols (foldEs args) = ofTypes cols args := by
      rw [ofTypes_map, ofTypes_map, foldEs_map, List.map_map]
      exact List.map_congr_left fun a ha => (ih a ha).2
    have ho' : OpOk cols op name v (foldEs args) := ⟨by rw [foldEs_map, List.length_map]; exact ho.node, ho.wf, fun a ha => by
      rw [foldEs_map] at ha
      obtain ⟨x, hx, rfl⟩ := List.mem_map.1 ha
      exact (ih x hx).1, by rw [ht]; exact ho.rule, ho.val, ho.col⟩
    rw [foldE_node hne]
    have := top_good (A := none) (c := 0) (pos := pos) ho'
    exact ⟨this.1, by rw [this.2, ht, (OpOk.same ho).2]⟩
theorem fold_opok {cols : List Col} {op name : ByteArray} {v : Val} {A : Option Addr} {c : Nat} {pos : Int} {args : List Ex} (h : Good cols (.mk op name v A c args pos)) (hne : args ≠ []) : OpOk cols op name v (foldEs args) := by
  have ho := good_opok h hne
  have ht : ofTypes cols (foldEs args) = ofTypes cols args := by
    rw [ofTypes_map, ofTypes_map, foldEs_map, List.map_map]
    exact List.map_congr_left fun a ha => (fold_good _ a (Nat.le_refl _) (ho.each a ha)).2
  exact ⟨by rw [foldEs_map, List.length_map]; exact ho.node, ho.wf, fun a ha => by
    rw [foldEs_map] at ha
    obtain ⟨x, hx, rfl⟩ := List.mem_map.1 ha
    exact (fold_good _ x (Nat.le_refl _) (ho.each x hx)).1, by rw [ht]; exact ho.rule, ho.val, ho.col⟩
theorem evAt_fold {cols : List Col} {r : List Val} : ∀ (l : List Ex) (k : Nat), (∀ a ∈ l, evE cols r (foldE a) = evE cols r a) → evAt cols r (foldEs l) k = evAt cols r l k
  | [], k, _ => by rw [foldEs]
  | a :: l, 0, h => by rw [foldEs, evAt, evAt, h a (by simp)]
  | a :: l, k + 1, h => by rw [foldEs, evAt, evAt, evAt_fold l k fun x hx => h x (List.mem_cons_of_mem _ hx)]
theorem evLoop_fold {cols : List Col} {r : List Val} {op : ByteArray} : ∀ (l : List Ex) (acc : List Val), (∀ a ∈ l, evE cols r (foldE a) = evE cols r a) → evLoop cols r op (foldEs l) acc = evLoop cols r op l acc
  | [], acc, _ => by rw [foldEs]
  | a :: l, acc, h => by rw [foldEs, evLoop, evLoop, h a (by simp), evLoop_fold l _ fun x hx => h x (List.mem_cons_of_mem _ hx)]
theorem fold_ev {cols : List Col} {r : List Val} (hr : RowOk cols r) : ∀ (m : Nat) (e : Ex), SizeOf.sizeOf e ≤ m → Good cols e → evE cols r (foldE e) = evE cols r e
  | 0, e, hm, _ => by cases e; simp at hm
  | m + 1, .mk op name v A c args pos, hm, h => by
    by_cases hne : args = []
    · rw [foldE_leaf (show (Ex.mk op name v A c args pos).args = [] from hne)]
    have ho := good_opok h hne
    have ih : ∀ a ∈ args, evE cols r (foldE a) = evE cols r a := fun a ha =>
      fold_ev hr m a (by have := ex_lt (e := .mk op name v A c args pos) ha; omega) (ho.each a ha)
    rw [foldE_node hne, top_ev (A' := A) (c' := c) hr (fold_opok h hne), evE_mk, evE_mk, evAt_fold args 0 ih, evAt_fold args _ ih, evLoop_fold args [] ih]
theorem fold_size {cols : List Col} : ∀ (m : Nat) (e : Ex), SizeOf.sizeOf e ≤ m → Good cols e → exN (foldE e) ≤ exN e
  | 0, e, hm, _ => by cases e; simp at hm
  | m + 1, .mk op name v A c args pos, hm, h => by
    by_cases hne : args = []
    · rw [foldE_leaf (show (Ex.mk op name v A c args pos).args = [] from hne)]; exact Nat.le_refl _
    have ho := good_opok h hne
    have ih : ∀ a ∈ args, exN (foldE a) ≤ exN a := fun a ha =>
      fold_size m a (by have := ex_lt (e := .mk op name v A c args pos) ha; omega) (ho.each a ha)
    have hs : exNs (foldEs args) ≤ exNs args := by
      clear hm h hne ho
      induction args with
      | nil => rw [foldEs]; exact Nat.le_refl _
      | cons a l ihl =>
        rw [foldEs, exNs, exNs]
        have := ih a (by simp)
        have := ihl fun x hx => ih x (List.mem_cons_of_mem _ hx)
        omega
    rw [foldE_node hne, exN]
    have := top_size (A := none) (c := 0) (pos := pos) (fold_opok h hne)
    omega
theorem fold_below {cols : List Col} : ∀ (m : Nat) (e : Ex), Good cols e → exBelow m e = true → exBelow m (foldE e) = true
  | 0, e, _, hb => by rw [exBelow] at hb; cases hb
  | m + 1, .mk op name v A c args pos, h, hb => by
    by_cases hne : args = []
    · rw [foldE_leaf (show (Ex.mk op name v A c args pos).args = [] from hne)]; exact hb
    have ho := good_opok h hne
    rw [exBelow_all] at hb
    rw [foldE_node hne]
    refine top_below (fold_opok h hne) fun a ha => ?_
    rw [foldEs_map] at ha
    obtain ⟨x, hx, rfl⟩ := List.mem_map.1 ha
    exact fold_below m x (ho.each x hx) (List.all_eq_true.1 hb x hx)
theorem fold_names {cols : List Col} {n : ByteArray} : ∀ (m : Nat) (e : Ex), SizeOf.sizeOf e ≤ m → Good cols e → n ∈ exNames (foldE e) → n ∈ exNames e
  | 0, e, hm, _, _ => by cases e; simp at hm
  | m + 1, .mk op name v A c args pos, hm, h, hn => by
    by_cases hne : args = []
    · rw [foldE_leaf (show (Ex.mk op name v A c args pos).args = [] from hne)] at hn; exact hn
    have ho := good_opok h hne
    rw [foldE_node hne] at hn
    obtain ⟨a, ha, hna⟩ := exNamess_mem.1 (top_names (fold_opok h hne) hn)
    rw [foldEs_map] at ha
    obtain ⟨x, hx, rfl⟩ := List.mem_map.1 ha
    refine exNames_args (e := .mk op name v A c args pos) (exNamess_mem.2 ⟨x, hx, ?_⟩)
    exact fold_names m x (by have := ex_lt (e := .mk op name v A c args pos) hx; omega) (ho.each x hx) hna
theorem fold_folded {cols : List Col} : ∀ (m : Nat) (e : Ex), SizeOf.sizeOf e ≤ m → Good cols e → Folded (foldE e)
  | 0, e, hm, _ => by cases e; simp at hm
  | m + 1, .mk op name v A c args pos, hm, h => by
    by_cases hne : args = []
    · rw [foldE_leaf (show (Ex.mk op name v A c args pos).args = [] from hne)]; exact .leaf hne
    have ho := good_opok h hne
    rw [foldE_node hne]
    refine top_folded (fold_opok h hne) fun a ha => ?_
    rw [foldEs_map] at ha
    obtain ⟨x, hx, rfl⟩ := List.mem_map.1 ha
    exact fold_folded m x (by have := ex_lt (e := .mk op name v A c args pos) hx; omega) (ho.each x hx)
/-- What is short stays as it is. -/
theorem folded_stays : ∀ (m : Nat) (e : Ex), SizeOf.sizeOf e ≤ m → Folded e → strip (foldE e) = strip e
  | 0, e, hm, _ => by cases e; simp at hm
  | m + 1, .mk op name v A c args pos, hm, h => by
    cases h with
    | leaf h => rw [foldE_leaf h]
    | node h ha ht =>
      have hs : strips (foldEs args) = strips args := by
        rw [strips_map, strips_map, foldEs_map, List.map_map]
        exact List.map_congr_left fun a hx => folded_stays m a (by have := ex_lt (e := .mk op name v A c args pos) hx; omega) (ha a hx)
      have ht' : foldTop op name v none 0 pos args = .mk op name v none 0 args pos := ht
      rw [foldE_node (show args ≠ [] from h), strip_top, hs, ← strip_top op name v none 0 pos args, ht', strip_mk, strip_mk]
/-- Made short it is the same wherever it lies. -/
theorem foldE_strip : ∀ (m : Nat) (e : Ex), SizeOf.sizeOf e ≤ m → strip (foldE e) = foldE (strip e)
  | 0, e, hm => by cases e; simp at hm
  | m + 1, .mk op name v A c args pos, hm => by
    by_cases hne : args = []
    · subst hne
      rw [foldE_leaf rfl, strip_mk, strips, foldE_leaf rfl]
    · have hs : strips (foldEs args) = foldEs (strips args) := by
        rw [strips_map, strips_map, foldEs_map, foldEs_map, List.map_map, List.map_map]
        exact List.map_congr_left fun a hx => foldE_strip m a (by have := ex_lt (e := .mk op name v A c args pos) hx; omega)
      rw [foldE_node hne, strip_top, hs, strip_mk, foldE_node (by rw [strips_map]; simpa using hne)]
end Go.Proofs.YtpbbkpfaphjdoaaDoor
