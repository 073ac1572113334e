/- Expressions made short, in plain Lean: what becomes of any; it is of the same type, comes to the same, has no more nodes and no other columns; made short once more it stays. No program in sight. Expressions made short, in plain Lean, the second part: what comes of it, how many nodes, which columns; once more. -/
import Derived.Test.YtpbbkpfaphjdoaaGreatDoorFSidesLaw
import Derived.Test.YtpbbkpfaphjdoaaGreatDoorFCheck
namespace Go.Proofs.YtpbbkpfaphjdoaaGreatDoor
open Go.ChangeShapes Go.WideShapes Go.ChangeAt Go.RowKit
mutual
theorem strip_of (cols : List Col) : ∀ e : Ex, ofE cols (strip e) = ofE cols e
 | .mk op name v A c args pos => by rw [strip, ofE_mk, ofE_mk, strip_fault cols args, strip_types cols args]
theorem strip_fault (cols : List Col) : ∀ l : List Ex, ofFault cols (strips l) = ofFault cols l
 | [] => by rw [strips]
 | a :: l => by rw [strips, ofFault, ofFault, strip_of cols a, strip_fault cols l]
theorem strip_types (cols : List Col) : ∀ l : List Ex, ofTypes cols (strips l) = ofTypes cols l
 | [] => by rw [strips]
 | a :: l => by rw [strips, ofTypes, ofTypes, strip_of cols a, strip_types cols l]
end
mutual

def exNames : Ex → List ByteArray
 | .mk op name _ _ _ args _ => (if isCol op then [name] else []) ++ exNamess args
def exNamess : List Ex → List ByteArray
 | [] => []
 | a :: l => exNames a ++ exNamess l
end
def isNot (s : ByteArray) : Prop := s.data.toList = [110, 111, 116]
instance (s : ByteArray) : Decidable (isNot s) := inferInstanceAs (Decidable (_ = _))
def exVal (v : Val) (pos : Int) : Ex := .mk (mkB [118, 97, 108]) (mkB []) v none 0 [] pos
def allVal (l : List Ex) : Bool := l.all fun a => decide (isVal a.op)
def valsOf (l : List Ex) : List Val := l.map (·.val)
def mayStand (v : Val) : Bool := decide (v.type ≠ 1 ∨ 0 ≤ v.n)
def foldable (op : ByteArray) (l : List Ex) : Bool := allVal l && (decide (applyErr op (valsOf l) = 0) && mayStand (applyVal op (valsOf l)))
def foldRest (op name : ByteArray) (v : Val) (A : Option Addr) (c : Nat) (pos : Int) : List Ex → Ex
 | [] => .mk op name v A c [] pos
 | a :: r =>
  if isNot op ∧ isNot a.op then a.args.headD a
  else if ¬ isVal a.op then .mk op name v A c (a :: r) pos
  else if stops op a.val then a
  else if isAnd op ∨ isOr op then r.headD a
  else if isIf op then (a :: r).getD (2 - a.val.n).toNat a
  else .mk op name v A c (a :: r) pos
def foldTop (op name : ByteArray) (v : Val) (A : Option Addr) (c : Nat) (pos : Int) (l : List Ex) : Ex :=
 if foldable op l = true then exVal (applyVal op (valsOf l)) pos else foldRest op name v A c pos l
mutual
def foldE : Ex → Ex
 | .mk op name v A c args pos => if args.isEmpty = true then .mk op name v A c args pos else foldTop op name v none 0 pos (foldEs args)
def foldEs : List Ex → List Ex
 | [] => []
 | a :: l => foldE a :: foldEs l
end
theorem foldEs_map : ∀ l : List Ex, foldEs l = l.map foldE
 | [] => by rw [foldEs]; rfl
 | a :: l => by rw [foldEs, foldEs_map l]; rfl
theorem foldE_leaf {e : Ex} (h : e.args = []) : foldE e = e := by
 cases e with
 | mk op name v A c args pos => rw [foldE, if_pos (by rw [show args = [] from h]; rfl)]
theorem foldE_node {op name : ByteArray} {v : Val} {A : Option Addr} {c : Nat} {args : List Ex} {pos : Int} (h : args ≠ []) : foldE (.mk op name v A c args pos) = foldTop op name v none 0 pos (foldEs args) := by
 rw [foldE, if_neg (by simpa using h)]
theorem strips_vals (l : List Ex) : valsOf (strips l) = valsOf l := by
 rw [strips_map]; unfold valsOf; rw [List.map_map]; exact List.map_congr_left fun a _ => strip_val a
theorem strips_allVal (l : List Ex) : allVal (strips l) = allVal l := by
 rw [strips_map]; unfold allVal; rw [List.all_map]; congr 1; funext a; show decide (isVal (strip a).op) = _; rw [strip_op]
theorem strips_foldable (op : ByteArray) (l : List Ex) : foldable op (strips l) = foldable op l := by unfold foldable; rw [strips_vals, strips_allVal]
theorem strip_exVal (v : Val) (pos : Int) : strip (exVal v pos) = exVal v pos := by unfold exVal; rw [strip, strips]
theorem strips_headD (l : List Ex) (a : Ex) : (strips l).headD (strip a) = strip (l.headD a) := by cases l with
 | nil => rw [strips]; rfl
 | cons x l => rw [strips]; rfl
theorem strips_getD (l : List Ex) (k : Nat) (a : Ex) : (strips l).getD k (strip a) = strip (l.getD k a) := by
 rw [strips_map, List.getD_eq_getElem?_getD, List.getD_eq_getElem?_getD, List.getElem?_map]
 cases l[k]? with
 | none => rfl
 | some x => rfl
theorem strip_rest (op name : ByteArray) (v : Val) (A : Option Addr) (c : Nat) (pos : Int) (l : List Ex) : strip (foldRest op name v A c pos l) = foldRest op name v none 0 pos (strips l) := by
 cases l with
 | nil => rw [strips, foldRest, foldRest, strip, strips]
 | cons a r =>
  rw [strips, foldRest, foldRest, strip_op, strip_val, strip_args]
  by_cases h1 : isNot op ∧ isNot a.op
  ·rw [if_pos h1, if_pos h1, strips_headD]
  rw [if_neg h1, if_neg h1]
  by_cases h2 : ¬ isVal a.op
  ·rw [if_pos h2, if_pos h2, strip, strips]
  rw [if_neg h2, if_neg h2]
  by_cases h3 : stops op a.val
  ·rw [if_pos h3, if_pos h3]
  rw [if_neg h3, if_neg h3]
  by_cases h4 : isAnd op ∨ isOr op
  ·rw [if_pos h4, if_pos h4, strips_headD]
  rw [if_neg h4, if_neg h4]
  by_cases h5 : isIf op
  ·rw [if_pos h5, if_pos h5, ← strips_getD, strips]
  rw [if_neg h5, if_neg h5, strip, strips]
theorem strip_top (op name : ByteArray) (v : Val) (A : Option Addr) (c : Nat) (pos : Int) (l : List Ex) : strip (foldTop op name v A c pos l) = foldTop op name v none 0 pos (strips l) := by
 unfold foldTop
 rw [strips_foldable, strips_vals]
 by_cases h : foldable op l = true
 ·rw [if_pos h, if_pos h, strip_exVal]
 ·rw [if_neg h, if_neg h, strip_rest]
structure Good (cols : List Col) (e : Ex) : Prop where
 nodes : nodesErr e = 0
 ty : (ofE cols e).h = 0
 wf : WfE e
theorem nodesErrs_zero : ∀ {l : List Ex}, (∀ a ∈ l, nodesErr a = 0) → nodesErrs l = 0
 | [], _ => by rw [nodesErrs]
 | a :: l, h => by rw [nodesErrs, h a (by simp), if_neg (by decide)]; exact nodesErrs_zero fun x hx => h x (List.mem_cons_of_mem _ hx)
theorem ofFault_zero {cols : List Col} : ∀ {l : List Ex}, (∀ a ∈ l, (ofE cols a).h = 0) → (ofFault cols l).h = 0
 | [], _ => by rw [ofFault]
 | a :: l, h => by rw [ofFault, if_neg (by rw [h a (by simp)]; decide)]; exact ofFault_zero fun x hx => h x (List.mem_cons_of_mem _ hx)
section
variable {cols : List Col} {op name : ByteArray} {v : Val} {A : Option Addr} {c : Nat} {pos : Int} {args : List Ex}
theorem good_mk (hn : nodeErrOf op name v args.length = 0) (hw : v.wf) (ha : ∀ a ∈ args, Good cols a) (ho : (ofNode cols op name v (ofTypes cols args) pos).h = 0) :
  Good cols (.mk op name v A c args pos) ∧ ofE cols (.mk op name v A c args pos) = ofNode cols op name v (ofTypes cols args) pos := by
 have e : ofE cols (.mk op name v A c args pos) = ofNode cols op name v (ofTypes cols args) pos := by
  rw [ofE_mk, if_neg (by rw [ofFault_zero fun a h => (ha a h).ty]; decide)]
 refine ⟨⟨?_, by rw [e]; exact ho, .mk hw fun a h => (ha a h).wf⟩, e⟩
 rw [nodesErr, hn, if_neg (by decide)]
 exact nodesErrs_zero fun a h => (ha a h).nodes
theorem good_parts (h : Good cols (.mk op name v A c args pos)) : nodeErrOf op name v args.length = 0 ∧ v.wf ∧ (∀ a ∈ args, Good cols a) ∧ (ofNode cols op name v (ofTypes cols args) pos).h = 0 ∧ ofE cols (.mk op name v A c args pos) = ofNode cols op name v (ofTypes cols args) pos := by
 obtain ⟨p1, p2, p3⟩ := ofE_parts h.ty
 obtain ⟨n1, n2⟩ := nodesErr_parts h.nodes
 obtain ⟨w1, w2⟩ := h.wf.parts
 exact ⟨n1, w1, fun a ha => ⟨nodesErrs_all n2 a ha, p1 a ha, w2 a ha⟩, p3, p2⟩
theorem good_val {a : Ex} (h : Good cols a) (hv : isVal a.op) : right a.val ∧ ofE cols a = ⟨a.val.type, 0, 0⟩ ∧ a.args = [] ∧ mayStand a.val = true := by
 obtain ⟨op, name, v, A, c, args, pos⟩ := a
 replace hv : isVal op := hv
 obtain ⟨h1, h2, h3, h4, h5⟩ := good_parts h
 refine ⟨⟨h2, nodeErr_val h1 hv⟩, ?_, ?_, ?_⟩
 ·rw [h5]; unfold ofNode; rw [if_pos hv]; rfl
 ·have h6 := (nodeErr_len h1).1
  rw [show arityOf op = 0 by rw [bytes_of hv]; decide] at h6
  have : args.length = 0 := by omega
  exact List.eq_nil_of_length_eq_zero this
 ·show mayStand v = true
  have hvc := nodeErr_val h1 hv
  by_cases h6 : v.type = 1 ∧ v.n < 0
  ·exfalso
   unfold nodeErrOf at h1
   split at h1
   ·omega
   split at h1
   ·omega
   revert h1
   simp [hvc]
  ·unfold mayStand
   apply decide_eq_true
   omega
theorem vals_right (ha : ∀ a ∈ args, Good cols a) (hv : allVal args = true) : (∀ u ∈ valsOf args, right u) ∧ typesOf (valsOf args) = ofTypes cols args := by
 have hv' : ∀ a ∈ args, isVal a.op := fun a h => of_decide_eq_true (List.all_eq_true.1 hv a h)
 refine ⟨fun u hu => ?_, ?_⟩
 ·obtain ⟨a, h1, rfl⟩ := List.mem_map.1 hu
  exact (good_val (ha a h1) (hv' a h1)).1
 ·rw [ofTypes_map]
  unfold typesOf valsOf
  rw [List.map_map]
  exact List.map_congr_left fun a h => by
   show a.val.type = _
   rw [(good_val (ha a h) (hv' a h)).2.1]
theorem good_exVal {u : Val} (hr : right u) (hm : mayStand u = true) : Good cols (exVal u pos) ∧ ofE cols (exVal u pos) = ⟨u.type, 0, 0⟩ := by
 have hn : nodeErrOf (mkB [118, 97, 108]) (mkB []) u 0 = 0 := by
  unfold nodeErrOf
  rw [if_neg (by decide), if_neg (by
   intro h
   rcases h with h | h | h
   ·exact absurd h (by decide)
   ·exact h.2 rfl
   ·exact h.1 (by decide)), if_neg (by simp [show isVal (mkB [118, 97, 108]) by decide]), hr.2, if_neg (by decide), if_neg (by
    have := of_decide_eq_true hm
    omega)]
 have ho : ofNode cols (mkB [118, 97, 108]) (mkB []) u (ofTypes cols []) pos = ⟨u.type, 0, 0⟩ := by unfold ofNode; rw [if_pos (by decide)]
 have := good_mk (A := none) (c := 0) (pos := pos) (args := []) hn hr.1 (fun a h => by cases h) (by rw [ho])
 exact ⟨this.1, by rw [← ho]; exact this.2⟩
structure OpOk (cols : List Col) (op name : ByteArray) (v : Val) (args : List Ex) : Prop where
 node : nodeErrOf op name v args.length = 0
 wf : v.wf
 each : ∀ a ∈ args, Good cols a
 rule : ruleErr op (ofTypes cols args) = 0
 val : ¬ isVal op
 col : ¬ isCol op
theorem ops_not {op : ByteArray} (h : isNot op) : grp op = 0 ∧ arityOf op = 1 := by rw [bytes_of h]; exact ⟨by decide, by decide⟩
theorem ops_and {op : ByteArray} (h : isAnd op ∨ isOr op) : grp op = 0 ∧ arityOf op = 2 := by
 rcases h with h | h
 ·rw [bytes_of h]; exact ⟨by decide, by decide⟩
 ·rw [bytes_of h]; exact ⟨by decide, by decide⟩
theorem OpOk.same (h : OpOk cols op name v args) : Good cols (.mk op name v A c args pos) ∧ (ofE cols (.mk op name v A c args pos)).t = typeGrp (grp op) (ofTypes cols args) := by
 have ho : ofNode cols op name v (ofTypes cols args) pos = ⟨typeGrp (grp op) (ofTypes cols args), 0, 0⟩ := by
  unfold ofNode
  rw [if_neg h.val, if_neg h.col, if_neg (by simp [h.rule])]
  unfold ruleTy
  rw [if_pos h.rule]
 have := good_mk (A := A) (c := c) (pos := pos) h.node h.wf h.each (by rw [ho])
 exact ⟨this.1, by rw [this.2, ho]⟩
theorem OpOk.bool (h : OpOk cols op name v args) (hg : grp op = 0) {a : Ex} (ha : a ∈ args) : (ofE cols a).t = 2 := by
 have := (ruleErr_parts h.rule).2.2
 rw [hg] at this
 exact allThe_at this (by rw [ofTypes_map]; exact List.mem_map.2 ⟨a, ha, rfl⟩)
theorem OpOk.len (h : OpOk cols op name v args) : (args.length : Int) = arityOf op := by
 have := (ruleErr_parts h.rule).2.1
 rwa [ofTypes_length] at this
theorem val_bool {a : Ex} (h : Good cols a) (hv : isVal a.op) (ht : (ofE cols a).t = 2) : a.val.n = 0 ∨ a.val.n = 1 := by
 obtain ⟨h1, h2, _, _⟩ := good_val h hv
 rw [h2] at ht
 exact bool_of h1.2 ht
theorem not_part {a : Ex} (h : Good cols a) (hn : isNot a.op) : ∃ b, a.args = [b] ∧ Good cols b ∧ (ofE cols b).t = 2 ∧ (ofE cols a).t = 2 := by
 obtain ⟨op, name, v, A, c, args, pos⟩ := a
 replace hn : isNot op := hn
 obtain ⟨h1, h2, h3, h4, h5⟩ := good_parts h
 have hv : ¬ isVal op := by rw [bytes_of hn]; decide
 have hc : ¬ isCol op := by rw [bytes_of hn]; decide
 obtain ⟨q1, q2⟩ := ofNode_op hv hc h4
 have ho : OpOk cols op name v args := ⟨h1, h2, h3, q1, hv, hc⟩
 obtain ⟨g1, g2⟩ := ops_not hn
 have hl := ho.len
 rw [g2] at hl
 match args, hl, ho, h3, h5, q2 with
 | [b], _, ho, h3, h5, q2 =>
  refine ⟨b, rfl, h3 b (by simp), ho.bool g1 (by simp), ?_⟩
  rw [h5, q2, g1]; rfl
theorem if_parts (h : OpOk cols op name v args) (hi : isIf op) : ∃ a b d, args = [a, b, d] ∧ (ofE cols a).t = 2 ∧ (ofE cols b).t = (ofE cols d).t ∧ typeGrp (grp op) (ofTypes cols args) = (ofE cols b).t := by
 obtain ⟨i1, i2⟩ := if_grp hi
 have hl := h.len
 rw [i2] at hl
 match args, hl, h with
 | [a, b, d], _, h =>
  have hf := (ruleErr_parts h.rule).2.2
  have ht : ofTypes cols [a, b, d] = [(ofE cols a).t, (ofE cols b).t, (ofE cols d).t] := by rw [ofTypes_map]; rfl
  rw [ht, i1] at hf
  have hf' : (((ofE cols a).t == 2) && ((ofE cols b).t == (ofE cols d).t)) = true := hf
  simp at hf'
  exact ⟨a, b, d, rfl, hf'.1, hf'.2, by rw [ht, i1]; rfl⟩
theorem and_parts (h : OpOk cols op name v args) (hi : isAnd op ∨ isOr op) : ∃ a b, args = [a, b] ∧ (ofE cols a).t = 2 ∧ (ofE cols b).t = 2 ∧ typeGrp (grp op) (ofTypes cols args) = 2 := by
 obtain ⟨i1, i2⟩ := ops_and hi
 have hl := h.len
 rw [i2] at hl
 match args, hl, h with
 | [a, b], _, h => exact ⟨a, b, rfl, h.bool i1 (by simp), h.bool i1 (by simp), by rw [i1]; rfl⟩
theorem stops_and {op : ByteArray} {u : Val} (h : stops op u) : isAnd op ∨ isOr op := by
 unfold stops at h
 rcases h with ⟨h, _⟩ | ⟨h, _⟩
 ·exact Or.inl h
 ·exact Or.inr h
theorem rest_ways (h : OpOk cols op name v args) :
  (foldRest op name v A c pos args = .mk op name v A c args pos) ∨
  (isNot op ∧ ∃ a b, args = [a] ∧ isNot a.op ∧ a.args = [b] ∧ foldRest op name v A c pos args = b) ∨
  ((isAnd op ∨ isOr op) ∧ ∃ a b, args = [a, b] ∧ isVal a.op ∧ stops op a.val ∧ foldRest op name v A c pos args = a) ∨
  ((isAnd op ∨ isOr op) ∧ ∃ a b, args = [a, b] ∧ isVal a.op ∧ ¬ stops op a.val ∧ foldRest op name v A c pos args = b) ∨
  (isIf op ∧ ∃ a b d, args = [a, b, d] ∧ isVal a.op ∧ a.val.n = 1 ∧ foldRest op name v A c pos args = b) ∨
  (isIf op ∧ ∃ a b d, args = [a, b, d] ∧ isVal a.op ∧ a.val.n = 0 ∧ foldRest op name v A c pos args = d) := by
 cases args with
 | nil => exact Or.inl (by rw [foldRest])
 | cons a r =>
  have hga := h.each a (by simp)
  rw [foldRest]
  by_cases h1 : isNot op ∧ isNot a.op
  ·rw [if_pos h1]
   obtain ⟨b, hb, _⟩ := not_part hga h1.2
   have hl := h.len
   rw [(ops_not h1.1).2] at hl
   have : r = [] := List.eq_nil_of_length_eq_zero (by simp at hl; omega)
   subst this
   exact Or.inr (Or.inl ⟨h1.1, a, b, rfl, h1.2, hb, by rw [hb]; rfl⟩)
  rw [if_neg h1]
  by_cases h2 : ¬ isVal a.op
  ·rw [if_pos h2]; exact Or.inl rfl
  rw [if_neg h2]
  replace h2 : isVal a.op := Decidable.not_not.1 h2
  by_cases h3 : stops op a.val
  ·rw [if_pos h3]
   obtain ⟨x, y, e, _⟩ := and_parts h (stops_and h3)
   injection e with e1 e2
   subst e1 e2
   exact Or.inr (Or.inr (Or.inl ⟨stops_and h3, a, y, rfl, h2, h3, rfl⟩))
  rw [if_neg h3]
  by_cases h4 : isAnd op ∨ isOr op
  ·rw [if_pos h4]
   obtain ⟨x, y, e, _⟩ := and_parts h h4
   injection e with e1 e2
   subst e1 e2
   exact Or.inr (Or.inr (Or.inr (Or.inl ⟨h4, a, y, rfl, h2, h3, rfl⟩)))
  rw [if_neg h4]
  by_cases h5 : isIf op
  ·rw [if_pos h5]
   obtain ⟨x, y, d, e, t1, _⟩ := if_parts h h5
   injection e with e1 e2
   subst e1 e2
   rcases val_bool hga h2 t1 with hz | hz
   ·exact Or.inr (Or.inr (Or.inr (Or.inr (Or.inr ⟨h5, a, y, d, rfl, h2, hz, by rw [hz]; rfl⟩))))
   ·exact Or.inr (Or.inr (Or.inr (Or.inr (Or.inl ⟨h5, a, y, d, rfl, h2, hz, by rw [hz]; rfl⟩))))
  rw [if_neg h5]; exact Or.inl rfl
theorem foldable_parts {op : ByteArray} {l : List Ex} (h : foldable op l = true) : allVal l = true ∧ applyErr op (valsOf l) = 0 ∧ mayStand (applyVal op (valsOf l)) = true := by
 unfold foldable at h
 simp only [Bool.and_eq_true, decide_eq_true_eq] at h
 exact h
theorem top_good (h : OpOk cols op name v args) : Good cols (foldTop op name v A c pos args) ∧ (ofE cols (foldTop op name v A c pos args)).t = typeGrp (grp op) (ofTypes cols args) := by
 unfold foldTop
 by_cases hf : foldable op args = true
 ·rw [if_pos hf]
  obtain ⟨f1, f2, f3⟩ := foldable_parts hf
  obtain ⟨r1, r2⟩ := vals_right h.each f1
  obtain ⟨o1, o2, o3⟩ := ruleErr_parts h.rule
  rcases apply_sound o1 (l := valsOf args) (by unfold valsOf; rw [List.length_map]; exact h.len) r1 (by rw [r2]; exact o3) with ⟨a1, a2, a3⟩ | ⟨a1, _⟩
  ·have := good_exVal (cols := cols) (pos := pos) a2 f3
   exact ⟨this.1, by rw [this.2, ← r2]; exact a3⟩
  ·rw [a1] at f2; omega
 ·rw [if_neg hf]
  rcases rest_ways (A := A) (c := c) (pos := pos) h with e | ⟨hn, a, b, rfl, h1, h2, e⟩ | ⟨hn, a, b, rfl, h1, h2, e⟩ | ⟨hn, a, b, rfl, h1, h2, e⟩ | ⟨hn, a, b, d, rfl, h1, h2, e⟩ | ⟨hn, a, b, d, rfl, h1, h2, e⟩
  ·rw [e]; exact h.same
  ·rw [e]
   obtain ⟨b', hb, hg, ht, _⟩ := not_part (h.each a (by simp)) h1
   rw [h2] at hb
   injection hb with hb _
   subst hb
   exact ⟨hg, by rw [ht, (ops_not hn).1]; rfl⟩
  ·rw [e]
   obtain ⟨x, y, e1, t1, t2, t3⟩ := and_parts h hn
   injection e1 with e1 e2
   injection e2 with e2 _
   subst e1 e2
   exact ⟨h.each _ (by simp), by rw [t1, t3]⟩
  ·rw [e]
   obtain ⟨x, y, e1, t1, t2, t3⟩ := and_parts h hn
   injection e1 with e1 e2
   injection e2 with e2 _
   subst e1 e2
   exact ⟨h.each _ (by simp), by rw [t2, t3]⟩
  ·rw [e]
   obtain ⟨x, y, z, e1, t1, t2, t3⟩ := if_parts h hn
   injection e1 with e1 e2
   injection e2 with e2 e3
   injection e3 with e3 _
   subst e1 e2 e3
   exact ⟨h.each _ (by simp), by rw [t3]⟩
  ·rw [e]
   obtain ⟨x, y, z, e1, t1, t2, t3⟩ := if_parts h hn
   injection e1 with e1 e2
   injection e2 with e2 e3
   injection e3 with e3 _
   subst e1 e2 e3
   exact ⟨h.each _ (by simp), by rw [← t2, t3]⟩
end
end Go.Proofs.YtpbbkpfaphjdoaaGreatDoor
namespace Go.Proofs.YtpbbkpfaphjdoaaGreatDoor
open Go.ChangeShapes Go.WideShapes Go.ChangeAt Go.RowKit
theorem no_stops {op : ByteArray} {u : Val} (h : ¬ (isAnd op ∨ isOr op)) : ¬ stops op u := fun hs => h (stops_and hs)
section
variable {cols : List Col} {r : List Val} {op name : ByteArray} {v : Val} {A A' : Option Addr} {c c' : Nat} {pos : Int} {args : List Ex}
inductive Folded : Ex → Prop
 | leaf {e : Ex} (h : e.args = []) : Folded e
 | node {e : Ex} (h : e.args ≠ []) (ha : ∀ a ∈ e.args, Folded a) (ht : foldTop e.op e.name e.val none 0 e.pos e.args = .mk e.op e.name e.val none 0 e.args e.pos) : Folded e
theorem Folded.each {e : Ex} (h : Folded e) : ∀ a ∈ e.args, Folded a := by
 cases h with
 | leaf h => intro a ha; rw [h] at ha; cases ha
 | node _ ha _ => exact ha
end
theorem good_opok {cols : List Col} {op name : ByteArray} {v : Val} {A : Option Addr} {c : Nat} {pos : Int} {args : List Ex} (h : Good cols (.mk op name v A c args pos)) (hne : args ≠ []) : OpOk cols op name v args := by
 obtain ⟨h1, h2, h3, h4, h5⟩ := good_parts h
 have hl := (nodeErr_len h1).1
 have hp : 0 < args.length := List.length_pos_iff.2 hne
 obtain ⟨hv, hc⟩ := arity_pos (s := op) (by omega)
 exact ⟨h1, h2, h3, (ofNode_op hv hc h4).1, hv, hc⟩
theorem fold_good {cols : List Col} : ∀ (m : Nat) (e : Ex), SizeOf.sizeOf e ≤ m → Good cols e → Good cols (foldE e) ∧ (ofE cols (foldE e)).t = (ofE cols e).t
 | 0, e, hm, _ => by cases e; simp at hm
 | m + 1, .mk op name v A c args pos, hm, h => by
  by_cases hne : args = []
  ·rw [foldE_leaf (show (Ex.mk op name v A c args pos).args = [] from hne)]; exact ⟨h, rfl⟩
  have ho := good_opok h hne
  have ih : ∀ a ∈ args, Good cols (foldE a) ∧ (ofE cols (foldE a)).t = (ofE cols a).t := fun a ha =>
   fold_good m a (by have := ex_lt (e := .mk op name v A c args pos) ha; omega) (ho.each a ha)
  have ht : ofTypes cols (foldEs args) = ofTypes cols args := by
   rw [ofTypes_map, ofTypes_map, foldEs_map, List.map_map]
   exact List.map_congr_left fun a ha => (ih a ha).2
  have ho' : OpOk cols op name v (foldEs args) := ⟨by rw [foldEs_map, List.length_map]; exact ho.node, ho.wf, fun a ha => by
   rw [foldEs_map] at ha
   obtain ⟨x, hx, rfl⟩ := List.mem_map.1 ha
   exact (ih x hx).1, by rw [ht]; exact ho.rule, ho.val, ho.col⟩
  rw [foldE_node hne]
  have := top_good (A := none) (c := 0) (pos := pos) ho'
  exact ⟨this.1, by rw [this.2, ht, (OpOk.same ho).2]⟩
theorem fold_opok {cols : List Col} {op name : ByteArray} {v : Val} {A : Option Addr} {c : Nat} {pos : Int} {args : List Ex} (h : Good cols (.mk op name v A c args pos)) (hne : args ≠ []) : OpOk cols op name v (foldEs args) := by
 have ho := good_opok h hne
 have ht : ofTypes cols (foldEs args) = ofTypes cols args := by
  rw [ofTypes_map, ofTypes_map, foldEs_map, List.map_map]
  exact List.map_congr_left fun a ha => (fold_good _ a (Nat.le_refl _) (ho.each a ha)).2
 exact ⟨by rw [foldEs_map, List.length_map]; exact ho.node, ho.wf, fun a ha => by
  rw [foldEs_map] at ha
  obtain ⟨x, hx, rfl⟩ := List.mem_map.1 ha
  exact (fold_good _ x (Nat.le_refl _) (ho.each x hx)).1, by rw [ht]; exact ho.rule, ho.val, ho.col⟩
end Go.Proofs.YtpbbkpfaphjdoaaGreatDoor
