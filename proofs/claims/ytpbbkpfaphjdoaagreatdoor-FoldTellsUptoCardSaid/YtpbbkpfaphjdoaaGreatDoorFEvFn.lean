/- What an expression comes to, of a row, in plain Lean; and that it is of its type, or a number goes over. No program in sight. -/
import Derived.Test.YtpbbkpfaphjdoaaGreatDoorFKindOf
import Derived.Test.YtpbbkpfaphjdoaaGreatDoorFApply
namespace Go.Proofs.YtpbbkpfaphjdoaaGreatDoor
open Go.ChangeShapes Go.WideShapes Go.ChangeAt Go.RowKit
def right (v : Val) : Prop := v.wf ∧ vcheck v = 0
theorem right_truth (b : Bool) : right (truthV b) := by
 cases b
 ·exact ⟨⟨show fits 2 by decide, show fits 0 by decide, Nat.zero_le _⟩, by decide⟩
 ·exact ⟨⟨show fits 2 by decide, show fits 1 by decide, Nat.zero_le _⟩, by decide⟩
theorem right_of {n : Int} (h : fits n) : right (ofV n) := ⟨⟨show fits 1 by decide, h, Nat.zero_le _⟩, rfl⟩
theorem reckon_sound {op : List UInt8} (h : isOp op = true) (a b : Int) : (reckonErr op a b = 0 ∧ fits (reckonVal op a b)) ∨ reckonErr op a b = 9 := by
 unfold reckonErr reckonVal
 rw [if_pos h]
 cases exact_ op a b with
 | none => exact Or.inr rfl
 | some n =>
  by_cases hf : fits n
  ·exact Or.inl ⟨by simp [hf], by simp [hf]⟩
  ·exact Or.inr (by simp [hf])
theorem num_sound {op : List UInt8} (h : isOp op = true) (a b : Int) :
  (reckonErr op a b = 0 ∧ right (numV (reckonErr op a b) (reckonVal op a b)) ∧ (numV (reckonErr op a b) (reckonVal op a b)).type = 1) ∨ (reckonErr op a b = 9 ∧ numV (reckonErr op a b) (reckonVal op a b) = noVal) := by
 rcases reckon_sound h a b with ⟨h1, h2⟩ | h1
 ·left; unfold numV; rw [h1, if_pos rfl]; exact ⟨rfl, right_of h2, rfl⟩
 ·right; unfold numV; rw [h1, if_neg (by decide)]; exact ⟨rfl, rfl⟩
theorem apply_sound {s : ByteArray} {l : List Val} (ho : isOpB s = true) (hn : (l.length : Int) = arityOf s) (hr : ∀ v ∈ l, right v) (hf : fitsGrp (grp s) (typesOf l) = true) :
  (applyErr s l = 0 ∧ right (applyVal s l) ∧ (applyVal s l).type = typeGrp (grp s) (typesOf l)) ∨ (applyErr s l = 9 ∧ applyVal s l = noVal) := by
 rcases ops_cases ho with rfl | rfl | rfl | rfl | rfl | rfl | rfl | rfl | rfl | rfl | rfl | rfl | rfl | rfl | rfl | rfl | rfl
 ·exact Or.inl ⟨rfl, right_truth _, rfl⟩
 ·exact Or.inl ⟨rfl, right_truth _, rfl⟩
 ·exact Or.inl ⟨rfl, right_truth _, rfl⟩
 ·exact Or.inl ⟨rfl, right_truth _, rfl⟩
 ·exact Or.inl ⟨rfl, right_truth _, rfl⟩
 ·exact Or.inl ⟨rfl, right_truth _, rfl⟩
 ·exact Or.inl ⟨rfl, right_truth _, rfl⟩
 ·exact Or.inl ⟨rfl, right_truth _, rfl⟩
 ·exact Or.inl ⟨rfl, right_truth _, rfl⟩
 ·exact num_sound (op := [43]) rfl _ _
 ·exact num_sound (op := [45]) rfl _ _
 ·exact num_sound (op := [42]) rfl _ _
 ·exact num_sound (op := [47]) rfl _ _
 ·exact num_sound (op := [37]) rfl _ _
 ·exact num_sound (op := [45]) rfl _ _
 ·refine Or.inl ⟨rfl, right_of ?_, rfl⟩
  match l, hn with
  | [x], _ =>
   have := (hr x (by simp)).1.2.2
   unfold maxLen at this
   show fits (x.s.size : Int)
   unfold fits lo63 hi63; omega
 ·match l, hn with
  | [x, y, z], _ =>
   refine Or.inl ⟨rfl, ?_, ?_⟩
   ·show right (if x.n = 1 then y else z)
    split
    ·exact hr y (by simp)
    ·exact hr z (by simp)
   ·have hf' : ((x.type == 2) && (y.type == z.type)) = true := hf
    simp at hf'
    show (if x.n = 1 then y else z).type = y.type
    split
    ·rfl
    ·exact hf'.2.symm
structure EvR where
 k : Int
 v : Val
def isIf (s : ByteArray) : Prop := s.data.toList = [105, 102]
instance (s : ByteArray) : Decidable (isIf s) := inferInstanceAs (Decidable (_ = _))
def isAnd (s : ByteArray) : Prop := s.data.toList = [97, 110, 100]
instance (s : ByteArray) : Decidable (isAnd s) := inferInstanceAs (Decidable (_ = _))
def isOr (s : ByteArray) : Prop := s.data.toList = [111, 114]
instance (s : ByteArray) : Decidable (isOr s) := inferInstanceAs (Decidable (_ = _))
def stops (op : ByteArray) (v : Val) : Prop := isAnd op ∧ v.n = 0 ∨ isOr op ∧ v.n = 1
instance (op : ByteArray) (v : Val) : Decidable (stops op v) := inferInstanceAs (Decidable (_ ∨ _))
structure RowOk (cols : List Col) (r : List Val) : Prop where
 len : r.length = cols.length
 ok : ∀ v ∈ r, right v
 ty : ∀ (i : Nat) (c : Col) (v : Val), cols[i]? = some c → r[i]? = some v → v.type = c.type
theorem ofE_parts {cols : List Col} {op name : ByteArray} {v : Val} {A : Option Addr} {c : Nat} {args : List Ex} {pos : Int} (h : (ofE cols (.mk op name v A c args pos)).h = 0) :
  (∀ a ∈ args, (ofE cols a).h = 0) ∧ ofE cols (.mk op name v A c args pos) = ofNode cols op name v (ofTypes cols args) pos ∧ (ofNode cols op name v (ofTypes cols args) pos).h = 0 := by
 rw [ofE_mk] at h ⊢
 by_cases hf : (ofFault cols args).h = 0
 ·rw [if_neg (by simp [hf])] at h ⊢
  refine ⟨?_, rfl, h⟩
  clear h
  induction args with
  | nil => intro a ha; cases ha
  | cons x l ih =>
   rw [ofFault] at hf
   by_cases hx : (ofE cols x).h = 0
   ·rw [if_neg (by simp [hx])] at hf
    intro a ha
    rcases List.mem_cons.1 ha with rfl | ha
    ·exact hx
    ·exact ih hf a ha
   ·rw [if_pos hx] at hf; exact absurd hf hx
 ·rw [if_pos hf] at h; exact absurd h hf
theorem ofNode_op {cols : List Col} {op name : ByteArray} {v : Val} {ts : List Int} {pos : Int} (hv : ¬ isVal op) (hc : ¬ isCol op) (h : (ofNode cols op name v ts pos).h = 0) :
  ruleErr op ts = 0 ∧ ofNode cols op name v ts pos = ⟨typeGrp (grp op) ts, 0, 0⟩ := by
 unfold ofNode at h ⊢
 rw [if_neg hv, if_neg hc] at h ⊢
 by_cases hr : ruleErr op ts = 0
 ·rw [if_neg (by simp [hr])] at h ⊢
  refine ⟨hr, ?_⟩
  unfold ruleTy; rw [if_pos hr]
 ·rw [if_pos hr] at h; exact absurd (show (8 : Int) = 0 from h) (by omega)
theorem ruleErr_parts {s : ByteArray} {ts : List Int} (h : ruleErr s ts = 0) : isOpB s = true ∧ (ts.length : Int) = arityOf s ∧ fitsGrp (grp s) ts = true := by
 unfold ruleErr at h
 split at h
 ·omega
 ·rename_i h1
  split at h
  ·omega
  ·rename_i h2
   split at h
   ·rename_i h3
    refine ⟨?_, by simpa using h2, h3⟩
    cases hb : isOpB s with
    | true => rfl
    | false => exact absurd (Or.inl hb) h1
   ·omega
theorem if_grp {op : ByteArray} (h : isIf op) : grp op = 3 ∧ arityOf op = 3 := by
 rw [bytes_of h]; exact ⟨by decide, by decide⟩
theorem ofTypes_length (cols : List Col) (l : List Ex) : (ofTypes cols l).length = l.length := by rw [ofTypes_map]; simp
theorem nodeErr_val {op name : ByteArray} {v : Val} {n : Nat} (h : nodeErrOf op name v n = 0) (hv : isVal op) : vcheck v = 0 := by
 unfold nodeErrOf at h
 by_cases h1 : arityOf op < 0 ∨ isCol op ∧ treeName name = false
 ·rw [if_pos h1] at h; omega
 ·rw [if_neg h1] at h
  by_cases h2 : (n : Int) ≠ arityOf op ∨ ¬ isCol op ∧ name.data.toList ≠ [] ∨ ¬ isVal op ∧ v ≠ noVal
  ·rw [if_pos h2] at h; omega
  ·rw [if_neg h2, if_neg (by simp [hv])] at h
   by_cases h3 : vcheck v = 0
   ·exact h3
   ·rw [if_pos h3] at h; exact h
inductive WfE : Ex → Prop
 | mk {e : Ex} (hv : e.val.wf) (ha : ∀ a ∈ e.args, WfE a) : WfE e
theorem WfE.parts {e : Ex} (h : WfE e) : e.val.wf ∧ ∀ a ∈ e.args, WfE a := by cases h with | mk h1 h2 => exact ⟨h1, h2⟩
theorem wf_of_sees {w : World} {e : Ex} (h : SeesEx w e) : WfE e := by
 induction h with
 | mk _ _ _ hv _ _ ih => exact .mk hv ih
end Go.Proofs.YtpbbkpfaphjdoaaGreatDoor
