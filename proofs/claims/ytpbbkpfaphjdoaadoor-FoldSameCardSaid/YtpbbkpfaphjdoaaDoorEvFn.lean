/- What an expression comes to, of a row, in plain Lean; and that it is of its type, or a number goes over. No program in sight. -/
import Derived.Test.YtpbbkpfaphjdoaaDoorKindOf
import Derived.Test.YtpbbkpfaphjdoaaDoorApply
namespace Go.Proofs.YtpbbkpfaphjdoaaDoor
open Go.ChangeShapes Go.WideShapes Go.ChangeAt Go.RowKit

/-- A value that is right. -/
def right (v : Val) : Prop := v.wf ∧ vcheck v = 0
theorem right_truth (b : Bool) : right (truthV b) := by
  cases b
  · exact ⟨⟨show fits 2 by decide, show fits 0 by decide, Nat.zero_le _⟩, by decide⟩
  · exact ⟨⟨show fits 2 by decide, show fits 1 by decide, Nat.zero_le _⟩, by decide⟩
theorem right_of {n : Int} (h : fits n) : right (ofV n) := ⟨⟨show fits 1 by decide, h, Nat.zero_le _⟩, rfl⟩
theorem reckon_sound {op : List UInt8} (h : isOp op = true) (a b : Int) : (reckonErr op a b = 0 ∧ fits (reckonVal op a b)) ∨ reckonErr op a b = 9 := by
  unfold reckonErr reckonVal
  rw [if_pos h]
  cases exact_ op a b with
  | none => exact Or.inr rfl
  | some n =>
    by_cases hf : fits n
    · exact Or.inl ⟨by simp [hf], by simp [hf]⟩
    · exact Or.inr (by simp [hf])
theorem num_sound {op : List UInt8} (h : isOp op = true) (a b : Int) :
    (reckonErr op a b = 0 ∧ right (numV (reckonErr op a b) (reckonVal op a b)) ∧ (numV (reckonErr op a b) (reckonVal op a b)).type = 1) ∨ (reckonErr op a b = 9 ∧ numV (reckonErr op a b) (reckonVal op a b) = noVal) := by
  rcases reckon_sound h a b with ⟨h1, h2⟩ | h1
  · left; unfold numV; rw [h1, if_pos rfl]; exact ⟨rfl, right_of h2, rfl⟩
  · right; unfold numV; rw [h1, if_neg (by decide)]; exact ⟨rfl, rfl⟩
/-- What comes of an operation on right values is right, and of the type of its rule; or a number goes over. -/
theorem apply_sound {s : ByteArray} {l : List Val} (ho : isOpB s = true) (hn : (l.length : Int) = arityOf s) (hr : ∀ v ∈ l, right v) (hf : fitsGrp (grp s) (typesOf l) = true) :
    (applyErr s l = 0 ∧ right (applyVal s l) ∧ (applyVal s l).type = typeGrp (grp s) (typesOf l)) ∨ (applyErr s l = 9 ∧ applyVal s l = noVal) := by
  rcases ops_cases ho with rfl | rfl | rfl | rfl | rfl | rfl | rfl | rfl | rfl | rfl | rfl | rfl | rfl | rfl | rfl | rfl | rfl
  · exact Or.inl ⟨rfl, right_truth _, rfl⟩
  · exact Or.inl ⟨rfl, right_truth _, rfl⟩
  · exact Or.inl ⟨rfl, right_truth _, rfl⟩
  · exact Or.inl ⟨rfl, right_truth _, rfl⟩
  · exact Or.inl ⟨rfl, right_truth _, rfl⟩
  · exact Or.inl ⟨rfl, right_truth _, rfl⟩
  · exact Or.inl ⟨rfl, right_truth _, rfl⟩
  · exact Or.inl ⟨rfl, right_truth _, rfl⟩
  · exact Or.inl ⟨rfl, right_truth _, rfl⟩
  · exact num_sound (op := [43]) rfl _ _
  · exact num_sound (op := [45]) rfl _ _
  · exact num_sound (op := [42]) rfl _ _
  · exact num_sound (op := [47]) rfl _ _
  · exact num_sound (op := [37]) rfl _ _
  · exact num_sound (op := [45]) rfl _ _
  · refine Or.inl ⟨rfl, right_of ?_, rfl⟩
    match l, hn with
    | [x], _ =>
      have := (hr x (by simp)).1.2.2
      unfold maxLen at this
      show fits (x.s.size : Int)
      unfold fits lo63 hi63; omega
  · match l, hn with
    | [x, y, z], _ =>
      refine Or.inl ⟨rfl, ?_, ?_⟩
      · show right (if x.n = 1 then y else z)
        split
        · exact hr y (by simp)
        · exact hr z (by simp)
      · have hf' : ((x.type == 2) && (y.type == z.type)) = true := hf
        simp at hf'
        show (if x.n = 1 then y else z).type = y.type
        split
        · rfl
        · exact hf'.2.symm

structure EvR where
  k : Int
  v : Val
def isIf (s : ByteArray) : Prop := s.data.toList = [105, 102]
instance (s : ByteArray) : Decidable (isIf s) := inferInstanceAs (Decidable (_ = _))
def isAnd (s : ByteArray) : Prop := s.data.toList = [97, 110, 100]
instance (s : ByteArray) : Decidable (isAnd s) := inferInstanceAs (Decidable (_ = _))
def isOr (s : ByteArray) : Prop := s.data.toList = [111, 114]
instance (s : ByteArray) : Decidable (isOr s) := inferInstanceAs (Decidable (_ = _))
/-- Does nothing behind it matter? -/
def stops (op : ByteArray) (v : Val) : Prop := isAnd op ∧ v.n = 0 ∨ isOr op ∧ v.n = 1
instance (op : ByteArray) (v : Val) : Decidable (stops op v) := inferInstanceAs (Decidable (_ ∨ _))
mutual
def evE (cols : List Col) (r : List Val) : Ex → EvR
  | .mk op name v _ _ args _ =>
    if isVal op then ⟨0, v⟩
    else if isCol op then (if findCol cols name < 0 then ⟨5, noVal⟩ else ⟨0, r.getD (findCol cols name).toNat noVal⟩)
    else if isIf op then
      (if (evAt cols r args 0).k ≠ 0 then ⟨(evAt cols r args 0).k, noVal⟩ else evAt cols r args (2 - (evAt cols r args 0).v.n).toNat)
    else evLoop cols r op args []
def evAt (cols : List Col) (r : List Val) : List Ex → Nat → EvR
  | [], _ => ⟨0, noVal⟩
  | a :: _, 0 => evE cols r a
  | _ :: l, k + 1 => evAt cols r l k
def evLoop (cols : List Col) (r : List Val) (op : ByteArray) : List Ex → List Val → EvR
  | [], acc => ⟨applyErr op acc, applyVal op acc⟩
  | a :: l, acc =>
    if (evE cols r a).k ≠ 0 then ⟨(evE cols r a).k, noVal⟩
    else if stops op (evE cols r a).v then ⟨0, (evE cols r a).v⟩
    else evLoop cols r op l (acc ++ [(evE cols r a).v])
end
theorem evE_mk (cols : List Col) (r : List Val) (op name : ByteArray) (v : Val) (A : Option Addr) (c : Nat) (args : List Ex) (pos : Int) :
    evE cols r (.mk op name v A c args pos) = if isVal op then ⟨0, v⟩
    else if isCol op then (if findCol cols name < 0 then ⟨5, noVal⟩ else ⟨0, r.getD (findCol cols name).toNat noVal⟩)
    else if isIf op then
      (if (evAt cols r args 0).k ≠ 0 then ⟨(evAt cols r args 0).k, noVal⟩ else evAt cols r args (2 - (evAt cols r args 0).v.n).toNat)
    else evLoop cols r op args [] := by rw [evE]
theorem evAt_get {cols : List Col} {r : List Val} : ∀ {l : List Ex} {k : Nat} {a : Ex}, l[k]? = some a → evAt cols r l k = evE cols r a
  | x :: l, 0, a, h => by simp at h; subst h; rw [evAt]
  | x :: l, k + 1, a, h => by rw [evAt]; exact evAt_get (by simpa using h)
  | [], k, a, h => by simp at h
/-- From the k-th argument on, with what came of those ahead. -/
theorem evLoop_err {cols : List Col} {r : List Val} {op : ByteArray} {l : List Ex} {k : Nat} {a : Ex} {acc : List Val} (h : l[k]? = some a) (hk : (evE cols r a).k ≠ 0) :
    evLoop cols r op (l.drop k) acc = ⟨(evE cols r a).k, noVal⟩ := by
  obtain ⟨hl, rfl⟩ := List.getElem?_eq_some_iff.1 h
  rw [List.drop_eq_getElem_cons hl, evLoop, if_pos hk]
theorem evLoop_stop {cols : List Col} {r : List Val} {op : ByteArray} {l : List Ex} {k : Nat} {a : Ex} {acc : List Val} (h : l[k]? = some a) (hk : (evE cols r a).k = 0) (hs : stops op (evE cols r a).v) :
    evLoop cols r op (l.drop k) acc = ⟨0, (evE cols r a).v⟩ := by
  obtain ⟨hl, rfl⟩ := List.getElem?_eq_some_iff.1 h
  rw [List.drop_eq_getElem_cons hl, evLoop, if_neg (by simp [hk]), if_pos hs]
theorem evLoop_next {cols : List Col} {r : List Val} {op : ByteArray} {l : List Ex} {k : Nat} {a : Ex} {acc : List Val} (h : l[k]? = some a) (hk : (evE cols r a).k = 0) (hs : ¬ stops op (evE cols r a).v) :
    evLoop cols r op (l.drop k) acc = evLoop cols r op (l.drop (k + 1)) (acc ++ [(evE cols r a).v]) := by
  obtain ⟨hl, rfl⟩ := List.getElem?_eq_some_iff.1 h
  rw [List.drop_eq_getElem_cons hl, evLoop, if_neg (by simp [hk]), if_neg hs]

/-- A row that is right for columns. -/
structure RowOk (cols : List Col) (r : List Val) : Prop where
  len : r.length = cols.length
  ok : ∀ v ∈ r, right v
  ty : ∀ (i : Nat) (c : Col) (v : Val), cols[i]? = some c → r[i]? = some v → v.type = c.type
def EvOk (x : EvR) (t : Int) : Prop := (x.k = 0 ∧ right x.v ∧ x.v.type = t) ∨ (x.k = 9 ∧ x.v = noVal)

theorem ofE_parts {cols : List Col} {op name : ByteArray} {v : Val} {A : Option Addr} {c : Nat} {args : List Ex} {pos : Int} (h : (ofE cols (.mk op name v A c args pos)).h = 0) :
    (∀ a ∈ args, (ofE cols a).h = 0) ∧ ofE cols (.mk op name v A c args pos) = ofNode cols op name v (ofTypes cols args) pos ∧ (ofNode cols op name v (ofTypes cols args) pos).h = 0 := by
  rw [ofE_mk] at h ⊢
  by_cases hf : (ofFault cols args).h = 0
  · rw [if_neg (by simp [hf])] at h ⊢
    refine ⟨?_, rfl, h⟩
    clear h
    induction args with
    | nil => intro a ha; cases ha
    | cons x l ih =>
      rw [ofFault] at hf
      by_cases hx : (ofE cols x).h = 0
      · rw [if_neg (by simp [hx])] at hf
        intro a ha
        rcases List.mem_cons.1 ha with rfl | ha
        · exact hx
        · exact ih hf a ha
      · rw [if_pos hx] at hf; exact absurd hf hx
  · rw [if_pos hf] at h; exact absurd h hf
theorem ofNode_op {cols : List Col} {op name : ByteArray} {v : Val} {ts : List Int} {pos : Int} (hv : ¬ isVal op) (hc : ¬ isCol op) (h : (ofNode cols op name v ts pos).h = 0) :
    ruleErr op ts = 0 ∧ ofNode cols op name v ts pos = ⟨typeGrp (grp op) ts, 0, 0⟩ := by
  unfold ofNode at h ⊢
  rw [if_neg hv, if_neg hc] at h ⊢
  by_cases hr : ruleErr op ts = 0
  · rw [if_neg (by simp [hr])] at h ⊢
    refine ⟨hr, ?_⟩
    unfold ruleTy; rw [if_pos hr]
  · rw [if_pos hr] at h; exact absurd (show (8 : Int) = 0 from h) (by omega)
theorem ruleErr_parts {s : ByteArray} {ts : List Int} (h : ruleErr s ts = 0) : isOpB s = true ∧ (ts.length : Int) = arityOf s ∧ fitsGrp (grp s) ts = true := by
  unfold ruleErr at h
  split at h
  · omega
  · rename_i h1
    split at h
    · omega
    · rename_i h2
      split at h
      · rename_i h3
        refine ⟨?_, by simpa using h2, h3⟩
        cases hb : isOpB s with
        | true => rfl
        | false => exact absurd (Or.inl hb) h1
      · omega
theorem stops_grp {op : ByteArray} {v : Val} (h : stops op v) : grp op = 0 := by
  unfold grp
  unfold stops isAnd isOr at h
  rcases h with ⟨h, _⟩ | ⟨h, _⟩
  · rw [if_pos (Or.inr (Or.inl h))]
  · rw [if_pos (Or.inl h)]
theorem if_grp {op : ByteArray} (h : isIf op) : grp op = 3 ∧ arityOf op = 3 := by
  rw [bytes_of h]; exact ⟨by decide, by decide⟩
theorem ofTypes_length (cols : List Col) (l : List Ex) : (ofTypes cols l).length = l.length := by rw [ofTypes_map]; simp

theorem loop_sound {cols : List Col} {r : List Val} {op : ByteArray} {args : List Ex} (hop : isOpB op = true) (hlen : ((ofTypes cols args).length : Int) = arityOf op)
    (hf : fitsGrp (grp op) (ofTypes cols args) = true) (hok : ∀ a ∈ args, EvOk (evE cols r a) (ofE cols a).t) :
    ∀ (l : List Ex) (done : List Ex) (acc : List Val), done ++ l = args → typesOf acc = ofTypes cols done → (∀ v ∈ acc, right v) → EvOk (evLoop cols r op l acc) (typeGrp (grp op) (ofTypes cols args)) := by
  intro l
  induction l with
  | nil =>
    intro done acc hd ht hr
    rw [List.append_nil] at hd
    subst hd
    rw [evLoop]
    have hl : (acc.length : Int) = arityOf op := by
      rw [← hlen, ← ht]; simp [typesOf]
    rcases apply_sound hop hl hr (by rw [ht]; exact hf) with h | h
    · exact Or.inl ⟨h.1, h.2.1, by rw [h.2.2, ht]⟩
    · exact Or.inr h
  | cons a l ih =>
    intro done acc hd ht hr
    have ha : a ∈ args := by rw [← hd]; simp
    rw [evLoop]
    rcases hok a ha with ⟨h1, h2, h3⟩ | ⟨h1, h2⟩
    · rw [if_neg (by simp [h1])]
      by_cases hs : stops op (evE cols r a).v
      · rw [if_pos hs]
        refine Or.inl ⟨rfl, h2, ?_⟩
        have hg := stops_grp hs
        rw [hg] at hf ⊢
        show (evE cols r a).v.type = 2
        rw [h3]
        refine allThe_at (ts := ofTypes cols args) hf ?_
        rw [ofTypes_map]
        exact List.mem_map.2 ⟨a, ha, rfl⟩
      · rw [if_neg hs]
        refine ih (done ++ [a]) _ (by rw [← hd]; simp) ?_ ?_
        · rw [ofTypes_map, List.map_append, ← ofTypes_map, ← ht]
          simp [typesOf, h3]
        · intro v hv
          rcases List.mem_append.1 hv with hv | hv
          · exact hr v hv
          · simp at hv; subst hv; exact h2
    · rw [h1, if_pos (by decide)]
      exact Or.inr ⟨rfl, rfl⟩

theorem nodeErr_val {op name : ByteArray} {v : Val} {n : Nat} (h : nodeErrOf op name v n = 0) (hv : isVal op) : vcheck v = 0 := by
  unfold nodeErrOf at h
  by_cases h1 : arityOf op < 0 ∨ isCol op ∧ treeName name = false
  · rw [if_pos h1] at h; omega
  · rw [if_neg h1] at h
    by_cases h2 : (n : Int) ≠ arityOf op ∨ ¬ isCol op ∧ name.data.toList ≠ [] ∨ ¬ isVal op ∧ v ≠ noVal
    · rw [if_pos h2] at h; omega
    · rw [if_neg h2, if_neg (by simp [hv])] at h
      by_cases h3 : vcheck v = 0
      · exact h3
      · rw [if_pos h3] at h; exact h
/-- The values in an expression are such as may be. -/
inductive WfE : Ex → Prop
  | mk {e : Ex} (hv : e.val.wf) (ha : ∀ a ∈ e.args, WfE a) : WfE e
theorem WfE.parts {e : Ex} (h : WfE e) : e.val.wf ∧ ∀ a ∈ e.args, WfE a := by cases h with | mk h1 h2 => exact ⟨h1, h2⟩
theorem wf_of_sees {w : World} {e : Ex} (h : SeesEx w e) : WfE e := by
  induction h with
  | mk _ _ _ hv _ _ ih => exact .mk hv ih
theorem ev_wf {cols : List Col} {r : List Val} (hr : RowOk cols r) : ∀ (m : Nat) (e : Ex), SizeOf.sizeOf e ≤ m → WfE e → nodesErr e = 0 → (ofE cols e).h = 0 → EvOk (evE cols r e) (ofE cols e).t
  | 0, e, hm, _, _, _ => by cases e; simp at hm
  | m + 1, .mk op name v A c args pos, hm, he, hn, hh => by
    obtain ⟨p1, p2, p3⟩ := ofE_parts hh
    obtain ⟨n1, n2⟩ := nodesErr_parts hn
    have ih : ∀ a ∈ args, EvOk (evE cols r a) (ofE cols a).t := fun a ha =>
      ev_wf hr m a (by have := ex_lt (e := .mk op name v A c args pos) ha; omega) (he.parts.2 a ha) (nodesErrs_all n2 a ha) (p1 a ha)
    rw [p2, evE_mk]
    by_cases hv : isVal op
    · rw [if_pos hv]
      unfold ofNode
      rw [if_pos hv]
      exact Or.inl ⟨rfl, ⟨he.parts.1, nodeErr_val n1 hv⟩, rfl⟩
    rw [if_neg hv]
    by_cases hc : isCol op
    · rw [if_pos hc]
      unfold ofNode at p3 ⊢
      rw [if_neg hv, if_pos hc] at p3 ⊢
      by_cases hf : findCol cols name < 0
      · rw [if_pos hf] at p3; exact absurd (show (5 : Int) = 0 from p3) (by omega)
      · rw [if_neg hf, if_neg hf]
        obtain ⟨k, x, hk, hx, _⟩ := findCol_get (Int.not_lt.1 hf)
        have hl := (List.getElem?_eq_some_iff.1 hx).1
        have hg : r[k]? = some (r[k]'(by rw [hr.len]; exact hl)) := List.getElem?_eq_getElem _
        refine Or.inl ⟨rfl, ?_, ?_⟩
        · show right (r.getD (findCol cols name).toNat noVal)
          rw [hk, Int.toNat_natCast, List.getD_eq_getElem?_getD, hg]
          exact hr.ok _ (List.getElem_mem _)
        · show (r.getD (findCol cols name).toNat noVal).type = colType cols (findCol cols name)
          unfold colType
          rw [hk, Int.toNat_natCast, List.getD_eq_getElem?_getD, hg, hx]
          exact hr.ty k x _ hx hg
    rw [if_neg hc]
    obtain ⟨q1, q2⟩ := ofNode_op hv hc p3
    obtain ⟨r1, r2, r3⟩ := ruleErr_parts q1
    rw [q2]
    by_cases hi : isIf op
    · rw [if_pos hi]
      obtain ⟨i1, i2⟩ := if_grp hi
      rw [i1] at r3 ⊢
      rw [ofTypes_length, i2] at r2
      match args, r2, ih, r3 with
      | [a, b, d], _, ih, r3 =>
        have e0 : evAt cols r [a, b, d] 0 = evE cols r a := evAt_get rfl
        have e1 : evAt cols r [a, b, d] 1 = evE cols r b := evAt_get rfl
        have e2 : evAt cols r [a, b, d] 2 = evE cols r d := evAt_get rfl
        have ht : ofTypes cols [a, b, d] = [(ofE cols a).t, (ofE cols b).t, (ofE cols d).t] := by rw [ofTypes_map]; rfl
        rw [ht] at r3 ⊢
        have r3' : (((ofE cols a).t == 2) && ((ofE cols b).t == (ofE cols d).t)) = true := r3
        simp at r3'
        show EvOk _ (ofE cols b).t
        rw [e0]
        rcases ih a (by simp) with ⟨h1, h2, h3⟩ | ⟨h1, h2⟩
        · rw [if_neg (by simp [h1])]
          rcases bool_of h2.2 (by rw [h3, r3'.1]) with hb | hb
          · rw [hb, show ((2 : Int) - 0).toNat = 2 from rfl, e2, r3'.2]; exact ih d (by simp)
          · rw [hb, show ((2 : Int) - 1).toNat = 1 from rfl, e1]; exact ih b (by simp)
        · rw [h1, if_pos (by decide)]; exact Or.inr ⟨rfl, rfl⟩
    rw [if_neg hi]
    exact loop_sound r1 r2 r3 ih args [] [] rfl (by rw [ofTypes]; rfl) (by simp)
theorem ev_sound {cols : List Col} {r : List Val} (hr : RowOk cols r) (m : Nat) (e : Ex) (hm : SizeOf.sizeOf e ≤ m) (w : World) (he : SeesEx w e) (hn : nodesErr e = 0) (hh : (ofE cols e).h = 0) : EvOk (evE cols r e) (ofE cols e).t :=
  ev_wf hr m e hm (wf_of_sees he) hn hh
end Go.Proofs.YtpbbkpfaphjdoaaDoor
