/- Compiled code, plain: what code.Compile makes of an expression; it runs, behind whatever, to what the expression comes to; and verify says that it is sound, of its type. No program in sight. -/
import Derived.Test.YthmbafkedgahaaaDoorVmLaw
namespace Go.Proofs.YthmbafkedgahaaaDoor
open Go.RowKit

def opIx (op : ByteArray) : Int := Lib.idxOfS opsB op
def pushI (v : Val) : Ins := ⟨1, 0, v⟩
def ldI (k : Int) : Ins := ⟨2, k, noVal⟩
def opI (k : Int) : Ins := ⟨3, k, noVal⟩
def jumpI (k : Int) : Ins := ⟨4, k, noVal⟩
def elseI (k : Int) : Ins := ⟨5, k, noVal⟩
def eithP (f y n : List Ins) : List Ins := f ++ elseI ((y.length : Int) + 1) :: (y ++ jumpI n.length :: n)
mutual
def compE (cols : List Col) : Ex → List Ins
  | .mk op name v _ _ args _ =>
    if isVal op then [pushI v] else if isCol op then [ldI (findCol cols name)] else
    if isAnd op then eithP (compAt cols args 0) (compAt cols args 1) [pushI (truthV false)] else
    if isOr op then eithP (compAt cols args 0) [pushI (truthV true)] (compAt cols args 1) else
    if isIf op then eithP (compAt cols args 0) (compAt cols args 1) (compAt cols args 2) else
    compAll cols args ++ [opI (opIx op)]
def compAt (cols : List Col) : List Ex → Nat → List Ins
  | [], _ => []
  | a :: _, 0 => compE cols a
  | _ :: l, k + 1 => compAt cols l k
def compAll (cols : List Col) : List Ex → List Ins
  | [] => []
  | a :: l => compE cols a ++ compAll cols l
end
theorem compE_mk (cols : List Col) (op name : ByteArray) (v : Val) (A : Option Addr) (c : Nat) (args : List Ex) (pos : Int) : compE cols (.mk op name v A c args pos) =
    if isVal op then [pushI v] else if isCol op then [ldI (findCol cols name)] else
    if isAnd op then eithP (compAt cols args 0) (compAt cols args 1) [pushI (truthV false)] else
    if isOr op then eithP (compAt cols args 0) [pushI (truthV true)] (compAt cols args 1) else
    if isIf op then eithP (compAt cols args 0) (compAt cols args 1) (compAt cols args 2) else
    compAll cols args ++ [opI (opIx op)] := by rw [compE]
theorem compAt_get {cols : List Col} : ∀ {l : List Ex} {k : Nat} {a : Ex}, l[k]? = some a → compAt cols l k = compE cols a
  | x :: l, 0, a, h => by simp at h; subst h; rw [compAt]
  | x :: l, k + 1, a, h => by rw [compAt]; exact compAt_get (by simpa using h)
  | [], k, a, h => by simp at h
theorem eithP_len (f y n : List Ins) : (eithP f y n).length = f.length + 1 + y.length + 1 + n.length := by
  unfold eithP; simp only [List.length_append, List.length_cons]; omega
theorem op_ix {op : ByteArray} (h : isOpB op = true) (ha : ¬ isAnd op) (ho : ¬ isOr op) (hi : ¬ isIf op) : opErr (opIx op) = 0 ∧ opNm (opIx op) = op := by
  rcases ops_cases h with rfl | rfl | rfl | rfl | rfl | rfl | rfl | rfl | rfl | rfl | rfl | rfl | rfl | rfl | rfl | rfl | rfl
  · exact absurd rfl ho
  · exact absurd rfl ha
  · decide
  · decide
  · decide
  · decide
  · decide
  · decide
  · decide
  · decide
  · decide
  · decide
  · decide
  · decide
  · decide
  · decide
  · exact absurd rfl hi
theorem bool_eq {v : Val} (hc : vcheck v = 0) (ht : v.type = 2) : v = truthV (decide (v.n = 1)) := by
  have hb := bool_of hc ht
  have hs : v.s.data.toList = [] := by
    unfold vcheck at hc
    rw [ht] at hc
    by_cases h : v.s.data.toList = []
    · exact h
    · simp [h] at hc
      split at hc <;> omega
  obtain ⟨t, n, s⟩ := v
  dsimp only at ht hb hs
  subst ht
  have hs : s = ⟨#[]⟩ := bytes_of hs
  subst hs
  rcases hb with h | h
  · subst h; rfl
  · subst h; rfl

section
variable {code : List Ins} {row : List Val} {i j k : Nat} {s s' s'' : List Val} {x : Ins} {xs ys f y n : List Ins}
def RunTo (code : List Ins) (row : List Val) (i : Nat) (s : List Val) (j : Nat) (s' : List Val) : Prop := ∀ done, ∃ d, runV code row none i done s = runV code row none j (done ++ d) s'
def RunErr (code : List Ins) (row : List Val) (i : Nat) (s : List Val) (k : Int) : Prop := ∀ done, ∃ d, runV code row none i done s = ⟨k, done ++ d, noVal⟩
theorem RunTo.refl (code : List Ins) (row : List Val) (i : Nat) (s : List Val) : RunTo code row i s i s := fun done => ⟨[], by rw [List.append_nil]⟩
theorem RunTo.trans (h : RunTo code row i s j s') (g : RunTo code row j s' k s'') : RunTo code row i s k s'' := fun done => by
  obtain ⟨d, e⟩ := h done
  obtain ⟨d', e'⟩ := g (done ++ d)
  exact ⟨d ++ d', by rw [e, e', List.append_assoc]⟩
theorem RunTo.err {q : Int} (h : RunTo code row i s j s') (g : RunErr code row j s' q) : RunErr code row i s q := fun done => by
  obtain ⟨d, e⟩ := h done
  obtain ⟨d', e'⟩ := g (done ++ d)
  exact ⟨d ++ d', by rw [e, e', List.append_assoc]⟩
theorem RunTo.step (hx : code[i]? = some x) {q : Nat} (E : doP row x s = (0, s', q)) : RunTo code row i s (i + 1 + q) s' := fun done =>
  ⟨[i], by rw [runV_go hx (by simp) (by rw [E]), E]⟩
theorem RunErr.step (hx : code[i]? = some x) (h0 : (doP row x s).1 ≠ 0) : RunErr code row i s (doP row x s).1 := fun done => ⟨[], by rw [runV_bad hx (by simp) h0, List.append_nil]⟩
def AtC (code : List Ins) (i : Nat) (xs : List Ins) : Prop := ∃ post, code.drop i = xs ++ post
theorem AtC.left (h : AtC code i (xs ++ ys)) : AtC code i xs := by obtain ⟨p, e⟩ := h; exact ⟨ys ++ p, by rw [e, List.append_assoc]⟩
theorem AtC.right (h : AtC code i (xs ++ ys)) : AtC code (i + xs.length) ys := by
  obtain ⟨p, e⟩ := h
  refine ⟨p, ?_⟩
  have : (code.drop i).drop xs.length = ys ++ p := by rw [e, List.append_assoc, List.drop_left]
  rwa [List.drop_drop] at this
theorem AtC.head (h : AtC code i (x :: xs)) : code[i]? = some x := by
  obtain ⟨p, e⟩ := h
  have : (code.drop i)[0]? = some x := by rw [e]; rfl
  rwa [List.getElem?_drop, Nat.add_zero] at this
theorem AtC.tail (h : AtC code i (x :: xs)) : AtC code (i + 1) xs := AtC.right (xs := [x]) h
theorem do_else (k : Int) (s : List Val) (v : Val) : doP row (elseI k) (s ++ [v]) = (0, s, if v.n = 0 then k.toNat else 0) := by
  have h1 : topV (s ++ [v]) = v := by unfold topV; simp
  have h2 : (s ++ [v]).take ((s ++ [v]).length - 1) = s := by simp
  show ((0 : Int), (s ++ [v]).take ((s ++ [v]).length - 1), if (topV (s ++ [v])).n = 0 then k.toNat else 0) = _
  rw [h1, h2]
theorem do_op {op : ByteArray} {vs : List Val} (h2 : opNm (opIx op) = op) (hl : (vs.length : Int) = arityOf op) :
    doP row (opI (opIx op)) (s ++ vs) = if applyErr op vs ≠ 0 then (applyErr op vs, s ++ vs, 0) else (0, s ++ [applyVal op vs], 0) := by
  have hn : need (opI (opIx op)) = vs.length := by
    show (if (3 : Int) = 3 then (arityOf (opNm (opIx op))).toNat else _) = _
    rw [if_pos rfl, h2, ← hl, Int.toNat_natCast]
  have e1 : (s ++ vs).length - need (opI (opIx op)) = s.length := by rw [hn, List.length_append]; omega
  have e2 : (s ++ vs).drop ((s ++ vs).length - need (opI (opIx op))) = vs := by rw [e1, List.drop_left]
  have e3 : (s ++ vs).take ((s ++ vs).length - need (opI (opIx op))) = s := by rw [e1, List.take_left]
  unfold doP
  rw [if_neg (show ¬ (opI (opIx op)).what = 1 by show ¬ (3 : Int) = 1; decide), if_neg (show ¬ (opI (opIx op)).what = 2 by show ¬ (3 : Int) = 2; decide), if_pos (show (opI (opIx op)).what = 3 from rfl)]
  rw [show (opI (opIx op)).arg = opIx op from rfl, h2, e2, e3]
theorem eith_no {v : Val} (hat : AtC code i (eithP f y n)) (hf : RunTo code row i s (i + f.length) (s ++ [v])) (hv : v.n = 0) : RunTo code row i s (i + f.length + 1 + y.length + 1) s := by
  have hx : code[i + f.length]? = some (elseI ((y.length : Int) + 1)) := hat.right.head
  have hs := RunTo.step (row := row) (s := s ++ [v]) hx (do_else _ _ _)
  rw [if_pos hv, show ((y.length : Int) + 1).toNat = y.length + 1 by omega] at hs
  exact hf.trans hs
theorem eith_yes {v : Val} (hat : AtC code i (eithP f y n)) (hf : RunTo code row i s (i + f.length) (s ++ [v])) (hv : ¬ v.n = 0) : RunTo code row i s (i + f.length + 1) s := by
  have hx : code[i + f.length]? = some (elseI ((y.length : Int) + 1)) := hat.right.head
  have hs := RunTo.step (row := row) (s := s ++ [v]) hx (do_else _ _ _)
  rw [if_neg hv, Nat.add_zero] at hs
  exact hf.trans hs
theorem eith_over (hat : AtC code i (eithP f y n)) (h : RunTo code row j s (i + f.length + 1 + y.length) s') : RunTo code row j s (i + (eithP f y n).length) s' := by
  have h1 : AtC code (i + f.length + 1) (y ++ jumpI n.length :: n) := hat.right.tail
  have hx : code[i + f.length + 1 + y.length]? = some (jumpI n.length) := h1.right.head
  have hs := RunTo.step (row := row) (s := s') (s' := s') (q := n.length) hx (by show ((0 : Int), s', ((n.length : Nat) : Int).toNat) = _; rw [Int.toNat_natCast])
  rw [eithP_len, show i + (f.length + 1 + y.length + 1 + n.length) = i + f.length + 1 + y.length + 1 + n.length by omega]
  exact h.trans hs
theorem eith_end (h : RunTo code row j s (i + f.length + 1 + y.length + 1 + n.length) s') : RunTo code row j s (i + (eithP f y n).length) s' := by
  rw [eithP_len, show i + (f.length + 1 + y.length + 1 + n.length) = i + f.length + 1 + y.length + 1 + n.length by omega]
  exact h
theorem AtC.f_ (hat : AtC code i (eithP f y n)) : AtC code i f := hat.left
theorem AtC.y_ (hat : AtC code i (eithP f y n)) : AtC code (i + f.length + 1) y := (hat.right.tail : AtC code (i + f.length + 1) (y ++ jumpI n.length :: n)).left
theorem AtC.n_ (hat : AtC code i (eithP f y n)) : AtC code (i + f.length + 1 + y.length + 1) n := ((hat.right.tail : AtC code (i + f.length + 1) (y ++ jumpI n.length :: n)).right).tail
end

/-- The code of e runs to what e comes to. -/
def FR (cols : List Col) (row : List Val) (code : List Ins) (e : Ex) : Prop := ∀ (i : Nat) (s : List Val), AtC code i (compE cols e) →
  ((evE cols row e).k = 0 → RunTo code row i s (i + (compE cols e).length) (s ++ [(evE cols row e).v])) ∧ ((evE cols row e).k ≠ 0 → RunErr code row i s (evE cols row e).k)
theorem ev_and {cols : List Col} {row : List Val} {op : ByteArray} {a b : Ex} (h : isAnd op) (ha : EvOk (evE cols row a) 2) (hb : EvOk (evE cols row b) 2) :
    evLoop cols row op [a, b] [] = if (evE cols row a).k ≠ 0 then ⟨(evE cols row a).k, noVal⟩ else if (evE cols row a).v.n = 0 then ⟨0, truthV false⟩ else evE cols row b := by
  rw [evLoop]
  by_cases hk : (evE cols row a).k ≠ 0
  · rw [if_pos hk, if_pos hk]
  rw [if_neg hk, if_neg hk]
  have ha' := ha.resolve_right (fun h => hk (by rw [h.1]; decide))
  have eA := bool_eq ha'.2.1.2 ha'.2.2
  by_cases h0 : (evE cols row a).v.n = 0
  · rw [if_pos (show stops op _ from Or.inl ⟨h, h0⟩), if_pos h0, eA, h0]; rfl
  have h1 := (bool_of ha'.2.1.2 ha'.2.2).resolve_left h0
  rw [if_neg (fun h2 => h2.elim (fun h2 => h0 h2.2) (fun h2 => by have := (show op.data.toList = _ from h).symm.trans h2.1; exact absurd this (by decide))), if_neg h0, evLoop]
  by_cases hkb : (evE cols row b).k ≠ 0
  · rw [if_pos hkb]
    have hb' := hb.resolve_left (fun h => hkb h.1)
    rw [show evE cols row b = ⟨(evE cols row b).k, (evE cols row b).v⟩ from rfl, hb'.2]
  · rw [if_neg hkb]
    have hb' := hb.resolve_right (fun h => hkb (by rw [h.1]; decide))
    have eB := bool_eq hb'.2.1.2 hb'.2.2
    have hkb' : (evE cols row b).k = 0 := by simpa using hkb
    generalize evE cols row b = rb at eB hb' hkb' ⊢
    obtain ⟨bk, bv⟩ := rb
    dsimp only at eB hb' hkb' ⊢
    subst hkb'
    by_cases hst : stops op bv
    · rw [if_pos hst]
    · rw [if_neg hst, evLoop, List.nil_append, eA, h1, bytes_of (show op.data.toList = _ from h)]
      rcases bool_of hb'.2.1.2 hb'.2.2 with hn | hn
      · exact absurd (Or.inl ⟨h, hn⟩) hst
      · rw [eB, hn]; rfl
theorem ev_or {cols : List Col} {row : List Val} {op : ByteArray} {a b : Ex} (h : isOr op) (ha : EvOk (evE cols row a) 2) (hb : EvOk (evE cols row b) 2) :
    evLoop cols row op [a, b] [] = if (evE cols row a).k ≠ 0 then ⟨(evE cols row a).k, noVal⟩ else if (evE cols row a).v.n = 0 then evE cols row b else ⟨0, truthV true⟩ := by
  rw [evLoop]
  by_cases hk : (evE cols row a).k ≠ 0
  · rw [if_pos hk, if_pos hk]
  rw [if_neg hk, if_neg hk]
  have ha' := ha.resolve_right (fun h => hk (by rw [h.1]; decide))
  have eA := bool_eq ha'.2.1.2 ha'.2.2
  by_cases h0 : (evE cols row a).v.n = 0
  · rw [if_neg (fun h2 => h2.elim (fun h2 => by have := (show op.data.toList = _ from h).symm.trans h2.1; exact absurd this (by decide)) (fun h2 => by rw [h0] at h2; exact absurd h2.2 (by decide))), if_pos h0, evLoop]
    by_cases hkb : (evE cols row b).k ≠ 0
    · rw [if_pos hkb]
      have hb' := hb.resolve_left (fun h => hkb h.1)
      rw [show evE cols row b = ⟨(evE cols row b).k, (evE cols row b).v⟩ from rfl, hb'.2]
    · rw [if_neg hkb]
      have hb' := hb.resolve_right (fun h => hkb (by rw [h.1]; decide))
      have eB := bool_eq hb'.2.1.2 hb'.2.2
      have hkb' : (evE cols row b).k = 0 := by simpa using hkb
      generalize evE cols row b = rb at eB hb' hkb' ⊢
      obtain ⟨bk, bv⟩ := rb
      dsimp only at eB hb' hkb' ⊢
      subst hkb'
      by_cases hst : stops op bv
      · rw [if_pos hst]
      · rw [if_neg hst, evLoop, List.nil_append, eA, h0, bytes_of (show op.data.toList = _ from h)]
        rcases bool_of hb'.2.1.2 hb'.2.2 with hn | hn
        · rw [eB, hn]; rfl
        · exact absurd (Or.inr ⟨h, hn⟩) hst
  · have h1 := (bool_of ha'.2.1.2 ha'.2.2).resolve_left h0
    rw [if_pos (show stops op _ from Or.inr ⟨h, h1⟩), if_neg h0, eA, h1]; rfl
/-- The arguments of an operation, one behind the other. -/
theorem frs {cols : List Col} {row : List Val} {code : List Ins} {op : ByteArray} (hs : ∀ v, ¬ stops op v) : ∀ (l : List Ex) (acc s : List Val) (i : Nat), (∀ a ∈ l, FR cols row code a) → AtC code i (compAll cols l) →
    (∃ vs, vs.length = acc.length + l.length ∧ RunTo code row i (s ++ acc) (i + (compAll cols l).length) (s ++ vs) ∧ evLoop cols row op l acc = ⟨applyErr op vs, applyVal op vs⟩) ∨ (∃ k, k ≠ 0 ∧ RunErr code row i (s ++ acc) k ∧ evLoop cols row op l acc = ⟨k, noVal⟩)
  | [], acc, s, i, _, _ => Or.inl ⟨acc, rfl, by rw [compAll]; exact RunTo.refl _ _ _ _, by rw [evLoop]⟩
  | a :: l, acc, s, i, h, hat => by
    rw [compAll] at hat
    rw [compAll, evLoop]
    obtain ⟨h1, h2⟩ := h a (by simp) i (s ++ acc) hat.left
    by_cases hk : (evE cols row a).k = 0
    · rw [if_neg (by simpa using hk), if_neg (hs _)]
      have hr := h1 hk
      rcases frs hs l (acc ++ [(evE cols row a).v]) s (i + (compE cols a).length) (fun b hb => h b (List.mem_cons_of_mem _ hb)) hat.right with ⟨vs, q1, q2, q3⟩ | ⟨q, q1, q2, q3⟩
      · refine Or.inl ⟨vs, by rw [q1]; simp; omega, ?_, q3⟩
        rw [List.length_append, ← Nat.add_assoc]
        rw [List.append_assoc] at hr
        exact hr.trans q2
      · rw [List.append_assoc] at hr
        exact Or.inr ⟨q, q1, hr.err q2, q3⟩
    · rw [if_pos hk]
      exact Or.inr ⟨_, hk, h2 hk, rfl⟩
theorem fr_any {cols : List Col} {row : List Val} {code : List Ins} (hr : RowOk cols row) : ∀ (m : Nat) (e : Ex), SizeOf.sizeOf e ≤ m → ∀ w : World, SeesEx w e → nodesErr e = 0 → (ofE cols e).h = 0 → FR cols row code e
  | 0, e, hm, _, _, _, _ => by cases e; simp at hm
  | m + 1, .mk op name v A c args pos, hm, w, he, hn, hh => by
    intro i s hat
    obtain ⟨p1, p2, p3⟩ := ofE_parts hh
    obtain ⟨n1, n2⟩ := nodesErr_parts hn
    have ih : ∀ a ∈ args, FR cols row code a := fun a ha =>
      fr_any hr m a (by have := ex_lt (e := .mk op name v A c args pos) ha; omega) w (he.parts.2.2.2.2.2 a ha) (nodesErrs_all n2 a ha) (p1 a ha)
    have hok : ∀ a ∈ args, EvOk (evE cols row a) (ofE cols a).t := fun a ha => ev_sound hr _ a (Nat.le_refl _) w (he.parts.2.2.2.2.2 a ha) (nodesErrs_all n2 a ha) (p1 a ha)
    rw [compE_mk] at hat ⊢
    rw [evE_mk]
    by_cases hv : isVal op
    · rw [if_pos hv] at hat ⊢
      rw [if_pos hv]
      exact ⟨fun _ => RunTo.step (q := 0) hat.head rfl, fun h => absurd rfl h⟩
    rw [if_neg hv] at hat ⊢
    rw [if_neg hv]
    by_cases hc : isCol op
    · rw [if_pos hc] at hat ⊢
      rw [if_pos hc]
      unfold ofNode at p3
      rw [if_neg hv, if_pos hc] at p3
      have hf : ¬ findCol cols name < 0 := fun hf => by rw [if_pos hf] at p3; exact absurd (show (5 : Int) = 0 from p3) (by omega)
      rw [if_neg hf]
      exact ⟨fun _ => RunTo.step (q := 0) hat.head rfl, fun h => absurd rfl h⟩
    rw [if_neg hc] at hat ⊢
    rw [if_neg hc]
    obtain ⟨q1, q2⟩ := ofNode_op hv hc p3
    obtain ⟨r1, r2, r3⟩ := ruleErr_parts q1
    rw [ofTypes_length] at r2
    by_cases ha : isAnd op
    · have hi : ¬ isIf op := fun h => by have := (show op.data.toList = _ from ha).symm.trans h; exact absurd this (by decide)
      rw [if_pos ha] at hat ⊢
      rw [if_neg hi]
      have hg : grp op = 0 := stops_grp (v := noVal) (Or.inl ⟨ha, rfl⟩)
      have har : arityOf op = 2 := by rw [bytes_of (show op.data.toList = _ from ha)]; decide
      rw [har] at r2
      rw [hg] at r3
      match args, r2, ih, hok, r3, hat with
      | [a, b], _, ih, hok, r3, hat =>
        have e : ofTypes cols [a, b] = [(ofE cols a).t, (ofE cols b).t] := by rw [ofTypes_map]; rfl
        rw [e] at r3
        have oa := hok a (by simp)
        have ob := hok b (by simp)
        rw [allThe_at (ts := [(ofE cols a).t, (ofE cols b).t]) (x := (ofE cols a).t) r3 (by simp)] at oa
        rw [allThe_at (ts := [(ofE cols a).t, (ofE cols b).t]) (x := (ofE cols b).t) r3 (by simp)] at ob
        rw [ev_and ha oa ob]
        rw [show compAt cols [a, b] 0 = compE cols a from compAt_get rfl, show compAt cols [a, b] 1 = compE cols b from compAt_get rfl] at hat ⊢
        obtain ⟨a1, a2⟩ := ih a (by simp) i s hat.f_
        by_cases hk : (evE cols row a).k ≠ 0
        · rw [if_pos hk]
          exact ⟨fun h => absurd h hk, fun _ => a2 hk⟩
        · rw [if_neg hk]
          have a1 := a1 (by simpa using hk)
          by_cases h0 : (evE cols row a).v.n = 0
          · rw [if_pos h0]
            refine ⟨fun _ => ?_, fun h => absurd rfl h⟩
            have h1 := eith_no hat a1 h0
            exact eith_end (n := [pushI (truthV false)]) (h1.trans (RunTo.step (q := 0) hat.n_.head rfl))
          · rw [if_neg h0]
            have h1 := eith_yes hat a1 h0
            obtain ⟨b1, b2⟩ := ih b (by simp) _ s hat.y_
            exact ⟨fun h => eith_over hat (h1.trans (b1 h)), fun h => h1.err (b2 h)⟩
    rw [if_neg ha] at hat ⊢
    by_cases hor : isOr op
    · have hi : ¬ isIf op := fun h => by have := (show op.data.toList = _ from hor).symm.trans h; exact absurd this (by decide)
      rw [if_pos hor] at hat ⊢
      rw [if_neg hi]
      have hg : grp op = 0 := stops_grp (v := truthV true) (Or.inr ⟨hor, rfl⟩)
      have har : arityOf op = 2 := by rw [bytes_of (show op.data.toList = _ from hor)]; decide
      rw [har] at r2
      rw [hg] at r3
      match args, r2, ih, hok, r3, hat with
      | [a, b], _, ih, hok, r3, hat =>
        have e : ofTypes cols [a, b] = [(ofE cols a).t, (ofE cols b).t] := by rw [ofTypes_map]; rfl
        rw [e] at r3
        have oa := hok a (by simp)
        have ob := hok b (by simp)
        rw [allThe_at (ts := [(ofE cols a).t, (ofE cols b).t]) (x := (ofE cols a).t) r3 (by simp)] at oa
        rw [allThe_at (ts := [(ofE cols a).t, (ofE cols b).t]) (x := (ofE cols b).t) r3 (by simp)] at ob
        rw [ev_or hor oa ob]
        rw [show compAt cols [a, b] 0 = compE cols a from compAt_get rfl, show compAt cols [a, b] 1 = compE cols b from compAt_get rfl] at hat ⊢
        obtain ⟨a1, a2⟩ := ih a (by simp) i s hat.f_
        by_cases hk : (evE cols row a).k ≠ 0
        · rw [if_pos hk]
          exact ⟨fun h => absurd h hk, fun _ => a2 hk⟩
        · rw [if_neg hk]
          have a1 := a1 (by simpa using hk)
          by_cases h0 : (evE cols row a).v.n = 0
          · rw [if_pos h0]
            have h1 := eith_no hat a1 h0
            obtain ⟨b1, b2⟩ := ih b (by simp) _ s hat.n_
            exact ⟨fun h => eith_end (h1.trans (b1 h)), fun h => h1.err (b2 h)⟩
          · rw [if_neg h0]
            refine ⟨fun _ => ?_, fun h => absurd rfl h⟩
            have h1 := eith_yes hat a1 h0
            exact eith_over hat (h1.trans (RunTo.step (q := 0) hat.y_.head rfl))
    rw [if_neg hor] at hat ⊢
    by_cases hi : isIf op
    · rw [if_pos hi] at hat ⊢
      rw [if_pos hi]
      obtain ⟨i1, i2⟩ := if_grp hi
      rw [i1] at r3
      rw [i2] at r2
      match args, r2, ih, hok, r3, hat with
      | [a, b, d], _, ih, hok, r3, hat =>
        have e0 : evAt cols row [a, b, d] 0 = evE cols row a := evAt_get rfl
        have e1 : evAt cols row [a, b, d] 1 = evE cols row b := evAt_get rfl
        have e2 : evAt cols row [a, b, d] 2 = evE cols row d := evAt_get rfl
        have ht : ofTypes cols [a, b, d] = [(ofE cols a).t, (ofE cols b).t, (ofE cols d).t] := by rw [ofTypes_map]; rfl
        rw [ht] at r3
        have r3' : (((ofE cols a).t == 2) && ((ofE cols b).t == (ofE cols d).t)) = true := r3
        simp at r3'
        have oa := hok a (by simp)
        rw [e0]
        rw [show compAt cols [a, b, d] 0 = compE cols a from compAt_get rfl, show compAt cols [a, b, d] 1 = compE cols b from compAt_get rfl, show compAt cols [a, b, d] 2 = compE cols d from compAt_get rfl] at hat ⊢
        obtain ⟨a1, a2⟩ := ih a (by simp) i s hat.f_
        by_cases hk : (evE cols row a).k ≠ 0
        · rw [if_pos hk]
          exact ⟨fun h => absurd h hk, fun _ => a2 hk⟩
        · rw [if_neg hk]
          have a1 := a1 (by simpa using hk)
          have oa' := oa.resolve_right (fun h => hk (by rw [h.1]; decide))
          rcases bool_of oa'.2.1.2 (by rw [oa'.2.2, r3'.1]) with h0 | h0
          · rw [h0, show ((2 : Int) - 0).toNat = 2 from rfl, e2]
            have h1 := eith_no hat a1 h0
            obtain ⟨b1, b2⟩ := ih d (by simp) _ s hat.n_
            exact ⟨fun h => eith_end (h1.trans (b1 h)), fun h => h1.err (b2 h)⟩
          · rw [h0, show ((2 : Int) - 1).toNat = 1 from rfl, e1]
            have h1 := eith_yes hat a1 (by rw [h0]; decide)
            obtain ⟨b1, b2⟩ := ih b (by simp) _ s hat.y_
            exact ⟨fun h => eith_over hat (h1.trans (b1 h)), fun h => h1.err (b2 h)⟩
    rw [if_neg hi] at hat ⊢
    rw [if_neg hi]
    obtain ⟨o1, o2⟩ := op_ix r1 ha hor hi
    have hst : ∀ v, ¬ stops op v := fun v h => h.elim (fun h => ha h.1) (fun h => hor h.1)
    rcases frs hst args [] s i ih hat.left with ⟨vs, z1, z2, z3⟩ | ⟨k, z1, z2, z3⟩
    · rw [List.append_nil] at z2
      have hx : code[i + (compAll cols args).length]? = some (opI (opIx op)) := hat.right.head
      have hd := do_op (row := row) (s := s) (vs := vs) o2 (by rw [z1, ← r2]; simp)
      rw [z3]
      by_cases hk : applyErr op vs ≠ 0
      · rw [if_pos hk] at hd
        refine ⟨fun h => absurd h hk, fun _ => ?_⟩
        have := RunErr.step (row := row) (s := s ++ vs) hx (by rw [hd]; exact hk)
        rw [hd] at this
        exact z2.err this
      · rw [if_neg hk] at hd
        refine ⟨fun _ => ?_, fun h => absurd h hk⟩
        rw [List.length_append]
        exact z2.trans (RunTo.step (q := 0) hx hd)
    · rw [List.append_nil] at z2
      rw [z3]
      exact ⟨fun h => absurd h z1, fun _ => z2⟩

/-- A stretch of code, as verify goes through it: with l ahead of it, l' behind it. -/
def VSeg (cols : List Col) (L : Nat) (xs : List Ins) (i : Nat) (l l' : List Int) : Prop :=
  ∀ (st : Sts) (most : Nat) (ys : List Ins), st.length = L + 1 → st.getD i none = some l → (∀ k, i < k → k < i + xs.length → st.getD k none = none) → (st.getD (i + xs.length) none = none ∨ st.getD (i + xs.length) none = some l') →
    ∃ st' most', runP cols L i (xs ++ ys) st most = runP cols L (i + xs.length) ys st' most' ∧ st'.length = L + 1 ∧ st'.getD (i + xs.length) none = some l' ∧ ∀ k, i + xs.length < k → st'.getD k none = st.getD k none
section
variable {cols : List Col} {L i j : Nat} {xs ys f y n : List Ins} {x : Ins} {l l1 l' : List Int} {st : Sts}
theorem VSeg.app (hx : 0 < xs.length) (hy : 0 < ys.length) (h : VSeg cols L xs i l l1) (g : VSeg cols L ys (i + xs.length) l1 l') : VSeg cols L (xs ++ ys) i l l' := by
  intro st most zs hl h0 hno hend
  rw [List.length_append] at hno hend ⊢
  obtain ⟨st1, m1, e1, e2, e3, e4⟩ := h st most (ys ++ zs) hl h0 (fun k a b => hno k a (by omega)) (Or.inl (hno _ (by omega) (by omega)))
  obtain ⟨st2, m2, f1, f2, f3, f4⟩ := g st1 m1 zs e2 e3 (fun k a b => by rw [e4 k a]; exact hno k (by omega) (by omega)) (by rw [e4 _ (by omega), Nat.add_assoc]; exact hend)
  refine ⟨st2, m2, by rw [List.append_assoc, e1, f1, Nat.add_assoc], f2, by rw [← Nat.add_assoc]; exact f3, fun k hk => ?_⟩
  rw [f4 k (by omega), e4 k (by omega)]
theorem getD_set_ne {v : Option (List Int)} {k : Nat} (h : j ≠ k) : (st.set j v).getD k none = st.getD k none := by
  rw [List.getD_eq_getElem?_getD, List.getElem?_set_ne h, ← List.getD_eq_getElem?_getD]
theorem reach_to (h : st.getD j none = none ∨ st.getD j none = some l') (hj : j < st.length) : (reachP st j l').1 = 0 ∧ (reachP st j l').2.getD j none = some l' ∧ ∀ k, j ≠ k → (reachP st j l').2.getD k none = st.getD k none := by
  unfold reachP
  rcases h with h | h
  · rw [h]; exact ⟨rfl, getD_set hj, fun k hk => getD_set_ne hk⟩
  · rw [h]; exact ⟨if_pos rfl, h, fun _ _ => rfl⟩
theorem runP_one {most : Nat} (h : (stepP cols L i x st most).1 = 0) : runP cols L i (x :: ys) st most = runP cols L (i + 1) ys (stepP cols L i x st most).2.1 (stepP cols L i x st most).2.2 := by
  rw [runP, if_neg (by simpa using h)]
theorem vseg_one (hi : i < L) (ha : argErr L i cols.length x = 0) (hc : actP cols x l = (0, l')) (h4 : x.what ≠ 4) (h5 : x.what ≠ 5) : VSeg cols L [x] i l l' := by
  intro st most ys hl h0 _ hend
  obtain ⟨r1, r2, r3⟩ := reach_to (st := st) (j := i + 1) (l' := l') hend (by omega)
  have hs := stepP_next (most := most) h0 ha (by rw [hc]) h4 h5
  rw [hc] at hs
  refine ⟨(reachP st (i + 1) l').2, max most l'.length, ?_, by rw [reachP_len]; exact hl, r2, fun k hk => r3 k (by have : [x].length = 1 := rfl; omega)⟩
  show runP cols L i (x :: ys) st most = _
  rw [runP_one (by rw [hs]; exact r1), hs]
  rfl
theorem act_gen {off put : List Int} (hn : need x = off.length) (hp : putTy cols x off = (0, put)) (hl : l.length + put.length ≤ 64) : actP cols x (l ++ off) = (0, l ++ put) := by
  have e1 : (l ++ off).length - need x = l.length := by rw [hn, List.length_append]; omega
  unfold actP
  rw [if_neg (by rw [hn, List.length_append]; omega), e1, List.drop_left, List.take_left, hp, if_neg (show ¬ ((0 : Int), put).1 ≠ 0 by simp), if_neg (show ¬ 64 < (l ++ put).length by rw [List.length_append]; omega)]
theorem act_push {v : Val} (hl : l.length + 1 ≤ 64) : actP cols (pushI v) l = (0, l ++ [v.type]) := by
  have := act_gen (cols := cols) (x := pushI v) (l := l) (off := []) (put := [v.type]) rfl rfl hl
  rwa [List.append_nil] at this
theorem act_ld {k : Int} (hl : l.length + 1 ≤ 64) : actP cols (ldI k) l = (0, l ++ [(cols.getD k.toNat ⟨⟨#[]⟩, 0⟩).type]) := by
  have := act_gen (cols := cols) (x := ldI k) (l := l) (off := []) (put := [(cols.getD k.toNat ⟨⟨#[]⟩, 0⟩).type]) rfl rfl hl
  rwa [List.append_nil] at this
theorem act_jump {k : Int} (hl : l.length ≤ 64) : actP cols (jumpI k) l = (0, l) := by
  have := act_gen (cols := cols) (x := jumpI k) (l := l) (off := []) (put := []) rfl rfl hl
  rwa [List.append_nil] at this
theorem act_else {k : Int} (hl : l.length ≤ 64) : actP cols (elseI k) (l ++ [2]) = (0, l) := by
  have := act_gen (cols := cols) (x := elseI k) (l := l) (off := [2]) (put := []) rfl rfl hl
  rwa [List.append_nil] at this
theorem act_drop {t : Int} (hl : l.length ≤ 64) : actP cols dropI (l ++ [t]) = (0, l) := by
  have := act_gen (cols := cols) (x := dropI) (l := l) (off := [t]) (put := []) rfl rfl hl
  rwa [List.append_nil] at this
theorem act_op {op : ByteArray} {ts : List Int} (h2 : opNm (opIx op) = op) (hl : l.length + 1 ≤ 64) (hn : (ts.length : Int) = arityOf op) (hr : ruleErr op ts = 0) : actP cols (opI (opIx op)) (l ++ ts) = (0, l ++ [ruleTy op ts]) := by
  refine act_gen ?_ ?_ hl
  · show (if (3 : Int) = 3 then (arityOf (opNm (opIx op))).toNat else _) = _
    rw [if_pos rfl, h2, ← hn, Int.toNat_natCast]
  · unfold putTy
    rw [if_neg (show ¬ (opI (opIx op)).what = 1 by show ¬ (3 : Int) = 1; decide), if_neg (show ¬ (opI (opIx op)).what = 2 by show ¬ (3 : Int) = 2; decide), if_pos (show (opI (opIx op)).what = 3 from rfl), show (opI (opIx op)).arg = opIx op from rfl, h2, if_neg (by rw [hr]; decide)]
theorem vseg_eith (hf0 : 0 < f.length) (hy0 : 0 < y.length) (hn0 : 0 < n.length) (hL : i + (eithP f y n).length ≤ L) (hl : l.length ≤ 64) (hl' : l'.length ≤ 64) (Hf : VSeg cols L f i l (l ++ [2])) (Hy : VSeg cols L y (i + f.length + 1) l l')
    (Hn : VSeg cols L n (i + f.length + 1 + y.length + 1) l l') : VSeg cols L (eithP f y n) i l l' := by
  intro st most zs hlen h0 hno hend
  rw [eithP_len] at hL hno hend ⊢
  have e : eithP f y n ++ zs = f ++ (elseI ((y.length : Int) + 1) :: (y ++ (jumpI n.length :: (n ++ zs)))) := by unfold eithP; simp
  obtain ⟨st1, m1, a1, a2, a3, a4⟩ := Hf st most (elseI ((y.length : Int) + 1) :: (y ++ (jumpI n.length :: (n ++ zs)))) hlen h0 (fun k a b => hno k a (by omega)) (Or.inl (hno _ (by omega) (by omega)))
  -- Else
  obtain ⟨b1, b2, b3⟩ := reach_to (st := st1) (j := i + f.length + 1 + (y.length + 1)) (l' := l) (Or.inl (by rw [a4 _ (by omega)]; exact hno _ (by omega) (by omega))) (by omega)
  obtain ⟨c1, c2, c3⟩ := reach_to (st := (reachP st1 (i + f.length + 1 + (y.length + 1)) l).2) (j := i + f.length + 1) (l' := l) (Or.inl (by rw [b3 _ (by omega), a4 _ (by omega)]; exact hno _ (by omega) (by omega))) (by rw [reachP_len]; omega)
  have hs := stepP_else2 (cols := cols) (len := L) (most := m1) (x := elseI ((y.length : Int) + 1)) (a := y.length + 1) a3 (by
    show (if 0 ≤ (y.length : Int) + 1 ∧ (y.length : Int) + 1 < (L : Int) - ((i + f.length : Nat) : Int) then (0 : Int) else 1) = 0
    rw [if_pos (by omega)]) (by rw [act_else hl]) rfl (by show (y.length : Int) + 1 = ((y.length + 1 : Nat) : Int); omega) (by rw [act_else hl]; exact b1)
  rw [act_else hl] at hs
  dsimp only at hs
  obtain ⟨st2, hst2⟩ : ∃ st2, (reachP (reachP st1 (i + f.length + 1 + (y.length + 1)) l).2 (i + f.length + 1) l).2 = st2 := ⟨_, rfl⟩
  have d1 : st2.length = L + 1 := by rw [← hst2, reachP_len, reachP_len]; exact a2
  have d2 : st2.getD (i + f.length + 1) none = some l := by rw [← hst2]; exact c2
  have d3 : st2.getD (i + f.length + 1 + y.length + 1) none = some l := by rw [← hst2, c3 _ (by omega)]; exact b2
  have d4 : ∀ k, i + f.length + 1 < k → k ≠ i + f.length + 1 + y.length + 1 → st2.getD k none = st.getD k none := fun k h1 h2 => by rw [← hst2, c3 _ (by omega), b3 _ (by omega), a4 _ (by omega)]
  rw [hst2] at hs
  have r1 := runP_one (ys := y ++ (jumpI n.length :: (n ++ zs))) (show (stepP cols L (i + f.length) (elseI ((y.length : Int) + 1)) st1 m1).1 = 0 by rw [hs]; exact c1)
  rw [hs] at r1
  dsimp only at r1
  -- yes
  obtain ⟨st3, m3, p1, p2, p3, p4⟩ := Hy st2 (max m1 l.length) (jumpI n.length :: (n ++ zs)) d1 d2 (fun k a b => by rw [d4 k a (by omega)]; exact hno k (by omega) (by omega)) (Or.inl (by rw [d4 _ (by omega) (by omega)]; exact hno _ (by omega) (by omega)))
  -- Jump
  obtain ⟨q1, q2, q3⟩ := reach_to (st := st3) (j := i + f.length + 1 + y.length + 1 + n.length) (l' := l') (by
    rw [p4 _ (by omega), d4 _ (by omega) (by omega), show i + f.length + 1 + y.length + 1 + n.length = i + (f.length + 1 + y.length + 1 + n.length) by omega]; exact hend) (by omega)
  have ht := stepP_jump (cols := cols) (len := L) (most := m3) (x := jumpI n.length) (a := n.length) p3 (by
    show (if 0 ≤ (n.length : Int) ∧ (n.length : Int) < (L : Int) - ((i + f.length + 1 + y.length : Nat) : Int) then (0 : Int) else 1) = 0
    rw [if_pos (by omega)]) (by rw [act_jump hl']) rfl rfl
  rw [act_jump hl'] at ht
  dsimp only at ht
  obtain ⟨st4, hst4⟩ : ∃ st4, (reachP st3 (i + f.length + 1 + y.length + 1 + n.length) l').2 = st4 := ⟨_, rfl⟩
  have g1 : st4.length = L + 1 := by rw [← hst4, reachP_len]; exact p2
  have g2 : st4.getD (i + f.length + 1 + y.length + 1 + n.length) none = some l' := by rw [← hst4]; exact q2
  have g3 : ∀ k, i + f.length + 1 + y.length < k → k ≠ i + f.length + 1 + y.length + 1 + n.length → st4.getD k none = st2.getD k none := fun k h1 h2 => by rw [← hst4, q3 _ (by omega), p4 _ (by omega)]
  rw [hst4] at ht
  have r2 := runP_one (ys := n ++ zs) (show (stepP cols L (i + f.length + 1 + y.length) (jumpI n.length) st3 m3).1 = 0 by rw [ht]; exact q1)
  rw [ht] at r2
  dsimp only at r2
  -- no
  obtain ⟨st5, m5, u1, u2, u3, u4⟩ := Hn st4 (max m3 l'.length) zs g1 (by rw [g3 _ (by omega) (by omega)]; exact d3) (fun k a b => by rw [g3 k (by omega) (by omega), d4 k (by omega) (by omega)]; exact hno k (by omega) (by omega)) (Or.inr g2)
  refine ⟨st5, m5, ?_, u2, ?_, fun k hk => ?_⟩
  · rw [e, a1, r1, p1, r2, u1]
    congr 1; omega
  · rw [show i + (f.length + 1 + y.length + 1 + n.length) = i + f.length + 1 + y.length + 1 + n.length by omega]; exact u3
  · rw [u4 k (by omega), g3 k (by omega) (by omega), d4 k (by omega) (by omega)]
end
theorem eithP_pos (f y n : List Ins) : 0 < (eithP f y n).length := by rw [eithP_len]; omega
theorem comp_pos (cols : List Col) (e : Ex) : 0 < (compE cols e).length := by
  obtain ⟨op, name, v, A, c, args, pos⟩ := e
  rw [compE_mk]
  split
  · exact Nat.one_pos
  split
  · exact Nat.one_pos
  split
  · exact eithP_pos _ _ _
  split
  · exact eithP_pos _ _ _
  split
  · exact eithP_pos _ _ _
  · rw [List.length_append]; show 0 < _ + 1; omega
theorem compAt_three {cols : List Col} : ∀ {l : List Ex}, (∀ a ∈ l, (compE cols a).length ≤ 6 * exN a) → (compAt cols l 0).length + (compAt cols l 1).length + (compAt cols l 2).length ≤ 6 * exNs l
  | [], _ => by simp [compAt]
  | [a], h => by have := h a (by simp); simp only [compAt, exNs, List.length_nil]; omega
  | [a, b], h => by have h1 := h a (by simp); have h2 := h b (by simp); simp only [compAt, exNs, List.length_nil]; omega
  | a :: b :: d :: r, h => by have h1 := h a (by simp); have h2 := h b (by simp); have h3 := h d (by simp); simp only [compAt, exNs]; omega
theorem compAll_len {cols : List Col} : ∀ {l : List Ex}, (∀ a ∈ l, (compE cols a).length ≤ 6 * exN a) → (compAll cols l).length ≤ 6 * exNs l
  | [], _ => by simp [compAll]
  | a :: l, h => by
    have h1 := h a (by simp)
    have h2 := compAll_len (l := l) (fun b hb => h b (List.mem_cons_of_mem _ hb))
    rw [compAll, exNs, List.length_append]; omega
theorem comp_len {cols : List Col} : ∀ (m : Nat) (e : Ex), SizeOf.sizeOf e ≤ m → (compE cols e).length ≤ 6 * exN e
  | 0, e, hm => by cases e; simp at hm
  | m + 1, .mk op name v A c args pos, hm => by
    have ih : ∀ a ∈ args, (compE cols a).length ≤ 6 * exN a := fun a ha => comp_len m a (by have := ex_lt (e := .mk op name v A c args pos) ha; omega)
    have h3 := compAt_three ih
    have h4 := compAll_len ih
    rw [compE_mk, exN]
    have hp : ∀ u : Val, [pushI u].length = 1 := fun _ => rfl
    split
    · show 1 ≤ _; omega
    split
    · show 1 ≤ _; omega
    split
    · rw [eithP_len, hp]; omega
    split
    · rw [eithP_len, hp]; omega
    split
    · rw [eithP_len]; omega
    · rw [List.length_append]; show _ + 1 ≤ _; omega
theorem fvs {cols : List Col} {L m : Nat} : ∀ (l : List Ex) (i : Nat) (lt : List Int), l ≠ [] → (∀ a ∈ l, ∀ (i : Nat) (lt : List Int), i + (compE cols a).length ≤ L → lt.length + m ≤ 64 → VSeg cols L (compE cols a) i lt (lt ++ [(ofE cols a).t])) → i + (compAll cols l).length ≤ L → lt.length + (l.length - 1) + m ≤ 64 →
    0 < (compAll cols l).length ∧ VSeg cols L (compAll cols l) i lt (lt ++ ofTypes cols l)
  | [], _, _, h, _, _, _ => absurd rfl h
  | [a], i, lt, _, h, hL, hm => by
    have e : compAll cols [a] = compE cols a := by rw [compAll, compAll, List.append_nil]
    rw [e] at hL ⊢
    rw [show ofTypes cols [a] = [(ofE cols a).t] by rw [ofTypes_map]; rfl]
    exact ⟨comp_pos cols a, h a (by simp) i lt hL (by simpa using hm)⟩
  | a :: b :: l, i, lt, _, h, hL, hm => by
    have hl1 : (a :: b :: l).length - 1 = l.length + 1 := by simp
    rw [hl1] at hm
    rw [compAll, List.length_append] at hL
    obtain ⟨q1, q2⟩ := fvs (L := L) (m := m) (b :: l) (i + (compE cols a).length) (lt ++ [(ofE cols a).t]) (by simp) (fun x hx => h x (List.mem_cons_of_mem _ hx)) (by omega) (by simp; omega)
    have h1 := h a (by simp) i lt (by omega) (by omega)
    rw [compAll]
    refine ⟨by rw [List.length_append]; omega, ?_⟩
    have := VSeg.app (comp_pos cols a) q1 h1 q2
    rw [List.append_assoc] at this
    rw [show ofTypes cols (a :: b :: l) = [(ofE cols a).t] ++ ofTypes cols (b :: l) by rw [ofTypes_map, ofTypes_map]; rfl]
    exact this
theorem fv_any {cols : List Col} {L : Nat} : ∀ (m : Nat) (e : Ex), exBelow m e = true → nodesErr e = 0 → (ofE cols e).h = 0 → ∀ (i : Nat) (l : List Int), i + (compE cols e).length ≤ L → l.length + m ≤ 64 → VSeg cols L (compE cols e) i l (l ++ [(ofE cols e).t])
  | 0, e, hb, _, _ => by rw [exBelow] at hb; cases hb
  | m + 1, .mk op name v A c args pos, hb, hn, hh => by
    intro i l hL hm
    obtain ⟨p1, p2, p3⟩ := ofE_parts hh
    obtain ⟨n1, n2⟩ := nodesErr_parts hn
    rw [exBelow_all] at hb
    have ih : ∀ a ∈ args, ∀ (i : Nat) (lt : List Int), i + (compE cols a).length ≤ L → lt.length + m ≤ 64 → VSeg cols L (compE cols a) i lt (lt ++ [(ofE cols a).t]) := fun a ha =>
      fv_any m a (List.all_eq_true.1 hb a ha) (nodesErrs_all n2 a ha) (p1 a ha)
    rw [p2]
    rw [compE_mk] at hL ⊢
    by_cases hv : isVal op
    · rw [if_pos hv] at hL ⊢
      unfold ofNode
      rw [if_pos hv]
      exact vseg_one (by have : [pushI v].length = 1 := rfl; omega) (show vcheck v = 0 from nodeErr_val n1 hv) (act_push (by omega)) (show ¬ (1 : Int) = 4 by decide) (show ¬ (1 : Int) = 5 by decide)
    rw [if_neg hv] at hL ⊢
    by_cases hc : isCol op
    · rw [if_pos hc] at hL ⊢
      unfold ofNode at p3 ⊢
      rw [if_neg hv, if_pos hc] at p3 ⊢
      have hf : ¬ findCol cols name < 0 := fun hf => by rw [if_pos hf] at p3; exact absurd (show (5 : Int) = 0 from p3) (by omega)
      rw [if_neg hf]
      obtain ⟨k, x, hk, hx, _⟩ := findCol_get (Int.not_lt.1 hf)
      have hkl := (List.getElem?_eq_some_iff.1 hx).1
      have hact := act_ld (cols := cols) (l := l) (k := findCol cols name) (by omega)
      have e : (cols.getD (findCol cols name).toNat ⟨⟨#[]⟩, 0⟩).type = colType cols (findCol cols name) := by
        unfold colType
        rw [hk, Int.toNat_natCast, List.getD_eq_getElem?_getD, hx]; rfl
      rw [e] at hact
      exact vseg_one (by have : [ldI (findCol cols name)].length = 1 := rfl; omega) (show (if 0 ≤ findCol cols name ∧ findCol cols name < cols.length then (0 : Int) else 1) = 0 by rw [if_pos (by omega)]) hact (show ¬ (2 : Int) = 4 by decide) (show ¬ (2 : Int) = 5 by decide)
    rw [if_neg hc] at hL ⊢
    obtain ⟨q1, q2⟩ := ofNode_op hv hc p3
    obtain ⟨r1, r2, r3⟩ := ruleErr_parts q1
    rw [ofTypes_length] at r2
    rw [q2]
    have hl1 : (l ++ [(2 : Int)]).length ≤ 64 := by simp; omega
    by_cases ha : isAnd op
    · rw [if_pos ha] at hL ⊢
      have hg : grp op = 0 := stops_grp (v := noVal) (Or.inl ⟨ha, rfl⟩)
      have har : arityOf op = 2 := by rw [bytes_of (show op.data.toList = _ from ha)]; decide
      rw [har] at r2
      rw [hg] at r3 ⊢
      match args, r2, ih, r3, hL with
      | [a, b], _, ih, r3, hL =>
        have e : ofTypes cols [a, b] = [(ofE cols a).t, (ofE cols b).t] := by rw [ofTypes_map]; rfl
        rw [e] at r3 ⊢
        have ta := allThe_at (ts := [(ofE cols a).t, (ofE cols b).t]) (x := (ofE cols a).t) r3 (by simp)
        have tb := allThe_at (ts := [(ofE cols a).t, (ofE cols b).t]) (x := (ofE cols b).t) r3 (by simp)
        rw [show compAt cols [a, b] 0 = compE cols a from compAt_get rfl, show compAt cols [a, b] 1 = compE cols b from compAt_get rfl] at hL ⊢
        have hL' := hL
        rw [eithP_len, show [pushI (truthV false)].length = 1 from rfl] at hL'
        have h1 := ih a (by simp) i l (by omega) (by omega)
        have h2 := ih b (by simp) (i + (compE cols a).length + 1) l (by omega) (by omega)
        rw [ta] at h1
        rw [tb] at h2
        exact vseg_eith (comp_pos cols a) (comp_pos cols b) Nat.one_pos hL (by omega) hl1 h1 h2 (vseg_one (by omega) (show vcheck (truthV false) = 0 by decide) (act_push (by omega)) (show ¬ (1 : Int) = 4 by decide) (show ¬ (1 : Int) = 5 by decide))
    rw [if_neg ha] at hL ⊢
    by_cases hor : isOr op
    · rw [if_pos hor] at hL ⊢
      have hg : grp op = 0 := stops_grp (v := truthV true) (Or.inr ⟨hor, rfl⟩)
      have har : arityOf op = 2 := by rw [bytes_of (show op.data.toList = _ from hor)]; decide
      rw [har] at r2
      rw [hg] at r3 ⊢
      match args, r2, ih, r3, hL with
      | [a, b], _, ih, r3, hL =>
        have e : ofTypes cols [a, b] = [(ofE cols a).t, (ofE cols b).t] := by rw [ofTypes_map]; rfl
        rw [e] at r3 ⊢
        have ta := allThe_at (ts := [(ofE cols a).t, (ofE cols b).t]) (x := (ofE cols a).t) r3 (by simp)
        have tb := allThe_at (ts := [(ofE cols a).t, (ofE cols b).t]) (x := (ofE cols b).t) r3 (by simp)
        rw [show compAt cols [a, b] 0 = compE cols a from compAt_get rfl, show compAt cols [a, b] 1 = compE cols b from compAt_get rfl] at hL ⊢
        have hL' := hL
        rw [eithP_len, show [pushI (truthV true)].length = 1 from rfl] at hL'
        have h1 := ih a (by simp) i l (by omega) (by omega)
        have h2 := ih b (by simp) (i + (compE cols a).length + 1 + [pushI (truthV true)].length + 1) l (by rw [show [pushI (truthV true)].length = 1 from rfl]; omega) (by omega)
        rw [ta] at h1
        rw [tb] at h2
        exact vseg_eith (comp_pos cols a) Nat.one_pos (comp_pos cols b) hL (by omega) hl1 h1 (vseg_one (by omega) (show vcheck (truthV true) = 0 by decide) (act_push (by omega)) (show ¬ (1 : Int) = 4 by decide) (show ¬ (1 : Int) = 5 by decide)) h2
    rw [if_neg hor] at hL ⊢
    by_cases hi : isIf op
    · rw [if_pos hi] at hL ⊢
      obtain ⟨i1, i2⟩ := if_grp hi
      rw [i1] at r3 ⊢
      rw [i2] at r2
      match args, r2, ih, r3, hL with
      | [a, b, d], _, ih, r3, hL =>
        have ht : ofTypes cols [a, b, d] = [(ofE cols a).t, (ofE cols b).t, (ofE cols d).t] := by rw [ofTypes_map]; rfl
        rw [ht] at r3 ⊢
        have r3' : (((ofE cols a).t == 2) && ((ofE cols b).t == (ofE cols d).t)) = true := r3
        simp at r3'
        rw [show compAt cols [a, b, d] 0 = compE cols a from compAt_get rfl, show compAt cols [a, b, d] 1 = compE cols b from compAt_get rfl, show compAt cols [a, b, d] 2 = compE cols d from compAt_get rfl] at hL ⊢
        have hL' := hL
        rw [eithP_len] at hL'
        have h1 := ih a (by simp) i l (by omega) (by omega)
        have h2 := ih b (by simp) (i + (compE cols a).length + 1) l (by omega) (by omega)
        have h3 := ih d (by simp) (i + (compE cols a).length + 1 + (compE cols b).length + 1) l (by omega) (by omega)
        rw [r3'.1] at h1
        rw [← r3'.2] at h3
        exact vseg_eith (comp_pos cols a) (comp_pos cols b) (comp_pos cols d) hL (by omega) (by simp; omega) h1 h2 h3
    rw [if_neg hi] at hL ⊢
    obtain ⟨o1, o2⟩ := op_ix r1 ha hor hi
    have har : arityOf op = 1 ∨ arityOf op = 2 := by rw [← o2]; exact op_arity o1
    rw [List.length_append, show [opI (opIx op)].length = 1 from rfl] at hL
    obtain ⟨z1, z2⟩ := fvs (L := L) (m := m) args i l (by intro h; rw [h] at r2; simp at r2; omega) ih (by omega) (by omega)
    have hact := act_op (cols := cols) (l := l) (ts := ofTypes cols args) o2 (by omega) (by rw [ofTypes_length]; exact r2) q1
    rw [show ruleTy op (ofTypes cols args) = typeGrp (grp op) (ofTypes cols args) by unfold ruleTy; rw [if_pos q1]] at hact
    exact VSeg.app z1 Nat.one_pos z2 (vseg_one (by omega) (show opErr (opIx op) = 0 from o1) hact (show ¬ (3 : Int) = 4 by decide) (show ¬ (3 : Int) = 5 by decide))
theorem ver_of_seg {cols : List Col} {code : List Ins} {t : Int} (hl : code.length ≤ 1200) (hs : schemaErr cols = 0) (h0 : 0 < code.length) (h : VSeg cols code.length code 0 [] [t]) : (verP code cols).err = 0 ∧ (verP code cols).ty = t := by
  have hst : ∀ k, 0 < k → (startP code.length).getD k none = none := by
    intro k hk
    unfold startP
    rw [List.getD_eq_getElem?_getD]
    obtain ⟨j, rfl⟩ : ∃ j, k = j + 1 := ⟨k - 1, by omega⟩
    rw [List.getElem?_cons_succ, List.getElem?_replicate]
    split <;> rfl
  obtain ⟨st', most', e1, _, e3, _⟩ := h (startP code.length) 0 [] (startP_len _) rfl (fun k hk _ => hst k hk) (Or.inl (hst _ (by omega)))
  rw [List.append_nil, Nat.zero_add, runP] at e1
  rw [Nat.zero_add] at e3
  have he : endP code.length st' = [t] := by unfold endP; rw [e3]; rfl
  unfold verP
  rw [if_neg (by omega), if_neg (by simpa using hs), e1, if_neg (by simp), he, if_neg (by simp)]
  exact ⟨rfl, rfl⟩
end Go.Proofs.YthmbafkedgahaaaDoor
