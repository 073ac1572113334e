/- The query of the law: what it is read as and what comes of it. What the words of a text are read as is right, plain: each node of it. -/
import Derived.Test.YtpbbkpfaphjdoabGreatDoorSQryLaw
import Derived.Test.YtpbbkpfaphjdoabGreatDoorSQryCheck
import Derived.Test.YtpbbkpfaphjdoabGreatDoorSRdParse
namespace Go.Proofs.YtpbbkpfaphjdoabGreatDoor
open Go.ChangeShapes Go.WideShapes Go.ChangeAt Go.RowKit
mutual
theorem strip_ofQ (cols : List Col) : ∀ e : Ex, ofE cols (strip e) = ofE cols e
 | .mk op name v A c args pos => by rw [strip, ofE_mk, ofE_mk, strip_faultQ cols args, strip_typesQ cols args]
theorem strip_faultQ (cols : List Col) : ∀ l : List Ex, ofFault cols (strips l) = ofFault cols l
 | [] => by rw [strips]
 | a :: l => by rw [strips, ofFault, ofFault, strip_ofQ cols a, strip_faultQ cols l]
theorem strip_typesQ (cols : List Col) : ∀ l : List Ex, ofTypes cols (strips l) = ofTypes cols l
 | [] => by rw [strips]
 | a :: l => by rw [strips, ofTypes, ofTypes, strip_ofQ cols a, strip_typesQ cols l]
end
theorem strip_typeOf (cols : List Col) (e : Ex) : typeOf cols (strip e) = typeOf cols e := by
 unfold typeOf checkErr
 rw [strip_full, strip_nodes, strip_ofQ]
def oracF (T : List Tok) (E : Nat) (i : Nat) : PR := (rdF T E 100 (.lv 0) i).getD (.error 0)
def parseQF (l : List UInt8) : Option (Except (Int × Int) QP) :=
 match lexF 100 l 0 with
 | none => none
 | some T => if (List.range (T.length + 1)).all (fun i => (rdF T l.length 100 (.lv 0) i).isSome) = true then
   (match readQ' T l.length (oracF T l.length) with
   | .error k => some (.error (2, (k : Int)))
   | .ok (q, j) => if j < T.length then some (.error (2, (atT T l.length j : Int))) else if fullQ q = true then some (.error (4, 0)) else some (.ok q))
  else none
theorem parseQF_sound {l : List UInt8} {R : Except (Int × Int) QP} (hl : l.length ≤ 400) (h : parseQF l = some R) : QryIs l R := by
 unfold parseQF at h
 split at h
 ·cases h
 ·rename_i T hT
  have hlx : lexS l = .ok T := by rw [lexS_len hl]; exact lexF_sound _ _ _ _ hT
  split at h
  ·rename_i hall
   have hX : Oracle T l.length (oracF T l.length) := by
    intro i hi
    have := List.all_eq_true.1 hall i (List.mem_range.2 (by omega))
    obtain ⟨r, hr⟩ := Option.isSome_iff_exists.1 this
    unfold oracF
    rw [hr]
    exact rdF_sound _ _ _ _ _ _ hr
   split at h
   ·rename_i k hk
    cases h
    exact Or.inr ⟨T, _, hlx, hX, Or.inl ⟨k, hk, rfl⟩⟩
   ·rename_i q j hk
    refine Or.inr ⟨T, _, hlx, hX, Or.inr ⟨q, j, hk, ?_⟩⟩
    split at h
    ·rename_i hj; cases h; exact Or.inl ⟨hj, rfl⟩
    ·rename_i hj
     split at h
     ·rename_i hf; cases h; exact Or.inr ⟨by omega, Or.inl ⟨hf, rfl⟩⟩
     ·rename_i hf; cases h; exact Or.inr ⟨by omega, Or.inr ⟨bool_not hf, rfl⟩⟩
  ·cases h
def factB : ByteArray := ⟨#[115, 101, 108, 101, 99, 116, 32, 120, 32, 62, 32, 49, 32, 97, 115, 32, 121, 32, 102, 114, 111, 109, 32, 116]⟩
def factL : List Col := [⟨⟨#[120]⟩, 1⟩]
def factQ (q : QP) : Bool := (match q.cols with | [e] => (typeOf factL e).t == 2 && (typeOf factL e).h == 0 | _ => false) && q.names == [[121]] && q.group.isEmpty && q.aggs.isEmpty && q.size == 0 && q.slide == 0 && exSame q.wher zeroE
def factOk : Bool := match parseQF factB.data.toList with | some (.ok q) => factQ q | _ => false
theorem fact_ok : factOk = true := by kernel_rfl
theorem fact_is : ∃ q, QryIs factB.data.toList (.ok q) ∧ factQ q = true := by
 have h := fact_ok
 unfold factOk at h
 split at h
 ·rename_i q hq
  exact ⟨q, parseQF_sound (by decide) hq, h⟩
 ·cases h
theorem fact_out {y : QX} {q : QP} (hy : qpX y = q) (hq : factQ q = true) : wrongQ y factL = 0 ∧ colsOut y factL = [⟨⟨#[121]⟩, 2⟩] ∧ LensQ y := by
 subst hy
 unfold factQ at hq
 simp only [Bool.and_eq_true] at hq
 obtain ⟨⟨⟨⟨⟨⟨h1, h2⟩, h3⟩, h4⟩, h5⟩, h6⟩, h7⟩ := hq
 have h2 : y.names.map (·.data.toList) = [[121]] := eq_of_beq h2
 have h3 : y.group = [] := by have : (y.group.map (·.data.toList)).isEmpty = true := h3; simpa using this
 have h4 : y.aggs = [] := by have : (y.aggs.map aggP).isEmpty = true := h4; simpa using this
 have h5 : y.size = 0 := eq_of_beq (show (y.size == 0) = true from h5)
 have h6 : y.slide = 0 := eq_of_beq (show (y.slide == 0) = true from h6)
 have h7 : exSame y.wher zeroE = true := by rw [← strip_same]; exact h7
 obtain ⟨n, hn, hnb⟩ : ∃ n, y.names = [n] ∧ n = ⟨#[121]⟩ := by
  cases hnn : y.names with
  | nil => rw [hnn] at h2; cases h2
  | cons a l =>
   rw [hnn] at h2
   cases l with
   | cons b l => simp at h2
   | nil =>
    refine ⟨a, rfl, Go.WideShapes.bytes_inj ?_⟩
    simpa using h2
 obtain ⟨e, he, ht, hh⟩ : ∃ e, y.cols = [e] ∧ (typeOf factL e).t = 2 ∧ (typeOf factL e).h = 0 := by
  have h1 : (match strips y.cols with | [e] => (typeOf factL e).t == 2 && (typeOf factL e).h == 0 | _ => false) = true := h1
  cases hcc : y.cols with
  | nil => rw [hcc] at h1; rw [strips] at h1; cases h1
  | cons a l =>
   rw [hcc] at h1
   cases l with
   | cons b l => rw [strips, strips] at h1; cases h1
   | nil =>
    rw [strips, strips] at h1
    simp only [Bool.and_eq_true, beq_iff_eq, strip_typeOf] at h1
    exact ⟨a, rfl, h1.1, h1.2⟩
 have hty : typedQ factL e 0 = (2, 0) := by
  unfold typedQ
  rw [if_neg (fun h => h hh), if_neg (fun h => h.1 rfl), ht]
 have hf : colsF1 y factL 0 = (⟨⟨#[121]⟩, 2⟩, 0) := by
  unfold colsF1
  rw [he]
  show ((⟨(y.names[0]?).getD ⟨#[]⟩, (typedQ factL e 0).1⟩ : Col), (typedQ factL e 0).2) = _
  rw [hn, hty, hnb]
  rfl
 have ho : colsOut y factL = [⟨⟨#[121]⟩, 2⟩] := by
  unfold colsOut
  rw [he, h3, h4]
  show outs (colsF1 y factL) 1 ++ [] ++ [] = _
  rw [outs, outs, hf]
  rfl
 have hc : colsErr y factL = 0 := by
  refine colsErr_0 ?_ (by rw [h3]; rfl) (by rw [h4]; rfl)
  rw [he]
  exact errs_next (k := 0) rfl (by rw [hf])
 have hs : shapeErr y = 0 := by
  unfold shapeErr
  rw [he, hn, h3, h4, h5, h6]
  rfl
 refine ⟨?_, ho, ⟨by rw [he, List.length_singleton]; omega, by rw [hn, List.length_singleton]; omega, by rw [h3]; decide, by rw [h4]; decide⟩⟩
 unfold wrongQ
 rw [if_neg (fun h => h (by kernel_rfl)), if_neg (fun h => h hs), if_neg (fun h => by rw [h7] at h; cases h.1), if_neg (fun h => h hc), ho]
 kernel_rfl
end Go.Proofs.YtpbbkpfaphjdoabGreatDoor
namespace Go.Proofs.YtpbbkpfaphjdoabGreatDoor
theorem nodesErrs_of : ∀ {l : List Ex}, (∀ a ∈ l, nodesErr a = 0) → nodesErrs l = 0
 | [], _ => by rw [nodesErrs]
 | a :: l, h => by rw [nodesErrs, if_neg (by simp [h a List.mem_cons_self])]; exact nodesErrs_of (fun x hx => h x (List.mem_cons_of_mem _ hx))
theorem nodes_op {op : List UInt8} {l : List Ex} {pos : Nat} (h1 : nodeErrOf (mkB op) ⟨#[]⟩ noVal l.length = 0) (h2 : ∀ a ∈ l, nodesErr a = 0) : nodesErr (opEx op l pos) = 0 := by
 unfold opEx
 rw [nodesErr, if_neg (by simp [h1])]
 exact nodesErrs_of h2
def vOk (l : List UInt8) : Prop := vcheck (readP l).1 = 0 ∧ ¬ ((readP l).1.type = 1 ∧ (readP l).1.n < 0)
theorem vOk_of {l : List UInt8} (h : (readP l).2 = 0) (h45 : l.head? ≠ some 45) : vOk l := by
 obtain ⟨h1, h2, h3, -⟩ := show_read (l := l) (v := (readP l).1) (Prod.ext rfl h)
 refine ⟨h1, fun ⟨ht, hn⟩ => ?_⟩
 unfold valText at h2
 rw [if_pos ht] at h2
 obtain ⟨m, hm⟩ : ∃ m : Nat, (readP l).1.n = -(m : Int) ∧ 1 ≤ m := ⟨(-(readP l).1.n).toNat, by omega, by omega⟩
 rw [hm.1, itoa_minus hm.2] at h2
 rw [← h2] at h45
 exact h45 rfl
def NumOk (T : List Tok) : Prop := ∀ (i : Nat) (v : Val), valT T i = some v → vcheck v = 0 ∧ ¬ (v.type = 1 ∧ v.n < 0)
theorem tokP_head {c : UInt8} {r : List UInt8} {n : Nat} {k : Int} (h : tokP (c :: r) = (n, k, 0)) (hk : k = 2 ∨ k = 3) : c ≠ 45 := by
 intro e
 subst e
 rw [tokP_S r (by decide) (by decide) (by decide)] at h
 split at h
 ·injection h with _ h; injection h with h _; omega
 ·injection h with _ h; injection h with h _; omega
theorem numOk_of {s : List UInt8} {T : List Tok} (h : lexS s = .ok T) : NumOk T := by
 intro i v hv
 have hW := words_of h
 obtain ⟨-, hc⟩ := lexS_ok h
 have hx := val_some hW hv
 rw [hx.2.1]
 refine vOk_of hx.2.2.1 ?_
 unfold valT at hv
 cases ht : T[i]? with
 | none => rw [ht] at hv; cases hv
 | some t =>
  rw [ht] at hv
  have e1 : textT T i = t.text := by unfold textT; rw [ht]
  rw [e1]
  simp only at hv
  split at hv
  ·rename_i hk
   obtain ⟨c, r, n, h1, h2, -, h4, -⟩ := hc.all t (List.mem_of_getElem? ht)
   rcases hk with hk | hk | ⟨-, hk | hk⟩
   ·have := tokP_head h1 (Or.inl hk)
    rw [h2]
    cases n with
    | zero => omega
    | succ n => rw [List.take_succ_cons, List.head?_cons]; exact fun e => this (by injection e)
   ·have := tokP_head h1 (Or.inr hk)
    rw [h2]
    cases n with
    | zero => omega
    | succ n => rw [List.take_succ_cons, List.head?_cons]; exact fun e => this (by injection e)
   ·rw [hk]; decide
   ·rw [hk]; decide
  ·cases hv
theorem lvl_node {n : Nat} {s : List UInt8} (h : s ∈ lvlL n) : nodeErrOf (mkB s) ⟨#[]⟩ noVal 2 = 0 := by
 have key : ∀ n, n < 5 → ∀ s ∈ lvlL n, nodeErrOf (mkB s) ⟨#[]⟩ noVal 2 = 0 := by decide
 by_cases hn : n < 5
 ·exact key n hn s h
 ·match n, h with
  | n + 5, h => cases h
  | 0, _ | 1, _ | 2, _ | 3, _ | 4, _ => omega
def accR : Md → Prop
 | .lp _ e => nodesErr e = 0
 | .ar w _ m acc => ((w = wLen ∧ m = 1) ∨ (w = wIf ∧ m = 3)) ∧ ∀ a ∈ acc, nodesErr a = 0
 | _ => True
theorem rd_right {T : List Tok} {E : Nat} (hT : NumOk T) {m : Md} {i : Nat} {r : PR} (h : Rd T E m i r) : accR m → ∀ x j, r = .ok (x, j) → nodesErr x = 0 := by
 have one : ∀ {x : Ex} {op : List UInt8} {pos : Nat}, nodeErrOf (mkB op) ⟨#[]⟩ noVal 1 = 0 → nodesErr x = 0 → nodesErr (opEx op [x] pos) = 0 := fun h1 h2 => nodes_op h1 (fun a ha => by simp at ha; subst ha; exact h2)
 have two : ∀ {x y : Ex} {n : Nat} {op : List UInt8} {pos : Nat}, op ∈ lvlL n → nodesErr x = 0 → nodesErr y = 0 → nodesErr (opEx op [x, y] pos) = 0 := fun h1 h2 h3 => nodes_op (lvl_node h1) (fun a ha => by simp at ha; rcases ha with rfl | rfl; exact h2; exact h3)
 induction h with
 | lvNot h a ih => intro _ x j e; cases e; exact one (by decide) (ih trivial _ _ rfl)
 | lvNotE => intro _ x j e; cases e
 | lvUn a ih => intro _ x j e; exact ih trivial x j e
 | lvGo hn h a b ih1 ih2 => intro _ x j e; exact ih2 (ih1 trivial _ _ rfl) x j e
 | lvGoE => intro _ x j e; cases e
 | lpEnd h => intro ha x j e; cases e; exact ha
 | lpGo h hn a b ih1 ih2 => intro ha x j e; exact ih2 (two (sgT_some h).1 ha (ih1 trivial _ _ rfl)) x j e
 | lpOne h a ih => intro ha x j e; cases e; exact two (sgT_some h).1 ha (ih trivial _ _ rfl)
 | lpE => intro _ x j e; cases e
 | unNeg h a ih => intro _ x j e; cases e; exact one (by decide) (ih trivial _ _ rfl)
 | unNegE => intro _ x j e; cases e
 | unPr h a ih => intro _ x j e; exact ih trivial x j e
 | prPar h a c ih => intro _ x j e; cases e; exact ih trivial _ _ rfl
 | prParN => intro _ x j e; cases e
 | prParE => intro _ x j e; cases e
 | prLen h o a ih => intro _ x j e; exact ih ⟨Or.inl ⟨rfl, rfl⟩, fun a ha => by cases ha⟩ x j e
 | prIf h o a ih => intro _ x j e; exact ih ⟨Or.inr ⟨rfl, rfl⟩, fun a ha => by cases ha⟩ x j e
 | prLenN => intro _ x j e; cases e
 | prIfN => intro _ x j e; cases e
 | @prVal i v h1 h2 h3 c =>
  intro _ x j e
  cases e
  obtain ⟨k1, k2⟩ := hT _ _ c
  unfold valEx
  rw [nodesErr, nodesErrs]
  have : nodeErrOf (mkB [118, 97, 108]) ⟨#[]⟩ v ([] : List Ex).length = 0 := by
   unfold nodeErrOf
   rw [if_neg (by rintro (h | ⟨h, -⟩); exact absurd h (by decide); exact absurd h (by decide)), if_neg (by rintro (h | ⟨-, h⟩ | ⟨h, -⟩); exact absurd rfl h; exact absurd rfl h; exact absurd (show isVal (mkB [118, 97, 108]) from rfl) h), if_neg (fun h => h (show isVal (mkB [118, 97, 108]) from rfl)), if_neg (fun h => h k1), if_neg k2]
  rw [if_neg (fun h => h this)]
 | @prCol i s h1 h2 h3 c d =>
  intro _ x j e
  cases e
  obtain ⟨t, -, -, -, hn⟩ := nameT_some d
  unfold colEx
  rw [nodesErr, nodesErrs]
  have : nodeErrOf (mkB [99, 111, 108]) (mkB s) noVal ([] : List Ex).length = 0 := by
   unfold nodeErrOf
   rw [if_neg (by rintro (h | ⟨-, h⟩); exact absurd h (by decide); rw [hn] at h; cases h), if_neg (by rintro (h | ⟨h, -⟩ | ⟨-, h⟩); exact absurd rfl h; exact h (show isCol (mkB [99, 111, 108]) from rfl); exact h rfl), if_pos (by decide)]
  rw [if_neg (fun h => h this)]
 | prNo => intro _ x j e; cases e
 | arEnd h c =>
  intro ha x j e
  cases e
  refine nodes_op ?_ ha.2
  rcases ha.1 with ⟨rfl, hm⟩ | ⟨rfl, hm⟩
  ·rw [h, hm]; decide
  ·rw [h, hm]; decide
 | arEndN => intro _ x j e; cases e
 | arFirst h a b ih1 ih2 => intro ha x j e; exact ih2 ⟨ha.1, fun y hy => by simp at hy; subst hy; exact ih1 trivial _ _ rfl⟩ x j e
 | arFirstE => intro _ x j e; cases e
 | arGo h h0 c a b ih1 ih2 =>
  intro ha x j e
  refine ih2 ⟨ha.1, fun y hy => ?_⟩ x j e
  rcases List.mem_append.1 hy with hy | hy
  ·exact ha.2 y hy
  ·simp at hy; subst hy; exact ih1 trivial _ _ rfl
 | arGoE => intro _ x j e; cases e
 | arGoN => intro _ x j e; cases e
end Go.Proofs.YtpbbkpfaphjdoabGreatDoor
