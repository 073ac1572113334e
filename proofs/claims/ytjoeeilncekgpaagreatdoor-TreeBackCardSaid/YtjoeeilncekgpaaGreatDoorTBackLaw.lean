import Derived.Test.YtjoeeilncekgpaaGreatDoorTRdParse
namespace Go.Proofs.YtjoeeilncekgpaaGreatDoor
theorem nodesErrs_of : ∀ {l : List Ex}, (∀ a ∈ l, nodesErr a = 0) → nodesErrs l = 0
 | [], _ => by rw [nodesErrs]
 | a :: l, h => by rw [nodesErrs, if_neg (by simp [h a List.mem_cons_self])]; exact nodesErrs_of (fun x hx => h x (List.mem_cons_of_mem _ hx))
theorem nodes_op {op : List UInt8} {l : List Ex} {pos : Nat} (h1 : nodeErrOf (mkB op) ⟨#[]⟩ noVal l.length = 0) (h2 : ∀ a ∈ l, nodesErr a = 0) : nodesErr (opEx op l pos) = 0 := by
 unfold opEx
 rw [nodesErr, if_neg (by simp [h1])]
 exact nodesErrs_of h2
def vOk (l : List UInt8) : Prop := vcheck (readP l).1 = 0 ∧ ¬ ((readP l).1.type = 1 ∧ (readP l).1.n < 0)
theorem vOk_of {l : List UInt8} (h : (readP l).2 = 0) (h45 : l.head? ≠ some 45) : vOk l := by
 obtain ⟨h1, h2, h3, -⟩ := show_read (l := l) (v := (readP l).1) (Prod.ext rfl h)
 refine ⟨h1, fun ⟨ht, hn⟩ => ?_⟩
 unfold valText at h2
 rw [if_pos ht] at h2
 obtain ⟨m, hm⟩ : ∃ m : Nat, (readP l).1.n = -(m : Int) ∧ 1 ≤ m := ⟨(-(readP l).1.n).toNat, by omega, by omega⟩
 rw [hm.1, itoa_minus hm.2] at h2
 rw [← h2] at h45
 exact h45 rfl
def NumOk (T : List Tok) : Prop := ∀ (i : Nat) (v : Val), valT T i = some v → vcheck v = 0 ∧ ¬ (v.type = 1 ∧ v.n < 0)
theorem tokP_head {c : UInt8} {r : List UInt8} {n : Nat} {k : Int} (h : tokP (c :: r) = (n, k, 0)) (hk : k = 2 ∨ k = 3) : c ≠ 45 := by
 intro e
 subst e
 rw [tokP_S r (by decide) (by decide) (by decide)] at h
 split at h
 ·injection h with _ h; injection h with h _; omega
 ·injection h with _ h; injection h with h _; omega
theorem numOk_of {s : List UInt8} {T : List Tok} (h : lexS s = .ok T) : NumOk T := by
 intro i v hv
 have hW := words_of h
 obtain ⟨-, hc⟩ := lexS_ok h
 have hx := val_some hW hv
 rw [hx.2.1]
 refine vOk_of hx.2.2.1 ?_
 unfold valT at hv
 cases ht : T[i]? with
 | none => rw [ht] at hv; cases hv
 | some t =>
  rw [ht] at hv
  have e1 : textT T i = t.text := by unfold textT; rw [ht]
  rw [e1]
  simp only at hv
  split at hv
  ·rename_i hk
   obtain ⟨c, r, n, h1, h2, -, h4, -⟩ := hc.all t (List.mem_of_getElem? ht)
   rcases hk with hk | hk | ⟨-, hk | hk⟩
   ·have := tokP_head h1 (Or.inl hk)
    rw [h2]
    cases n with
    | zero => omega
    | succ n => rw [List.take_succ_cons, List.head?_cons]; exact fun e => this (by injection e)
   ·have := tokP_head h1 (Or.inr hk)
    rw [h2]
    cases n with
    | zero => omega
    | succ n => rw [List.take_succ_cons, List.head?_cons]; exact fun e => this (by injection e)
   ·rw [hk]; decide
   ·rw [hk]; decide
  ·cases hv
theorem lvl_node {n : Nat} {s : List UInt8} (h : s ∈ lvlL n) : nodeErrOf (mkB s) ⟨#[]⟩ noVal 2 = 0 := by
 have key : ∀ n, n < 5 → ∀ s ∈ lvlL n, nodeErrOf (mkB s) ⟨#[]⟩ noVal 2 = 0 := by decide
 by_cases hn : n < 5
 ·exact key n hn s h
 ·match n, h with
  | n + 5, h => cases h
  | 0, _ | 1, _ | 2, _ | 3, _ | 4, _ => omega
def accR : Md → Prop
 | .lp _ e => nodesErr e = 0
 | .ar w _ m acc => ((w = wLen ∧ m = 1) ∨ (w = wIf ∧ m = 3)) ∧ ∀ a ∈ acc, nodesErr a = 0
 | _ => True
theorem rd_right {T : List Tok} {E : Nat} (hT : NumOk T) {m : Md} {i : Nat} {r : PR} (h : Rd T E m i r) : accR m → ∀ x j, r = .ok (x, j) → nodesErr x = 0 := by
 have one : ∀ {x : Ex} {op : List UInt8} {pos : Nat}, nodeErrOf (mkB op) ⟨#[]⟩ noVal 1 = 0 → nodesErr x = 0 → nodesErr (opEx op [x] pos) = 0 := fun h1 h2 => nodes_op h1 (fun a ha => by simp at ha; subst ha; exact h2)
 have two : ∀ {x y : Ex} {n : Nat} {op : List UInt8} {pos : Nat}, op ∈ lvlL n → nodesErr x = 0 → nodesErr y = 0 → nodesErr (opEx op [x, y] pos) = 0 := fun h1 h2 h3 => nodes_op (lvl_node h1) (fun a ha => by simp at ha; rcases ha with rfl | rfl; exact h2; exact h3)
 induction h with
 | lvNot h a ih => intro _ x j e; cases e; exact one (by decide) (ih trivial _ _ rfl)
 | lvNotE => intro _ x j e; cases e
 | lvUn a ih => intro _ x j e; exact ih trivial x j e
 | lvGo hn h a b ih1 ih2 => intro _ x j e; exact ih2 (ih1 trivial _ _ rfl) x j e
 | lvGoE => intro _ x j e; cases e
 | lpEnd h => intro ha x j e; cases e; exact ha
 | lpGo h hn a b ih1 ih2 => intro ha x j e; exact ih2 (two (sgT_some h).1 ha (ih1 trivial _ _ rfl)) x j e
 | lpOne h a ih => intro ha x j e; cases e; exact two (sgT_some h).1 ha (ih trivial _ _ rfl)
 | lpE => intro _ x j e; cases e
 | unNeg h a ih => intro _ x j e; cases e; exact one (by decide) (ih trivial _ _ rfl)
 | unNegE => intro _ x j e; cases e
 | unPr h a ih => intro _ x j e; exact ih trivial x j e
 | prPar h a c ih => intro _ x j e; cases e; exact ih trivial _ _ rfl
 | prParN => intro _ x j e; cases e
 | prParE => intro _ x j e; cases e
 | prLen h o a ih => intro _ x j e; exact ih ⟨Or.inl ⟨rfl, rfl⟩, fun a ha => by cases ha⟩ x j e
 | prIf h o a ih => intro _ x j e; exact ih ⟨Or.inr ⟨rfl, rfl⟩, fun a ha => by cases ha⟩ x j e
 | prLenN => intro _ x j e; cases e
 | prIfN => intro _ x j e; cases e
 | @prVal i v h1 h2 h3 c =>
  intro _ x j e
  cases e
  obtain ⟨k1, k2⟩ := hT _ _ c
  unfold valEx
  rw [nodesErr, nodesErrs]
  have : nodeErrOf (mkB [118, 97, 108]) ⟨#[]⟩ v ([] : List Ex).length = 0 := by
   unfold nodeErrOf
   rw [if_neg (by rintro (h | ⟨h, -⟩); exact absurd h (by decide); exact absurd h (by decide)), if_neg (by rintro (h | ⟨-, h⟩ | ⟨h, -⟩); exact absurd rfl h; exact absurd rfl h; exact absurd (show isVal (mkB [118, 97, 108]) from rfl) h), if_neg (fun h => h (show isVal (mkB [118, 97, 108]) from rfl)), if_neg (fun h => h k1), if_neg k2]
  rw [if_neg (fun h => h this)]
 | @prCol i s h1 h2 h3 c d =>
  intro _ x j e
  cases e
  obtain ⟨t, -, -, -, hn⟩ := nameT_some d
  unfold colEx
  rw [nodesErr, nodesErrs]
  have : nodeErrOf (mkB [99, 111, 108]) (mkB s) noVal ([] : List Ex).length = 0 := by
   unfold nodeErrOf
   rw [if_neg (by rintro (h | ⟨-, h⟩); exact absurd h (by decide); rw [hn] at h; cases h), if_neg (by rintro (h | ⟨h, -⟩ | ⟨-, h⟩); exact absurd rfl h; exact h (show isCol (mkB [99, 111, 108]) from rfl); exact h rfl), if_pos (by decide)]
  rw [if_neg (fun h => h this)]
 | prNo => intro _ x j e; cases e
 | arEnd h c =>
  intro ha x j e
  cases e
  refine nodes_op ?_ ha.2
  rcases ha.1 with ⟨rfl, hm⟩ | ⟨rfl, hm⟩
  ·rw [h, hm]; decide
  ·rw [h, hm]; decide
 | arEndN => intro _ x j e; cases e
 | arFirst h a b ih1 ih2 => intro ha x j e; exact ih2 ⟨ha.1, fun y hy => by simp at hy; subst hy; exact ih1 trivial _ _ rfl⟩ x j e
 | arFirstE => intro _ x j e; cases e
 | arGo h h0 c a b ih1 ih2 =>
  intro ha x j e
  refine ih2 ⟨ha.1, fun y hy => ?_⟩ x j e
  rcases List.mem_append.1 hy with hy | hy
  ·exact ha.2 y hy
  ·simp at hy; subst hy; exact ih1 trivial _ _ rfl
 | arGoE => intro _ x j e; cases e
 | arGoN => intro _ x j e; cases e
end Go.Proofs.YtjoeeilncekgpaaGreatDoor
