/- Of expressions made of right ones: an if of a value that is true or false, a comparison of two, an and, an or with such a value: what they come to. No program in sight. -/
import Derived.Test.YtpbbkpfaphjdoaaDoorEval
namespace Go.Proofs.YtpbbkpfaphjdoaaDoor
open Go.ChangeShapes Go.WideShapes Go.ChangeAt Go.RowKit

def litE (b : Bool) : Ex := .mk ⟨#[118, 97, 108]⟩ ⟨#[]⟩ (truthV b) none 0 [] 0
def opE (op : ByteArray) (A : Option Addr) (c : Nat) (l : List Ex) : Ex := .mk op ⟨#[]⟩ noVal A c l 0
theorem lit_seen (b : Bool) (w : World) : SeesEx w (litE b) := .mk (Sees.nil w 7) (show (3 : Nat) ≤ maxLen by decide) (Nat.zero_le _) (right_truth b).1 (show fits 0 by decide) (fun a h => by cases h)
theorem lit_nodes (b : Bool) : nodesErr (litE b) = 0 := by cases b <;> decide
theorem lit_below (b : Bool) : exBelow 29 (litE b) = true := by cases b <;> decide
theorem lit_n (b : Bool) : exN (litE b) = 1 := by cases b <;> decide
theorem lit_of (cols : List Col) (b : Bool) : ofE cols (litE b) = ⟨2, 0, 0⟩ := by
  unfold litE
  rw [ofE_mk, if_neg (by rw [ofFault]; decide)]
  unfold ofNode
  rw [if_pos (show isVal ⟨#[118, 97, 108]⟩ by decide)]
  cases b <;> rfl
theorem lit_ev (cols : List Col) (r : List Val) (b : Bool) : evE cols r (litE b) = ⟨0, truthV b⟩ := by
  unfold litE
  rw [evE_mk, if_pos (show isVal ⟨#[118, 97, 108]⟩ by decide)]

/-- What each part must be. -/
structure PartOk (cols : List Col) (x : Ex) : Prop where
  below : exBelow 29 x = true
  nodes : nodesErr x = 0
  ty : (ofE cols x).h = 0
theorem lit_part (cols : List Col) (b : Bool) : PartOk cols (litE b) := ⟨lit_below b, lit_nodes b, by rw [lit_of]⟩

theorem schema_type {cols : List Col} (h : schemaErr cols = 0) {k : Nat} {c : Col} (hk : cols[k]? = some c) : 1 ≤ c.type ∧ c.type ≤ 3 := by
  unfold schemaErr at h
  split at h
  · omega
  · split at h
    · omega
    · have := firstErr_all h k (List.getElem?_eq_some_iff.1 hk).1
      unfold schemaAt at this
      rw [hk] at this
      revert this
      simp only
      intro this
      by_cases hc : 1 ≤ c.type ∧ c.type ≤ 3
      · exact hc
      · exfalso
        revert this
        repeat' split
        all_goals first | omega | (intro h; simp_all)
theorem vcheck_type {v : Val} (h : vcheck v = 0) : 1 ≤ v.type ∧ v.type ≤ 3 := by
  unfold vcheck at h
  by_cases h1 : v.type = 1
  · omega
  by_cases h2 : v.type = 2
  · omega
  by_cases h3 : v.type = 3
  · omega
  rw [if_neg h1, if_neg h2, if_neg h3] at h
  omega
theorem type_ok {cols : List Col} (hs : schemaErr cols = 0) : ∀ (m : Nat) (e : Ex), SizeOf.sizeOf e ≤ m → nodesErr e = 0 → (ofE cols e).h = 0 → 1 ≤ (ofE cols e).t ∧ (ofE cols e).t ≤ 3
  | 0, e, hm, _, _ => by cases e; simp at hm
  | m + 1, .mk op name v A c args pos, hm, hn, hh => by
    obtain ⟨p1, p2, p3⟩ := ofE_parts hh
    obtain ⟨n1, n2⟩ := nodesErr_parts hn
    rw [p2]
    by_cases hv : isVal op
    · unfold ofNode
      rw [if_pos hv]
      exact vcheck_type (nodeErr_val n1 hv)
    by_cases hc : isCol op
    · unfold ofNode at p3 ⊢
      rw [if_neg hv, if_pos hc] at p3 ⊢
      by_cases hf : findCol cols name < 0
      · rw [if_pos hf] at p3; exact absurd (show (5 : Int) = 0 from p3) (by omega)
      · rw [if_neg hf]
        obtain ⟨k, x, hk, hx, _⟩ := findCol_get (Int.not_lt.1 hf)
        unfold colType
        rw [hk, Int.toNat_natCast, hx]
        exact schema_type hs hx
    obtain ⟨q1, q2⟩ := ofNode_op hv hc p3
    obtain ⟨r1, r2, r3⟩ := ruleErr_parts q1
    rw [q2]
    show 1 ≤ typeGrp (grp op) (ofTypes cols args) ∧ typeGrp (grp op) (ofTypes cols args) ≤ 3
    by_cases hg : grp op = 3
    · rw [hg]
      show 1 ≤ (ofTypes cols args).getD 1 0 ∧ (ofTypes cols args).getD 1 0 ≤ 3
      have hany : ∀ x ∈ ofTypes cols args, 1 ≤ x ∧ x ≤ 3 := by
        intro x hx
        rw [ofTypes_map] at hx
        obtain ⟨a, ha, rfl⟩ := List.mem_map.1 hx
        exact type_ok hs m a (by have := ex_lt (e := .mk op name v A c args pos) ha; omega) (nodesErrs_all n2 a ha) (p1 a ha)
      have hl : 1 < (ofTypes cols args).length := by
        have h3 : isIf op := by
          unfold grp at hg
          split at hg
          · omega
          · split at hg
            · omega
            · split at hg
              · omega
              · split at hg
                · assumption
                · omega
        have := (if_grp h3).2
        omega
      rw [List.getD_eq_getElem?_getD, List.getElem?_eq_getElem hl]
      exact hany _ (List.getElem_mem hl)
    · unfold typeGrp
      split
      · omega
      · omega
      · omega
      · rename_i h; exact absurd h hg
      · omega

theorem mk_check {cols : List Col} {op : ByteArray} {A : Option Addr} {c : Nat} {l : List Ex} (hl : ∀ x ∈ l, PartOk cols x) (hs : exNs l + 1 ≤ 200) (hn : nodeErrOf op ⟨#[]⟩ noVal l.length = 0) :
    checkErr (opE op A c l) = 0 := by
  have h2 : exBelow 30 (opE op A c l) = true := by
    rw [exBelow_all]
    exact List.all_eq_true.2 fun x hx => (hl x hx).below
  have h3 : nodesErr (opE op A c l) = 0 := by
    unfold opE
    rw [nodesErr, if_neg (by rw [hn]; decide)]
    clear hn hs h2
    induction l with
    | nil => rfl
    | cons x l ih =>
      rw [nodesErrs, if_neg (by rw [(hl x List.mem_cons_self).nodes]; decide)]
      exact ih fun y hy => hl y (List.mem_cons_of_mem _ hy)
  have h4 := (size_ok 30 (Nat.le_refl _) _ h2 h3).1
  have h5 : exN (opE op A c l) = exNs l + 1 := by unfold opE; rw [exN]
  exact checkErr_mk (by omega) h2 h3
/-- What an operation on right parts comes to. -/
theorem mk_eval {cols : List Col} {r : List Val} {op : ByteArray} {A : Option Addr} {c : Nat} {l : List Ex} (hl : ∀ x ∈ l, PartOk cols x) (hs : exNs l + 1 ≤ 200) (hn : nodeErrOf op ⟨#[]⟩ noVal l.length = 0)
    (hp : 0 < l.length) (hsc : schemaErr cols = 0) (hr : rowErr cols r = 0) (hru : ruleErr op (l.map fun a => (ofE cols a).t) = 0) (hc : ¬ isCol op) (hv : ¬ isVal op) :
    evalR cols r (opE op A c l) = if isIf op then (if (evAt cols r l 0).k ≠ 0 then ⟨(evAt cols r l 0).k, noVal⟩ else evAt cols r l (2 - (evAt cols r l 0).v.n).toNat) else evLoop cols r op l [] := by
  have hck := mk_check (A := A) (c := c) hl hs hn
  have ht : (typeOf cols (opE op A c l)).h = 0 := by
    have he : ∀ x ∈ l, typeOf cols x = ofE cols x := fun x hx => by rw [typeOf_child hck (show x ∈ (opE op A c l).args from hx), if_neg (by simp [hsc])]
    have hm : (l.map fun a => (typeOf cols a).t) = l.map fun a => (ofE cols a).t := List.map_congr_left fun a ha => by rw [he a ha]
    have hw := typeOf_whole (cols := cols) hck (show 0 < (opE op A c l).args.length from hp) (fun x hx => by rw [he x hx]; exact (hl x hx).ty)
    rw [hw]
    show (if ruleErr op (l.map fun a => (typeOf cols a).t) ≠ 0 then _ else _ : Res).h = 0
    rw [hm, if_neg (by rw [hru]; decide)]
  unfold evalR
  rw [if_neg (by rw [ht]; decide), if_neg (by rw [hr]; decide)]
  unfold opE
  rw [evE_mk, if_neg hv, if_neg hc]

section
variable {cols : List Col} {r : List Val} {a b : Ex} {A : Option Addr} {c : Nat}
theorem part_of_if (h : checkErr (opE ⟨#[105, 102]⟩ A c [litE true, a, b]) = 0) (ha : (typeOf cols a).h = 0) (hb : (typeOf cols b).h = 0) :
    PartOk cols a ∧ PartOk cols b ∧ exN a + exN b + 2 ≤ 200 := by
  obtain ⟨h1, h2, h3⟩ := checkErr_ok h
  have h4 := (size_ok 30 (Nat.le_refl _) _ h2 h3).1
  have h5 : exN (opE ⟨#[105, 102]⟩ A c [litE true, a, b]) = 1 + (exN a + (exN b + 0)) + 1 := by unfold opE; rw [exN, exNs, exNs, exNs, exNs, lit_n]
  have h6 := h2
  rw [exBelow_all] at h6
  have h7 := List.all_eq_true.1 h6
  have ma : a ∈ (opE ⟨#[105, 102]⟩ A c [litE true, a, b]).args := show a ∈ [litE true, a, b] by simp
  have mb : b ∈ (opE ⟨#[105, 102]⟩ A c [litE true, a, b]).args := show b ∈ [litE true, a, b] by simp
  obtain ⟨ta1, ta2, _⟩ := typeOf_ok ha
  obtain ⟨tb1, tb2, _⟩ := typeOf_ok hb
  exact ⟨⟨h7 a ma, ta1, ta2⟩, ⟨h7 b mb, tb1, tb2⟩, by omega⟩
theorem rule_ok2 {op : ByteArray} {x y : Int} (h1 : isOpB op = true) (h2 : arityOf op = 2) (hx : 1 ≤ x ∧ x ≤ 3) (hy : 1 ≤ y ∧ y ≤ 3) (hf : fitsGrp (grp op) [x, y] = true) : ruleErr op [x, y] = 0 := by
  unfold ruleErr
  rw [if_neg (by simp [h1, noType]; omega), if_neg (by rw [h2]; simp), if_pos hf]
theorem if_is (lb : Bool) (ha : PartOk cols a) (hb : PartOk cols b) (hn : exN a + exN b + 2 ≤ 200) (hs : schemaErr cols = 0) (hr : rowErr cols r = 0) (ht : (ofE cols a).t = (ofE cols b).t) :
    evalR cols r (opE ⟨#[105, 102]⟩ A c [litE lb, a, b]) = evE cols r (if lb then a else b) := by
  have ta := type_ok hs _ a (Nat.le_refl _) ha.nodes ha.ty
  rw [mk_eval (l := [litE lb, a, b]) (by
      intro x hx
      simp at hx
      rcases hx with rfl | rfl | rfl
      · exact lit_part _ _
      · exact ha
      · exact hb) (by rw [exNs, exNs, exNs, exNs, lit_n]; omega) (show nodeErrOf ⟨#[105, 102]⟩ ⟨#[]⟩ noVal 3 = 0 by decide) (by simp) hs hr (by
      show ruleErr ⟨#[105, 102]⟩ [(ofE cols (litE lb)).t, (ofE cols a).t, (ofE cols b).t] = 0
      rw [lit_of, ← ht]
      unfold ruleErr
      rw [if_neg (by simp [noType, show isOpB ⟨#[105, 102]⟩ = true by decide]; omega), if_neg (by rw [show arityOf ⟨#[105, 102]⟩ = 3 by decide]; simp), if_pos (by
        rw [show grp ⟨#[105, 102]⟩ = 3 by decide]
        simp [fitsGrp])]) (by decide) (by decide), if_pos (by decide)]
  have e0 : evAt cols r [litE lb, a, b] 0 = ⟨0, truthV lb⟩ := by rw [evAt_get (a := litE lb) rfl, lit_ev]
  rw [e0, if_neg (by simp)]
  cases lb with
  | true => exact evAt_get rfl
  | false => exact evAt_get rfl
theorem two_part {x y : Ex} (hx : PartOk cols x) (hy : PartOk cols y) : ∀ z ∈ [x, y], PartOk cols z := by
  intro z hz
  simp at hz
  rcases hz with rfl | rfl
  · exact hx
  · exact hy
theorem two_eval {op : ByteArray} {x y : Ex} (hx : PartOk cols x) (hy : PartOk cols y) (hn : exN x + exN y + 1 ≤ 200) (hs : schemaErr cols = 0) (hr : rowErr cols r = 0)
    (h1 : isOpB op = true) (h2 : arityOf op = 2) (hf : fitsGrp (grp op) [(ofE cols x).t, (ofE cols y).t] = true) (hnd : nodeErrOf op ⟨#[]⟩ noVal 2 = 0) (hi : ¬ isIf op) (hc : ¬ isCol op) (hv : ¬ isVal op) :
    evalR cols r (opE op A c [x, y]) = evLoop cols r op [x, y] [] := by
  rw [mk_eval (l := [x, y]) (two_part hx hy) (by rw [exNs, exNs, exNs]; omega) hnd (by simp) hs hr
    (rule_ok2 h1 h2 (type_ok hs _ x (Nat.le_refl _) hx.nodes hx.ty) (type_ok hs _ y (Nat.le_refl _) hy.nodes hy.ty) hf) hc hv, if_neg hi]
theorem loop_two {op : ByteArray} {x y : Ex} : evLoop cols r op [x, y] [] =
    if (evE cols r x).k ≠ 0 then ⟨(evE cols r x).k, noVal⟩ else if stops op (evE cols r x).v then ⟨0, (evE cols r x).v⟩
    else if (evE cols r y).k ≠ 0 then ⟨(evE cols r y).k, noVal⟩ else if stops op (evE cols r y).v then ⟨0, (evE cols r y).v⟩
    else ⟨applyErr op [(evE cols r x).v, (evE cols r y).v], applyVal op [(evE cols r x).v, (evE cols r y).v]⟩ := by
  rw [evLoop, evLoop, evLoop]; rfl
/-- A comparison: it goes over where one of the two does, and else it is what the other one is not. -/
theorem cmp_is (ha : PartOk cols a) (hb : PartOk cols b) (hn : exN a + exN b + 2 ≤ 200) (hs : schemaErr cols = 0) (hr : rowErr cols r = 0) (ht : (ofE cols a).t = (ofE cols b).t)
    (hoa : EvOk (evE cols r a) (ofE cols a).t) (hob : EvOk (evE cols r b) (ofE cols b).t) {A' : Option Addr} {c' : Nat} :
    ((evE cols r a).k = 0 ∧ (evE cols r b).k = 0 ∧ ∃ n : Bool, evalR cols r (opE ⟨#[60]⟩ A c [a, b]) = ⟨0, truthV n⟩ ∧ evalR cols r (opE ⟨#[62, 61]⟩ A' c' [a, b]) = ⟨0, truthV (!n)⟩) ∨
    (((evE cols r a).k = 9 ∨ (evE cols r b).k = 9) ∧ evalR cols r (opE ⟨#[60]⟩ A c [a, b]) = ⟨9, noVal⟩ ∧ evalR cols r (opE ⟨#[62, 61]⟩ A' c' [a, b]) = ⟨9, noVal⟩) := by
  have hf : ∀ op, grp op = 1 → fitsGrp (grp op) [(ofE cols a).t, (ofE cols b).t] = true := by
    intro op h
    rw [h]
    simp [fitsGrp, ht]
  rw [two_eval ha hb (by omega) hs hr (by decide) (by decide) (hf _ (by decide)) (by decide) (by decide) (by decide) (by decide),
    two_eval ha hb (by omega) hs hr (by decide) (by decide) (hf _ (by decide)) (by decide) (by decide) (by decide) (by decide), loop_two, loop_two]
  have s1 : ∀ v, ¬ stops ⟨#[60]⟩ v := fun v h => h.elim (fun h => absurd h.1 (by decide)) (fun h => absurd h.1 (by decide))
  have s2 : ∀ v, ¬ stops ⟨#[62, 61]⟩ v := fun v h => h.elim (fun h => absurd h.1 (by decide)) (fun h => absurd h.1 (by decide))
  rw [if_neg (s1 _), if_neg (s1 _), if_neg (s2 _), if_neg (s2 _)]
  rcases hoa with ⟨a1, _⟩ | ⟨a1, a2⟩
  · rcases hob with ⟨b1, _⟩ | ⟨b1, b2⟩
    · left
      refine ⟨a1, b1, decide (vorder (evE cols r a).v (evE cols r b).v < 0), ?_, ?_⟩
      · rw [if_neg (by simp [a1]), if_neg (by simp [b1])]; rfl
      · rw [if_neg (by simp [a1]), if_neg (by simp [b1])]
        show (⟨0, truthV (decide (0 ≤ vorder (evE cols r a).v (evE cols r b).v))⟩ : EvR) = _
        congr 2
        by_cases h : vorder (evE cols r a).v (evE cols r b).v < 0
        · simp [h]
        · simp [h]; omega
    · right
      rw [if_neg (by simp [a1]), if_pos (by rw [b1]; decide), if_neg (by simp [a1]), if_pos (by rw [b1]; decide), b1]
      exact ⟨Or.inr rfl, rfl, rfl⟩
  · right
    rw [if_pos (by rw [a1]; decide), if_pos (by rw [a1]; decide), a1]
    exact ⟨Or.inl rfl, rfl, rfl⟩
theorem bool_fits {x y : Ex} (hx : (ofE cols x).t = 2) (hy : (ofE cols y).t = 2) : fitsGrp 0 [(ofE cols x).t, (ofE cols y).t] = true := by
  rw [hx, hy]; decide
theorem and_no (ha : PartOk cols a) (hn : exN a + 2 ≤ 200) (hs : schemaErr cols = 0) (hr : rowErr cols r = 0) (ht : (ofE cols a).t = 2) :
    evalR cols r (opE ⟨#[97, 110, 100]⟩ A c [litE false, a]) = ⟨0, truthV false⟩ := by
  rw [two_eval (lit_part _ _) ha (by rw [lit_n]; omega) hs hr (by decide) (by decide) (by rw [show grp ⟨#[97, 110, 100]⟩ = 0 by decide]; exact bool_fits (by rw [lit_of]) ht) (by decide) (by decide) (by decide) (by decide), loop_two, lit_ev,
    if_neg (by simp), if_pos (show stops ⟨#[97, 110, 100]⟩ (truthV false) by decide)]
theorem or_yes (ha : PartOk cols a) (hn : exN a + 2 ≤ 200) (hs : schemaErr cols = 0) (hr : rowErr cols r = 0) (ht : (ofE cols a).t = 2) :
    evalR cols r (opE ⟨#[111, 114]⟩ A c [litE true, a]) = ⟨0, truthV true⟩ := by
  rw [two_eval (lit_part _ _) ha (by rw [lit_n]; omega) hs hr (by decide) (by decide) (by rw [show grp ⟨#[111, 114]⟩ = 0 by decide]; exact bool_fits (by rw [lit_of]) ht) (by decide) (by decide) (by decide) (by decide), loop_two, lit_ev,
    if_neg (by simp), if_pos (show stops ⟨#[111, 114]⟩ (truthV true) by decide)]
theorem truth_of {v : Val} (h : right v) (ht : v.type = 2) : v = truthV (v.n == 1) := by
  have hb := bool_of h.2 ht
  obtain ⟨t, n, s⟩ := v
  replace ht : t = 2 := ht
  subst ht
  have hc := h.2
  unfold vcheck at hc
  rw [if_neg (show ¬ (2 : Int) = 1 by decide), if_pos rfl, if_pos hb] at hc
  by_cases hs : s.data.toList = []
  · rw [bytes_of hs]
    rcases hb with h | h
    · replace h : n = 0 := h
      subst h; rfl
    · replace h : n = 1 := h
      subst h; rfl
  · rw [if_neg hs] at hc; omega
theorem and_yes (ha : PartOk cols a) (hn : exN a + 2 ≤ 200) (hs : schemaErr cols = 0) (hr : rowErr cols r = 0) (ht : (ofE cols a).t = 2) (hoa : EvOk (evE cols r a) (ofE cols a).t) :
    evalR cols r (opE ⟨#[97, 110, 100]⟩ A c [litE true, a]) = evE cols r a := by
  rw [two_eval (lit_part _ _) ha (by rw [lit_n]; omega) hs hr (by decide) (by decide) (by rw [show grp ⟨#[97, 110, 100]⟩ = 0 by decide]; exact bool_fits (by rw [lit_of]) ht) (by decide) (by decide) (by decide) (by decide), loop_two, lit_ev,
    if_neg (by simp), if_neg (by decide)]
  generalize evE cols r a = x at hoa ⊢
  obtain ⟨k, v⟩ := x
  rcases hoa with ⟨a1, a2, a3⟩ | ⟨a1, a2⟩
  · replace a1 : k = 0 := a1
    subst a1
    rw [if_neg (by simp)]
    rw [ht] at a3
    have hv := truth_of a2 a3
    by_cases h : stops ⟨#[97, 110, 100]⟩ v
    · rw [if_pos h]
    · rw [if_neg h]
      have hb := bool_of a2.2 a3
      have h1 : v.n = 1 := by
        rcases hb with h0 | h0
        · exact absurd (Or.inl ⟨by decide, h0⟩) h
        · exact h0
      show (⟨0, truthV (decide (1 < 1 + v.n))⟩ : EvR) = ⟨0, v⟩
      congr 1
      refine Eq.trans ?_ hv.symm
      rw [h1]; rfl
  · replace a1 : k = 9 := a1
    replace a2 : v = noVal := a2
    subst a1 a2
    rw [if_pos (by decide)]
end
end Go.Proofs.YtpbbkpfaphjdoaaDoor
