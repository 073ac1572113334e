/- What words are read as a query is right, plain. -/
import Derived.Test.YtpbbkpfaphjdoaaGreatDoorSQryAggs
import Derived.Test.YtpbbkpfaphjdoaaGreatDoorSRefRead
namespace Go.Proofs.YtpbbkpfaphjdoaaGreatDoor
def AggOk (a : AggP) : Prop := treeName (mkB a.name) = true ∧ ((a.what = qCount ∧ a.of = zeroX) ∨ ((a.what = qSum ∨ a.what = qLeast ∨ a.what = qMost) ∧ nodesErr a.of = 0))
structure QOk (q : QP) : Prop where
 cols : ∀ e ∈ q.cols, nodesErr e = 0
 names : ∀ s ∈ q.names, treeName (mkB s) = true
 len : q.names.length = q.cols.length
 wher : q.wher = zeroX ∨ nodesErr q.wher = 0
 group : ∀ s ∈ q.group, treeName (mkB s) = true
 aggs : ∀ a ∈ q.aggs, AggOk a
section
variable {T : List Tok} {E : Nat} {X : Nat → PR}
theorem bind_ok {α β : Type} {r : QR α} {f : α × Nat → QR β} {y : β × Nat} (h : r.bind f = .ok y) : ∃ x, r = .ok x ∧ f x = .ok y := by
 cases r with
 | error k => cases h
 | ok x => exact ⟨x, rfl, h⟩
theorem bindN_ok {β : Type} {r : Except Nat Nat} {f : Nat → QR β} {y : β × Nat} (h : r.bind f = .ok y) : ∃ x, r = .ok x ∧ f x = .ok y := by
 cases r with
 | error k => cases h
 | ok x => exact ⟨x, rfl, h⟩
theorem need_is {s : List UInt8} {i j : Nat} (h : needQ T E s i = .ok j) : isT T i s = true ∧ j = i + 1 := by
 unfold needQ at h
 split at h
 ·rename_i hx; injection h with h; exact ⟨hx, h.symm⟩
 ·cases h
theorem name_is {s : List UInt8} {i j : Nat} (h : nameQ T E i = .ok (s, j)) : nameT T i = some s ∧ j = i + 1 := by
 unfold nameQ at h
 split at h
 ·rename_i hx; injection h with h; injection h with h1 h2; subst h1; exact ⟨hx, h2.symm⟩
 ·cases h
theorem as_is {s : List UInt8} {i j : Nat} (h : asQ T E i = .ok (s, j)) : isT T i qAs = true ∧ nameT T (i + 1) = some s ∧ j = i + 2 := by
 unfold asQ at h
 obtain ⟨k, h1, h2⟩ := bindN_ok h
 obtain ⟨h3, rfl⟩ := need_is h1
 obtain ⟨h4, rfl⟩ := name_is h2
 exact ⟨h3, h4, rfl⟩
theorem name_tree {s : List UInt8} {i : Nat} (h : nameT T i = some s) : treeName (mkB s) = true := by
 obtain ⟨t, -, -, -, h⟩ := nameT_some h
 exact h
theorem x_right (hX : Oracle T E X) (hT : NumOk T) {i j : Nat} {x : Ex} (hi : i ≤ T.length) (h : X i = .ok (x, j)) : nodesErr x = 0 := rd_right hT (hX i hi) trivial x j h
theorem of_is {x : Ex} {i j : Nat} (h : ofQ T E X i = .ok (x, j)) : ∃ k, isT T i wOpen = true ∧ X (i + 1) = .ok (x, k) ∧ isT T k wClose = true ∧ j = k + 1 := by
 unfold ofQ at h
 obtain ⟨k, h1, h2⟩ := bindN_ok h
 obtain ⟨h3, rfl⟩ := need_is h1
 obtain ⟨⟨y, k⟩, h4, h5⟩ := bind_ok h2
 obtain ⟨m, h6, h7⟩ := bindN_ok h5
 obtain ⟨h8, rfl⟩ := need_is h6
 injection h7 with h7
 injection h7 with h7 h9
 subst h7 h9
 exact ⟨k, h3, h4, h8, rfl⟩
theorem agg_is {a : AggP} {i j : Nat} (h : aggQ T E X i = .ok (a, j)) : isAg T i = true ∧ ((textT T i = qCount ∧ ∃ s, asQ T E (i + 1) = .ok (s, j) ∧ a = ⟨qCount, zeroX, s⟩) ∨ (textT T i ≠ qCount ∧ ∃ x k s, ofQ T E X (i + 1) = .ok (x, k) ∧ asQ T E k = .ok (s, j) ∧ a = ⟨textT T i, x, s⟩)) := by
 unfold aggQ at h
 split at h
 ·rename_i hg
  refine ⟨hg, ?_⟩
  split at h
  ·rename_i hc
   obtain ⟨⟨s, k⟩, h1, h2⟩ := bind_ok h
   injection h2 with h2
   injection h2 with h2 h3
   subst h2 h3
   exact Or.inl ⟨hc, s, h1, rfl⟩
  ·rename_i hc
   obtain ⟨⟨x, k⟩, h1, h2⟩ := bind_ok h
   obtain ⟨⟨s, m⟩, h3, h4⟩ := bind_ok h2
   injection h4 with h4
   injection h4 with h4 h5
   subst h4 h5
   exact Or.inr ⟨hc, x, k, s, h1, h3, rfl⟩
 ·cases h
theorem ag_text {i : Nat} (h : isAg T i = true) : textT T i ∈ aggL ∧ i < T.length := by
 obtain ⟨s, hs, h2⟩ := List.any_eq_true.1 h
 rw [isT_text h2]
 exact ⟨hs, isT_lt h2⟩
theorem agg_right (hX : Oracle T E X) (hT : NumOk T) {a : AggP} {i j : Nat} (h : aggQ T E X i = .ok (a, j)) : AggOk a := by
 obtain ⟨hg, h⟩ := agg_is h
 rcases h with ⟨hc, s, h1, rfl⟩ | ⟨hc, x, k, s, h1, h2, rfl⟩
 ·exact ⟨name_tree (as_is h1).2.1, Or.inl ⟨rfl, rfl⟩⟩
 ·obtain ⟨m, h3, h4, -⟩ := of_is h1
  refine ⟨name_tree (as_is h2).2.1, Or.inr ⟨?_, x_right hX hT (by have := isT_lt h3; omega) h4⟩⟩
  have := (ag_text hg).1
  simp only [aggL, List.mem_cons, List.not_mem_nil, or_false] at this
  rcases this with e | e | e | e
  ·exact absurd e hc
  ·exact Or.inl e
  ·exact Or.inr (Or.inl e)
  ·exact Or.inr (Or.inr e)
theorem cols_right (hX : Oracle T E X) (hT : NumOk T) : ∀ (f : Nat) (q : QP) (i : Nat), QOk q → i ≤ T.length → ∀ p j, colsQ T E X f q i = .ok (p, j) → QOk p ∧ p.aggs = q.aggs ∧ p.group = q.group ∧ p.wher = q.wher ∧ p.size = q.size ∧ p.slide = q.slide ∧ j ≤ T.length ∧ p.cols ≠ []
 | 0, q, i, hq, hi, p, j, h => by cases h
 | f + 1, q, i, hq, hi, p, j, h => by
  rw [colsQ] at h
  obtain ⟨⟨x, k⟩, h1, h2⟩ := bind_ok h
  obtain ⟨⟨s, m⟩, h3, h4⟩ := bind_ok h2
  have hx := x_right hX hT hi h1
  obtain ⟨a1, a2, rfl⟩ := as_is h3
  have hs := name_tree a2
  have hlt := nameT_lt a2
  have hq' : QOk { q with cols := q.cols ++ [x], names := q.names ++ [s] } := by
   refine ⟨fun e he => ?_, fun u hu => ?_, by simp [hq.len], hq.wher, hq.group, hq.aggs⟩
   ·rcases List.mem_append.1 he with he | he
    ·exact hq.cols e he
    ·simp at he; subst he; exact hx
   ·rcases List.mem_append.1 hu with hu | hu
    ·exact hq.names u hu
    ·simp at hu; subst hu; exact hs
  simp only at h4
  split at h4
  ·rename_i hc
   have := isT_lt hc
   exact cols_right hX hT f _ _ hq' (by omega) p j h4
  ·injection h4 with h4
   injection h4 with h4 h5
   subst h4 h5
   exact ⟨hq', rfl, rfl, rfl, rfl, rfl, by omega, by simp⟩
theorem aggs_right (hX : Oracle T E X) (hT : NumOk T) : ∀ (f : Nat) (q : QP) (i : Nat), QOk q → ∀ p j, aggsQ T E X f q i = .ok (p, j) → QOk p ∧ p.cols = q.cols ∧ p.names = q.names ∧ p.group = q.group ∧ p.wher = q.wher ∧ p.aggs ≠ []
 | 0, q, i, hq, p, j, h => by cases h
 | f + 1, q, i, hq, p, j, h => by
  rw [aggsQ] at h
  obtain ⟨⟨a, k⟩, h1, h4⟩ := bind_ok h
  have ha := agg_right hX hT h1
  have hq' : QOk { q with aggs := q.aggs ++ [a] } := by
   refine ⟨hq.cols, hq.names, hq.len, hq.wher, hq.group, fun u hu => ?_⟩
   rcases List.mem_append.1 hu with hu | hu
   ·exact hq.aggs u hu
   ·simp at hu; subst hu; exact ha
  simp only at h4
  split at h4
  ·exact aggs_right hX hT f _ _ hq' p j h4
  ·injection h4 with h4
   injection h4 with h4 h5
   subst h4 h5
   exact ⟨hq', rfl, rfl, rfl, rfl, by simp⟩
theorem grp_right : ∀ (f : Nat) (q : QP) (i : Nat), QOk q → ∀ p j, grpQ T E f q i = .ok (p, j) → QOk p ∧ p.cols = q.cols ∧ p.names = q.names ∧ p.aggs = q.aggs ∧ p.wher = q.wher ∧ p.from_ = q.from_ ∧ p.group ≠ []
 | 0, q, i, hq, p, j, h => by cases h
 | f + 1, q, i, hq, p, j, h => by
  rw [grpQ] at h
  obtain ⟨⟨s, k⟩, h1, h4⟩ := bind_ok h
  obtain ⟨a2, rfl⟩ := name_is h1
  have hs := name_tree a2
  have hq' : QOk { q with group := q.group ++ [s] } := by
   refine ⟨hq.cols, hq.names, hq.len, hq.wher, fun u hu => ?_, hq.aggs⟩
   rcases List.mem_append.1 hu with hu | hu
   ·exact hq.group u hu
   ·simp at hu; subst hu; exact hs
  simp only at h4
  split at h4
  ·exact grp_right f _ _ hq' p j h4
  ·injection h4 with h4
   injection h4 with h4 h5
   subst h4 h5
   exact ⟨hq', rfl, rfl, rfl, rfl, rfl, by simp⟩
theorem win_right {q p : QP} {i j : Nat} (hq : QOk q) (h : winQ T E q i = .ok (p, j)) : QOk p ∧ p.cols = q.cols ∧ p.aggs = q.aggs := by
 unfold winQ at h
 obtain ⟨k, h1, h2⟩ := bindN_ok h
 obtain ⟨⟨n, m⟩, h3, h4⟩ := bind_ok h2
 simp only at h4
 split at h4
 ·obtain ⟨⟨n2, m2⟩, h5, h6⟩ := bind_ok h4
  injection h6 with h6
  injection h6 with h6 _
  subst h6
  exact ⟨⟨hq.cols, hq.names, hq.len, hq.wher, hq.group, hq.aggs⟩, rfl, rfl⟩
 ·injection h4 with h4
  injection h4 with h4 _
  subst h4
  exact ⟨⟨hq.cols, hq.names, hq.len, hq.wher, hq.group, hq.aggs⟩, rfl, rfl⟩
theorem group_right {q p : QP} {i j : Nat} (hq : QOk q) (h : groupQ T E q i = .ok (p, j)) : QOk p ∧ p.cols = q.cols ∧ p.aggs = q.aggs := by
 unfold groupQ at h
 obtain ⟨k, h1, h2⟩ := bindN_ok h
 obtain ⟨k2, h3, h4⟩ := bindN_ok h2
 obtain ⟨⟨p1, m⟩, h5, h6⟩ := bind_ok h4
 obtain ⟨g1, g2, -, g4, -⟩ := grp_right _ _ _ hq _ _ h5
 obtain ⟨g5, g6, g7⟩ := win_right g1 h6
 exact ⟨g5, g6.trans g2, g7.trans g4⟩
theorem zeroQ_ok : QOk zeroQ := ⟨(fun e h => by cases h), (fun e h => by cases h), rfl, Or.inl rfl, (fun e h => by cases h), (fun e h => by cases h)⟩
theorem from_right (hX : Oracle T E X) (hT : NumOk T) {q p : QP} {i j : Nat} (hq : QOk q) (h : fromQ T E X q i = .ok (p, j)) : QOk p ∧ p.cols = q.cols ∧ p.aggs = q.aggs := by
 unfold fromQ at h
 obtain ⟨k, h1, h2⟩ := bindN_ok h
 obtain ⟨⟨s, m⟩, h3, h4⟩ := bind_ok h2
 simp only at h4
 split at h4
 ·rename_i hw
  obtain ⟨⟨x, m2⟩, h5, h6⟩ := bind_ok h4
  injection h6 with h6
  injection h6 with h6 _
  subst h6
  exact ⟨⟨hq.cols, hq.names, hq.len, Or.inr (x_right hX hT (by have := isT_lt hw; omega) h5), hq.group, hq.aggs⟩, rfl, rfl⟩
 ·injection h4 with h4
  injection h4 with h4 _
  subst h4
  exact ⟨⟨hq.cols, hq.names, hq.len, hq.wher, hq.group, hq.aggs⟩, rfl, rfl⟩
theorem readQ_right (hX : Oracle T E X) (hT : NumOk T) {p : QP} {j : Nat} (h : readQ' T E X = .ok (p, j)) : QOk p := by
 unfold readQ' at h
 obtain ⟨k, h1, h2⟩ := bindN_ok h
 obtain ⟨hs, rfl⟩ := need_is h1
 obtain ⟨⟨p1, m⟩, h3, h4⟩ := bind_ok h2
 obtain ⟨⟨p2, m2⟩, h5, h6⟩ := bind_ok h4
 have hp1 : QOk p1 := by
  unfold itemsQ at h3
  split at h3
  ·exact (aggs_right hX hT _ _ _ zeroQ_ok _ _ h3).1
  ·exact (cols_right hX hT _ _ _ zeroQ_ok (by have := isT_lt hs; omega) _ _ h3).1
 have hp2 := (from_right hX hT hp1 h5).1
 simp only at h6
 split at h6
 ·exact (group_right hp2 h6).1
 ·injection h6 with h6
  injection h6 with h6 _
  subst h6
  exact hp2
end
def hasOp' (e : Ex) : Bool := !e.op.data.toList.isEmpty
theorem op_some {e : Ex} (h : nodesErr e = 0) : hasOp' e = true := by
 obtain ⟨op, name, v, A, c, args, pos⟩ := e
 have h1 := (nodesErr_parts h).1
 unfold hasOp'
 cases hx : op.data.toList with
 | cons a l => show (!(op.data.toList).isEmpty) = true; rw [hx]; rfl
 | nil =>
  exfalso
  unfold nodeErrOf at h1
  have : arityOf op = -1 := by
   have e : op = ⟨#[]⟩ := ByteArray.ext (Array.toList_inj.1 hx)
   rw [e]
   decide
  rw [if_pos (Or.inl (by rw [this]; decide))] at h1
  omega
end Go.Proofs.YtpbbkpfaphjdoaaGreatDoor
