/- query.Parse, walked: what any text is read as, or where it goes wrong. -/
import Derived.Test.YtpbbkpfaphjdoaaGreatDoorSQryShape
import Derived.Test.YtpbbkpfaphjdoaaGreatDoorSQryOk
namespace Go.Proofs.YtpbbkpfaphjdoaaGreatDoor
open Go.ChangeShapes Go.WideShapes Go.ChangeAt Go.RowKit
theorem fullE_right {e : Ex} (h : nodesErr e = 0) : fullE e = fullB e := by
 unfold fullE checkErr
 cases hf : fullB e with
 | true => rfl
 | false => rw [if_neg (by decide), h]; rfl
theorem zero_full {e : Ex} (h : strip e = zeroX) : hasOp e = false ∧ fullB e = false := by
 obtain ⟨op, name, v, A, c, args, pos⟩ := e
 rw [strip_mk] at h
 unfold zeroX at h
 injection h with h1 h2 h3 h4 h5 h6
 subst h1
 refine ⟨rfl, ?_⟩
 rw [← strip_full, strip_mk, h2, h3, h6]
 rfl
theorem strips_any (f : Ex → Bool) (hf : ∀ e, f (strip e) = f e) : ∀ l : List Ex, (strips l).any f = l.any f
 | [] => by rw [strips]
 | a :: l => by rw [strips, List.any_cons, List.any_cons, hf, strips_any f hf l]
theorem exprs_full {y : QX} {q : QP} (hy : qpX y = q) (hq : QOk q) : (exprsX y).any fullE = fullQ q := by
 subst hy
 have h1 : y.cols.any fullE = (qpX y).cols.any fullB := by
  show _ = (strips y.cols).any fullB
  rw [strips_any fullB strip_full]
  have hc : ∀ e ∈ y.cols, nodesErr e = 0 := fun e he => by
   have := hq.cols (strip e) (by show strip e ∈ strips y.cols; rw [strips_map]; exact List.mem_map_of_mem he)
   rwa [strip_nodes] at this
  have : ∀ l : List Ex, (∀ e ∈ l, nodesErr e = 0) → l.any fullE = l.any fullB := fun l => by
   induction l with
   | nil => intro _; rfl
   | cons a l ih => intro h; rw [List.any_cons, List.any_cons, fullE_right (h a List.mem_cons_self), ih (fun e he => h e (List.mem_cons_of_mem _ he))]
  exact this _ hc
 have h2 : (if hasOp y.wher = true then [y.wher] else []).any fullE = fullB (qpX y).wher := by
  show _ = fullB (strip y.wher)
  rw [strip_full]
  rcases hq.wher with h | h
  ·obtain ⟨h3, h4⟩ := zero_full h
   rw [h3, h4]; rfl
  ·have h : nodesErr (strip y.wher) = 0 := h
   rw [strip_nodes] at h
   have ho : hasOp y.wher = true := op_some h
   rw [if_pos ho, List.any_cons, fullE_right h]; simp
 have h3 : ∀ l : List AggX, (∀ a ∈ l, AggOk (aggP a)) → ((l.filter fun a => hasOp a.of).map (·.of)).any fullE = (l.map aggP).any (fun a => fullB a.of) := fun l => by
  induction l with
  | nil => intro _; rfl
  | cons a l ih =>
   intro h
   have ih := ih (fun e he => h e (List.mem_cons_of_mem _ he))
   rw [List.map_cons, List.any_cons, ← ih, List.filter_cons, show fullB (aggP a).of = fullB a.of from strip_full a.of]
   rcases (h a List.mem_cons_self).2 with ⟨-, h5⟩ | ⟨-, h5⟩
   ·obtain ⟨h6, h7⟩ := zero_full (show strip a.of = zeroX from h5)
    rw [h6, h7]; simp
   ·have h5 : nodesErr (strip a.of) = 0 := h5
    rw [strip_nodes] at h5
    rw [if_pos (show hasOp a.of = true from op_some h5), List.map_cons, List.any_cons, fullE_right h5]
 unfold exprsX fullQ
 rw [List.any_append, List.any_append, h1, h2, h3 y.aggs (fun a ha => hq.aggs (aggP a) (List.mem_map_of_mem ha))]
 rfl
def QPP (s : ByteArray) (r : QR QP) (eb : Nat) (w : World) (T : List Tok) (j : Nat) (w' : World) : Prop :=
 lexS s.data.toList = .ok T ∧ ∃ q y, r = .ok (q, j) ∧ qpX y = q ∧ RowL w' eb 30 (qxL y) ∧ SeesQ (fun b => w.heap.size < b) w' y
set_option maxHeartbeats 1000000 in
set_option maxRecDepth 100000 in
theorem qparse1_any {T : List Tok} {E : Nat} (hW : Words T E) {X : Nat → PR} (hX : Oracle T E X) (wB w : World) (rb qb : Nat) (A : Option Addr) (c : Nat) (hR : RdAt T E w rb A c 0) (hE : Env wB w rb) (hA : AggsT wB) (hqB : wB.heap.size ≤ qb) (hL : Lies T A rb qb w) (hq : RowL w qb 30 (qxL zeroQX)) :
  Calls Tryz.prog 40 #[.pointer (some ⟨rb, 0, none⟩), .pointer (some ⟨qb, 0, none⟩)] w (QSays2 T E rb qb A c w (ReadV w qb) (readQ' T E X)) := by
 have T1 := Lib.hid (qread_any hW hX wB w rb qb A c hR hE hA hqB hL hq)
 clear hW hX hR hE hA hqB hL hq
 generalize readQ' T E X = r at T1 ⊢
 go_enter Tryz.func40, Tryz.ntmps40
 go_wp2_with fail
 refine (T1.out).mono ?_
 intro e w1 h1
 cases r with
 | error k =>
  obtain ⟨rfl, hn⟩ := h1
  have HF := Lib.hid hn
  clear hn T1
  unfold wrongAt
  go_wp2_with fail
  exact ⟨rfl, rfl, HF.out⟩
 | ok pp =>
  obtain ⟨p, j⟩ := pp
  obtain ⟨v, rfl, ⟨rfl, hv⟩, hr, hn⟩ := h1
  have HV := Lib.hid hv
  have HR := Lib.hid hr
  have HN := Lib.hid hn
  clear hv hr hn T1
  go_wp2_with fail
  go_end0
  exact ⟨_, rfl, ⟨rfl, HV.out⟩, HR.out, HN.out⟩
theorem wpOp_storeL {ops : Array Oper} {Q : Exit → Act → World → Prop} {j : Nat} {K : Act → World → Prop} {a : Act} {w : World} {o : Oper} (hj : ops[j]? = some o) (hg : o.guard = none) (ty : TypeId) (x y : Operand) (ho : o.op = .store ty x y) (hd : o.dst = none) {b : Nat} {t : TypeId} {l n : List Value}
  (hown : RowL w b t l) (hx : a.eval x = .pointer (some ⟨b, 0, none⟩)) (hy : a.eval y = .agg n.toArray) (hi : (Tryz.prog.info? ty).map (·.size) = some n.length) (hl : l.length = n.length) (h1 : n.all (·.oneCell') = true)
  (hk : ∀ w', RowL w' b t n → Only (fun k => k = b) w w' → K a w') : wpOp Tryz.prog ops Q j K a w := by
 have hw : Region.wanted o (yielded ops a.tmps) = true := by simp [Region.wanted, hg]
 unfold wpOp
 simp only [hj, hw, if_true]
 left
 have hb := below_setRow (B := b) (Below.refl b w) (Nat.le_refl _) n.toArray
 have hO : Only (fun k => k = b) w (w.setRow b n.toArray) := ⟨hb.os, hb.tape, hb.output, hb.size, fun k _ hk => setRow_other w b k _ hk⟩
 refine wp_store_row _ x y ho b _ hx hy t _ hown (by simpa using hi) (by simpa using hl) (by simpa using h1) ?_
 rw [hd]
 exact hk _ (setRow_heap w b _ _ _ _ hown) hO
theorem built_zeroQ : Tryz.prog.built 30 [] = some #[.string ⟨#[]⟩, .string ⟨#[]⟩, .string ⟨#[]⟩, .int .i64 0, .int .i64 0, .string ⟨#[]⟩, .slice none 0 0, .int .i64 0, .slice none 0 0, .slice none 0 0, .slice none 0 0, .int .i64 0, .int .i64 0, .slice none 0 0] := by kernel_rfl
theorem run_zeroQ (w : World) : (Instr.build 30 #[]).run Tryz.prog w = .ok (.agg #[.string ⟨#[]⟩, .string ⟨#[]⟩, .string ⟨#[]⟩, .int .i64 0, .int .i64 0, .string ⟨#[]⟩, .slice none 0 0, .int .i64 0, .slice none 0 0, .slice none 0 0, .slice none 0 0, .int .i64 0, .int .i64 0, .slice none 0 0]) w :=
 run_build w _ _ _ built_zeroQ
theorem box_zq (w : World) : ∃ w0, w.alloc (.cells #[.string ⟨#[]⟩, .string ⟨#[]⟩, .string ⟨#[]⟩, .int .i64 0, .int .i64 0, .string ⟨#[]⟩, .slice none 0 0, .int .i64 0, .slice none 0 0, .slice none 0 0, .slice none 0 0, .int .i64 0, .int .i64 0, .slice none 0 0] 30) = w0 ∧ RowL w0 w.heap.size 30 (qxL zeroQX) ∧ Below w.heap.size w w0 :=
 ⟨_, rfl, rowL_new w _ (qxL zeroQX), belowNew' _ _⟩
theorem exprs_see {S : Nat → Prop} {w : World} {y : QX} (h : SeesQ S w y) : ∀ x ∈ exprsX y, SeesEx w x := by
 intro x hx
 unfold exprsX at hx
 rcases List.mem_append.1 hx with hx | hx
 ·rcases List.mem_append.1 hx with hx | hx
  ·exact (h.colsAt x hx).see
  ·split at hx
   ·rw [List.mem_singleton.1 hx]; exact h.wher.see
   ·cases hx
 ·obtain ⟨a, ha, rfl⟩ := List.mem_map.1 hx
  exact (h.aggsAt a (List.mem_filter.1 ha).1).see
def QPSays (R : Except (Int × Int) QP) (w : World) (e : Ending) (w' : World) : Prop :=
 Below w.heap.size w w' ∧ match R with
  | .error (h, p) => e = .returned (.tuple #[qxV zeroQX, faultV h p])
  | .ok q => ∃ y, e = .returned (.tuple #[qxV y, faultV 0 0]) ∧ SeesQ (fun b => w.heap.size ≤ b) w' y ∧ qpX y = q
section
variable {T : List Tok} {E : Nat} {X : Nat → PR}
theorem cols_count (hX : Oracle T E X) : ∀ (f : Nat) (q : QP) (i : Nat), i ≤ T.length → ∀ p j, colsQ T E X f q i = .ok (p, j) → p.cols.length + i ≤ q.cols.length + j ∧ j ≤ T.length ∧ p.aggs = q.aggs
 | 0, q, i, hi, p, j, h => by cases h
 | f + 1, q, i, hi, p, j, h => by
  rw [colsQ] at h
  obtain ⟨⟨x, k⟩, h1, h2⟩ := bind_ok h
  obtain ⟨⟨s, m⟩, h3, h4⟩ := bind_ok h2
  obtain ⟨a1, a2, rfl⟩ := as_is h3
  have hg := oracle_gain hX hi h1
  have hlt := nameT_lt a2
  simp only at h4
  split at h4
  ·rename_i hc
   have := isT_lt hc
   have := cols_count hX f _ _ (by omega) p j h4
   simp only [List.length_append, List.length_cons, List.length_nil] at this
   exact ⟨by omega, this.2⟩
  ·injection h4 with h4
   injection h4 with h4 h5
   subst h4 h5
   simp only [List.length_append, List.length_cons, List.length_nil]
   exact ⟨by omega, by omega, trivial⟩
theorem aggs_count (hX : Oracle T E X) : ∀ (f : Nat) (q : QP) (i : Nat), ∀ p j, aggsQ T E X f q i = .ok (p, j) → p.aggs.length + i ≤ q.aggs.length + j ∧ j ≤ T.length ∧ p.cols = q.cols
 | 0, q, i, p, j, h => by cases h
 | f + 1, q, i, p, j, h => by
  rw [aggsQ] at h
  obtain ⟨⟨a, k⟩, h1, h4⟩ := bind_ok h
  have hg := agg_gain h1 hX
  have hk : k ≤ T.length := by
   obtain ⟨-, h⟩ := agg_is h1
   rcases h with ⟨-, s, h3, -⟩ | ⟨-, x, k', s, -, h3, -⟩
   ·obtain ⟨-, a2, e⟩ := as_is h3; have := nameT_lt a2; omega
   ·obtain ⟨-, a2, e⟩ := as_is h3; have := nameT_lt a2; omega
  simp only at h4
  split at h4
  ·have := aggs_count hX f _ _ p j h4
   simp only [List.length_append, List.length_cons, List.length_nil] at this
   exact ⟨by omega, this.2⟩
  ·injection h4 with h4
   injection h4 with h4 h5
   subst h4 h5
   simp only [List.length_append, List.length_cons, List.length_nil]
   exact ⟨by omega, hk, trivial⟩
theorem readQ_count (hX : Oracle T E X) (hT : NumOk T) {p : QP} {j : Nat} (h : readQ' T E X = .ok (p, j)) : p.cols.length ≤ T.length ∧ p.aggs.length ≤ T.length := by
 unfold readQ' at h
 obtain ⟨k, h1, h2⟩ := bindN_ok h
 obtain ⟨hs, rfl⟩ := need_is h1
 obtain ⟨⟨p1, m⟩, h3, h4⟩ := bind_ok h2
 obtain ⟨⟨p2, m2⟩, h5, h6⟩ := bind_ok h4
 have hp1 : QOk p1 ∧ p1.cols.length ≤ T.length ∧ p1.aggs.length ≤ T.length := by
  unfold itemsQ at h3
  split at h3
  ·obtain ⟨c1, c2, c3⟩ := aggs_count hX _ _ _ _ _ h3
   refine ⟨(aggs_right hX hT _ _ _ zeroQ_ok _ _ h3).1, ?_, ?_⟩
   ·rw [c3]; exact Nat.zero_le _
   ·have e : zeroQ.aggs.length = 0 := rfl
    omega
  ·obtain ⟨c1, c2, c3⟩ := cols_count hX _ _ _ (by have := isT_lt hs; omega) _ _ h3
   refine ⟨(cols_right hX hT _ _ _ zeroQ_ok (by have := isT_lt hs; omega) _ _ h3).1, ?_, ?_⟩
   ·have e : zeroQ.cols.length = 0 := rfl
    omega
   ·rw [c3]; exact Nat.zero_le _
 obtain ⟨g1, g2, g3⟩ := from_right hX hT hp1.1 h5
 simp only at h6
 split at h6
 ·obtain ⟨-, g5, g6⟩ := group_right g1 h6
  rw [g5, g6, g2, g3]
  exact hp1.2
 ·injection h6 with h6
  injection h6 with h6 _
  subst h6
  rw [g2, g3]
  exact hp1.2
end
theorem qread_ways {s : ByteArray} {R : Except (Int × Int) QP} (hR : QryIs s.data.toList R) {r : QR QP} (hrun : ∀ T, lexS s.data.toList = .ok T → (∃ X, Oracle T s.size X ∧ readQ' T s.size X = r) ∧ ((∃ k : Nat, r = .error k ∧ R = .error (2, (k : Int))) ∨ ∃ x j, r = .ok (x, j) ∧ ((j < T.length ∧ R = .error (2, (atT T s.size j : Int))) ∨ (T.length ≤ j ∧ ((fullQ x = true ∧ R = .error (4, 0)) ∨ (fullQ x = false ∧ R = .ok x)))))) {eb : Nat} {w2 w3 : World} {e : Ending}
  (hc : (∃ h p, lexS s.data.toList = .bad h p ∧ e = .returned (faultV h p)) ∨ ∃ T, lexS s.data.toList = .ok T ∧ ((∃ k : Nat, r = .error k ∧ e = .returned (faultV 2 k)) ∨ ∃ j, QPP s r eb w2 T j w3 ∧ j ≤ T.length ∧ ((j < T.length ∧ e = .returned (faultV 2 (atT T s.size j))) ∨ (T.length ≤ j ∧ e = .returned (faultV 0 0))))) :
  (∃ h p, R = .error (h, p) ∧ (h == 0) = false ∧ e = .returned (faultV h p)) ∨ ∃ x y, (fullQ x = true ∧ R = .error (4, 0) ∨ fullQ x = false ∧ R = .ok x) ∧ e = .returned (faultV 0 0) ∧ qpX y = x ∧ QOk x ∧ (x.cols.length ≤ 1000000 ∧ x.aggs.length ≤ 1000000) ∧ RowL w3 eb 30 (qxL y) ∧ SeesQ (fun b => w2.heap.size < b) w3 y := by
 rcases hc with ⟨h, p, hl, he⟩ | ⟨T, hl, hc⟩
 ·rcases hR with ⟨h', p', hl', hR⟩ | ⟨T, _, hl', _⟩
  ·rw [hl] at hl'
   injection hl' with h1 h2
   subst h1 h2
   exact Or.inl ⟨h, p, hR, beq_eq_false_iff_ne.2 (lexS_bad hl).1, he⟩
  ·rw [hl] at hl'; cases hl'
 ·obtain ⟨⟨X, hX, hXr⟩, hw⟩ := hrun T hl
  rcases hc with ⟨k, hk, he⟩ | ⟨j, ⟨-, x, y, hxr, hxy, ho, hs⟩, hjl, hj⟩
  ·subst hk
   rcases hw with ⟨k', h1, h2⟩ | ⟨x, j, h1, -⟩
   ·injection h1 with h1
    subst h1
    exact Or.inl ⟨2, _, h2, rfl, he⟩
   ·cases h1
  ·subst hxr
   have hok := readQ_right hX (numOk_of hl) hXr
   have hcn := readQ_count hX (numOk_of hl) hXr
   have hlen := words_of hl
   rcases hw with ⟨k', h1, -⟩ | ⟨x', j', h1, h2⟩
   ·cases h1
   ·injection h1 with h1
    injection h1 with h1 h3
    subst h1 h3
    rcases hj with ⟨hj, he⟩ | ⟨hj, he⟩
    ·rcases h2 with ⟨-, h2⟩ | ⟨h4, -⟩
     ·exact Or.inl ⟨2, _, h2, rfl, he⟩
     ·omega
    ·rcases h2 with ⟨h4, -⟩ | ⟨-, h2⟩
     ·omega
     ·exact Or.inr ⟨x, y, h2, he, hxy, hok, ⟨by have := hcn.1; have := hlen.len; omega, by have := hcn.2; have := hlen.len; omega⟩, ho, hs⟩
theorem toks_offQ {w : World} {A : Option Addr} {n c b : Nat} {T : List Tok} (h : SeesToks w A n c T) (hb : RowL w b 30 (qxL zeroQX)) (h0 : 0 < n) (ad : Addr) (he : A = some ad) : ad.block ≠ b := by
 intro eb
 obtain ⟨g, o, v, e2, hg, hv, d0, d1, d2⟩ := h.at_ (k := 0) h0
 rw [he] at e2
 injection e2 with e2
 subst e2
 have eb : g = b := eb
 subst eb
 have hh : w.heap[g]? = some (.cells (qxL zeroQX).toArray 30 (0, 0)) := hb
 rw [cell_of_row _ _ _ _ _ _ hh] at d0 d1 d2
 rw [Nat.zero_mul, Nat.add_zero] at d0 d1 d2
 have hl : o < 14 := by
  have := (Array.getElem?_eq_some_iff.1 d0).1
  exact this
 have : o = 0 ∨ o = 1 ∨ o = 2 ∨ o = 3 ∨ o = 4 ∨ o = 5 ∨ o = 6 ∨ o = 7 ∨ o = 8 ∨ o = 9 ∨ o = 10 ∨ o = 11 ∨ o = 12 ∨ o = 13 := by omega
 rcases this with rfl | rfl | rfl | rfl | rfl | rfl | rfl | rfl | rfl | rfl | rfl | rfl | rfl | rfl <;> simp [qxL, qL] at d0 d1 d2
set_option maxHeartbeats 8000000 in
set_option maxRecDepth 100000 in
theorem qParse_any (s : ByteArray) (hs : s.size ≤ maxLen) {R : Except (Int × Int) QP} (hR : QryIs s.data.toList R) (w : World) (hlev : LevelsT w) (hwords : WordsT w) (htext : TextT w) (hnum : NumT w) (hsigns : SignsT w) (haggs : AggsT w) : Calls Tryz.prog 8 #[.string s] w (QPSays R w) := by
 have hmf : ∀ (fn : Fn) (first cap : Array Value) (w : World), (Instr.makeFunc fn first cap).run Tryz.prog w = .ok (.func fn first cap) w := fun _ _ _ _ => rfl
 obtain ⟨w0, hw0, ho0, hb0⟩ := box_zq w
 obtain ⟨w1, hw1⟩ : ∃ w1, w0.alloc (.cells #[.int .i64 0, .int .i64 0] 34) = w1 := ⟨_, rfl⟩
 have hb1 : Below w0.heap.size w0 w1 := by rw [← hw1]; exact belowNew' _ _
 have ho1 : Own2F w1 w0.heap.size 0 0 := by rw [← hw1]; exact own2f_new w0 0 0
 obtain ⟨w2, hw2, ho2, hb2⟩ := box_zq w1
 have HB2 := Lib.hid (below_step (below_step hb0 hb1) hb2)
 have HSZ := Lib.hid (show w.heap.size < w0.heap.size ∧ w0.heap.size < w1.heap.size ∧ w1.heap.size < w2.heap.size from ⟨ho0.lt, ho1.lt, ho2.lt⟩)
 have hrun : ∃ (r : QR QP), ∀ T, lexS s.data.toList = .ok T → (∃ X, Oracle T s.size X ∧ readQ' T s.size X = r) ∧ ((∃ k : Nat, r = .error k ∧ R = .error (2, (k : Int))) ∨ ∃ x j, r = .ok (x, j) ∧ ((j < T.length ∧ R = .error (2, (atT T s.size j : Int))) ∨ (T.length ≤ j ∧ ((fullQ x = true ∧ R = .error (4, 0)) ∨ (fullQ x = false ∧ R = .ok x))))) := by
  rcases hR with ⟨h, p, hl, -⟩ | ⟨T, X, hl, hX, hw⟩
  ·exact ⟨.error 0, fun T hT => by rw [hl] at hT; cases hT⟩
  ·exact ⟨readQ' T s.size X, fun T' hT => by rw [hl] at hT; injection hT with hT; subst hT; exact ⟨⟨X, hX, rfl⟩, hw⟩⟩
 obtain ⟨r, hrun⟩ := hrun
 have T1 := Lib.hid (read_any s hs 40 (fun _ _ => by simp [go_sem]) w1.heap.size (QPP s r w1.heap.size w2) (fun T k => r = .error k) w w2 hlev hwords htext hnum hsigns HB2.out HSZ.out.2.2
  (fun T j u v hp ho => by
   obtain ⟨h1, x, y, h2, h3, h4, h5⟩ := hp
   exact ⟨h1, x, y, h2, h3, h4.only ho (fun e => by have := HSZ.out; have e' : w1.heap.size = w2.heap.size := e; omega), h5.keep (alike_only2 ho (fun b hb e => by have hb' : w2.heap.size < b := hb; have e' : b = w2.heap.size := e; omega))⟩)
  (fun T hT w' rb A c hrb hRd hE ho => by
   obtain ⟨⟨X, hX, hXr⟩, -⟩ := hrun T hT
   have hq' : RowL w' w1.heap.size 30 (qxL zeroQX) := ho2.only ho (fun e => e)
   have hL : Lies T A rb w1.heap.size w' := ⟨by have := HSZ.out; omega, fun h0 ad e => toks_offQ hRd.toks hq' h0 ad e, hRd.old, hRd.lt, hq'.lt⟩
   refine (qparse1_any (words_of hT) hX w w' rb w1.heap.size A c hRd hE haggs (by have := HSZ.out; omega) hL hq').mono (fun e w'' h => ?_)
   replace h : QSays2 T s.size rb w1.heap.size A c w' (ReadV w' w1.heap.size) r e w'' := hXr ▸ h
   have hlt := hRd.lt
   cases r with
   | error k =>
    obtain ⟨h1, h2⟩ := h
    exact Or.inr ⟨k, rfl, h1, h2⟩
   | ok pp =>
    obtain ⟨p, j⟩ := pp
    obtain ⟨v, h1, ⟨rfl, y, h3, h4, h5⟩, h6, h7⟩ := h
    exact Or.inl ⟨j, h1, h6, h7, hT, p, y, rfl, h5, h3, h4.mono (fun b hb => by have hb : w'.heap.size ≤ b := hb; omega)⟩))
 have HO0X := Lib.hid ((ho0.keep hb1).keep hb2)
 have HO1X := Lib.hid (ho1.keep hb2)
 have HLV := Lib.hid hlev
 have HWD := Lib.hid hwords
 have HW0 := Lib.hid hw0
 have HW1 := Lib.hid hw1
 have HW2 := Lib.hid hw2
 clear hw0 ho0 hb0 hw1 hb1 ho1 hw2 ho2 hb2 hlev hwords htext hnum hsigns hs haggs
 go_enter Tryz.func8, Tryz.ntmps8
 go_wp2_with (first | rw [HW0.out] | rw [HW1.out] | rw [HW2.out])
 refine (T1.out).mono ?_
 rintro e w3 ⟨hn3, hcase⟩
 have HN3 := Lib.hid hn3
 have HO1 := Lib.hid (HO1X.out.only hn3 (fun e => by have := HSZ.out; have e' : w0.heap.size = w1.heap.size := e; omega))
 have HZ0 := Lib.hid (HO0X.out.only hn3 (fun e => by have := HSZ.out; have e' : w.heap.size = w1.heap.size := e; omega))
 clear hn3 T1
 have HCASE := Lib.hid (qread_ways hR hrun hcase)
 clear hcase
 have HNX := Lib.hid (((Only.of_below (S := fun _ => False) HB2.out).then_new HN3.out (Nat.le_of_lt (Nat.lt_trans HSZ.out.1 HSZ.out.2.1))))
 rcases HCASE.out with ⟨h, p, hRR, hh, rfl⟩ | ⟨x, y, hRR, rfl, hqp, hok, hcnt, hoy, hsy⟩
 ·unfold faultV
  obtain ⟨w4, hw4⟩ : ∃ w4, w3.alloc (.cells #[.int .i64 h, .int .i64 p] 34) = w4 := ⟨_, rfl⟩
  have hb4 : Below w3.heap.size w3 w4 := by rw [← hw4]; exact belowNew' _ _
  have ho4 : Own2F w4 w3.heap.size h p := by rw [← hw4]; exact own2f_new w3 _ _
  obtain ⟨c0, c1⟩ := ho4.cells
  have hl4 := ho4.lt
  have hh2 : (h != 0) = true := by simpa using hh
  have HNQ := Lib.hid (HNX.out.trans (.of_below hb4))
  have HZQ := Lib.hid (HZ0.out.keep hb4)
  have HO1Q := Lib.hid (HO1.out.keep hb4)
  have HSQ := Lib.hid ho4
  have HSK := Lib.hid (show ∀ wf, Only (fun b => b = w.heap.size) w4 wf → Own2F wf w3.heap.size h p from fun wf hf => ho4.only hf (fun e => by have := HSZ.out; have := HN3.out.size; omega))
  have HSK2 := Lib.hid (show ∀ wf wg, Own2F wf w3.heap.size h p → Only (fun b => b = w0.heap.size) wf wg → Own2F wg w3.heap.size h p from fun wf wg h1 hf => h1.only hf (fun e => by have := HSZ.out; have := HN3.out.size; omega))
  have HW4 := Lib.hid hw4
  clear hw4 hb4 ho4
  go_wp2_with (first | rw [HW4.out])
  clear c0 c1 hl4
  refine wp_region_held (S := fun w' => Own2F w' w3.heap.size h p) (by kernel_rfl) ?_
  change wpAnyH _ _ _ _ _ _ _ _ (World.drew w4)
  have HS : (fun w' => Own2F w' w3.heap.size h p) (World.drew w4) := HSQ.out
  refine takeH (i := 0) (d := some 21) (v := .agg #[.string ⟨#[]⟩, .string ⟨#[]⟩, .string ⟨#[]⟩, .int .i64 0, .int .i64 0, .string ⟨#[]⟩, .slice none 0 0, .int .i64 0, .slice none 0 0, .slice none 0 0, .slice none 0 0, .int .i64 0, .int .i64 0, .slice none 0 0]) rfl rfl (by kernel_rfl) (by kernel_rfl) (by kernel_rfl) (fun _ _ _ h => h) (Or.inl ⟨by rfl, fun w' hS => by have bz := run_zeroQ w'; go_simp⟩) HS ?_
  simp only [Act.put, List.setIfInBounds_toArray, List.set_cons_zero, List.set_cons_succ]
  refine takeH (i := 1) (d := some 22) (v := .agg #[.int .i64 h, .int .i64 p]) rfl rfl (by kernel_rfl) (by kernel_rfl) (by kernel_rfl) (fun _ _ _ h => h) (Or.inl ⟨by rfl, fun w' hS => by obtain ⟨c0, c1⟩ := Own2F.cells hS; go_simp⟩) HS ?_
  simp only [Act.put, List.setIfInBounds_toArray, List.set_cons_zero, List.set_cons_succ]
  refine wpAnyH_all (rs := [2]) (by kernel_rfl) (by simp) (fun jj hj => ?_)
  obtain rfl : jj = 2 := by simpa using hj
  refine wpOp_storeL rfl rfl _ _ _ rfl rfl (b := w.heap.size) (n := qxL zeroQX) (show RowL (World.drew w4) w.heap.size 30 (qxL zeroQX) from HZQ.out) rfl rfl (by kernel_rfl) rfl rfl ?_
  intro wf hzf hof
  have hsf := HSK.out wf hof.drewL
  refine ⟨hsf, ?_⟩
  refine wpAnyH_all (rs := [3]) (by kernel_rfl) (by simp) (fun jj hj => ?_)
  obtain rfl : jj = 3 := by simpa using hj
  refine wpOp_store2 rfl rfl _ _ rfl rfl (h := h) (p := p) (HO1Q.out.only hof.drewL (fun e => by have := HSZ.out; have e' : w0.heap.size = w.heap.size := e; omega)) rfl rfl ?_
  intro wg hzg hog
  have hsg := HSK2.out wf wg hsf hog
  refine ⟨hsg, ?_⟩
  refine wpAnyH_done (by kernel_rfl) ?_ _
  have HFIN := Lib.hid ((HNQ.out.then_new hof.drewL (Nat.le_refl _)).then_new hog (Nat.le_of_lt HSZ.out.1))
  have HZF := Lib.hid (hzf.only hog (fun e => by have := HSZ.out; have e' : w.heap.size = w0.heap.size := e; omega))
  have HGF := Lib.hid hzg
  clear hzf hof hsf hzg hog hsg HS
  go_wp2_with fail
  have o0 : wg.cell? ⟨w.heap.size, 0, none⟩ = some (.string ⟨#[]⟩) := HZF.out.cell rfl
  have o1 : wg.cell? ⟨w.heap.size, 1, none⟩ = some (.string ⟨#[]⟩) := HZF.out.cell rfl
  have o2 : wg.cell? ⟨w.heap.size, 2, none⟩ = some (.string ⟨#[]⟩) := HZF.out.cell rfl
  have o3 : wg.cell? ⟨w.heap.size, 3, none⟩ = some (.int .i64 0) := HZF.out.cell rfl
  have o4 : wg.cell? ⟨w.heap.size, 4, none⟩ = some (.int .i64 0) := HZF.out.cell rfl
  have o5 : wg.cell? ⟨w.heap.size, 5, none⟩ = some (.string ⟨#[]⟩) := HZF.out.cell rfl
  have o6 : wg.cell? ⟨w.heap.size, 6, none⟩ = some (.slice none 0 0) := HZF.out.cell rfl
  have o7 : wg.cell? ⟨w.heap.size, 7, none⟩ = some (.int .i64 0) := HZF.out.cell rfl
  have o8 : wg.cell? ⟨w.heap.size, 8, none⟩ = some (.slice none 0 0) := HZF.out.cell rfl
  have o9 : wg.cell? ⟨w.heap.size, 9, none⟩ = some (.slice none 0 0) := HZF.out.cell rfl
  have o10 : wg.cell? ⟨w.heap.size, 10, none⟩ = some (.slice none 0 0) := HZF.out.cell rfl
  have o11 : wg.cell? ⟨w.heap.size, 11, none⟩ = some (.int .i64 0) := HZF.out.cell rfl
  have o12 : wg.cell? ⟨w.heap.size, 12, none⟩ = some (.int .i64 0) := HZF.out.cell rfl
  have o13 : wg.cell? ⟨w.heap.size, 13, none⟩ = some (.slice none 0 0) := HZF.out.cell rfl
  obtain ⟨p0, p1⟩ := HGF.out.cells
  refine bodyPost_ret (v := .tuple #[qxV zeroQX, faultV h p]) ?_ rfl ?_
  ·simp [results, Tryz.results8, go_sem, o0, o1, o2, o3, o4, o5, o6, o7, o8, o9, o10, o11, o12, o13, p0, p1, qxV, faultV, zeroQX, zeroE, noVal, Ex.op, Ex.name, Ex.val, Ex.A, Ex.args, Ex.c, Ex.pos]
  ·rw [hRR]; exact ⟨HFIN.out.below (Nat.le_refl _) (fun k e => e.elim), rfl⟩
 ·have HQP := Lib.hid hqp
  have HOK := Lib.hid hok
  have HCNT := Lib.hid hcnt
  have HOY := Lib.hid hoy
  have HSY := Lib.hid hsy
  have HRR := Lib.hid hRR
  clear hqp hok hcnt hoy hsy hRR
  obtain ⟨z, hz⟩ : ∃ z : Int, (0 : Int) = z := ⟨_, rfl⟩
  rw [show faultV 0 0 = .agg #[.int .i64 z, .int .i64 z] by rw [← hz]; rfl]
  obtain ⟨w4, hw4⟩ : ∃ w4, w3.alloc (.cells #[.int .i64 z, .int .i64 z] 34) = w4 := ⟨_, rfl⟩
  have hb4 : Below w3.heap.size w3 w4 := by rw [← hw4]; exact belowNew' _ _
  have ho4 : Own2F w4 w3.heap.size z z := by rw [← hw4]; exact own2f_new w3 _ _
  obtain ⟨c0, c1⟩ := ho4.cells
  have hl4 := ho4.lt
  have hh2 : (z == 0) = true := by rw [← hz]; rfl
  have HZE := Lib.hid hz
  clear hz
  have hoy4 := HOY.out.keep hb4
  have y0 : w4.cell? ⟨w1.heap.size, 0, none⟩ = some (.string y.from_) := hoy4.cell rfl
  have y1 : w4.cell? ⟨w1.heap.size, 1, none⟩ = some (.string y.wher.op) := hoy4.cell rfl
  have y2 : w4.cell? ⟨w1.heap.size, 2, none⟩ = some (.string y.wher.name) := hoy4.cell rfl
  have y3 : w4.cell? ⟨w1.heap.size, 3, none⟩ = some (.int .i64 y.wher.val.type) := hoy4.cell rfl
  have y4 : w4.cell? ⟨w1.heap.size, 4, none⟩ = some (.int .i64 y.wher.val.n) := hoy4.cell rfl
  have y5 : w4.cell? ⟨w1.heap.size, 5, none⟩ = some (.string y.wher.val.s) := hoy4.cell rfl
  have y6 : w4.cell? ⟨w1.heap.size, 6, none⟩ = some (.slice y.wher.A y.wher.args.length y.wher.c) := hoy4.cell rfl
  have y7 : w4.cell? ⟨w1.heap.size, 7, none⟩ = some (.int .i64 y.wher.pos) := hoy4.cell rfl
  have y8 : w4.cell? ⟨w1.heap.size, 8, none⟩ = some (.slice y.CA y.cols.length y.cc) := hoy4.cell rfl
  have y9 : w4.cell? ⟨w1.heap.size, 9, none⟩ = some (.slice y.NA y.names.length y.nc) := hoy4.cell rfl
  have y10 : w4.cell? ⟨w1.heap.size, 10, none⟩ = some (.slice y.GA y.group.length y.gc) := hoy4.cell rfl
  have y11 : w4.cell? ⟨w1.heap.size, 11, none⟩ = some (.int .i64 y.size) := hoy4.cell rfl
  have y12 : w4.cell? ⟨w1.heap.size, 12, none⟩ = some (.int .i64 y.slide) := hoy4.cell rfl
  have y13 : w4.cell? ⟨w1.heap.size, 13, none⟩ = some (.slice y.AA y.aggs.length y.ac) := hoy4.cell rfl
  have hly4 := hoy4.lt
  have T5 := Lib.hid (exprs_any y w4 ((HSY.out.keep (.of_below hb4)).mono (fun _ _ => trivial)) (by
   have h1 := congrArg (fun q : QP => q.cols.length) HQP.out
   have h2 := congrArg (fun q : QP => q.aggs.length) HQP.out
   have h3 : (qpX y).cols.length = y.cols.length := by show (strips y.cols).length = _; rw [strips_map, List.length_map]
   have h4 : (qpX y).aggs.length = y.aggs.length := List.length_map ..
   have := HCNT.out
   exact ⟨by omega, by omega⟩))
  unfold qxV at T5
  have HF4 := Lib.hid ho4
  have HNQ4 := Lib.hid (HNX.out.trans (.of_below hb4))
  have HZQ4 := Lib.hid (HZ0.out.keep hb4)
  have HO1Q4 := Lib.hid (HO1.out.keep hb4)
  have HSY4 := Lib.hid (HSY.out.keep (.of_below hb4))
  have HOY4 := Lib.hid hoy4
  have HW4 := Lib.hid hw4
  have HL3 := Lib.hid HN3.out.size
  clear hw4 hb4 ho4 hoy4
  have HFY := Lib.hid (exprs_full HQP.out HOK.out)
  go_wp2_with (first | rw [HW4.out])
  refine (T5.out).mono ?_
  rintro e' w5 ⟨v, rfl, hown, hb5⟩
  obtain ⟨XA, xc, rfl, hsee⟩ := SeesIn.of_own (S := fun _ => True) hown (fun _ _ _ => trivial)
  have HN5 := Lib.hid (HNQ4.out.trans (.of_below hb5))
  have HB5 := Lib.hid (HN5.out.below (Nat.le_refl _) (fun k e => e.elim))
  have HSY5 := Lib.hid (HSY4.out.keep (.of_below hb5))
  have T6 := Lib.hid (any_full XA (exprsX y).length xc (exprsX y) w5 (HLV.out.keep HB5.out) (HWD.out.keep HB5.out) hsee.1 (exprs_see HSY5.out))
  rw [HFY.out] at T6
  have HZ5 := Lib.hid (HZQ4.out.keep hb5)
  have HO5 := Lib.hid (HO1Q4.out.keep hb5)
  have HF5 := Lib.hid (HF4.out.keep hb5)
  have HOY5 := Lib.hid (HOY4.out.keep hb5)
  clear T5 hown hsee hb5
  rcases HRR.out with ⟨hf, hRR⟩ | ⟨hf, hRR⟩
  ·rw [hf] at T6
   clear hf
   go_wp2_with fail
   refine (T6.out).mono ?_
   rintro e' w6 ⟨rfl, hb6⟩
   obtain rfl := HZE.out
   have ho6 := HF5.out.keep hb6
   obtain ⟨c0, c1⟩ := ho6.cells
   obtain ⟨f0, f1⟩ := ho6.frees
   have hl6 := ho6.lt
   obtain ⟨w7, hw7⟩ : ∃ w7, w6.setCell ⟨w3.heap.size, 0, none⟩ (.int .i64 4) = w7 := ⟨_, rfl⟩
   have ho7 : Own2F w7 w3.heap.size 4 0 := by
    rw [← hw7]
    unfold Own2F
    rw [heap_setCell_same _ _ _ _ _ _ ho6]
    rfl
   have hn7 : Only (fun k => k = w3.heap.size) w6 w7 := by rw [← hw7]; exact (Only.refl (fun k => k = w3.heap.size) w6).setCell (p := ⟨w3.heap.size, 0, none⟩) rfl _
   obtain ⟨d0, d1⟩ := ho7.cells
   have hl7 := ho7.lt
   have HNQ := Lib.hid ((HN5.out.trans (.of_below hb6)).then_new hn7 (by have := HSZ.out; have := HL3.out; omega))
   have HZQ := Lib.hid ((HZ5.out.keep hb6).only hn7 (fun e => by have := HSZ.out; have := HL3.out; omega))
   have HO1Q := Lib.hid ((HO5.out.keep hb6).only hn7 (fun e => by have := HSZ.out; have := HL3.out; omega))
   have HSQ := Lib.hid ho7
   have HSK := Lib.hid (show ∀ wf, Only (fun b => b = w.heap.size) w7 wf → Own2F wf w3.heap.size 4 0 from fun wf hf => ho7.only hf (fun e => by have := HSZ.out; have := HL3.out; omega))
   have HSK2 := Lib.hid (show ∀ wf wg, Own2F wf w3.heap.size 4 0 → Only (fun b => b = w0.heap.size) wf wg → Own2F wg w3.heap.size 4 0 from fun wf wg h1 hf => h1.only hf (fun e => by have := HSZ.out; have := HL3.out; omega))
   have HW7 := Lib.hid hw7
   have hh3 : ((4 : Int) != 0) = true := rfl
   clear hw7 hb6 ho6 ho7 hn7 T6
   go_wp2_with (first | rw [HW7.out])
   clear c0 c1 f0 f1 hl6 d0 d1 hl7 y0 y1 y2 y3 y4 y5 y6 y7 y8 y9 y10 y11 y12 y13 hly4 hl4
   refine wp_region_held (S := fun w' => Own2F w' w3.heap.size 4 0) (by kernel_rfl) ?_
   change wpAnyH _ _ _ _ _ _ _ _ (World.drew w7)
   have HS : (fun w' => Own2F w' w3.heap.size 4 0) (World.drew w7) := HSQ.out
   refine takeH (i := 0) (d := some 21) (v := .agg #[.string ⟨#[]⟩, .string ⟨#[]⟩, .string ⟨#[]⟩, .int .i64 0, .int .i64 0, .string ⟨#[]⟩, .slice none 0 0, .int .i64 0, .slice none 0 0, .slice none 0 0, .slice none 0 0, .int .i64 0, .int .i64 0, .slice none 0 0]) rfl rfl (by kernel_rfl) (by kernel_rfl) (by kernel_rfl) (fun _ _ _ h => h) (Or.inl ⟨by rfl, fun w' hS => by have bz := run_zeroQ w'; go_simp⟩) HS ?_
   simp only [Act.put, List.setIfInBounds_toArray, List.set_cons_zero, List.set_cons_succ]
   refine takeH (i := 1) (d := some 22) (v := .agg #[.int .i64 4, .int .i64 0]) rfl rfl (by kernel_rfl) (by kernel_rfl) (by kernel_rfl) (fun _ _ _ h => h) (Or.inl ⟨by rfl, fun w' hS => by obtain ⟨c0, c1⟩ := Own2F.cells hS; go_simp⟩) HS ?_
   simp only [Act.put, List.setIfInBounds_toArray, List.set_cons_zero, List.set_cons_succ]
   refine wpAnyH_all (rs := [2]) (by kernel_rfl) (by simp) (fun jj hj => ?_)
   obtain rfl : jj = 2 := by simpa using hj
   refine wpOp_storeL rfl rfl _ _ _ rfl rfl (b := w.heap.size) (n := qxL zeroQX) (show RowL (World.drew w7) w.heap.size 30 (qxL zeroQX) from HZQ.out) rfl rfl (by kernel_rfl) rfl rfl ?_
   intro wf hzf hof
   have hsf := HSK.out wf hof.drewL
   refine ⟨hsf, ?_⟩
   refine wpAnyH_all (rs := [3]) (by kernel_rfl) (by simp) (fun jj hj => ?_)
   obtain rfl : jj = 3 := by simpa using hj
   refine wpOp_store2 rfl rfl _ _ rfl rfl (h := 4) (p := 0) (HO1Q.out.only hof.drewL (fun e => by have := HSZ.out; have e' : w0.heap.size = w.heap.size := e; omega)) rfl rfl ?_
   intro wg hzg hog
   have hsg := HSK2.out wf wg hsf hog
   refine ⟨hsg, ?_⟩
   refine wpAnyH_done (by kernel_rfl) ?_ _
   have HFIN := Lib.hid ((HNQ.out.then_new hof.drewL (Nat.le_refl _)).then_new hog (Nat.le_of_lt HSZ.out.1))
   have HZF := Lib.hid (hzf.only hog (fun e => by have := HSZ.out; have e' : w.heap.size = w0.heap.size := e; omega))
   have HGF := Lib.hid hzg
   clear hzf hof hsf hzg hog hsg HS
   go_wp2_with fail
   have o0 : wg.cell? ⟨w.heap.size, 0, none⟩ = some (.string ⟨#[]⟩) := HZF.out.cell rfl
   have o1 : wg.cell? ⟨w.heap.size, 1, none⟩ = some (.string ⟨#[]⟩) := HZF.out.cell rfl
   have o2 : wg.cell? ⟨w.heap.size, 2, none⟩ = some (.string ⟨#[]⟩) := HZF.out.cell rfl
   have o3 : wg.cell? ⟨w.heap.size, 3, none⟩ = some (.int .i64 0) := HZF.out.cell rfl
   have o4 : wg.cell? ⟨w.heap.size, 4, none⟩ = some (.int .i64 0) := HZF.out.cell rfl
   have o5 : wg.cell? ⟨w.heap.size, 5, none⟩ = some (.string ⟨#[]⟩) := HZF.out.cell rfl
   have o6 : wg.cell? ⟨w.heap.size, 6, none⟩ = some (.slice none 0 0) := HZF.out.cell rfl
   have o7 : wg.cell? ⟨w.heap.size, 7, none⟩ = some (.int .i64 0) := HZF.out.cell rfl
   have o8 : wg.cell? ⟨w.heap.size, 8, none⟩ = some (.slice none 0 0) := HZF.out.cell rfl
   have o9 : wg.cell? ⟨w.heap.size, 9, none⟩ = some (.slice none 0 0) := HZF.out.cell rfl
   have o10 : wg.cell? ⟨w.heap.size, 10, none⟩ = some (.slice none 0 0) := HZF.out.cell rfl
   have o11 : wg.cell? ⟨w.heap.size, 11, none⟩ = some (.int .i64 0) := HZF.out.cell rfl
   have o12 : wg.cell? ⟨w.heap.size, 12, none⟩ = some (.int .i64 0) := HZF.out.cell rfl
   have o13 : wg.cell? ⟨w.heap.size, 13, none⟩ = some (.slice none 0 0) := HZF.out.cell rfl
   obtain ⟨p0, p1⟩ := HGF.out.cells
   refine bodyPost_ret (v := .tuple #[qxV zeroQX, faultV 4 0]) ?_ rfl ?_
   ·simp [results, Tryz.results8, go_sem, o0, o1, o2, o3, o4, o5, o6, o7, o8, o9, o10, o11, o12, o13, p0, p1, qxV, faultV, zeroQX, zeroE, noVal, Ex.op, Ex.name, Ex.val, Ex.A, Ex.args, Ex.c, Ex.pos]
   ·rw [hRR]; exact ⟨HFIN.out.below (Nat.le_refl _) (fun k e => e.elim), rfl⟩
  ·rw [hf] at T6
   clear hf
   go_wp2_with fail
   refine (T6.out).mono ?_
   rintro e' w6 ⟨rfl, hb6⟩
   obtain rfl := HZE.out
   have ho6 := HF5.out.keep hb6
   obtain ⟨c0, c1⟩ := ho6.cells
   have hl6 := ho6.lt
   have HNQ := Lib.hid (HN5.out.trans (.of_below hb6))
   have HZQ := Lib.hid (HZ5.out.keep hb6)
   have HO1Q := Lib.hid (HO5.out.keep hb6)
   have HSQ := Lib.hid (show Own2F w6 w3.heap.size 0 0 ∧ RowL w6 w1.heap.size 30 (qxL y) from ⟨ho6, HOY5.out.keep hb6⟩)
   have HSY6 := Lib.hid (HSY5.out.keep (.of_below hb6))
   have HSK := Lib.hid (show ∀ wf, Only (fun b => b = w.heap.size) w6 wf → Own2F wf w3.heap.size 0 0 ∧ RowL wf w1.heap.size 30 (qxL y) from fun wf hf => ⟨HSQ.out.1.only hf (fun e => by have := HSZ.out; have := HL3.out; omega), HSQ.out.2.only hf (fun e => by have := HSZ.out; have := HL3.out; omega)⟩)
   have HSK2 := Lib.hid (show ∀ wf wg, Own2F wf w3.heap.size 0 0 ∧ RowL wf w1.heap.size 30 (qxL y) → Only (fun b => b = w0.heap.size) wf wg → Own2F wg w3.heap.size 0 0 ∧ RowL wg w1.heap.size 30 (qxL y) from fun wf wg h1 hf => ⟨h1.1.only hf (fun e => by have := HSZ.out; have := HL3.out; omega), h1.2.only hf (fun e => by have := HSZ.out; have := HL3.out; omega)⟩)
   have hh3 : ((0 : Int) != 0) = false := rfl
   clear hb6 ho6 T6
   go_wp2_with fail
   clear c0 c1 hl6 y0 y1 y2 y3 y4 y5 y6 y7 y8 y9 y10 y11 y12 y13 hly4 hl4
   refine wp_region_held (S := fun w' => Own2F w' w3.heap.size 0 0 ∧ RowL w' w1.heap.size 30 (qxL y)) (by kernel_rfl) ?_
   change wpAnyH _ _ _ _ _ _ _ _ (World.drew w6)
   have HS : (fun w' => Own2F w' w3.heap.size 0 0 ∧ RowL w' w1.heap.size 30 (qxL y)) (World.drew w6) := HSQ.out
   refine takeH (i := 0) (d := some 23) (v := .agg #[.string y.from_, .string y.wher.op, .string y.wher.name, .int .i64 y.wher.val.type, .int .i64 y.wher.val.n, .string y.wher.val.s, .slice y.wher.A y.wher.args.length y.wher.c, .int .i64 y.wher.pos, .slice y.CA y.cols.length y.cc, .slice y.NA y.names.length y.nc, .slice y.GA y.group.length y.gc, .int .i64 y.size, .int .i64 y.slide, .slice y.AA y.aggs.length y.ac]) rfl rfl (by kernel_rfl) (by kernel_rfl) (by kernel_rfl) (fun _ _ _ h => h) (Or.inl ⟨by rfl, fun w' hS => by have e0 : w'.cell? ⟨w1.heap.size, 0, none⟩ = some (.string y.from_) := hS.2.cell rfl; have e1 : w'.cell? ⟨w1.heap.size, 1, none⟩ = some (.string y.wher.op) := hS.2.cell rfl; have e2 : w'.cell? ⟨w1.heap.size, 2, none⟩ = some (.string y.wher.name) := hS.2.cell rfl; have e3 : w'.cell? ⟨w1.heap.size, 3, none⟩ = some (.int .i64 y.wher.val.type) := hS.2.cell rfl; have e4 : w'.cell? ⟨w1.heap.size, 4, none⟩ = some (.int .i64 y.wher.val.n) := hS.2.cell rfl; have e5 : w'.cell? ⟨w1.heap.size, 5, none⟩ = some (.string y.wher.val.s) := hS.2.cell rfl; have e6 : w'.cell? ⟨w1.heap.size, 6, none⟩ = some (.slice y.wher.A y.wher.args.length y.wher.c) := hS.2.cell rfl; have e7 : w'.cell? ⟨w1.heap.size, 7, none⟩ = some (.int .i64 y.wher.pos) := hS.2.cell rfl; have e8 : w'.cell? ⟨w1.heap.size, 8, none⟩ = some (.slice y.CA y.cols.length y.cc) := hS.2.cell rfl; have e9 : w'.cell? ⟨w1.heap.size, 9, none⟩ = some (.slice y.NA y.names.length y.nc) := hS.2.cell rfl; have e10 : w'.cell? ⟨w1.heap.size, 10, none⟩ = some (.slice y.GA y.group.length y.gc) := hS.2.cell rfl; have e11 : w'.cell? ⟨w1.heap.size, 11, none⟩ = some (.int .i64 y.size) := hS.2.cell rfl; have e12 : w'.cell? ⟨w1.heap.size, 12, none⟩ = some (.int .i64 y.slide) := hS.2.cell rfl; have e13 : w'.cell? ⟨w1.heap.size, 13, none⟩ = some (.slice y.AA y.aggs.length y.ac) := hS.2.cell rfl; go_simp⟩) HS ?_
   simp only [Act.put, List.setIfInBounds_toArray, List.set_cons_zero, List.set_cons_succ]
   refine takeH (i := 1) (d := some 24) (v := .agg #[.int .i64 0, .int .i64 0]) rfl rfl (by kernel_rfl) (by kernel_rfl) (by kernel_rfl) (fun _ _ _ h => h) (Or.inl ⟨by rfl, fun w' hS => by obtain ⟨c0, c1⟩ := Own2F.cells hS.1; go_simp⟩) HS ?_
   simp only [Act.put, List.setIfInBounds_toArray, List.set_cons_zero, List.set_cons_succ]
   refine wpAnyH_all (rs := [2]) (by kernel_rfl) (by simp) (fun jj hj => ?_)
   obtain rfl : jj = 2 := by simpa using hj
   refine wpOp_storeL rfl rfl _ _ _ rfl rfl (b := w.heap.size) (n := qxL y) (show RowL (World.drew w6) w.heap.size 30 (qxL zeroQX) from HZQ.out) rfl rfl (by kernel_rfl) rfl rfl ?_
   intro wf hzf hof
   have hsf := HSK.out wf hof.drewL
   refine ⟨hsf, ?_⟩
   refine wpAnyH_all (rs := [3]) (by kernel_rfl) (by simp) (fun jj hj => ?_)
   obtain rfl : jj = 3 := by simpa using hj
   refine wpOp_store2 rfl rfl _ _ rfl rfl (h := 0) (p := 0) (HO1Q.out.only hof.drewL (fun e => by have := HSZ.out; have e' : w0.heap.size = w.heap.size := e; omega)) rfl rfl ?_
   intro wg hzg hog
   have hsg := HSK2.out wf wg hsf hog
   refine ⟨hsg, ?_⟩
   refine wpAnyH_done (by kernel_rfl) ?_ _
   have HFIN := Lib.hid ((HNQ.out.then_new hof.drewL (Nat.le_refl _)).then_new hog (Nat.le_of_lt HSZ.out.1))
   have HZF := Lib.hid (hzf.only hog (fun e => by have := HSZ.out; have e' : w.heap.size = w0.heap.size := e; omega))
   have HGF := Lib.hid hzg
   have HSYF := Lib.hid (((HSY6.out.keep (alike_only2 hof.drewL (fun b hb e => by have := HSZ.out; have hb' : w2.heap.size < b := hb; have e' : b = w.heap.size := e; omega))).keep (alike_only2 hog (fun b hb e => by have := HSZ.out; have hb' : w2.heap.size < b := hb; have e' : b = w0.heap.size := e; omega))).mono (T := fun b => w.heap.size ≤ b) (fun b hb => by have := HSZ.out; have hb' : w2.heap.size < b := hb; omega))
   clear hzf hof hsf hzg hog hsg HS
   go_wp2_with fail
   have o0 : wg.cell? ⟨w.heap.size, 0, none⟩ = some (.string y.from_) := HZF.out.cell rfl
   have o1 : wg.cell? ⟨w.heap.size, 1, none⟩ = some (.string y.wher.op) := HZF.out.cell rfl
   have o2 : wg.cell? ⟨w.heap.size, 2, none⟩ = some (.string y.wher.name) := HZF.out.cell rfl
   have o3 : wg.cell? ⟨w.heap.size, 3, none⟩ = some (.int .i64 y.wher.val.type) := HZF.out.cell rfl
   have o4 : wg.cell? ⟨w.heap.size, 4, none⟩ = some (.int .i64 y.wher.val.n) := HZF.out.cell rfl
   have o5 : wg.cell? ⟨w.heap.size, 5, none⟩ = some (.string y.wher.val.s) := HZF.out.cell rfl
   have o6 : wg.cell? ⟨w.heap.size, 6, none⟩ = some (.slice y.wher.A y.wher.args.length y.wher.c) := HZF.out.cell rfl
   have o7 : wg.cell? ⟨w.heap.size, 7, none⟩ = some (.int .i64 y.wher.pos) := HZF.out.cell rfl
   have o8 : wg.cell? ⟨w.heap.size, 8, none⟩ = some (.slice y.CA y.cols.length y.cc) := HZF.out.cell rfl
   have o9 : wg.cell? ⟨w.heap.size, 9, none⟩ = some (.slice y.NA y.names.length y.nc) := HZF.out.cell rfl
   have o10 : wg.cell? ⟨w.heap.size, 10, none⟩ = some (.slice y.GA y.group.length y.gc) := HZF.out.cell rfl
   have o11 : wg.cell? ⟨w.heap.size, 11, none⟩ = some (.int .i64 y.size) := HZF.out.cell rfl
   have o12 : wg.cell? ⟨w.heap.size, 12, none⟩ = some (.int .i64 y.slide) := HZF.out.cell rfl
   have o13 : wg.cell? ⟨w.heap.size, 13, none⟩ = some (.slice y.AA y.aggs.length y.ac) := HZF.out.cell rfl
   obtain ⟨p0, p1⟩ := HGF.out.cells
   refine bodyPost_ret (v := .tuple #[qxV y, faultV 0 0]) ?_ rfl ?_
   ·simp [results, Tryz.results8, go_sem, o0, o1, o2, o3, o4, o5, o6, o7, o8, o9, o10, o11, o12, o13, p0, p1, qxV, faultV]
   ·rw [hRR]; exact ⟨HFIN.out.below (Nat.le_refl _) (fun k e => e.elim), y, rfl, HSYF.out, HQP.out⟩
end Go.Proofs.YtpbbkpfaphjdoaaGreatDoor
