/- Words of a text, plain: how many there may be, how long; what a law asks of them. tree.Reader's Expr over any words: it comes to what is read of them. The words of a text, plain: what is known of each of them. What tree.Read defers: a panic of a text that is wrong is caught. tree.Read, walked: the words of a text, read by what it is given; where that goes wrong it panics, which is caught. tree.Parse, walked: what a text comes to as an expression, or where it goes wrong. -/
import Derived.Test.YtpbbkpfaphjdoaaDoorLexBack0
import Derived.Test.YtpbbkpfaphjdoaaDoorRdPrim
import Derived.Test.YtpbbkpfaphjdoaaDoorRdr
import Derived.Defers
import Derived.Recover
namespace Go.Proofs.YtpbbkpfaphjdoaaDoor
theorem lexS_ok {s : List UInt8} {l : List Tok} (h : lexS s = .ok l) : s.length ≤ 400 ∧ Chain s 0 l := by
  unfold lexS at h
  split at h
  · cases h
  · rename_i h4
    exact ⟨by omega, (lex_says s s.length 0 (by omega) (by omega)).1 l (by rw [List.drop_zero]; exact h)⟩
theorem lexS_bad {s : List UInt8} {e : Int} {p : Nat} (h : lexS s = .bad e p) : e ≠ 0 ∧ p ≤ s.length := by
  unfold lexS at h
  split at h
  · injection h with h1 h2
    subst h1 h2
    exact ⟨by decide, Nat.zero_le _⟩
  · have := (lex_says s s.length 0 (by omega) (by omega)).2 e p (by rw [List.drop_zero]; exact h)
    exact ⟨this.2, this.1⟩
theorem Chain.count {s : List UInt8} : ∀ {l : List Tok} {a : Nat}, Chain s a l → a + l.length ≤ s.length
  | [], a, h => h.1
  | t :: l, a, h => by
    have := h.2.2.2.2.2.count
    have h1 := h.2.2.2.2.1.len
    have h2 := h.1
    rw [List.length_cons]; omega
theorem Chain.text {s : List UInt8} : ∀ {l : List Tok} {a : Nat}, Chain s a l → ∀ t ∈ l, t.text.length ≤ s.length
  | [], _, _, _, h => by cases h
  | x :: l, a, hc, t, h => by
    rcases List.mem_cons.1 h with rfl | h
    · have := hc.2.1; omega
    · exact hc.2.2.2.2.2.text t h
theorem glue_take {sep : List UInt8} {l : List Tok} {k : Nat} {t : Tok} (h : l[k]? = some t) : glue sep (l.take (k + 1)) = glue sep (l.take k) ++ (t.text ++ sep) := by
  unfold glue; rw [List.take_add_one, h, List.flatMap_append]; simp
theorem glue_len {sep : List UInt8} : ∀ {l : List Tok}, (∀ t ∈ l, t.text.length ≤ 400) → (glue sep l).length ≤ l.length * (400 + sep.length)
  | [], _ => by simp [glue]
  | t :: l, h => by
    have h1 := h t (by simp)
    have h2 := glue_len (sep := sep) (l := l) (fun x hx => h x (List.mem_cons_of_mem _ hx))
    unfold glue at h2 ⊢
    rw [List.flatMap_cons, List.length_append, List.length_append, List.length_cons, Nat.add_mul]
    omega
end Go.Proofs.YtpbbkpfaphjdoaaDoor
namespace Go.Proofs.YtpbbkpfaphjdoaaDoor
open Go.ChangeShapes Go.WideShapes Go.ChangeAt Go.RowKit

end Go.Proofs.YtpbbkpfaphjdoaaDoor
namespace Go.Proofs.YtpbbkpfaphjdoaaDoor

theorem tokP_val {c : UInt8} {r : List UInt8} {n : Nat} {k : Int} (h : tokP (c :: r) = (n, k, 0)) : (k = 2 ∨ k = 3 → (readP ((c :: r).take n)).2 = 0) ∧ (k = 4 → (c :: r).take n ∈ signL) := by
  by_cases hL : isL c = true
  · rw [tokP_L r hL] at h
    injection h with h1 h2
    injection h2 with h2 _
    subst h2
    exact ⟨fun e => by rcases e with e | e <;> exact absurd e (by decide), fun e => absurd e (by decide)⟩
  by_cases hD : isD c = true
  · rw [tokP_D r hD] at h
    split at h
    · injection h with _ h; injection h with _ h; exact absurd h (by decide)
    rename_i hx
    split at h
    · rename_i hy
      injection h with h1 h2
      injection h2 with h2 _
      subst h1 h2
      refine ⟨fun _ => ?_, fun e => absurd e (by decide)⟩
      rw [tw_take]
      have hx2 : (c :: r).takeWhile isD = c :: r.takeWhile isD := by rw [List.takeWhile_cons, if_pos hD]
      have hn := numP_digits (l := (c :: r).takeWhile isD) (by rw [hx2]; simp) (tw_all _ _) (fun e => hx (Or.inl ⟨e.2, by have := e.1; rw [hx2] at this; simpa using this⟩))
      rw [if_pos hy] at hn
      obtain ⟨e1, e2⟩ := (numP_iff _ _).1 hn
      generalize decN ((c :: r).takeWhile isD) = m at e1 e2
      rw [e1, ← itoa_pos, readP_itoa (by unfold fitsN; omega)]
    · injection h with _ h; injection h with _ h; exact absurd h (by decide)
  by_cases hQ : c = 39
  · subst hQ
    rw [tokP_Q] at h
    split at h
    · injection h with _ h; injection h with _ h; exact absurd h (by decide)
    · rename_i m hm
      split at h
      · rename_i hq
        injection h with h1 h2
        injection h2 with h2 _
        subst h1 h2
        refine ⟨fun _ => ?_, fun e => absurd e (by decide)⟩
        rw [List.take_succ_cons, readP_quote]
        exact hq
      · rename_i hq
        injection h with _ h
        injection h with _ h
        exact absurd h hq
  · rw [tokP_S r hL hD hQ] at h
    split at h
    · injection h with _ h; injection h with _ h; exact absurd h (by decide)
    · rename_i hs
      injection h with h1 h2
      injection h2 with h2 _
      subst h1 h2
      refine ⟨fun e => by rcases e with e | e <;> exact absurd e (by decide), fun _ => ?_⟩
      unfold sgnN at hs ⊢
      cases hf : signL.find? (·.isPrefixOf (c :: r)) with
      | none => rw [hf] at hs; exact (hs rfl).elim
      | some x =>
        have hm := List.mem_of_find?_eq_some hf
        have hp := List.find?_some hf
        obtain ⟨u, hu⟩ := List.isPrefixOf_iff_prefix.1 hp
        simp only
        rw [← hu, List.take_left]
        exact hm
theorem Chain.places {s : List UInt8} : ∀ {l : List Tok} {a : Nat}, Chain s a l → ∀ t ∈ l, t.at_ ≤ s.length
  | [], _, _, _, h => by cases h
  | x :: l, a, hc, t, h => by
    rcases List.mem_cons.1 h with rfl | h
    · have := hc.2.1; omega
    · exact hc.2.2.2.2.2.places t h
/-- What the words of a text are. -/
theorem words_of {s : List UInt8} {T : List Tok} (h : lexS s = .ok T) : Words T s.length := by
  obtain ⟨h4, hc⟩ := lexS_ok h
  have ok : ∀ t ∈ T, (t.kind = 2 ∨ t.kind = 3 → (readP t.text).2 = 0) ∧ (t.kind = 4 → t.text ∈ signL) := by
    intro t ht
    obtain ⟨c, r, n, h1, h2, -⟩ := hc.all t ht
    rw [h2]
    exact tokP_val h1
  exact ⟨by have := hc.count; omega, h4, hc.places, fun t ht => by have := hc.text t ht; omega, fun t ht => (ok t ht).1, fun t ht => (ok t ht).2⟩
end Go.Proofs.YtpbbkpfaphjdoaaDoor
namespace Go.Proofs.YtpbbkpfaphjdoaaDoor
open Go.ChangeShapes Go.WideShapes Go.ChangeAt Go.RowKit

def Own2F (w : World) (b : Nat) (x y : Int) : Prop := w.heap[b]? = some (.cells #[.int .i64 x, .int .i64 y] 47 (0, 0))
theorem Own2F.cells {w : World} {b : Nat} {x y : Int} (h : Own2F w b x y) : w.cell? ⟨b, 0, none⟩ = some (.int .i64 x) ∧ w.cell? ⟨b, 1, none⟩ = some (.int .i64 y) := ⟨by rw [cell_of_row _ _ _ _ _ _ h]; rfl, by rw [cell_of_row _ _ _ _ _ _ h]; rfl⟩
theorem Own2F.frees {w : World} {b : Nat} {x y : Int} (h : Own2F w b x y) : w.frozen? ⟨b, 0, none⟩ = false ∧ w.frozen? ⟨b, 1, none⟩ = false := ⟨frozen_of_row _ _ _ _ _ h, frozen_of_row _ _ _ _ _ h⟩
theorem Own2F.lt {w : World} {b : Nat} {x y : Int} (h : Own2F w b x y) : b < w.heap.size := (Array.getElem?_eq_some_iff.1 h).1
theorem Own2F.keep {w w' : World} {b : Nat} {x y : Int} (h : Own2F w b x y) (hb : Below w.heap.size w w') : Own2F w' b x y := (hb.block b h.lt).trans h
theorem Own2F.only {S : Nat → Prop} {w w' : World} {b : Nat} {x y : Int} (h : Own2F w b x y) (ho : Only S w w') (hs : ¬ S b) : Own2F w' b x y := (ho.block b h.lt hs).trans h
theorem own2f_new (w : World) (x y : Int) : Own2F (w.alloc (.cells #[.int .i64 x, .int .i64 y] 47)) w.heap.size x y := heap_alloc_new w _
theorem own2f_set {w : World} {b : Nat} {x y : Int} (h : Own2F w b x y) (x' y' : Int) : Own2F ((w.setCell ⟨b, 0, none⟩ (.int .i64 x')).setCell ⟨b, 1, none⟩ (.int .i64 y')) b x' y' := by
  unfold Own2F
  rw [heap_setCell_same _ _ _ _ _ _ (heap_setCell_same _ _ _ _ _ _ h)]
  rfl
theorem own2f_setOnly {w : World} {b : Nat} (x' y' : Int) : Only (fun k => k = b) w ((w.setCell ⟨b, 0, none⟩ (.int .i64 x')).setCell ⟨b, 1, none⟩ (.int .i64 y')) := ((Only.refl (fun k => k = b) w).setCell (p := ⟨b, 0, none⟩) rfl _).setCell (p := ⟨b, 1, none⟩) rfl _
end Go.Proofs.YtpbbkpfaphjdoaaDoor
namespace Go.Proofs.YtpbbkpfaphjdoaaDoor
open Go.ChangeShapes Go.WideShapes Go.ChangeAt Go.RowKit

/-- Blocks that were not there ahead may turn, and those that may. -/
theorem Only.then_or {S S2 : Nat → Prop} {a b d : World} (h : Only S a b) (h2 : Only S2 b d) (hn : ∀ k, S2 k → S k ∨ a.heap.size ≤ k) : Only S a d :=
  ⟨h2.os.trans h.os, h2.tape.trans h.tape, h2.output.trans h.output, Nat.le_trans h.size h2.size, fun k hk hs => (h2.block k (Nat.lt_of_lt_of_le hk h.size) (fun e => by rcases hn k e with h | h; exact hs h; omega)).trans (h.block k hk hs)⟩
/-- Words do not lie where a fault lies. -/
theorem toks_off {w : World} {A : Option Addr} {n c b : Nat} {T : List Tok} {x y : Int} (h : SeesToks w A n c T) (hb : Own2F w b x y) (h0 : 0 < n) (ad : Addr) (e : A = some ad) : ad.block ≠ b := by
  intro eb
  obtain ⟨g, o, v, e2, hg, hv, d0, d1, d2⟩ := h.at_ (k := 0) h0
  rw [e] at e2
  injection e2 with e2
  subst e2
  have eb : g = b := eb
  subst eb
  rw [cell_of_row _ _ _ _ _ _ hb] at d1
  have : ∀ m : Nat, (#[Value.int .i64 x, .int .i64 y] : Array Value)[m + 1]? ≠ some (.string ⟨v.text.toArray⟩) := by
    intro m
    cases m with
    | zero => simp
    | succ m => simp
  exact this (o + 0 * 3) d1
def faultV (h p : Int) : Value := .agg #[.int .i64 h, .int .i64 p]
/-- What comes of a text that is read. -/
def ReadSays (s : ByteArray) (eb : Nat) (P : List Tok → Nat → World → Prop) (N : List Tok → Nat → Prop) (w : World) (e : Ending) (w' : World) : Prop :=
  Only (fun k => k = eb) w w' ∧ ((∃ h p, lexS s.data.toList = .bad h p ∧ e = .returned (faultV h p)) ∨
    ∃ T, lexS s.data.toList = .ok T ∧ ((∃ k, N T k ∧ e = .returned (faultV 2 k)) ∨ ∃ j, P T j w' ∧ j ≤ T.length ∧ ((j < T.length ∧ e = .returned (faultV 2 (atT T s.size j))) ∨ (T.length ≤ j ∧ e = .returned (faultV 0 0)))))
end Go.Proofs.YtpbbkpfaphjdoaaDoor
namespace Go.Proofs.YtpbbkpfaphjdoaaDoor
open Go.ChangeShapes Go.WideShapes Go.ChangeAt Go.RowKit

mutual
theorem strip_size : ∀ e : Ex, exSize (strip e) = exSize e
  | .mk op name v A c args pos => by rw [strip, exSize, exSize, strip_sizes args 1]
theorem strip_sizes : ∀ (l : List Ex) (n : Int), exSizes n (strips l) = exSizes n l
  | [], n => by rw [strips]
  | a :: l, n => by rw [strips, exSizes, exSizes, strip_size a, strip_sizes l]
end
theorem strip_full (e : Ex) : fullB (strip e) = fullB e := by unfold fullB; rw [strip_size, strip_below]
/-- Words do not lie where an expression lies. -/
theorem toks_off7 {w : World} {A : Option Addr} {n c b : Nat} {T : List Tok} {e : Ex} (h : SeesToks w A n c T) (hb : Own7 w b e) (h0 : 0 < n) (ad : Addr) (he : A = some ad) : ad.block ≠ b := by
  intro eb
  obtain ⟨g, o, v, e2, hg, hv, d0, d1, d2⟩ := h.at_ (k := 0) h0
  rw [he] at e2
  injection e2 with e2
  subst e2
  have eb : g = b := eb
  subst eb
  rw [cell_of_row _ _ _ _ _ _ hb] at d0 d1 d2
  rcases o with _ | _ | _ | _ | _ | _ | _ | o
  · simp at d0
  · simp at d0
  · simp at d1
  · simp at d2
  · simp at d0
  · simp at d0
  · simp at d1
  · simp at d0
/-- What a text comes to: the fault and where, or an expression. -/
def ParseIs (l : List UInt8) (R : Except (Int × Int) Ex) : Prop :=
  (∃ h p, lexS l = .bad h p ∧ R = .error (h, (p : Int))) ∨
  ∃ T r, lexS l = .ok T ∧ Rd T l.length (.lv 0) 0 r ∧ ((∃ k : Nat, r = .error k ∧ R = .error (2, (k : Int))) ∨
    ∃ x j, r = .ok (x, j) ∧ ((j < T.length ∧ R = .error (2, (atT T l.length j : Int))) ∨ (T.length ≤ j ∧ ((fullB x = true ∧ R = .error (4, 0)) ∨ (fullB x = false ∧ R = .ok x)))))
/-- Any text comes to something. -/
theorem parse_all (l : List UInt8) : ∃ R, ParseIs l R := by
  cases h : lexS l with
  | bad e p => exact ⟨_, Or.inl ⟨e, p, h, rfl⟩⟩
  | ok T =>
    obtain ⟨r, hr⟩ := rd_all (T := T) l.length _ (.lv 0) 0 (show (0 : Nat) ≤ 5 by decide) (Nat.zero_le _) (Nat.le_refl _)
    match r, hr with
    | .error k, hr => exact ⟨_, Or.inr ⟨T, _, h, hr, Or.inl ⟨k, rfl, rfl⟩⟩⟩
    | .ok (x, j), hr =>
      by_cases hj : j < T.length
      · exact ⟨_, Or.inr ⟨T, _, h, hr, Or.inr ⟨x, j, rfl, Or.inl ⟨hj, rfl⟩⟩⟩⟩
      · cases hf : fullB x with
        | true => exact ⟨_, Or.inr ⟨T, _, h, hr, Or.inr ⟨x, j, rfl, Or.inr ⟨by omega, Or.inl ⟨hf, rfl⟩⟩⟩⟩⟩
        | false => exact ⟨_, Or.inr ⟨T, _, h, hr, Or.inr ⟨x, j, rfl, Or.inr ⟨by omega, Or.inr ⟨hf, rfl⟩⟩⟩⟩⟩
def PSays (R : Except (Int × Int) Ex) (w : World) (e : Ending) (w' : World) : Prop :=
  Below w.heap.size w w' ∧ match R with
    | .error (h, p) => e = .returned (.tuple #[exV zeroE, faultV h p])
    | .ok x => ∃ y, e = .returned (.tuple #[exV y, faultV 0 0]) ∧ SeesS (fun b => w.heap.size ≤ b) w' y ∧ strip y = x
/-- What the reading closure leaves. -/
def PP (s : ByteArray) (r : PR) (eb : Nat) (w : World) (T : List Tok) (j : Nat) (w' : World) : Prop :=
  lexS s.data.toList = .ok T ∧ ∃ x y, r = .ok (x, j) ∧ strip y = x ∧ Own7 w' eb y ∧ SeesS (fun b => w.heap.size < b) w' y
theorem wpOp_store2 {ops : Array Oper} {Q : Exit → Act → World → Prop} {j : Nat} {K : Act → World → Prop} {a : Act} {w : World} {o : Oper} (hj : ops[j]? = some o) (hg : o.guard = none) (x y : Operand) (ho : o.op = .store 47 x y) (hd : o.dst = none) {b : Nat} {u v h p : Int}
    (hown : Own2F w b u v) (hx : a.eval x = .pointer (some ⟨b, 0, none⟩)) (hy : a.eval y = .agg #[.int .i64 h, .int .i64 p])
    (hk : ∀ w', Own2F w' b h p → Only (fun k => k = b) w w' → K a w') : wpOp Tryd.prog ops Q j K a w := by
  have hw : Region.wanted o (yielded ops a.tmps) = true := by simp [Region.wanted, hg]
  unfold wpOp
  simp only [hj, hw, if_true]
  left
  have hb := below_setRow (B := b) (Below.refl b w) (Nat.le_refl _) (#[Value.int .i64 h, .int .i64 p])
  have hO : Only (fun k => k = b) w (w.setRow b #[Value.int .i64 h, .int .i64 p]) := ⟨hb.os, hb.tape, hb.output, hb.size, fun k _ hk => setRow_other w b k _ hk⟩
  refine wp_store_row _ x y ho b _ hx hy 47 _ hown (by kernel_rfl) rfl (by rw [← Array.all_toList]; rfl) ?_
  rw [hd]
  exact hk _ (setRow_heap w b _ _ _ _ hown) hO
theorem built_zero : Tryd.prog.built 57 [] = some #[.string ⟨#[]⟩, .string ⟨#[]⟩, .int .i64 0, .int .i64 0, .string ⟨#[]⟩, .slice none 0 0, .int .i64 0] := by kernel_rfl
theorem run_zero (w : World) : (Instr.build 57 #[]).run Tryd.prog w = .ok (.agg #[.string ⟨#[]⟩, .string ⟨#[]⟩, .int .i64 0, .int .i64 0, .string ⟨#[]⟩, .slice none 0 0, .int .i64 0]) w :=
  run_build w _ _ _ built_zero
/-- Two that are of Read's ways. -/
theorem read_ways {s : ByteArray} {R : Except (Int × Int) Ex} (hR : ParseIs s.data.toList R) {r : PR} (hrun : ∀ T, lexS s.data.toList = .ok T → Rd T s.size (.lv 0) 0 r ∧ ((∃ k : Nat, r = .error k ∧ R = .error (2, (k : Int))) ∨ ∃ x j, r = .ok (x, j) ∧ ((j < T.length ∧ R = .error (2, (atT T s.size j : Int))) ∨ (T.length ≤ j ∧ ((fullB x = true ∧ R = .error (4, 0)) ∨ (fullB x = false ∧ R = .ok x)))))) {eb : Nat} {w2 w3 : World} {e : Ending}
    (hc : (∃ h p, lexS s.data.toList = .bad h p ∧ e = .returned (faultV h p)) ∨ ∃ T, lexS s.data.toList = .ok T ∧ ((∃ k : Nat, r = .error k ∧ e = .returned (faultV 2 k)) ∨ ∃ j, PP s r eb w2 T j w3 ∧ j ≤ T.length ∧ ((j < T.length ∧ e = .returned (faultV 2 (atT T s.size j))) ∨ (T.length ≤ j ∧ e = .returned (faultV 0 0))))) :
    (∃ h p, R = .error (h, p) ∧ (h == 0) = false ∧ e = .returned (faultV h p)) ∨ ∃ x y, (fullB x = true ∧ R = .error (4, 0) ∨ fullB x = false ∧ R = .ok x) ∧ e = .returned (faultV 0 0) ∧ strip y = x ∧ Own7 w3 eb y ∧ SeesS (fun b => w2.heap.size < b) w3 y := by
  rcases hc with ⟨h, p, hl, he⟩ | ⟨T, hl, hc⟩
  · rcases hR with ⟨h', p', hl', hR⟩ | ⟨T, _, hl', _⟩
    · rw [hl] at hl'
      injection hl' with h1 h2
      subst h1 h2
      exact Or.inl ⟨h, p, hR, beq_eq_false_iff_ne.2 (lexS_bad hl).1, he⟩
    · rw [hl] at hl'; cases hl'
  · obtain ⟨-, hw⟩ := hrun T hl
    rcases hc with ⟨k, hk, he⟩ | ⟨j, hp, hj, hc⟩
    · rcases hw with ⟨k', hk', hR⟩ | ⟨x, j, hk', _⟩
      · rw [hk] at hk'
        injection hk' with hk'
        subst hk'
        exact Or.inl ⟨2, k, hR, rfl, he⟩
      · rw [hk] at hk'; cases hk'
    · obtain ⟨-, x, y, hx, h3, h4, h5⟩ := hp
      rcases hw with ⟨k', hk', hR⟩ | ⟨x', j', hk', hw⟩
      · rw [hx] at hk'; cases hk'
      · rw [hx] at hk'
        injection hk' with hk'
        injection hk' with e1 e2
        subst e1 e2
        rcases hc with ⟨hj1, he⟩ | ⟨hj1, he⟩
        · rcases hw with ⟨_, hR⟩ | ⟨hj2, _⟩
          · exact Or.inl ⟨2, _, hR, rfl, he⟩
          · omega
        · rcases hw with ⟨hj2, _⟩ | ⟨_, hR⟩
          · omega
          · exact Or.inr ⟨x, y, hR, he, h3, h4, h5⟩
end Go.Proofs.YtpbbkpfaphjdoaaDoor
