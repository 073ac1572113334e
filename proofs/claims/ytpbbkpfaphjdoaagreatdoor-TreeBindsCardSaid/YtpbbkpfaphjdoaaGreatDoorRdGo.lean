/- tree.Reader's levels, walked: what is read of any words. tree.Reader's levels below the last one, walked: parts with signs between. -/
import Derived.Test.YtpbbkpfaphjdoaaGreatDoorRdr
import Derived.Test.YtpbbkpfaphjdoaaGreatDoorParse
import Derived.Deep.RegionHeld2
import Derived.Deep.RegionHeld3
import Derived.Deep.AppendLies
import Derived.Laws.Tables
import Derived.Laws.CopyOwn
namespace Go.Proofs.YtpbbkpfaphjdoaaGreatDoor
open Go.ChangeShapes Go.WideShapes Go.ChangeAt Go.RowKit

def zeroE : Ex := .mk ⟨#[]⟩ ⟨#[]⟩ noVal none 0 [] 0
/-- What comes of a reading: an expression of new blocks, or the place where the text is wrong. -/
def RSays (T : List Tok) (E : Nat) (rb : Nat) (A : Option Addr) (c : Nat) (w : World) : PR → Ending → World → Prop
  | .ok (x, j), e, w' => ∃ y, e = .returned (exV y) ∧ SeesS (fun b => w.heap.size ≤ b) w' y ∧ strip y = x ∧ RdAt T E w' rb A c j ∧ Only (fun k => k = rb) w w'
  | .error k, e, w' => e = wrongAt k ∧ Only (fun k => k = rb) w w'
/-- The tables, as they were ahead of the reader. -/
structure Env (wB w : World) (rb : Nat) : Prop where
  lev : LevelsT wB
  words : WordsT wB
  text : TextT wB
  num : NumT wB
  below : Below wB.heap.size wB w
  le : wB.heap.size ≤ rb
theorem Env.only {wB w w' : World} {rb : Nat} (h : Env wB w rb) (ho : Only (fun k => k = rb) w w') : Env wB w' rb := ⟨h.lev, h.words, h.text, h.num, h.below.trans (ho.below h.below.size (fun _ e => e ▸ h.le)), h.le⟩
theorem Env.keep {wB w w' : World} {rb : Nat} (h : Env wB w rb) (hb : Below w.heap.size w w') : Env wB w' rb := h.only (.of_below hb)
def UnAt (T : List Tok) (E : Nat) (k : Nat) : Prop := ∀ (i : Nat) (r : PR), work T .un i ≤ k → Rd T E .un i r → ∀ (wB w : World) (rb : Nat) (A : Option Addr) (c : Nat), RdAt T E w rb A c i → Env wB w rb → Calls Tryz.prog 188 #[.pointer (some ⟨rb, 0, none⟩)] w (RSays T E rb A c w r)
def PrAt (T : List Tok) (E : Nat) (k : Nat) : Prop := ∀ (i : Nat) (r : PR), work T .pr i ≤ k → Rd T E .pr i r → ∀ (wB w : World) (rb : Nat) (A : Option Addr) (c : Nat), RdAt T E w rb A c i → Env wB w rb → Calls Tryz.prog 233 #[.pointer (some ⟨rb, 0, none⟩)] w (RSays T E rb A c w r)
def LvAt (T : List Tok) (E : Nat) (k : Nat) : Prop := ∀ (n i : Nat) (r : PR), n ≤ 5 → work T (.lv n) i ≤ k → Rd T E (.lv n) i r → ∀ (wB w : World) (rb : Nat) (A : Option Addr) (c : Nat), RdAt T E w rb A c i → Env wB w rb → Calls Tryz.prog 147 #[.pointer (some ⟨rb, 0, none⟩), .int .i64 n] w (RSays T E rb A c w r)
theorem box_zeroE (w : World) : ∃ w0, w.alloc (.cells #[.string ⟨#[]⟩, .string ⟨#[]⟩, .int .i64 0, .int .i64 0, .string ⟨#[]⟩, .slice none 0 0, .int .i64 0] 26) = w0 ∧ Own7 w0 w.heap.size zeroE ∧ Below w.heap.size w w0 :=
  ⟨_, rfl, own7_new w zeroE, belowNew' _ _⟩
/-- A call that ends the region by a panic. -/
theorem wpOp_panics {P : Program} {ops : Array Oper} {Q : Exit → Act → World → Prop} {j : Nat} {K : Act → World → Prop} {a : Act} {w : World} {o : Oper} {f : FuncId} {args : Array Value} {c : List PanicEntry} {R : World → Prop}
    (ho : ops[j]? = some o) (hw : Region.wanted o (yielded ops a.tmps) = true) (he : (execOp a.eval o).run P w = .ok (.enter f args) w) (hc : Calls P f args w fun e w' => e = .panicked c ∧ R w') (hQ : ∀ w', R w' → Q (.panic c) a w') : wpOp P ops Q j K a w := by
  unfold wpOp
  simp only [ho, hw, if_true]
  left
  unfold Oper.wp
  rw [he]
  simp only [Oper.upon]
  exact Calls.mono hc (fun e w' ⟨h1, h2⟩ => by subst h1; exact hQ w' h2)
/-- A call that comes back; an operation that yields a value; a store of an expression. -/
theorem wpOp_returns {P : Program} {ops : Array Oper} {Q : Exit → Act → World → Prop} {j : Nat} {K : Act → World → Prop} {a : Act} {w : World} {o : Oper} {f : FuncId} {args : Array Value} {R : Ending → World → Prop}
    (ho : ops[j]? = some o) (hw : Region.wanted o (yielded ops a.tmps) = true) (he : (execOp a.eval o).run P w = .ok (.enter f args) w) (hc : Calls P f args w R) (h : ∀ e w', R e w' → ∃ u, e = .returned u ∧ K (a.put o.dst u) w') : wpOp P ops Q j K a w := by
  unfold wpOp
  simp only [ho, hw, if_true]
  left
  unfold Oper.wp
  rw [he]
  simp only [Oper.upon]
  exact Calls.mono hc (fun e w' h1 => by obtain ⟨u, rfl, h2⟩ := h e w' h1; exact h2)
theorem wpOp_value {P : Program} {ops : Array Oper} {Q : Exit → Act → World → Prop} {j : Nat} {K : Act → World → Prop} {a : Act} {w w' : World} {o : Oper} {v : Value}
    (ho : ops[j]? = some o) (hw : Region.wanted o (yielded ops a.tmps) = true) (he : (execOp a.eval o).run P w = .ok (.value v) w') (h : K (a.put o.dst v) w') : wpOp P ops Q j K a w := by
  unfold wpOp
  simp only [ho, hw, if_true]
  left
  unfold Oper.wp
  rw [he]
  exact h
/-- The same with the place named into which the value goes. -/
theorem takeH {P : Program} {md : Region.Mode} {ops : Array Oper} {Q : Exit → Act → World → Prop} {S : World → Prop} {i : Nat} {oi : Oper} {d : Option Tmp} {v : Value} {fuel : Nat} {listed : Array Bool} {a : Act} {w : World} (hi : ops[i]? = some oi) (hd : oi.dst = d)
    (hs : Region.noSelect ops = true) (hf : Region.free md ops listed i = true) (hr : (Region.ready md ops listed).contains i = true)
    (hQ : ∀ c a w, Q (.panic c) (a.put d v) w → Q (.panic c) a w) (hy : YieldsIf P ops S oi v a) (hS : S w)
    (h : wpAnyH P md ops Q S fuel (listed.setIfInBounds i true) (a.put d v) w) : wpAnyH P md ops Q S (fuel + 1) listed a w := by
  subst hd
  exact wpAnyH_take hi hs hf hr hQ hy hS h
theorem wpOp_returnsD {P : Program} {ops : Array Oper} {Q : Exit → Act → World → Prop} {j : Nat} {K : Act → World → Prop} {a : Act} {w : World} {o : Oper} {d : Option Tmp} {f : FuncId} {args : Array Value} {R : Ending → World → Prop}
    (ho : ops[j]? = some o) (hd : o.dst = d) (hw : Region.wanted o (yielded ops a.tmps) = true) (he : (execOp a.eval o).run P w = .ok (.enter f args) w) (hc : Calls P f args w R) (h : ∀ e w', R e w' → ∃ u, e = .returned u ∧ K (a.put d u) w') : wpOp P ops Q j K a w := by
  subst hd
  exact wpOp_returns ho hw he hc h
theorem wpOp_valueD {P : Program} {ops : Array Oper} {Q : Exit → Act → World → Prop} {j : Nat} {K : Act → World → Prop} {a : Act} {w w' : World} {o : Oper} {d : Option Tmp} {v : Value}
    (ho : ops[j]? = some o) (hd : o.dst = d) (hw : Region.wanted o (yielded ops a.tmps) = true) (he : (execOp a.eval o).run P w = .ok (.value v) w') (h : K (a.put d v) w') : wpOp P ops Q j K a w := by
  subst hd
  exact wpOp_value ho hw he h
theorem wpOp_store7 {ops : Array Oper} {Q : Exit → Act → World → Prop} {j : Nat} {K : Act → World → Prop} {a : Act} {w : World} {o : Oper} (hj : ops[j]? = some o) (hg : o.guard = none) (x y : Operand) (ho : o.op = .store 26 x y) (hd : o.dst = none) {b : Nat} {e X : Ex}
    (hown : Own7 w b e) (hx : a.eval x = .pointer (some ⟨b, 0, none⟩)) (hy : a.eval y = .agg #[.string X.op, .string X.name, .int .i64 X.val.type, .int .i64 X.val.n, .string X.val.s, .slice X.A X.args.length X.c, .int .i64 X.pos])
    (h : ∀ w', Own7 w' b X → Only (fun k => k = b) w w' → K a w') : wpOp Tryz.prog ops Q j K a w := by
  have hw : Region.wanted o (yielded ops a.tmps) = true := by simp [Region.wanted, hg]
  unfold wpOp
  simp only [hj, hw, if_true]
  left
  have hb := below_setRow (B := b) (Below.refl b w) (Nat.le_refl _) (#[Value.string X.op, .string X.name, .int .i64 X.val.type, .int .i64 X.val.n, .string X.val.s, .slice X.A X.args.length X.c, .int .i64 X.pos])
  have hO : Only (fun k => k = b) w (w.setRow b #[Value.string X.op, .string X.name, .int .i64 X.val.type, .int .i64 X.val.n, .string X.val.s, .slice X.A X.args.length X.c, .int .i64 X.pos]) := ⟨hb.os, hb.tape, hb.output, hb.size, fun k _ hk => setRow_other w b k _ hk⟩
  refine wp_store_row _ x y ho b _ hx hy 26 _ hown (by kernel_rfl) rfl (by rw [← Array.all_toList]; rfl) ?_
  rw [hd]
  exact h _ (setRow_heap w b _ _ _ _ hown) hO
theorem wpList_put7 {ops : Array Oper} {rest : List Oper} {o : Oper} {a : Act} {w : World} {Q : Exit → Act → World → Prop} (hg : o.guard = none) (x y : Operand) (ho : o.op = .store 26 x y) {b : Nat} {e X : Ex}
    (hown : Own7 w b e) (hx : a.eval x = .pointer (some ⟨b, 0, none⟩)) (hy : a.eval y = .agg #[.string X.op, .string X.name, .int .i64 X.val.type, .int .i64 X.val.n, .string X.val.s, .slice X.A X.args.length X.c, .int .i64 X.pos])
    (h : ∀ w', Own7 w' b X → Only (fun k => k = b) w w' → wpList Tryz.prog ops Q rest (a.put o.dst undef) w') : wpList Tryz.prog ops Q (o :: rest) a w := by
  refine wpList_store_row hg _ x y ho b _ hx hy 26 _ hown (by kernel_rfl) rfl (by rw [← Array.all_toList]; rfl) (h _ (setRow_heap w b _ _ _ _ hown) ?_)
  have hb := below_setRow (B := b) (Below.refl b w) (Nat.le_refl _) (#[Value.string X.op, .string X.name, .int .i64 X.val.type, .int .i64 X.val.n, .string X.val.s, .slice X.A X.args.length X.c, .int .i64 X.pos])
  exact ⟨hb.os, hb.tape, hb.output, hb.size, fun k _ hk => setRow_other w b k _ hk⟩
theorem built_op (op : ByteArray) (pos : Int) (A : Option Addr) (n c : Nat) : Tryz.prog.built 26 [(0, Value.string op), (4, .int .i64 pos), (3, .slice A n c)] = some #[.string op, .string ⟨#[]⟩, .int .i64 0, .int .i64 0, .string ⟨#[]⟩, .slice A n c, .int .i64 pos] := by kernel_rfl
theorem run_op (op : ByteArray) (pos : Int) (A : Option Addr) (n c : Nat) (w : World) : (Instr.build 26 #[(0, .string op), (4, .int .i64 pos), (3, .slice A n c)]).run Tryz.prog w = .ok (.agg #[.string op, .string ⟨#[]⟩, .int .i64 0, .int .i64 0, .string ⟨#[]⟩, .slice A n c, .int .i64 pos]) w :=
  run_build w _ _ _ (built_op op pos A n c)
theorem only_cell {S : Nat → Prop} {w w' : World} (h : Only S w w') {b j : Nat} {v : Value} (hc : w.cell? ⟨b, j, none⟩ = some v) (hs : ¬ S b) : w'.cell? ⟨b, j, none⟩ = some v :=
  (h.cell (p := ⟨b, j, none⟩) (World.block_lt_of_cell? w _ hc) hs).trans hc
theorem Only.drewL {S : Nat → Prop} {a b : World} (h : Only S a.drew b) : Only S a b := ⟨h.os, h.tape, h.output, h.size, h.block⟩
/-- A block that was not there ahead may turn. -/
theorem Only.then_new {S : Nat → Prop} {a b d : World} {R : Nat} (h : Only S a b) (h2 : Only (fun k => k = R) b d) (hn : a.heap.size ≤ R) : Only S a d :=
  ⟨h2.os.trans h.os, h2.tape.trans h.tape, h2.output.trans h.output, Nat.le_trans h.size h2.size, fun k hk hs => (h2.block k (Nat.lt_of_lt_of_le hk h.size) (by omega)).trans (h.block k hk hs)⟩
theorem alike_only2 {S T : Nat → Prop} {w w' : World} (h : Only T w w') (hd : ∀ b, S b → ¬ T b) : Alike S w w' := ⟨h.size, fun b hs hl => h.block b hl (hd b hs)⟩
theorem RdAt.other {T : List Tok} {E : Nat} {w w' : World} {rb : Nat} {A : Option Addr} {c i R : Nat} (h : RdAt T E w rb A c i) (ho : Only (fun k => k = R) w w') (h1 : rb ≠ R) (h2 : 0 < T.length → ∀ ad, A = some ad → ad.block ≠ R) : RdAt T E w' rb A c i :=
  ⟨(ho.block rb h.lt h1).trans h.box, ⟨h.toks.1, ho.sees_far h.toks.2 (fun h0 ad e hr => h2 h0 ad e hr)⟩, h.far, h.le⟩
theorem fits_at {T : List Tok} {E : Nat} (hW : Words T E) (i : Nat) : fits (atT T E i : Int) := by
  have : atT T E i ≤ 400 := by
    unfold atT
    cases ht : T[i]? with
    | none => exact hW.E_le
    | some t => exact Nat.le_trans (hW.at_ t (List.mem_of_getElem? ht)) hW.E_le
  unfold fits lo63 hi63
  omega
/-- An operation of parts that lie in a block of their own. -/
theorem seesS_node {S : Nat → Prop} {w : World} {b : Nat} {op : ByteArray} {l : List Ex} {pos : Int} (hrow : w.heap[b]? = some (.cells (exsCells l).toArray 26 (0, 0))) (hS : S b) (hl : l.length ≤ 400) (ho : op.size ≤ 400) (hp : fits pos) (ha : ∀ a ∈ l, SeesS S w a) :
    SeesS S w (.mk op ⟨#[]⟩ noVal (some ⟨b, 0, none⟩) l.length l pos) := by
  refine .mk ⟨exsCells_length l, Nat.le_refl _, by show l.length ≤ maxLen; unfold maxLen; omega, (fun e => by cases e), fun _ => ⟨b, 0, rfl, (Array.getElem?_eq_some_iff.1 hrow).1, fun j u hu => ?_⟩⟩ (fun g o e _ => by injection e with e; injection e with e; exact e ▸ hS) (by show op.size ≤ maxLen; unfold maxLen; omega) (Nat.zero_le _) ⟨show fits 0 by decide, show fits 0 by decide, Nat.zero_le _⟩ hp ha
  rw [Nat.zero_add, cell_of_row _ _ _ _ _ _ hrow]
  have hu' : (exsCells l)[j]? = some u := hu
  simpa using hu'
/-- What is said of an operation that has been made. -/
theorem says_op {T : List Tok} {E : Nat} {rb : Nat} {A : Option Addr} {c j b : Nat} {w w6 : World} {l xs : List Ex} {op : List UInt8} {pos : Nat} (hN : Only (fun k => k = rb) w w6) (hR : RdAt T E w6 rb A c j) (hrow : w6.heap[b]? = some (.cells (exsCells l).toArray 26 (0, 0))) (hb : w.heap.size ≤ b) (hl : l.length ≤ 400) (ho : op.length ≤ 400) (hp : fits (pos : Int))
    (ha : ∀ a ∈ l, SeesS (fun b => w.heap.size ≤ b) w6 a) (hx : strips l = xs) : RSays T E rb A c w (.ok (opEx op xs pos, j)) (.returned (exV (.mk (mkB op) ⟨#[]⟩ noVal (some ⟨b, 0, none⟩) l.length l pos))) w6 := by
  have e : (mkB op).size = op.length := by simp [mkB, ByteArray.size]
  refine ⟨.mk (mkB op) ⟨#[]⟩ noVal (some ⟨b, 0, none⟩) l.length l pos, rfl, seesS_node hrow hb hl (by rw [e]; exact ho) hp ha, ?_, hR, hN⟩
  rw [strip_mk, hx]; rfl
/-- What is read is put into the result's own block. -/
theorem says_put {T : List Tok} {E : Nat} {rb : Nat} {A : Option Addr} {c j R : Nat} {w w4 w6 : World} {S : Nat → Prop} {y x : Ex} (hN : Only (fun k => k = rb) w w4) (hR : RdAt T E w4 rb A c j) (hsy : SeesS S w4 y) (hS : ∀ b, S b → w.heap.size ≤ b ∧ b ≠ R) (hst : strip y = x) (ho : Only (fun k => k = R) w4 w6) (hR0 : R = w.heap.size) (h1 : rb < w.heap.size) (h2 : 0 < T.length → ∀ ad, A = some ad → ad.block < w.heap.size) :
    RSays T E rb A c w (.ok (x, j)) (.returned (exV y)) w6 := by
  subst hR0
  exact ⟨y, rfl, (hsy.keep (alike_only2 ho (fun b hb hb2 => (hS b hb).2 hb2))).mono (fun b hb => (hS b hb).1), hst, hR.other ho (by omega) (fun h0 ad e => by have := h2 h0 ad e; omega), hN.then_new ho (Nat.le_refl _)⟩
theorem lp_cases {T : List Tok} {E n i : Nat} {e : Ex} {r : PR} (h : Rd T E (.lp n e) i r) : (sgT T n i = none ∧ r = .ok (e, i)) ∨
    (∃ s k, sgT T n i = some s ∧ Rd T E (.lv (n + 1)) (i + 1) (.error k) ∧ r = .error k) ∨
    (∃ s x j, sgT T n i = some s ∧ Rd T E (.lv (n + 1)) (i + 1) (.ok (x, j)) ∧ ((n = 2 ∧ r = .ok (opEx s [e, x] (atT T E i), j)) ∨ (n ≠ 2 ∧ Rd T E (.lp n (opEx s [e, x] (atT T E i))) j r))) := by
  cases h with
  | lpEnd h => exact Or.inl ⟨h, rfl⟩
  | lpGo h hn a b => exact Or.inr (Or.inr ⟨_, _, _, h, a, Or.inr ⟨hn, b⟩⟩)
  | lpOne h a => exact Or.inr (Or.inr ⟨_, _, _, h, a, Or.inl ⟨rfl, rfl⟩⟩)
  | lpE h a => exact Or.inr (Or.inl ⟨_, _, h, a, rfl⟩)
/-- Where the reader stands. -/
def rdIdx (w : World) (rb : Nat) : Nat := match w.cell? ⟨rb, 1, none⟩ with
  | some (.int _ i) => i.toNat
  | _ => 0
theorem RdAt.idx {T : List Tok} {E : Nat} {w : World} {rb : Nat} {A : Option Addr} {c i : Nat} (h : RdAt T E w rb A c i) : rdIdx w rb = i := by
  unfold rdIdx
  rw [h.cells.2.1]
  simp
/-- A level's loop, at its head. -/
def LpAt (T : List Tok) (E : Nat) (rb : Nat) (A : Option Addr) (c : Nat) (w : World) (i0 b6 n : Nat) (r : PR) (wr : World) : Prop :=
  ∃ (j : Nat) (y x : Ex), Rd T E (.lp n x) j r ∧ strip y = x ∧ Own7 wr b6 y ∧ SeesS (fun b => w.heap.size < b ∧ b ≠ b6) wr y ∧ RdAt T E wr rb A c j ∧ Only (fun k => k = rb) w wr ∧ Own7 wr w.heap.size zeroE ∧ i0 < j
theorem seesS_lt2 {S : Nat → Prop} {w : World} {e : Ex} (h : SeesS S w e) : SeesS (fun b => S b ∧ b < w.heap.size) w e := by
  induction h with
  | mk hs hS ho hn hv hp _ ih =>
    refine .mk hs (fun g o e1 e2 => ⟨hS g o e1 e2, ?_⟩) ho hn hv hp ih
    obtain ⟨g', o', e3, hg, _⟩ := hs.2.2.2.2 e2
    rw [e1] at e3
    injection e3 with e3
    injection e3 with e3 _
    rw [e3]; exact hg
theorem lvl_short {n : Nat} {s : List UInt8} (h : s ∈ lvlL n) : s.length ≤ 400 := by
  match n, h with
  | 0, h | 1, h | 2, h | 3, h | 4, h => simp [lvlL] at h; rcases h with h | h | h | h | h | h <;> simp_all
  | n + 5, h => simp [lvlL] at h
set_option maxHeartbeats 4000000 in
set_option maxRecDepth 100000 in
theorem un_neg {T : List Tok} {E : Nat} (hW : Words T E) {i : Nat} (h : isT T i wMinus = true) {r r' : PR} (wB w : World) (rb : Nat) (A : Option Addr) (c : Nat) (hR : RdAt T E w rb A c i) (hE : Env wB w rb)
    (IH : ∀ w' : World, RdAt T E w' rb A c (i + 1) → Env wB w' rb → Calls Tryz.prog 188 #[.pointer (some ⟨rb, 0, none⟩)] w' (RSays T E rb A c w' r))
    (hok : ∀ x j, r = .ok (x, j) → r' = .ok (opEx wNeg [x] (atT T E i), j)) (herr : ∀ k, r = .error k → r' = .error k) :
    Calls Tryz.prog 188 #[.pointer (some ⟨rb, 0, none⟩)] w (RSays T E rb A c w r') := by
  obtain ⟨w0, hw0, ho0, hb0⟩ := box_zeroE w
  have HO0 := Lib.hid ho0
  have HB0 := Lib.hid hb0
  have HW0 := Lib.hid hw0
  have T1 := Lib.hid (peek_any (hR.keep hb0) hW)
  have HR0 := Lib.hid (hR.keep hb0)
  have HWW := Lib.hid hW
  have HI := Lib.hid h
  have HE0 := Lib.hid (hE.keep hb0)
  have HEW := Lib.hid hE
  have HLT := Lib.hid hR.lt
  have HOLD := Lib.hid (show 0 < T.length → ∀ ad, A = some ad → ad.block < w.heap.size from hR.old)
  have HIH := Lib.hid IH
  have HOKX := Lib.hid hok
  have HERX := Lib.hid herr
  unfold PeekSays tokV at T1
  clear hW h IH hR hE hok herr hw0 ho0 hb0
  go_enter Tryz.func188, Tryz.ntmps188
  go_wp2_with (first | rw [HW0.out])
  refine (T1.out).mono ?_
  rintro e' w1 ⟨rfl, hb1⟩
  obtain ⟨w2, hw2⟩ : ∃ w2, w1.alloc (.cells #[.int .i64 (kindT T i), .string ⟨(textT T i).toArray⟩, .int .i64 (atT T E i)] 115) = w2 := ⟨_, rfl⟩
  have hb2 : Below w1.heap.size w1 w2 := by rw [← hw2]; exact belowNew' _ _
  have ho2 : Own3T w2 w1.heap.size (kindT T i) ⟨(textT T i).toArray⟩ (atT T E i) := by rw [← hw2]; exact own3t_new w1 _ _ _
  have h02 := below_step hb1 hb2
  have T2 := Lib.hid (has_any (HR0.out.keep h02) HWW.out ⟨#[45]⟩)
  rw [show isT T i (⟨#[45]⟩ : ByteArray).data.toList = true from HI.out] at T2
  have HO2 := Lib.hid ho2
  have HB2 := Lib.hid h02
  have HL1 := Lib.hid hb1.size
  have HW2 := Lib.hid hw2
  clear hb1 hb2 ho2 h02 hw2 T1
  go_wp2_with (first | rw [HW2.out])
  refine (T2.out).mono ?_
  rintro e' w3 ⟨rfl, hr3, hn3⟩
  have HR3 := Lib.hid (show RdAt T E w3 rb A c (i + 1) from hr3)
  have HN3 := Lib.hid ((Only.of_below (S := fun k => k = rb) (below_step HB0.out HB2.out)).trans hn3)
  have hne : w1.heap.size ≠ rb := by have := HR0.out.lt; have := HL1.out; omega
  have hne6 : w1.heap.size ≠ w.heap.size := by have := HO0.out.lt; have := HL1.out; omega
  have ho3 : Own3T w3 w1.heap.size (kindT T i) ⟨(textT T i).toArray⟩ (atT T E i) := (hn3.block _ HO2.out.lt hne).trans HO2.out
  obtain ⟨d0, d1, d2⟩ := ho3.cells
  have hz3 : Own7 w3 w.heap.size zeroE := (hn3.block _ (HO0.out.keep HB2.out).lt (by have := HLT.out; omega)).trans (HO0.out.keep HB2.out)
  have HZ3 := Lib.hid hz3
  have HLW3 := Lib.hid (show w.heap.size < w3.heap.size from hz3.lt)
  have HZ4 := Lib.hid (show ∀ w4, Only (fun k => k = rb) w3.drew w4 → Own7 w4 w.heap.size zeroE from fun w4 h4 => (h4.block _ hz3.lt (by have := HLT.out; omega)).trans hz3)
  have T3d := Lib.hid (HIH.out w3.drew (hr3.keep (Below.refl _ _).drew) (HE0.out.only ((Only.of_below HB2.out).trans (hn3.drew))))
  have HRD := Lib.hid (show True from trivial)
  have HERR := Lib.hid (show ∀ k, r = .error k → ∀ w4, Only (fun k => k = rb) w3.drew w4 → RSays T E rb A c w r' (wrongAt k) w4 from fun k hk w4 h4 => by rw [HERX.out k hk]; exact ⟨rfl, HN3.out.trans h4.drewL⟩)
  have HOKS := Lib.hid (show ∀ x j, r = .ok (x, j) → ∀ e w6, RSays T E rb A c w (.ok (opEx wNeg [x] (atT T E i), j)) e w6 → RSays T E rb A c w r' e w6 from fun x j hx e w6 h => by rw [HOKX.out x j hx]; exact h)
  clear hr3 hn3 hz3 T2
  go_wp2_with fail
  match r, T3d, HRD with
  | .error k, T3d, HRD =>
    refine wp_region_held (S := fun w' => w'.cell? ⟨w1.heap.size, 2, none⟩ = some (.int .i64 (atT T E i))) (by kernel_rfl) ?_
    change wpAnyH _ _ _ _ _ _ _ _ w3.drew
    have HS : (fun w' : World => w'.cell? ⟨w1.heap.size, 2, none⟩ = some (.int .i64 (atT T E i))) w3.drew := d2
    refine takeH (i := 0) (d := some 8) (v := .pointer (some ⟨w1.heap.size, 2, none⟩)) rfl rfl (by kernel_rfl) (by kernel_rfl) (by kernel_rfl) (fun _ _ _ h => h) (Or.inl ⟨by rfl, fun w' hS => by dsimp only at hS; first | go_simp | (obtain ⟨hS1, hS2⟩ := hS; go_simp)⟩) HS ?_
    refine takeH (i := 1) (d := some 9) (v := .int .i64 (atT T E i)) rfl rfl (by kernel_rfl) (by kernel_rfl) (by kernel_rfl) (fun _ _ _ h => h) (Or.inl ⟨by rfl, fun w' hS => by dsimp only at hS; first | go_simp | (obtain ⟨hS1, hS2⟩ := hS; go_simp)⟩) HS ?_
    refine takeH (i := 2) (d := some 10) (v := .pointer (some ⟨rb, 0, none⟩)) rfl rfl (by kernel_rfl) (by kernel_rfl) (by kernel_rfl) (fun _ _ _ h => h) (Or.inl ⟨by rfl, fun w' hS => by dsimp only at hS; first | go_simp | (obtain ⟨hS1, hS2⟩ := hS; go_simp)⟩) HS ?_
    simp only [Act.put, List.setIfInBounds_toArray, List.set_cons_zero, List.set_cons_succ]
    refine wpAnyH_all (rs := [3]) (by kernel_rfl) (by simp) (fun j hj => ?_)
    obtain rfl : j = 3 := by simpa using hj
    exact wpOp_panics rfl (by rfl) (f := 188) (args := #[.pointer (some ⟨rb, 0, none⟩)]) (by go_simp) (T3d.out.mono fun e w' ⟨h1, h2⟩ => ⟨h1, h2⟩) (fun w4 hn4 => ⟨rfl, HERR.out k rfl w4 hn4⟩)
  | .ok (x, jx), T3d, HRD =>
    refine wp_region_held (S := fun w' => w'.cell? ⟨w1.heap.size, 2, none⟩ = some (.int .i64 (atT T E i))) (by kernel_rfl) ?_
    change wpAnyH _ _ _ _ _ _ _ _ w3.drew
    have HS : (fun w' : World => w'.cell? ⟨w1.heap.size, 2, none⟩ = some (.int .i64 (atT T E i))) w3.drew := d2
    refine takeH (i := 0) (d := some 8) (v := .pointer (some ⟨w1.heap.size, 2, none⟩)) rfl rfl (by kernel_rfl) (by kernel_rfl) (by kernel_rfl) (fun _ _ _ h => h) (Or.inl ⟨by rfl, fun w' hS => by dsimp only at hS; first | go_simp | (obtain ⟨hS1, hS2⟩ := hS; go_simp)⟩) HS ?_
    refine takeH (i := 1) (d := some 9) (v := .int .i64 (atT T E i)) rfl rfl (by kernel_rfl) (by kernel_rfl) (by kernel_rfl) (fun _ _ _ h => h) (Or.inl ⟨by rfl, fun w' hS => by dsimp only at hS; first | go_simp | (obtain ⟨hS1, hS2⟩ := hS; go_simp)⟩) HS ?_
    refine takeH (i := 2) (d := some 10) (v := .pointer (some ⟨rb, 0, none⟩)) rfl rfl (by kernel_rfl) (by kernel_rfl) (by kernel_rfl) (fun _ _ _ h => h) (Or.inl ⟨by rfl, fun w' hS => by dsimp only at hS; first | go_simp | (obtain ⟨hS1, hS2⟩ := hS; go_simp)⟩) HS ?_
    simp only [Act.put, List.setIfInBounds_toArray, List.set_cons_zero, List.set_cons_succ]
    refine wpAnyH_all (rs := [3]) (by kernel_rfl) (by simp) (fun j hj => ?_)
    obtain rfl : j = 3 := by simpa using hj
    refine wpOp_returnsD (d := some 11) rfl rfl (by rfl) (f := 188) (args := #[.pointer (some ⟨rb, 0, none⟩)]) (by go_simp) T3d.out ?_
    rintro e w4 ⟨y, rfl, hsy, hst, hr4, hn4⟩
    refine ⟨_, rfl, only_cell hn4 d2 hne, ?_⟩
    unfold exV
    simp only [Act.put, List.setIfInBounds_toArray, List.set_cons_zero, List.set_cons_succ]
    refine wpAnyH_all (rs := [4]) (by kernel_rfl) (by simp) (fun j hj => ?_)
    obtain rfl : j = 4 := by simpa using hj
    have hb5 := belowNew' w4 (.cells #[.string y.op, .string y.name, .int .i64 y.val.type, .int .i64 y.val.n, .string y.val.s, .slice y.A y.args.length y.c, .int .i64 y.pos] 26)
    have hrow : (w4.alloc (.cells #[.string y.op, .string y.name, .int .i64 y.val.type, .int .i64 y.val.n, .string y.val.s, .slice y.A y.args.length y.c, .int .i64 y.pos] 26)).heap[w4.heap.size]? = some (.cells (exsCells [y]).toArray 26 (0, 0)) := heap_alloc_new w4 _
    refine wpOp_valueD (d := some 12) rfl rfl (by rfl) (v := .slice (some ⟨w4.heap.size, 0, none⟩) 1 1) (w' := w4.alloc (.cells #[.string y.op, .string y.name, .int .i64 y.val.type, .int .i64 y.val.n, .string y.val.s, .slice y.A y.args.length y.c, .int .i64 y.pos] 26)) (by go_simp) ?_
    generalize w4.alloc (.cells #[.string y.op, .string y.name, .int .i64 y.val.type, .int .i64 y.val.n, .string y.val.s, .slice y.A y.args.length y.c, .int .i64 y.pos] 26) = w5 at hb5 hrow ⊢
    have q5 := (hb5.cell (p := ⟨w1.heap.size, 2, none⟩) (Nat.lt_of_lt_of_le ho3.lt hn4.size)).trans (only_cell hn4 d2 hne)
    refine ⟨q5, ?_⟩
    simp only [Act.put, List.setIfInBounds_toArray, List.set_cons_zero, List.set_cons_succ]
    refine wpAnyH_all (rs := [5]) (by kernel_rfl) (by simp) (fun j hj => ?_)
    obtain rfl : j = 5 := by simpa using hj
    have bd := run_op ⟨#[110, 101, 103]⟩ (atT T E i) (some ⟨w4.heap.size, 0, none⟩) 1 1 w5
    refine wpOp_valueD (d := some 13) rfl rfl (by rfl) (v := .agg #[.string ⟨#[110, 101, 103]⟩, .string ⟨#[]⟩, .int .i64 0, .int .i64 0, .string ⟨#[]⟩, .slice (some ⟨w4.heap.size, 0, none⟩) 1 1, .int .i64 (atT T E i)]) (w' := w5) (by go_simp) ?_
    refine ⟨q5, ?_⟩
    simp only [Act.put, List.setIfInBounds_toArray, List.set_cons_zero, List.set_cons_succ]
    refine wpAnyH_all (rs := [6]) (by kernel_rfl) (by simp) (fun j hj => ?_)
    obtain rfl : j = 6 := by simpa using hj
    refine wpOp_store7 rfl rfl _ _ rfl rfl (X := .mk (mkB wNeg) ⟨#[]⟩ noVal (some ⟨w4.heap.size, 0, none⟩) 1 [y] (atT T E i)) ((HZ4.out w4 hn4).keep hb5) rfl rfl ?_
    intro w6 hz6 ho6
    refine ⟨only_cell ho6 q5 hne6, ?_⟩
    refine wpAnyH_done (by kernel_rfl) ?_ _
    have HSAY := Lib.hid (show RSays T E rb A c w (.ok (opEx wNeg [x] (atT T E i), jx)) (.returned (exV (.mk (mkB wNeg) ⟨#[]⟩ noVal (some ⟨w4.heap.size, 0, none⟩) 1 [y] (atT T E i)))) w6 from by
      have hsz : w.heap.size < w4.heap.size := Nat.lt_of_lt_of_le HLW3.out hn4.size
      refine says_op (l := [y]) ((HN3.out.trans (hn4.drewL.trans (.of_below hb5))).then_new ho6 (Nat.le_refl _)) ((hr4.keep hb5).other ho6 (by have := HLT.out; omega) (fun h0 ad e => by have := HOLD.out h0 ad e; omega)) ((ho6.block _ (Array.getElem?_eq_some_iff.1 hrow).1 (by omega)).trans hrow) (Nat.le_of_lt hsz) (show (1 : Nat) ≤ 400 by decide) (by decide) (fits_at HWW.out i) (fun a ha => ?_) (by rw [strips, strips, hst])
      simp at ha
      subst ha
      have hlw := HLW3.out
      exact ((hsy.keep (.of_below hb5)).keep (alike_only2 ho6 (fun b hb hb2 => by have hb' : w3.heap.size ≤ b := hb; omega))).mono (fun b hb => Nat.le_trans (Nat.le_of_lt hlw) hb))
    obtain ⟨o0, o1, o2, o3, o4, o5, o6⟩ := hz6.cells
    clear hsy hst hr4 hn4 hb5 hrow q5 hz6 ho6
    go_wp2_with fail
    refine bodyPost_ret (v := exV (.mk (mkB wNeg) ⟨#[]⟩ noVal (some ⟨w4.heap.size, 0, none⟩) 1 [y] (atT T E i))) ?_ rfl ?_
    · simp [results, Tryz.results188, go_sem, o0, o1, o2, o3, o4, o5, o6, exV]
    · exact HOKS.out x jx rfl _ _ HSAY.out
set_option maxHeartbeats 4000000 in
set_option maxRecDepth 100000 in
theorem un_pr {T : List Tok} {E : Nat} (hW : Words T E) {i : Nat} (h : isT T i wMinus = false) {r : PR} (wB w : World) (rb : Nat) (A : Option Addr) (c : Nat) (hR : RdAt T E w rb A c i) (hE : Env wB w rb)
    (IH : ∀ w' : World, RdAt T E w' rb A c i → Env wB w' rb → Calls Tryz.prog 233 #[.pointer (some ⟨rb, 0, none⟩)] w' (RSays T E rb A c w' r)) :
    Calls Tryz.prog 188 #[.pointer (some ⟨rb, 0, none⟩)] w (RSays T E rb A c w r) := by
  have hok : True := trivial
  have herr : True := trivial
  obtain ⟨w0, hw0, ho0, hb0⟩ := box_zeroE w
  have HO0 := Lib.hid ho0
  have HB0 := Lib.hid hb0
  have HW0 := Lib.hid hw0
  have T1 := Lib.hid (peek_any (hR.keep hb0) hW)
  have HR0 := Lib.hid (hR.keep hb0)
  have HWW := Lib.hid hW
  have HI := Lib.hid h
  have HE0 := Lib.hid (hE.keep hb0)
  have HEW := Lib.hid hE
  have HLT := Lib.hid hR.lt
  have HOLD := Lib.hid (show 0 < T.length → ∀ ad, A = some ad → ad.block < w.heap.size from hR.old)
  have HIH := Lib.hid IH
  have HOKX := Lib.hid hok
  have HERX := Lib.hid herr
  unfold PeekSays tokV at T1
  clear hW h IH hR hE hok herr hw0 ho0 hb0
  go_enter Tryz.func188, Tryz.ntmps188
  go_wp2_with (first | rw [HW0.out])
  refine (T1.out).mono ?_
  rintro e' w1 ⟨rfl, hb1⟩
  obtain ⟨w2, hw2⟩ : ∃ w2, w1.alloc (.cells #[.int .i64 (kindT T i), .string ⟨(textT T i).toArray⟩, .int .i64 (atT T E i)] 115) = w2 := ⟨_, rfl⟩
  have hb2 : Below w1.heap.size w1 w2 := by rw [← hw2]; exact belowNew' _ _
  have ho2 : Own3T w2 w1.heap.size (kindT T i) ⟨(textT T i).toArray⟩ (atT T E i) := by rw [← hw2]; exact own3t_new w1 _ _ _
  have h02 := below_step hb1 hb2
  have T2 := Lib.hid (has_any (HR0.out.keep h02) HWW.out ⟨#[45]⟩)
  rw [show isT T i (⟨#[45]⟩ : ByteArray).data.toList = false from HI.out] at T2
  have HO2 := Lib.hid ho2
  have HB2 := Lib.hid h02
  have HL1 := Lib.hid hb1.size
  have HW2 := Lib.hid hw2
  clear hb1 hb2 ho2 h02 hw2 T1
  go_wp2_with (first | rw [HW2.out])
  refine (T2.out).mono ?_
  rintro e' w3 ⟨rfl, hr3, hn3⟩
  have HR3 := Lib.hid (show RdAt T E w3 rb A c (i) from hr3)
  have HN3 := Lib.hid ((Only.of_below (S := fun k => k = rb) (below_step HB0.out HB2.out)).trans hn3)
  have hne : w1.heap.size ≠ rb := by have := HR0.out.lt; have := HL1.out; omega
  have hne6 : w1.heap.size ≠ w.heap.size := by have := HO0.out.lt; have := HL1.out; omega
  have ho3 : Own3T w3 w1.heap.size (kindT T i) ⟨(textT T i).toArray⟩ (atT T E i) := (hn3.block _ HO2.out.lt hne).trans HO2.out
  obtain ⟨d0, d1, d2⟩ := ho3.cells
  have hz3 : Own7 w3 w.heap.size zeroE := (hn3.block _ (HO0.out.keep HB2.out).lt (by have := HLT.out; omega)).trans (HO0.out.keep HB2.out)
  have HZ3 := Lib.hid hz3
  have HLW3 := Lib.hid (show w.heap.size < w3.heap.size from hz3.lt)
  have HZ4 := Lib.hid (show ∀ w4, Only (fun k => k = rb) w3.drew w4 → Own7 w4 w.heap.size zeroE from fun w4 h4 => (h4.block _ hz3.lt (by have := HLT.out; omega)).trans hz3)
  have HZ4 := Lib.hid (show ∀ w4, Only (fun k => k = rb) w3 w4 → Own7 w4 w.heap.size zeroE from fun w4 h4 => (h4.block _ hz3.lt (by have := HLT.out; omega)).trans hz3)
  have T3 := Lib.hid (HIH.out w3 hr3 (HE0.out.only ((Only.of_below HB2.out).trans hn3)))
  clear hr3 hn3 hz3 T2
  go_wp2_with fail
  match r, T3 with
  | .error k, T3 =>
    refine (T3.out).mono ?_
    rintro e w4 ⟨rfl, hn4⟩
    have HF := Lib.hid (HN3.out.trans hn4)
    clear hn4
    unfold wrongAt
    go_wp2_with fail
    exact ⟨rfl, rfl, HF.out⟩
  | .ok (x, jx), T3 =>
    refine (T3.out).mono ?_
    rintro e w4 ⟨y, rfl, hsy, hst, hr4, hn4⟩
    have HSY := Lib.hid hsy
    have HST := Lib.hid hst
    have HR4 := Lib.hid hr4
    have HN4 := Lib.hid (HN3.out.trans hn4)
    have HZZ := Lib.hid (HZ4.out w4 hn4)
    clear hsy hst hr4 hn4
    go_wp2_with (first
      | (refine wpList_put7 rfl (.tmp 2) (.tmp 15) rfl (X := y) HZZ.out rfl (by rfl) ?_; intro w6 hz6 ho6; have HZ6 := Lib.hid hz6; have HO6 := Lib.hid ho6; clear hz6 ho6))
    obtain ⟨o0, o1, o2, o3, o4, o5, o6⟩ := HZ6.out.cells
    refine bodyPost_ret (v := exV y) ?_ rfl ?_
    · simp [results, Tryz.results188, go_sem, o0, o1, o2, o3, o4, o5, o6, exV]
    · exact says_put HN4.out HR4.out HSY.out (fun b hb => by have := HLW3.out; have hb' : w3.heap.size ≤ b := hb; exact ⟨by omega, by omega⟩) HST.out HO6.out rfl HLT.out HOLD.out
set_option maxHeartbeats 4000000 in
set_option maxRecDepth 100000 in
theorem lv_not {T : List Tok} {E : Nat} (hW : Words T E) {i : Nat} (h : isT T i wNot = true) {r r' : PR} (wB w : World) (rb : Nat) (A : Option Addr) (c : Nat) (hR : RdAt T E w rb A c i) (hE : Env wB w rb)
    (IH : ∀ w' : World, RdAt T E w' rb A c (i + 1) → Env wB w' rb → Calls Tryz.prog 147 #[.pointer (some ⟨rb, 0, none⟩), .int .i64 2] w' (RSays T E rb A c w' r))
    (hok : ∀ x j, r = .ok (x, j) → r' = .ok (opEx wNot [x] (atT T E i), j)) (herr : ∀ k, r = .error k → r' = .error k) :
    Calls Tryz.prog 147 #[.pointer (some ⟨rb, 0, none⟩), .int .i64 2] w (RSays T E rb A c w r') := by
  obtain ⟨w0, hw0, ho0, hb0⟩ := box_zeroE w
  have HO0 := Lib.hid ho0
  have HB0 := Lib.hid hb0
  have HW0 := Lib.hid hw0
  have T1 := Lib.hid (peek_any (hR.keep hb0) hW)
  have HR0 := Lib.hid (hR.keep hb0)
  have HWW := Lib.hid hW
  have HI := Lib.hid h
  have HE0 := Lib.hid (hE.keep hb0)
  have HEW := Lib.hid hE
  have HLT := Lib.hid hR.lt
  have HOLD := Lib.hid (show 0 < T.length → ∀ ad, A = some ad → ad.block < w.heap.size from hR.old)
  have HIH := Lib.hid IH
  have HOKX := Lib.hid hok
  have HERX := Lib.hid herr
  unfold PeekSays tokV at T1
  clear hW h IH hR hE hok herr hw0 ho0 hb0
  go_enter Tryz.func147, Tryz.ntmps147
  go_wp2_with (first | rw [HW0.out])
  refine (T1.out).mono ?_
  rintro e' w1 ⟨rfl, hb1⟩
  obtain ⟨w2, hw2⟩ : ∃ w2, w1.alloc (.cells #[.int .i64 (kindT T i), .string ⟨(textT T i).toArray⟩, .int .i64 (atT T E i)] 115) = w2 := ⟨_, rfl⟩
  have hb2 : Below w1.heap.size w1 w2 := by rw [← hw2]; exact belowNew' _ _
  have ho2 : Own3T w2 w1.heap.size (kindT T i) ⟨(textT T i).toArray⟩ (atT T E i) := by rw [← hw2]; exact own3t_new w1 _ _ _
  have h02 := below_step hb1 hb2
  have T2 := Lib.hid (has_any (HR0.out.keep h02) HWW.out ⟨#[110, 111, 116]⟩)
  rw [show isT T i (⟨#[110, 111, 116]⟩ : ByteArray).data.toList = true from HI.out] at T2
  have HO2 := Lib.hid ho2
  have HB2 := Lib.hid h02
  have HL1 := Lib.hid hb1.size
  have HW2 := Lib.hid hw2
  clear hb1 hb2 ho2 h02 hw2 T1
  go_wp2_with (first | rw [HW2.out])
  refine (T2.out).mono ?_
  rintro e' w3 ⟨rfl, hr3, hn3⟩
  have HR3 := Lib.hid (show RdAt T E w3 rb A c (i + 1) from hr3)
  have HN3 := Lib.hid ((Only.of_below (S := fun k => k = rb) (below_step HB0.out HB2.out)).trans hn3)
  have hne : w1.heap.size ≠ rb := by have := HR0.out.lt; have := HL1.out; omega
  have hne6 : w1.heap.size ≠ w.heap.size := by have := HO0.out.lt; have := HL1.out; omega
  have ho3 : Own3T w3 w1.heap.size (kindT T i) ⟨(textT T i).toArray⟩ (atT T E i) := (hn3.block _ HO2.out.lt hne).trans HO2.out
  obtain ⟨d0, d1, d2⟩ := ho3.cells
  have hz3 : Own7 w3 w.heap.size zeroE := (hn3.block _ (HO0.out.keep HB2.out).lt (by have := HLT.out; omega)).trans (HO0.out.keep HB2.out)
  have HZ3 := Lib.hid hz3
  have HLW3 := Lib.hid (show w.heap.size < w3.heap.size from hz3.lt)
  have HZ4 := Lib.hid (show ∀ w4, Only (fun k => k = rb) w3.drew w4 → Own7 w4 w.heap.size zeroE from fun w4 h4 => (h4.block _ hz3.lt (by have := HLT.out; omega)).trans hz3)
  have T3d := Lib.hid (HIH.out w3.drew (hr3.keep (Below.refl _ _).drew) (HE0.out.only ((Only.of_below HB2.out).trans (hn3.drew))))
  have HRD := Lib.hid (show True from trivial)
  have HERR := Lib.hid (show ∀ k, r = .error k → ∀ w4, Only (fun k => k = rb) w3.drew w4 → RSays T E rb A c w r' (wrongAt k) w4 from fun k hk w4 h4 => by rw [HERX.out k hk]; exact ⟨rfl, HN3.out.trans h4.drewL⟩)
  have HOKS := Lib.hid (show ∀ x j, r = .ok (x, j) → ∀ e w6, RSays T E rb A c w (.ok (opEx wNot [x] (atT T E i), j)) e w6 → RSays T E rb A c w r' e w6 from fun x j hx e w6 h => by rw [HOKX.out x j hx]; exact h)
  clear hr3 hn3 hz3 T2
  go_wp2_with fail
  match r, T3d, HRD with
  | .error k, T3d, HRD =>
    refine wp_region_held (S := fun w' => w'.cell? ⟨w1.heap.size, 2, none⟩ = some (.int .i64 (atT T E i))) (by kernel_rfl) ?_
    change wpAnyH _ _ _ _ _ _ _ _ w3.drew
    have HS : (fun w' : World => w'.cell? ⟨w1.heap.size, 2, none⟩ = some (.int .i64 (atT T E i))) w3.drew := d2
    refine takeH (i := 0) (d := some 16) (v := .pointer (some ⟨w1.heap.size, 2, none⟩)) rfl rfl (by kernel_rfl) (by kernel_rfl) (by kernel_rfl) (fun _ _ _ h => h) (Or.inl ⟨by rfl, fun w' hS => by dsimp only at hS; first | go_simp | (obtain ⟨hS1, hS2⟩ := hS; go_simp)⟩) HS ?_
    refine takeH (i := 1) (d := some 17) (v := .int .i64 (atT T E i)) rfl rfl (by kernel_rfl) (by kernel_rfl) (by kernel_rfl) (fun _ _ _ h => h) (Or.inl ⟨by rfl, fun w' hS => by dsimp only at hS; first | go_simp | (obtain ⟨hS1, hS2⟩ := hS; go_simp)⟩) HS ?_
    refine takeH (i := 2) (d := some 18) (v := .pointer (some ⟨rb, 0, none⟩)) rfl rfl (by kernel_rfl) (by kernel_rfl) (by kernel_rfl) (fun _ _ _ h => h) (Or.inl ⟨by rfl, fun w' hS => by dsimp only at hS; first | go_simp | (obtain ⟨hS1, hS2⟩ := hS; go_simp)⟩) HS ?_
    refine takeH (i := 3) (d := some 19) (v := .int .i64 2) rfl rfl (by kernel_rfl) (by kernel_rfl) (by kernel_rfl) (fun _ _ _ h => h) (Or.inl ⟨by rfl, fun w' hS => by dsimp only at hS; first | go_simp | (obtain ⟨hS1, hS2⟩ := hS; go_simp)⟩) HS ?_
    simp only [Act.put, List.setIfInBounds_toArray, List.set_cons_zero, List.set_cons_succ]
    refine wpAnyH_all (rs := [4]) (by kernel_rfl) (by simp) (fun j hj => ?_)
    obtain rfl : j = 4 := by simpa using hj
    exact wpOp_panics rfl (by rfl) (f := 147) (args := #[.pointer (some ⟨rb, 0, none⟩), .int .i64 2]) (by go_simp) (T3d.out.mono fun e w' ⟨h1, h2⟩ => ⟨h1, h2⟩) (fun w4 hn4 => ⟨rfl, HERR.out k rfl w4 hn4⟩)
  | .ok (x, jx), T3d, HRD =>
    refine wp_region_held (S := fun w' => w'.cell? ⟨w1.heap.size, 2, none⟩ = some (.int .i64 (atT T E i))) (by kernel_rfl) ?_
    change wpAnyH _ _ _ _ _ _ _ _ w3.drew
    have HS : (fun w' : World => w'.cell? ⟨w1.heap.size, 2, none⟩ = some (.int .i64 (atT T E i))) w3.drew := d2
    refine takeH (i := 0) (d := some 16) (v := .pointer (some ⟨w1.heap.size, 2, none⟩)) rfl rfl (by kernel_rfl) (by kernel_rfl) (by kernel_rfl) (fun _ _ _ h => h) (Or.inl ⟨by rfl, fun w' hS => by dsimp only at hS; first | go_simp | (obtain ⟨hS1, hS2⟩ := hS; go_simp)⟩) HS ?_
    refine takeH (i := 1) (d := some 17) (v := .int .i64 (atT T E i)) rfl rfl (by kernel_rfl) (by kernel_rfl) (by kernel_rfl) (fun _ _ _ h => h) (Or.inl ⟨by rfl, fun w' hS => by dsimp only at hS; first | go_simp | (obtain ⟨hS1, hS2⟩ := hS; go_simp)⟩) HS ?_
    refine takeH (i := 2) (d := some 18) (v := .pointer (some ⟨rb, 0, none⟩)) rfl rfl (by kernel_rfl) (by kernel_rfl) (by kernel_rfl) (fun _ _ _ h => h) (Or.inl ⟨by rfl, fun w' hS => by dsimp only at hS; first | go_simp | (obtain ⟨hS1, hS2⟩ := hS; go_simp)⟩) HS ?_
    refine takeH (i := 3) (d := some 19) (v := .int .i64 2) rfl rfl (by kernel_rfl) (by kernel_rfl) (by kernel_rfl) (fun _ _ _ h => h) (Or.inl ⟨by rfl, fun w' hS => by dsimp only at hS; first | go_simp | (obtain ⟨hS1, hS2⟩ := hS; go_simp)⟩) HS ?_
    simp only [Act.put, List.setIfInBounds_toArray, List.set_cons_zero, List.set_cons_succ]
    refine wpAnyH_all (rs := [4]) (by kernel_rfl) (by simp) (fun j hj => ?_)
    obtain rfl : j = 4 := by simpa using hj
    refine wpOp_returnsD (d := some 20) rfl rfl (by rfl) (f := 147) (args := #[.pointer (some ⟨rb, 0, none⟩), .int .i64 2]) (by go_simp) T3d.out ?_
    rintro e w4 ⟨y, rfl, hsy, hst, hr4, hn4⟩
    refine ⟨_, rfl, only_cell hn4 d2 hne, ?_⟩
    unfold exV
    simp only [Act.put, List.setIfInBounds_toArray, List.set_cons_zero, List.set_cons_succ]
    refine wpAnyH_all (rs := [5]) (by kernel_rfl) (by simp) (fun j hj => ?_)
    obtain rfl : j = 5 := by simpa using hj
    have hb5 := belowNew' w4 (.cells #[.string y.op, .string y.name, .int .i64 y.val.type, .int .i64 y.val.n, .string y.val.s, .slice y.A y.args.length y.c, .int .i64 y.pos] 26)
    have hrow : (w4.alloc (.cells #[.string y.op, .string y.name, .int .i64 y.val.type, .int .i64 y.val.n, .string y.val.s, .slice y.A y.args.length y.c, .int .i64 y.pos] 26)).heap[w4.heap.size]? = some (.cells (exsCells [y]).toArray 26 (0, 0)) := heap_alloc_new w4 _
    refine wpOp_valueD (d := some 21) rfl rfl (by rfl) (v := .slice (some ⟨w4.heap.size, 0, none⟩) 1 1) (w' := w4.alloc (.cells #[.string y.op, .string y.name, .int .i64 y.val.type, .int .i64 y.val.n, .string y.val.s, .slice y.A y.args.length y.c, .int .i64 y.pos] 26)) (by go_simp) ?_
    generalize w4.alloc (.cells #[.string y.op, .string y.name, .int .i64 y.val.type, .int .i64 y.val.n, .string y.val.s, .slice y.A y.args.length y.c, .int .i64 y.pos] 26) = w5 at hb5 hrow ⊢
    have q5 := (hb5.cell (p := ⟨w1.heap.size, 2, none⟩) (Nat.lt_of_lt_of_le ho3.lt hn4.size)).trans (only_cell hn4 d2 hne)
    refine ⟨q5, ?_⟩
    simp only [Act.put, List.setIfInBounds_toArray, List.set_cons_zero, List.set_cons_succ]
    refine wpAnyH_all (rs := [6]) (by kernel_rfl) (by simp) (fun j hj => ?_)
    obtain rfl : j = 6 := by simpa using hj
    have bd := run_op ⟨#[110, 111, 116]⟩ (atT T E i) (some ⟨w4.heap.size, 0, none⟩) 1 1 w5
    refine wpOp_valueD (d := some 22) rfl rfl (by rfl) (v := .agg #[.string ⟨#[110, 111, 116]⟩, .string ⟨#[]⟩, .int .i64 0, .int .i64 0, .string ⟨#[]⟩, .slice (some ⟨w4.heap.size, 0, none⟩) 1 1, .int .i64 (atT T E i)]) (w' := w5) (by go_simp) ?_
    refine ⟨q5, ?_⟩
    simp only [Act.put, List.setIfInBounds_toArray, List.set_cons_zero, List.set_cons_succ]
    refine wpAnyH_all (rs := [7]) (by kernel_rfl) (by simp) (fun j hj => ?_)
    obtain rfl : j = 7 := by simpa using hj
    refine wpOp_store7 rfl rfl _ _ rfl rfl (X := .mk (mkB wNot) ⟨#[]⟩ noVal (some ⟨w4.heap.size, 0, none⟩) 1 [y] (atT T E i)) ((HZ4.out w4 hn4).keep hb5) rfl rfl ?_
    intro w6 hz6 ho6
    refine ⟨only_cell ho6 q5 hne6, ?_⟩
    refine wpAnyH_done (by kernel_rfl) ?_ _
    have HSAY := Lib.hid (show RSays T E rb A c w (.ok (opEx wNot [x] (atT T E i), jx)) (.returned (exV (.mk (mkB wNot) ⟨#[]⟩ noVal (some ⟨w4.heap.size, 0, none⟩) 1 [y] (atT T E i)))) w6 from by
      have hsz : w.heap.size < w4.heap.size := Nat.lt_of_lt_of_le HLW3.out hn4.size
      refine says_op (l := [y]) ((HN3.out.trans (hn4.drewL.trans (.of_below hb5))).then_new ho6 (Nat.le_refl _)) ((hr4.keep hb5).other ho6 (by have := HLT.out; omega) (fun h0 ad e => by have := HOLD.out h0 ad e; omega)) ((ho6.block _ (Array.getElem?_eq_some_iff.1 hrow).1 (by omega)).trans hrow) (Nat.le_of_lt hsz) (show (1 : Nat) ≤ 400 by decide) (by decide) (fits_at HWW.out i) (fun a ha => ?_) (by rw [strips, strips, hst])
      simp at ha
      subst ha
      have hlw := HLW3.out
      exact ((hsy.keep (.of_below hb5)).keep (alike_only2 ho6 (fun b hb hb2 => by have hb' : w3.heap.size ≤ b := hb; omega))).mono (fun b hb => Nat.le_trans (Nat.le_of_lt hlw) hb))
    obtain ⟨o0, o1, o2, o3, o4, o5, o6⟩ := hz6.cells
    clear hsy hst hr4 hn4 hb5 hrow q5 hz6 ho6
    go_wp2_with fail
    refine bodyPost_ret (v := exV (.mk (mkB wNot) ⟨#[]⟩ noVal (some ⟨w4.heap.size, 0, none⟩) 1 [y] (atT T E i))) ?_ rfl ?_
    · simp [results, Tryz.results147, go_sem, o0, o1, o2, o3, o4, o5, o6, exV]
    · exact HOKS.out x jx rfl _ _ HSAY.out
set_option maxHeartbeats 4000000 in
set_option maxRecDepth 100000 in
theorem lv_un {T : List Tok} {E : Nat} {i : Nat} {r : PR} (wB w : World) (rb : Nat) (A : Option Addr) (c : Nat) (hR : RdAt T E w rb A c i) (hE : Env wB w rb)
    (IH : ∀ w' : World, RdAt T E w' rb A c i → Env wB w' rb → Calls Tryz.prog 188 #[.pointer (some ⟨rb, 0, none⟩)] w' (RSays T E rb A c w' r)) :
    Calls Tryz.prog 147 #[.pointer (some ⟨rb, 0, none⟩), .int .i64 5] w (RSays T E rb A c w r) := by
  obtain ⟨w3, hw0, ho0, hb0⟩ := box_zeroE w
  have HW0 := Lib.hid hw0
  have HLT := Lib.hid hR.lt
  have HOLD := Lib.hid (show 0 < T.length → ∀ ad, A = some ad → ad.block < w.heap.size from hR.old)
  have T3 := Lib.hid (IH w3 (hR.keep hb0) (hE.keep hb0))
  have HN3 := Lib.hid (Only.of_below (S := fun k => k = rb) hb0)
  have HLW3 := Lib.hid (show w.heap.size < w3.heap.size from ho0.lt)
  have HZ4 := Lib.hid (show ∀ w4, Only (fun k => k = rb) w3 w4 → Own7 w4 w.heap.size zeroE from fun w4 h4 => (h4.block _ ho0.lt (by have := HLT.out; omega)).trans ho0)
  clear hR hE IH hw0 ho0 hb0
  go_enter Tryz.func147, Tryz.ntmps147
  go_wp2_with (first | rw [HW0.out])
  match r, T3 with
  | .error k, T3 =>
    refine (T3.out).mono ?_
    rintro e w4 ⟨rfl, hn4⟩
    have HF := Lib.hid (HN3.out.trans hn4)
    clear hn4
    unfold wrongAt
    go_wp2_with fail
    exact ⟨rfl, rfl, HF.out⟩
  | .ok (x, jx), T3 =>
    refine (T3.out).mono ?_
    rintro e w4 ⟨y, rfl, hsy, hst, hr4, hn4⟩
    have HSY := Lib.hid hsy
    have HST := Lib.hid hst
    have HR4 := Lib.hid hr4
    have HN4 := Lib.hid (HN3.out.trans hn4)
    have HZZ := Lib.hid (HZ4.out w4 hn4)
    clear hsy hst hr4 hn4
    go_wp2_with (first
      | (refine wpList_put7 rfl (.tmp 4) (.tmp 26) rfl (X := y) HZZ.out rfl (by rfl) ?_; intro w6 hz6 ho6; have HZ6 := Lib.hid hz6; have HO6 := Lib.hid ho6; clear hz6 ho6))
    obtain ⟨o0, o1, o2, o3, o4, o5, o6⟩ := HZ6.out.cells
    refine bodyPost_ret (v := exV y) ?_ rfl ?_
    · simp [results, Tryz.results147, go_sem, o0, o1, o2, o3, o4, o5, o6, exV]
    · exact says_put HN4.out HR4.out HSY.out (fun b hb => by have := HLW3.out; have hb' : w3.heap.size ≤ b := hb; exact ⟨by omega, by omega⟩) HST.out HO6.out rfl HLT.out HOLD.out
end Go.Proofs.YtpbbkpfaphjdoaaGreatDoor
namespace Go.Proofs.YtpbbkpfaphjdoaaGreatDoor
open Go.ChangeShapes Go.WideShapes Go.ChangeAt Go.RowKit

theorem own7_only {S : Nat → Prop} {w w' : World} {b : Nat} {e : Ex} (h : Own7 w b e) (ho : Only S w w') (hs : ¬ S b) : Own7 w' b e := (ho.block b h.lt hs).trans h
theorem own3t_only {S : Nat → Prop} {w w' : World} {b : Nat} {k : Int} {s : ByteArray} {p : Int} (h : Own3T w b k s p) (ho : Only S w w') (hs : ¬ S b) : Own3T w' b k s p := (ho.block b h.lt hs).trans h
set_option maxHeartbeats 16000000 in
set_option maxRecDepth 100000 in
theorem lv_go {T : List Tok} {E : Nat} (hW : Words T E) {n i : Nat} (hn : n < 5) (h2 : n = 2 → isT T i wNot = false) {r r1 : PR} (wB w : World) (rb : Nat) (A : Option Addr) (c : Nat) (hR : RdAt T E w rb A c i) (hE : Env wB w rb)
    (IH1 : ∀ w' : World, RdAt T E w' rb A c i → Env wB w' rb → Calls Tryz.prog 147 #[.pointer (some ⟨rb, 0, none⟩), .int .i64 ((n : Int) + 1)] w' (RSays T E rb A c w' r1))
    (IH2 : ∀ (i' : Nat) (r' : PR), i < i' → i' ≤ T.length → Rd T E (.lv (n + 1)) i' r' → ∀ w' : World, RdAt T E w' rb A c i' → Env wB w' rb → Calls Tryz.prog 147 #[.pointer (some ⟨rb, 0, none⟩), .int .i64 ((n : Int) + 1)] w' (RSays T E rb A c w' r'))
    (hok : ∀ x j, r1 = .ok (x, j) → i < j ∧ Rd T E (.lp n x) j r) (herr : ∀ k, r1 = .error k → r = .error k) :
    Calls Tryz.prog 147 #[.pointer (some ⟨rb, 0, none⟩), .int .i64 n] w (RSays T E rb A c w r) := by
  have hn5 : (n : Int) < 5 := by omega
  have hnw : IntKind.i64.wrap ((n : Int) + 1) = (n : Int) + 1 := IntWalk.i64_in _ (by omega)
  have g5 : ((n : Int) == 5) = false := beq_eq_false_iff_ne.2 (by omega)
  have HIH2 := Lib.hid IH2
  have HN5 := Lib.hid hn
  by_cases hn2 : n = 2
  · have g2 : ((n : Int) == 2) = true := beq_iff_eq.2 (by omega)
    have h := h2 hn2
    have IH := IH1
    clear hn2 hn h2 IH1 IH2
    obtain ⟨w0, hw0, ho0, hb0⟩ := box_zeroE w
    have HO0 := Lib.hid ho0
    have HB0 := Lib.hid hb0
    have HW0 := Lib.hid hw0
    have T1 := Lib.hid (peek_any (hR.keep hb0) hW)
    have HR0 := Lib.hid (hR.keep hb0)
    have HWW := Lib.hid hW
    have HI := Lib.hid h
    have HE0 := Lib.hid (hE.keep hb0)
    have HEW := Lib.hid hE
    have HLT := Lib.hid hR.lt
    have HOLD := Lib.hid (show 0 < T.length → ∀ ad, A = some ad → ad.block < w.heap.size from hR.old)
    have HIH := Lib.hid IH
    have HOKX := Lib.hid hok
    have HERX := Lib.hid herr
    unfold PeekSays tokV at T1
    clear hW h IH hR hE hok herr hw0 ho0 hb0
    go_enter Tryz.func147, Tryz.ntmps147
    go_wp2_with (first | rw [HW0.out])
    refine (T1.out).mono ?_
    rintro e' w1 ⟨rfl, hb1⟩
    obtain ⟨w2, hw2⟩ : ∃ w2, w1.alloc (.cells #[.int .i64 (kindT T i), .string ⟨(textT T i).toArray⟩, .int .i64 (atT T E i)] 115) = w2 := ⟨_, rfl⟩
    have hb2 : Below w1.heap.size w1 w2 := by rw [← hw2]; exact belowNew' _ _
    have ho2 : Own3T w2 w1.heap.size (kindT T i) ⟨(textT T i).toArray⟩ (atT T E i) := by rw [← hw2]; exact own3t_new w1 _ _ _
    have h02 := below_step hb1 hb2
    have T2 := Lib.hid (has_any (HR0.out.keep h02) HWW.out ⟨#[110, 111, 116]⟩)
    rw [show isT T i (⟨#[110, 111, 116]⟩ : ByteArray).data.toList = false from HI.out] at T2
    have HO2 := Lib.hid ho2
    have HB2 := Lib.hid h02
    have HL1 := Lib.hid hb1.size
    have HW2 := Lib.hid hw2
    clear hb1 hb2 ho2 h02 hw2 T1
    go_wp2_with (first | rw [HW2.out])
    refine (T2.out).mono ?_
    rintro e' w3 ⟨rfl, hr3, hn3⟩
    have HR3 := Lib.hid (show RdAt T E w3 rb A c (i) from hr3)
    have HN3 := Lib.hid ((Only.of_below (S := fun k => k = rb) (below_step HB0.out HB2.out)).trans hn3)
    have hne : w1.heap.size ≠ rb := by have := HR0.out.lt; have := HL1.out; omega
    have hne6 : w1.heap.size ≠ w.heap.size := by have := HO0.out.lt; have := HL1.out; omega
    have ho3 : Own3T w3 w1.heap.size (kindT T i) ⟨(textT T i).toArray⟩ (atT T E i) := (hn3.block _ HO2.out.lt hne).trans HO2.out
    obtain ⟨d0, d1, d2⟩ := ho3.cells
    have hz3 : Own7 w3 w.heap.size zeroE := (hn3.block _ (HO0.out.keep HB2.out).lt (by have := HLT.out; omega)).trans (HO0.out.keep HB2.out)
    have HZ3 := Lib.hid hz3
    have HLW3 := Lib.hid (show w.heap.size < w3.heap.size from hz3.lt)
    have HZ4 := Lib.hid (show ∀ w4, Only (fun k => k = rb) w3.drew w4 → Own7 w4 w.heap.size zeroE from fun w4 h4 => (h4.block _ hz3.lt (by have := HLT.out; omega)).trans hz3)
    have HE3 := Lib.hid (show Env wB w rb from HEW.out)
    have T3 := Lib.hid (HIH.out w3 hr3 (HE0.out.only ((Only.of_below HB2.out).trans hn3)))
    have HB6R := Lib.hid (show ∀ b6 : Nat, w.heap.size < b6 → b6 ≠ rb from fun b6 h => by have := HLT.out; omega)
    clear hr3 hn3 hz3 T2 d0 d1 d2 ho3 hne hne6
    go_wp2_with fail
    match r1, T3, HOKX, HERX with
    | .error k, T3, HOKX, HERX =>
      refine (T3.out).mono ?_
      rintro e w4 ⟨rfl, hn4⟩
      have HF := Lib.hid (show RSays T E rb A c w r (wrongAt k) w4 from by rw [HERX.out k rfl]; exact ⟨rfl, HN3.out.trans hn4⟩)
      clear hn4
      unfold wrongAt at *
      go_wp2_with fail
      exact ⟨rfl, HF.out⟩
    | .ok (x0, j0), T3, HOKX, HERX =>
      refine (T3.out).mono ?_
      rintro e w4 ⟨y0, rfl, hsy, hst, hr4, hn4⟩
      obtain ⟨w5, hw5, ho5, hb5, -⟩ := box_ex w4 y0
      have HW5 := Lib.hid hw5
      have HB6 := Lib.hid (show w.heap.size < w4.heap.size from Nat.lt_of_lt_of_le HLW3.out hn4.size)
      have HST := Lib.hid (show LpAt T E rb A c w i w4.heap.size n r w5 from ⟨j0, y0, x0, (HOKX.out x0 j0 rfl).2, hst, ho5, ((seesS_lt2 hsy).keep (.of_below hb5)).mono (fun b hb => ⟨Nat.lt_of_lt_of_le HLW3.out hb.1, by have := hb.2; omega⟩), hr4.keep hb5, (HN3.out.trans hn4).trans (.of_below hb5), (own7_only HZ3.out hn4 (by have := HLT.out; omega)).keep hb5, (HOKX.out x0 j0 rfl).1⟩)
      clear hw5 ho5 hb5 hsy hst hr4 hn4
      unfold exV
      go_wp2_with (first | rw [HW5.out])
      generalize hb6 : w4.heap.size = b6 at HST HB6
      clear hb6
      go_loopw [8] (fun _ wr => LpAt T E rb A c w i b6 n r wr) (fun _ wr => T.length - rdIdx wr rb)
      case atStart => exact HST.out
      case round =>
        obtain ⟨j, y, x, hrd, hst, ho6, hsy, hrj, hNr, hzr, hij⟩ := hrel
        have HEr := Lib.hid (HE3.out.only hNr)
        obtain ⟨ZA, Zc, hz⟩ := HEr.out.lev.keep HEr.out.below
        obtain ⟨z1, z2⟩ := hz n HN5.out
        have zcap : (lvlB n).length ≤ Zc n := z2.2.1
        have zmax : Zc n ≤ maxLen := z2.2.2.1
        unfold maxLen at zmax
        have T8 := Lib.hid (one_any hrj HWW.out n (ZA n) (lvlB n).length (Zc n) z2)
        have HRD := Lib.hid (lp_cases hrd)
        have HO6 := Lib.hid ho6
        have HSY := Lib.hid hsy
        have HSTR := Lib.hid hst
        have HNR := Lib.hid hNr
        have HZR := Lib.hid hzr
        have HIJ := Lib.hid hij
        have HIX := Lib.hid hrj.idx
        have HJN := Lib.hid hrj.le
        have hlb6 := ho6.lt
        unfold OneSays tokV at T8
        clear hrd hst ho6 hsy hrj hNr hzr hij hz z2
        go_wp2_with fail
        refine (T8.out).mono ?_
        rintro e' wa (⟨s, hs, rfl, hra, hna⟩ | ⟨hs, he, hra, hna⟩)
        · have hts : textT T j = s := isT_text (sgT_some hs).2
          rw [hts]
          have HSG := Lib.hid hs
          have hjl : j < T.length := isT_lt (sgT_some hs).2
          obtain ⟨wb, hwb⟩ : ∃ wb, wa.alloc (.cells #[.int .i64 (kindT T j), .string ⟨s.toArray⟩, .int .i64 (atT T E j)] 115) = wb := ⟨_, rfl⟩
          have hbb : Below wa.heap.size wa wb := by rw [← hwb]; exact belowNew' _ _
          have hob : Own3T wb wa.heap.size (kindT T j) ⟨s.toArray⟩ (atT T E j) := by rw [← hwb]; exact own3t_new wa _ _ _
          have ho6b : Own7 wb b6 y := (own7_only HO6.out hna (HB6R.out b6 HB6.out)).keep hbb
          obtain ⟨wc, hwc, hoc, hbc, -⟩ := box_ex wb y
          have hobc := hob.keep hbc
          have hNc : Only (fun k => k = rb) wr wc := (hna.trans (.of_below hbb)).trans (.of_below hbc)
          have HRC := Lib.hid ((hra.keep hbb).keep hbc)
          have HNC := Lib.hid (HNR.out.trans hNc)
          have HO6C := Lib.hid (ho6b.keep hbc)
          have HZC := Lib.hid (own7_only HZR.out hNc (by have := HLT.out; omega))
          have HSYC := Lib.hid ((HSY.out.keep (alike_only2 hNc (fun b hb hb2 => by have := HLT.out; have := hb.1; omega))))
          have HOT := Lib.hid hobc
          have HO9 := Lib.hid hoc
          have HSA := Lib.hid (show rb < wa.heap.size ∧ b6 < wa.heap.size ∧ wr.heap.size ≤ wa.heap.size ∧ wa.heap.size < wb.heap.size from ⟨hra.lt, Nat.lt_of_lt_of_le HO6.out.lt hna.size, hna.size, hob.lt⟩)
          have HWb := Lib.hid hwb
          have HWc := Lib.hid hwc
          obtain ⟨v0, v1, v2, v3, v4, v5, v6⟩ := ho6b.cells
          have hl6b := ho6b.lt
          clear hwb hbb hob ho6b hwc hoc hbc hobc hNc hra hna hts hs T8 z1
          go_wp2_with (first | rw [HWb.out] | rw [HWc.out])
          rcases HRD.out with ⟨h, -⟩ | ⟨s', k, h, a, hr⟩ | ⟨s', x2, j2, h, a, hr⟩
          · rw [HSG.out] at h; cases h
          · have T9 := Lib.hid (HIH2.out (j + 1) (.error k) (by have := HIJ.out; omega) hjl a wc.drew (HRC.out.keep (Below.refl _ _).drew) (HE3.out.only HNC.out.drew))
            refine wp_region_held (S := fun w' => Own3T w' wa.heap.size (kindT T j) ⟨s.toArray⟩ (atT T E j) ∧ Own7 w' wb.heap.size y) (by kernel_rfl) ?_
            change wpAnyH _ _ _ _ _ _ _ _ wc.drew
            have HS : (fun w' : World => Own3T w' wa.heap.size (kindT T j) ⟨s.toArray⟩ (atT T E j) ∧ Own7 w' wb.heap.size y) wc.drew := ⟨HOT.out, HO9.out⟩
            refine takeH (i := 0) (d := some 43) (v := .pointer (some ⟨wa.heap.size, 1, none⟩)) rfl rfl (by kernel_rfl) (by kernel_rfl) (by kernel_rfl) (fun _ _ _ h => h) (Or.inl ⟨by rfl, fun w' hS => by obtain ⟨hS1, hS2⟩ := hS; obtain ⟨d0, d1, d2⟩ := hS1.cells; obtain ⟨e0, e1, e2, e3, e4, e5, e6⟩ := hS2.cells; go_simp⟩) HS ?_
            refine takeH (i := 1) (d := some 44) (v := .string ⟨s.toArray⟩) rfl rfl (by kernel_rfl) (by kernel_rfl) (by kernel_rfl) (fun _ _ _ h => h) (Or.inl ⟨by rfl, fun w' hS => by obtain ⟨hS1, hS2⟩ := hS; obtain ⟨d0, d1, d2⟩ := hS1.cells; obtain ⟨e0, e1, e2, e3, e4, e5, e6⟩ := hS2.cells; go_simp⟩) HS ?_
            refine takeH (i := 2) (d := some 45) (v := .pointer (some ⟨wa.heap.size, 2, none⟩)) rfl rfl (by kernel_rfl) (by kernel_rfl) (by kernel_rfl) (fun _ _ _ h => h) (Or.inl ⟨by rfl, fun w' hS => by obtain ⟨hS1, hS2⟩ := hS; obtain ⟨d0, d1, d2⟩ := hS1.cells; obtain ⟨e0, e1, e2, e3, e4, e5, e6⟩ := hS2.cells; go_simp⟩) HS ?_
            refine takeH (i := 3) (d := some 46) (v := .int .i64 (atT T E j)) rfl rfl (by kernel_rfl) (by kernel_rfl) (by kernel_rfl) (fun _ _ _ h => h) (Or.inl ⟨by rfl, fun w' hS => by obtain ⟨hS1, hS2⟩ := hS; obtain ⟨d0, d1, d2⟩ := hS1.cells; obtain ⟨e0, e1, e2, e3, e4, e5, e6⟩ := hS2.cells; go_simp⟩) HS ?_
            refine takeH (i := 4) (d := some 47) (v := .agg #[.string y.op, .string y.name, .int .i64 y.val.type, .int .i64 y.val.n, .string y.val.s, .slice y.A y.args.length y.c, .int .i64 y.pos]) rfl rfl (by kernel_rfl) (by kernel_rfl) (by kernel_rfl) (fun _ _ _ h => h) (Or.inl ⟨by rfl, fun w' hS => by obtain ⟨hS1, hS2⟩ := hS; obtain ⟨d0, d1, d2⟩ := hS1.cells; obtain ⟨e0, e1, e2, e3, e4, e5, e6⟩ := hS2.cells; go_simp⟩) HS ?_
            refine takeH (i := 5) (d := some 48) (v := .pointer (some ⟨rb, 0, none⟩)) rfl rfl (by kernel_rfl) (by kernel_rfl) (by kernel_rfl) (fun _ _ _ h => h) (Or.inl ⟨by rfl, fun w' hS => by obtain ⟨hS1, hS2⟩ := hS; obtain ⟨d0, d1, d2⟩ := hS1.cells; obtain ⟨e0, e1, e2, e3, e4, e5, e6⟩ := hS2.cells; go_simp⟩) HS ?_
            refine takeH (i := 6) (d := some 49) (v := .int .i64 n) rfl rfl (by kernel_rfl) (by kernel_rfl) (by kernel_rfl) (fun _ _ _ h => h) (Or.inl ⟨by rfl, fun w' hS => by obtain ⟨hS1, hS2⟩ := hS; obtain ⟨d0, d1, d2⟩ := hS1.cells; obtain ⟨e0, e1, e2, e3, e4, e5, e6⟩ := hS2.cells; go_simp⟩) HS ?_
            refine takeH (i := 7) (d := some 50) (v := .int .i64 ((n : Int) + 1)) rfl rfl (by kernel_rfl) (by kernel_rfl) (by kernel_rfl) (fun _ _ _ h => h) (Or.inl ⟨by rfl, fun w' hS => by obtain ⟨hS1, hS2⟩ := hS; obtain ⟨d0, d1, d2⟩ := hS1.cells; obtain ⟨e0, e1, e2, e3, e4, e5, e6⟩ := hS2.cells; go_simp⟩) HS ?_
            simp only [Act.put, List.setIfInBounds_toArray, List.set_cons_zero, List.set_cons_succ]
            refine wpAnyH_all (rs := [8]) (by kernel_rfl) (by simp) (fun j hj => ?_)
            obtain rfl : j = 8 := by simpa using hj
            exact wpOp_panics rfl (by rfl) (f := 147) (args := #[.pointer (some ⟨rb, 0, none⟩), .int .i64 ((n : Int) + 1)]) (by go_simp) (T9.out.mono fun e w' ⟨h1, h2⟩ => ⟨h1, h2⟩) (fun wd hnd => ⟨rfl, by rw [hr]; exact ⟨rfl, HNC.out.trans hnd.drewL⟩⟩)
          · have T9 := Lib.hid (HIH2.out (j + 1) (.ok (x2, j2)) (by have := HIJ.out; omega) hjl a wc.drew (HRC.out.keep (Below.refl _ _).drew) (HE3.out.only HNC.out.drew))
            have HJ2 := Lib.hid (rd_on a x2 j2 rfl hjl)
            obtain rfl : s = s' := by rw [HSG.out] at h; injection h
            clear h a
            refine wp_region_held (S := fun w' => Own3T w' wa.heap.size (kindT T j) ⟨s.toArray⟩ (atT T E j) ∧ Own7 w' wb.heap.size y) (by kernel_rfl) ?_
            change wpAnyH _ _ _ _ _ _ _ _ wc.drew
            have HS : (fun w' : World => Own3T w' wa.heap.size (kindT T j) ⟨s.toArray⟩ (atT T E j) ∧ Own7 w' wb.heap.size y) wc.drew := ⟨HOT.out, HO9.out⟩
            refine takeH (i := 0) (d := some 43) (v := .pointer (some ⟨wa.heap.size, 1, none⟩)) rfl rfl (by kernel_rfl) (by kernel_rfl) (by kernel_rfl) (fun _ _ _ h => h) (Or.inl ⟨by rfl, fun w' hS => by obtain ⟨hS1, hS2⟩ := hS; obtain ⟨d0, d1, d2⟩ := hS1.cells; obtain ⟨e0, e1, e2, e3, e4, e5, e6⟩ := hS2.cells; go_simp⟩) HS ?_
            refine takeH (i := 1) (d := some 44) (v := .string ⟨s.toArray⟩) rfl rfl (by kernel_rfl) (by kernel_rfl) (by kernel_rfl) (fun _ _ _ h => h) (Or.inl ⟨by rfl, fun w' hS => by obtain ⟨hS1, hS2⟩ := hS; obtain ⟨d0, d1, d2⟩ := hS1.cells; obtain ⟨e0, e1, e2, e3, e4, e5, e6⟩ := hS2.cells; go_simp⟩) HS ?_
            refine takeH (i := 2) (d := some 45) (v := .pointer (some ⟨wa.heap.size, 2, none⟩)) rfl rfl (by kernel_rfl) (by kernel_rfl) (by kernel_rfl) (fun _ _ _ h => h) (Or.inl ⟨by rfl, fun w' hS => by obtain ⟨hS1, hS2⟩ := hS; obtain ⟨d0, d1, d2⟩ := hS1.cells; obtain ⟨e0, e1, e2, e3, e4, e5, e6⟩ := hS2.cells; go_simp⟩) HS ?_
            refine takeH (i := 3) (d := some 46) (v := .int .i64 (atT T E j)) rfl rfl (by kernel_rfl) (by kernel_rfl) (by kernel_rfl) (fun _ _ _ h => h) (Or.inl ⟨by rfl, fun w' hS => by obtain ⟨hS1, hS2⟩ := hS; obtain ⟨d0, d1, d2⟩ := hS1.cells; obtain ⟨e0, e1, e2, e3, e4, e5, e6⟩ := hS2.cells; go_simp⟩) HS ?_
            refine takeH (i := 4) (d := some 47) (v := .agg #[.string y.op, .string y.name, .int .i64 y.val.type, .int .i64 y.val.n, .string y.val.s, .slice y.A y.args.length y.c, .int .i64 y.pos]) rfl rfl (by kernel_rfl) (by kernel_rfl) (by kernel_rfl) (fun _ _ _ h => h) (Or.inl ⟨by rfl, fun w' hS => by obtain ⟨hS1, hS2⟩ := hS; obtain ⟨d0, d1, d2⟩ := hS1.cells; obtain ⟨e0, e1, e2, e3, e4, e5, e6⟩ := hS2.cells; go_simp⟩) HS ?_
            refine takeH (i := 5) (d := some 48) (v := .pointer (some ⟨rb, 0, none⟩)) rfl rfl (by kernel_rfl) (by kernel_rfl) (by kernel_rfl) (fun _ _ _ h => h) (Or.inl ⟨by rfl, fun w' hS => by obtain ⟨hS1, hS2⟩ := hS; obtain ⟨d0, d1, d2⟩ := hS1.cells; obtain ⟨e0, e1, e2, e3, e4, e5, e6⟩ := hS2.cells; go_simp⟩) HS ?_
            refine takeH (i := 6) (d := some 49) (v := .int .i64 n) rfl rfl (by kernel_rfl) (by kernel_rfl) (by kernel_rfl) (fun _ _ _ h => h) (Or.inl ⟨by rfl, fun w' hS => by obtain ⟨hS1, hS2⟩ := hS; obtain ⟨d0, d1, d2⟩ := hS1.cells; obtain ⟨e0, e1, e2, e3, e4, e5, e6⟩ := hS2.cells; go_simp⟩) HS ?_
            refine takeH (i := 7) (d := some 50) (v := .int .i64 ((n : Int) + 1)) rfl rfl (by kernel_rfl) (by kernel_rfl) (by kernel_rfl) (fun _ _ _ h => h) (Or.inl ⟨by rfl, fun w' hS => by obtain ⟨hS1, hS2⟩ := hS; obtain ⟨d0, d1, d2⟩ := hS1.cells; obtain ⟨e0, e1, e2, e3, e4, e5, e6⟩ := hS2.cells; go_simp⟩) HS ?_
            simp only [Act.put, List.setIfInBounds_toArray, List.set_cons_zero, List.set_cons_succ]
            refine wpAnyH_all (rs := [8]) (by kernel_rfl) (by simp) (fun j hj => ?_)
            obtain rfl : j = 8 := by simpa using hj
            refine wpOp_returnsD (d := some 51) rfl rfl (by rfl) (f := 147) (args := #[.pointer (some ⟨rb, 0, none⟩), .int .i64 ((n : Int) + 1)]) (by go_simp) T9.out ?_
            rintro e wd ⟨y2, rfl, hsy2, hst2, hrd2, hnd⟩
            have hot : Own3T wd wa.heap.size (kindT T j) ⟨s.toArray⟩ (atT T E j) := own3t_only HOT.out hnd.drewL (fun e => by have h1 := HSA.out.1; have e' : wa.heap.size = rb := e; omega)
            have ho9 : Own7 wd wb.heap.size y := own7_only HO9.out hnd.drewL (fun e => by have h1 := HSA.out.1; have h2 := HSA.out.2.2.2; have e' : wb.heap.size = rb := e; omega)
            refine ⟨_, rfl, ⟨hot, ho9⟩, ?_⟩
            unfold exV
            simp only [Act.put, List.setIfInBounds_toArray, List.set_cons_zero, List.set_cons_succ]
            refine wpAnyH_all (rs := [9]) (by kernel_rfl) (by simp) (fun j hj => ?_)
            obtain rfl : j = 9 := by simpa using hj
            have hbe := belowNew' wd (.cells #[.string y.op, .string y.name, .int .i64 y.val.type, .int .i64 y.val.n, .string y.val.s, .slice y.A y.args.length y.c, .int .i64 y.pos, .string y2.op, .string y2.name, .int .i64 y2.val.type, .int .i64 y2.val.n, .string y2.val.s, .slice y2.A y2.args.length y2.c, .int .i64 y2.pos] 26)
            have hrow : (wd.alloc (.cells #[.string y.op, .string y.name, .int .i64 y.val.type, .int .i64 y.val.n, .string y.val.s, .slice y.A y.args.length y.c, .int .i64 y.pos, .string y2.op, .string y2.name, .int .i64 y2.val.type, .int .i64 y2.val.n, .string y2.val.s, .slice y2.A y2.args.length y2.c, .int .i64 y2.pos] 26)).heap[wd.heap.size]? = some (.cells (exsCells [y, y2]).toArray 26 (0, 0)) := heap_alloc_new wd _
            refine wpOp_valueD (d := some 52) rfl rfl (by rfl) (v := .slice (some ⟨wd.heap.size, 0, none⟩) 2 2) (w' := wd.alloc (.cells #[.string y.op, .string y.name, .int .i64 y.val.type, .int .i64 y.val.n, .string y.val.s, .slice y.A y.args.length y.c, .int .i64 y.pos, .string y2.op, .string y2.name, .int .i64 y2.val.type, .int .i64 y2.val.n, .string y2.val.s, .slice y2.A y2.args.length y2.c, .int .i64 y2.pos] 26)) (by go_simp) ?_
            generalize wd.alloc (.cells #[.string y.op, .string y.name, .int .i64 y.val.type, .int .i64 y.val.n, .string y.val.s, .slice y.A y.args.length y.c, .int .i64 y.pos, .string y2.op, .string y2.name, .int .i64 y2.val.type, .int .i64 y2.val.n, .string y2.val.s, .slice y2.A y2.args.length y2.c, .int .i64 y2.pos] 26) = we at hbe hrow ⊢
            refine ⟨⟨hot.keep hbe, ho9.keep hbe⟩, ?_⟩
            simp only [Act.put, List.setIfInBounds_toArray, List.set_cons_zero, List.set_cons_succ]
            refine wpAnyH_all (rs := [10]) (by kernel_rfl) (by simp) (fun j hj => ?_)
            obtain rfl : j = 10 := by simpa using hj
            have bd := run_op ⟨s.toArray⟩ (atT T E j) (some ⟨wd.heap.size, 0, none⟩) 2 2 we
            refine wpOp_valueD (d := some 53) rfl rfl (by rfl) (v := .agg #[.string ⟨s.toArray⟩, .string ⟨#[]⟩, .int .i64 0, .int .i64 0, .string ⟨#[]⟩, .slice (some ⟨wd.heap.size, 0, none⟩) 2 2, .int .i64 (atT T E j)]) (w' := we) (by go_simp) ?_
            refine ⟨⟨hot.keep hbe, ho9.keep hbe⟩, ?_⟩
            simp only [Act.put, List.setIfInBounds_toArray, List.set_cons_zero, List.set_cons_succ]
            refine wpAnyH_all (rs := [11]) (by kernel_rfl) (by simp) (fun j hj => ?_)
            obtain rfl : j = 11 := by simpa using hj
            have ho6e : Own7 we b6 y := (own7_only HO6C.out hnd.drewL (HB6R.out b6 HB6.out)).keep hbe
            refine wpOp_store7 rfl rfl _ _ rfl rfl (X := .mk (mkB s) ⟨#[]⟩ noVal (some ⟨wd.heap.size, 0, none⟩) 2 [y, y2] (atT T E j)) ho6e rfl rfl ?_
            intro wf hzf hof
            refine ⟨⟨own3t_only (hot.keep hbe) hof (fun e => by have h1 := HSA.out.2.1; have e' : wa.heap.size = b6 := e; omega), own7_only (ho9.keep hbe) hof (fun e => by have h1 := HSA.out.2.1; have h2 := HSA.out.2.2.2; have e' : wb.heap.size = b6 := e; omega)⟩, ?_⟩
            refine wpAnyH_done (by kernel_rfl) ?_ _
            have HNF := Lib.hid ((HNC.out.trans (hnd.drewL.trans (.of_below hbe))).then_new hof (Nat.le_of_lt HB6.out))
            have HRF := Lib.hid ((hrd2.keep hbe).other hof (fun e => HB6R.out b6 HB6.out e.symm) (fun h0 ad e => by have := HOLD.out h0 ad e; have := HB6.out; omega))
            have HZF := Lib.hid (own7_only ((own7_only HZC.out hnd.drewL (by have := HLT.out; omega)).keep hbe) hof (by have := HB6.out; omega))
            have HYF := Lib.hid (show ∀ a ∈ [y, y2], SeesS (fun b => w.heap.size < b ∧ b ≠ b6) wf a from fun a ha => by
              have hwc : w.heap.size < wc.heap.size := HZC.out.lt
              have hb6c : b6 < wc.heap.size := HO6C.out.lt
              simp only [List.mem_cons, List.not_mem_nil, or_false] at ha
              rcases ha with rfl | rfl
              · exact ((HSYC.out.keep (alike_only2 hnd.drewL (fun b hb hb2 => by have := HLT.out; have := hb.1; omega))).keep (.of_below hbe)).keep (alike_only2 hof (fun b hb hb2 => hb.2 hb2))
              · exact ((hsy2.keep (.of_below hbe)).keep (alike_only2 hof (fun b hb hb2 => by have hb' : wc.heap.size ≤ b := hb; omega))).mono (fun b hb => by have hb' : wc.heap.size ≤ b := hb; exact ⟨by omega, by omega⟩))
            have hwd : wc.heap.size ≤ wd.heap.size := hnd.size
            have hss : (mkB s).size ≤ 400 := by
              have e : (mkB s).size = s.length := by simp [mkB, ByteArray.size]
              rw [e]; exact lvl_short (sgT_some HSG.out).1
            have HYN := Lib.hid (show SeesS (fun b => w.heap.size < b ∧ b ≠ b6) wf (.mk (mkB s) ⟨#[]⟩ noVal (some ⟨wd.heap.size, 0, none⟩) 2 [y, y2] (atT T E j)) from seesS_node (l := [y, y2]) ((hof.block _ (Array.getElem?_eq_some_iff.1 hrow).1 (by have := HO6C.out.lt; omega)).trans hrow) ⟨by have := HZC.out.lt; omega, by have := HO6C.out.lt; omega⟩ (show (2 : Nat) ≤ 400 by decide) hss (fits_at HWW.out j) HYF.out)
            have HSTN := Lib.hid (show strip (.mk (mkB s) ⟨#[]⟩ noVal (some ⟨wd.heap.size, 0, none⟩) 2 [y, y2] (atT T E j)) = opEx s [x, x2] (atT T E j) by rw [strip_mk, strips, strips, strips, HSTR.out, hst2]; rfl)
            have HZ6 := Lib.hid hzf
            clear hot ho9 hbe hrow ho6e hof hsy2 hst2 hrd2 hnd hwd hzf bd HS
            rcases hr with ⟨h22, hr⟩ | ⟨h22, hr⟩
            · have g22 : ((n : Int) == 2) = true := beq_iff_eq.2 (by omega)
              obtain ⟨t0, t1, t2, t3, t4, t5, t6⟩ := HZ6.out.cells
              have hl6 := HZ6.out.lt
              clear h22
              go_wp2_with (first
                | (refine wpList_put7 rfl (.tmp 4) (.tmp 56) rfl (X := .mk (mkB s) ⟨#[]⟩ noVal (some ⟨wd.heap.size, 0, none⟩) 2 [y, y2] (atT T E j)) HZF.out rfl (by rfl) ?_; intro wg hzg hog; have HZG := Lib.hid hzg; have HOG := Lib.hid hog; clear hzg hog))
              obtain ⟨o0, o1, o2, o3, o4, o5, o6⟩ := HZG.out.cells
              refine bodyPost_ret (v := exV (.mk (mkB s) ⟨#[]⟩ noVal (some ⟨wd.heap.size, 0, none⟩) 2 [y, y2] (atT T E j))) ?_ rfl ?_
              · simp [results, Tryz.results147, go_sem, o0, o1, o2, o3, o4, o5, o6, exV]
              · rw [hr]
                exact says_put HNF.out HRF.out HYN.out (fun b hb => ⟨Nat.le_of_lt hb.1, by have := hb.1; omega⟩) HSTN.out HOG.out rfl HLT.out HOLD.out
            · exact absurd (show n = 2 by have := beq_iff_eq.1 g2; omega) h22
        · rcases HRD.out with ⟨-, hr⟩ | ⟨s', k, h, -, -⟩ | ⟨s', x2, j2, h, -, -⟩
          · obtain ⟨k0, s0, p0, he⟩ : ∃ (k0 : Int) (s0 : ByteArray) (p0 : Int), e' = .returned (.tuple #[.agg #[.int .i64 k0, .string s0, .int .i64 p0], .bool false]) := ⟨_, _, _, he⟩
            subst he
            obtain ⟨wb, hwb⟩ : ∃ wb, wa.alloc (.cells #[.int .i64 k0, .string s0, .int .i64 p0] 115) = wb := ⟨_, rfl⟩
            have hbb : Below wa.heap.size wa wb := by rw [← hwb]; exact belowNew' _ _
            have ho6b : Own7 wb b6 y := (own7_only HO6.out hna (HB6R.out b6 HB6.out)).keep hbb
            have hNb : Only (fun k => k = rb) wr wb := hna.trans (.of_below hbb)
            have HRB := Lib.hid (hra.keep hbb)
            have HNB := Lib.hid (HNR.out.trans hNb)
            have HZB := Lib.hid (own7_only HZR.out hNb (by have := HLT.out; omega))
            have HSYB := Lib.hid ((HSY.out.keep (alike_only2 hNb (fun b hb hb2 => by have := HLT.out; have := hb.1; omega))))
            have HWb := Lib.hid hwb
            obtain ⟨v0, v1, v2, v3, v4, v5, v6⟩ := ho6b.cells
            have hl6b := ho6b.lt
            clear hwb hbb ho6b hNb hra hna hs T8 z1
            go_wp2_with (first
              | rw [HWb.out]
              | (refine wpList_put7 rfl (.tmp 4) (.tmp 41) rfl (X := y) HZB.out rfl (by rfl) ?_; intro wg hzg hog; have HZG := Lib.hid hzg; have HOG := Lib.hid hog; clear hzg hog))
            obtain ⟨o0, o1, o2, o3, o4, o5, o6⟩ := HZG.out.cells
            refine bodyPost_ret (v := exV y) ?_ rfl ?_
            · simp [results, Tryz.results147, go_sem, o0, o1, o2, o3, o4, o5, o6, exV]
            · rw [hr]
              exact says_put HNB.out HRB.out HSYB.out (fun b hb => ⟨Nat.le_of_lt hb.1, by have := hb.1; omega⟩) HSTR.out HOG.out rfl HLT.out HOLD.out
          · rw [hs] at h; cases h
          · rw [hs] at h; cases h
  · have g2 : ((n : Int) == 2) = false := beq_eq_false_iff_ne.2 (by omega)
    obtain ⟨w3, hw0, ho0, hb0⟩ := box_zeroE w
    have HW0 := Lib.hid hw0
    have HWW := Lib.hid hW
    have HLT := Lib.hid hR.lt
    have HOLD := Lib.hid (show 0 < T.length → ∀ ad, A = some ad → ad.block < w.heap.size from hR.old)
    have T3 := Lib.hid (IH1 w3 (hR.keep hb0) (hE.keep hb0))
    have HOKX := Lib.hid hok
    have HERX := Lib.hid herr
    have HE3 := Lib.hid hE
    have HN3 := Lib.hid (Only.of_below (S := fun k => k = rb) hb0)
    have HLW3 := Lib.hid (show w.heap.size < w3.heap.size from ho0.lt)
    have HZ3 := Lib.hid ho0
    have HB6R := Lib.hid (show ∀ b6 : Nat, w.heap.size < b6 → b6 ≠ rb from fun b6 h => by have := HLT.out; omega)
    clear hW h2 hR hE IH1 IH2 hok herr hw0 ho0 hb0 hn hn2
    go_enter Tryz.func147, Tryz.ntmps147
    go_wp2_with (first | rw [HW0.out])
    match r1, T3, HOKX, HERX with
    | .error k, T3, HOKX, HERX =>
      refine (T3.out).mono ?_
      rintro e w4 ⟨rfl, hn4⟩
      have HF := Lib.hid (show RSays T E rb A c w r (wrongAt k) w4 from by rw [HERX.out k rfl]; exact ⟨rfl, HN3.out.trans hn4⟩)
      clear hn4
      unfold wrongAt at *
      go_wp2_with fail
      exact ⟨rfl, HF.out⟩
    | .ok (x0, j0), T3, HOKX, HERX =>
      refine (T3.out).mono ?_
      rintro e w4 ⟨y0, rfl, hsy, hst, hr4, hn4⟩
      obtain ⟨w5, hw5, ho5, hb5, -⟩ := box_ex w4 y0
      have HW5 := Lib.hid hw5
      have HB6 := Lib.hid (show w.heap.size < w4.heap.size from Nat.lt_of_lt_of_le HLW3.out hn4.size)
      have HST := Lib.hid (show LpAt T E rb A c w i w4.heap.size n r w5 from ⟨j0, y0, x0, (HOKX.out x0 j0 rfl).2, hst, ho5, ((seesS_lt2 hsy).keep (.of_below hb5)).mono (fun b hb => ⟨Nat.lt_of_lt_of_le HLW3.out hb.1, by have := hb.2; omega⟩), hr4.keep hb5, (HN3.out.trans hn4).trans (.of_below hb5), (own7_only HZ3.out hn4 (by have := HLT.out; omega)).keep hb5, (HOKX.out x0 j0 rfl).1⟩)
      clear hw5 ho5 hb5 hsy hst hr4 hn4
      unfold exV
      go_wp2_with (first | rw [HW5.out])
      generalize hb6 : w4.heap.size = b6 at HST HB6
      clear hb6
      go_loopw [8] (fun _ wr => LpAt T E rb A c w i b6 n r wr) (fun _ wr => T.length - rdIdx wr rb)
      case atStart => exact HST.out
      case round =>
        obtain ⟨j, y, x, hrd, hst, ho6, hsy, hrj, hNr, hzr, hij⟩ := hrel
        have HEr := Lib.hid (HE3.out.only hNr)
        obtain ⟨ZA, Zc, hz⟩ := HEr.out.lev.keep HEr.out.below
        obtain ⟨z1, z2⟩ := hz n HN5.out
        have zcap : (lvlB n).length ≤ Zc n := z2.2.1
        have zmax : Zc n ≤ maxLen := z2.2.2.1
        unfold maxLen at zmax
        have T8 := Lib.hid (one_any hrj HWW.out n (ZA n) (lvlB n).length (Zc n) z2)
        have HRD := Lib.hid (lp_cases hrd)
        have HO6 := Lib.hid ho6
        have HSY := Lib.hid hsy
        have HSTR := Lib.hid hst
        have HNR := Lib.hid hNr
        have HZR := Lib.hid hzr
        have HIJ := Lib.hid hij
        have HIX := Lib.hid hrj.idx
        have HJN := Lib.hid hrj.le
        have hlb6 := ho6.lt
        unfold OneSays tokV at T8
        clear hrd hst ho6 hsy hrj hNr hzr hij hz z2
        go_wp2_with fail
        refine (T8.out).mono ?_
        rintro e' wa (⟨s, hs, rfl, hra, hna⟩ | ⟨hs, he, hra, hna⟩)
        · have hts : textT T j = s := isT_text (sgT_some hs).2
          rw [hts]
          have HSG := Lib.hid hs
          have hjl : j < T.length := isT_lt (sgT_some hs).2
          obtain ⟨wb, hwb⟩ : ∃ wb, wa.alloc (.cells #[.int .i64 (kindT T j), .string ⟨s.toArray⟩, .int .i64 (atT T E j)] 115) = wb := ⟨_, rfl⟩
          have hbb : Below wa.heap.size wa wb := by rw [← hwb]; exact belowNew' _ _
          have hob : Own3T wb wa.heap.size (kindT T j) ⟨s.toArray⟩ (atT T E j) := by rw [← hwb]; exact own3t_new wa _ _ _
          have ho6b : Own7 wb b6 y := (own7_only HO6.out hna (HB6R.out b6 HB6.out)).keep hbb
          obtain ⟨wc, hwc, hoc, hbc, -⟩ := box_ex wb y
          have hobc := hob.keep hbc
          have hNc : Only (fun k => k = rb) wr wc := (hna.trans (.of_below hbb)).trans (.of_below hbc)
          have HRC := Lib.hid ((hra.keep hbb).keep hbc)
          have HNC := Lib.hid (HNR.out.trans hNc)
          have HO6C := Lib.hid (ho6b.keep hbc)
          have HZC := Lib.hid (own7_only HZR.out hNc (by have := HLT.out; omega))
          have HSYC := Lib.hid ((HSY.out.keep (alike_only2 hNc (fun b hb hb2 => by have := HLT.out; have := hb.1; omega))))
          have HOT := Lib.hid hobc
          have HO9 := Lib.hid hoc
          have HSA := Lib.hid (show rb < wa.heap.size ∧ b6 < wa.heap.size ∧ wr.heap.size ≤ wa.heap.size ∧ wa.heap.size < wb.heap.size from ⟨hra.lt, Nat.lt_of_lt_of_le HO6.out.lt hna.size, hna.size, hob.lt⟩)
          have HWb := Lib.hid hwb
          have HWc := Lib.hid hwc
          obtain ⟨v0, v1, v2, v3, v4, v5, v6⟩ := ho6b.cells
          have hl6b := ho6b.lt
          clear hwb hbb hob ho6b hwc hoc hbc hobc hNc hra hna hts hs T8 z1
          go_wp2_with (first | rw [HWb.out] | rw [HWc.out])
          rcases HRD.out with ⟨h, -⟩ | ⟨s', k, h, a, hr⟩ | ⟨s', x2, j2, h, a, hr⟩
          · rw [HSG.out] at h; cases h
          · have T9 := Lib.hid (HIH2.out (j + 1) (.error k) (by have := HIJ.out; omega) hjl a wc.drew (HRC.out.keep (Below.refl _ _).drew) (HE3.out.only HNC.out.drew))
            refine wp_region_held (S := fun w' => Own3T w' wa.heap.size (kindT T j) ⟨s.toArray⟩ (atT T E j) ∧ Own7 w' wb.heap.size y) (by kernel_rfl) ?_
            change wpAnyH _ _ _ _ _ _ _ _ wc.drew
            have HS : (fun w' : World => Own3T w' wa.heap.size (kindT T j) ⟨s.toArray⟩ (atT T E j) ∧ Own7 w' wb.heap.size y) wc.drew := ⟨HOT.out, HO9.out⟩
            refine takeH (i := 0) (d := some 43) (v := .pointer (some ⟨wa.heap.size, 1, none⟩)) rfl rfl (by kernel_rfl) (by kernel_rfl) (by kernel_rfl) (fun _ _ _ h => h) (Or.inl ⟨by rfl, fun w' hS => by obtain ⟨hS1, hS2⟩ := hS; obtain ⟨d0, d1, d2⟩ := hS1.cells; obtain ⟨e0, e1, e2, e3, e4, e5, e6⟩ := hS2.cells; go_simp⟩) HS ?_
            refine takeH (i := 1) (d := some 44) (v := .string ⟨s.toArray⟩) rfl rfl (by kernel_rfl) (by kernel_rfl) (by kernel_rfl) (fun _ _ _ h => h) (Or.inl ⟨by rfl, fun w' hS => by obtain ⟨hS1, hS2⟩ := hS; obtain ⟨d0, d1, d2⟩ := hS1.cells; obtain ⟨e0, e1, e2, e3, e4, e5, e6⟩ := hS2.cells; go_simp⟩) HS ?_
            refine takeH (i := 2) (d := some 45) (v := .pointer (some ⟨wa.heap.size, 2, none⟩)) rfl rfl (by kernel_rfl) (by kernel_rfl) (by kernel_rfl) (fun _ _ _ h => h) (Or.inl ⟨by rfl, fun w' hS => by obtain ⟨hS1, hS2⟩ := hS; obtain ⟨d0, d1, d2⟩ := hS1.cells; obtain ⟨e0, e1, e2, e3, e4, e5, e6⟩ := hS2.cells; go_simp⟩) HS ?_
            refine takeH (i := 3) (d := some 46) (v := .int .i64 (atT T E j)) rfl rfl (by kernel_rfl) (by kernel_rfl) (by kernel_rfl) (fun _ _ _ h => h) (Or.inl ⟨by rfl, fun w' hS => by obtain ⟨hS1, hS2⟩ := hS; obtain ⟨d0, d1, d2⟩ := hS1.cells; obtain ⟨e0, e1, e2, e3, e4, e5, e6⟩ := hS2.cells; go_simp⟩) HS ?_
            refine takeH (i := 4) (d := some 47) (v := .agg #[.string y.op, .string y.name, .int .i64 y.val.type, .int .i64 y.val.n, .string y.val.s, .slice y.A y.args.length y.c, .int .i64 y.pos]) rfl rfl (by kernel_rfl) (by kernel_rfl) (by kernel_rfl) (fun _ _ _ h => h) (Or.inl ⟨by rfl, fun w' hS => by obtain ⟨hS1, hS2⟩ := hS; obtain ⟨d0, d1, d2⟩ := hS1.cells; obtain ⟨e0, e1, e2, e3, e4, e5, e6⟩ := hS2.cells; go_simp⟩) HS ?_
            refine takeH (i := 5) (d := some 48) (v := .pointer (some ⟨rb, 0, none⟩)) rfl rfl (by kernel_rfl) (by kernel_rfl) (by kernel_rfl) (fun _ _ _ h => h) (Or.inl ⟨by rfl, fun w' hS => by obtain ⟨hS1, hS2⟩ := hS; obtain ⟨d0, d1, d2⟩ := hS1.cells; obtain ⟨e0, e1, e2, e3, e4, e5, e6⟩ := hS2.cells; go_simp⟩) HS ?_
            refine takeH (i := 6) (d := some 49) (v := .int .i64 n) rfl rfl (by kernel_rfl) (by kernel_rfl) (by kernel_rfl) (fun _ _ _ h => h) (Or.inl ⟨by rfl, fun w' hS => by obtain ⟨hS1, hS2⟩ := hS; obtain ⟨d0, d1, d2⟩ := hS1.cells; obtain ⟨e0, e1, e2, e3, e4, e5, e6⟩ := hS2.cells; go_simp⟩) HS ?_
            refine takeH (i := 7) (d := some 50) (v := .int .i64 ((n : Int) + 1)) rfl rfl (by kernel_rfl) (by kernel_rfl) (by kernel_rfl) (fun _ _ _ h => h) (Or.inl ⟨by rfl, fun w' hS => by obtain ⟨hS1, hS2⟩ := hS; obtain ⟨d0, d1, d2⟩ := hS1.cells; obtain ⟨e0, e1, e2, e3, e4, e5, e6⟩ := hS2.cells; go_simp⟩) HS ?_
            simp only [Act.put, List.setIfInBounds_toArray, List.set_cons_zero, List.set_cons_succ]
            refine wpAnyH_all (rs := [8]) (by kernel_rfl) (by simp) (fun j hj => ?_)
            obtain rfl : j = 8 := by simpa using hj
            exact wpOp_panics rfl (by rfl) (f := 147) (args := #[.pointer (some ⟨rb, 0, none⟩), .int .i64 ((n : Int) + 1)]) (by go_simp) (T9.out.mono fun e w' ⟨h1, h2⟩ => ⟨h1, h2⟩) (fun wd hnd => ⟨rfl, by rw [hr]; exact ⟨rfl, HNC.out.trans hnd.drewL⟩⟩)
          · have T9 := Lib.hid (HIH2.out (j + 1) (.ok (x2, j2)) (by have := HIJ.out; omega) hjl a wc.drew (HRC.out.keep (Below.refl _ _).drew) (HE3.out.only HNC.out.drew))
            have HJ2 := Lib.hid (rd_on a x2 j2 rfl hjl)
            obtain rfl : s = s' := by rw [HSG.out] at h; injection h
            clear h a
            refine wp_region_held (S := fun w' => Own3T w' wa.heap.size (kindT T j) ⟨s.toArray⟩ (atT T E j) ∧ Own7 w' wb.heap.size y) (by kernel_rfl) ?_
            change wpAnyH _ _ _ _ _ _ _ _ wc.drew
            have HS : (fun w' : World => Own3T w' wa.heap.size (kindT T j) ⟨s.toArray⟩ (atT T E j) ∧ Own7 w' wb.heap.size y) wc.drew := ⟨HOT.out, HO9.out⟩
            refine takeH (i := 0) (d := some 43) (v := .pointer (some ⟨wa.heap.size, 1, none⟩)) rfl rfl (by kernel_rfl) (by kernel_rfl) (by kernel_rfl) (fun _ _ _ h => h) (Or.inl ⟨by rfl, fun w' hS => by obtain ⟨hS1, hS2⟩ := hS; obtain ⟨d0, d1, d2⟩ := hS1.cells; obtain ⟨e0, e1, e2, e3, e4, e5, e6⟩ := hS2.cells; go_simp⟩) HS ?_
            refine takeH (i := 1) (d := some 44) (v := .string ⟨s.toArray⟩) rfl rfl (by kernel_rfl) (by kernel_rfl) (by kernel_rfl) (fun _ _ _ h => h) (Or.inl ⟨by rfl, fun w' hS => by obtain ⟨hS1, hS2⟩ := hS; obtain ⟨d0, d1, d2⟩ := hS1.cells; obtain ⟨e0, e1, e2, e3, e4, e5, e6⟩ := hS2.cells; go_simp⟩) HS ?_
            refine takeH (i := 2) (d := some 45) (v := .pointer (some ⟨wa.heap.size, 2, none⟩)) rfl rfl (by kernel_rfl) (by kernel_rfl) (by kernel_rfl) (fun _ _ _ h => h) (Or.inl ⟨by rfl, fun w' hS => by obtain ⟨hS1, hS2⟩ := hS; obtain ⟨d0, d1, d2⟩ := hS1.cells; obtain ⟨e0, e1, e2, e3, e4, e5, e6⟩ := hS2.cells; go_simp⟩) HS ?_
            refine takeH (i := 3) (d := some 46) (v := .int .i64 (atT T E j)) rfl rfl (by kernel_rfl) (by kernel_rfl) (by kernel_rfl) (fun _ _ _ h => h) (Or.inl ⟨by rfl, fun w' hS => by obtain ⟨hS1, hS2⟩ := hS; obtain ⟨d0, d1, d2⟩ := hS1.cells; obtain ⟨e0, e1, e2, e3, e4, e5, e6⟩ := hS2.cells; go_simp⟩) HS ?_
            refine takeH (i := 4) (d := some 47) (v := .agg #[.string y.op, .string y.name, .int .i64 y.val.type, .int .i64 y.val.n, .string y.val.s, .slice y.A y.args.length y.c, .int .i64 y.pos]) rfl rfl (by kernel_rfl) (by kernel_rfl) (by kernel_rfl) (fun _ _ _ h => h) (Or.inl ⟨by rfl, fun w' hS => by obtain ⟨hS1, hS2⟩ := hS; obtain ⟨d0, d1, d2⟩ := hS1.cells; obtain ⟨e0, e1, e2, e3, e4, e5, e6⟩ := hS2.cells; go_simp⟩) HS ?_
            refine takeH (i := 5) (d := some 48) (v := .pointer (some ⟨rb, 0, none⟩)) rfl rfl (by kernel_rfl) (by kernel_rfl) (by kernel_rfl) (fun _ _ _ h => h) (Or.inl ⟨by rfl, fun w' hS => by obtain ⟨hS1, hS2⟩ := hS; obtain ⟨d0, d1, d2⟩ := hS1.cells; obtain ⟨e0, e1, e2, e3, e4, e5, e6⟩ := hS2.cells; go_simp⟩) HS ?_
            refine takeH (i := 6) (d := some 49) (v := .int .i64 n) rfl rfl (by kernel_rfl) (by kernel_rfl) (by kernel_rfl) (fun _ _ _ h => h) (Or.inl ⟨by rfl, fun w' hS => by obtain ⟨hS1, hS2⟩ := hS; obtain ⟨d0, d1, d2⟩ := hS1.cells; obtain ⟨e0, e1, e2, e3, e4, e5, e6⟩ := hS2.cells; go_simp⟩) HS ?_
            refine takeH (i := 7) (d := some 50) (v := .int .i64 ((n : Int) + 1)) rfl rfl (by kernel_rfl) (by kernel_rfl) (by kernel_rfl) (fun _ _ _ h => h) (Or.inl ⟨by rfl, fun w' hS => by obtain ⟨hS1, hS2⟩ := hS; obtain ⟨d0, d1, d2⟩ := hS1.cells; obtain ⟨e0, e1, e2, e3, e4, e5, e6⟩ := hS2.cells; go_simp⟩) HS ?_
            simp only [Act.put, List.setIfInBounds_toArray, List.set_cons_zero, List.set_cons_succ]
            refine wpAnyH_all (rs := [8]) (by kernel_rfl) (by simp) (fun j hj => ?_)
            obtain rfl : j = 8 := by simpa using hj
            refine wpOp_returnsD (d := some 51) rfl rfl (by rfl) (f := 147) (args := #[.pointer (some ⟨rb, 0, none⟩), .int .i64 ((n : Int) + 1)]) (by go_simp) T9.out ?_
            rintro e wd ⟨y2, rfl, hsy2, hst2, hrd2, hnd⟩
            have hot : Own3T wd wa.heap.size (kindT T j) ⟨s.toArray⟩ (atT T E j) := own3t_only HOT.out hnd.drewL (fun e => by have h1 := HSA.out.1; have e' : wa.heap.size = rb := e; omega)
            have ho9 : Own7 wd wb.heap.size y := own7_only HO9.out hnd.drewL (fun e => by have h1 := HSA.out.1; have h2 := HSA.out.2.2.2; have e' : wb.heap.size = rb := e; omega)
            refine ⟨_, rfl, ⟨hot, ho9⟩, ?_⟩
            unfold exV
            simp only [Act.put, List.setIfInBounds_toArray, List.set_cons_zero, List.set_cons_succ]
            refine wpAnyH_all (rs := [9]) (by kernel_rfl) (by simp) (fun j hj => ?_)
            obtain rfl : j = 9 := by simpa using hj
            have hbe := belowNew' wd (.cells #[.string y.op, .string y.name, .int .i64 y.val.type, .int .i64 y.val.n, .string y.val.s, .slice y.A y.args.length y.c, .int .i64 y.pos, .string y2.op, .string y2.name, .int .i64 y2.val.type, .int .i64 y2.val.n, .string y2.val.s, .slice y2.A y2.args.length y2.c, .int .i64 y2.pos] 26)
            have hrow : (wd.alloc (.cells #[.string y.op, .string y.name, .int .i64 y.val.type, .int .i64 y.val.n, .string y.val.s, .slice y.A y.args.length y.c, .int .i64 y.pos, .string y2.op, .string y2.name, .int .i64 y2.val.type, .int .i64 y2.val.n, .string y2.val.s, .slice y2.A y2.args.length y2.c, .int .i64 y2.pos] 26)).heap[wd.heap.size]? = some (.cells (exsCells [y, y2]).toArray 26 (0, 0)) := heap_alloc_new wd _
            refine wpOp_valueD (d := some 52) rfl rfl (by rfl) (v := .slice (some ⟨wd.heap.size, 0, none⟩) 2 2) (w' := wd.alloc (.cells #[.string y.op, .string y.name, .int .i64 y.val.type, .int .i64 y.val.n, .string y.val.s, .slice y.A y.args.length y.c, .int .i64 y.pos, .string y2.op, .string y2.name, .int .i64 y2.val.type, .int .i64 y2.val.n, .string y2.val.s, .slice y2.A y2.args.length y2.c, .int .i64 y2.pos] 26)) (by go_simp) ?_
            generalize wd.alloc (.cells #[.string y.op, .string y.name, .int .i64 y.val.type, .int .i64 y.val.n, .string y.val.s, .slice y.A y.args.length y.c, .int .i64 y.pos, .string y2.op, .string y2.name, .int .i64 y2.val.type, .int .i64 y2.val.n, .string y2.val.s, .slice y2.A y2.args.length y2.c, .int .i64 y2.pos] 26) = we at hbe hrow ⊢
            refine ⟨⟨hot.keep hbe, ho9.keep hbe⟩, ?_⟩
            simp only [Act.put, List.setIfInBounds_toArray, List.set_cons_zero, List.set_cons_succ]
            refine wpAnyH_all (rs := [10]) (by kernel_rfl) (by simp) (fun j hj => ?_)
            obtain rfl : j = 10 := by simpa using hj
            have bd := run_op ⟨s.toArray⟩ (atT T E j) (some ⟨wd.heap.size, 0, none⟩) 2 2 we
            refine wpOp_valueD (d := some 53) rfl rfl (by rfl) (v := .agg #[.string ⟨s.toArray⟩, .string ⟨#[]⟩, .int .i64 0, .int .i64 0, .string ⟨#[]⟩, .slice (some ⟨wd.heap.size, 0, none⟩) 2 2, .int .i64 (atT T E j)]) (w' := we) (by go_simp) ?_
            refine ⟨⟨hot.keep hbe, ho9.keep hbe⟩, ?_⟩
            simp only [Act.put, List.setIfInBounds_toArray, List.set_cons_zero, List.set_cons_succ]
            refine wpAnyH_all (rs := [11]) (by kernel_rfl) (by simp) (fun j hj => ?_)
            obtain rfl : j = 11 := by simpa using hj
            have ho6e : Own7 we b6 y := (own7_only HO6C.out hnd.drewL (HB6R.out b6 HB6.out)).keep hbe
            refine wpOp_store7 rfl rfl _ _ rfl rfl (X := .mk (mkB s) ⟨#[]⟩ noVal (some ⟨wd.heap.size, 0, none⟩) 2 [y, y2] (atT T E j)) ho6e rfl rfl ?_
            intro wf hzf hof
            refine ⟨⟨own3t_only (hot.keep hbe) hof (fun e => by have h1 := HSA.out.2.1; have e' : wa.heap.size = b6 := e; omega), own7_only (ho9.keep hbe) hof (fun e => by have h1 := HSA.out.2.1; have h2 := HSA.out.2.2.2; have e' : wb.heap.size = b6 := e; omega)⟩, ?_⟩
            refine wpAnyH_done (by kernel_rfl) ?_ _
            have HNF := Lib.hid ((HNC.out.trans (hnd.drewL.trans (.of_below hbe))).then_new hof (Nat.le_of_lt HB6.out))
            have HRF := Lib.hid ((hrd2.keep hbe).other hof (fun e => HB6R.out b6 HB6.out e.symm) (fun h0 ad e => by have := HOLD.out h0 ad e; have := HB6.out; omega))
            have HZF := Lib.hid (own7_only ((own7_only HZC.out hnd.drewL (by have := HLT.out; omega)).keep hbe) hof (by have := HB6.out; omega))
            have HYF := Lib.hid (show ∀ a ∈ [y, y2], SeesS (fun b => w.heap.size < b ∧ b ≠ b6) wf a from fun a ha => by
              have hwc : w.heap.size < wc.heap.size := HZC.out.lt
              have hb6c : b6 < wc.heap.size := HO6C.out.lt
              simp only [List.mem_cons, List.not_mem_nil, or_false] at ha
              rcases ha with rfl | rfl
              · exact ((HSYC.out.keep (alike_only2 hnd.drewL (fun b hb hb2 => by have := HLT.out; have := hb.1; omega))).keep (.of_below hbe)).keep (alike_only2 hof (fun b hb hb2 => hb.2 hb2))
              · exact ((hsy2.keep (.of_below hbe)).keep (alike_only2 hof (fun b hb hb2 => by have hb' : wc.heap.size ≤ b := hb; omega))).mono (fun b hb => by have hb' : wc.heap.size ≤ b := hb; exact ⟨by omega, by omega⟩))
            have hwd : wc.heap.size ≤ wd.heap.size := hnd.size
            have hss : (mkB s).size ≤ 400 := by
              have e : (mkB s).size = s.length := by simp [mkB, ByteArray.size]
              rw [e]; exact lvl_short (sgT_some HSG.out).1
            have HYN := Lib.hid (show SeesS (fun b => w.heap.size < b ∧ b ≠ b6) wf (.mk (mkB s) ⟨#[]⟩ noVal (some ⟨wd.heap.size, 0, none⟩) 2 [y, y2] (atT T E j)) from seesS_node (l := [y, y2]) ((hof.block _ (Array.getElem?_eq_some_iff.1 hrow).1 (by have := HO6C.out.lt; omega)).trans hrow) ⟨by have := HZC.out.lt; omega, by have := HO6C.out.lt; omega⟩ (show (2 : Nat) ≤ 400 by decide) hss (fits_at HWW.out j) HYF.out)
            have HSTN := Lib.hid (show strip (.mk (mkB s) ⟨#[]⟩ noVal (some ⟨wd.heap.size, 0, none⟩) 2 [y, y2] (atT T E j)) = opEx s [x, x2] (atT T E j) by rw [strip_mk, strips, strips, strips, HSTR.out, hst2]; rfl)
            have HZ6 := Lib.hid hzf
            clear hot ho9 hbe hrow ho6e hof hsy2 hst2 hrd2 hnd hwd hzf bd HS
            rcases hr with ⟨h22, hr⟩ | ⟨h22, hr⟩
            · exact absurd (show (n : Int) = 2 by omega) (beq_eq_false_iff_ne.1 g2)
            · have g22 : ((n : Int) == 2) = false := beq_eq_false_iff_ne.2 (by omega)
              clear h22
              go_wp2_with fail
              go_roundw
              case rel => exact ⟨j2, _, _, hr, HSTN.out, HZ6.out, HYN.out, HRF.out, HNF.out, HZF.out, by have := HIJ.out; have := HJ2.out.1; omega⟩
              case measure =>
                rw [HRF.out.idx, HIX.out]
                have := HJ2.out.1
                omega
        · rcases HRD.out with ⟨-, hr⟩ | ⟨s', k, h, -, -⟩ | ⟨s', x2, j2, h, -, -⟩
          · obtain ⟨k0, s0, p0, he⟩ : ∃ (k0 : Int) (s0 : ByteArray) (p0 : Int), e' = .returned (.tuple #[.agg #[.int .i64 k0, .string s0, .int .i64 p0], .bool false]) := ⟨_, _, _, he⟩
            subst he
            obtain ⟨wb, hwb⟩ : ∃ wb, wa.alloc (.cells #[.int .i64 k0, .string s0, .int .i64 p0] 115) = wb := ⟨_, rfl⟩
            have hbb : Below wa.heap.size wa wb := by rw [← hwb]; exact belowNew' _ _
            have ho6b : Own7 wb b6 y := (own7_only HO6.out hna (HB6R.out b6 HB6.out)).keep hbb
            have hNb : Only (fun k => k = rb) wr wb := hna.trans (.of_below hbb)
            have HRB := Lib.hid (hra.keep hbb)
            have HNB := Lib.hid (HNR.out.trans hNb)
            have HZB := Lib.hid (own7_only HZR.out hNb (by have := HLT.out; omega))
            have HSYB := Lib.hid ((HSY.out.keep (alike_only2 hNb (fun b hb hb2 => by have := HLT.out; have := hb.1; omega))))
            have HWb := Lib.hid hwb
            obtain ⟨v0, v1, v2, v3, v4, v5, v6⟩ := ho6b.cells
            have hl6b := ho6b.lt
            clear hwb hbb ho6b hNb hra hna hs T8 z1
            go_wp2_with (first
              | rw [HWb.out]
              | (refine wpList_put7 rfl (.tmp 4) (.tmp 41) rfl (X := y) HZB.out rfl (by rfl) ?_; intro wg hzg hog; have HZG := Lib.hid hzg; have HOG := Lib.hid hog; clear hzg hog))
            obtain ⟨o0, o1, o2, o3, o4, o5, o6⟩ := HZG.out.cells
            refine bodyPost_ret (v := exV y) ?_ rfl ?_
            · simp [results, Tryz.results147, go_sem, o0, o1, o2, o3, o4, o5, o6, exV]
            · rw [hr]
              exact says_put HNB.out HRB.out HSYB.out (fun b hb => ⟨Nat.le_of_lt hb.1, by have := hb.1; omega⟩) HSTR.out HOG.out rfl HLT.out HOLD.out
          · rw [hs] at h; cases h
          · rw [hs] at h; cases h
end Go.Proofs.YtpbbkpfaphjdoaaGreatDoor
