/- tree.Reader's levels, walked: what is read of any words. tree.Reader's levels below the last one, walked: parts with signs between. -/
import Derived.Test.YtpbbkpfaphjdoaaDoorRdr
import Derived.Test.YtpbbkpfaphjdoaaDoorParse
import Derived.Deep.RegionHeld2
import Derived.Deep.RegionHeld3
import Derived.Deep.AppendLies
import Derived.Laws.Tables
import Derived.Laws.CopyOwn
namespace Go.Proofs.YtpbbkpfaphjdoaaDoor
open Go.ChangeShapes Go.WideShapes Go.ChangeAt Go.RowKit

def zeroE : Ex := .mk ⟨#[]⟩ ⟨#[]⟩ noVal none 0 [] 0
/-- The tables, as they were ahead of the reader. -/
structure Env (wB w : World) (rb : Nat) : Prop where
  lev : LevelsT wB
  words : WordsT wB
  text : TextT wB
  num : NumT wB
  below : Below wB.heap.size wB w
  le : wB.heap.size ≤ rb
theorem Env.only {wB w w' : World} {rb : Nat} (h : Env wB w rb) (ho : Only (fun k => k = rb) w w') : Env wB w' rb := ⟨h.lev, h.words, h.text, h.num, h.below.trans (ho.below h.below.size (fun _ e => e ▸ h.le)), h.le⟩
theorem Env.keep {wB w w' : World} {rb : Nat} (h : Env wB w rb) (hb : Below w.heap.size w w') : Env wB w' rb := h.only (.of_below hb)
theorem box_zeroE (w : World) : ∃ w0, w.alloc (.cells #[.string ⟨#[]⟩, .string ⟨#[]⟩, .int .i64 0, .int .i64 0, .string ⟨#[]⟩, .slice none 0 0, .int .i64 0] 57) = w0 ∧ Own7 w0 w.heap.size zeroE ∧ Below w.heap.size w w0 :=
  ⟨_, rfl, own7_new w zeroE, belowNew' _ _⟩
/-- A call that ends the region by a panic. -/
theorem wpOp_panics {P : Program} {ops : Array Oper} {Q : Exit → Act → World → Prop} {j : Nat} {K : Act → World → Prop} {a : Act} {w : World} {o : Oper} {f : FuncId} {args : Array Value} {c : List PanicEntry} {R : World → Prop}
    (ho : ops[j]? = some o) (hw : Region.wanted o (yielded ops a.tmps) = true) (he : (execOp a.eval o).run P w = .ok (.enter f args) w) (hc : Calls P f args w fun e w' => e = .panicked c ∧ R w') (hQ : ∀ w', R w' → Q (.panic c) a w') : wpOp P ops Q j K a w := by
  unfold wpOp
  simp only [ho, hw, if_true]
  left
  unfold Oper.wp
  rw [he]
  simp only [Oper.upon]
  exact Calls.mono hc (fun e w' ⟨h1, h2⟩ => by subst h1; exact hQ w' h2)
/-- A call that comes back; an operation that yields a value; a store of an expression. -/
theorem wpOp_returns {P : Program} {ops : Array Oper} {Q : Exit → Act → World → Prop} {j : Nat} {K : Act → World → Prop} {a : Act} {w : World} {o : Oper} {f : FuncId} {args : Array Value} {R : Ending → World → Prop}
    (ho : ops[j]? = some o) (hw : Region.wanted o (yielded ops a.tmps) = true) (he : (execOp a.eval o).run P w = .ok (.enter f args) w) (hc : Calls P f args w R) (h : ∀ e w', R e w' → ∃ u, e = .returned u ∧ K (a.put o.dst u) w') : wpOp P ops Q j K a w := by
  unfold wpOp
  simp only [ho, hw, if_true]
  left
  unfold Oper.wp
  rw [he]
  simp only [Oper.upon]
  exact Calls.mono hc (fun e w' h1 => by obtain ⟨u, rfl, h2⟩ := h e w' h1; exact h2)
theorem wpOp_value {P : Program} {ops : Array Oper} {Q : Exit → Act → World → Prop} {j : Nat} {K : Act → World → Prop} {a : Act} {w w' : World} {o : Oper} {v : Value}
    (ho : ops[j]? = some o) (hw : Region.wanted o (yielded ops a.tmps) = true) (he : (execOp a.eval o).run P w = .ok (.value v) w') (h : K (a.put o.dst v) w') : wpOp P ops Q j K a w := by
  unfold wpOp
  simp only [ho, hw, if_true]
  left
  unfold Oper.wp
  rw [he]
  exact h
/-- The same with the place named into which the value goes. -/
theorem takeH {P : Program} {md : Region.Mode} {ops : Array Oper} {Q : Exit → Act → World → Prop} {S : World → Prop} {i : Nat} {oi : Oper} {d : Option Tmp} {v : Value} {fuel : Nat} {listed : Array Bool} {a : Act} {w : World} (hi : ops[i]? = some oi) (hd : oi.dst = d)
    (hs : Region.noSelect ops = true) (hf : Region.free md ops listed i = true) (hr : (Region.ready md ops listed).contains i = true)
    (hQ : ∀ c a w, Q (.panic c) (a.put d v) w → Q (.panic c) a w) (hy : YieldsIf P ops S oi v a) (hS : S w)
    (h : wpAnyH P md ops Q S fuel (listed.setIfInBounds i true) (a.put d v) w) : wpAnyH P md ops Q S (fuel + 1) listed a w := by
  subst hd
  exact wpAnyH_take hi hs hf hr hQ hy hS h
theorem wpOp_returnsD {P : Program} {ops : Array Oper} {Q : Exit → Act → World → Prop} {j : Nat} {K : Act → World → Prop} {a : Act} {w : World} {o : Oper} {d : Option Tmp} {f : FuncId} {args : Array Value} {R : Ending → World → Prop}
    (ho : ops[j]? = some o) (hd : o.dst = d) (hw : Region.wanted o (yielded ops a.tmps) = true) (he : (execOp a.eval o).run P w = .ok (.enter f args) w) (hc : Calls P f args w R) (h : ∀ e w', R e w' → ∃ u, e = .returned u ∧ K (a.put d u) w') : wpOp P ops Q j K a w := by
  subst hd
  exact wpOp_returns ho hw he hc h
theorem wpOp_valueD {P : Program} {ops : Array Oper} {Q : Exit → Act → World → Prop} {j : Nat} {K : Act → World → Prop} {a : Act} {w w' : World} {o : Oper} {d : Option Tmp} {v : Value}
    (ho : ops[j]? = some o) (hd : o.dst = d) (hw : Region.wanted o (yielded ops a.tmps) = true) (he : (execOp a.eval o).run P w = .ok (.value v) w') (h : K (a.put d v) w') : wpOp P ops Q j K a w := by
  subst hd
  exact wpOp_value ho hw he h
theorem wpOp_store7 {ops : Array Oper} {Q : Exit → Act → World → Prop} {j : Nat} {K : Act → World → Prop} {a : Act} {w : World} {o : Oper} (hj : ops[j]? = some o) (hg : o.guard = none) (x y : Operand) (ho : o.op = .store 57 x y) (hd : o.dst = none) {b : Nat} {e X : Ex}
    (hown : Own7 w b e) (hx : a.eval x = .pointer (some ⟨b, 0, none⟩)) (hy : a.eval y = .agg #[.string X.op, .string X.name, .int .i64 X.val.type, .int .i64 X.val.n, .string X.val.s, .slice X.A X.args.length X.c, .int .i64 X.pos])
    (h : ∀ w', Own7 w' b X → Only (fun k => k = b) w w' → K a w') : wpOp Tryd.prog ops Q j K a w := by
  have hw : Region.wanted o (yielded ops a.tmps) = true := by simp [Region.wanted, hg]
  unfold wpOp
  simp only [hj, hw, if_true]
  left
  have hb := below_setRow (B := b) (Below.refl b w) (Nat.le_refl _) (#[Value.string X.op, .string X.name, .int .i64 X.val.type, .int .i64 X.val.n, .string X.val.s, .slice X.A X.args.length X.c, .int .i64 X.pos])
  have hO : Only (fun k => k = b) w (w.setRow b #[Value.string X.op, .string X.name, .int .i64 X.val.type, .int .i64 X.val.n, .string X.val.s, .slice X.A X.args.length X.c, .int .i64 X.pos]) := ⟨hb.os, hb.tape, hb.output, hb.size, fun k _ hk => setRow_other w b k _ hk⟩
  refine wp_store_row _ x y ho b _ hx hy 57 _ hown (by kernel_rfl) rfl (by rw [← Array.all_toList]; rfl) ?_
  rw [hd]
  exact h _ (setRow_heap w b _ _ _ _ hown) hO
theorem wpList_put7 {ops : Array Oper} {rest : List Oper} {o : Oper} {a : Act} {w : World} {Q : Exit → Act → World → Prop} (hg : o.guard = none) (x y : Operand) (ho : o.op = .store 57 x y) {b : Nat} {e X : Ex}
    (hown : Own7 w b e) (hx : a.eval x = .pointer (some ⟨b, 0, none⟩)) (hy : a.eval y = .agg #[.string X.op, .string X.name, .int .i64 X.val.type, .int .i64 X.val.n, .string X.val.s, .slice X.A X.args.length X.c, .int .i64 X.pos])
    (h : ∀ w', Own7 w' b X → Only (fun k => k = b) w w' → wpList Tryd.prog ops Q rest (a.put o.dst undef) w') : wpList Tryd.prog ops Q (o :: rest) a w := by
  refine wpList_store_row hg _ x y ho b _ hx hy 57 _ hown (by kernel_rfl) rfl (by rw [← Array.all_toList]; rfl) (h _ (setRow_heap w b _ _ _ _ hown) ?_)
  have hb := below_setRow (B := b) (Below.refl b w) (Nat.le_refl _) (#[Value.string X.op, .string X.name, .int .i64 X.val.type, .int .i64 X.val.n, .string X.val.s, .slice X.A X.args.length X.c, .int .i64 X.pos])
  exact ⟨hb.os, hb.tape, hb.output, hb.size, fun k _ hk => setRow_other w b k _ hk⟩
theorem built_op (op : ByteArray) (pos : Int) (A : Option Addr) (n c : Nat) : Tryd.prog.built 57 [(0, Value.string op), (4, .int .i64 pos), (3, .slice A n c)] = some #[.string op, .string ⟨#[]⟩, .int .i64 0, .int .i64 0, .string ⟨#[]⟩, .slice A n c, .int .i64 pos] := by kernel_rfl
theorem run_op (op : ByteArray) (pos : Int) (A : Option Addr) (n c : Nat) (w : World) : (Instr.build 57 #[(0, .string op), (4, .int .i64 pos), (3, .slice A n c)]).run Tryd.prog w = .ok (.agg #[.string op, .string ⟨#[]⟩, .int .i64 0, .int .i64 0, .string ⟨#[]⟩, .slice A n c, .int .i64 pos]) w :=
  run_build w _ _ _ (built_op op pos A n c)
theorem only_cell {S : Nat → Prop} {w w' : World} (h : Only S w w') {b j : Nat} {v : Value} (hc : w.cell? ⟨b, j, none⟩ = some v) (hs : ¬ S b) : w'.cell? ⟨b, j, none⟩ = some v :=
  (h.cell (p := ⟨b, j, none⟩) (World.block_lt_of_cell? w _ hc) hs).trans hc
theorem Only.drewL {S : Nat → Prop} {a b : World} (h : Only S a.drew b) : Only S a b := ⟨h.os, h.tape, h.output, h.size, h.block⟩
/-- A block that was not there ahead may turn. -/
theorem Only.then_new {S : Nat → Prop} {a b d : World} {R : Nat} (h : Only S a b) (h2 : Only (fun k => k = R) b d) (hn : a.heap.size ≤ R) : Only S a d :=
  ⟨h2.os.trans h.os, h2.tape.trans h.tape, h2.output.trans h.output, Nat.le_trans h.size h2.size, fun k hk hs => (h2.block k (Nat.lt_of_lt_of_le hk h.size) (by omega)).trans (h.block k hk hs)⟩
theorem alike_only2 {S T : Nat → Prop} {w w' : World} (h : Only T w w') (hd : ∀ b, S b → ¬ T b) : Alike S w w' := ⟨h.size, fun b hs hl => h.block b hl (hd b hs)⟩
theorem fits_at {T : List Tok} {E : Nat} (hW : Words T E) (i : Nat) : fits (atT T E i : Int) := by
  have : atT T E i ≤ 400 := by
    unfold atT
    cases ht : T[i]? with
    | none => exact hW.E_le
    | some t => exact Nat.le_trans (hW.at_ t (List.mem_of_getElem? ht)) hW.E_le
  unfold fits lo63 hi63
  omega
/-- An operation of parts that lie in a block of their own. -/
theorem seesS_node {S : Nat → Prop} {w : World} {b : Nat} {op : ByteArray} {l : List Ex} {pos : Int} (hrow : w.heap[b]? = some (.cells (exsCells l).toArray 57 (0, 0))) (hS : S b) (hl : l.length ≤ 400) (ho : op.size ≤ 400) (hp : fits pos) (ha : ∀ a ∈ l, SeesS S w a) :
    SeesS S w (.mk op ⟨#[]⟩ noVal (some ⟨b, 0, none⟩) l.length l pos) := by
  refine .mk ⟨exsCells_length l, Nat.le_refl _, by show l.length ≤ maxLen; unfold maxLen; omega, (fun e => by cases e), fun _ => ⟨b, 0, rfl, (Array.getElem?_eq_some_iff.1 hrow).1, fun j u hu => ?_⟩⟩ (fun g o e _ => by injection e with e; injection e with e; exact e ▸ hS) (by show op.size ≤ maxLen; unfold maxLen; omega) (Nat.zero_le _) ⟨show fits 0 by decide, show fits 0 by decide, Nat.zero_le _⟩ hp ha
  rw [Nat.zero_add, cell_of_row _ _ _ _ _ _ hrow]
  have hu' : (exsCells l)[j]? = some u := hu
  simpa using hu'
theorem lp_cases {T : List Tok} {E n i : Nat} {e : Ex} {r : PR} (h : Rd T E (.lp n e) i r) : (sgT T n i = none ∧ r = .ok (e, i)) ∨
    (∃ s k, sgT T n i = some s ∧ Rd T E (.lv (n + 1)) (i + 1) (.error k) ∧ r = .error k) ∨
    (∃ s x j, sgT T n i = some s ∧ Rd T E (.lv (n + 1)) (i + 1) (.ok (x, j)) ∧ ((n = 2 ∧ r = .ok (opEx s [e, x] (atT T E i), j)) ∨ (n ≠ 2 ∧ Rd T E (.lp n (opEx s [e, x] (atT T E i))) j r))) := by
  cases h with
  | lpEnd h => exact Or.inl ⟨h, rfl⟩
  | lpGo h hn a b => exact Or.inr (Or.inr ⟨_, _, _, h, a, Or.inr ⟨hn, b⟩⟩)
  | lpOne h a => exact Or.inr (Or.inr ⟨_, _, _, h, a, Or.inl ⟨rfl, rfl⟩⟩)
  | lpE h a => exact Or.inr (Or.inl ⟨_, _, h, a, rfl⟩)
/-- Where the reader stands. -/
def rdIdx (w : World) (rb : Nat) : Nat := match w.cell? ⟨rb, 1, none⟩ with
  | some (.int _ i) => i.toNat
  | _ => 0
theorem seesS_lt2 {S : Nat → Prop} {w : World} {e : Ex} (h : SeesS S w e) : SeesS (fun b => S b ∧ b < w.heap.size) w e := by
  induction h with
  | mk hs hS ho hn hv hp _ ih =>
    refine .mk hs (fun g o e1 e2 => ⟨hS g o e1 e2, ?_⟩) ho hn hv hp ih
    obtain ⟨g', o', e3, hg, _⟩ := hs.2.2.2.2 e2
    rw [e1] at e3
    injection e3 with e3
    injection e3 with e3 _
    rw [e3]; exact hg
theorem lvl_short {n : Nat} {s : List UInt8} (h : s ∈ lvlL n) : s.length ≤ 400 := by
  match n, h with
  | 0, h | 1, h | 2, h | 3, h | 4, h => simp [lvlL] at h; rcases h with h | h | h | h | h | h <;> simp_all
  | n + 5, h => simp [lvlL] at h
end Go.Proofs.YtpbbkpfaphjdoaaDoor
namespace Go.Proofs.YtpbbkpfaphjdoaaDoor
open Go.ChangeShapes Go.WideShapes Go.ChangeAt Go.RowKit

theorem own7_only {S : Nat → Prop} {w w' : World} {b : Nat} {e : Ex} (h : Own7 w b e) (ho : Only S w w') (hs : ¬ S b) : Own7 w' b e := (ho.block b h.lt hs).trans h
theorem own3t_only {S : Nat → Prop} {w w' : World} {b : Nat} {k : Int} {s : ByteArray} {p : Int} (h : Own3T w b k s p) (ho : Only S w w') (hs : ¬ S b) : Own3T w' b k s p := (ho.block b h.lt hs).trans h
end Go.Proofs.YtpbbkpfaphjdoaaDoor
