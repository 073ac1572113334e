/- tree.Reader's Expr, Done, NewReader, walked. tree.Reader's call, walked: len, if: what they are called with. tree.Reader's call, walked: len, if, with a bracket behind: their arguments. -/
import Derived.Test.YtpbbkpfaphjdoaaDoorRdGo
namespace Go.Proofs.YtpbbkpfaphjdoaaDoor
open Go.ChangeShapes Go.WideShapes Go.ChangeAt Go.RowKit

end Go.Proofs.YtpbbkpfaphjdoaaDoor
namespace Go.Proofs.YtpbbkpfaphjdoaaDoor
open Go.ChangeShapes Go.WideShapes Go.ChangeAt Go.RowKit

theorem ar_cases {T : List Tok} {E : Nat} {wd : List UInt8} {p m i : Nat} {acc : List Ex} {r : PR} (h : Rd T E (.ar wd p m acc) i r) :
    (acc.length = m ∧ ((isT T i wClose = true ∧ r = .ok (opEx wd acc p, i + 1)) ∨ (isT T i wClose = false ∧ r = .error (atT T E i)))) ∨
    (acc.length < m ∧ acc ≠ [] ∧ isT T i wComma = false ∧ r = .error (atT T E i)) ∨
    (acc.length < m ∧ ∃ i', (acc = [] ∧ i' = i ∨ acc ≠ [] ∧ isT T i wComma = true ∧ i' = i + 1) ∧ ((∃ k, Rd T E (.lv 0) i' (.error k) ∧ r = .error k) ∨ ∃ x j, Rd T E (.lv 0) i' (.ok (x, j)) ∧ Rd T E (.ar wd p m (acc ++ [x])) j r)) := by
  cases h with
  | arEnd h c => exact Or.inl ⟨h, Or.inl ⟨c, rfl⟩⟩
  | arEndN h c => exact Or.inl ⟨h, Or.inr ⟨c, rfl⟩⟩
  | arFirst h a b => exact Or.inr (Or.inr ⟨h, _, Or.inl ⟨rfl, rfl⟩, Or.inr ⟨_, _, a, b⟩⟩)
  | arFirstE h a => exact Or.inr (Or.inr ⟨h, _, Or.inl ⟨rfl, rfl⟩, Or.inl ⟨_, a, rfl⟩⟩)
  | arGo h h0 c a b => exact Or.inr (Or.inr ⟨h, _, Or.inr ⟨h0, c, rfl⟩, Or.inr ⟨_, _, a, b⟩⟩)
  | arGoE h h0 c a => exact Or.inr (Or.inr ⟨h, _, Or.inr ⟨h0, c, rfl⟩, Or.inl ⟨_, a, rfl⟩⟩)
  | arGoN h h0 c => exact Or.inr (Or.inl ⟨h, h0, c, rfl⟩)
theorem built_opp (op : ByteArray) (pos : Int) : Tryd.prog.built 57 [(0, Value.string op), (4, .int .i64 pos)] = some #[.string op, .string ⟨#[]⟩, .int .i64 0, .int .i64 0, .string ⟨#[]⟩, .slice none 0 0, .int .i64 pos] := by kernel_rfl
theorem run_opp (op : ByteArray) (pos : Int) (w : World) : (Instr.build 57 #[(0, .string op), (4, .int .i64 pos)]).run Tryd.prog w = .ok (.agg #[.string op, .string ⟨#[]⟩, .int .i64 0, .int .i64 0, .string ⟨#[]⟩, .slice none 0 0, .int .i64 pos]) w :=
  run_build w _ _ _ (built_opp op pos)
/-- append of one, just laid, in a region that is taken step by step. -/
theorem wpOp_append_one {P : Program} {t e : TypeId} {z : Value} {size bytes : Nat} (hS : SliceTy P t e z size bytes)
    {ops : Array Oper} {o : Oper} {a : Act} {K : Act → World → Prop} {Q : Exit → Act → World → Prop} {j : Nat} {d : Option Tmp} (hj : ops[j]? = some o) (hd : o.dst = d) (hgd : o.guard = none) (s x : Operand)
    (ho : o.op = .call { callee := .builtin .append, args := #[s, x], argTypes := #[t, t] })
    {B H : Nat} {w : World} {v : Value} {n : Nat} {xs ys : List Value} {b c : Nat}
    (hs : a.eval s = v) (hx : a.eval x = .slice (some ⟨b, 0, none⟩) 1 c)
    (hown : w.ownsRow B e size v n xs) (hB : B ≤ w.heap.size) (hys : ys.length = size) (hcell : ∀ j u, ys[j]? = some u → w.cell? ((⟨b, 0, none⟩ : Addr).add j) = some u) (h1 : ∀ u ∈ ys, u.oneCell' = true)
    (hn : (n + 1) * bytes ≤ 140737488355328) (hH : w.heap.size = H)
    (h : ∀ g cap w', w'.ownsRow B e size (.slice (some ⟨g, 0, none⟩) (n + 1) cap) (n + 1) (xs ++ ys) → w.grownBy w' v.ownBlock → (v.ownBlock = some g ∨ g = H) → K (a.put d (.slice (some ⟨g, 0, none⟩) (n + 1) cap)) w') : wpOp P ops Q j K a w := by
  subst hd
  obtain ⟨ht, h2, h3, hzs, i, hi, hz, hsz, hby⟩ := hS
  have hm : n + 1 ≤ (n + 1) * bytes := Nat.le_mul_of_pos_right _ h3
  have hw : Region.wanted o (yielded ops a.tmps) = true := by simp [Region.wanted, hgd]
  unfold wpOp
  simp only [hj, hw, if_true]
  left
  exact wp_append_lies w s x t ho B e i z size bytes ht hi hz hsz hby hzs h2 v n xs hs hown ⟨b, 0, none⟩ 1 c ys hx (by simpa using hys) hcell h1 (by decide) (by unfold maxLen; omega) hn hB H hH (fun g cap w' k1 k2 k3 _ => h g cap w' k1 k2 k3)
end Go.Proofs.YtpbbkpfaphjdoaaDoor
namespace Go.Proofs.YtpbbkpfaphjdoaaDoor
open Go.ChangeShapes Go.WideShapes Go.ChangeAt Go.RowKit

/-- Blocks that were not there ahead may turn. -/
theorem Only.then_news {S S2 : Nat → Prop} {a b d : World} (h : Only S a b) (h2 : Only S2 b d) (hn : ∀ k, S2 k → a.heap.size ≤ k) : Only S a d :=
  ⟨h2.os.trans h.os, h2.tape.trans h.tape, h2.output.trans h.output, Nat.le_trans h.size h2.size, fun k hk hs => (h2.block k (Nat.lt_of_lt_of_le hk h.size) (fun e => by have := hn k e; omega)).trans (h.block k hk hs)⟩
/-- An operation that yields nothing. -/
theorem wpOp_skip {P : Program} {ops : Array Oper} {Q : Exit → Act → World → Prop} {j : Nat} {K : Act → World → Prop} {a : Act} {w w' : World} {o : Oper}
    (ho : ops[j]? = some o) (hw : Region.wanted o (yielded ops a.tmps) = true) (he : (execOp a.eval o).run P w = .ok .skip w') (h : K (a.put o.dst undef) w') : wpOp P ops Q j K a w := by
  unfold wpOp
  simp only [ho, hw, if_true]
  left
  unfold Oper.wp
  rw [he]
  exact h
section
variable {T : List Tok} {E rb : Nat} {A : Option Addr} {c : Nat} {w : World} {wd : List UInt8} {pos b6 k j : Nat} {A' : Option Addr} {c' : Nat} {ys : List Ex} {wr : World}
end
end Go.Proofs.YtpbbkpfaphjdoaaDoor
