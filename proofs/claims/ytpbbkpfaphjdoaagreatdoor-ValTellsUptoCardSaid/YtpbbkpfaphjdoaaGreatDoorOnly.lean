/- Memory: what only some blocks may change. append of elements just laid, in a region that draws its order. -/
import Derived.Test.YtpbbkpfaphjdoaaGreatDoorAnyInt
import Derived.Maps.AppendAt
import Derived.Deep.AppendLies
namespace Go.Proofs.YtpbbkpfaphjdoaaGreatDoor
open Go.ChangeShapes Go.WideShapes Go.ChangeAt Go.RowKit

/-- Of the blocks that were there, at most those of S have turned. -/
structure Only (S : Nat → Prop) (w w' : World) : Prop where
  os : w'.os = w.os
  tape : w'.tape = w.tape
  output : w'.output = w.output
  size : w.heap.size ≤ w'.heap.size
  block : ∀ k, k < w.heap.size → ¬ S k → w'.heap[k]? = w.heap[k]?
theorem Only.refl (S : Nat → Prop) (w : World) : Only S w w := ⟨rfl, rfl, rfl, Nat.le_refl _, fun _ _ _ => rfl⟩
theorem Only.trans {S : Nat → Prop} {a b c : World} (h : Only S a b) (k : Only S b c) : Only S a c :=
  ⟨k.os.trans h.os, k.tape.trans h.tape, k.output.trans h.output, Nat.le_trans h.size k.size, fun i hi hs => (k.block i (Nat.lt_of_lt_of_le hi h.size) hs).trans (h.block i hi hs)⟩
theorem Only.mono {S T : Nat → Prop} {a b : World} (h : Only S a b) (hT : ∀ k, S k → T k) : Only T a b := ⟨h.os, h.tape, h.output, h.size, fun k hk hs => h.block k hk (fun e => hs (hT k e))⟩
theorem Only.drew {S : Nat → Prop} {a b : World} (h : Only S a b) : Only S a b.drew := ⟨h.os, h.tape, h.output, h.size, h.block⟩
theorem Only.of_below {S : Nat → Prop} {a b : World} (h : Below a.heap.size a b) : Only S a b := ⟨h.os, h.tape, h.output, h.size, fun k hk _ => h.block k hk⟩
theorem Only.of_grown {S : Nat → Prop} {a b : World} {r : Option Nat} (h : a.grownBy b r) (hr : ∀ k, some k = r → S k) : Only S a b := ⟨h.os, h.tape, h.output, h.size, fun k hk hs => h.block k hk (fun e => hs (hr k e))⟩
theorem Only.setCell {S : Nat → Prop} {a b : World} (h : Only S a b) {p : Addr} (hp : S p.block) (u : Value) : Only S a (b.setCell p u) :=
  h.trans ⟨rfl, rfl, rfl, by simp [World.setCell], fun k _ hs => Below.heap_setCell _ _ _ _ (fun e => hs (e ▸ hp))⟩
theorem Only.alloc {S : Nat → Prop} {a b : World} (h : Only S a b) (o : Obj) : Only S a (b.alloc o) := h.trans (.of_below ((Below.refl _ _).alloc (Nat.le_refl _) o))
theorem Only.below {S : Nat → Prop} {a b : World} {B : Nat} (h : Only S a b) (hB : B ≤ a.heap.size) (hS : ∀ k, S k → B ≤ k) : Below B a b := ⟨h.os, h.tape, h.output, h.size, fun k hk => h.block k (by omega) (fun e => by have := hS k e; omega)⟩
theorem Only.cell {S : Nat → Prop} {a b : World} (h : Only S a b) {p : Addr} (hp : p.block < a.heap.size) (hs : ¬ S p.block) : b.cell? p = a.cell? p := World.cell?_of_block (w := a) (h.block p.block hp hs)
theorem Only.own {S : Nat → Prop} {a b : World} (h : Only S a b) {B e size : Nat} {v : Value} {n : Nat} {xs : List Value} (ho : a.ownsRow B e size v n xs) (hs : ∀ k, v.ownBlock = some k → ¬ S k) : b.ownsRow B e size v n xs := by
  refine ⟨ho.1, ?_⟩
  have hlt := ho.lt
  rcases ho.2 with hn | ⟨g, cap, cur, rfl, hb, hg, rest⟩
  · exact .inl hn
  · exact .inr ⟨g, cap, cur, rfl, hb, (h.block g (hlt g rfl).2 (hs g rfl)).trans hg, rest⟩
theorem Only.sees {S : Nat → Prop} {a b : World} (h : Only S a b) {A : Option Addr} {n c size : Nat} {xs : List Value} (hs : Sees a A n c size xs) (hA : ∀ ad, A = some ad → ¬ S ad.block) : Sees b A n c size xs :=
  ⟨hs.1, hs.2.1, hs.2.2.1, hs.2.2.2.1, fun hn => by
    obtain ⟨g, o, e, hg, hc⟩ := hs.2.2.2.2 hn
    exact ⟨g, o, e, Nat.lt_of_lt_of_le hg h.size, fun k u hu => (h.cell (p := ⟨g, o + k, none⟩) hg (hA ⟨g, o, none⟩ e)).trans (hc k u hu)⟩⟩

theorem own_other {w : World} {B e size g i : Nat} {u v : Value} {n : Nat} {xs : List Value} (h : w.ownsRow B e size v n xs) (hne : v.ownBlock ≠ some g) : (w.setCell ⟨g, i, none⟩ u).ownsRow B e size v n xs := by
  refine ⟨h.1, ?_⟩
  rcases h.2 with ⟨rfl, rfl⟩ | ⟨q, cap, cur, rfl, h1, h2, h3⟩
  · exact Or.inl ⟨rfl, rfl⟩
  · have : q ≠ g := fun e => hne (by simp [Value.ownBlock, e])
    exact Or.inr ⟨q, cap, cur, rfl, h1, (heap_setCell_other _ _ _ _ this).trans h2, h3⟩
theorem Only.sees_far {S : Nat → Prop} {a b : World} (h : Only S a b) {A : Option Addr} {n c size : Nat} {xs : List Value} (hs : Sees a A n c size xs) (hA : 0 < n → ∀ ad, A = some ad → ¬ S ad.block) : Sees b A n c size xs :=
  ⟨hs.1, hs.2.1, hs.2.2.1, hs.2.2.2.1, fun hn => by
    obtain ⟨g, o, e, hg, hc⟩ := hs.2.2.2.2 hn
    exact ⟨g, o, e, Nat.lt_of_lt_of_le hg h.size, fun k u hu => (h.cell (p := ⟨g, o + k, none⟩) hg (hA hn ⟨g, o, none⟩ e)).trans (hc k u hu)⟩⟩
theorem Only.vals_far {S : Nat → Prop} {a b : World} (h : Only S a b) {A : Option Addr} {n c : Nat} {l : List Val} (hs : SeesVals a A n c l) (hA : 0 < n → ∀ ad, A = some ad → ¬ S ad.block) : SeesVals b A n c l := ⟨hs.1, h.sees_far hs.2 hA⟩
theorem Only.drewN {S : Nat → Prop} {a b : World} (h : Only S a b) (q : Nat) : Only S a (b.drewN q) := ⟨h.os, h.tape, h.output, h.size, h.block⟩
theorem box2 {w : World} {b : Nat} {x y : Value} {T : TypeId} (h : w.heap[b]? = some (.cells #[x, y] T (0, 0))) : w.cell? ⟨b, 0, none⟩ = some x ∧ w.cell? ⟨b, 1, none⟩ = some y := by
  refine ⟨?_, ?_⟩ <;> (rw [cell_of_row _ _ _ _ _ _ h]; rfl)
theorem box3 {w : World} {b : Nat} {x y z : Value} {T : TypeId} (h : w.heap[b]? = some (.cells #[x, y, z] T (0, 0))) : w.cell? ⟨b, 0, none⟩ = some x ∧ w.cell? ⟨b, 1, none⟩ = some y ∧ w.cell? ⟨b, 2, none⟩ = some z := by
  refine ⟨?_, ?_, ?_⟩ <;> (rw [cell_of_row _ _ _ _ _ _ h]; rfl)
end Go.Proofs.YtpbbkpfaphjdoaaGreatDoor
namespace Go.Proofs.YtpbbkpfaphjdoaaGreatDoor
open Go.ChangeShapes Go.WideShapes Go.ChangeAt Go.RowKit

/-- 'x.f = append(x.f, y)' in a region that draws: y's cells have just been laid in a block of their own. -/
theorem step_append_one {P : Program} {t e : TypeId} {z : Value} {size bytes : Nat} (hS : SliceTy P t e z size bytes)
    {ops : Array Oper} {o : Oper} {a : Act} {K : Act → World → Prop} {Q : Exit → Act → World → Prop} {E : Prop} (hgd : o.guard = none) (s x : Operand)
    (ho : o.op = .call { callee := .builtin .append, args := #[s, x], argTypes := #[t, t] })
    {B : Nat} {wr : World} {v : Value} {n : Nat} {xs : List Value} {cs : Array Value} {c : Nat}
    (hs : a.eval s = v) (hx : a.eval x = .slice (some ⟨wr.heap.size, 0, none⟩) 1 c)
    (hown : wr.ownsRow B e size v n xs) (hB : B ≤ wr.heap.size) (hcs : cs.size = size) (h1 : ∀ u ∈ cs.toList, u.oneCell' = true)
    (hn : (n + 1) * bytes ≤ 140737488355328)
    (h : ∀ g cap w', w'.ownsRow B e size (.slice (some ⟨g, 0, none⟩) (n + 1) cap) (n + 1) (xs ++ cs.toList) → ((wr.alloc (.cells cs e)).drew).grownBy w' v.ownBlock → (v.ownBlock = some g ∨ g = wr.heap.size + 1) → K (a.put o.dst (.slice (some ⟨g, 0, none⟩) (n + 1) cap)) w') :
    if Region.wanted o (yielded ops a.tmps) = true then Oper.wp P o a ((wr.alloc (.cells cs e)).drew) K Q else E := by
  obtain ⟨ht, h2, h3, hzs, i, hi, hz, hsz, hby⟩ := hS
  have hm : n + 1 ≤ (n + 1) * bytes := Nat.le_mul_of_pos_right _ h3
  refine step_append_lies _ hgd s x t ho B e i z size bytes ht hi hz hsz hby hzs h2 v n xs hs (own_keep (hown.alloc _) (Below.drew (Below.refl _ _))) ⟨wr.heap.size, 0, none⟩ 1 c cs.toList hx (by simpa using hcs) ?_ h1 (by decide) (by unfold maxLen; omega) hn (by simp; omega) (wr.heap.size + 1) (by simp) ?_
  · intro j u hu
    have := cells_new wr cs e j
    rw [show (wr.alloc (.cells cs e)).drew.cell? ((⟨wr.heap.size, 0, none⟩ : Addr).add j) = (wr.alloc (.cells cs e)).cell? ((⟨wr.heap.size, 0, none⟩ : Addr).add j) from rfl, this]
    simpa using hu
  · intro g cap w' h1' h2' h3' _
    exact h g cap w' h1' h2' h3'
/-- 'x.f = append(x.f, y)' in a region that draws: m elements have just been laid in a block of their own. -/
theorem step_append_many {P : Program} {t e : TypeId} {z : Value} {size bytes : Nat} (hS : SliceTy P t e z size bytes)
    {ops : Array Oper} {o : Oper} {a : Act} {K : Act → World → Prop} {Q : Exit → Act → World → Prop} {E : Prop} (hgd : o.guard = none) (s x : Operand)
    (ho : o.op = .call { callee := .builtin .append, args := #[s, x], argTypes := #[t, t] })
    {B : Nat} {wr : World} {v : Value} {n : Nat} {xs : List Value} {cs : Array Value} {m c : Nat} (hm0 : 0 < m)
    (hs : a.eval s = v) (hx : a.eval x = .slice (some ⟨wr.heap.size, 0, none⟩) m c)
    (hown : wr.ownsRow B e size v n xs) (hB : B ≤ wr.heap.size) (hcs : cs.size = m * size) (h1 : ∀ u ∈ cs.toList, u.oneCell' = true)
    (hn : (n + m) * bytes ≤ 140737488355328)
    (h : ∀ g cap w', w'.ownsRow B e size (.slice (some ⟨g, 0, none⟩) (n + m) cap) (n + m) (xs ++ cs.toList) → ((wr.alloc (.cells cs e)).drew).grownBy w' v.ownBlock → (v.ownBlock = some g ∨ g = wr.heap.size + 1) → K (a.put o.dst (.slice (some ⟨g, 0, none⟩) (n + m) cap)) w') :
    if Region.wanted o (yielded ops a.tmps) = true then Oper.wp P o a ((wr.alloc (.cells cs e)).drew) K Q else E := by
  obtain ⟨ht, h2, h3, hzs, i, hi, hz, hsz, hby⟩ := hS
  have hm : n + m ≤ (n + m) * bytes := Nat.le_mul_of_pos_right _ h3
  refine step_append_lies _ hgd s x t ho B e i z size bytes ht hi hz hsz hby hzs h2 v n xs hs (own_keep (hown.alloc _) (Below.drew (Below.refl _ _))) ⟨wr.heap.size, 0, none⟩ m c cs.toList hx (by simpa using hcs) ?_ h1 hm0 (by unfold maxLen; omega) hn (by simp; omega) (wr.heap.size + 1) (by simp) ?_
  · intro j u hu
    have := cells_new wr cs e j
    rw [show (wr.alloc (.cells cs e)).drew.cell? ((⟨wr.heap.size, 0, none⟩ : Addr).add j) = (wr.alloc (.cells cs e)).cell? ((⟨wr.heap.size, 0, none⟩ : Addr).add j) from rfl, this]
    simpa using hu
  · intro g cap w' h1' h2' h3' _
    exact h g cap w' h1' h2' h3'
/-- The same in a plain region: one element, just laid. -/
theorem list_append_one {P : Program} {t e : TypeId} {z : Value} {size bytes : Nat} (hS : SliceTy P t e z size bytes)
    {ops : Array Oper} {rest : List Oper} {o : Oper} {a : Act} {Q : Exit → Act → World → Prop} (hgd : o.guard = none) (s x : Operand)
    (ho : o.op = .call { callee := .builtin .append, args := #[s, x], argTypes := #[t, t] })
    {B : Nat} {wr : World} {v : Value} {n : Nat} {xs : List Value} {cs : Array Value} {c : Nat}
    (hs : a.eval s = v) (hx : a.eval x = .slice (some ⟨wr.heap.size, 0, none⟩) 1 c)
    (hown : wr.ownsRow B e size v n xs) (hB : B ≤ wr.heap.size) (hcs : cs.size = size) (h1 : ∀ u ∈ cs.toList, u.oneCell' = true)
    (hn : (n + 1) * bytes ≤ 140737488355328)
    (h : ∀ g cap w', w'.ownsRow B e size (.slice (some ⟨g, 0, none⟩) (n + 1) cap) (n + 1) (xs ++ cs.toList) → (wr.alloc (.cells cs e)).grownBy w' v.ownBlock → (v.ownBlock = some g ∨ g = wr.heap.size + 1) → wpList P ops Q rest (a.put o.dst (.slice (some ⟨g, 0, none⟩) (n + 1) cap)) w') :
    wpList P ops Q (o :: rest) a (wr.alloc (.cells cs e)) := by
  obtain ⟨ht, h2, h3, hzs, i, hi, hz, hsz, hby⟩ := hS
  have hm : n + 1 ≤ (n + 1) * bytes := Nat.le_mul_of_pos_right _ h3
  refine wpList_append_lies _ hgd s x t ho B e i z size bytes ht hi hz hsz hby hzs h2 v n xs hs (hown.alloc _) ⟨wr.heap.size, 0, none⟩ 1 c cs.toList hx (by simpa using hcs) ?_ h1 (by decide) (by unfold maxLen; omega) hn (by simp; omega) (wr.heap.size + 1) (by simp) ?_
  · intro j u hu
    rw [cells_new]; simpa using hu
  · intro g cap w' h1' h2' h3' _
    exact h g cap w' h1' h2' h3'
end Go.Proofs.YtpbbkpfaphjdoaaGreatDoor
