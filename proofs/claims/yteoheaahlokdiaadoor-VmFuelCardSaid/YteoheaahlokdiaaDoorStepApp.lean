/- append of elements just laid, in a region that draws its order. -/
import Derived.Test.YteoheaahlokdiaaDoorOnly
import Derived.Deep.AppendLies
namespace Go.Proofs.YteoheaahlokdiaaDoor
open Go.ChangeShapes Go.WideShapes Go.ChangeAt Go.RowKit

/-- 'x.f = append(x.f, y)' in a region that draws: y's cells have just been laid in a block of their own. -/
theorem step_append_one {P : Program} {t e : TypeId} {z : Value} {size bytes : Nat} (hS : SliceTy P t e z size bytes)
    {ops : Array Oper} {o : Oper} {a : Act} {K : Act → World → Prop} {Q : Exit → Act → World → Prop} {E : Prop} (hgd : o.guard = none) (s x : Operand)
    (ho : o.op = .call { callee := .builtin .append, args := #[s, x], argTypes := #[t, t] })
    {B : Nat} {wr : World} {v : Value} {n : Nat} {xs : List Value} {cs : Array Value} {c : Nat}
    (hs : a.eval s = v) (hx : a.eval x = .slice (some ⟨wr.heap.size, 0, none⟩) 1 c)
    (hown : wr.ownsRow B e size v n xs) (hB : B ≤ wr.heap.size) (hcs : cs.size = size) (h1 : ∀ u ∈ cs.toList, u.oneCell' = true)
    (hn : (n + 1) * bytes ≤ 140737488355328)
    (h : ∀ g cap w', w'.ownsRow B e size (.slice (some ⟨g, 0, none⟩) (n + 1) cap) (n + 1) (xs ++ cs.toList) → ((wr.alloc (.cells cs e)).drew).grownBy w' v.ownBlock → (v.ownBlock = some g ∨ g = wr.heap.size + 1) → K (a.put o.dst (.slice (some ⟨g, 0, none⟩) (n + 1) cap)) w') :
    if Region.wanted o (yielded ops a.tmps) = true then Oper.wp P o a ((wr.alloc (.cells cs e)).drew) K Q else E := by
  obtain ⟨ht, h2, h3, hzs, i, hi, hz, hsz, hby⟩ := hS
  have hm : n + 1 ≤ (n + 1) * bytes := Nat.le_mul_of_pos_right _ h3
  refine step_append_lies _ hgd s x t ho B e i z size bytes ht hi hz hsz hby hzs h2 v n xs hs (own_keep (hown.alloc _) (Below.drew (Below.refl _ _))) ⟨wr.heap.size, 0, none⟩ 1 c cs.toList hx (by simpa using hcs) ?_ h1 (by decide) (by unfold maxLen; omega) hn (by simp; omega) (wr.heap.size + 1) (by simp) ?_
  · intro j u hu
    have := cells_new wr cs e j
    rw [show (wr.alloc (.cells cs e)).drew.cell? ((⟨wr.heap.size, 0, none⟩ : Addr).add j) = (wr.alloc (.cells cs e)).cell? ((⟨wr.heap.size, 0, none⟩ : Addr).add j) from rfl, this]
    simpa using hu
  · intro g cap w' h1' h2' h3' _
    exact h g cap w' h1' h2' h3'
/-- 'x.f = append(x.f, y)' in a region that draws: m elements have just been laid in a block of their own. -/
theorem step_append_many {P : Program} {t e : TypeId} {z : Value} {size bytes : Nat} (hS : SliceTy P t e z size bytes)
    {ops : Array Oper} {o : Oper} {a : Act} {K : Act → World → Prop} {Q : Exit → Act → World → Prop} {E : Prop} (hgd : o.guard = none) (s x : Operand)
    (ho : o.op = .call { callee := .builtin .append, args := #[s, x], argTypes := #[t, t] })
    {B : Nat} {wr : World} {v : Value} {n : Nat} {xs : List Value} {cs : Array Value} {m c : Nat} (hm0 : 0 < m)
    (hs : a.eval s = v) (hx : a.eval x = .slice (some ⟨wr.heap.size, 0, none⟩) m c)
    (hown : wr.ownsRow B e size v n xs) (hB : B ≤ wr.heap.size) (hcs : cs.size = m * size) (h1 : ∀ u ∈ cs.toList, u.oneCell' = true)
    (hn : (n + m) * bytes ≤ 140737488355328)
    (h : ∀ g cap w', w'.ownsRow B e size (.slice (some ⟨g, 0, none⟩) (n + m) cap) (n + m) (xs ++ cs.toList) → ((wr.alloc (.cells cs e)).drew).grownBy w' v.ownBlock → (v.ownBlock = some g ∨ g = wr.heap.size + 1) → K (a.put o.dst (.slice (some ⟨g, 0, none⟩) (n + m) cap)) w') :
    if Region.wanted o (yielded ops a.tmps) = true then Oper.wp P o a ((wr.alloc (.cells cs e)).drew) K Q else E := by
  obtain ⟨ht, h2, h3, hzs, i, hi, hz, hsz, hby⟩ := hS
  have hm : n + m ≤ (n + m) * bytes := Nat.le_mul_of_pos_right _ h3
  refine step_append_lies _ hgd s x t ho B e i z size bytes ht hi hz hsz hby hzs h2 v n xs hs (own_keep (hown.alloc _) (Below.drew (Below.refl _ _))) ⟨wr.heap.size, 0, none⟩ m c cs.toList hx (by simpa using hcs) ?_ h1 hm0 (by unfold maxLen; omega) hn (by simp; omega) (wr.heap.size + 1) (by simp) ?_
  · intro j u hu
    have := cells_new wr cs e j
    rw [show (wr.alloc (.cells cs e)).drew.cell? ((⟨wr.heap.size, 0, none⟩ : Addr).add j) = (wr.alloc (.cells cs e)).cell? ((⟨wr.heap.size, 0, none⟩ : Addr).add j) from rfl, this]
    simpa using hu
  · intro g cap w' h1' h2' h3' _
    exact h g cap w' h1' h2' h3'
/-- The same in a plain region: one element, just laid. -/
theorem list_append_one {P : Program} {t e : TypeId} {z : Value} {size bytes : Nat} (hS : SliceTy P t e z size bytes)
    {ops : Array Oper} {rest : List Oper} {o : Oper} {a : Act} {Q : Exit → Act → World → Prop} (hgd : o.guard = none) (s x : Operand)
    (ho : o.op = .call { callee := .builtin .append, args := #[s, x], argTypes := #[t, t] })
    {B : Nat} {wr : World} {v : Value} {n : Nat} {xs : List Value} {cs : Array Value} {c : Nat}
    (hs : a.eval s = v) (hx : a.eval x = .slice (some ⟨wr.heap.size, 0, none⟩) 1 c)
    (hown : wr.ownsRow B e size v n xs) (hB : B ≤ wr.heap.size) (hcs : cs.size = size) (h1 : ∀ u ∈ cs.toList, u.oneCell' = true)
    (hn : (n + 1) * bytes ≤ 140737488355328)
    (h : ∀ g cap w', w'.ownsRow B e size (.slice (some ⟨g, 0, none⟩) (n + 1) cap) (n + 1) (xs ++ cs.toList) → (wr.alloc (.cells cs e)).grownBy w' v.ownBlock → (v.ownBlock = some g ∨ g = wr.heap.size + 1) → wpList P ops Q rest (a.put o.dst (.slice (some ⟨g, 0, none⟩) (n + 1) cap)) w') :
    wpList P ops Q (o :: rest) a (wr.alloc (.cells cs e)) := by
  obtain ⟨ht, h2, h3, hzs, i, hi, hz, hsz, hby⟩ := hS
  have hm : n + 1 ≤ (n + 1) * bytes := Nat.le_mul_of_pos_right _ h3
  refine wpList_append_lies _ hgd s x t ho B e i z size bytes ht hi hz hsz hby hzs h2 v n xs hs (hown.alloc _) ⟨wr.heap.size, 0, none⟩ 1 c cs.toList hx (by simpa using hcs) ?_ h1 (by decide) (by unfold maxLen; omega) hn (by simp; omega) (wr.heap.size + 1) (by simp) ?_
  · intro j u hu
    rw [cells_new]; simpa using hu
  · intro g cap w' h1' h2' h3' _
    exact h g cap w' h1' h2' h3'
end Go.Proofs.YteoheaahlokdiaaDoor
