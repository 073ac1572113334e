/- A value as text: plain, and sluiceref1.Show, walked. -/
import Derived.Test.YtpbbkpfaphjdoaaDoorDigits
import Derived.Lib.Replace
namespace Go.Proofs.YtpbbkpfaphjdoaaDoor
open Go.ChangeShapes Go.WideShapes Go.ChangeAt Go.RowKit

/-- Each sign ' twice. -/
def dblQ : List UInt8 → List UInt8
  | [] => []
  | b :: l => if b = 39 then 39 :: 39 :: dblQ l else b :: dblQ l
theorem dblQ_app : ∀ a b : List UInt8, dblQ (a ++ b) = dblQ a ++ dblQ b
  | [], b => rfl
  | x :: a, b => by
    rw [List.cons_append, dblQ, dblQ, dblQ_app a b]
    split <;> rfl
theorem dblQ_no : ∀ {a : List UInt8}, (∀ b ∈ a, b ≠ 39) → dblQ a = a
  | [], _ => rfl
  | x :: a, h => by
    rw [dblQ, if_neg (h x (by simp)), dblQ_no (fun b hb => h b (List.mem_cons_of_mem _ hb))]
theorem dblQ_len : ∀ a : List UInt8, (dblQ a).length ≤ 2 * a.length
  | [] => Nat.le_refl _
  | x :: a => by
    rw [dblQ]
    have := dblQ_len a
    split <;> simp <;> omega
theorem split39 : ∀ s : List UInt8, (∀ b ∈ s, b ≠ 39) ∨ ∃ a t, s = a ++ 39 :: t ∧ ∀ b ∈ a, b ≠ 39
  | [] => Or.inl (by simp)
  | x :: s => by
    by_cases hx : x = 39
    · exact Or.inr ⟨[], s, by rw [hx]; rfl, by simp⟩
    · rcases split39 s with h | ⟨a, t, h1, h2⟩
      · refine Or.inl fun b hb => ?_
        rcases List.mem_cons.1 hb with rfl | hb
        · exact hx
        · exact h b hb
      · refine Or.inr ⟨x :: a, t, by rw [h1]; rfl, fun b hb => ?_⟩
        rcases List.mem_cons.1 hb with rfl | hb
        · exact hx
        · exact h2 b hb
theorem idx_no : ∀ {s : List UInt8}, (∀ b ∈ s, b ≠ 39) → Lib.index s [39] = -1
  | [], _ => rfl
  | x :: s, h => by
    have hp : ([39] : List UInt8).isPrefixOf (x :: s) = false := by
      have : ((39 : UInt8) == x) = false := by simpa using fun e => h x (by simp) e.symm
      simp [List.isPrefixOf, this]
    rw [Lib.index, hp, idx_no (s := s) (fun b hb => h b (List.mem_cons_of_mem _ hb))]
    rfl
theorem idx_at : ∀ {a t : List UInt8}, (∀ b ∈ a, b ≠ 39) → Lib.index (a ++ 39 :: t) [39] = a.length
  | [], t, _ => by
    rw [List.nil_append, Lib.index, if_pos (by simp [List.isPrefixOf])]
    rfl
  | x :: a, t, h => by
    have hp : ([39] : List UInt8).isPrefixOf (x :: (a ++ 39 :: t)) = false := by
      have : ((39 : UInt8) == x) = false := by simpa using fun e => h x (by simp) e.symm
      simp [List.isPrefixOf, this]
    have ih := idx_at (t := t) (fun b hb => h b (List.mem_cons_of_mem _ hb) : ∀ b ∈ a, b ≠ 39)
    rw [List.cons_append, Lib.index, hp, ih, if_neg (by decide)]
    have hn : ¬ ((a.length : Int) == -1) = true := by
      intro e
      have := beq_iff_eq.1 e
      omega
    rw [if_neg hn, List.length_cons]
    omega
theorem rep_dbl : ∀ (n : Nat) (s : List UInt8), s.length ≤ n → Lib.replaceK [39] [39, 39] (Lib.count s [39]) s = dblQ s
  | n, s, hn => by
    rcases split39 s with h | ⟨a, t, h1, h2⟩
    · rw [Lib.count_miss (idx_no h), Lib.replaceK, dblQ_no h]
    · subst h1
      have hi := idx_at (t := t) h2
      have hd : (a ++ 39 :: t).drop (a.length + [(39 : UInt8)].length) = t := by
        rw [← List.drop_drop, List.drop_left]; rfl
      have hc := Lib.count_hit (s := a ++ 39 :: t) (sub := [39]) (i := a.length) (by decide) hi
      rw [hd] at hc
      rw [hc, Nat.add_comm, Lib.replaceK_hit _ _ _ _ _ hi, List.take_left, hd, dblQ_app, dblQ_no h2, dblQ, if_pos rfl]
      cases n with
      | zero => simp at hn
      | succ n =>
        rw [rep_dbl n t (by simp at hn; omega)]
        simp
theorem replace_dbl (s : List UInt8) : Lib.replaceAll s [39] [39, 39] = dblQ s := by
  unfold Lib.replaceAll Lib.replace Lib.replaceNum
  rw [if_neg (by decide), if_pos (Or.inl (by decide))]
  exact rep_dbl _ s (Nat.le_refl _)
/-- A value as text. -/
def valText (v : Val) : List UInt8 := if v.type = 1 then Lib.itoa v.n else if v.type = 2 then (if v.n = 1 then [116, 114, 117, 101] else [102, 97, 108, 115, 101]) else 39 :: (dblQ v.s.data.toList ++ [39])
theorem belowNew' (w : World) (o : Obj) : Below w.heap.size w (w.alloc o) := (Below.refl _ _).alloc (Nat.le_refl _) _
theorem cells3' {w : World} {b : Nat} {x y z : Value} {T : TypeId} (h : w.heap[b]? = some (.cells #[x, y, z] T (0, 0))) : w.cell? ⟨b, 0, none⟩ = some x ∧ w.cell? ⟨b, 1, none⟩ = some y ∧ w.cell? ⟨b, 2, none⟩ = some z := by
  refine ⟨?_, ?_, ?_⟩ <;> rw [cell_of_row _ _ _ _ _ _ h] <;> rfl
theorem ext_one {s : ByteArray} {k : Nat} {b : UInt8} (h : s.data.toList[k]? = some b) : s.extract k (k + 1) = ⟨[b].toArray⟩ := by
  obtain ⟨⟨l⟩⟩ := s
  apply ByteArray.ext
  have h : l[k]? = some b := h
  obtain ⟨hk, hb⟩ := List.getElem?_eq_some_iff.1 h
  simp only [ByteArray.data_extract]
  apply Array.ext'
  simp only [Array.toList_extract, List.extract_eq_take_drop]
  rw [show k + 1 - k = 1 by omega, List.drop_eq_getElem_cons hk, hb]
  rfl
end Go.Proofs.YtpbbkpfaphjdoaaDoor
