/- Of expressions that are right: their size does not go round, what is below one is right too; the type of an operation by those of its parts. No program in sight. -/
import Derived.Test.YtapbmknimejldaaDoorKindOf
namespace Go.Proofs.YtapbmknimejldaaDoor
open Go.ChangeShapes Go.WideShapes Go.ChangeAt Go.RowKit

mutual
def exN : Ex → Nat
  | .mk _ _ _ _ _ l _ => exNs l + 1
def exNs : List Ex → Nat
  | [] => 0
  | a :: l => exN a + exNs l
end
theorem exN_eq (e : Ex) : exN e = exNs e.args + 1 := by cases e; rw [exN]; rfl
theorem exNs_mem : ∀ {l : List Ex} {a : Ex}, a ∈ l → exN a ≤ exNs l
  | [], a, h => by cases h
  | x :: l, a, h => by
    rw [exNs]
    rcases List.mem_cons.1 h with rfl | h
    · omega
    · have := exNs_mem h; omega
theorem wrap64_ok {n : Int} (h : 0 ≤ n) (h2 : n < 9223372036854775808) : wrap64 n = n := by
  unfold wrap64; omega
theorem exSizes_ok : ∀ {l : List Ex} {n : Nat}, (∀ a ∈ l, exSize a = exN a) → n + exNs l < 9223372036854775808 → exSizes n l = ((n + exNs l : Nat) : Int)
  | [], n, _, _ => by rw [exSizes, exNs]; simp
  | a :: l, n, h, hb => by
    rw [exNs] at hb
    rw [exSizes, exNs, h a List.mem_cons_self, wrap64_ok (by omega) (by omega)]
    have := exSizes_ok (l := l) (n := n + exN a) (fun x hx => h x (List.mem_cons_of_mem _ hx)) (by omega)
    rw [show (n : Int) + (exN a : Int) = ((n + exN a : Nat) : Int) by omega, this]
    congr 1; omega
theorem exNs_bound : ∀ {l : List Ex} {B : Nat}, (∀ a ∈ l, 2 * exN a + 1 ≤ B) → 2 * exNs l + l.length ≤ l.length * B
  | [], B, _ => by simp [exNs]
  | a :: l, B, h => by
    rw [exNs]
    have h1 := h a List.mem_cons_self
    have h2 := exNs_bound (l := l) fun x hx => h x (List.mem_cons_of_mem _ hx)
    rw [List.length_cons, Nat.add_mul]; omega
theorem pow3_le {m : Nat} (h : m ≤ 30) : 3 ^ m ≤ 205891132094649 := by
  have := Nat.pow_le_pow_right (n := 3) (by omega) h
  simpa using this
theorem size_ok : ∀ (m : Nat), m ≤ 30 → ∀ e : Ex, exBelow m e = true → nodesErr e = 0 → exSize e = exN e ∧ 2 * exN e + 1 ≤ 3 ^ m
  | 0, _, e, h, _ => by rw [exBelow] at h; cases h
  | m + 1, hm, e, h, hn => by
    rw [exBelow_all] at h
    obtain ⟨op, name, v, A, c, args, pos⟩ := e
    obtain ⟨h1, h2⟩ := nodesErr_parts hn
    have h3 := (nodeErr_len h1).2.2
    have ih : ∀ a ∈ args, exSize a = exN a ∧ 2 * exN a + 1 ≤ 3 ^ m := fun a ha => size_ok m (by omega) a (List.all_eq_true.1 h a ha) (nodesErrs_all h2 a ha)
    have hb := exNs_bound fun a ha => (ih a ha).2
    have hp := pow3_le (m := m) (by omega)
    have hpos : 1 ≤ 3 ^ m := Nat.one_le_pow _ _ (by omega)
    have hl : args.length * 3 ^ m ≤ args.length + 3 * (3 ^ m - 1) := by
      have : args.length * (3 ^ m - 1) ≤ 3 * (3 ^ m - 1) := Nat.mul_le_mul_right _ h3
      have e : args.length * 3 ^ m = args.length * (3 ^ m - 1) + args.length := by
        rw [← Nat.mul_succ]; congr 1; omega
      omega
    have hN : exN (.mk op name v A c args pos) = exNs args + 1 := by rw [exN]
    refine ⟨?_, by rw [hN, Nat.pow_succ]; omega⟩
    rw [exSize, show (1 : Int) = ((1 : Nat) : Int) from rfl, exSizes_ok (fun a ha => (ih a ha).1) (by omega), hN]
    congr 1; omega
theorem below_mono : ∀ (m : Nat) (e : Ex), exBelow m e = true → exBelow (m + 1) e = true
  | 0, e, h => by rw [exBelow] at h; cases h
  | m + 1, e, h => by
    rw [exBelow_all] at h ⊢
    exact List.all_eq_true.2 fun a ha => below_mono m a (List.all_eq_true.1 h a ha)
theorem checkErr_ok {e : Ex} (h : checkErr e = 0) : exSize e ≤ 200 ∧ exBelow 30 e = true ∧ nodesErr e = 0 := by
  unfold checkErr fullB at h
  by_cases h1 : (decide (200 < exSize e) || !exBelow 30 e) = true
  · rw [if_pos h1] at h; omega
  · rw [if_neg h1] at h
    simp at h1
    exact ⟨h1.1, h1.2, h⟩
theorem checkErr_mk {e : Ex} (h1 : exSize e ≤ 200) (h2 : exBelow 30 e = true) (h3 : nodesErr e = 0) : checkErr e = 0 := by
  unfold checkErr fullB
  rw [if_neg (by simp [h2]; exact h1), h3]
theorem checkErr_child {e : Ex} (h : checkErr e = 0) : ∀ a ∈ e.args, checkErr a = 0 := by
  obtain ⟨h1, h2, h3⟩ := checkErr_ok h
  obtain ⟨op, name, v, A, c, args, pos⟩ := e
  intro a ha
  replace ha : a ∈ args := ha
  have h4 := (size_ok 30 (Nat.le_refl _) _ h2 h3).1
  have h5 : exBelow 29 a = true := by
    rw [exBelow_all] at h2
    exact List.all_eq_true.1 h2 a ha
  have h6 := nodesErrs_all (nodesErr_parts h3).2 a ha
  have h7 := (size_ok 29 (by omega) a h5 h6).1
  have h8 := exNs_mem ha
  have h9 : exN (.mk op name v A c args pos) = exNs args + 1 := by rw [exN]
  exact checkErr_mk (by omega) (below_mono 29 a h5) h6
theorem checkErr_len {e : Ex} (h : checkErr e = 0) : (e.args.length : Int) = arityOf e.op ∧ e.args.length ≤ 3 := by
  have h3 := (checkErr_ok h).2.2
  obtain ⟨op, name, v, A, c, args, pos⟩ := e
  have := nodeErr_len (nodesErr_parts h3).1
  exact ⟨this.1, this.2.2⟩

theorem typeOf_child {cols : List Col} {e a : Ex} (h : checkErr e = 0) (ha : a ∈ e.args) : typeOf cols a = if schemaErr cols ≠ 0 then ⟨0, schemaErr cols, 0⟩ else ofE cols a := by
  unfold typeOf; rw [if_neg (by rw [checkErr_child h a ha]; decide)]
theorem ofFault_take {cols : List Col} : ∀ {l : List Ex} {k : Nat}, (∀ a ∈ l.take k, (ofE cols a).h = 0) → (ofFault cols (l.take k)).h = 0
  | [], k, _ => by simp [ofFault]
  | x :: l, 0, _ => by simp [ofFault]
  | x :: l, k + 1, h => by
    rw [List.take_succ_cons] at h ⊢
    rw [ofFault, if_neg (by rw [h x List.mem_cons_self]; decide)]
    exact ofFault_take fun a ha => h a (List.mem_cons_of_mem _ ha)
/-- The first of its parts that is wrong is what is wrong with the whole. -/
theorem typeOf_fault {cols : List Col} {e a : Ex} {k : Nat} (h : checkErr e = 0) (hk : e.args[k]? = some a) (hb : ∀ x ∈ e.args.take k, (typeOf cols x).h = 0) (hf : (typeOf cols a).h ≠ 0) :
    typeOf cols e = ⟨0, (typeOf cols a).h, (typeOf cols a).p⟩ := by
  have ha := List.mem_of_getElem? hk
  rw [typeOf_child h ha] at hf ⊢
  unfold typeOf
  rw [if_neg (by rw [h]; decide)]
  by_cases hs : schemaErr cols = 0
  · rw [if_neg (by simp [hs])] at hf ⊢
    rw [if_neg (by simp [hs])]
    obtain ⟨op, name, v, A, c, args, pos⟩ := e
    have hb' : ∀ x ∈ args.take k, (ofE cols x).h = 0 := by
      intro x hx
      have h1 := hb x hx
      rw [typeOf_child h (List.mem_of_mem_take hx), if_neg (by simp [hs])] at h1
      exact h1
    have hF := ofFault_hit (ofFault_take hb') hk hf
    rw [ofE_mk, hF, if_pos hf]
  · rw [if_pos hs]; rw [if_pos hs]
theorem arity_pos {s : ByteArray} (h : 1 ≤ arityOf s) : ¬ isVal s ∧ ¬ isCol s := by
  constructor
  · intro hv
    rw [bytes_of hv] at h
    exact absurd h (by decide)
  · intro hv
    rw [bytes_of hv] at h
    exact absurd h (by decide)
/-- Of parts that are right the whole. -/
theorem typeOf_whole {cols : List Col} {e : Ex} (h : checkErr e = 0) (hp : 0 < e.args.length) (hb : ∀ x ∈ e.args, (typeOf cols x).h = 0) :
    typeOf cols e = if ruleErr e.op (e.args.map fun a => (typeOf cols a).t) ≠ 0 then ⟨0, 8, e.pos⟩ else ⟨ruleTy e.op (e.args.map fun a => (typeOf cols a).t), 0, 0⟩ := by
  have hs : schemaErr cols = 0 := by
    have ha : e.args[0] ∈ e.args := List.getElem_mem hp
    have h1 := hb _ ha
    rw [typeOf_child h ha] at h1
    by_cases hs : schemaErr cols = 0
    · exact hs
    · rw [if_pos hs] at h1; exact h1
  have he : ∀ a ∈ e.args, typeOf cols a = ofE cols a := fun a ha => by rw [typeOf_child h ha, if_neg (by simp [hs])]
  have hm : (e.args.map fun a => (typeOf cols a).t) = ofTypes cols e.args := by
    rw [ofTypes_map]
    exact List.map_congr_left fun a ha => by rw [he a ha]
  rw [hm]
  have hl := (checkErr_len h).1
  have hv := arity_pos (s := e.op) (by omega)
  have hF : (ofFault cols e.args).h = 0 := by
    have := ofFault_take (cols := cols) (l := e.args) (k := e.args.length) (by
      rw [List.take_length]
      intro a ha
      have := hb a ha
      rwa [he a ha] at this)
    rwa [List.take_length] at this
  unfold typeOf
  rw [if_neg (by rw [h]; decide), if_neg (by simp [hs])]
  obtain ⟨op, name, v, A, c, args, pos⟩ := e
  rw [ofE_mk, if_neg (by rw [show ofFault cols args = ofFault cols (Ex.mk op name v A c args pos).args from rfl, hF]; decide)]
  unfold ofNode
  rw [if_neg (show ¬ isVal op from hv.1), if_neg (show ¬ isCol op from hv.2)]
  rfl
end Go.Proofs.YtapbmknimejldaaDoor
