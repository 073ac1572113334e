/- agg.of, agg.Total.plus, agg.Total.value, walked: numbers of 128 bits. agg.One: how one aggregate lies; (One).sort, (*Acc).Count's kind of cell: walked. Memory of an accumulator: what only some blocks may change; the row of its aggregates; sums and edges stored in it. Aggregates, plain: what adding a row, joining, telling come to. No program in sight. sluiceref1.Order, walked, of two values that are right and of one type; sluicesame.Vals over two lists that are the same. Values are in one order, plain. -/
import Derived.Test.YtpbbkpfaphjdoaaGreatDoorErr
import Derived.Test.YtpbbkpfaphjdoaaGreatDoorWords
import Derived.IntWalk
import Derived.Laws.Externs
import Derived.StillTailTactics
import Derived.Deep.QuietTactic
import Derived.BigQuiet
import Derived.Deep.RegionHeld3
import Derived.Test.YtpbbkpfaphjdoaaGreatDoorVals
import Derived.Test.YtpbbkpfaphjdoaaGreatDoorOnly
namespace Go.Proofs.YtpbbkpfaphjdoaaGreatDoor
open Go.ChangeShapes Go.WideShapes Go.ChangeAt Go.RowKit

/-- A total as it lies: the upper and the lower 64 bits. -/
def hiOf (t : Int) : Int := t / 18446744073709551616
def loOf (t : Int) : Int := t % 18446744073709551616
def totV (t : Int) : Value := .agg #[.int .i64 (hiOf t), .int .u64 (loOf t)]

theorem tot_parts (t : Int) : t = hiOf t * 18446744073709551616 + loOf t ∧ 0 ≤ loOf t ∧ loOf t < 18446744073709551616 := by
  unfold hiOf loOf; omega
theorem tot_sum {a b : Int} : hiOf (a + b) = hiOf a + hiOf b + (loOf a + loOf b) / 18446744073709551616 ∧ loOf (a + b) = (loOf a + loOf b) % 18446744073709551616 := by
  unfold hiOf loOf; omega
theorem tot_inj {a b : Int} (h1 : hiOf a = hiOf b) (h2 : loOf a = loOf b) : a = b := by
  have := tot_parts a
  have := tot_parts b
  rw [h1, h2] at *
  omega
/-- A total that is far from going round. -/
def small (t : Int) : Prop := -1267650600228229401496703205376 ≤ t ∧ t ≤ 1267650600228229401496703205376
theorem small_hi {t : Int} (h : small t) : -68719476737 ≤ hiOf t ∧ hiOf t ≤ 68719476737 := by
  unfold small at h; unfold hiOf; omega



def fits64 (t : Int) : Prop := -9223372036854775808 ≤ t ∧ t ≤ 9223372036854775807
instance (t : Int) : Decidable (fits64 t) := inferInstanceAs (Decidable (_ ∧ _))
theorem lo_wrap (t : Int) : (fits64 t → wrap64 (loOf t) = t) ∧ loOf (wrap64 (loOf t)) = loOf t ∧ fits64 (wrap64 (loOf t)) := by
  unfold fits64 wrap64 loOf
  refine ⟨fun h => ?_, ?_, ?_, ?_⟩ <;> omega
def ValueSays (t : Int) (w : World) (e : Ending) (w' : World) : Prop :=
  e = .returned (if fits64 t then .tuple #[.int .i64 t, .nilIface] else .tuple #[.int .i64 0, .iface 32 (.int .i64 9)]) ∧ Below w.heap.size w w'
end Go.Proofs.YtpbbkpfaphjdoaaGreatDoor
namespace Go.Proofs.YtpbbkpfaphjdoaaGreatDoor
open Go.ChangeShapes Go.WideShapes Go.ChangeAt Go.RowKit

structure One where
  what : ByteArray
  type : Int
  sum : Int
  edge : Val
def oneCells (o : One) : List Value := [.string o.what, .int .i64 o.type, .int .i64 (hiOf o.sum), .int .u64 (loOf o.sum), .int .i64 o.edge.type, .int .i64 o.edge.n, .string o.edge.s]
def isCount (s : ByteArray) : Prop := s.data.toList = [99, 111, 117, 110, 116]
instance (s : ByteArray) : Decidable (isCount s) := inferInstanceAs (Decidable (_ = _))
/-- What one is of. -/
def sortOf (o : One) : One := ⟨o.what, if isCount o.what then 0 else o.type, 0, noVal⟩
end Go.Proofs.YtpbbkpfaphjdoaaGreatDoor
namespace Go.Proofs.YtpbbkpfaphjdoaaGreatDoor
open Go.ChangeShapes Go.WideShapes Go.ChangeAt Go.RowKit

/-- The aggregates, one behind the other. -/
def onesCells (l : List One) : List Value := l.flatMap oneCells
theorem onesCells_length (l : List One) : (onesCells l).length = l.length * 7 := by
  induction l with
  | nil => rfl
  | cons c l ih => simp only [onesCells, List.flatMap_cons, List.length_append, List.length_cons] at *; simp [oneCells, ih]; omega
theorem onesCells_at : ∀ {l : List One} {k : Nat} {o : One}, l[k]? = some o → (onesCells l)[k * 7]? = some (.string o.what) ∧ (onesCells l)[k * 7 + 1]? = some (.int .i64 o.type) ∧ (onesCells l)[k * 7 + 2]? = some (.int .i64 (hiOf o.sum)) ∧
    (onesCells l)[k * 7 + 3]? = some (.int .u64 (loOf o.sum)) ∧ (onesCells l)[k * 7 + 4]? = some (.int .i64 o.edge.type) ∧ (onesCells l)[k * 7 + 5]? = some (.int .i64 o.edge.n) ∧ (onesCells l)[k * 7 + 6]? = some (.string o.edge.s)
  | x :: l, 0, c, h => by simp at h; subst h; exact ⟨rfl, rfl, rfl, rfl, rfl, rfl, rfl⟩
  | x :: l, k + 1, c, h => by
    have ih := onesCells_at (l := l) (k := k) (by simpa using h)
    have e : onesCells (x :: l) = .string x.what :: .int .i64 x.type :: .int .i64 (hiOf x.sum) :: .int .u64 (loOf x.sum) :: .int .i64 x.edge.type :: .int .i64 x.edge.n :: .string x.edge.s :: onesCells l := rfl
    rw [e, show (k + 1) * 7 = k * 7 + 1 + 1 + 1 + 1 + 1 + 1 + 1 by omega]
    simpa using ih
  | [], k, c, h => by simp at h
theorem set_far {a b : List Value} (h : a.length = 7) (j : Nat) (u : Value) : (a ++ b).set (j + 7) u = a ++ b.set j u := by
  rw [List.set_append, if_neg (by omega), h, Nat.add_sub_cancel]
theorem onesCells_sum : ∀ {l : List One} {k : Nat} {o : One} (s : Int), l[k]? = some o → ((onesCells l).set (k * 7 + 2) (.int .i64 (hiOf s))).set (k * 7 + 3) (.int .u64 (loOf s)) = onesCells (l.set k ⟨o.what, o.type, s, o.edge⟩)
  | x :: l, 0, o, s, h => by simp at h; subst h; rfl
  | x :: l, k + 1, o, s, h => by
    have ih := onesCells_sum (l := l) (k := k) s (by simpa using h)
    have e : ∀ y l, onesCells (y :: l) = oneCells y ++ onesCells l := fun _ _ => rfl
    rw [List.set_cons_succ, e, e, show (k + 1) * 7 + 2 = (k * 7 + 2) + 7 by omega, show (k + 1) * 7 + 3 = (k * 7 + 3) + 7 by omega, set_far rfl, set_far rfl, ih]
  | [], k, o, s, h => by simp at h
theorem onesCells_edge : ∀ {l : List One} {k : Nat} {o : One} (v : Val), l[k]? = some o → (((onesCells l).set (k * 7 + 4) (.int .i64 v.type)).set (k * 7 + 5) (.int .i64 v.n)).set (k * 7 + 6) (.string v.s) = onesCells (l.set k ⟨o.what, o.type, o.sum, v⟩)
  | x :: l, 0, o, v, h => by simp at h; subst h; rfl
  | x :: l, k + 1, o, v, h => by
    have ih := onesCells_edge (l := l) (k := k) v (by simpa using h)
    have e : ∀ y l, onesCells (y :: l) = oneCells y ++ onesCells l := fun _ _ => rfl
    rw [List.set_cons_succ, e, e, show (k + 1) * 7 + 4 = (k * 7 + 4) + 7 by omega, show (k + 1) * 7 + 5 = (k * 7 + 5) + 7 by omega, show (k + 1) * 7 + 6 = (k * 7 + 6) + 7 by omega, set_far rfl, set_far rfl, set_far rfl, ih]
  | [], k, o, v, h => by simp at h

section
variable {w : World} {B g cap k : Nat} {l : List One} {o : One}
end

def isLeast (s : ByteArray) : Bool := s.data.toList == [108, 101, 97, 115, 116]
def isMost (s : ByteArray) : Bool := s.data.toList == [109, 111, 115, 116]
theorem least_not_most {s : ByteArray} (h : isLeast s = true) : isMost s = false := by
  unfold isLeast at h; unfold isMost; rw [eq_of_beq h]; rfl
def takes (wh : ByteArray) (c : Int) (first : Bool) : Bool := first || (isLeast wh && decide (c < 0)) || (isMost wh && decide (0 < c))
/-- What one is with a total and a value added. -/
def addOne (o : One) (t : Int) (ed : Val) (first : Bool) : One := ⟨o.what, o.type, o.sum + t, if takes o.what (vorder ed o.edge) first then ed else o.edge⟩
end Go.Proofs.YtpbbkpfaphjdoaaGreatDoor
namespace Go.Proofs.YtpbbkpfaphjdoaaGreatDoor
open Go.RowKit

theorem cb_anti : ∀ a b : List UInt8, Lib.compareBytes b a = - Lib.compareBytes a b
  | [], [] => rfl
  | [], _ :: _ => rfl
  | _ :: _, [] => rfl
  | a :: l1, b :: l2 => by
    rw [Lib.compareBytes, Lib.compareBytes]
    by_cases h1 : a < b
    · have h2 : ¬ b < a := by simp only [UInt8.lt_iff_toNat_lt] at *; omega
      rw [if_pos h1, if_neg h2, if_pos h1]; rfl
    · by_cases h2 : b < a
      · rw [if_pos h2, if_neg h1, if_pos h2]
      · rw [if_neg h2, if_neg h1, if_neg h1, if_neg h2, cb_anti l1 l2]
theorem cb_zero : ∀ {a b : List UInt8}, Lib.compareBytes a b = 0 → a = b
  | [], [], _ => rfl
  | [], _ :: _, h => by simp [Lib.compareBytes] at h
  | _ :: _, [], h => by simp [Lib.compareBytes] at h
  | a :: l1, b :: l2, h => by
    rw [Lib.compareBytes] at h
    by_cases h1 : a < b
    · rw [if_pos h1] at h; omega
    · by_cases h2 : b < a
      · rw [if_neg h1, if_pos h2] at h; omega
      · rw [if_neg h1, if_neg h2] at h
        have : a = b := by
          apply UInt8.toNat_inj.1
          simp only [UInt8.lt_iff_toNat_lt] at *; omega
        rw [this, cb_zero h]
theorem cb_trans : ∀ {a b c : List UInt8}, Lib.compareBytes a b ≤ 0 → Lib.compareBytes b c ≤ 0 → Lib.compareBytes a c ≤ 0
  | [], _, [], _, _ => by rw [Lib.compareBytes]; omega
  | [], _, _ :: _, _, _ => by rw [Lib.compareBytes]; omega
  | _ :: _, [], _, h, _ => by rw [Lib.compareBytes] at h; omega
  | _ :: _, _ :: _, [], _, h => by rw [Lib.compareBytes] at h; omega
  | a :: l1, b :: l2, c :: l3, h1, h2 => by
    rw [Lib.compareBytes] at h1 h2 ⊢
    by_cases k1 : a < b
    · by_cases k2 : b < c
      · rw [if_pos (by simp only [UInt8.lt_iff_toNat_lt] at *; omega)]; omega
      · rw [if_neg k2] at h2
        by_cases k3 : c < b
        · rw [if_pos k3] at h2; omega
        · rw [if_pos (by simp only [UInt8.lt_iff_toNat_lt] at *; omega)]; omega
    · rw [if_neg k1] at h1
      by_cases k3 : b < a
      · rw [if_pos k3] at h1; omega
      · rw [if_neg k3] at h1
        by_cases k2 : b < c
        · rw [if_pos (by simp only [UInt8.lt_iff_toNat_lt] at *; omega)]; omega
        · rw [if_neg k2] at h2
          by_cases k4 : c < b
          · rw [if_pos k4] at h2; omega
          · rw [if_neg k4] at h2
            rw [if_neg (by simp only [UInt8.lt_iff_toNat_lt] at *; omega), if_neg (by simp only [UInt8.lt_iff_toNat_lt] at *; omega)]
            exact cb_trans h1 h2
theorem vorder_anti {a b : Val} (h : a.type = b.type) : vorder b a = - vorder a b := by
  unfold vorder
  rw [← h]
  by_cases ht : a.type = 3
  · rw [if_pos ht, if_pos ht]; exact cb_anti _ _
  · rw [if_neg ht, if_neg ht]; unfold Lib.compareInt; split <;> split <;> (try split) <;> omega
theorem vorder_trans {a b c : Val} (h : a.type = b.type) (h1 : vorder a b ≤ 0) (h2 : vorder b c ≤ 0) : vorder a c ≤ 0 := by
  unfold vorder at *
  rw [← h] at h2
  by_cases ht : a.type = 3
  · rw [if_pos ht] at *; exact cb_trans h1 h2
  · rw [if_neg ht] at *
    unfold Lib.compareInt at *
    split at h1 <;> split at h2 <;> split <;> (try split at h1) <;> (try split at h2) <;> (try split) <;> omega
/-- Two that are right, of one type, neither ahead, are the same. -/
theorem vorder_zero {a b : Val} (ha : vcheck a = 0) (hb : vcheck b = 0) (h : a.type = b.type) (h0 : vorder a b = 0) : a = b := by
  obtain ⟨t, n, s⟩ := a
  obtain ⟨t2, n2, s2⟩ := b
  simp only at h
  subst h
  unfold vorder at h0
  unfold vcheck at ha hb
  simp only at h0 ha hb
  by_cases h3 : t = 3
  · subst h3
    rw [if_pos rfl] at h0
    have hs : s = s2 := Go.WideShapes.bytes_inj (cb_zero h0)
    rw [if_neg (by omega), if_neg (by omega), if_pos rfl] at ha hb
    have e1 : n = 0 := by
      split at ha
      · omega
      · split at ha
        · omega
        · split at ha
          · omega
          · omega
    have e2 : n2 = 0 := by
      split at hb
      · omega
      · split at hb
        · omega
        · split at hb
          · omega
          · omega
    rw [hs, e1, e2]
  · rw [if_neg h3] at h0
    have hn : n = n2 := by unfold Lib.compareInt at h0; split at h0 <;> (try split at h0) <;> omega
    have key : ∀ (m : Int) (u : ByteArray), (if t = 1 then (if u.data.toList = [] then (0 : Int) else 3) else if t = 2 then (if m = 0 ∨ m = 1 then (if u.data.toList = [] then 0 else 3) else 1) else if t = 3 then (if 40 < u.size then 4 else if textOk u = false then 2 else if m ≠ 0 then 3 else 0) else 1) = 0 → u.data.toList = [] := by
      intro m u hu
      by_cases h1 : t = 1
      · rw [if_pos h1] at hu; split at hu
        · assumption
        · omega
      · rw [if_neg h1] at hu
        by_cases h2 : t = 2
        · rw [if_pos h2] at hu
          split at hu
          · split at hu
            · assumption
            · omega
          · omega
        · rw [if_neg h2, if_neg h3] at hu; omega
    have e1 := key n s ha
    have e2 := key n2 s2 hb
    have hs : s = s2 := Go.WideShapes.bytes_inj (e1.trans e2.symm)
    rw [hs, hn]

/-- Which of two an edge is. -/
def pick (wh : ByteArray) (x y : Val) : Val := if takes wh (vorder y x) false then y else x
def stays (wh : ByteArray) (x y : Val) : Bool := !takes wh (vorder y x) false
theorem pick_stays {wh : ByteArray} {x y : Val} (h : stays wh x y = true) : pick wh x y = x := by
  unfold stays at h; unfold pick; rw [if_neg (by simpa using h)]
theorem pick_not {wh : ByteArray} {x y : Val} (h : stays wh x y = false) : pick wh x y = y := by
  unfold stays at h; unfold pick; rw [if_pos (by simpa using h)]
theorem stays_eq (wh : ByteArray) (x y : Val) (h : x.type = y.type) : stays wh x y = if isLeast wh then decide (vorder x y ≤ 0) else if isMost wh then decide (0 ≤ vorder x y) else true := by
  unfold stays takes
  rw [vorder_anti h]
  cases h1 : isLeast wh with
  | true =>
    rw [least_not_most h1]
    simp only [Bool.false_or, Bool.true_and, Bool.false_and, Bool.or_false, if_true]
    rw [Bool.eq_iff_iff]; simp <;> omega
  | false =>
    cases h2 : isMost wh with
    | true =>
      simp only [Bool.false_or, Bool.true_and, Bool.false_and, if_true]
      rw [Bool.eq_iff_iff]; simp <;> omega
    | false => simp
theorem stays_total {wh : ByteArray} {x y : Val} (h : x.type = y.type) (hn : stays wh x y = false) : stays wh y x = true := by
  rw [stays_eq wh x y h] at hn
  rw [stays_eq wh y x h.symm, vorder_anti h]
  cases h1 : isLeast wh with
  | true => rw [h1] at hn; simp at hn ⊢; omega
  | false =>
    cases h2 : isMost wh with
    | true => rw [h1, h2] at hn; simp at hn ⊢; omega
    | false => simp
theorem stays_trans {wh : ByteArray} {x y z : Val} (h : x.type = y.type) (k : y.type = z.type) (h1 : stays wh x y = true) (h2 : stays wh y z = true) : stays wh x z = true := by
  rw [stays_eq wh x y h] at h1
  rw [stays_eq wh y z k] at h2
  rw [stays_eq wh x z (h.trans k)]
  cases e1 : isLeast wh with
  | true => rw [e1] at h1 h2; simp at h1 h2 ⊢; exact vorder_trans h h1 h2
  | false =>
    cases e2 : isMost wh with
    | true =>
      rw [e1, e2] at h1 h2; simp at h1 h2 ⊢
      have a1 := vorder_anti h
      have a2 := vorder_anti k
      have a3 := vorder_anti (h.trans k)
      have := vorder_trans (a := z) (b := y) (c := x) k.symm (by omega) (by omega)
      omega
    | false => simp
theorem pick_type {wh : ByteArray} {x y : Val} {t : Int} (hx : x.type = t) (hy : y.type = t) : (pick wh x y).type = t := by
  unfold pick; split <;> assumption
theorem pick_assoc {wh : ByteArray} {x y z : Val} (h : x.type = y.type) (k : y.type = z.type) : pick wh (pick wh x y) z = pick wh x (pick wh y z) := by
  cases h1 : stays wh x y with
  | true =>
    rw [pick_stays h1]
    cases h2 : stays wh y z with
    | true => rw [pick_stays h2, pick_stays h1, pick_stays (stays_trans h k h1 h2)]
    | false => rw [pick_not h2]
  | false =>
    rw [pick_not h1]
    cases h2 : stays wh y z with
    | true => rw [pick_stays h2, pick_not h1]
    | false =>
      rw [pick_not h2, pick_not]
      cases h3 : stays wh x z with
      | false => rfl
      | true =>
        have := stays_trans (h.trans k) k.symm h3 (stays_total k h2)
        rw [this] at h1; cases h1

def bestOf (wh : ByteArray) : List Val → Val
  | [] => noVal
  | v :: l => l.foldl (pick wh) v
theorem bestOf_snoc (wh : ByteArray) (v : Val) : ∀ l : List Val, bestOf wh (l ++ [v]) = if l.length = 0 then v else pick wh (bestOf wh l) v
  | [] => rfl
  | x :: l => by rw [List.cons_append, bestOf, bestOf, List.foldl_append, if_neg (by simp)]; rfl
theorem bestOf_type (wh : ByteArray) (t : Int) : ∀ (l : List Val), l ≠ [] → (∀ v ∈ l, v.type = t) → (bestOf wh l).type = t
  | [], h, _ => absurd rfl h
  | x :: l, _, h => by
    rw [bestOf]
    have hx := h x List.mem_cons_self
    have hl : ∀ v ∈ l, v.type = t := fun v hv => h v (List.mem_cons_of_mem _ hv)
    clear h
    rename_i hne
    clear hne
    induction l generalizing x with
    | nil => exact hx
    | cons y l ih => rw [List.foldl_cons]; exact ih (pick wh x y) (pick_type hx (hl y List.mem_cons_self)) fun v hv => hl v (List.mem_cons_of_mem _ hv)
theorem bestOf_mem (wh : ByteArray) : ∀ (l : List Val), l ≠ [] → bestOf wh l ∈ l
  | [], h => absurd rfl h
  | x :: l, _ => by
    rw [bestOf]
    suffices h : ∀ (l : List Val) (x : Val), l.foldl (pick wh) x = x ∨ l.foldl (pick wh) x ∈ l by
      rcases h l x with h | h
      · rw [h]; exact List.mem_cons_self
      · exact List.mem_cons_of_mem _ h
    intro l
    induction l with
    | nil => intro x; exact Or.inl rfl
    | cons y l ih =>
      intro x
      rw [List.foldl_cons]
      rcases ih (pick wh x y) with h | h
      · rw [h]; unfold pick; split
        · exact Or.inr List.mem_cons_self
        · exact Or.inl rfl
      · exact Or.inr (List.mem_cons_of_mem _ h)
theorem foldl_pick (wh : ByteArray) (t : Int) : ∀ (l : List Val) (x y : Val), x.type = t → y.type = t → (∀ v ∈ l, v.type = t) → l.foldl (pick wh) (pick wh x y) = pick wh x (l.foldl (pick wh) y)
  | [], _, _, _, _, _ => rfl
  | z :: l, x, y, hx, hy, h => by
    have hz := h z List.mem_cons_self
    rw [List.foldl_cons, List.foldl_cons, pick_assoc (hx.trans hy.symm) (hy.trans hz.symm)]
    exact foldl_pick wh t l x (pick wh y z) hx (pick_type hy hz) fun v hv => h v (List.mem_cons_of_mem _ hv)
theorem bestOf_append (wh : ByteArray) (t : Int) : ∀ (l m : List Val), (∀ v ∈ l, v.type = t) → (∀ v ∈ m, v.type = t) → bestOf wh (l ++ m) = if l.length = 0 then bestOf wh m else if m.length = 0 then bestOf wh l else pick wh (bestOf wh l) (bestOf wh m)
  | [], _, _, _ => rfl
  | x :: l, [], _, _ => by rw [List.append_nil, if_neg (by simp), if_pos (by rfl)]
  | x :: l, y :: m, h, k => by
    have ht := bestOf_type wh t (x :: l) (by simp) h
    rw [if_neg (by simp), if_neg (by simp), List.cons_append, bestOf, List.foldl_append, List.foldl_cons]
    exact foldl_pick wh t m _ y ht (k y List.mem_cons_self) fun v hv => k v (List.mem_cons_of_mem _ hv)
/-- The edge stays against each. -/
theorem bestOf_stays (wh : ByteArray) (t : Int) : ∀ (l : List Val), (∀ v ∈ l, v.type = t) → ∀ v ∈ l, stays wh (bestOf wh l) v = true := by
  have refl : ∀ x : Val, stays wh x x = true := by
    intro x
    cases h : stays wh x x with
    | true => rfl
    | false => rw [stays_total rfl h] at h; cases h
  intro l
  match l with
  | [] => intro _ v hv; cases hv
  | x :: l =>
    intro h v hv
    rw [bestOf]
    have hx := h x List.mem_cons_self
    have hl : ∀ v ∈ l, v.type = t := fun v hv => h v (List.mem_cons_of_mem _ hv)
    suffices H : ∀ (l : List Val) (x : Val), x.type = t → (∀ v ∈ l, v.type = t) → stays wh (l.foldl (pick wh) x) x = true ∧ ∀ v ∈ l, stays wh (l.foldl (pick wh) x) v = true by
      obtain ⟨a, b⟩ := H l x hx hl
      rcases List.mem_cons.1 hv with hv | hv
      · rw [hv]; exact a
      · exact b v hv
    clear h hv hx hl x l v
    intro l
    induction l with
    | nil => intro x _ _; exact ⟨refl x, fun v hv => by cases hv⟩
    | cons y l ih =>
      intro x hx h
      have hy := h y List.mem_cons_self
      have hl : ∀ v ∈ l, v.type = t := fun v hv => h v (List.mem_cons_of_mem _ hv)
      obtain ⟨a, b⟩ := ih (pick wh x y) (pick_type hx hy) hl
      have hb : (l.foldl (pick wh) (pick wh x y)).type = t := bestOf_type wh t (pick wh x y :: l) (by simp) (fun v hv => (List.mem_cons.1 hv).elim (fun e => by rw [e]; exact pick_type hx hy) (hl v))
      have hp := pick_type (wh := wh) hx hy
      rw [List.foldl_cons]
      cases h1 : stays wh x y with
      | true =>
        rw [pick_stays h1] at a hb hp ⊢
        rw [pick_stays h1] at b
        refine ⟨a, fun v hv => ?_⟩
        rcases List.mem_cons.1 hv with hv | hv
        · rw [hv]; exact stays_trans (hb.trans hx.symm) (hx.trans hy.symm) a h1
        · exact b v hv
      | false =>
        rw [pick_not h1] at a hb hp ⊢
        rw [pick_not h1] at b
        refine ⟨stays_trans (hb.trans hy.symm) (hy.trans hx.symm) a (stays_total (hx.trans hy.symm) h1), fun v hv => ?_⟩
        rcases List.mem_cons.1 hv with hv | hv
        · rw [hv]; exact a
        · exact b v hv

/-- What an aggregate is of: its word, its type. -/
structure Kd where
  what : ByteArray
  type : Int
def isSum (s : ByteArray) : Prop := s.data.toList = [115, 117, 109]
instance (s : ByteArray) : Decidable (isSum s) := inferInstanceAs (Decidable (_ = _))
/-- What is wrong with values for aggregates, one by one. -/
def fault1 (k : Kd) (v : Val) : Int := if isCount k.what then 0 else if vcheck v ≠ 0 then vcheck v else if v.type ≠ k.type then 8 else 0
def faultAt : List Kd → List Val → Int
  | k :: ks, v :: vs => if fault1 k v ≠ 0 then fault1 k v else faultAt ks vs
  | _, _ => 0
theorem faultAt_step {ks : List Kd} {vs : List Val} {j : Nat} {k : Kd} {v : Val} (hk : ks[j]? = some k) (hv : vs[j]? = some v) :
    faultAt (ks.drop j) (vs.drop j) = if fault1 k v ≠ 0 then fault1 k v else faultAt (ks.drop (j + 1)) (vs.drop (j + 1)) := by
  obtain ⟨h1, rfl⟩ := List.getElem?_eq_some_iff.1 hk
  obtain ⟨h2, rfl⟩ := List.getElem?_eq_some_iff.1 hv
  rw [List.drop_eq_getElem_cons h1, List.drop_eq_getElem_cons h2, faultAt]
theorem faultAt_end (ks : List Kd) (vs : List Val) {j : Nat} (h : ks.length ≤ j) : faultAt (ks.drop j) (vs.drop j) = 0 := by
  rw [List.drop_of_length_le h]; cases vs.drop j <;> rfl
def rowFault (ks : List Kd) (vs : List Val) : Int := if vs.length ≠ ks.length then 3 else faultAt ks vs
def sumN : List Val → Int
  | [] => 0
  | v :: l => v.n + sumN l
theorem sumN_append : ∀ l m : List Val, sumN (l ++ m) = sumN l + sumN m
  | [], m => by simp [sumN]
  | v :: l, m => by rw [List.cons_append, sumN, sumN, sumN_append l m]; omega
/-- One aggregate of a column of values. -/
def oneAt (k : Kd) (l : List Val) : One := if isCount k.what then ⟨k.what, k.type, 0, noVal⟩ else ⟨k.what, k.type, sumN l, bestOf k.what l⟩
def onesOf : List Kd → List (List Val) → List One
  | [], _ => []
  | k :: ks, rows => oneAt k (rows.map (·.headD noVal)) :: onesOf ks (rows.map List.tail)
theorem onesOf_length : ∀ (ks : List Kd) (rows : List (List Val)), (onesOf ks rows).length = ks.length
  | [], _ => rfl
  | _ :: ks, rows => by rw [onesOf, List.length_cons, List.length_cons, onesOf_length ks]
def kdOf (o : One) : Kd := ⟨o.what, o.type⟩
theorem kdOf_oneAt (k : Kd) (l : List Val) : kdOf (oneAt k l) = k := by unfold oneAt kdOf; split <;> rfl
theorem kds_ones : ∀ (ks : List Kd) (rows : List (List Val)), (onesOf ks rows).map kdOf = ks
  | [], _ => rfl
  | k :: ks, rows => by rw [onesOf, List.map_cons, kds_ones ks, kdOf_oneAt]
/-- A row more. -/
def addTo (o : One) (t : Int) (ed : Val) (first : Bool) : One := if isCount o.what then o else addOne o t ed first
def zipUp {α : Type} (f : One → α → One) : List One → List α → List One
  | o :: l, v :: r => f o v :: zipUp f l r
  | l, _ => l
/-- The first j have been turned. -/
def mixUp {α : Type} (f : One → α → One) (j : Nat) (l : List One) (r : List α) : List One := zipUp f (l.take j) (r.take j) ++ l.drop j
theorem zipUp_length {α : Type} (f : One → α → One) : ∀ (l : List One) (r : List α), (zipUp f l r).length = l.length
  | o :: l, v :: r => by rw [zipUp, List.length_cons, List.length_cons, zipUp_length f l r]
  | [], [] => rfl
  | [], _ :: _ => rfl
  | _ :: _, [] => rfl
theorem zipUp_snoc {α : Type} (f : One → α → One) (o : One) (x : α) : ∀ (l : List One) (r : List α), l.length = r.length → zipUp f (l ++ [o]) (r ++ [x]) = zipUp f l r ++ [f o x]
  | [], [], _ => rfl
  | y :: l, z :: r, h => by rw [List.cons_append, List.cons_append, zipUp, zipUp, zipUp_snoc f o x l r (by simpa using h)]; rfl
  | [], _ :: _, h => by simp at h
  | _ :: _, [], h => by simp at h
section
variable {α : Type} {f : One → α → One} {l : List One} {r : List α} {j : Nat} {o : One} {x : α}
theorem mixUp_zero : mixUp f 0 l r = l := by unfold mixUp; cases l <;> rfl
theorem mixUp_length : (mixUp f j l r).length = l.length := by
  unfold mixUp; rw [List.length_append, zipUp_length, List.length_take, List.length_drop]; omega
theorem mixUp_at (ho : l[j]? = some o) : (mixUp f j l r)[j]? = some o := by
  obtain ⟨h1, rfl⟩ := List.getElem?_eq_some_iff.1 ho
  unfold mixUp
  rw [List.getElem?_append_right (by rw [zipUp_length, List.length_take]; omega), zipUp_length, List.length_take, List.getElem?_drop, show j + (j - min j l.length) = j by omega]
  exact ho
theorem mixUp_step (ho : l[j]? = some o) (hx : r[j]? = some x) : (mixUp f j l r).set j (f o x) = mixUp f (j + 1) l r := by
  obtain ⟨h1, e1⟩ := List.getElem?_eq_some_iff.1 ho
  obtain ⟨h2, e2⟩ := List.getElem?_eq_some_iff.1 hx
  have hl : (zipUp f (l.take j) (r.take j)).length = j := by rw [zipUp_length, List.length_take]; omega
  unfold mixUp
  rw [List.set_append_right _ _ (by omega), hl, Nat.sub_self, List.drop_eq_getElem_cons h1, List.set_cons_zero, List.take_add_one, List.take_add_one, ho, hx]
  show _ = zipUp f (l.take j ++ [o]) (r.take j ++ [x]) ++ _
  rw [zipUp_snoc f o x _ _ (by rw [List.length_take, List.length_take]; omega), List.append_assoc]
  rfl
theorem mixUp_skip (ho : l[j]? = some o) (hx : r[j]? = some x) (h : f o x = o) : mixUp f (j + 1) l r = mixUp f j l r := by
  rw [← mixUp_step ho hx, h]
  have := mixUp_at (f := f) (r := r) ho
  obtain ⟨h1, e1⟩ := List.getElem?_eq_some_iff.1 this
  have h2 := List.set_getElem_self h1
  rw [e1] at h2
  exact h2
theorem mixUp_all (h : l.length ≤ j) (hr : r.length = l.length) : mixUp f j l r = zipUp f l r := by
  unfold mixUp; rw [List.take_of_length_le h, List.take_of_length_le (by omega), List.drop_of_length_le h, List.append_nil]
theorem mixUp_mem {P : One → Prop} (hl : ∀ o ∈ l, P o) (hf : ∀ o ∈ l, ∀ x ∈ r, P (f o x)) : ∀ o ∈ mixUp f j l r, P o := by
  intro o ho
  unfold mixUp at ho
  rcases List.mem_append.1 ho with ho | ho
  · have : ∀ (l : List One) (r : List α), (∀ o ∈ l, P o) → (∀ o ∈ l, ∀ x ∈ r, P (f o x)) → ∀ o ∈ zipUp f l r, P o := by
      intro l
      induction l with
      | nil => intro r _ _ o ho; cases r <;> cases ho
      | cons y l ih =>
        intro r h1 h2 o ho
        cases r with
        | nil => exact h1 o ho
        | cons z r =>
          rw [zipUp] at ho
          rcases List.mem_cons.1 ho with ho | ho
          · rw [ho]; exact h2 y List.mem_cons_self z List.mem_cons_self
          · exact ih r (fun a ha => h1 a (List.mem_cons_of_mem _ ha)) (fun a ha b hb => h2 a (List.mem_cons_of_mem _ ha) b (List.mem_cons_of_mem _ hb)) o ho
    exact this _ _ (fun a ha => hl a (List.mem_of_mem_take ha)) (fun a ha b hb => hf a (List.mem_of_mem_take ha) b (List.mem_of_mem_take hb)) o ho
  · exact hl o (List.mem_of_mem_drop ho)
end
def addRow (l : List One) (r : List Val) (first : Bool) : List One := zipUp (fun o v => addTo o v.n v first) l r
theorem addTo_oneAt (k : Kd) (l : List Val) (v : Val) : addTo (oneAt k l) v.n v (l.length == 0) = oneAt k (l ++ [v]) := by
  unfold addTo oneAt
  by_cases hc : isCount k.what
  · simp only [if_pos hc]
  · simp only [if_neg hc]
    unfold addOne
    simp only
    rw [sumN_append, bestOf_snoc]
    congr 1
    · simp [sumN]
    · by_cases h0 : l.length = 0
      · simp [h0, takes]
      · have e : (l.length == 0) = false := by simpa using h0
        rw [e, if_neg h0]; rfl
theorem addRow_ones : ∀ (ks : List Kd) (rows : List (List Val)) (r : List Val), r.length = ks.length → addRow (onesOf ks rows) r (rows.length == 0) = onesOf ks (rows ++ [r])
  | [], _, _, _ => by cases ‹List Val› <;> rfl
  | k :: ks, rows, [], h => by simp at h
  | k :: ks, rows, v :: r, h => by
    rw [onesOf, onesOf, addRow, zipUp]
    have h1 := addTo_oneAt k (rows.map (·.headD noVal)) v
    have h2 := addRow_ones ks (rows.map List.tail) r (by simpa using h)
    rw [List.length_map] at h1 h2
    unfold addRow at h2
    rw [h1, h2, List.map_append, List.map_append]
    rfl
def joinOnes (l r : List One) (first : Bool) : List One := zipUp (fun o p => addTo o p.sum p.edge first) l r
/-- Each value that is added is right. -/
def goodFor : List Kd → List (List Val) → Prop
  | [], _ => True
  | k :: ks, rows => (isCount k.what ∨ ∀ v ∈ rows.map (·.headD noVal), vcheck v = 0 ∧ v.type = k.type) ∧ goodFor ks (rows.map List.tail)
theorem addTo_join (k : Kd) (l m : List Val) (hl : isCount k.what ∨ ∀ v ∈ l, vcheck v = 0 ∧ v.type = k.type) (hm : isCount k.what ∨ ∀ v ∈ m, vcheck v = 0 ∧ v.type = k.type) (h0 : m.length ≠ 0) :
    addTo (oneAt k l) (oneAt k m).sum (oneAt k m).edge (l.length == 0) = oneAt k (l ++ m) := by
  unfold addTo oneAt
  by_cases hc : isCount k.what
  · simp only [if_pos hc]
  · simp only [if_neg hc]
    unfold addOne
    simp only
    rw [sumN_append, bestOf_append k.what k.type l m (fun v hv => ((hl.resolve_left hc) v hv).2) (fun v hv => ((hm.resolve_left hc) v hv).2)]
    congr 1
    by_cases h1 : l.length = 0
    · simp [h1, takes]
    · have e : (l.length == 0) = false := by simpa using h1
      rw [e, if_neg h1, if_neg h0]; rfl
theorem joinOnes_ones : ∀ (ks : List Kd) (r1 r2 : List (List Val)), goodFor ks r1 → goodFor ks r2 → r2.length ≠ 0 → joinOnes (onesOf ks r1) (onesOf ks r2) (r1.length == 0) = onesOf ks (r1 ++ r2)
  | [], _, _, _, _, _ => rfl
  | k :: ks, r1, r2, h1, h2, h0 => by
    rw [onesOf, onesOf, onesOf, joinOnes, zipUp]
    have e1 := addTo_join k (r1.map (·.headD noVal)) (r2.map (·.headD noVal)) h1.1 h2.1 (by rw [List.length_map]; exact h0)
    have e2 := joinOnes_ones ks (r1.map List.tail) (r2.map List.tail) h1.2 h2.2 (by rw [List.length_map]; exact h0)
    rw [List.length_map] at e1 e2
    unfold joinOnes at e2
    rw [e1, e2, List.map_append, List.map_append]
theorem fault_good : ∀ (ks : List Kd) (rows : List (List Val)) (r : List Val), goodFor ks rows → r.length = ks.length → faultAt ks r = 0 → goodFor ks (rows ++ [r])
  | [], _, _, _, _, _ => trivial
  | k :: ks, rows, [], _, h, _ => by simp at h
  | k :: ks, rows, v :: r, hg, h, hf => by
    rw [faultAt] at hf
    have hr : faultAt ks r = 0 ∧ (isCount k.what ∨ (vcheck v = 0 ∧ v.type = k.type)) := by
      by_cases h0 : fault1 k v = 0
      · rw [if_neg (by simpa using h0)] at hf
        refine ⟨hf, ?_⟩
        unfold fault1 at h0
        by_cases hc : isCount k.what
        · exact Or.inl hc
        · rw [if_neg hc] at h0
          by_cases h1 : vcheck v = 0
          · rw [if_neg (by simpa using h1)] at h0
            by_cases h2 : v.type = k.type
            · exact Or.inr ⟨h1, h2⟩
            · rw [if_pos h2] at h0; omega
          · rw [if_pos h1] at h0; omega
      · rw [if_pos h0] at hf; omega
    refine ⟨?_, ?_⟩
    · rcases hr.2 with hc | hv
      · exact Or.inl hc
      · rcases hg.1 with hc | hl
        · exact Or.inl hc
        · refine Or.inr fun u hu => ?_
          rw [List.map_append] at hu
          rcases List.mem_append.1 hu with hu | hu
          · exact hl u hu
          · simp at hu; rw [hu]; exact hv
    · have := fault_good ks (rows.map List.tail) r hg.2 (by simpa using h) hr.1
      rw [List.map_append]
      exact this
theorem goodFor_nil : ∀ ks : List Kd, goodFor ks []
  | [] => trivial
  | _ :: ks => ⟨Or.inr (fun v hv => by cases hv), goodFor_nil ks⟩
theorem sumN_bound : ∀ (l : List Val), (∀ v ∈ l, fits v.n) → -(l.length : Int) * 9223372036854775808 ≤ sumN l ∧ sumN l ≤ (l.length : Int) * 9223372036854775808
  | [], _ => by simp [sumN]
  | v :: l, h => by
    have h1 := h v List.mem_cons_self
    have h2 := sumN_bound l fun u hu => h u (List.mem_cons_of_mem _ hu)
    unfold fits at h1
    unfold lo63 hi63 at h1
    rw [sumN, List.length_cons]
    omega
/-- All values are numbers that fit. -/
def allFit (rows : List (List Val)) : Prop := ∀ r ∈ rows, ∀ v ∈ r, fits v.n
theorem ones_small : ∀ (ks : List Kd) (rows : List (List Val)), allFit rows → rows.length ≤ 1000 → ∀ o ∈ onesOf ks rows, -9223372036854775808000 ≤ o.sum ∧ o.sum ≤ 9223372036854775808000
  | [], _, _, _, o, ho => by cases ho
  | k :: ks, rows, hf, hn, o, ho => by
    rw [onesOf] at ho
    rcases List.mem_cons.1 ho with ho | ho
    · rw [ho]
      unfold oneAt
      split
      · simp
      · have := sumN_bound (rows.map (·.headD noVal)) (by
          intro v hv
          obtain ⟨r, hr, rfl⟩ := List.mem_map.1 hv
          cases r with
          | nil => exact (by decide : fits 0)
          | cons v r => exact hf _ hr v List.mem_cons_self)
        rw [List.length_map] at this
        simp only
        omega
    · refine ones_small ks (rows.map List.tail) ?_ (by rw [List.length_map]; exact hn) o ho
      intro r hr v hv
      obtain ⟨r0, hr0, rfl⟩ := List.mem_map.1 hr
      exact hf r0 hr0 v (List.mem_of_mem_tail hv)

/-- What one comes to, of so many rows. -/
def oneRes (o : One) (n : Nat) : Int × Val :=
  if isCount o.what then (0, ofV n) else if isSum o.what then (if fits64 o.sum then (0, ofV o.sum) else (9, noVal)) else if n = 0 then (5, noVal) else (0, o.edge)
def onesRes : List One → Nat → Int × List Val
  | [], _ => (0, [])
  | o :: l, n => if (oneRes o n).1 ≠ 0 then ((oneRes o n).1, []) else if (onesRes l n).1 ≠ 0 then ((onesRes l n).1, []) else (0, (oneRes o n).2 :: (onesRes l n).2)
end Go.Proofs.YtpbbkpfaphjdoaaGreatDoor
namespace Go.Proofs.YtpbbkpfaphjdoaaGreatDoor
open Go.ChangeShapes Go.WideShapes Go.ChangeAt Go.RowKit

theorem right_parts {v : Val} (h : vcheck v = 0) : (v.type = 3 ∧ v.n = 0) ∨ (v.type ≠ 3 ∧ v.s.data.toList = []) := by
  unfold vcheck at h
  by_cases h1 : v.type = 1
  · rw [if_pos h1] at h
    right
    refine ⟨by omega, ?_⟩
    split at h
    · assumption
    · omega
  · rw [if_neg h1] at h
    by_cases h2 : v.type = 2
    · rw [if_pos h2] at h
      right
      refine ⟨by omega, ?_⟩
      split at h
      · split at h
        · assumption
        · omega
      · omega
    · rw [if_neg h2] at h
      by_cases h3 : v.type = 3
      · rw [if_pos h3] at h
        left
        refine ⟨h3, ?_⟩
        split at h
        · omega
        · split at h
          · omega
          · split at h
            · omega
            · omega
      · rw [if_neg h3] at h; omega
set_option maxHeartbeats 1000000 in
theorem rorder_num (a b : Val) (w : World) (ha : a.s.data.toList = []) (hb : b.s.data.toList = []) :
    Calls Tryz.prog 33 #[.agg #[.int .i64 a.type, .int .i64 a.n, .string a.s], .agg #[.int .i64 b.type, .int .i64 b.n, .string b.s]] w fun e w' => e = .returned (.int .i64 (Lib.compareInt a.n b.n)) ∧ Below w.heap.size w w' := by
  obtain ⟨t, n, s⟩ := a
  obtain ⟨t2, m, s2⟩ := b
  have hs : s = ⟨#[]⟩ := Go.WideShapes.bytes_inj ha
  have hs2 : s2 = ⟨#[]⟩ := Go.WideShapes.bytes_inj hb
  subst hs hs2
  clear ha hb
  show Calls Tryz.prog 33 #[.agg #[.int .i64 t, .int .i64 n, .string ⟨#[]⟩], .agg #[.int .i64 t2, .int .i64 m, .string ⟨#[]⟩]] w fun e w' => e = .returned (.int .i64 (Lib.compareInt n m)) ∧ Below w.heap.size w w'
  generalize hc : Lib.compareInt n m = c
  unfold Lib.compareInt at hc
  by_cases h1 : n < m
  · have d1 : decide (n < m) = true := decide_eq_true h1
    rw [if_pos h1] at hc
    have HC := Lib.hid hc
    clear hc h1
    go_enter Tryz.func33, Tryz.ntmps33
    go_wp2_with fail
    go_ret
    exact ⟨by rw [← HC.out]; rfl, ((Below.refl _ _).alloc (Nat.le_refl _) _).alloc (by simp) _⟩
  · have d1 : decide (n < m) = false := decide_eq_false h1
    rw [if_neg h1] at hc
    by_cases h2 : m < n
    · have d2 : decide (m < n) = true := decide_eq_true h2
      rw [if_pos h2] at hc
      have HC := Lib.hid hc
      clear hc h1 h2
      go_enter Tryz.func33, Tryz.ntmps33
      go_wp2_with fail
      go_ret
      exact ⟨by rw [← HC.out]; rfl, ((Below.refl _ _).alloc (Nat.le_refl _) _).alloc (by simp) _⟩
    · have d2 : decide (m < n) = false := decide_eq_false h2
      rw [if_neg h2] at hc
      have HC := Lib.hid hc
      clear hc h1 h2
      go_enter Tryz.func33, Tryz.ntmps33
      go_wp2_with fail
      go_ret
      exact ⟨by rw [← HC.out]; rfl, ((Below.refl _ _).alloc (Nat.le_refl _) _).alloc (by simp) _⟩
theorem less_cb : ∀ a b : List UInt8, Op.bytesLess a b = decide (Lib.compareBytes a b < 0)
  | [], [] => rfl
  | [], _ :: _ => rfl
  | _ :: _, [] => rfl
  | a :: l, b :: m => by
    rw [Op.bytesLess, Lib.compareBytes]
    by_cases h1 : a < b
    · simp [h1]
    · by_cases h2 : b < a
      · have : ¬ a = b := fun e => by subst e; exact h1 h2
        simp [h1, h2, this]
      · have : a = b := by
          apply UInt8.toNat_inj.1
          simp only [UInt8.lt_iff_toNat_lt] at *; omega
        subst this
        simp [less_cb l m]
theorem less_eq {a b : List UInt8} (h : Op.bytesLess a b = false) : (a == b) = !Op.bytesLess b a := by
  rw [less_cb] at h ⊢
  have h1 := cb_anti a b
  by_cases e : a = b
  · subst e
    have : (a == a) = true := by simp
    rw [this, h]; rfl
  · have e1 : (a == b) = false := by simpa using e
    have : Lib.compareBytes a b ≠ 0 := fun k => e (cb_zero k)
    have h2 : ¬ Lib.compareBytes a b < 0 := by simpa using h
    rw [e1, decide_eq_true (by omega)]; rfl
set_option maxHeartbeats 1000000 in
theorem rorder_text (a b : Val) (w : World) (ha : a.n = 0) (hb : b.n = 0) (bl bg : Bool) (hl : Op.bytesLess a.s.toList b.s.toList = bl) (hg : Op.bytesLess b.s.toList a.s.toList = bg) :
    Calls Tryz.prog 33 #[.agg #[.int .i64 a.type, .int .i64 a.n, .string a.s], .agg #[.int .i64 b.type, .int .i64 b.n, .string b.s]] w fun e w' => e = .returned (.int .i64 (if bl then -1 else if bg then 1 else 0)) ∧ Below w.heap.size w w' := by
  obtain ⟨t, n, s⟩ := a
  obtain ⟨t2, m, s2⟩ := b
  simp only at ha hb hl hg
  subst ha hb
  have he : bl = false → (s.toList == s2.toList) = !bg := fun e => by rw [← hg]; exact less_eq (hl.trans e)
  show Calls Tryz.prog 33 #[.agg #[.int .i64 t, .int .i64 0, .string s], .agg #[.int .i64 t2, .int .i64 0, .string s2]] w _
  cases bl with
  | true =>
    go_enter Tryz.func33, Tryz.ntmps33
    go_wp2_with fail
    go_ret
    exact ⟨rfl, ((Below.refl _ _).alloc (Nat.le_refl _) _).alloc (by simp) _⟩
  | false =>
    cases bg with
    | true =>
      have he1 : (s.toList == s2.toList) = false := he rfl
      clear he
      go_enter Tryz.func33, Tryz.ntmps33
      go_wp2_with fail
      go_ret
      exact ⟨rfl, ((Below.refl _ _).alloc (Nat.le_refl _) _).alloc (by simp) _⟩
    | false =>
      have he1 : (s.toList == s2.toList) = true := he rfl
      clear he
      go_enter Tryz.func33, Tryz.ntmps33
      go_wp2_with fail
      go_ret
      exact ⟨rfl, ((Below.refl _ _).alloc (Nat.le_refl _) _).alloc (by simp) _⟩
theorem cb_sign : ∀ a b : List UInt8, (if decide (Lib.compareBytes a b < 0) then (-1 : Int) else if decide (Lib.compareBytes b a < 0) then 1 else 0) = Lib.compareBytes a b
  | [], [] => rfl
  | [], _ :: _ => rfl
  | _ :: _, [] => rfl
  | a :: l, b :: m => by
    rw [Lib.compareBytes, Lib.compareBytes]
    by_cases h1 : a < b
    · simp [h1]
    · by_cases h2 : b < a
      · simp [h1, h2]
      · simp only [h1, h2, if_false]; exact cb_sign l m
theorem rorder_any (a b : Val) (w : World) (ha : vcheck a = 0) (hb : vcheck b = 0) (ht : a.type = b.type) :
    Calls Tryz.prog 33 #[.agg #[.int .i64 a.type, .int .i64 a.n, .string a.s], .agg #[.int .i64 b.type, .int .i64 b.n, .string b.s]] w fun e w' => e = .returned (.int .i64 (vorder a b)) ∧ Below w.heap.size w w' := by
  rcases right_parts ha with ⟨h3, hn⟩ | ⟨h3, hs⟩
  · rcases right_parts hb with ⟨_, hm⟩ | ⟨k3, _⟩
    · have := rorder_text a b w hn hm _ _ rfl rfl
      rw [Lib.toList_data, Lib.toList_data, less_cb, less_cb, cb_sign] at this
      unfold vorder
      rw [if_pos h3]
      exact this
    · exact absurd (ht.symm.trans h3) k3
  · rcases right_parts hb with ⟨k3, _⟩ | ⟨_, hs2⟩
    · exact absurd (ht.trans k3) h3
    · unfold vorder
      rw [if_neg h3]
      exact rorder_num a b w hs hs2

end Go.Proofs.YtpbbkpfaphjdoaaGreatDoor
namespace Go.Proofs.YtpbbkpfaphjdoaaGreatDoor

theorem u8_lt {a b : UInt8} : a < b ↔ a.toNat < b.toNat := UInt8.lt_iff_toNat_lt
theorem ob_neg : ∀ a b : List UInt8, Lib.compareBytes b a = - Lib.compareBytes a b
  | [], [] => rfl
  | [], _ :: _ => rfl
  | _ :: _, [] => rfl
  | a :: p, b :: q => by
    rw [Lib.compareBytes, Lib.compareBytes]
    by_cases h1 : a < b
    · have h2 : ¬ b < a := by rw [u8_lt] at h1 ⊢; omega
      simp [h1, h2]
    · by_cases h2 : b < a
      · simp [h1, h2]
      · simp only [h1, h2, if_false]; exact ob_neg p q
theorem ob_zero : ∀ a b : List UInt8, Lib.compareBytes a b = 0 ↔ a = b
  | [], [] => by simp [Lib.compareBytes]
  | [], _ :: _ => by simp [Lib.compareBytes]
  | _ :: _, [] => by simp [Lib.compareBytes]
  | a :: p, b :: q => by
    rw [Lib.compareBytes]
    by_cases h1 : a < b
    · have : a ≠ b := fun e => by rw [e, u8_lt] at h1; omega
      simp [h1, this]
    · by_cases h2 : b < a
      · have : a ≠ b := fun e => by rw [e, u8_lt] at h2; omega
        simp [h1, h2, this]
      · have : a = b := UInt8.toNat_inj.1 (by rw [u8_lt] at h1 h2; omega)
        simp [this, ob_zero p q]
theorem ob_vals : ∀ a b : List UInt8, Lib.compareBytes a b = -1 ∨ Lib.compareBytes a b = 0 ∨ Lib.compareBytes a b = 1
  | [], [] => Or.inr (Or.inl rfl)
  | [], _ :: _ => Or.inl rfl
  | _ :: _, [] => Or.inr (Or.inr rfl)
  | a :: p, b :: q => by
    rw [Lib.compareBytes]
    by_cases h1 : a < b
    · simp [h1]
    · by_cases h2 : b < a
      · simp [h1, h2]
      · simp only [h1, h2, if_false]; exact ob_vals p q
theorem ob_trans : ∀ a b c : List UInt8, Lib.compareBytes a b ≤ 0 → Lib.compareBytes b c ≤ 0 → Lib.compareBytes a c ≤ 0
  | [], _, [], _, _ => by simp [Lib.compareBytes]
  | [], _, _ :: _, _, _ => by simp [Lib.compareBytes]
  | _ :: _, [], _, h, _ => by simp [Lib.compareBytes] at h
  | _ :: _, _ :: _, [], _, h => by simp [Lib.compareBytes] at h
  | a :: p, b :: q, c :: r, h1, h2 => by
    rw [Lib.compareBytes] at h1 h2 ⊢
    by_cases p1 : a < b
    · by_cases q1 : b < c
      · have : a < c := by rw [u8_lt] at p1 q1 ⊢; omega
        simp [this]
      · by_cases q2 : c < b
        · simp [q1, q2] at h2
        · have : a < c := by rw [u8_lt] at p1 q1 q2 ⊢; omega
          simp [this]
    · by_cases p2 : b < a
      · simp [p1, p2] at h1
      · by_cases q1 : b < c
        · have : a < c := by rw [u8_lt] at p1 p2 q1 ⊢; omega
          simp [this]
        · by_cases q2 : c < b
          · simp [q1, q2] at h2
          · have r1 : ¬ a < c := by rw [u8_lt] at p1 p2 q1 q2 ⊢; omega
            have r2 : ¬ c < a := by rw [u8_lt] at p1 p2 q1 q2 ⊢; omega
            simp only [p1, p2, q1, q2, r1, r2, if_false] at h1 h2 ⊢
            exact ob_trans p q r h1 h2
/-- What is wrong with two that are compared. -/
def cmpErr (a b : Val) : Int := if vcheck a ≠ 0 then vcheck a else if vcheck b ≠ 0 then vcheck b else if a.type ≠ b.type then 8 else 0
theorem cmpErr_zero {a b : Val} (h : cmpErr a b = 0) : vcheck a = 0 ∧ vcheck b = 0 ∧ a.type = b.type := by
  unfold cmpErr at h
  split at h
  · rename_i h1; exact (h1 h).elim
  rename_i h1
  split at h
  · rename_i h2; exact (h2 h).elim
  rename_i h2
  split at h
  · omega
  rename_i h3
  exact ⟨by simpa using h1, by simpa using h2, by simpa using h3⟩
theorem cmpErr_ok {a b : Val} (h1 : vcheck a = 0) (h2 : vcheck b = 0) (h3 : a.type = b.type) : cmpErr a b = 0 := by
  unfold cmpErr; rw [if_neg (by simpa using h1), if_neg (by simpa using h2), if_neg (by simpa using h3)]
theorem ord_neg {a b : Val} (h : a.type = b.type) : vorder b a = - vorder a b := by
  unfold vorder
  rw [← h]
  by_cases h3 : a.type = 3
  · rw [if_pos h3, if_pos h3]; exact ob_neg _ _
  · rw [if_neg h3, if_neg h3]; unfold Lib.compareInt; split <;> split <;> first | omega | (split <;> omega)
theorem toList_inj {s t : ByteArray} (h : s.data.toList = t.data.toList) : s = t := by
  obtain ⟨⟨a⟩⟩ := s; obtain ⟨⟨b⟩⟩ := t; simp at h; rw [h]
theorem ord_zero {a b : Val} (ha : vcheck a = 0) (hb : vcheck b = 0) (h : a.type = b.type) : vorder a b = 0 ↔ a = b := by
  obtain ⟨t, n, s⟩ := a
  obtain ⟨t2, n2, s2⟩ := b
  obtain rfl : t = t2 := h
  unfold vorder
  simp only
  by_cases h3 : t = 3
  · rw [if_pos h3, ob_zero]
    rcases right_parts ha with ⟨_, h1⟩ | ⟨h1, _⟩
    · rcases right_parts hb with ⟨_, h2⟩ | ⟨h2, _⟩
      · simp only at h1 h2
        subst h1 h2
        exact ⟨fun e => by rw [toList_inj e], fun e => by injection e with _ _ e; rw [e]⟩
      · exact (h2 h3).elim
    · exact (h1 h3).elim
  · rw [if_neg h3]
    rcases right_parts ha with ⟨h1, _⟩ | ⟨_, h1⟩
    · exact (h3 h1).elim
    · rcases right_parts hb with ⟨h2, _⟩ | ⟨_, h2⟩
      · exact (h3 h2).elim
      · have : s = s2 := toList_inj (by simp only at h1 h2; rw [h1, h2])
        subst this
        unfold Lib.compareInt
        constructor
        · intro e
          have : n = n2 := by split at e <;> first | omega | (split at e <;> omega)
          rw [this]
        · intro e
          injection e with _ e
          subst e
          simp
theorem ord_trans {a b c : Val} (h1 : a.type = b.type) (h3 : vorder a b ≤ 0) (h4 : vorder b c ≤ 0) : vorder a c ≤ 0 := by
  unfold vorder at h3 h4 ⊢
  rw [← h1] at h4
  by_cases h : a.type = 3
  · rw [if_pos h] at h3 h4 ⊢; exact ob_trans _ _ _ h3 h4
  · rw [if_neg h] at h3 h4 ⊢
    unfold Lib.compareInt at h3 h4 ⊢
    split
    · omega
    · split
      · exfalso
        split at h3
        · split at h4
          · omega
          · split at h4 <;> omega
        · split at h3
          · omega
          · split at h4
            · omega
            · split at h4 <;> omega
      · omega
end Go.Proofs.YtpbbkpfaphjdoaaGreatDoor
