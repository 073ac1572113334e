/- The document's total of rows, plain: columns of rows, halves of a sum. -/
import Derived.Test.YtjnlonemnjljiaaDoorAggNew
import Derived.Test.YtjnlonemnjljiaaDoorAggRes
namespace Go.Proofs.YtjnlonemnjljiaaDoor
open Go.RowKit

def colAt (i : Nat) (rows : List (List Val)) : List Val := rows.map fun r => (r.drop i).headD noVal
theorem colAt_len (i : Nat) (rows : List (List Val)) : (colAt i rows).length = rows.length := List.length_map ..
theorem colAt_at {i j : Nat} {rows : List (List Val)} {r : List Val} {v : Val} (h : rows[j]? = some r) (hv : r[i]? = some v) : (colAt i rows)[j]? = some v := by
  unfold colAt
  rw [List.getElem?_map, h]
  obtain ⟨h1, rfl⟩ := List.getElem?_eq_some_iff.1 hv
  rw [Option.map_some, List.drop_eq_getElem_cons h1]
  rfl
theorem onesOf_at : ∀ {ks : List Kd} {rows : List (List Val)} {i : Nat} {k : Kd}, ks[i]? = some k → (onesOf ks rows)[i]? = some (oneAt k (colAt i rows))
  | [], _, _, _, h => by simp at h
  | k :: ks, rows, 0, k', h => by
    rw [List.getElem?_cons_zero] at h
    injection h with h
    subst h
    rw [onesOf, List.getElem?_cons_zero]
    rfl
  | k :: ks, rows, i + 1, k', h => by
    rw [List.getElem?_cons_succ] at h
    rw [onesOf, List.getElem?_cons_succ, onesOf_at h]
    unfold colAt
    rw [List.map_map]
    congr 3
    funext r
    simp
theorem goodFor_at : ∀ {ks : List Kd} {rows : List (List Val)} {i : Nat} {k : Kd}, goodFor ks rows → ks[i]? = some k → isCount k.what ∨ ∀ v ∈ colAt i rows, vcheck v = 0 ∧ v.type = k.type
  | [], _, _, _, _, h => by simp at h
  | k :: ks, rows, 0, k', hg, h => by
    rw [List.getElem?_cons_zero] at h
    injection h with h
    subst h
    exact hg.1
  | k :: ks, rows, i + 1, k', hg, h => by
    rw [List.getElem?_cons_succ] at h
    have := goodFor_at hg.2 h
    unfold colAt at *
    rw [List.map_map] at this
    have e : (fun r : List Val => (r.drop (i + 1)).headD noVal) = (fun r => (r.drop i).headD noVal) ∘ List.tail := by funext r; simp
    rw [e]
    exact this
theorem sumN_take {l : List Val} {k : Nat} {v : Val} (h : l[k]? = some v) : sumN (l.take (k + 1)) = sumN (l.take k) + v.n := by
  rw [List.take_add_one, h, Option.toList_some, sumN_append, sumN, sumN, Int.add_zero]
theorem bestOf_take {wh : ByteArray} {l : List Val} {k : Nat} {v : Val} (h : l[k]? = some v) (h0 : 0 < k) : bestOf wh (l.take (k + 1)) = if takes wh (vorder v (bestOf wh (l.take k))) false then v else bestOf wh (l.take k) := by
  rw [List.take_add_one, h, Option.toList_some, bestOf_snoc, if_neg (by
    have := (List.getElem?_eq_some_iff.1 h).1
    rw [List.length_take]; omega)]
  rfl
theorem bestOf_one {wh : ByteArray} {l : List Val} {v : Val} (h : l[0]? = some v) : bestOf wh (l.take 1) = v := by
  rw [show (1 : Nat) = 0 + 1 from rfl, List.take_add_one, h]
  rfl
/-- Halves of a sum: so many times 2^32 and what is left. -/
structure Halves (s hi lo : Int) (k : Nat) : Prop where
  eq : hi * 4294967296 + lo = s
  hi1 : -(k * 2147483648 : Int) ≤ hi
  hi2 : hi ≤ k * 2147483648
  lo1 : -(k * 4294967296 : Int) ≤ lo
  lo2 : lo ≤ k * 4294967296
theorem Halves.zero : Halves 0 0 0 0 := ⟨by decide, by decide, by decide, by decide, by decide⟩
theorem tparts (n : Int) (h : fits n) : n.tdiv 4294967296 * 4294967296 + n.tmod 4294967296 = n ∧ -2147483648 ≤ n.tdiv 4294967296 ∧ n.tdiv 4294967296 ≤ 2147483648 ∧ -4294967296 < n.tmod 4294967296 ∧ n.tmod 4294967296 < 4294967296 := by
  unfold fits lo63 hi63 at h
  have h1 := Int.tmod_add_mul_tdiv n 4294967296
  have h2 := Int.tmod_lt_of_pos n (show (0 : Int) < 4294967296 by decide)
  have h3 := Int.lt_tmod_of_pos n (show (0 : Int) < 4294967296 by decide)
  refine ⟨by omega, ?_, ?_, by omega, by omega⟩ <;> omega
theorem Halves.step {s hi lo n : Int} {k : Nat} (h : Halves s hi lo k) (hn : fits n) : Halves (s + n) (hi + n.tdiv 4294967296) (lo + n.tmod 4294967296) (k + 1) := by
  obtain ⟨e, b1, b2, c1, c2⟩ := h
  obtain ⟨f, d1, d2, g1, g2⟩ := tparts n hn
  exact ⟨by omega, by omega, by omega, by omega, by omega⟩
/-- At the end: what is left is brought into one half. -/
theorem Halves.done {s hi lo : Int} {k : Nat} (h : Halves s hi lo k) (hk : k ≤ 1000) :
    ∃ H L : Int, hi + lo.tdiv 4294967296 = H ∧ lo.tmod 4294967296 = L ∧ -4294967296000 ≤ H ∧ H ≤ 4294967296000 ∧ -4294967296 < L ∧ L < 4294967296 ∧ H * 4294967296 + L = s := by
  obtain ⟨e, b1, b2, c1, c2⟩ := h
  have h1 := Int.tmod_add_mul_tdiv lo 4294967296
  have h2 := Int.tmod_lt_of_pos lo (show (0 : Int) < 4294967296 by decide)
  have h3 := Int.lt_tmod_of_pos lo (show (0 : Int) < 4294967296 by decide)
  exact ⟨_, _, rfl, rfl, by omega, by omega, by omega, by omega, by omega⟩
theorem half_fits {s H L : Int} (h0 : 0 ≤ L) (h1 : L < 4294967296) (e : H * 4294967296 + L = s) : fits64 s ↔ -2147483648 ≤ H ∧ H ≤ 2147483647 := by
  unfold fits64; constructor <;> intro h <;> omega
theorem kdFault_word {k : Kd} (h : kdFault k = 0) (hc : ¬ isCount k.what) : (isSum k.what ∧ k.type = 1) ∨ (¬ isSum k.what ∧ (isLeast k.what = true ∨ isMost k.what = true)) := by
  unfold kdFault at h
  rw [if_neg hc] at h
  by_cases hs : isSum k.what
  · left
    rw [if_pos (Or.inl hs)] at h
    refine ⟨hs, ?_⟩
    by_cases h1 : 1 ≤ k.type ∧ k.type ≤ 3
    · rw [if_neg (by simpa using h1)] at h
      by_cases h2 : k.type = 1
      · exact h2
      · rw [if_pos ⟨hs, h2⟩] at h; omega
    · rw [if_pos h1] at h; omega
  · right
    refine ⟨hs, ?_⟩
    by_cases h1 : isLeast k.what = true ∨ isMost k.what = true
    · exact h1
    · rw [if_neg (fun h => h.elim hs h1)] at h; omega
theorem newAt_all : ∀ {ks : List Kd}, newAt ks = 0 → ∀ k ∈ ks, kdFault k = 0
  | [], _, _, h => by cases h
  | k :: ks, h, u, hu => by
    rw [newAt] at h
    by_cases h0 : kdFault k = 0
    · rw [if_neg (by simpa using h0)] at h
      rcases List.mem_cons.1 hu with hu | hu
      · rw [hu]; exact h0
      · exact newAt_all h u hu
    · rw [if_pos h0] at h; exact absurd h h0
theorem oneRes_count {k : Kd} (h : isCount k.what) (l : List Val) (n : Nat) : oneRes (oneAt k l) n = (0, ofV n) := by
  unfold oneRes oneAt
  rw [if_pos h]; exact if_pos h
theorem oneRes_sum {k : Kd} (hc : ¬ isCount k.what) (h : isSum k.what) (l : List Val) (n : Nat) : oneRes (oneAt k l) n = if fits64 (sumN l) then (0, ofV (sumN l)) else (9, noVal) := by
  unfold oneRes oneAt
  rw [if_neg hc, if_neg hc]; exact if_pos h
theorem oneRes_edge {k : Kd} (hc : ¬ isCount k.what) (h : ¬ isSum k.what) (l : List Val) (n : Nat) : oneRes (oneAt k l) n = if n = 0 then (5, noVal) else (0, bestOf k.what l) := by
  unfold oneRes oneAt
  rw [if_neg hc, if_neg hc]; exact if_neg h
end Go.Proofs.YtjnlonemnjljiaaDoor
