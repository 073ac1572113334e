/- Arguments that are a value, or a list of values: what a walk sees. An argument that is an expression, or a list of expressions: what a walk sees. An argument that is an expression: what a walk sees, and that it has no more nodes than its bulk. Arguments that are a value, an expression, or a list of expressions: what a walk sees. sluiceref1.Digits, walked: a number's digits. A value as text: plain, and sluiceref1.Show, walked. -/
import Derived.Test.YtpbbkpfaphjdoaaGreatDoorSErr
import Derived.Test.YtpbbkpfaphjdoaaGreatDoorSEx
import Derived.Lib.SmallJoins
import Derived.Test.YtpbbkpfaphjdoaaGreatDoorSCheck
import Derived.Lib.ItoaMem
import Derived.Lib.Replace
namespace Go.Proofs.YtpbbkpfaphjdoaaGreatDoor
open Go.ChangeShapes Go.WideShapes Go.ChangeAt Go.RowKit
theorem cellsVal : Tryz.prog.cellsOf 23 = 3 := by kernel_rfl
theorem cells9v : Tryz.prog.cellsOf 9 = 1 := by kernel_rfl
theorem cells3v : Tryz.prog.cellsOf 3 = 1 := by kernel_rfl
section
variable {H : Type} {enc : TypeId × Value → H} {w : World}
set_option maxRecDepth 100000 in
theorem val_of {m : Nat} {cs : List Value} {y : DataW H × List MemPlace} (h : DataW.trod enc Tryz.prog w 0 (fun _ => true) true m 23 cs = some y) :
  ∃ v : Val, cs = valCells v ∧ v.wf := by
 obtain ⟨xs, n, _, _, hlen, hxs, hf⟩ := DataW.trod_struct Tryz.underlying23 h
 rw [cellsVal] at hlen
 match cs, hlen with
 | [v0, v1, v2], _ =>
  have hx : xs.length = 3 := hxs
  have h0 : DataW.trod enc Tryz.prog w 0 (fun _ => true) true n 3 (([v0, v1, v2].drop 0).take (Tryz.prog.cellsOf 3)) = xs[0]? := hf 0 _ rfl
  have h1 : DataW.trod enc Tryz.prog w 0 (fun _ => true) true n 3 (([v0, v1, v2].drop 1).take (Tryz.prog.cellsOf 3)) = xs[1]? := hf 1 _ rfl
  have h2 : DataW.trod enc Tryz.prog w 0 (fun _ => true) true n 9 (([v0, v1, v2].drop 2).take (Tryz.prog.cellsOf 9)) = xs[2]? := hf 2 _ rfl
  rw [cells3v, List.getElem?_eq_getElem (by omega)] at h0 h1
  rw [cells9v, List.getElem?_eq_getElem (by omega)] at h2
  obtain ⟨t, e0, _, ht⟩ := DataW.trod_int Tryz.underlying3 h0
  obtain ⟨n, e1, _, hn⟩ := DataW.trod_int Tryz.underlying3 h1
  obtain ⟨s, e2, _, hs⟩ := DataW.trod_string Tryz.underlying9 h2
  injection e0 with e0
  injection e1 with e1
  injection e2 with e2
  subst e0 e1 e2
  exact ⟨⟨t, n, s⟩, rfl, fits_of ht, fits_of hn, hs⟩
end
end Go.Proofs.YtpbbkpfaphjdoaaGreatDoor
namespace Go.Proofs.YtpbbkpfaphjdoaaGreatDoor
open Go.ChangeShapes Go.WideShapes Go.ChangeAt Go.RowKit
theorem cellsEx : Tryz.prog.cellsOf 26 = 7 := by kernel_rfl
theorem cellsExs : Tryz.prog.cellsOf 24 = 1 := by kernel_rfl
section
variable {H : Type} {enc : TypeId × Value → H} {w : World}
end
end Go.Proofs.YtpbbkpfaphjdoaaGreatDoor
namespace Go.Proofs.YtpbbkpfaphjdoaaGreatDoor
open Go.ChangeShapes Go.WideShapes Go.ChangeAt Go.RowKit
section
variable {H : Type} {enc : TypeId × Value → H} {w : World}
end
end Go.Proofs.YtpbbkpfaphjdoaaGreatDoor
namespace Go.Proofs.YtpbbkpfaphjdoaaGreatDoor
open Go.ChangeShapes Go.WideShapes Go.ChangeAt Go.RowKit
section
variable {H : Type} {enc : TypeId × Value → H} {w : World}
set_option maxRecDepth 100000 in
theorem ex_of : ∀ (m : Nat) (cs : List Value) (y : DataW H × List MemPlace), DataW.trod enc Tryz.prog w 0 (fun _ => true) true m 26 cs = some y →
  ∃ e : Ex, cs = exCells e ∧ SeesEx w e := by
 intro m
 induction m using Nat.strongRecOn with
 | ind m ih =>
 intro cs y h
 obtain ⟨xs, n, rfl, _, hlen, hxs, hf⟩ := DataW.trod_struct Tryz.underlying26 h
 rw [cellsEx] at hlen
 match cs, hlen with
 | [v0, v1, v2, v3, v4, v5, v6], _ =>
  have hx : xs.length = 5 := hxs
  have h0 : DataW.trod enc Tryz.prog w 0 (fun _ => true) true n 9 (([v0, v1, v2, v3, v4, v5, v6].drop 0).take (Tryz.prog.cellsOf 9)) = xs[0]? := hf 0 _ rfl
  have h1 : DataW.trod enc Tryz.prog w 0 (fun _ => true) true n 9 (([v0, v1, v2, v3, v4, v5, v6].drop 1).take (Tryz.prog.cellsOf 9)) = xs[1]? := hf 1 _ rfl
  have h2 : DataW.trod enc Tryz.prog w 0 (fun _ => true) true n 23 (([v0, v1, v2, v3, v4, v5, v6].drop 2).take (Tryz.prog.cellsOf 23)) = xs[2]? := hf 2 _ rfl
  have h3 : DataW.trod enc Tryz.prog w 0 (fun _ => true) true n 24 (([v0, v1, v2, v3, v4, v5, v6].drop 5).take (Tryz.prog.cellsOf 24)) = xs[3]? := hf 3 _ rfl
  have h4 : DataW.trod enc Tryz.prog w 0 (fun _ => true) true n 3 (([v0, v1, v2, v3, v4, v5, v6].drop 6).take (Tryz.prog.cellsOf 3)) = xs[4]? := hf 4 _ rfl
  rw [cells9v, List.getElem?_eq_getElem (by omega)] at h0 h1
  rw [cellsVal, List.getElem?_eq_getElem (by omega)] at h2
  rw [cellsExs, List.getElem?_eq_getElem (by omega)] at h3
  rw [cells3v, List.getElem?_eq_getElem (by omega)] at h4
  obtain ⟨s0, e0, _, f0⟩ := DataW.trod_string Tryz.underlying9 h0
  obtain ⟨s1, e1, _, f1⟩ := DataW.trod_string Tryz.underlying9 h1
  obtain ⟨v, e2, f2⟩ := val_of h2
  obtain ⟨p, e4, _, f4⟩ := DataW.trod_int Tryz.underlying3 h4
  obtain ⟨A, k, c, css, ds, e3, hk, _, hs, hl, hR, _⟩ := open_sees Tryz.underlying24 cellsEx (by decide) h3
   (fun u _ => ∃ x : Ex, u = exCells x ∧ SeesEx w x) (fun m cs' y hm hy => ih m (by omega) cs' y hy)
  have hall : ∀ u ∈ css, ∃ x : Ex, u = exCells x ∧ SeesEx w x := by
   intro u hu
   obtain ⟨k, hk⟩ := List.mem_iff_getElem?.1 hu
   obtain ⟨_, _, hx⟩ := hR k u hk
   exact hx
  obtain ⟨l, hl1, hl2⟩ : ∃ l : List Ex, css = l.map exCells ∧ ∀ x ∈ l, SeesEx w x := by
   clear hR hs hk hl h3 e3
   induction css with
   | nil => exact ⟨[], rfl, by simp⟩
   | cons u css ih =>
    obtain ⟨l, rfl, h2⟩ := ih fun u hu => hall u (List.mem_cons_of_mem _ hu)
    obtain ⟨x, rfl, h3⟩ := hall u List.mem_cons_self
    exact ⟨x :: l, rfl, fun y hy => (List.mem_cons.1 hy).elim (fun e => by rw [e]; exact h3) (fun hy => h2 y hy)⟩
  subst hl1
  obtain rfl : l.length = k := by simpa using hk
  injection e0 with e0
  injection e1 with e1
  injection e4 with e4
  injection e3 with e3
  obtain ⟨rfl, rfl, rfl⟩ : v2 = .int .i64 v.type ∧ v3 = .int .i64 v.n ∧ v4 = .string v.s := by
   have e2' : [v2, v3, v4] = valCells v := e2
   unfold valCells at e2'
   simpa using e2'
  subst e0 e1 e3 e4
  have hs' : Sees w A l.length c 7 (exsCells l) := by
   rw [show exsCells l = (l.map exCells).flatten from List.flatMap_def]
   exact hs
  exact ⟨.mk s0 s1 v A c l p, rfl, .mk hs' f0 f1 f2 (fits_of f4) hl2⟩
end
end Go.Proofs.YtpbbkpfaphjdoaaGreatDoor
namespace Go.Proofs.YtpbbkpfaphjdoaaGreatDoor
open Go.ChangeShapes Go.WideShapes Go.ChangeAt Go.RowKit
theorem bytes_app (a b : List UInt8) : (⟨a.toArray⟩ : ByteArray) ++ (⟨b.toArray⟩ : ByteArray) = ⟨(a ++ b).toArray⟩ := by
 apply ByteArray.ext
 simp
theorem dec_next {n : Nat} (h : ¬ n < 10) : Lib.decDigits n = Lib.decDigits (n / 10) ++ [UInt8.ofNat (48 + n % 10)] := by rw [Lib.decDigits, dif_neg h]
theorem dec_one {n : Nat} (h : n < 10) : Lib.decDigits n = [UInt8.ofNat (48 + n)] := by rw [Lib.decDigits, dif_pos h]
end Go.Proofs.YtpbbkpfaphjdoaaGreatDoor
namespace Go.Proofs.YtpbbkpfaphjdoaaGreatDoor
open Go.ChangeShapes Go.WideShapes Go.ChangeAt Go.RowKit
def dblQ : List UInt8 → List UInt8
 | [] => []
 | b :: l => if b = 39 then 39 :: 39 :: dblQ l else b :: dblQ l
theorem dblQ_app : ∀ a b : List UInt8, dblQ (a ++ b) = dblQ a ++ dblQ b
 | [], b => rfl
 | x :: a, b => by
  rw [List.cons_append, dblQ, dblQ, dblQ_app a b]
  split <;> rfl
theorem dblQ_no : ∀ {a : List UInt8}, (∀ b ∈ a, b ≠ 39) → dblQ a = a
 | [], _ => rfl
 | x :: a, h => by
  rw [dblQ, if_neg (h x (by simp)), dblQ_no (fun b hb => h b (List.mem_cons_of_mem _ hb))]
theorem dblQ_len : ∀ a : List UInt8, (dblQ a).length ≤ 2 * a.length
 | [] => Nat.le_refl _
 | x :: a => by
  rw [dblQ]
  have := dblQ_len a
  split <;> simp <;> omega
theorem split39 : ∀ s : List UInt8, (∀ b ∈ s, b ≠ 39) ∨ ∃ a t, s = a ++ 39 :: t ∧ ∀ b ∈ a, b ≠ 39
 | [] => Or.inl (by simp)
 | x :: s => by
  by_cases hx : x = 39
  ·exact Or.inr ⟨[], s, by rw [hx]; rfl, by simp⟩
  ·rcases split39 s with h | ⟨a, t, h1, h2⟩
   ·refine Or.inl fun b hb => ?_
    rcases List.mem_cons.1 hb with rfl | hb
    ·exact hx
    ·exact h b hb
   ·refine Or.inr ⟨x :: a, t, by rw [h1]; rfl, fun b hb => ?_⟩
    rcases List.mem_cons.1 hb with rfl | hb
    ·exact hx
    ·exact h2 b hb
theorem idx_no : ∀ {s : List UInt8}, (∀ b ∈ s, b ≠ 39) → Lib.index s [39] = -1
 | [], _ => rfl
 | x :: s, h => by
  have hp : ([39] : List UInt8).isPrefixOf (x :: s) = false := by
   have : ((39 : UInt8) == x) = false := by simpa using fun e => h x (by simp) e.symm
   simp [List.isPrefixOf, this]
  rw [Lib.index, hp, idx_no (s := s) (fun b hb => h b (List.mem_cons_of_mem _ hb))]
  rfl
theorem idx_at : ∀ {a t : List UInt8}, (∀ b ∈ a, b ≠ 39) → Lib.index (a ++ 39 :: t) [39] = a.length
 | [], t, _ => by
  rw [List.nil_append, Lib.index, if_pos (by simp [List.isPrefixOf])]
  rfl
 | x :: a, t, h => by
  have hp : ([39] : List UInt8).isPrefixOf (x :: (a ++ 39 :: t)) = false := by
   have : ((39 : UInt8) == x) = false := by simpa using fun e => h x (by simp) e.symm
   simp [List.isPrefixOf, this]
  have ih := idx_at (t := t) (fun b hb => h b (List.mem_cons_of_mem _ hb) : ∀ b ∈ a, b ≠ 39)
  rw [List.cons_append, Lib.index, hp, ih, if_neg (by decide)]
  have hn : ¬ ((a.length : Int) == -1) = true := by
   intro e
   have := beq_iff_eq.1 e
   omega
  rw [if_neg hn, List.length_cons]
  omega
theorem rep_dbl : ∀ (n : Nat) (s : List UInt8), s.length ≤ n → Lib.replaceK [39] [39, 39] (Lib.count s [39]) s = dblQ s
 | n, s, hn => by
  rcases split39 s with h | ⟨a, t, h1, h2⟩
  ·rw [Lib.count_miss (idx_no h), Lib.replaceK, dblQ_no h]
  ·subst h1
   have hi := idx_at (t := t) h2
   have hd : (a ++ 39 :: t).drop (a.length + [(39 : UInt8)].length) = t := by
    rw [← List.drop_drop, List.drop_left]; rfl
   have hc := Lib.count_hit (s := a ++ 39 :: t) (sub := [39]) (i := a.length) (by decide) hi
   rw [hd] at hc
   rw [hc, Nat.add_comm, Lib.replaceK_hit _ _ _ _ _ hi, List.take_left, hd, dblQ_app, dblQ_no h2, dblQ, if_pos rfl]
   cases n with
   | zero => simp at hn
   | succ n =>
    rw [rep_dbl n t (by simp at hn; omega)]
    simp
theorem replace_dbl (s : List UInt8) : Lib.replaceAll s [39] [39, 39] = dblQ s := by
 unfold Lib.replaceAll Lib.replace Lib.replaceNum
 rw [if_neg (by decide), if_pos (Or.inl (by decide))]
 exact rep_dbl _ s (Nat.le_refl _)
def valText (v : Val) : List UInt8 := if v.type = 1 then Lib.itoa v.n else if v.type = 2 then (if v.n = 1 then [116, 114, 117, 101] else [102, 97, 108, 115, 101]) else 39 :: (dblQ v.s.data.toList ++ [39])
theorem belowNew' (w : World) (o : Obj) : Below w.heap.size w (w.alloc o) := (Below.refl _ _).alloc (Nat.le_refl _) _
theorem cells3' {w : World} {b : Nat} {x y z : Value} {T : TypeId} (h : w.heap[b]? = some (.cells #[x, y, z] T (0, 0))) : w.cell? ⟨b, 0, none⟩ = some x ∧ w.cell? ⟨b, 1, none⟩ = some y ∧ w.cell? ⟨b, 2, none⟩ = some z := by
 refine ⟨?_, ?_, ?_⟩ <;> rw [cell_of_row _ _ _ _ _ _ h] <;> rfl
end Go.Proofs.YtpbbkpfaphjdoaaGreatDoor
