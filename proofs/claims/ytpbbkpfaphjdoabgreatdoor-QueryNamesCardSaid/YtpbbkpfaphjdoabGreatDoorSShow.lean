/- Arguments that are a value, or a list of values: what a walk sees. An argument that is an expression, or a list of expressions: what a walk sees. An argument that is an expression: what a walk sees, and that it has no more nodes than its bulk. Arguments that are a value, an expression, or a list of expressions: what a walk sees. sluiceref1.Digits, walked: a number's digits. A value as text: plain, and sluiceref1.Show, walked. -/
import Derived.Test.YtpbbkpfaphjdoabGreatDoorSErr
import Derived.Test.YtpbbkpfaphjdoabGreatDoorSVals
import Derived.Lib.SmallJoins
import Derived.Test.YtpbbkpfaphjdoabGreatDoorSEx
import Derived.Test.YtpbbkpfaphjdoabGreatDoorSCheck
import Derived.Lib.ItoaMem
import Derived.Lib.Replace
namespace Go.Proofs.YtpbbkpfaphjdoabGreatDoor
open Go.ChangeShapes Go.WideShapes Go.ChangeAt Go.RowKit
theorem cellsVal : Tryz.prog.cellsOf 52 = 3 := by kernel_rfl
theorem cells9v : Tryz.prog.cellsOf 9 = 1 := by kernel_rfl
theorem cells3v : Tryz.prog.cellsOf 3 = 1 := by kernel_rfl
section
variable {H : Type} {enc : TypeId × Value → H} {w : World}
set_option maxRecDepth 100000 in
theorem val_of {m : Nat} {cs : List Value} {y : DataW H × List MemPlace} (h : DataW.trod enc Tryz.prog w 0 (fun _ => true) true m 52 cs = some y) :
  ∃ v : Val, cs = valCells v ∧ v.wf := by
 obtain ⟨xs, n, _, _, hlen, hxs, hf⟩ := DataW.trod_struct Tryz.underlying52 h
 rw [cellsVal] at hlen
 match cs, hlen with
 | [v0, v1, v2], _ =>
  have hx : xs.length = 3 := hxs
  have h0 : DataW.trod enc Tryz.prog w 0 (fun _ => true) true n 3 (([v0, v1, v2].drop 0).take (Tryz.prog.cellsOf 3)) = xs[0]? := hf 0 _ rfl
  have h1 : DataW.trod enc Tryz.prog w 0 (fun _ => true) true n 3 (([v0, v1, v2].drop 1).take (Tryz.prog.cellsOf 3)) = xs[1]? := hf 1 _ rfl
  have h2 : DataW.trod enc Tryz.prog w 0 (fun _ => true) true n 9 (([v0, v1, v2].drop 2).take (Tryz.prog.cellsOf 9)) = xs[2]? := hf 2 _ rfl
  rw [cells3v, List.getElem?_eq_getElem (by omega)] at h0 h1
  rw [cells9v, List.getElem?_eq_getElem (by omega)] at h2
  obtain ⟨t, e0, _, ht⟩ := DataW.trod_int Tryz.underlying3 h0
  obtain ⟨n, e1, _, hn⟩ := DataW.trod_int Tryz.underlying3 h1
  obtain ⟨s, e2, _, hs⟩ := DataW.trod_string Tryz.underlying9 h2
  injection e0 with e0
  injection e1 with e1
  injection e2 with e2
  subst e0 e1 e2
  exact ⟨⟨t, n, s⟩, rfl, fits_of ht, fits_of hn, hs⟩
end
end Go.Proofs.YtpbbkpfaphjdoabGreatDoor
namespace Go.Proofs.YtpbbkpfaphjdoabGreatDoor
open Go.ChangeShapes Go.WideShapes Go.ChangeAt Go.RowKit
theorem cellsEx : Tryz.prog.cellsOf 55 = 7 := by kernel_rfl
theorem cellsExs : Tryz.prog.cellsOf 53 = 1 := by kernel_rfl
section
variable {H : Type} {enc : TypeId × Value → H} {w : World}
end
end Go.Proofs.YtpbbkpfaphjdoabGreatDoor
namespace Go.Proofs.YtpbbkpfaphjdoabGreatDoor
open Go.ChangeShapes Go.WideShapes Go.ChangeAt Go.RowKit
section
variable {H : Type} {enc : TypeId × Value → H} {w : World}
end
end Go.Proofs.YtpbbkpfaphjdoabGreatDoor
namespace Go.Proofs.YtpbbkpfaphjdoabGreatDoor
open Go.ChangeShapes Go.WideShapes Go.ChangeAt Go.RowKit
section
variable {H : Type} {enc : TypeId × Value → H} {w : World}
set_option maxRecDepth 100000 in
theorem ex_of : ∀ (m : Nat) (cs : List Value) (y : DataW H × List MemPlace), DataW.trod enc Tryz.prog w 0 (fun _ => true) true m 55 cs = some y →
  ∃ e : Ex, cs = exCells e ∧ SeesEx w e := by
 intro m
 induction m using Nat.strongRecOn with
 | ind m ih =>
 intro cs y h
 obtain ⟨xs, n, rfl, _, hlen, hxs, hf⟩ := DataW.trod_struct Tryz.underlying55 h
 rw [cellsEx] at hlen
 match cs, hlen with
 | [v0, v1, v2, v3, v4, v5, v6], _ =>
  have hx : xs.length = 5 := hxs
  have h0 : DataW.trod enc Tryz.prog w 0 (fun _ => true) true n 9 (([v0, v1, v2, v3, v4, v5, v6].drop 0).take (Tryz.prog.cellsOf 9)) = xs[0]? := hf 0 _ rfl
  have h1 : DataW.trod enc Tryz.prog w 0 (fun _ => true) true n 9 (([v0, v1, v2, v3, v4, v5, v6].drop 1).take (Tryz.prog.cellsOf 9)) = xs[1]? := hf 1 _ rfl
  have h2 : DataW.trod enc Tryz.prog w 0 (fun _ => true) true n 52 (([v0, v1, v2, v3, v4, v5, v6].drop 2).take (Tryz.prog.cellsOf 52)) = xs[2]? := hf 2 _ rfl
  have h3 : DataW.trod enc Tryz.prog w 0 (fun _ => true) true n 53 (([v0, v1, v2, v3, v4, v5, v6].drop 5).take (Tryz.prog.cellsOf 53)) = xs[3]? := hf 3 _ rfl
  have h4 : DataW.trod enc Tryz.prog w 0 (fun _ => true) true n 3 (([v0, v1, v2, v3, v4, v5, v6].drop 6).take (Tryz.prog.cellsOf 3)) = xs[4]? := hf 4 _ rfl
  rw [cells9v, List.getElem?_eq_getElem (by omega)] at h0 h1
  rw [cellsVal, List.getElem?_eq_getElem (by omega)] at h2
  rw [cellsExs, List.getElem?_eq_getElem (by omega)] at h3
  rw [cells3v, List.getElem?_eq_getElem (by omega)] at h4
  obtain ⟨s0, e0, _, f0⟩ := DataW.trod_string Tryz.underlying9 h0
  obtain ⟨s1, e1, _, f1⟩ := DataW.trod_string Tryz.underlying9 h1
  obtain ⟨v, e2, f2⟩ := val_of h2
  obtain ⟨p, e4, _, f4⟩ := DataW.trod_int Tryz.underlying3 h4
  obtain ⟨A, k, c, css, ds, e3, hk, _, hs, hl, hR, _⟩ := open_sees Tryz.underlying53 cellsEx (by decide) h3
   (fun u _ => ∃ x : Ex, u = exCells x ∧ SeesEx w x) (fun m cs' y hm hy => ih m (by omega) cs' y hy)
  have hall : ∀ u ∈ css, ∃ x : Ex, u = exCells x ∧ SeesEx w x := by
   intro u hu
   obtain ⟨k, hk⟩ := List.mem_iff_getElem?.1 hu
   obtain ⟨_, _, hx⟩ := hR k u hk
   exact hx
  obtain ⟨l, hl1, hl2⟩ : ∃ l : List Ex, css = l.map exCells ∧ ∀ x ∈ l, SeesEx w x := by
   clear hR hs hk hl h3 e3
   induction css with
   | nil => exact ⟨[], rfl, by simp⟩
   | cons u css ih =>
    obtain ⟨l, rfl, h2⟩ := ih fun u hu => hall u (List.mem_cons_of_mem _ hu)
    obtain ⟨x, rfl, h3⟩ := hall u List.mem_cons_self
    exact ⟨x :: l, rfl, fun y hy => (List.mem_cons.1 hy).elim (fun e => by rw [e]; exact h3) (fun hy => h2 y hy)⟩
  subst hl1
  obtain rfl : l.length = k := by simpa using hk
  injection e0 with e0
  injection e1 with e1
  injection e4 with e4
  injection e3 with e3
  obtain ⟨rfl, rfl, rfl⟩ : v2 = .int .i64 v.type ∧ v3 = .int .i64 v.n ∧ v4 = .string v.s := by
   have e2' : [v2, v3, v4] = valCells v := e2
   unfold valCells at e2'
   simpa using e2'
  subst e0 e1 e3 e4
  have hs' : Sees w A l.length c 7 (exsCells l) := by
   rw [show exsCells l = (l.map exCells).flatten from List.flatMap_def]
   exact hs
  exact ⟨.mk s0 s1 v A c l p, rfl, .mk hs' f0 f1 f2 (fits_of f4) hl2⟩
end
end Go.Proofs.YtpbbkpfaphjdoabGreatDoor
namespace Go.Proofs.YtpbbkpfaphjdoabGreatDoor
open Go.ChangeShapes Go.WideShapes Go.ChangeAt Go.RowKit
theorem dec_next {n : Nat} (h : ¬ n < 10) : Lib.decDigits n = Lib.decDigits (n / 10) ++ [UInt8.ofNat (48 + n % 10)] := by rw [Lib.decDigits, dif_neg h]
theorem dec_one {n : Nat} (h : n < 10) : Lib.decDigits n = [UInt8.ofNat (48 + n)] := by rw [Lib.decDigits, dif_pos h]
end Go.Proofs.YtpbbkpfaphjdoabGreatDoor
namespace Go.Proofs.YtpbbkpfaphjdoabGreatDoor
open Go.ChangeShapes Go.WideShapes Go.ChangeAt Go.RowKit
def dblQ : List UInt8 → List UInt8
 | [] => []
 | b :: l => if b = 39 then 39 :: 39 :: dblQ l else b :: dblQ l
theorem split39 : ∀ s : List UInt8, (∀ b ∈ s, b ≠ 39) ∨ ∃ a t, s = a ++ 39 :: t ∧ ∀ b ∈ a, b ≠ 39
 | [] => Or.inl (by simp)
 | x :: s => by
  by_cases hx : x = 39
  ·exact Or.inr ⟨[], s, by rw [hx]; rfl, by simp⟩
  ·rcases split39 s with h | ⟨a, t, h1, h2⟩
   ·refine Or.inl fun b hb => ?_
    rcases List.mem_cons.1 hb with rfl | hb
    ·exact hx
    ·exact h b hb
   ·refine Or.inr ⟨x :: a, t, by rw [h1]; rfl, fun b hb => ?_⟩
    rcases List.mem_cons.1 hb with rfl | hb
    ·exact hx
    ·exact h2 b hb
def valText (v : Val) : List UInt8 := if v.type = 1 then Lib.itoa v.n else if v.type = 2 then (if v.n = 1 then [116, 114, 117, 101] else [102, 97, 108, 115, 101]) else 39 :: (dblQ v.s.data.toList ++ [39])
theorem belowNew' (w : World) (o : Obj) : Below w.heap.size w (w.alloc o) := (Below.refl _ _).alloc (Nat.le_refl _) _
end Go.Proofs.YtpbbkpfaphjdoabGreatDoor
