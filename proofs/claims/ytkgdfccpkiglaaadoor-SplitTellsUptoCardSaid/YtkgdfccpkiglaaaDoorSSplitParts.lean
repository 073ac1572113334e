/- split.Parts, walked: the lists of the parts, each a row of the call's own. -/
import Derived.Test.YtkgdfccpkiglaaaDoorSSplitPart
import Derived.Maps.AppendAt
namespace Go.Proofs.YtkgdfccpkiglaaaDoor
open Go.ChangeShapes Go.WideShapes Go.ChangeAt Go.RowKit
structure Lists (w : World) (B g N : Nat) (vals : Nat → Value) (ls : Nat → List Int) : Prop where
 outer : w.ownsRow B 23 1 (.slice (some ⟨g, 0, none⟩) N N) N ((List.range N).map vals)
 rows : ∀ j, j < N → w.ownsRow B 3 1 (vals j) (ls j).length (intCells (ls j))
 off : ∀ j, j < N → (vals j).ownBlock ≠ some g
 apart : ∀ i j, i < N → j < N → i ≠ j → (vals i).ownBlock = none ∨ (vals i).ownBlock ≠ (vals j).ownBlock
theorem Lists.keep {w w' : World} {B g N : Nat} {vals : Nat → Value} {ls : Nat → List Int} (h : Lists w B g N vals ls) (hb : Below w.heap.size w w') : Lists w' B g N vals ls :=
 ⟨own_keep h.outer hb, fun j hj => own_keep (h.rows j hj) hb, h.off, h.apart⟩
theorem own_set {w : World} {B e size g i : Nat} {u v : Value} {n : Nat} {xs : List Value} (h : w.ownsRow B e size v n xs) (hne : v.ownBlock ≠ some g) : (w.setCell ⟨g, i, none⟩ u).ownsRow B e size v n xs := by
 refine ⟨h.1, ?_⟩
 rcases h.2 with ⟨rfl, rfl⟩ | ⟨q, cap, cur, rfl, h1, h2, h3⟩
 ·exact Or.inl ⟨rfl, rfl⟩
 ·have : q ≠ g := fun e => hne (by simp [Value.ownBlock, e])
  exact Or.inr ⟨q, cap, cur, rfl, h1, (heap_setCell_other _ _ _ _ this).trans h2, h3⟩
def upd {α : Type} (f : Nat → α) (p : Nat) (x : α) : Nat → α := fun j => if j = p then x else f j
theorem upd_same {α : Type} (f : Nat → α) (p : Nat) (x : α) : upd f p x p = x := by simp [upd]
theorem upd_other {α : Type} {f : Nat → α} {p j : Nat} {x : α} (h : j ≠ p) : upd f p x j = f j := by simp [upd, h]
theorem range_upd (N p : Nat) (f : Nat → Value) (x : Value) : ((List.range N).map f).set p x = (List.range N).map (upd f p x) := by
 apply List.ext_getElem?
 intro i
 rw [List.getElem?_set, List.getElem?_map, List.getElem?_map]
 by_cases hi : i < N
 ·rw [List.getElem?_range hi]
  by_cases hp : p = i
  ·subst hp; simp [hi, upd]
  ·rw [if_neg hp]; simp [upd, Ne.symm hp]
 ·have hn : (List.range N)[i]? = none := List.getElem?_eq_none (by simpa using Nat.le_of_not_lt hi)
  rw [hn]
  by_cases hp : p = i
  ·subst hp; simp [hi]
  ·rw [if_neg hp]; rfl
theorem Lists.step {w w1 : World} {B g N p : Nat} {vals : Nat → Value} {ls : Nat → List Int} {x : Int} {v' : Value} (h : Lists w B g N vals ls) (hp : p < N)
  (hown : w1.ownsRow B 3 1 v' ((ls p).length + 1) (intCells (ls p) ++ [.int .i64 x])) (hg : w.grownBy w1 (vals p).ownBlock) (hat : v'.ownBlock = (vals p).ownBlock ∨ v'.ownBlock = some w.heap.size) :
  Lists (w1.setCell ⟨g, p, none⟩ v') B g N (upd vals p v') (upd ls p (ls p ++ [x])) := by
 have hgw : B ≤ g ∧ g < w.heap.size := h.outer.lt g rfl
 have hvg : v'.ownBlock ≠ some g := by
  rcases hat with e | e
  ·rw [e]; exact h.off p hp
  ·rw [e]; intro e2; injection e2 with e2; omega
 have hout : w1.ownsRow B 23 1 (.slice (some ⟨g, 0, none⟩) N N) N ((List.range N).map vals) := h.outer.kept hg (Or.inr (fun e => h.off p hp e.symm))
 refine ⟨?_, ?_, ?_, ?_⟩
 ·have := (hout.stored p v').1
  rwa [range_upd] at this
 ·intro j hj
  by_cases e : j = p
  ·subst e
   rw [upd_same, upd_same, List.length_append]
   have := own_set (g := g) (i := j) (u := v') hown hvg
   have e2 : intCells (ls j ++ [x]) = intCells (ls j) ++ [.int .i64 x] := by simp [intCells]
   rw [e2]
   exact this
  ·rw [upd_other e, upd_other e]
   exact own_set ((h.rows j hj).kept hg (h.apart j p hj hp e)) (h.off j hj)
 ·intro j hj
  by_cases e : j = p
  ·subst e; rw [upd_same]; exact hvg
  ·rw [upd_other e]; exact h.off j hj
 ·intro i j hi hj hij
  have key : ∀ q, q < N → q ≠ p → (vals q).ownBlock = none ∨ (vals q).ownBlock ≠ v'.ownBlock := by
   intro q hq hqp
   rcases hat with e | e
   ·rw [e]; exact h.apart q p hq hp hqp
   ·right
    rw [e]
    intro e2
    have := (h.rows q hq).lt _ e2
    omega
  by_cases e : i = p
  ·subst e
   rw [upd_same, upd_other (Ne.symm hij)]
   rcases key j hj (Ne.symm hij) with h1 | h1
   ·cases hv : v'.ownBlock with
    | none => exact Or.inl rfl
    | some b => rw [h1]; exact Or.inr (by simp)
   ·exact Or.inr (Ne.symm h1)
  ·by_cases e2 : j = p
   ·subst e2
    rw [upd_same, upd_other e]
    exact key i hi e
   ·rw [upd_other e, upd_other e2]
    exact h.apart i j hi hj hij
theorem parts_store {w w1 : World} {B g N p : Nat} {vals : Nat → Value} {ls : Nat → List Int} {x : Int} {v' : Value} (h : Lists w B g N vals ls) (hp : p < N)
  (hown : w1.ownsRow B 3 1 v' ((ls p).length + 1) (intCells (ls p) ++ (#[Value.int .i64 x] : Array Value).toList)) (hg : (w.alloc (.cells #[.int .i64 x] 3)).grownBy w1 (vals p).ownBlock)
  (hat : v'.ownBlock = (vals p).ownBlock ∨ v'.ownBlock = some (w.alloc (.cells #[.int .i64 x] 3)).heap.size) :
  Lists (w1.setCell ⟨g, p, none⟩ v') B g N (upd vals p v') (upd ls p (ls p ++ [x])) ∧
  ((∃ u, w1.cell? ⟨g, p, none⟩ = some u) ∧ w1.frozen? ⟨g, p, none⟩ = false ∧ g < w1.heap.size) ∧
  ∀ w0 : World, Below B w0 w → B ≤ w0.heap.size → Below B w0 (w1.setCell ⟨g, p, none⟩ v') := by
 have h' : Lists (w.alloc (.cells #[.int .i64 x] 3)) B g N vals ls := h.keep ((Below.refl _ _).alloc (Nat.le_refl _) _)
 have hgw := h'.outer.lt g rfl
 have hout : w1.ownsRow B 23 1 (.slice (some ⟨g, 0, none⟩) N N) N ((List.range N).map vals) := h'.outer.kept hg (Or.inr (fun e => h'.off p hp e.symm))
 refine ⟨h'.step hp hown hg hat, ⟨⟨vals p, ?_⟩, ?_, (hout.lt g rfl).2⟩, ?_⟩
 ·have := hout.cells (g := g) rfl p (vals p) (by rw [List.getElem?_map, List.getElem?_range hp]; rfl)
  rwa [addr_addN, Nat.zero_add] at this
 ·rcases hout.2 with ⟨e, _⟩ | ⟨q, cap, cur, e, _, hh, _⟩
  ·cases e
  ·injection e with e
   injection e with e
   injection e with e
   subst e
   unfold World.frozen?
   rw [show w1.heap[(⟨g, p, none⟩ : Addr).block]? = _ from hh]; simp
 ·intro w0 hb hB
  have hsz := hb.size
  refine (((hb.alloc (by omega) _).grown hg (by simp; omega) ?_).setCell (p := ⟨g, p, none⟩) hgw.1 _)
  intro k hk
  exact ((h'.rows p hp).lt k hk).1
structure RowH where
 R : Option Addr
 n : Nat
 c : Nat
 r : List Val
def rowCells (hs : List RowH) : List Value := hs.map fun h => .slice h.R h.n h.c
def SeesRows (w : World) (A : Option Addr) (m c : Nat) (hs : List RowH) : Prop := Sees w A m c 1 (rowCells hs) ∧ ∀ h ∈ hs, SeesVals w h.R h.n h.c h.r
theorem SeesRows.keep {w w' : World} {A : Option Addr} {m c : Nat} {hs : List RowH} (h : SeesRows w A m c hs) (hb : Below w.heap.size w w') : SeesRows w' A m c hs := ⟨h.1.keep hb, fun x hx => (h.2 x hx).keep hb⟩
theorem SeesRows.len {w : World} {A : Option Addr} {m c : Nat} {hs : List RowH} (h : SeesRows w A m c hs) : hs.length = m := by have := h.1.1; simpa [rowCells] using this
theorem SeesRows.at_ {w : World} {A : Option Addr} {m c : Nat} {hs : List RowH} (h : SeesRows w A m c hs) {k : Nat} (hk : k < m) :
  ∃ g o x, A = some ⟨g, o, none⟩ ∧ hs[k]? = some x ∧ SeesVals w x.R x.n x.c x.r ∧ w.cell? ⟨g, o + k, none⟩ = some (.slice x.R x.n x.c) := by
 obtain ⟨g, o, u, e, hu, hc⟩ := h.1.at_ hk
 unfold rowCells at hu
 rw [List.getElem?_map] at hu
 obtain ⟨x, hx, rfl⟩ := Option.map_eq_some_iff.1 hu
 exact ⟨g, o, x, e, hx, h.2 x (List.mem_of_getElem? hx), hc⟩
def partList (pf : Nat → Int) (k j : Nat) : List Int := ((List.range k).filter fun i => pf i == (j : Int)).map fun (i : Nat) => (i : Int)
theorem partList_next {pf : Nat → Int} {k p : Nat} (h : pf k = (p : Int)) : partList pf (k + 1) = upd (partList pf k) p (partList pf k p ++ [(k : Int)]) := by
 funext j
 unfold partList
 rw [List.range_succ, List.filter_append, List.map_append]
 by_cases e : j = p
 ·subst e; rw [upd_same]; simp [h]
 ·rw [upd_other e]
  have : (pf k == (j : Int)) = false := by rw [h]; simp; omega
  simp [this]
def pfOf (hs : List RowH) (cols : List Int) (n : Int) (i : Nat) : Int := match hs[i]? with | some h => partOf h.r cols n | none => 0
theorem partList_le (pf : Nat → Int) (k j : Nat) : (partList pf k j).length ≤ k := by
 unfold partList
 rw [List.length_map]
 exact Nat.le_trans (List.length_filter_le _ _) (by simp)
theorem wpList_append_one_at {P : Program} {t e : TypeId} {z : Value} {size bytes : Nat} (hS : SliceTy P t e z size bytes)
  {ops : Array Oper} {rest : List Oper} {o : Oper} {a : Act} {Q : Exit → Act → World → Prop} (hgd : o.guard = none) (s x : Operand)
  (ho : o.op = .call { callee := .builtin .append, args := #[s, x], argTypes := #[t, t] })
  {B : Nat} {wr : World} {v : Value} {n : Nat} {xs : List Value} {cs : Array Value} {c : Nat}
  (hs : a.eval s = v) (hx : a.eval x = .slice (some ⟨wr.heap.size, 0, none⟩) 1 c)
  (hown : wr.ownsRow B e size v n xs) (hB : B ≤ wr.heap.size) (hcs : cs.size = size) (h1 : ∀ u ∈ cs.toList, u.oneCell' = true)
  (hn : (n + 1) * bytes ≤ 140737488355328)
  (h : ∀ v' w1, w1.ownsRow B e size v' (n + 1) (xs ++ cs.toList) → (wr.alloc (.cells cs e)).grownBy w1 v.ownBlock → (v'.ownBlock = v.ownBlock ∨ v'.ownBlock = some (wr.alloc (.cells cs e)).heap.size) → wpList P ops Q rest (a.put o.dst v') w1) :
  wpList P ops Q (o :: rest) a (wr.alloc (.cells cs e)) := by
 obtain ⟨ht, h2, h3, hzs, i, hi, hz, hsz, hby⟩ := hS
 have hm : n + 1 ≤ (n + 1) * bytes := Nat.le_mul_of_pos_right _ h3
 refine wpList_append_own_at _ hgd s x t ho B e i z size bytes ht hi hz hsz hby hzs h2 v n xs hs (hown.alloc _) ⟨wr.heap.size, 0, none⟩ 1 c cs.toList hx (by simpa using hcs) ?_ h1 (by unfold maxLen; omega) hn (by simp; omega) ?_
 ·intro j u hu
  rw [cells_new]; simpa using hu
 ·intro v' w1 hown' hg _ hat
  exact h v' w1 hown' hg hat
theorem listSlice : SliceTy Tryd.prog 25 23 (.slice none 0 0) 1 24 := SliceTy.of Tryd.underlying25 (by kernel_rfl) rfl (by decide) (by decide)
def PartsSay (hs : List RowH) (cols : List Int) (n : Int) (m : Nat) (w : World) (e : Ending) (w' : World) : Prop :=
 ((∃ k : Int, ((k = 4 ∧ 300 < m) ∨ (k = 1 ∧ m ≤ 300 ∧ (n < 1 ∨ 8 < n ∨ ∃ h ∈ hs, cols.any (badCol h.n) = true))) ∧ e = .returned (.tuple #[.slice none 0 0, .iface 49 (.int .i64 k)])) ∨
   (1 ≤ n ∧ n ≤ 8 ∧ m ≤ 300 ∧ (∀ h ∈ hs, cols.any (badCol h.n) = false) ∧ ∃ g vals, e = .returned (.tuple #[.slice (some ⟨g, 0, none⟩) n.toNat n.toNat, .nilIface]) ∧ Lists w' w.heap.size g n.toNat vals (partList (pfOf hs cols n) m))) ∧ Below w.heap.size w w'
set_option maxHeartbeats 2000000 in
set_option maxRecDepth 100000 in
theorem parts_any (A C : Option Addr) (m c k ck : Nat) (n : Int) (hs : List RowH) (cols : List Int) (w : World) (hR : SeesRows w A m c hs) (hw : ∀ h ∈ hs, ∀ v ∈ h.r, v.wf) (hC : Sees w C k ck 1 (intCells cols)) :
  Calls Tryd.prog 7 #[.slice A m c, .slice C k ck, .int .i64 n] w (PartsSay hs cols n m w) := by
 have HR := Lib.hid hR
 have HC := Lib.hid hC
 have HWF := Lib.hid hw
 have hcap := hR.1.2.1
 have hmax := hR.1.2.2.1
 unfold maxLen at hmax
 have HLn := Lib.hid hR.len
 clear hR hw hC
 by_cases hm : 300 < m
 ·have d1 : decide (300 < m) = true := decide_eq_true hm
  have d1' : decide (300 < (m : Int)) = true := decide_eq_true (by omega)
  have HM := Lib.hid hm
  clear hm
  go_enter Tryd.func7, Tryd.ntmps7
  go_wp2_with fail
  go_ret2
  exact ⟨Or.inl ⟨4, Or.inl ⟨rfl, HM.out⟩, rfl⟩, Below.refl _ _⟩
 have d1 : decide (300 < m) = false := decide_eq_false hm
 have hm3 : m ≤ 300 := by omega
 have d1' : decide (300 < (m : Int)) = false := decide_eq_false (by omega)
 by_cases h1 : n < 1
 ·have d2 : decide (n < 1) = true := decide_eq_true h1
  have HM := Lib.hid (And.intro hm3 h1)
  clear hm h1
  go_enter Tryd.func7, Tryd.ntmps7
  go_wp2_with fail
  go_ret2
  exact ⟨Or.inl ⟨1, Or.inr ⟨rfl, HM.out.1, Or.inl HM.out.2⟩, rfl⟩, Below.refl _ _⟩
 have d2 : decide (n < 1) = false := decide_eq_false h1
 by_cases h8 : 8 < n
 ·have d3 : decide (8 < n) = true := decide_eq_true h8
  have HM := Lib.hid (And.intro hm3 h8)
  clear hm h1 h8
  go_enter Tryd.func7, Tryd.ntmps7
  go_wp2_with fail
  go_ret2
  exact ⟨Or.inl ⟨1, Or.inr ⟨rfl, HM.out.1, Or.inr (Or.inl HM.out.2)⟩, rfl⟩, Below.refl _ _⟩
 have d3 : decide (8 < n) = false := decide_eq_false h8
 obtain ⟨N, rfl⟩ : ∃ N : Nat, n = N := ⟨n.toNat, by omega⟩
 have hN1 : 1 ≤ N := by omega
 have hN8 : N ≤ 8 := by omega
 obtain ⟨ht, _, _, hzs, i0, hi, hz, hsz, hby⟩ := listSlice
 obtain ⟨w0, hmk, hown0, hg0⟩ := run_makeSlice_full (P := Tryd.prog) w w.heap.size 25 23 i0 (.slice none 0 0) 1 ht hi hz hsz .i64 .i64 N (by omega) (by rw [hby]; omega) (by unfold maxLen; omega) (Nat.le_refl _)
 have hb0 : Below w.heap.size w w0 := (Below.refl w.heap.size w).grown hg0 (Nat.le_refl _) (fun k hk => by cases hk)
 have L0 : Lists w0 w.heap.size w.heap.size N (fun _ => .slice none 0 0) (partList (pfOf hs cols N) 0) := by
  refine ⟨?_, fun j _ => World.ownsRow_nil _ _ _ _, fun j _ => by simp [Value.ownBlock], fun i j _ _ _ => Or.inl rfl⟩
  have e : (madeCells (Value.slice none 0 0).cells (N * 1)).toList = (List.range N).map fun _ => Value.slice none 0 0 := by
   rw [Nat.mul_one]
   apply List.ext_getElem?
   intro q
   by_cases hq : q < N
   ·rw [List.getElem?_map, List.getElem?_range hq, Array.getElem?_toList]
    unfold madeCells
    rw [Array.getElem?_map, Array.getElem?_range]
    simp [hq, Value.cells, Nat.mod_one]
   ·rw [List.getElem?_eq_none (by rw [Array.length_toList, size_madeCells]; omega), List.getElem?_eq_none (by simp; omega)]
  rw [e] at hown0
  exact hown0
 have HL0 := Lib.hid L0
 have HB0 := Lib.hid hb0
 have HR0 := Lib.hid (HR.out.keep hb0)
 have HC0 := Lib.hid (HC.out.keep hb0)
 clear hown0 hg0 L0 hb0 ht hi hz hsz hby hzs hm h1 h8
 go_enter Tryd.func7, Tryd.ntmps7
 go_wp2_with fail
 clear hmk
 go_loopw [6, 28] (fun _ i wr => ∃ (q : Nat) (vals : Nat → Value), q ≤ m ∧ i = .int .i64 q ∧ Lists wr w.heap.size w.heap.size N vals (partList (pfOf hs cols N) q) ∧ Below w.heap.size w wr ∧ ∀ h ∈ hs.take q, cols.any (badCol h.n) = false) (fun _ i _ => m - (intOf i).toNat)
 case atStart => exact ⟨0, _, by omega, rfl, HL0.out, HB0.out, by simp⟩
 case round =>
  obtain ⟨q, vals, hq, rfl, hl, hb, hno⟩ := hrel
  have HL := Lib.hid hl
  have HBR := Lib.hid hb
  have HNO := Lib.hid hno
  clear hl hno
  by_cases hlq : q < m
  ·obtain ⟨g, o, x, rfl, hx, hsv, c1⟩ := (HR.out.keep hb).at_ hlq
   have HX := Lib.hid hx
   have T := Lib.hid (part_any x.R C x.n x.c k ck N x.r cols wr (by omega) (by omega) hsv (HWF.out x (List.mem_of_getElem? hx)) (HC.out.keep hb))
   have HPF := Lib.hid (show pfOf hs cols N q = partOf x.r cols N by unfold pfOf; rw [hx])
   have hpb := partOf_bound x.r cols (n := (N : Int)) (by omega)
   clear hb hx hsv
   generalize hbad : cols.any (badCol x.n) = bad at T
   have HBAD := Lib.hid hbad
   clear hbad
   cases bad with
   | true =>
    go_wp2_with fail
    refine (T.out).mono ?_
    rintro e w2 ⟨rfl, hb2⟩
    have HB2 := Lib.hid (below_step HBR.out hb2)
    clear hb2
    go_wp2_with fail
    go_ret2
    exact ⟨Or.inl ⟨1, Or.inr ⟨rfl, by omega, Or.inr (Or.inr ⟨x, List.mem_of_getElem? HX.out, HBAD.out⟩)⟩, rfl⟩, HB2.out⟩
   | false =>
    obtain ⟨p, hp⟩ : ∃ p : Nat, partOf x.r cols N = p := ⟨(partOf x.r cols N).toNat, by omega⟩
    have hpN : p < N := by omega
    rw [hp] at T
    have HNX := Lib.hid (show ∀ h ∈ hs.take (q + 1), cols.any (badCol h.n) = false by
     intro h hh
     rw [List.take_add_one, HX.out] at hh
     rcases List.mem_append.1 hh with hh | hh
     ·exact HNO.out h hh
     ·simp at hh; subst hh; exact HBAD.out)
    have HPN := Lib.hid (partList_next (HPF.out.trans hp))
    have hle := partList_le (pfOf hs cols N) q p
    clear hp hpb
    go_wp2_with fail
    refine (T.out).mono ?_
    rintro e w2 ⟨rfl, hb2⟩
    have hl2 := HL.out.keep hb2
    have hb22 := below_step HBR.out hb2
    have HB2 := Lib.hid hb22
    have HL2 := Lib.hid hl2
    have co : w2.cell? ⟨w.heap.size, p, none⟩ = some (vals p) := by
     have := hl2.outer.cells (g := w.heap.size) rfl p (vals p) (by rw [List.getElem?_map, List.getElem?_range hpN]; rfl)
     rwa [addr_addN, Nat.zero_add] at this
    have hsz2 := hb22.size
    have hrow := hl2.rows p hpN
    clear hb2 hl2 hb22
    go_wp2_with (first
     | (at_builtin; refine wpList_append_one_at intSlice rfl _ _ rfl rfl rfl hrow hsz2 rfl (by intro u hu; simp at hu; subst hu; rfl) (by omega) ?_; intro v1 w4 hown4 hg4 hat4; obtain ⟨vA, vC, rfl⟩ := own_shape hown4; have HS4 := Lib.hid (parts_store HL2.out hpN hown4 hg4 hat4); obtain ⟨⟨cu4, cc4⟩, zz4, lt4⟩ := HS4.out.2.1; clear hown4 hg4 hat4))
    go_roundw
    case rel => exact ⟨q + 1, _, by omega, by go_num, by rw [HPN.out]; exact HS4.out.1, HS4.out.2.2 _ HB2.out (Nat.le_refl _), HNX.out⟩
    case measure => simp [intOf]; omega
  ·obtain rfl : m = q := by omega
   clear hb
   go_wp2_with fail
   go_ret2
   refine ⟨Or.inr ⟨by omega, by omega, by omega, ?_, w.heap.size, vals, rfl, ?_⟩, HBR.out⟩
   ·have := HNO.out
    rwa [List.take_of_length_le (by rw [HLn.out]; exact Nat.le_refl _)] at this
   ·simpa using HL.out
end Go.Proofs.YtkgdfccpkiglaaaDoor
