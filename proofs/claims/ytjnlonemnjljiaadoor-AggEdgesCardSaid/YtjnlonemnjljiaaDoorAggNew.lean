/- agg.New, walked. -/
import Derived.Test.YtjnlonemnjljiaaDoorAggSame
import Derived.Deep.RegionLaw
import Derived.Deep.AppendLies
import Derived.Deep.CutRange
namespace Go.Proofs.YtjnlonemnjljiaaDoor
open Go.ChangeShapes Go.WideShapes Go.ChangeAt Go.RowKit

/-- An aggregate that is asked for, as it lies: its word, and eight cells more. -/
structure AggH where
  what : ByteArray
  op : ByteArray
  nm : ByteArray
  vt : Int
  vn : Int
  vs : ByteArray
  aA : Option Addr
  an : Nat
  ac : Nat
  pos : Int
  as_ : ByteArray
def aggCells (a : AggH) : List Value := [.string a.what, .string a.op, .string a.nm, .int .i64 a.vt, .int .i64 a.vn, .string a.vs, .slice a.aA a.an a.ac, .int .i64 a.pos, .string a.as_]
def aggsCells (l : List AggH) : List Value := l.flatMap aggCells
theorem aggsCells_length (l : List AggH) : (aggsCells l).length = l.length * 9 := by
  induction l with
  | nil => rfl
  | cons c l ih => simp only [aggsCells, List.flatMap_cons, List.length_append, List.length_cons] at *; simp [aggCells, ih]; omega
theorem aggsCells_at : ∀ {l : List AggH} {k : Nat} {o : AggH}, l[k]? = some o → (aggsCells l)[k * 9]? = some (.string o.what) ∧ (aggsCells l)[k * 9 + 1]? = some (.string o.op) ∧ (aggsCells l)[k * 9 + 2]? = some (.string o.nm) ∧ (aggsCells l)[k * 9 + 3]? = some (.int .i64 o.vt) ∧ (aggsCells l)[k * 9 + 4]? = some (.int .i64 o.vn) ∧
    (aggsCells l)[k * 9 + 5]? = some (.string o.vs) ∧ (aggsCells l)[k * 9 + 6]? = some (.slice o.aA o.an o.ac) ∧ (aggsCells l)[k * 9 + 7]? = some (.int .i64 o.pos) ∧ (aggsCells l)[k * 9 + 8]? = some (.string o.as_)
  | x :: l, 0, c, h => by simp at h; subst h; exact ⟨rfl, rfl, rfl, rfl, rfl, rfl, rfl, rfl, rfl⟩
  | x :: l, k + 1, c, h => by
    have ih := aggsCells_at (l := l) (k := k) (by simpa using h)
    have e : aggsCells (x :: l) = .string x.what :: .string x.op :: .string x.nm :: .int .i64 x.vt :: .int .i64 x.vn :: .string x.vs :: .slice x.aA x.an x.ac :: .int .i64 x.pos :: .string x.as_ :: aggsCells l := rfl
    rw [e, show (k + 1) * 9 = k * 9 + 1 + 1 + 1 + 1 + 1 + 1 + 1 + 1 + 1 by omega]
    simpa using ih
  | [], k, c, h => by simp at h
def SeesAggs (w : World) (A : Option Addr) (n c : Nat) (l : List AggH) : Prop := l.length = n ∧ Sees w A n c 9 (aggsCells l)
theorem SeesAggs.keep {w w' : World} {A : Option Addr} {n c : Nat} {l : List AggH} (h : SeesAggs w A n c l) (hb : Below w.heap.size w w') : SeesAggs w' A n c l := ⟨h.1, h.2.keep hb⟩
theorem SeesAggs.at_ {w : World} {A : Option Addr} {n c : Nat} {l : List AggH} (h : SeesAggs w A n c l) {k : Nat} (hk : k < n) :
    ∃ g o x, A = some ⟨g, o, none⟩ ∧ g < w.heap.size ∧ l[k]? = some x ∧ w.cell? ⟨g, o + k * 9, none⟩ = some (.string x.what) ∧ w.cell? ⟨g, o + k * 9 + 1, none⟩ = some (.string x.op) ∧ w.cell? ⟨g, o + k * 9 + 2, none⟩ = some (.string x.nm) ∧ w.cell? ⟨g, o + k * 9 + 3, none⟩ = some (.int .i64 x.vt) ∧ w.cell? ⟨g, o + k * 9 + 4, none⟩ = some (.int .i64 x.vn) ∧
      w.cell? ⟨g, o + k * 9 + 5, none⟩ = some (.string x.vs) ∧ w.cell? ⟨g, o + k * 9 + 6, none⟩ = some (.slice x.aA x.an x.ac) ∧ w.cell? ⟨g, o + k * 9 + 7, none⟩ = some (.int .i64 x.pos) ∧ w.cell? ⟨g, o + k * 9 + 8, none⟩ = some (.string x.as_) := by
  obtain ⟨g, o, e, hg, hc⟩ := h.2.2.2.2.2 (by omega)
  have hl : l[k]? = some (l[k]'(by have := h.1; omega)) := List.getElem?_eq_getElem _
  obtain ⟨h0, h1, h2, h3, h4, h5, h6, h7, h8⟩ := aggsCells_at hl
  exact ⟨g, o, _, e, hg, hl, hc _ _ h0, hc _ _ h1, hc _ _ h2, hc _ _ h3, hc _ _ h4, hc _ _ h5, hc _ _ h6, hc _ _ h7, hc _ _ h8⟩

def kdsOf (l : List AggH) (ts : List Int) : List Kd := List.zipWith (fun a t => ⟨a.what, t⟩) l ts
theorem kdsOf_at {l : List AggH} {ts : List Int} {j : Nat} {a : AggH} {t : Int} (ha : l[j]? = some a) (ht : ts[j]? = some t) : (kdsOf l ts)[j]? = some ⟨a.what, t⟩ := by
  unfold kdsOf; rw [List.getElem?_zipWith, ha, ht]
theorem kdsOf_length {l : List AggH} {ts : List Int} (h : ts.length = l.length) : (kdsOf l ts).length = l.length := by
  unfold kdsOf; rw [List.length_zipWith]; omega
def kdFault (k : Kd) : Int :=
  if isCount k.what then 0 else if isSum k.what ∨ isLeast k.what = true ∨ isMost k.what = true then (if ¬ (1 ≤ k.type ∧ k.type ≤ 3) then 1 else if isSum k.what ∧ k.type ≠ 1 then 8 else 0) else 2
def newAt : List Kd → Int
  | [] => 0
  | k :: ks => if kdFault k ≠ 0 then kdFault k else newAt ks
theorem newAt_step {ks : List Kd} {j : Nat} {k : Kd} (hk : ks[j]? = some k) : newAt (ks.drop j) = if kdFault k ≠ 0 then kdFault k else newAt (ks.drop (j + 1)) := by
  obtain ⟨h1, rfl⟩ := List.getElem?_eq_some_iff.1 hk
  rw [List.drop_eq_getElem_cons h1, newAt]
def newFault (l : List AggH) (ts : List Int) : Int := if ts.length ≠ l.length then 3 else if 6 < l.length then 4 else newAt (kdsOf l ts)
def zeroOne (k : Kd) : One := ⟨k.what, k.type, 0, noVal⟩
theorem zeros_ones : ∀ ks : List Kd, ks.map zeroOne = onesOf ks []
  | [] => rfl
  | k :: ks => by
    rw [List.map_cons, onesOf]
    have := zeros_ones ks
    simp only [List.map_nil]
    rw [this]
    congr 1
    unfold oneAt zeroOne
    split <;> rfl
def NewSays (l : List AggH) (ts : List Int) (w : World) (e : Ending) (w' : World) : Prop :=
  (if newFault l ts = 0 then ∃ A c, e = .returned (.tuple #[.pointer (some ⟨w.heap.size, 0, none⟩), .nilIface]) ∧ AccAt w' w.heap.size w.heap.size A c (onesOf (kdsOf l ts) []) 0
   else e = .returned (.tuple #[.pointer none, errV (newFault l ts)])) ∧ Below w.heap.size w w'
theorem AccAt.append {w1 w2 : World} {B p c n g cap H j : Nat} {A : Option Addr} {l : List One} {o : One} (h : AccAt w1 B p A c l n) (hL : l.length = j) (hg : w1.grownBy w2 (Value.slice A j c).ownBlock)
    (hown : w2.ownsRow B 87 7 (.slice (some ⟨g, 0, none⟩) (j + 1) cap) (j + 1) (onesCells l ++ oneCells o)) (hat : (Value.slice A j c).ownBlock = some g ∨ g = H) (hH : p < H) :
    AccAt (w2.setCell ⟨p, 0, none⟩ (.slice (some ⟨g, 0, none⟩) (j + 1) cap)) B p (some ⟨g, 0, none⟩) cap (l ++ [o]) n ∧ (∃ u, w2.cell? ⟨p, 0, none⟩ = some u) ∧ w2.frozen? ⟨p, 0, none⟩ = false := by
  subst hL
  have hgp : g ≠ p := by
    rcases hat with e | e
    · intro e2; exact h.off (by rw [e, e2])
    · omega
  have hb2 : w2.heap[p]? = some (.cells #[.slice A l.length c, .int .i64 n] 81 (0, 0)) := by
    rw [hg.block p h.lt (fun e => h.off e.symm)]; exact h.box
  refine ⟨⟨?_, h.low, ?_, ?_⟩, ⟨_, (box2 hb2).1⟩, ?_⟩
  · unfold World.setCell
    rw [Array.getElem?_modify]
    simp only [if_true]
    rw [hb2]
    simp
  · have := own_other (g := p) (i := 0) (u := .slice (some ⟨g, 0, none⟩) (l.length + 1) cap) hown (by intro e; injection e with e; exact hgp e)
    have e : onesCells (l ++ [o]) = onesCells l ++ oneCells o := by simp [onesCells]
    rw [e, List.length_append]
    exact this
  · intro e; injection e with e; exact hgp e
  · unfold World.frozen?
    rw [show w2.heap[(⟨p, 0, none⟩ : Addr).block]? = _ from hb2]; simp

/-- 'x.f = append(x.f, y)' in a region that draws: y's cells have just been laid in a block of their own. -/
theorem step_append_one {P : Program} {t e : TypeId} {z : Value} {size bytes : Nat} (hS : SliceTy P t e z size bytes)
    {ops : Array Oper} {o : Oper} {a : Act} {K : Act → World → Prop} {Q : Exit → Act → World → Prop} {E : Prop} (hgd : o.guard = none) (s x : Operand)
    (ho : o.op = .call { callee := .builtin .append, args := #[s, x], argTypes := #[t, t] })
    {B : Nat} {wr : World} {v : Value} {n : Nat} {xs : List Value} {cs : Array Value} {c : Nat}
    (hs : a.eval s = v) (hx : a.eval x = .slice (some ⟨wr.heap.size, 0, none⟩) 1 c)
    (hown : wr.ownsRow B e size v n xs) (hB : B ≤ wr.heap.size) (hcs : cs.size = size) (h1 : ∀ u ∈ cs.toList, u.oneCell' = true)
    (hn : (n + 1) * bytes ≤ 140737488355328)
    (h : ∀ g cap w', w'.ownsRow B e size (.slice (some ⟨g, 0, none⟩) (n + 1) cap) (n + 1) (xs ++ cs.toList) → ((wr.alloc (.cells cs e)).drew).grownBy w' v.ownBlock → (v.ownBlock = some g ∨ g = wr.heap.size + 1) → K (a.put o.dst (.slice (some ⟨g, 0, none⟩) (n + 1) cap)) w') :
    if Region.wanted o (yielded ops a.tmps) = true then Oper.wp P o a ((wr.alloc (.cells cs e)).drew) K Q else E := by
  obtain ⟨ht, h2, h3, hzs, i, hi, hz, hsz, hby⟩ := hS
  have hm : n + 1 ≤ (n + 1) * bytes := Nat.le_mul_of_pos_right _ h3
  refine step_append_lies _ hgd s x t ho B e i z size bytes ht hi hz hsz hby hzs h2 v n xs hs (own_keep (hown.alloc _) (Below.drew (Below.refl _ _))) ⟨wr.heap.size, 0, none⟩ 1 c cs.toList hx (by simpa using hcs) ?_ h1 (by decide) (by unfold maxLen; omega) hn (by simp; omega) (wr.heap.size + 1) (by simp) ?_
  · intro j u hu
    have := cells_new wr cs e j
    rw [show (wr.alloc (.cells cs e)).drew.cell? ((⟨wr.heap.size, 0, none⟩ : Addr).add j) = (wr.alloc (.cells cs e)).cell? ((⟨wr.heap.size, 0, none⟩ : Addr).add j) from rfl, this]
    simpa using hu
  · intro g cap w' h1' h2' h3' _
    exact h g cap w' h1' h2' h3'

theorem box9 {w : World} {b : Nat} {o : AggH} {T : TypeId} (h : w.heap[b]? = some (.cells #[.string o.what, .string o.op, .string o.nm, .int .i64 o.vt, .int .i64 o.vn, .string o.vs, .slice o.aA o.an o.ac, .int .i64 o.pos, .string o.as_] T (0, 0))) : w.cell? ⟨b, 0, none⟩ = some (.string o.what) := by
  rw [cell_of_row _ _ _ _ _ _ h]; rfl
set_option maxHeartbeats 4000000 in
set_option maxRecDepth 100000 in
theorem new_walk (A0 T0 : Option Addr) (c tc : Nat) (n : Nat) (l : List AggH) (ts : List Int) (w : World) (hl : SeesAggs w A0 n c l) (ht : Sees w T0 n tc 1 (intCells ts)) (h6 : n ≤ 6) :
    Calls Tryd.prog 9 #[.slice A0 n c, .slice T0 n tc] w (NewSays l ts w) := by
  have HL := Lib.hid hl
  have HT := Lib.hid ht
  have hcap := hl.2.2.1
  have hmax := hl.2.2.2.1
  have htc := ht.2.1
  have htm := ht.2.2.1
  unfold maxLen at hmax htm
  have e0 : ((n : Int) != n) = false := by simp
  have d6 : decide (6 < (n : Int)) = false := decide_eq_false (by omega)
  have d6' : decide (6 < n) = false := decide_eq_false (by omega)
  obtain ⟨w0, hw0⟩ : ∃ w0, w.alloc (.cells #[.slice none 0 0, .int .i64 0] 81) = w0 := ⟨_, rfl⟩
  have hA0 : AccAt w0 w.heap.size w.heap.size none 0 ((kdsOf l ts).take 0 |>.map zeroOne) 0 := by
    rw [← hw0]
    exact ⟨heap_alloc_new w _, Nat.le_refl _, World.ownsRow_nil _ _ _ _, by intro e; cases e⟩
  have HW0 := Lib.hid hw0
  have HA0 := Lib.hid hA0
  have HB0 := Lib.hid (show Below w.heap.size w w0 by rw [← hw0]; exact (Below.refl _ _).alloc (Nat.le_refl _) _)
  have HNF := Lib.hid (show newFault l ts = newAt (kdsOf l ts) by
    unfold newFault; rw [if_neg (by rw [intCells_len ht, hl.1]; simp), if_neg (by rw [hl.1]; omega)])
  have hn6 : n ≤ 6 := h6
  have HKL := Lib.hid (show (kdsOf l ts).length = n by rw [kdsOf_length (by rw [intCells_len ht, hl.1]), hl.1])
  clear hl ht hw0 hA0 h6
  go_enter Tryd.func9, Tryd.ntmps9
  go_wp2_with (first | rw [HW0.out])
  go_loopw [25] (fun i wr => ∃ (j : Nat) (A : Option Addr) (c : Nat), j ≤ n ∧ i = .int .i64 j ∧ AccAt wr w.heap.size w.heap.size A c (((kdsOf l ts).take j).map zeroOne) 0 ∧ Below w.heap.size w wr ∧ newAt (kdsOf l ts) = newAt ((kdsOf l ts).drop j)) (fun i _ => n - (intOf i).toNat)
  case atStart => exact ⟨0, none, 0, by omega, rfl, HA0.out, HB0.out, rfl⟩
  case round =>
    obtain ⟨j, A, ca, hj, rfl, ha, hb, hf⟩ := hrel
    have HAR := Lib.hid ha
    have HBR := Lib.hid hb
    have HF := Lib.hid hf
    clear ha hf
    by_cases hlj : j < n
    · obtain ⟨ga, oa, x, rfl, hga, hx, a0, a1, a2, a3, a4, a5, a6, a7, a8⟩ := (HL.out.keep hb).at_ hlj
      obtain ⟨gt, ot, t, rfl, ht, t0⟩ := ints_at (HT.out.keep hb) hlj
      have hgt : gt < wr.heap.size := World.block_lt_of_cell? wr _ t0
      have HKD := Lib.hid (kdsOf_at hx ht)
      have HSTEP := Lib.hid (newAt_step (kdsOf_at hx ht))
      obtain ⟨w1, hw1⟩ : ∃ w1, wr.alloc (.cells #[.string x.what, .string x.op, .string x.nm, .int .i64 x.vt, .int .i64 x.vn, .string x.vs, .slice x.aA x.an x.ac, .int .i64 x.pos, .string x.as_] 34) = w1 := ⟨_, rfl⟩
      have hb1 : Below wr.heap.size wr w1 := by rw [← hw1]; exact (Below.refl _ _).alloc (Nat.le_refl _) _
      have hx0 := heap_alloc_new wr (.cells #[.string x.what, .string x.op, .string x.nm, .int .i64 x.vt, .int .i64 x.vn, .string x.vs, .slice x.aA x.an x.ac, .int .i64 x.pos, .string x.as_] 34)
      rw [hw1] at hx0
      have x0 := box9 (o := x) hx0
      have t1 := (hb1.cell (p := ⟨gt, ot + j, none⟩) hgt).trans t0
      have ha1 := HAR.out.keep hb1
      have k0 := ha1.cells.1
      have HW1 := Lib.hid hw1
      have HA1 := Lib.hid ha1
      have HB1 := Lib.hid (below_step HBR.out hb1)
      have HLN := Lib.hid (show (((kdsOf l ts).take j).map zeroOne).length = j by rw [List.length_map, List.length_take, HKL.out]; omega)
      rw [HLN.out] at k0
      clear hx ht hw1 hb1 hx0 ha1 hb
      have HOWN := Lib.hid (HLN.out ▸ HA1.out.own)
      have hpw : w.heap.size < w1.heap.size := HA1.out.lt
      have HSZ := Lib.hid (show w.heap.size ≤ w1.heap.size from HB1.out.size)
      have HTK := Lib.hid (show (((kdsOf l ts).take (j + 1)).map zeroOne) = ((kdsOf l ts).take j).map zeroOne ++ [⟨x.what, t, 0, noVal⟩] by rw [List.take_add_one, HKD.out]; simp [zeroOne])
      have HAPP := Lib.hid (fun (w5 : World) (g cap : Nat) h1 h2 h3 => AccAt.append (w1 := (w1.alloc (.cells #[.string x.what, .int .i64 t, .int .i64 0, .int .u64 0, .int .i64 0, .int .i64 0, .string ⟨#[]⟩] 87)).drew) (w2 := w5) (g := g) (cap := cap) (o := ⟨x.what, t, 0, noVal⟩) (HA1.out.keep (((Below.refl _ _).alloc (Nat.le_refl _) _).drew)) HLN.out h1 h2 h3 (show w.heap.size < w1.heap.size + 1 by have := HA1.out.lt; omega))
      have HBEL := Lib.hid (fun (w5 : World) (h : (w1.alloc (.cells #[.string x.what, .int .i64 t, .int .i64 0, .int .u64 0, .int .i64 0, .int .i64 0, .string ⟨#[]⟩] 87)).drew.grownBy w5 (Value.slice A j ca).ownBlock) (u : Value) => show Below w.heap.size w (w5.setCell ⟨w.heap.size, 0, none⟩ u) from
        ((below_step HB1.out (show Below w1.heap.size w1 (w1.alloc (.cells #[.string x.what, .int .i64 t, .int .i64 0, .int .u64 0, .int .i64 0, .int .i64 0, .string ⟨#[]⟩] 87)).drew from ((Below.refl _ _).alloc (Nat.le_refl _) _).drew)).grown h (by have := HSZ.out; simp; omega) (fun k hk => (HOWN.out.lt k hk).1)).setCell (p := ⟨w.heap.size, 0, none⟩) (Nat.le_refl _) u)
      have HCELL := Lib.hid (show ∀ u ∈ (#[.string x.what, .int .i64 t, .int .i64 0, .int .u64 0, .int .i64 0, .int .i64 0, .string ⟨#[]⟩] : Array Value).toList, u.oneCell' = true by intro u hu; simp at hu; rcases hu with rfl | rfl | rfl | rfl | rfl | rfl | rfl <;> rfl)
      have HBYT := Lib.hid (show (j + 1) * 72 ≤ 140737488355328 by omega)
      have HKF := Lib.hid (show kdFault ⟨x.what, t⟩ = if isCount x.what then 0 else if isSum x.what ∨ isLeast x.what = true ∨ isMost x.what = true then (if ¬ (1 ≤ t ∧ t ≤ 3) then 1 else if isSum x.what ∧ t ≠ 1 then 8 else 0) else 2 from rfl)
      by_cases hc : isCount x.what
      · have e2 : (x.what.toList == [99, 111, 117, 110, 116]) = true := by rw [Lib.toList_data]; unfold isCount at hc; rw [hc]; rfl
        have E := Lib.hid (show kdFault ⟨x.what, t⟩ = 0 from if_pos hc)
        clear hc
        go_wp2_with (first | rw [HW1.out])
        go_region_law (refine step_append_one oneSlice rfl (.tmp 61) (.tmp 69) rfl (by simp [Act.eval]) (by simp [Act.eval]; rfl) HOWN.out HSZ.out rfl HCELL.out HBYT.out ?_; intro g cap w5 hown5 hg5 hat5; obtain ⟨hacc, ⟨cu, hcu⟩, hfz⟩ := HAPP.out w5 g cap hg5 hown5 hat5; have HACC := Lib.hid hacc; have HG5 := Lib.hid hg5; have HB5 := Lib.hid hat5; clear hown5 hg5 hat5 hacc)
        all_goals
          go_wp2_with fail
          go_roundw
          case rel => exact ⟨j + 1, some ⟨g, 0, none⟩, cap, by omega, by go_num, HTK.out ▸ HACC.out, HBEL.out w5 HG5.out _, by rw [HF.out, HSTEP.out, E.out]; rfl⟩
          case measure => simp [intOf]; omega
      · have e2 : (x.what.toList == [99, 111, 117, 110, 116]) = false := by rw [Lib.toList_data]; exact beq_eq_false_iff_ne.2 hc
        rw [if_neg hc] at HKF
        clear hc
        by_cases hs : isSum x.what
        · have e3 : (x.what.toList == [115, 117, 109]) = true := by rw [Lib.toList_data]; unfold isSum at hs; rw [hs]; rfl
          rw [if_pos (Or.inl hs)] at HKF
          by_cases hty' : 1 ≤ t ∧ t ≤ 3
          · have hty : decide (1 ≤ t ∧ t ≤ 3) = true := decide_eq_true hty'
            rw [if_neg (by simpa using hty')] at HKF
            by_cases h1 : t = 1
            · have e4 : (t == 1) = true := by simpa using h1
              have E := Lib.hid (HKF.out.trans (if_neg (fun h => h.2 h1)))
              clear hs hty' h1
              go_wp2_with (first | rw [HW1.out] | (go_at_call 30; refine (vtype_at _ _).mono ?_; rintro e w' ⟨rfl, rfl⟩; rw [hty]))
              go_region_law (refine step_append_one oneSlice rfl (.tmp 61) (.tmp 69) rfl (by simp [Act.eval]) (by simp [Act.eval]; rfl) HOWN.out HSZ.out rfl HCELL.out HBYT.out ?_; intro g cap w5 hown5 hg5 hat5; obtain ⟨hacc, ⟨cu, hcu⟩, hfz⟩ := HAPP.out w5 g cap hg5 hown5 hat5; have HACC := Lib.hid hacc; have HG5 := Lib.hid hg5; have HB5 := Lib.hid hat5; clear hown5 hg5 hat5 hacc)
              all_goals
                go_wp2_with fail
                go_roundw
                case rel => exact ⟨j + 1, some ⟨g, 0, none⟩, cap, by omega, by go_num, HTK.out ▸ HACC.out, HBEL.out w5 HG5.out _, by rw [HF.out, HSTEP.out, E.out]; rfl⟩
                case measure => simp [intOf]; omega
            · have e4 : (t == 1) = false := by simpa using h1
              have E := Lib.hid (HKF.out.trans (if_pos ⟨hs, h1⟩))
              clear hs hty' h1
              go_wp2_with (first | rw [HW1.out] | (go_at_call 30; refine (vtype_at _ _).mono ?_; rintro e w' ⟨rfl, rfl⟩; rw [hty]))
              go_ret2
              refine ⟨?_, HB1.out⟩
              have H8 := HNF.out.trans (HF.out.trans (HSTEP.out.trans ((congrArg (fun q => if q ≠ 0 then q else newAt ((kdsOf l ts).drop (j + 1))) E.out).trans (if_pos (by decide)))))
              rw [H8, if_neg (by decide)]
              rfl
          · have hty : decide (1 ≤ t ∧ t ≤ 3) = false := decide_eq_false hty'
            have E := Lib.hid (HKF.out.trans (if_pos (by simpa using hty')))
            clear hs hty'
            go_wp2_with (first | rw [HW1.out] | (go_at_call 30; refine (vtype_at _ _).mono ?_; rintro e w' ⟨rfl, rfl⟩; rw [hty]))
            go_ret2
            refine ⟨?_, HB1.out⟩
            have H8 := HNF.out.trans (HF.out.trans (HSTEP.out.trans ((congrArg (fun q => if q ≠ 0 then q else newAt ((kdsOf l ts).drop (j + 1))) E.out).trans (if_pos (by decide)))))
            rw [H8, if_neg (by decide)]
            rfl
        · have e3 : (x.what.toList == [115, 117, 109]) = false := by rw [Lib.toList_data]; exact beq_eq_false_iff_ne.2 hs
          by_cases hl : isLeast x.what = true
          · have e4 : (x.what.toList == [108, 101, 97, 115, 116]) = true := by rw [Lib.toList_data]; exact hl
            rw [if_pos (Or.inr (Or.inl hl))] at HKF
            by_cases hty' : 1 ≤ t ∧ t ≤ 3
            · have hty : decide (1 ≤ t ∧ t ≤ 3) = true := decide_eq_true hty'
              rw [if_neg (by simpa using hty')] at HKF
              have E := Lib.hid (HKF.out.trans (if_neg (fun h => hs h.1)))
              clear hs hty' hl
              go_wp2_with (first | rw [HW1.out] | (go_at_call 30; refine (vtype_at _ _).mono ?_; rintro e w' ⟨rfl, rfl⟩; rw [hty]))
              go_region_law (refine step_append_one oneSlice rfl (.tmp 61) (.tmp 69) rfl (by simp [Act.eval]) (by simp [Act.eval]; rfl) HOWN.out HSZ.out rfl HCELL.out HBYT.out ?_; intro g cap w5 hown5 hg5 hat5; obtain ⟨hacc, ⟨cu, hcu⟩, hfz⟩ := HAPP.out w5 g cap hg5 hown5 hat5; have HACC := Lib.hid hacc; have HG5 := Lib.hid hg5; have HB5 := Lib.hid hat5; clear hown5 hg5 hat5 hacc)
              all_goals
                go_wp2_with fail
                go_roundw
                case rel => exact ⟨j + 1, some ⟨g, 0, none⟩, cap, by omega, by go_num, HTK.out ▸ HACC.out, HBEL.out w5 HG5.out _, by rw [HF.out, HSTEP.out, E.out]; rfl⟩
                case measure => simp [intOf]; omega
            · have hty : decide (1 ≤ t ∧ t ≤ 3) = false := decide_eq_false hty'
              have E := Lib.hid (HKF.out.trans (if_pos (by simpa using hty')))
              clear hs hty' hl
              go_wp2_with (first | rw [HW1.out] | (go_at_call 30; refine (vtype_at _ _).mono ?_; rintro e w' ⟨rfl, rfl⟩; rw [hty]))
              go_ret2
              refine ⟨?_, HB1.out⟩
              have H8 := HNF.out.trans (HF.out.trans (HSTEP.out.trans ((congrArg (fun q => if q ≠ 0 then q else newAt ((kdsOf l ts).drop (j + 1))) E.out).trans (if_pos (by decide)))))
              rw [H8, if_neg (by decide)]
              rfl
          · have e4 : (x.what.toList == [108, 101, 97, 115, 116]) = false := by rw [Lib.toList_data]; simpa [isLeast] using hl
            by_cases hm : isMost x.what = true
            · have e5 : (x.what.toList == [109, 111, 115, 116]) = true := by rw [Lib.toList_data]; exact hm
              rw [if_pos (Or.inr (Or.inr hm))] at HKF
              by_cases hty' : 1 ≤ t ∧ t ≤ 3
              · have hty : decide (1 ≤ t ∧ t ≤ 3) = true := decide_eq_true hty'
                rw [if_neg (by simpa using hty')] at HKF
                have E := Lib.hid (HKF.out.trans (if_neg (fun h => hs h.1)))
                clear hs hty' hl hm
                go_wp2_with (first | rw [HW1.out] | (go_at_call 30; refine (vtype_at _ _).mono ?_; rintro e w' ⟨rfl, rfl⟩; rw [hty]))
                go_region_law (refine step_append_one oneSlice rfl (.tmp 61) (.tmp 69) rfl (by simp [Act.eval]) (by simp [Act.eval]; rfl) HOWN.out HSZ.out rfl HCELL.out HBYT.out ?_; intro g cap w5 hown5 hg5 hat5; obtain ⟨hacc, ⟨cu, hcu⟩, hfz⟩ := HAPP.out w5 g cap hg5 hown5 hat5; have HACC := Lib.hid hacc; have HG5 := Lib.hid hg5; have HB5 := Lib.hid hat5; clear hown5 hg5 hat5 hacc)
                all_goals
                  go_wp2_with fail
                  go_roundw
                  case rel => exact ⟨j + 1, some ⟨g, 0, none⟩, cap, by omega, by go_num, HTK.out ▸ HACC.out, HBEL.out w5 HG5.out _, by rw [HF.out, HSTEP.out, E.out]; rfl⟩
                  case measure => simp [intOf]; omega
              · have hty : decide (1 ≤ t ∧ t ≤ 3) = false := decide_eq_false hty'
                have E := Lib.hid (HKF.out.trans (if_pos (by simpa using hty')))
                clear hs hty' hl hm
                go_wp2_with (first | rw [HW1.out] | (go_at_call 30; refine (vtype_at _ _).mono ?_; rintro e w' ⟨rfl, rfl⟩; rw [hty]))
                go_ret2
                refine ⟨?_, HB1.out⟩
                have H8 := HNF.out.trans (HF.out.trans (HSTEP.out.trans ((congrArg (fun q => if q ≠ 0 then q else newAt ((kdsOf l ts).drop (j + 1))) E.out).trans (if_pos (by decide)))))
                rw [H8, if_neg (by decide)]
                rfl
            · have e5 : (x.what.toList == [109, 111, 115, 116]) = false := by rw [Lib.toList_data]; simpa [isMost] using hm
              have E := Lib.hid (HKF.out.trans (if_neg (fun h => h.elim hs (fun h => h.elim hl hm))))
              clear hs hl hm
              go_wp2_with (first | rw [HW1.out])
              go_ret2
              refine ⟨?_, HB1.out⟩
              have H8 := HNF.out.trans (HF.out.trans (HSTEP.out.trans ((congrArg (fun q => if q ≠ 0 then q else newAt ((kdsOf l ts).drop (j + 1))) E.out).trans (if_pos (by decide)))))
              rw [H8, if_neg (by decide)]
              rfl
    · obtain rfl : j = n := by omega
      have HE := Lib.hid (show newFault l ts = 0 by rw [HNF.out, HF.out, List.drop_of_length_le (by rw [HKL.out]; omega)]; rfl)
      have HTK := Lib.hid (show ((kdsOf l ts).take j).map zeroOne = onesOf (kdsOf l ts) [] by rw [List.take_of_length_le (by rw [HKL.out]; omega), zeros_ones])
      clear hb
      go_wp2_with fail
      go_ret2
      refine ⟨?_, HBR.out⟩
      rw [if_pos HE.out]
      exact ⟨A, ca, rfl, HTK.out ▸ HAR.out⟩
end Go.Proofs.YtjnlonemnjljiaaDoor
