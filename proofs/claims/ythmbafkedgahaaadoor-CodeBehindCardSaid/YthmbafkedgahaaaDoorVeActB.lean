/- Memory while an instruction acts on a state: the checker's block p, the state's block b, the instruction's block xb, the row g of what lies on the stack. (*checker).act: as it finds and leaves things. (*checker).act, walked (1 4 7). (*checker).act, walked (2). (*checker).act, walked (3 9). (*checker).act, walked (5 8). (*checker).act, walked (6). -/
import Derived.Test.YthmbafkedgahaaaDoorVeArg
namespace Go.Proofs.YthmbafkedgahaaaDoor
open Go.ChangeShapes Go.WideShapes Go.ChangeAt Go.RowKit

structure ActW (w : World) (H p b xb g j c : Nat) (CV KV AV : Value) (most : Nat) (x : Ins) (l : List Int) : Prop where
  pb : w.heap[p]? = some (.cells #[CV, KV, AV, .int .i64 most] 92 (0, 0))
  bb : w.heap[b]? = some (.cells #[.slice (some ⟨g, 0, none⟩) j c] 89 (0, 0))
  xx : w.heap[xb]? = some (.cells #[.int .i64 x.what, .int .i64 x.arg, .int .i64 x.val.type, .int .i64 x.val.n, .string x.val.s] 39 (0, 0))
  own : w.ownsRow H 3 1 (.slice (some ⟨g, 0, none⟩) j c) j (intCells l)
  bg : b ≠ g
  xg : xb ≠ g
  bx : b ≠ xb
  lo : p < H
  hb : H ≤ b
  hx : H ≤ xb
theorem own_prefix {w : World} {B e g j k c : Nat} {l : List Int} (h : w.ownsRow B e 1 (.slice (some ⟨g, 0, none⟩) (j + k) c) (j + k) (intCells l)) : w.ownsRow B e 1 (.slice (some ⟨g, 0, none⟩) j c) j (intCells (l.take j)) := by
  have hl := h.1
  have hll : l.length = j + k := by simpa [intCells] using hl
  refine ⟨by simp [intCells]; omega, ?_⟩
  rcases h.2 with ⟨e, _⟩ | ⟨q, cap, cur, e, h1, h2, h3, h4, h5, h6⟩
  · cases e
  · injection e with e1 e2 e3
    injection e1 with e1
    injection e1 with e1
    subst e1 e3
    refine Or.inr ⟨g, c, cur, rfl, h1, h2, by omega, h4, h5, ?_⟩
    rw [Nat.mul_one] at h6 ⊢
    have : cur.toList.take j = (cur.toList.take (j + k)).take j := by rw [List.take_take, Nat.min_eq_left (by omega)]
    rw [this, h6]
    unfold intCells
    rw [List.map_take]
section
variable {w w' : World} {H p b xb g j c : Nat} {CV KV AV : Value} {most : Nat} {x : Ins} {l : List Int}
theorem ActW.len (h : ActW w H p b xb g j c CV KV AV most x l) : l.length = j := by simpa [intCells] using h.own.1
theorem ActW.keep (h : ActW w H p b xb g j c CV KV AV most x l) (hb : Below w.heap.size w w') : ActW w' H p b xb g j c CV KV AV most x l :=
  ⟨(hb.block p (box_lt h.pb)).trans h.pb, (hb.block b (box_lt h.bb)).trans h.bb, (hb.block xb (box_lt h.xx)).trans h.xx, own_keep h.own hb, h.bg, h.xg, h.bx, h.lo, h.hb, h.hx⟩
theorem ActW.took {k : Nat} (h : ActW w H p b xb g (j + k) c CV KV AV most x l) : ActW (w.setCell ⟨b, 0, none⟩ (.slice (some ⟨g, 0, none⟩) j c)) H p b xb g j c CV KV AV most x (l.take j) := by
  have hy : Only (fun k => k = b) w (w.setCell ⟨b, 0, none⟩ (.slice (some ⟨g, 0, none⟩) j c)) := (Only.refl (fun k => k = b) w).setCell (p := ⟨b, 0, none⟩) rfl _
  have hpb : p ≠ b := fun e => by have := h.lo; have := h.hb; omega
  refine ⟨(hy.block p (box_lt h.pb) hpb).trans h.pb, ?_, (hy.block xb (box_lt h.xx) (fun e => h.bx e.symm)).trans h.xx, own_other (own_prefix h.own) (fun e => ?_), h.bg, h.xg, h.bx, h.lo, h.hb, h.hx⟩
  · rw [box_set (i := 0) _ h.bb]; rfl
  · injection e with e; exact h.bg e.symm
theorem ActW.put {w2 : World} {g' j' c' : Nat} {l' : List Int} (h : ActW w H p b xb g j c CV KV AV most x l) (hg : w.grownBy w2 (some g)) (hown : w2.ownsRow H 3 1 (.slice (some ⟨g', 0, none⟩) j' c') j' (intCells l')) (hat : g = g' ∨ w.heap.size ≤ g') :
    ActW (w2.setCell ⟨b, 0, none⟩ (.slice (some ⟨g', 0, none⟩) j' c')) H p b xb g' j' c' CV KV AV most x l' ∧ (∃ u, w2.cell? ⟨b, 0, none⟩ = some u) ∧ w2.frozen? ⟨b, 0, none⟩ = false ∧ Only (fun k => H ≤ k) w (w2.setCell ⟨b, 0, none⟩ (.slice (some ⟨g', 0, none⟩) j' c')) := by
  have hpb : p ≠ b := fun e => by have := h.lo; have := h.hb; omega
  have hgH : H ≤ g := (h.own.lt g rfl).1
  have hpg : p ≠ g := fun e => by have := h.lo; omega
  have hyg : Only (fun k => k = g) w w2 := Only.of_grown hg (fun k hk => by injection hk)
  have hy : Only (fun k => k = b) w2 (w2.setCell ⟨b, 0, none⟩ (.slice (some ⟨g', 0, none⟩) j' c')) := (Only.refl (fun k => k = b) w2).setCell (p := ⟨b, 0, none⟩) rfl _
  have b2 := (hyg.block b (box_lt h.bb) h.bg).trans h.bb
  have p2 := (hyg.block p (box_lt h.pb) hpg).trans h.pb
  have x2 := (hyg.block xb (box_lt h.xx) h.xg).trans h.xx
  have bl := box_lt h.bb
  have xl := box_lt h.xx
  have hbg' : b ≠ g' := fun e => hat.elim (fun h1 => h.bg (by omega)) (fun h1 => by omega)
  have hxg' : xb ≠ g' := fun e => hat.elim (fun h1 => h.xg (by omega)) (fun h1 => by omega)
  refine ⟨⟨(hy.block p (box_lt p2) hpb).trans p2, ?_, (hy.block xb (box_lt x2) (fun e => h.bx e.symm)).trans x2, own_other hown (fun e => ?_), hbg', hxg', h.bx, h.lo, h.hb, h.hx⟩, ⟨_, box1 b2⟩, box_free b2, ?_⟩
  · rw [box_set (i := 0) _ b2]; rfl
  · injection e with e; exact hbg' e.symm
  · exact (hyg.mono (fun k hk => by rw [hk]; exact hgH)).trans (hy.mono (fun k hk => by rw [hk]; exact h.hb))
theorem ActW.cells (h : ActW w H p b xb g j c CV KV AV most x l) :
    (w.cell? ⟨b, 0, none⟩ = some (.slice (some ⟨g, 0, none⟩) j c) ∧ w.frozen? ⟨b, 0, none⟩ = false) ∧ (w.cell? ⟨p, 1, none⟩ = some KV ∧ w.cell? ⟨p, 3, none⟩ = some (.int .i64 most) ∧ w.frozen? ⟨p, 3, none⟩ = false) ∧
    (w.cell? ⟨xb, 0, none⟩ = some (.int .i64 x.what) ∧ w.cell? ⟨xb, 1, none⟩ = some (.int .i64 x.arg) ∧ w.cell? ⟨xb, 2, none⟩ = some (.int .i64 x.val.type)) := by
  obtain ⟨-, k1, -, k3⟩ := box4 h.pb
  obtain ⟨x0, x1, x2, -, -⟩ := box5 h.xx
  exact ⟨⟨box1 h.bb, box_free h.bb⟩, ⟨k1, k3, box_free h.pb⟩, x0, x1, x2⟩
theorem ActW.done (h : ActW w H p b xb g j c CV KV AV most x l) (m : Nat) :
    (w.setCell ⟨p, 3, none⟩ (.int .i64 m)).heap[b]? = some (.cells #[.slice (some ⟨g, 0, none⟩) j c] 89 (0, 0)) ∧ (w.setCell ⟨p, 3, none⟩ (.int .i64 m)).ownsRow H 3 1 (.slice (some ⟨g, 0, none⟩) j c) j (intCells l) ∧
      (w.setCell ⟨p, 3, none⟩ (.int .i64 m)).heap[p]? = some (.cells #[CV, KV, AV, .int .i64 m] 92 (0, 0)) := by
  have hpb : b ≠ p := fun e => by have := h.lo; have := h.hb; omega
  have hgH : H ≤ g := (h.own.lt g rfl).1
  have hy : Only (fun k => k = p) w (w.setCell ⟨p, 3, none⟩ (.int .i64 m)) := (Only.refl (fun k => k = p) w).setCell (p := ⟨p, 3, none⟩) rfl _
  refine ⟨(hy.block b (box_lt h.bb) hpb).trans h.bb, own_other h.own (fun e => ?_), ?_⟩
  · injection e with e; have := h.lo; have e : g = p := e; omega
  · rw [box_set (i := 3) _ h.pb]; rfl
end
/-- What acting leaves. -/
def ActSays (H p b : Nat) (CV KV AV : Value) (most : Nat) (r : Int × List Int) (w : World) (e : Ending) (w' : World) : Prop :=
  e = .returned (errV r.1) ∧ Only (fun k => k = p ∨ H ≤ k) w w' ∧ (r.1 = 0 → ∃ g c, b ≠ g ∧ w'.heap[b]? = some (.cells #[.slice (some ⟨g, 0, none⟩) r.2.length c] 89 (0, 0)) ∧ w'.ownsRow H 3 1 (.slice (some ⟨g, 0, none⟩) r.2.length c) r.2.length (intCells r.2) ∧
    w'.heap[p]? = some (.cells #[CV, KV, AV, .int .i64 (max most r.2.length : Nat)] 92 (0, 0)))
end Go.Proofs.YthmbafkedgahaaaDoor
namespace Go.Proofs.YthmbafkedgahaaaDoor
open Go.ChangeShapes Go.WideShapes Go.ChangeAt Go.RowKit

/-- As an action finds it: m on the stack. -/
structure ActPre (w : World) (H p b g m c : Nat) (CV KV AV : Value) (most : Nat) (l : List Int) : Prop where
  pb : w.heap[p]? = some (.cells #[CV, KV, AV, .int .i64 most] 92 (0, 0))
  bb : w.heap[b]? = some (.cells #[.slice (some ⟨g, 0, none⟩) m c] 89 (0, 0))
  own : w.ownsRow H 3 1 (.slice (some ⟨g, 0, none⟩) m c) m (intCells l)
  bg : b ≠ g
  lo : p < H
  hb : H ≤ b
theorem ActPre.start {w : World} {H p b g m c : Nat} {CV KV AV : Value} {most : Nat} {l : List Int} (h : ActPre w H p b g m c CV KV AV most l) (x : Ins) : ActW (w.alloc (.cells #[.int .i64 x.what, .int .i64 x.arg, .int .i64 x.val.type, .int .i64 x.val.n, .string x.val.s] 39)) H p b w.heap.size g m c CV KV AV most x l := by
  have hb : Below w.heap.size w (w.alloc (.cells #[.int .i64 x.what, .int .i64 x.arg, .int .i64 x.val.type, .int .i64 x.val.n, .string x.val.s] 39)) := (Below.refl _ _).alloc (Nat.le_refl _) _
  have hgl := (h.own.lt g rfl).2
  have hbl := box_lt h.bb
  exact ⟨(hb.block p (box_lt h.pb)).trans h.pb, (hb.block b hbl).trans h.bb, heap_alloc_new w _, own_keep h.own hb, h.bg, by omega, by omega, h.lo, h.hb, by have := h.hb; omega⟩
theorem sees_ints {w : World} {B e g m c : Nat} {l : List Int} (h : w.ownsRow B e 1 (.slice (some ⟨g, 0, none⟩) m c) m (intCells l)) : Sees w (some ⟨g, 0, none⟩) m c 1 (intCells l) := by
  obtain ⟨A, c2, e, hs⟩ := Sees.of_own h
  injection e with e1 e2 e3
  subst e1 e3
  exact hs
theorem ActSays.ok {w wt w' : World} {H p b xb g j c : Nat} {CV KV AV : Value} {most : Nat} {x : Ins} {lt : List Int} {r : Int × List Int} {e : Ending} (h : ActW wt H p b xb g j c CV KV AV most x lt) (hy : Only (fun k => k = p ∨ H ≤ k) w wt) (E : r = (0, lt)) (he : e = .returned .nilIface)
    (hw' : ∃ q, w' = (wt.setCell ⟨p, 3, none⟩ (.int .i64 (max (most : Int) (j : Int)))).drewN q) : ActSays H p b CV KV AV most r w e w' := by
  obtain ⟨q, rfl⟩ := hw'
  subst E
  have hl := h.len
  have em : max (most : Int) (j : Int) = ((max most j : Nat) : Int) := by omega
  rw [em]
  obtain ⟨d1, d2, d3⟩ := h.done (max most j)
  refine ⟨he, (hy.setCell (p := ⟨p, 3, none⟩) (Or.inl rfl) _).drewN q, fun _ => ⟨g, c, h.bg, ?_, ?_, ?_⟩⟩
  · show _ = some (Obj.cells #[.slice (some ⟨g, 0, none⟩) lt.length c] 89 (0, 0))
    rw [hl]; exact d1
  · show World.ownsRow _ H 3 1 (.slice (some ⟨g, 0, none⟩) lt.length c) lt.length (intCells lt)
    rw [hl]; exact d2
  · show _ = some (Obj.cells #[CV, KV, AV, .int .i64 (max most lt.length : Nat)] 92 (0, 0))
    rw [hl]; exact d3
theorem ActSays.bad {w wt : World} {H p b : Nat} {CV KV AV : Value} {most : Nat} {r : Int × List Int} {e : Ending} {k : Int} {lt : List Int} (hy : Only (fun k => k = p ∨ H ≤ k) w wt) (E : r = (k, lt)) (he : e = .returned (errV k)) (hk : k ≠ 0) : ActSays H p b CV KV AV most r w e wt := by
  subst E
  exact ⟨he, hy, fun h => absurd h hk⟩
theorem intCells_app (l : List Int) (a : Int) : intCells l ++ (#[Value.int .i64 a] : Array Value).toList = intCells (l ++ [a]) := by simp [intCells]
theorem intCells_app2 (l : List Int) (a b : Int) : intCells l ++ (#[Value.int .i64 a, Value.int .i64 b] : Array Value).toList = intCells (l ++ [a, b]) := by simp [intCells]

end Go.Proofs.YthmbafkedgahaaaDoor
namespace Go.Proofs.YthmbafkedgahaaaDoor
open Go.ChangeShapes Go.WideShapes Go.ChangeAt Go.RowKit

set_option maxHeartbeats 4000000 in
set_option maxRecDepth 100000 in
theorem act_1 (H p b g j c nk ck most : Nat) (K : Option Addr) (CV AV : Value) (cols : List Col) (x : Ins) (l : List Int) (w : World) (h : ActPre w H p b g (j) c CV (.slice K nk ck) AV most l) (_hm : most ≤ 64) (_hj : j ≤ 64) (h1 : x.what = 1) :
    Calls Tryd.prog 109 #[.pointer (some ⟨p, 0, none⟩), insV x, .pointer (some ⟨b, 0, none⟩)] w (ActSays H p b CV (.slice K nk ck) AV most (actP cols x l) w) := by
  have hl : l.length = j := by have := (h.start x).len; exact this
  obtain ⟨w1, hw1⟩ : ∃ w1, w.alloc (.cells #[.int .i64 x.what, .int .i64 x.arg, .int .i64 x.val.type, .int .i64 x.val.n, .string x.val.s] 39) = w1 := ⟨_, rfl⟩
  have hb1 : Below w.heap.size w w1 := by rw [← hw1]; exact (Below.refl _ _).alloc (Nat.le_refl _) _
  have hA := h.start x
  rw [hw1] at hA
  obtain ⟨⟨b0, bf⟩, ⟨p1, p3, pf⟩, x0, x1, x2⟩ := hA.cells
  have hc1 := (sees_ints hA.own).2.1
  have hc2 := (sees_ints hA.own).2.2.1
  unfold maxLen at hc2
  have HW1 := Lib.hid hw1
  have HB1 := Lib.hid hb1
  have HA := Lib.hid hA
  have HH := Lib.hid (show H ≤ w.heap.size by have := h.hb; have := box_lt h.bb; omega)
  have HL := Lib.hid hl
  have h2 : x.what ≠ 2 := by omega
  have h3 : x.what ≠ 3 := by omega
  have h4 : x.what ≠ 4 := by omega
  have h5 : x.what ≠ 5 := by omega
  have h6 : x.what ≠ 6 := by omega
  have h7 : x.what ≠ 7 := by omega
  have e1 : (x.what == 1) = true := beq_iff_eq.2 h1
  have e2 : (x.what == 2) = false := beq_eq_false_iff_ne.2 h2
  have e3 : (x.what == 3) = false := beq_eq_false_iff_ne.2 h3
  have e4 : (x.what == 4) = false := beq_eq_false_iff_ne.2 h4
  have e5 : (x.what == 5) = false := beq_eq_false_iff_ne.2 h5
  have e6 : (x.what == 6) = false := beq_eq_false_iff_ne.2 h6
  have e7 : (x.what == 7) = false := beq_eq_false_iff_ne.2 h7
  have hneed : need x = 0 := by unfold need; rw [if_neg h3, if_neg (by omega)]
  have htk : (l.take j).length = j := by rw [List.length_take]; omega
  have hput : putTy cols x (l.drop j) = (0, [x.val.type]) := by unfold putTy; rw [if_pos h1]
  have E4 := Lib.hid (fun (h64 : 64 < j + 1) => show actP cols x l = (4, l) by
    unfold actP
    rw [hneed, if_neg (by omega), hl, show j - 0 = j from rfl, hput]
    rw [if_neg (by simp), if_pos (by rw [List.length_append, htk]; exact h64)])
  have E0 := Lib.hid (fun (h64 : ¬ 64 < j + 1) => show actP cols x l = (0, l.take j ++ [x.val.type]) by
    unfold actP
    rw [hneed, if_neg (by omega), hl, show j - 0 = j from rfl, hput]
    rw [if_neg (by simp), if_neg (by rw [List.length_append, htk]; exact h64)])
  clear hneed hput htk
  clear h hl hw1 hb1 hA h1 h2 h3 h4 h5 h6 h7
  unfold insV
  go_enter Tryd.func109, Tryd.ntmps109
  go_wp2_with (first | rw [HW1.out])
  refine (take_ok b g c j 0 l w1 HA.out.bb (sees_ints HA.out.own) (by decide)).mono ?_
  rintro e w2 ⟨⟨A', c', rfl, hs', hA'⟩, hw2⟩
  have HS2 := Lib.hid (show Sees w2 A' 0 c' 1 (intCells (l.drop j)) from by
    rw [hw2]
    refine (Only.sees ((Only.refl (fun k => k = b) _).setCell (p := ⟨b, 0, none⟩) rfl _) hs' (fun ad e => ?_))
    rw [hA' ad e]; exact fun e => HA.out.bg e.symm)
  have HA2 := Lib.hid (show ActW w2 H p b w.heap.size g j c CV (.slice K nk ck) AV most x (l.take j) from by rw [hw2]; exact ActW.took (j := j) (k := 0) HA.out)
  have HY2 := Lib.hid (show Only (fun k => k = p ∨ H ≤ k) w w2 from by rw [hw2]; exact ((Lib.hid (Only.of_below (S := fun k => k = p ∨ H ≤ k) HB1.out)).out).setCell (p := ⟨b, 0, none⟩) (Or.inr HA.out.hb) _)
  clear hs' hA' hw2 b0 bf p1 p3 pf x0 x1 x2
  obtain ⟨⟨b0, bf⟩, ⟨p1, p3, pf⟩, x0, x1, x2⟩ := HA2.out.cells
  have hbw2 := box_lt HA2.out.bb
  have hxw2 := box_lt HA2.out.xx
  have hpw2 := box_lt HA2.out.pb
  have M := Lib.hid (fun (w5 : World) (g' cap : Nat) (hown5 : w5.ownsRow H 3 1 (.slice (some ⟨g', 0, none⟩) (j + 1) cap) (j + 1) (intCells (l.take j) ++ (#[Value.int .i64 (x.val.type)] : Array Value).toList)) (hg5 : (w2.alloc (.cells #[Value.int .i64 (x.val.type)] 3)).drew.grownBy w5 (Value.slice (some ⟨g, 0, none⟩) j c).ownBlock) (hat5 : (Value.slice (some ⟨g, 0, none⟩) j c).ownBlock = some g' ∨ g' = w2.heap.size + 1) =>
    show ∃ w6, w5.setCell ⟨b, 0, none⟩ (.slice (some ⟨g', 0, none⟩) (j + 1) cap) = w6 ∧ ActW w6 H p b w.heap.size g' (j + 1) cap CV (.slice K nk ck) AV most x (l.take j ++ [x.val.type]) ∧ (∃ u, w5.cell? ⟨b, 0, none⟩ = some u) ∧ w5.frozen? ⟨b, 0, none⟩ = false ∧ Only (fun k => k = p ∨ H ≤ k) w w6 from by
      have hbw : Below w2.heap.size w2 (w2.alloc (.cells #[Value.int .i64 (x.val.type)] 3)).drew := ((Below.refl _ _).alloc (Nat.le_refl _) _).drew
      have hsz : (w2.alloc (.cells #[Value.int .i64 (x.val.type)] 3)).drew.heap.size = w2.heap.size + 1 := by show (World.alloc _ _).heap.size = _; simp
      obtain ⟨q1, q2, q3, q4⟩ := ActW.put (w := (w2.alloc (.cells #[Value.int .i64 (x.val.type)] 3)).drew) (HA2.out.keep hbw) hg5 (by rw [intCells_app] at hown5; exact hown5) (hat5.elim (fun e => Or.inl (by injection e)) (fun e => Or.inr (by rw [hsz]; omega)))
      exact ⟨_, rfl, q1, q2, q3, (HY2.out.trans (Only.of_below hbw)).trans (q4.mono fun k hk => Or.inr hk)⟩)
  have HCELL := Lib.hid (show ∀ u ∈ (#[Value.int .i64 (x.val.type)] : Array Value).toList, u.oneCell' = true by intro u hu; simp at hu; subst hu; rfl)
  have HSZ := Lib.hid (show H ≤ w2.heap.size by have := HY2.out.size; have := HH.out; omega)
  have HBYT := Lib.hid (show (j + 1) * 8 ≤ 140737488355328 by omega)
  go_wp2_with fail
  go_region_law (refine step_append_one stSlice rfl (.tmp 45) (.tmp 49) rfl (by simp [Act.eval]) (by simp [Act.eval]; rfl) HA2.out.own HSZ.out rfl HCELL.out HBYT.out ?_; intro g' cap w5 hown5 hg5 hat5; obtain ⟨w6, hw6, ha6, ⟨cu, hcu⟩, hfz, hy6⟩ := M.out w5 g' cap hown5 hg5 hat5; have HW6 := Lib.hid hw6; have HA6 := Lib.hid ha6; have HY6 := Lib.hid hy6; clear hown5 hg5 hat5 hw6 ha6 hy6)
  all_goals
    rw [HW6.out]
    clear hcu hfz b0 bf p1 p3 pf x0 x1 x2
    obtain ⟨⟨b0, bf⟩, ⟨p1, p3, pf⟩, x0, x1, x2⟩ := HA6.out.cells
    by_cases h64 : 64 < j + 1
    · have d64 : decide (64 < (j : Int) + 1) = true := decide_eq_true (by omega)
      have E := Lib.hid (E4.out h64)
      clear h64
      go_wp2_with fail
      go_ret
      exact ActSays.bad HY6.out E.out rfl (by decide)
    · have d64 : decide (64 < (j : Int) + 1) = false := decide_eq_false (by omega)
      have E := Lib.hid (E0.out h64)
      clear h64
      go_wp2_with fail
      go_region_law (fail)
      all_goals
        go_wp2_with fail
        go_ret
        exact ActSays.ok HA6.out HY6.out E.out rfl ⟨1, rfl⟩
set_option maxHeartbeats 4000000 in
set_option maxRecDepth 100000 in
theorem act_4 (H p b g j c nk ck most : Nat) (K : Option Addr) (CV AV : Value) (cols : List Col) (x : Ins) (l : List Int) (w : World) (h : ActPre w H p b g (j) c CV (.slice K nk ck) AV most l) (_hm : most ≤ 64) (_hj : j ≤ 64) (h4 : x.what = 4) :
    Calls Tryd.prog 109 #[.pointer (some ⟨p, 0, none⟩), insV x, .pointer (some ⟨b, 0, none⟩)] w (ActSays H p b CV (.slice K nk ck) AV most (actP cols x l) w) := by
  have hl : l.length = j := by have := (h.start x).len; exact this
  obtain ⟨w1, hw1⟩ : ∃ w1, w.alloc (.cells #[.int .i64 x.what, .int .i64 x.arg, .int .i64 x.val.type, .int .i64 x.val.n, .string x.val.s] 39) = w1 := ⟨_, rfl⟩
  have hb1 : Below w.heap.size w w1 := by rw [← hw1]; exact (Below.refl _ _).alloc (Nat.le_refl _) _
  have hA := h.start x
  rw [hw1] at hA
  obtain ⟨⟨b0, bf⟩, ⟨p1, p3, pf⟩, x0, x1, x2⟩ := hA.cells
  have hc1 := (sees_ints hA.own).2.1
  have hc2 := (sees_ints hA.own).2.2.1
  unfold maxLen at hc2
  have HW1 := Lib.hid hw1
  have HB1 := Lib.hid hb1
  have HA := Lib.hid hA
  have HH := Lib.hid (show H ≤ w.heap.size by have := h.hb; have := box_lt h.bb; omega)
  have HL := Lib.hid hl
  have h1 : x.what ≠ 1 := by omega
  have h2 : x.what ≠ 2 := by omega
  have h3 : x.what ≠ 3 := by omega
  have h5 : x.what ≠ 5 := by omega
  have h6 : x.what ≠ 6 := by omega
  have h7 : x.what ≠ 7 := by omega
  have e1 : (x.what == 1) = false := beq_eq_false_iff_ne.2 h1
  have e2 : (x.what == 2) = false := beq_eq_false_iff_ne.2 h2
  have e3 : (x.what == 3) = false := beq_eq_false_iff_ne.2 h3
  have e4 : (x.what == 4) = true := beq_iff_eq.2 h4
  have e5 : (x.what == 5) = false := beq_eq_false_iff_ne.2 h5
  have e6 : (x.what == 6) = false := beq_eq_false_iff_ne.2 h6
  have e7 : (x.what == 7) = false := beq_eq_false_iff_ne.2 h7
  have hneed : need x = 0 := by unfold need; rw [if_neg h3, if_neg (by omega)]
  have htk : (l.take j).length = j := by rw [List.length_take]; omega
  have hput : putTy cols x (l.drop j) = (0, []) := by unfold putTy; rw [if_neg h1, if_neg h2, if_neg h3, if_neg h5, if_neg h6]
  have E := Lib.hid (show actP cols x l = (0, l.take j) by
    unfold actP
    rw [hneed, if_neg (by omega), hl, show j - 0 = j from rfl, hput]
    rw [if_neg (by simp), List.append_nil, if_neg (by omega)])
  have d64 : decide (64 < (j : Int)) = false := decide_eq_false (by omega)
  clear hneed hput htk
  clear h hl hw1 hb1 hA h1 h2 h3 h4 h5 h6 h7
  unfold insV
  go_enter Tryd.func109, Tryd.ntmps109
  go_wp2_with (first | rw [HW1.out])
  refine (take_ok b g c j 0 l w1 HA.out.bb (sees_ints HA.out.own) (by decide)).mono ?_
  rintro e w2 ⟨⟨A', c', rfl, hs', hA'⟩, hw2⟩
  have HS2 := Lib.hid (show Sees w2 A' 0 c' 1 (intCells (l.drop j)) from by
    rw [hw2]
    refine (Only.sees ((Only.refl (fun k => k = b) _).setCell (p := ⟨b, 0, none⟩) rfl _) hs' (fun ad e => ?_))
    rw [hA' ad e]; exact fun e => HA.out.bg e.symm)
  have HA2 := Lib.hid (show ActW w2 H p b w.heap.size g j c CV (.slice K nk ck) AV most x (l.take j) from by rw [hw2]; exact ActW.took (j := j) (k := 0) HA.out)
  have HY2 := Lib.hid (show Only (fun k => k = p ∨ H ≤ k) w w2 from by rw [hw2]; exact ((Lib.hid (Only.of_below (S := fun k => k = p ∨ H ≤ k) HB1.out)).out).setCell (p := ⟨b, 0, none⟩) (Or.inr HA.out.hb) _)
  clear hs' hA' hw2 b0 bf p1 p3 pf x0 x1 x2
  obtain ⟨⟨b0, bf⟩, ⟨p1, p3, pf⟩, x0, x1, x2⟩ := HA2.out.cells
  have hbw2 := box_lt HA2.out.bb
  have hxw2 := box_lt HA2.out.xx
  have hpw2 := box_lt HA2.out.pb
  go_wp2_with fail
  go_region_law (fail)
  all_goals
    go_wp2_with fail
    go_ret
    exact ActSays.ok HA2.out HY2.out E.out rfl ⟨1, rfl⟩
set_option maxHeartbeats 4000000 in
set_option maxRecDepth 100000 in
theorem act_7 (H p b g j c nk ck most : Nat) (K : Option Addr) (CV AV : Value) (cols : List Col) (x : Ins) (l : List Int) (w : World) (h : ActPre w H p b g (j + 1) c CV (.slice K nk ck) AV most l) (_hm : most ≤ 64) (_hj : j ≤ 64) (h7 : x.what = 7) :
    Calls Tryd.prog 109 #[.pointer (some ⟨p, 0, none⟩), insV x, .pointer (some ⟨b, 0, none⟩)] w (ActSays H p b CV (.slice K nk ck) AV most (actP cols x l) w) := by
  have hl : l.length = j + 1 := by have := (h.start x).len; exact this
  obtain ⟨w1, hw1⟩ : ∃ w1, w.alloc (.cells #[.int .i64 x.what, .int .i64 x.arg, .int .i64 x.val.type, .int .i64 x.val.n, .string x.val.s] 39) = w1 := ⟨_, rfl⟩
  have hb1 : Below w.heap.size w w1 := by rw [← hw1]; exact (Below.refl _ _).alloc (Nat.le_refl _) _
  have hA := h.start x
  rw [hw1] at hA
  obtain ⟨⟨b0, bf⟩, ⟨p1, p3, pf⟩, x0, x1, x2⟩ := hA.cells
  have hc1 := (sees_ints hA.own).2.1
  have hc2 := (sees_ints hA.own).2.2.1
  unfold maxLen at hc2
  have HW1 := Lib.hid hw1
  have HB1 := Lib.hid hb1
  have HA := Lib.hid hA
  have HH := Lib.hid (show H ≤ w.heap.size by have := h.hb; have := box_lt h.bb; omega)
  have HL := Lib.hid hl
  have h1 : x.what ≠ 1 := by omega
  have h2 : x.what ≠ 2 := by omega
  have h3 : x.what ≠ 3 := by omega
  have h4 : x.what ≠ 4 := by omega
  have h5 : x.what ≠ 5 := by omega
  have h6 : x.what ≠ 6 := by omega
  have e1 : (x.what == 1) = false := beq_eq_false_iff_ne.2 h1
  have e2 : (x.what == 2) = false := beq_eq_false_iff_ne.2 h2
  have e3 : (x.what == 3) = false := beq_eq_false_iff_ne.2 h3
  have e4 : (x.what == 4) = false := beq_eq_false_iff_ne.2 h4
  have e5 : (x.what == 5) = false := beq_eq_false_iff_ne.2 h5
  have e6 : (x.what == 6) = false := beq_eq_false_iff_ne.2 h6
  have e7 : (x.what == 7) = true := beq_iff_eq.2 h7
  have hneed : need x = 1 := by unfold need; rw [if_neg h3, if_pos (by omega)]
  have htk : (l.take j).length = j := by rw [List.length_take]; omega
  have hput : putTy cols x (l.drop j) = (0, []) := by unfold putTy; rw [if_neg h1, if_neg h2, if_neg h3, if_neg h5, if_neg h6]
  have E := Lib.hid (show actP cols x l = (0, l.take j) by
    unfold actP
    rw [hneed, if_neg (by omega), hl, show j + 1 - 1 = j by omega, hput]
    rw [if_neg (by simp), List.append_nil, if_neg (by omega)])
  have d64 : decide (64 < (j : Int)) = false := decide_eq_false (by omega)
  clear hneed hput htk
  clear h hl hw1 hb1 hA h1 h2 h3 h4 h5 h6 h7
  unfold insV
  go_enter Tryd.func109, Tryd.ntmps109
  go_wp2_with (first | rw [HW1.out])
  refine (take_ok b g c j 1 l w1 HA.out.bb (sees_ints HA.out.own) (by decide)).mono ?_
  rintro e w2 ⟨⟨A', c', rfl, hs', hA'⟩, hw2⟩
  have HS2 := Lib.hid (show Sees w2 A' 1 c' 1 (intCells (l.drop j)) from by
    rw [hw2]
    refine (Only.sees ((Only.refl (fun k => k = b) _).setCell (p := ⟨b, 0, none⟩) rfl _) hs' (fun ad e => ?_))
    rw [hA' ad e]; exact fun e => HA.out.bg e.symm)
  have HA2 := Lib.hid (show ActW w2 H p b w.heap.size g j c CV (.slice K nk ck) AV most x (l.take j) from by rw [hw2]; exact ActW.took (j := j) (k := 1) HA.out)
  have HY2 := Lib.hid (show Only (fun k => k = p ∨ H ≤ k) w w2 from by rw [hw2]; exact ((Lib.hid (Only.of_below (S := fun k => k = p ∨ H ≤ k) HB1.out)).out).setCell (p := ⟨b, 0, none⟩) (Or.inr HA.out.hb) _)
  clear hs' hA' hw2 b0 bf p1 p3 pf x0 x1 x2
  obtain ⟨⟨b0, bf⟩, ⟨p1, p3, pf⟩, x0, x1, x2⟩ := HA2.out.cells
  have hbw2 := box_lt HA2.out.bb
  have hxw2 := box_lt HA2.out.xx
  have hpw2 := box_lt HA2.out.pb
  go_wp2_with fail
  go_region_law (fail)
  all_goals
    go_wp2_with fail
    go_ret
    exact ActSays.ok HA2.out HY2.out E.out rfl ⟨1, rfl⟩
end Go.Proofs.YthmbafkedgahaaaDoor
namespace Go.Proofs.YthmbafkedgahaaaDoor
open Go.ChangeShapes Go.WideShapes Go.ChangeAt Go.RowKit

set_option maxHeartbeats 4000000 in
set_option maxRecDepth 100000 in
theorem act_2 (H p b g j c nk ck most : Nat) (K : Option Addr) (CV AV : Value) (cols : List Col) (x : Ins) (l : List Int) (w : World) (h : ActPre w H p b g (j) c CV (.slice K nk ck) AV most l) (_hm : most ≤ 64) (_hj : j ≤ 64) (h2 : x.what = 2) (ha : 0 ≤ x.arg ∧ x.arg < nk) (hK : ∀ w', Only (fun k => k = p ∨ H ≤ k) w w' → SeesCols w' K nk ck cols) :
    Calls Tryd.prog 109 #[.pointer (some ⟨p, 0, none⟩), insV x, .pointer (some ⟨b, 0, none⟩)] w (ActSays H p b CV (.slice K nk ck) AV most (actP cols x l) w) := by
  have hl : l.length = j := by have := (h.start x).len; exact this
  obtain ⟨w1, hw1⟩ : ∃ w1, w.alloc (.cells #[.int .i64 x.what, .int .i64 x.arg, .int .i64 x.val.type, .int .i64 x.val.n, .string x.val.s] 39) = w1 := ⟨_, rfl⟩
  have hb1 : Below w.heap.size w w1 := by rw [← hw1]; exact (Below.refl _ _).alloc (Nat.le_refl _) _
  have hA := h.start x
  rw [hw1] at hA
  obtain ⟨⟨b0, bf⟩, ⟨p1, p3, pf⟩, x0, x1, x2⟩ := hA.cells
  have hc1 := (sees_ints hA.own).2.1
  have hc2 := (sees_ints hA.own).2.2.1
  unfold maxLen at hc2
  have HW1 := Lib.hid hw1
  have HB1 := Lib.hid hb1
  have HA := Lib.hid hA
  have HH := Lib.hid (show H ≤ w.heap.size by have := h.hb; have := box_lt h.bb; omega)
  have HL := Lib.hid hl
  have h1 : x.what ≠ 1 := by omega
  have h3 : x.what ≠ 3 := by omega
  have h4 : x.what ≠ 4 := by omega
  have h5 : x.what ≠ 5 := by omega
  have h6 : x.what ≠ 6 := by omega
  have h7 : x.what ≠ 7 := by omega
  have e1 : (x.what == 1) = false := beq_eq_false_iff_ne.2 h1
  have e2 : (x.what == 2) = true := beq_iff_eq.2 h2
  have e3 : (x.what == 3) = false := beq_eq_false_iff_ne.2 h3
  have e4 : (x.what == 4) = false := beq_eq_false_iff_ne.2 h4
  have e5 : (x.what == 5) = false := beq_eq_false_iff_ne.2 h5
  have e6 : (x.what == 6) = false := beq_eq_false_iff_ne.2 h6
  have e7 : (x.what == 7) = false := beq_eq_false_iff_ne.2 h7
  have hneed : need x = 0 := by unfold need; rw [if_neg h3, if_neg (by omega)]
  have htk : (l.take j).length = j := by rw [List.length_take]; omega
  obtain ⟨a, ea⟩ : ∃ a : Nat, x.arg = a := ⟨x.arg.toNat, by omega⟩
  have hank : a < nk := by omega
  have hank2 : (a : Int) < nk := by omega
  have hkk := hK w (Only.refl _ _)
  have hkc := hkk.2.2.1
  have hkm := hkk.2.2.2.1
  unfold maxLen at hkm
  obtain ⟨gk, ok, col, rfl, hgk, hcol, -, -⟩ := hkk.at_ hank
  have HKC := Lib.hid (fun (w' : World) (hy : Only (fun k => k = p ∨ H ≤ k) w w') => show w'.cell? ⟨gk, ok + a * 2 + 1, none⟩ = some (.int .i64 col.type) by
    obtain ⟨gk', ok', col', e, -, hcol', -, hc⟩ := (hK w' hy).at_ hank
    injection e with e
    injection e with e1 e2
    subst e1 e2
    obtain rfl : col = col' := by rw [hcol] at hcol'; injection hcol'
    exact hc)
  have hput : putTy cols x (l.drop j) = (0, [col.type]) := by
    unfold putTy
    rw [if_neg h1, if_pos h2, ea, Int.toNat_natCast, List.getD_eq_getElem?_getD, hcol]
    rfl
  have E4 := Lib.hid (fun (h64 : 64 < j + 1) => show actP cols x l = (4, l) by
    unfold actP
    rw [hneed, if_neg (by omega), hl, show j - 0 = j from rfl, hput]
    rw [if_neg (by simp), if_pos (by rw [List.length_append, htk]; exact h64)])
  have E0 := Lib.hid (fun (h64 : ¬ 64 < j + 1) => show actP cols x l = (0, l.take j ++ [col.type]) by
    unfold actP
    rw [hneed, if_neg (by omega), hl, show j - 0 = j from rfl, hput]
    rw [if_neg (by simp), if_neg (by rw [List.length_append, htk]; exact h64)])
  have HEA := Lib.hid ea
  clear hneed hput htk hK ha hkk ea hcol
  clear h hl hw1 hb1 hA h1 h2 h3 h4 h5 h6 h7
  unfold insV
  go_enter Tryd.func109, Tryd.ntmps109
  go_wp2_with (first | rw [HW1.out])
  refine (take_ok b g c j 0 l w1 HA.out.bb (sees_ints HA.out.own) (by decide)).mono ?_
  rintro e w2 ⟨⟨A', c', rfl, hs', hA'⟩, hw2⟩
  have HS2 := Lib.hid (show Sees w2 A' 0 c' 1 (intCells (l.drop j)) from by
    rw [hw2]
    refine (Only.sees ((Only.refl (fun k => k = b) _).setCell (p := ⟨b, 0, none⟩) rfl _) hs' (fun ad e => ?_))
    rw [hA' ad e]; exact fun e => HA.out.bg e.symm)
  have HA2 := Lib.hid (show ActW w2 H p b w.heap.size g j c CV (.slice (some ⟨gk, ok, none⟩) nk ck) AV most x (l.take j) from by rw [hw2]; exact ActW.took (j := j) (k := 0) HA.out)
  have HY2 := Lib.hid (show Only (fun k => k = p ∨ H ≤ k) w w2 from by rw [hw2]; exact ((Lib.hid (Only.of_below (S := fun k => k = p ∨ H ≤ k) HB1.out)).out).setCell (p := ⟨b, 0, none⟩) (Or.inr HA.out.hb) _)
  clear hs' hA' hw2 b0 bf p1 p3 pf x0 x1 x2
  obtain ⟨⟨b0, bf⟩, ⟨p1, p3, pf⟩, x0, x1, x2⟩ := HA2.out.cells
  have hbw2 := box_lt HA2.out.bb
  have hxw2 := box_lt HA2.out.xx
  have hpw2 := box_lt HA2.out.pb
  have k1 := HKC.out w2 HY2.out
  rw [HEA.out] at x1
  have M := Lib.hid (fun (w5 : World) (g' cap : Nat) (hown5 : w5.ownsRow H 3 1 (.slice (some ⟨g', 0, none⟩) (j + 1) cap) (j + 1) (intCells (l.take j) ++ (#[Value.int .i64 (col.type)] : Array Value).toList)) (hg5 : (w2.alloc (.cells #[Value.int .i64 (col.type)] 3)).drew.grownBy w5 (Value.slice (some ⟨g, 0, none⟩) j c).ownBlock) (hat5 : (Value.slice (some ⟨g, 0, none⟩) j c).ownBlock = some g' ∨ g' = w2.heap.size + 1) =>
    show ∃ w6, w5.setCell ⟨b, 0, none⟩ (.slice (some ⟨g', 0, none⟩) (j + 1) cap) = w6 ∧ ActW w6 H p b w.heap.size g' (j + 1) cap CV (.slice (some ⟨gk, ok, none⟩) nk ck) AV most x (l.take j ++ [col.type]) ∧ (∃ u, w5.cell? ⟨b, 0, none⟩ = some u) ∧ w5.frozen? ⟨b, 0, none⟩ = false ∧ Only (fun k => k = p ∨ H ≤ k) w w6 from by
      have hbw : Below w2.heap.size w2 (w2.alloc (.cells #[Value.int .i64 (col.type)] 3)).drew := ((Below.refl _ _).alloc (Nat.le_refl _) _).drew
      have hsz : (w2.alloc (.cells #[Value.int .i64 (col.type)] 3)).drew.heap.size = w2.heap.size + 1 := by show (World.alloc _ _).heap.size = _; simp
      obtain ⟨q1, q2, q3, q4⟩ := ActW.put (w := (w2.alloc (.cells #[Value.int .i64 (col.type)] 3)).drew) (HA2.out.keep hbw) hg5 (by rw [intCells_app] at hown5; exact hown5) (hat5.elim (fun e => Or.inl (by injection e)) (fun e => Or.inr (by rw [hsz]; omega)))
      exact ⟨_, rfl, q1, q2, q3, (HY2.out.trans (Only.of_below hbw)).trans (q4.mono fun k hk => Or.inr hk)⟩)
  have HCELL := Lib.hid (show ∀ u ∈ (#[Value.int .i64 (col.type)] : Array Value).toList, u.oneCell' = true by intro u hu; simp at hu; subst hu; rfl)
  have HSZ := Lib.hid (show H ≤ w2.heap.size by have := HY2.out.size; have := HH.out; omega)
  have HBYT := Lib.hid (show (j + 1) * 8 ≤ 140737488355328 by omega)
  go_wp2_with fail
  go_region_law (refine step_append_one stSlice rfl (.tmp 57) (.tmp 67) rfl (by simp [Act.eval]) (by simp [Act.eval]; rfl) HA2.out.own HSZ.out rfl HCELL.out HBYT.out ?_; intro g' cap w5 hown5 hg5 hat5; obtain ⟨w6, hw6, ha6, ⟨cu, hcu⟩, hfz, hy6⟩ := M.out w5 g' cap hown5 hg5 hat5; have HW6 := Lib.hid hw6; have HA6 := Lib.hid ha6; have HY6 := Lib.hid hy6; clear hown5 hg5 hat5 hw6 ha6 hy6)
  all_goals
    rw [HW6.out]
    clear k1 hcu hfz b0 bf p1 p3 pf x0 x1 x2
    obtain ⟨⟨b0, bf⟩, ⟨p1, p3, pf⟩, x0, x1, x2⟩ := HA6.out.cells
    by_cases h64 : 64 < j + 1
    · have d64 : decide (64 < (j : Int) + 1) = true := decide_eq_true (by omega)
      have E := Lib.hid (E4.out h64)
      clear h64
      go_wp2_with fail
      go_ret
      exact ActSays.bad HY6.out E.out rfl (by decide)
    · have d64 : decide (64 < (j : Int) + 1) = false := decide_eq_false (by omega)
      have E := Lib.hid (E0.out h64)
      clear h64
      go_wp2_with fail
      go_region_law (fail)
      all_goals
        go_wp2_with fail
        go_ret
        exact ActSays.ok HA6.out HY6.out E.out rfl ⟨1, rfl⟩
end Go.Proofs.YthmbafkedgahaaaDoor
namespace Go.Proofs.YthmbafkedgahaaaDoor
open Go.ChangeShapes Go.WideShapes Go.ChangeAt Go.RowKit

set_option maxHeartbeats 4000000 in
set_option maxRecDepth 100000 in
theorem act_3 (H p b g j k c nk ck most : Nat) (K : Option Addr) (CV AV : Value) (cols : List Col) (x : Ins) (l : List Int) (w : World) (h : ActPre w H p b g (j + k) c CV (.slice K nk ck) AV most l) (_hm : most ≤ 64) (_hj : j ≤ 64) (h3 : x.what = 3) (hk : k ≤ 1000) (ho : opErr x.arg = 0) (hk2 : arityOf (opNm x.arg) = k) (hO : ∀ w', Only (fun k => k = p ∨ H ≤ k) w w' → OpsT w') (hT : ∀ w', Only (fun k => k = p ∨ H ≤ k) w w' → LevelsT w') :
    Calls Tryd.prog 109 #[.pointer (some ⟨p, 0, none⟩), insV x, .pointer (some ⟨b, 0, none⟩)] w (ActSays H p b CV (.slice K nk ck) AV most (actP cols x l) w) := by
  have hl : l.length = j + k := by have := (h.start x).len; exact this
  obtain ⟨w1, hw1⟩ : ∃ w1, w.alloc (.cells #[.int .i64 x.what, .int .i64 x.arg, .int .i64 x.val.type, .int .i64 x.val.n, .string x.val.s] 39) = w1 := ⟨_, rfl⟩
  have hb1 : Below w.heap.size w w1 := by rw [← hw1]; exact (Below.refl _ _).alloc (Nat.le_refl _) _
  have hA := h.start x
  rw [hw1] at hA
  obtain ⟨⟨b0, bf⟩, ⟨p1, p3, pf⟩, x0, x1, x2⟩ := hA.cells
  have hc1 := (sees_ints hA.own).2.1
  have hc2 := (sees_ints hA.own).2.2.1
  unfold maxLen at hc2
  have HW1 := Lib.hid hw1
  have HB1 := Lib.hid hb1
  have HA := Lib.hid hA
  have HH := Lib.hid (show H ≤ w.heap.size by have := h.hb; have := box_lt h.bb; omega)
  have HL := Lib.hid hl
  have h1 : x.what ≠ 1 := by omega
  have h2 : x.what ≠ 2 := by omega
  have h4 : x.what ≠ 4 := by omega
  have h5 : x.what ≠ 5 := by omega
  have h6 : x.what ≠ 6 := by omega
  have h7 : x.what ≠ 7 := by omega
  have e1 : (x.what == 1) = false := beq_eq_false_iff_ne.2 h1
  have e2 : (x.what == 2) = false := beq_eq_false_iff_ne.2 h2
  have e3 : (x.what == 3) = true := beq_iff_eq.2 h3
  have e4 : (x.what == 4) = false := beq_eq_false_iff_ne.2 h4
  have e5 : (x.what == 5) = false := beq_eq_false_iff_ne.2 h5
  have e6 : (x.what == 6) = false := beq_eq_false_iff_ne.2 h6
  have e7 : (x.what == 7) = false := beq_eq_false_iff_ne.2 h7
  have htk : (l.take j).length = j := by rw [List.length_take]; omega
  have hneed : need x = k := by unfold need; rw [if_pos h3, hk2, Int.toNat_natCast]
  obtain ⟨s, hs⟩ : ∃ s, opNm x.arg = s := ⟨_, rfl⟩
  have TO := Lib.hid (fun w' hy => op_any x.arg w' (hO w' hy))
  rw [hs, ho, errV_zero] at TO
  rw [hs] at hk2
  have TA := Lib.hid (fun w' hy => arity_any s w' (hT w' hy))
  rw [hk2] at TA
  have hput0 : putTy cols x (l.drop j) = (if ruleErr s (l.drop j) ≠ 0 then (8, []) else (0, [ruleTy s (l.drop j)])) := by unfold putTy; rw [if_neg h1, if_neg h2, if_pos h3, hs]
  have E8 := Lib.hid (fun (hr : ¬ ruleErr s (l.drop j) = 0) => show actP cols x l = (8, l) by
    unfold actP
    rw [hneed, if_neg (by omega), hl, show j + k - k = j by omega, hput0, if_pos hr, if_pos (by decide)])
  have hput1 : ruleErr s (l.drop j) = 0 → putTy cols x (l.drop j) = (0, [ruleTy s (l.drop j)]) := fun hr => by rw [hput0, if_neg (fun h => h hr)]
  have E4' := Lib.hid (fun (hr : ruleErr s (l.drop j) = 0) (h64 : 64 < j + 1) => show actP cols x l = (4, l) by
    unfold actP
    rw [hneed, if_neg (by omega), hl, show j + k - k = j by omega, hput1 hr, if_neg (by simp), if_pos (by rw [List.length_append, htk]; exact h64)])
  have E0' := Lib.hid (fun (hr : ruleErr s (l.drop j) = 0) (h64 : ¬ 64 < j + 1) => show actP cols x l = (0, l.take j ++ [ruleTy s (l.drop j)]) by
    unfold actP
    rw [hneed, if_neg (by omega), hl, show j + k - k = j by omega, hput1 hr, if_neg (by simp), if_neg (by rw [List.length_append, htk]; exact h64)])
  have HO := Lib.hid hO
  have HT := Lib.hid hT
  clear hneed hput0 hput1 htk ho hk2 hs hO hT
  clear h hl hw1 hb1 hA h1 h2 h3 h4 h5 h6 h7
  unfold insV
  go_enter Tryd.func109, Tryd.ntmps109
  go_wp2_with (first | rw [HW1.out])
  refine (TO.out w1 (Only.of_below HB1.out)).mono ?_
  rintro e wa ⟨rfl, hb⟩
  have HBA := Lib.hid (below_step HB1.out hb)
  have HAA := Lib.hid (HA.out.keep hb)
  clear hb b0 bf p1 p3 pf x0 x1 x2
  obtain ⟨⟨b0, bf⟩, ⟨p1, p3, pf⟩, x0, x1, x2⟩ := HAA.out.cells
  go_wp2_with fail
  refine (TA.out wa (Only.of_below HBA.out)).mono ?_
  rintro e wb ⟨rfl, rfl⟩
  go_wp2_with fail
  refine (take_ok b g c j k l wa HAA.out.bb (sees_ints HAA.out.own) hk).mono ?_
  rintro e w2 ⟨⟨A', c', rfl, hs', hA'⟩, hw2⟩
  have HS2 := Lib.hid (show Sees w2 A' k c' 1 (intCells (l.drop j)) from by
    rw [hw2]
    refine (Only.sees ((Only.refl (fun k => k = b) _).setCell (p := ⟨b, 0, none⟩) rfl _) hs' (fun ad e => ?_))
    rw [hA' ad e]; exact fun e => HAA.out.bg e.symm)
  have HA2 := Lib.hid (show ActW w2 H p b w.heap.size g j c CV (.slice K nk ck) AV most x (l.take j) from by rw [hw2]; exact ActW.took (j := j) (k := k) HAA.out)
  have HY2 := Lib.hid (show Only (fun k => k = p ∨ H ≤ k) w w2 from by rw [hw2]; exact ((Lib.hid (Only.of_below (S := fun k => k = p ∨ H ≤ k) HBA.out)).out).setCell (p := ⟨b, 0, none⟩) (Or.inr HAA.out.hb) _)
  clear hs' hA' hw2 b0 bf p1 p3 pf x0 x1 x2
  obtain ⟨⟨b0, bf⟩, ⟨p1, p3, pf⟩, x0, x1, x2⟩ := HA2.out.cells
  have hbw2 := box_lt HA2.out.bb
  have hxw2 := box_lt HA2.out.xx
  have hpw2 := box_lt HA2.out.pb
  have TR := Lib.hid (rule_any s (l.drop j) A' k c' w2 (HO.out w2 HY2.out) (HT.out w2 HY2.out) HS2.out)
  generalize ruleErr s (l.drop j) = re at E8 E4' E0' TR
  generalize ruleTy s (l.drop j) = rt at E4' E0' TR
  go_wp2_with fail
  refine (TR.out).mono ?_
  rintro e w3 ⟨rfl, hb3⟩
  have HA3 := Lib.hid (HA2.out.keep hb3)
  have HY3 := Lib.hid (HY2.out.trans (Only.of_below hb3))
  clear hb3 b0 bf p1 p3 pf x0 x1 x2 hbw2 hxw2 hpw2
  obtain ⟨⟨b0, bf⟩, ⟨p1, p3, pf⟩, x0, x1, x2⟩ := HA3.out.cells
  have hbw3 := box_lt HA3.out.bb
  by_cases hre : re = 0
  · subst hre
    rw [errV_zero]
    have E4 := Lib.hid (E4'.out rfl)
    have E0 := Lib.hid (E0'.out rfl)
    clear E4' E0' E8
    have M := Lib.hid (fun (w5 : World) (g' cap : Nat) (hown5 : w5.ownsRow H 3 1 (.slice (some ⟨g', 0, none⟩) (j + 1) cap) (j + 1) (intCells (l.take j) ++ (#[Value.int .i64 (rt)] : Array Value).toList)) (hg5 : (w3.alloc (.cells #[Value.int .i64 (rt)] 3)).grownBy w5 (Value.slice (some ⟨g, 0, none⟩) j c).ownBlock) (hat5 : (Value.slice (some ⟨g, 0, none⟩) j c).ownBlock = some g' ∨ g' = w3.heap.size + 1) =>
      show ∃ w6, w5.setCell ⟨b, 0, none⟩ (.slice (some ⟨g', 0, none⟩) (j + 1) cap) = w6 ∧ ActW w6 H p b w.heap.size g' (j + 1) cap CV (.slice K nk ck) AV most x (l.take j ++ [rt]) ∧ (∃ u, w5.cell? ⟨b, 0, none⟩ = some u) ∧ w5.frozen? ⟨b, 0, none⟩ = false ∧ Only (fun k => k = p ∨ H ≤ k) w w6 from by
        have hbw : Below w3.heap.size w3 (w3.alloc (.cells #[Value.int .i64 (rt)] 3)) := ((Below.refl _ _).alloc (Nat.le_refl _) _)
        have hsz : (w3.alloc (.cells #[Value.int .i64 (rt)] 3)).heap.size = w3.heap.size + 1 := by simp
        obtain ⟨q1, q2, q3, q4⟩ := ActW.put (w := (w3.alloc (.cells #[Value.int .i64 (rt)] 3))) (HA3.out.keep hbw) hg5 (by rw [intCells_app] at hown5; exact hown5) (hat5.elim (fun e => Or.inl (by injection e)) (fun e => Or.inr (by rw [hsz]; omega)))
        exact ⟨_, rfl, q1, q2, q3, (HY3.out.trans (Only.of_below hbw)).trans (q4.mono fun k hk => Or.inr hk)⟩)
    have HCELL := Lib.hid (show ∀ u ∈ (#[Value.int .i64 (rt)] : Array Value).toList, u.oneCell' = true by intro u hu; simp at hu; subst hu; rfl)
    have HSZ := Lib.hid (show H ≤ w3.heap.size by have := HY3.out.size; have := HH.out; omega)
    have HBYT := Lib.hid (show (j + 1) * 8 ≤ 140737488355328 by omega)
    by_cases h64 : 64 < j + 1
    · have d64 : decide (64 < (j : Int) + 1) = true := decide_eq_true (by omega)
      have E := Lib.hid (E4.out h64)
      clear h64 E4 E0
      go_wp2_with (first | rw [HW6.out] | (at_builtin; refine list_append_one stSlice rfl _ _ rfl rfl rfl HA3.out.own HSZ.out rfl HCELL.out HBYT.out ?_; intro g' cap w5 hown5 hg5 hat5; obtain ⟨w6, hw6, ha6, ⟨cu, hcu⟩, hfz, hy6⟩ := M.out w5 g' cap hown5 hg5 hat5; have HW6 := Lib.hid hw6; have HA6 := Lib.hid ha6; have HY6 := Lib.hid hy6; clear hown5 hg5 hat5 hw6 ha6 hy6; clear b0 bf p1 p3 pf x0 x1 x2; obtain ⟨⟨b0, bf⟩, ⟨p1, p3, pf⟩, x0, x1, x2⟩ := HA6.out.cells))
      go_ret
      exact ActSays.bad HY6.out E.out rfl (by decide)
    · have d64 : decide (64 < (j : Int) + 1) = false := decide_eq_false (by omega)
      have E := Lib.hid (E0.out h64)
      clear h64 E4 E0
      go_wp2_with (first | rw [HW6.out] | (at_builtin; refine list_append_one stSlice rfl _ _ rfl rfl rfl HA3.out.own HSZ.out rfl HCELL.out HBYT.out ?_; intro g' cap w5 hown5 hg5 hat5; obtain ⟨w6, hw6, ha6, ⟨cu, hcu⟩, hfz, hy6⟩ := M.out w5 g' cap hown5 hg5 hat5; have HW6 := Lib.hid hw6; have HA6 := Lib.hid ha6; have HY6 := Lib.hid hy6; clear hown5 hg5 hat5 hw6 ha6 hy6; clear b0 bf p1 p3 pf x0 x1 x2; obtain ⟨⟨b0, bf⟩, ⟨p1, p3, pf⟩, x0, x1, x2⟩ := HA6.out.cells))
      go_region_law (fail)
      all_goals
        go_wp2_with fail
        go_ret
        exact ActSays.ok HA6.out HY6.out E.out rfl ⟨1, rfl⟩
  · rw [errV_ne hre]
    have E := Lib.hid (E8.out hre)
    clear hre E4' E0' E8
    go_wp2_with fail
    go_ret
    exact ActSays.bad HY3.out E.out rfl (by decide)
set_option maxHeartbeats 4000000 in
set_option maxRecDepth 100000 in
theorem act_s3 (H p b g j k c nk ck most : Nat) (K : Option Addr) (CV AV : Value) (cols : List Col) (x : Ins) (l : List Int) (w : World) (h : ActPre w H p b g (j) c CV (.slice K nk ck) AV most l) (_hm : most ≤ 64) (_hj : j ≤ 64) (h3 : x.what = 3) (hk : k ≤ 1000) (ho : opErr x.arg = 0) (hk2 : arityOf (opNm x.arg) = k) (hO : ∀ w', Only (fun k => k = p ∨ H ≤ k) w w' → OpsT w') (hT : ∀ w', Only (fun k => k = p ∨ H ≤ k) w w' → LevelsT w') (hjk : j < k) :
    Calls Tryd.prog 109 #[.pointer (some ⟨p, 0, none⟩), insV x, .pointer (some ⟨b, 0, none⟩)] w (ActSays H p b CV (.slice K nk ck) AV most (actP cols x l) w) := by
  have hl : l.length = j := by have := (h.start x).len; exact this
  obtain ⟨w1, hw1⟩ : ∃ w1, w.alloc (.cells #[.int .i64 x.what, .int .i64 x.arg, .int .i64 x.val.type, .int .i64 x.val.n, .string x.val.s] 39) = w1 := ⟨_, rfl⟩
  have hb1 : Below w.heap.size w w1 := by rw [← hw1]; exact (Below.refl _ _).alloc (Nat.le_refl _) _
  have hA := h.start x
  rw [hw1] at hA
  obtain ⟨⟨b0, bf⟩, ⟨p1, p3, pf⟩, x0, x1, x2⟩ := hA.cells
  have hc1 := (sees_ints hA.own).2.1
  have hc2 := (sees_ints hA.own).2.2.1
  unfold maxLen at hc2
  have HW1 := Lib.hid hw1
  have HB1 := Lib.hid hb1
  have HA := Lib.hid hA
  have HH := Lib.hid (show H ≤ w.heap.size by have := h.hb; have := box_lt h.bb; omega)
  have HL := Lib.hid hl
  have h1 : x.what ≠ 1 := by omega
  have h2 : x.what ≠ 2 := by omega
  have h4 : x.what ≠ 4 := by omega
  have h5 : x.what ≠ 5 := by omega
  have h6 : x.what ≠ 6 := by omega
  have h7 : x.what ≠ 7 := by omega
  have e1 : (x.what == 1) = false := beq_eq_false_iff_ne.2 h1
  have e2 : (x.what == 2) = false := beq_eq_false_iff_ne.2 h2
  have e3 : (x.what == 3) = true := beq_iff_eq.2 h3
  have e4 : (x.what == 4) = false := beq_eq_false_iff_ne.2 h4
  have e5 : (x.what == 5) = false := beq_eq_false_iff_ne.2 h5
  have e6 : (x.what == 6) = false := beq_eq_false_iff_ne.2 h6
  have e7 : (x.what == 7) = false := beq_eq_false_iff_ne.2 h7
  have E := Lib.hid (show actP cols x l = (6, l) by
    unfold actP need
    rw [if_pos h3, hk2, Int.toNat_natCast, if_pos (by omega)])
  obtain ⟨s, hs⟩ : ∃ s, opNm x.arg = s := ⟨_, rfl⟩
  have TO := Lib.hid (fun w' hy => op_any x.arg w' (hO w' hy))
  rw [hs, ho, errV_zero] at TO
  rw [hs] at hk2
  have TA := Lib.hid (fun w' hy => arity_any s w' (hT w' hy))
  rw [hk2] at TA
  clear ho hk2 hs hO hT
  clear h hl hw1 hb1 hA h1 h2 h3 h4 h5 h6 h7
  unfold insV
  go_enter Tryd.func109, Tryd.ntmps109
  go_wp2_with (first | rw [HW1.out])
  refine (TO.out w1 (Only.of_below HB1.out)).mono ?_
  rintro e wa ⟨rfl, hb⟩
  have HBA := Lib.hid (below_step HB1.out hb)
  have HAA := Lib.hid (HA.out.keep hb)
  clear hb b0 bf p1 p3 pf x0 x1 x2
  obtain ⟨⟨b0, bf⟩, ⟨p1, p3, pf⟩, x0, x1, x2⟩ := HAA.out.cells
  go_wp2_with fail
  refine (TA.out wa (Only.of_below HBA.out)).mono ?_
  rintro e wb ⟨rfl, rfl⟩
  go_wp2_with fail
  refine (take_short b g c j k wa HAA.out.bb hjk (by omega) (by unfold maxLen; omega) hk).mono ?_
  rintro e w2 ⟨rfl, rfl⟩
  go_wp2_with fail
  go_ret
  exact ActSays.bad (Only.of_below HBA.out) E.out rfl (by decide)
end Go.Proofs.YthmbafkedgahaaaDoor
namespace Go.Proofs.YthmbafkedgahaaaDoor
open Go.ChangeShapes Go.WideShapes Go.ChangeAt Go.RowKit

set_option maxHeartbeats 4000000 in
set_option maxRecDepth 100000 in
theorem act_5 (H p b g j c nk ck most : Nat) (K : Option Addr) (CV AV : Value) (cols : List Col) (x : Ins) (l : List Int) (w : World) (h : ActPre w H p b g (j + 1) c CV (.slice K nk ck) AV most l) (_hm : most ≤ 64) (_hj : j ≤ 64) (h5 : x.what = 5) :
    Calls Tryd.prog 109 #[.pointer (some ⟨p, 0, none⟩), insV x, .pointer (some ⟨b, 0, none⟩)] w (ActSays H p b CV (.slice K nk ck) AV most (actP cols x l) w) := by
  have hl : l.length = j + 1 := by have := (h.start x).len; exact this
  obtain ⟨w1, hw1⟩ : ∃ w1, w.alloc (.cells #[.int .i64 x.what, .int .i64 x.arg, .int .i64 x.val.type, .int .i64 x.val.n, .string x.val.s] 39) = w1 := ⟨_, rfl⟩
  have hb1 : Below w.heap.size w w1 := by rw [← hw1]; exact (Below.refl _ _).alloc (Nat.le_refl _) _
  have hA := h.start x
  rw [hw1] at hA
  obtain ⟨⟨b0, bf⟩, ⟨p1, p3, pf⟩, x0, x1, x2⟩ := hA.cells
  have hc1 := (sees_ints hA.own).2.1
  have hc2 := (sees_ints hA.own).2.2.1
  unfold maxLen at hc2
  have HW1 := Lib.hid hw1
  have HB1 := Lib.hid hb1
  have HA := Lib.hid hA
  have HH := Lib.hid (show H ≤ w.heap.size by have := h.hb; have := box_lt h.bb; omega)
  have HL := Lib.hid hl
  have h1 : x.what ≠ 1 := by omega
  have h2 : x.what ≠ 2 := by omega
  have h3 : x.what ≠ 3 := by omega
  have h4 : x.what ≠ 4 := by omega
  have h6 : x.what ≠ 6 := by omega
  have h7 : x.what ≠ 7 := by omega
  have e1 : (x.what == 1) = false := beq_eq_false_iff_ne.2 h1
  have e2 : (x.what == 2) = false := beq_eq_false_iff_ne.2 h2
  have e3 : (x.what == 3) = false := beq_eq_false_iff_ne.2 h3
  have e4 : (x.what == 4) = false := beq_eq_false_iff_ne.2 h4
  have e5 : (x.what == 5) = true := beq_iff_eq.2 h5
  have e6 : (x.what == 6) = false := beq_eq_false_iff_ne.2 h6
  have e7 : (x.what == 7) = false := beq_eq_false_iff_ne.2 h7
  have hneed : need x = 1 := by unfold need; rw [if_neg h3, if_pos (by omega)]
  have htk : (l.take j).length = j := by rw [List.length_take]; omega
  have E8 := Lib.hid (fun (hv : ¬ (l.drop j).headD 0 = 2) => show actP cols x l = (8, l) by
    unfold actP
    rw [hneed, if_neg (by omega), hl, show j + 1 - 1 = j by omega, show putTy cols x (l.drop j) = (8, []) by unfold putTy; rw [if_neg h1, if_neg h2, if_neg h3, if_pos h5, if_pos hv], if_pos (by decide)])
  have E0 := Lib.hid (fun (hv : (l.drop j).headD 0 = 2) => show actP cols x l = (0, l.take j) by
    unfold actP
    rw [hneed, if_neg (by omega), hl, show j + 1 - 1 = j by omega, show putTy cols x (l.drop j) = (0, []) by unfold putTy; rw [if_neg h1, if_neg h2, if_neg h3, if_pos h5, if_neg (by simpa using hv)], if_neg (by simp), List.append_nil, if_neg (by omega)])
  have d64 : decide (64 < (j : Int)) = false := decide_eq_false (by omega)
  clear hneed htk
  clear h hl hw1 hb1 hA h1 h2 h3 h4 h5 h6 h7
  unfold insV
  go_enter Tryd.func109, Tryd.ntmps109
  go_wp2_with (first | rw [HW1.out])
  refine (take_ok b g c j 1 l w1 HA.out.bb (sees_ints HA.out.own) (by decide)).mono ?_
  rintro e w2 ⟨⟨A', c', rfl, hs', hA'⟩, hw2⟩
  have HS2 := Lib.hid (show Sees w2 A' 1 c' 1 (intCells (l.drop j)) from by
    rw [hw2]
    refine (Only.sees ((Only.refl (fun k => k = b) _).setCell (p := ⟨b, 0, none⟩) rfl _) hs' (fun ad e => ?_))
    rw [hA' ad e]; exact fun e => HA.out.bg e.symm)
  have HA2 := Lib.hid (show ActW w2 H p b w.heap.size g j c CV (.slice K nk ck) AV most x (l.take j) from by rw [hw2]; exact ActW.took (j := j) (k := 1) HA.out)
  have HY2 := Lib.hid (show Only (fun k => k = p ∨ H ≤ k) w w2 from by rw [hw2]; exact ((Lib.hid (Only.of_below (S := fun k => k = p ∨ H ≤ k) HB1.out)).out).setCell (p := ⟨b, 0, none⟩) (Or.inr HA.out.hb) _)
  clear hs' hA' hw2 b0 bf p1 p3 pf x0 x1 x2
  obtain ⟨⟨b0, bf⟩, ⟨p1, p3, pf⟩, x0, x1, x2⟩ := HA2.out.cells
  have hbw2 := box_lt HA2.out.bb
  have hxw2 := box_lt HA2.out.xx
  have hpw2 := box_lt HA2.out.pb
  obtain ⟨ga, oa, v, rfl, hv, v0⟩ := ints_at HS2.out (show 0 < 1 by decide)
  rw [Nat.add_zero] at v0
  have hgaw := World.block_lt_of_cell? w2 _ v0
  have hca := HS2.out.2.1
  have hcb := HS2.out.2.2.1
  unfold maxLen at hcb
  have HV := Lib.hid (show (l.drop j).headD 0 = v by cases hd : l.drop j with | nil => rw [hd] at hv; cases hv | cons a r => rw [hd] at hv; exact Option.some.inj hv)
  clear hv
  by_cases hv2 : v = 2
  · have g2 : (v == 2) = true := beq_iff_eq.2 hv2
    have E := Lib.hid (E0.out (HV.out.trans hv2))
    clear hv2
    go_wp2_with fail
    go_region_law (fail)
    all_goals
      go_wp2_with fail
      go_ret
      exact ActSays.ok HA2.out HY2.out E.out rfl ⟨1, rfl⟩
  · have g2 : (v == 2) = false := beq_eq_false_iff_ne.2 hv2
    have E := Lib.hid (E8.out (fun e => hv2 (HV.out.symm.trans e)))
    clear hv2
    go_wp2_with fail
    go_ret
    exact ActSays.bad HY2.out E.out rfl (by decide)
set_option maxHeartbeats 4000000 in
set_option maxRecDepth 100000 in
theorem act_s (H p b g j c nk ck most : Nat) (K : Option Addr) (CV AV : Value) (cols : List Col) (x : Ins) (l : List Int) (w : World) (h : ActPre w H p b g (j) c CV (.slice K nk ck) AV most l) (_hm : most ≤ 64) (_hj : j ≤ 64) (h57 : x.what = 5 ∨ x.what = 6 ∨ x.what = 7) (h0 : j = 0) :
    Calls Tryd.prog 109 #[.pointer (some ⟨p, 0, none⟩), insV x, .pointer (some ⟨b, 0, none⟩)] w (ActSays H p b CV (.slice K nk ck) AV most (actP cols x l) w) := by
  have hl : l.length = j := by have := (h.start x).len; exact this
  obtain ⟨w1, hw1⟩ : ∃ w1, w.alloc (.cells #[.int .i64 x.what, .int .i64 x.arg, .int .i64 x.val.type, .int .i64 x.val.n, .string x.val.s] 39) = w1 := ⟨_, rfl⟩
  have hb1 : Below w.heap.size w w1 := by rw [← hw1]; exact (Below.refl _ _).alloc (Nat.le_refl _) _
  have hA := h.start x
  rw [hw1] at hA
  obtain ⟨⟨b0, bf⟩, ⟨p1, p3, pf⟩, x0, x1, x2⟩ := hA.cells
  have hc1 := (sees_ints hA.own).2.1
  have hc2 := (sees_ints hA.own).2.2.1
  unfold maxLen at hc2
  have HW1 := Lib.hid hw1
  have HB1 := Lib.hid hb1
  have HA := Lib.hid hA
  have HH := Lib.hid (show H ≤ w.heap.size by have := h.hb; have := box_lt h.bb; omega)
  have HL := Lib.hid hl
  subst h0
  have hneed : need x = 1 := by unfold need; rw [if_neg (by omega), if_pos h57]
  have E := Lib.hid (show actP cols x l = (6, l) by
    unfold actP
    rw [hneed, if_pos (by omega)])
  clear hneed
  have e3 : (x.what == 3) = false := beq_eq_false_iff_ne.2 (by omega)
  rcases h57 with h5 | h5 | h5
  · have e5 : (x.what == 5) = true := beq_iff_eq.2 h5
    have e6 : (x.what == 6) = false := beq_eq_false_iff_ne.2 (by omega)
    have e7 : (x.what == 7) = false := beq_eq_false_iff_ne.2 (by omega)
    clear h hl hw1 hb1 hA h5
    unfold insV
    go_enter Tryd.func109, Tryd.ntmps109
    go_wp2_with (first | rw [HW1.out])
    refine (take_short b g c 0 1 w1 HA.out.bb (by decide) (by omega) (by unfold maxLen; omega) (by decide)).mono ?_
    rintro e w2 ⟨rfl, rfl⟩
    go_wp2_with fail
    go_ret
    exact ActSays.bad (Only.of_below HB1.out) E.out rfl (by decide)
  · have e5 : (x.what == 5) = false := beq_eq_false_iff_ne.2 (by omega)
    have e6 : (x.what == 6) = true := beq_iff_eq.2 h5
    have e7 : (x.what == 7) = false := beq_eq_false_iff_ne.2 (by omega)
    clear h hl hw1 hb1 hA h5
    unfold insV
    go_enter Tryd.func109, Tryd.ntmps109
    go_wp2_with (first | rw [HW1.out])
    refine (take_short b g c 0 1 w1 HA.out.bb (by decide) (by omega) (by unfold maxLen; omega) (by decide)).mono ?_
    rintro e w2 ⟨rfl, rfl⟩
    go_wp2_with fail
    go_ret
    exact ActSays.bad (Only.of_below HB1.out) E.out rfl (by decide)
  · have e5 : (x.what == 5) = false := beq_eq_false_iff_ne.2 (by omega)
    have e6 : (x.what == 6) = false := beq_eq_false_iff_ne.2 (by omega)
    have e7 : (x.what == 7) = true := beq_iff_eq.2 h5
    clear h hl hw1 hb1 hA h5
    unfold insV
    go_enter Tryd.func109, Tryd.ntmps109
    go_wp2_with (first | rw [HW1.out])
    refine (take_short b g c 0 1 w1 HA.out.bb (by decide) (by omega) (by unfold maxLen; omega) (by decide)).mono ?_
    rintro e w2 ⟨rfl, rfl⟩
    go_wp2_with fail
    go_ret
    exact ActSays.bad (Only.of_below HB1.out) E.out rfl (by decide)
end Go.Proofs.YthmbafkedgahaaaDoor
namespace Go.Proofs.YthmbafkedgahaaaDoor
open Go.ChangeShapes Go.WideShapes Go.ChangeAt Go.RowKit

set_option maxHeartbeats 4000000 in
set_option maxRecDepth 100000 in
theorem act_6 (H p b g j c nk ck most : Nat) (K : Option Addr) (CV AV : Value) (cols : List Col) (x : Ins) (l : List Int) (w : World) (h : ActPre w H p b g (j + 1) c CV (.slice K nk ck) AV most l) (_hm : most ≤ 64) (_hj : j ≤ 64) (h6 : x.what = 6) :
    Calls Tryd.prog 109 #[.pointer (some ⟨p, 0, none⟩), insV x, .pointer (some ⟨b, 0, none⟩)] w (ActSays H p b CV (.slice K nk ck) AV most (actP cols x l) w) := by
  have hl : l.length = j + 1 := by have := (h.start x).len; exact this
  obtain ⟨w1, hw1⟩ : ∃ w1, w.alloc (.cells #[.int .i64 x.what, .int .i64 x.arg, .int .i64 x.val.type, .int .i64 x.val.n, .string x.val.s] 39) = w1 := ⟨_, rfl⟩
  have hb1 : Below w.heap.size w w1 := by rw [← hw1]; exact (Below.refl _ _).alloc (Nat.le_refl _) _
  have hA := h.start x
  rw [hw1] at hA
  obtain ⟨⟨b0, bf⟩, ⟨p1, p3, pf⟩, x0, x1, x2⟩ := hA.cells
  have hc1 := (sees_ints hA.own).2.1
  have hc2 := (sees_ints hA.own).2.2.1
  unfold maxLen at hc2
  have HW1 := Lib.hid hw1
  have HB1 := Lib.hid hb1
  have HA := Lib.hid hA
  have HH := Lib.hid (show H ≤ w.heap.size by have := h.hb; have := box_lt h.bb; omega)
  have HL := Lib.hid hl
  have h1 : x.what ≠ 1 := by omega
  have h2 : x.what ≠ 2 := by omega
  have h3 : x.what ≠ 3 := by omega
  have h4 : x.what ≠ 4 := by omega
  have h5 : x.what ≠ 5 := by omega
  have h7 : x.what ≠ 7 := by omega
  have e1 : (x.what == 1) = false := beq_eq_false_iff_ne.2 h1
  have e2 : (x.what == 2) = false := beq_eq_false_iff_ne.2 h2
  have e3 : (x.what == 3) = false := beq_eq_false_iff_ne.2 h3
  have e4 : (x.what == 4) = false := beq_eq_false_iff_ne.2 h4
  have e5 : (x.what == 5) = false := beq_eq_false_iff_ne.2 h5
  have e6 : (x.what == 6) = true := beq_iff_eq.2 h6
  have e7 : (x.what == 7) = false := beq_eq_false_iff_ne.2 h7
  have hneed : need x = 1 := by unfold need; rw [if_neg h3, if_pos (by omega)]
  have htk : (l.take j).length = j := by rw [List.length_take]; omega
  obtain ⟨v, hvv⟩ : ∃ v, (l.drop j).headD 0 = v := ⟨_, rfl⟩
  have hput : putTy cols x (l.drop j) = (0, [v, v]) := by unfold putTy; rw [if_neg h1, if_neg h2, if_neg h3, if_neg h5, if_pos h6, hvv]
  have E4 := Lib.hid (fun (h64 : 64 < j + 2) => show actP cols x l = (4, l) by
    unfold actP
    rw [hneed, if_neg (by omega), hl, show j + 1 - 1 = j by omega, hput]
    rw [if_neg (by simp), if_pos (by rw [List.length_append, htk]; exact h64)])
  have E0 := Lib.hid (fun (h64 : ¬ 64 < j + 2) => show actP cols x l = (0, l.take j ++ [v, v]) by
    unfold actP
    rw [hneed, if_neg (by omega), hl, show j + 1 - 1 = j by omega, hput]
    rw [if_neg (by simp), if_neg (by rw [List.length_append, htk]; exact h64)])
  have HVV := Lib.hid hvv
  clear hneed hput htk hvv
  clear h hl hw1 hb1 hA h1 h2 h3 h4 h5 h6 h7
  unfold insV
  go_enter Tryd.func109, Tryd.ntmps109
  go_wp2_with (first | rw [HW1.out])
  refine (take_ok b g c j 1 l w1 HA.out.bb (sees_ints HA.out.own) (by decide)).mono ?_
  rintro e w2 ⟨⟨A', c', rfl, hs', hA'⟩, hw2⟩
  have HS2 := Lib.hid (show Sees w2 A' 1 c' 1 (intCells (l.drop j)) from by
    rw [hw2]
    refine (Only.sees ((Only.refl (fun k => k = b) _).setCell (p := ⟨b, 0, none⟩) rfl _) hs' (fun ad e => ?_))
    rw [hA' ad e]; exact fun e => HA.out.bg e.symm)
  have HA2 := Lib.hid (show ActW w2 H p b w.heap.size g j c CV (.slice K nk ck) AV most x (l.take j) from by rw [hw2]; exact ActW.took (j := j) (k := 1) HA.out)
  have HY2 := Lib.hid (show Only (fun k => k = p ∨ H ≤ k) w w2 from by rw [hw2]; exact ((Lib.hid (Only.of_below (S := fun k => k = p ∨ H ≤ k) HB1.out)).out).setCell (p := ⟨b, 0, none⟩) (Or.inr HA.out.hb) _)
  clear hs' hA' hw2 b0 bf p1 p3 pf x0 x1 x2
  obtain ⟨⟨b0, bf⟩, ⟨p1, p3, pf⟩, x0, x1, x2⟩ := HA2.out.cells
  have hbw2 := box_lt HA2.out.bb
  have hxw2 := box_lt HA2.out.xx
  have hpw2 := box_lt HA2.out.pb
  obtain ⟨ga, oa, v', rfl, hv, v0⟩ := ints_at HS2.out (show 0 < 1 by decide)
  rw [Nat.add_zero] at v0
  have hgaw := World.block_lt_of_cell? w2 _ v0
  have hca := HS2.out.2.1
  have hcb := HS2.out.2.2.1
  unfold maxLen at hcb
  have HV := Lib.hid (show (l.drop j).headD 0 = v' by cases hd : l.drop j with | nil => rw [hd] at hv; cases hv | cons a r => rw [hd] at hv; exact Option.some.inj hv)
  clear hv
  obtain rfl : v = v' := HVV.out.symm.trans HV.out
  have M := Lib.hid (fun (w5 : World) (g' cap : Nat) (hown5 : w5.ownsRow H 3 1 (.slice (some ⟨g', 0, none⟩) (j + 2) cap) (j + 2) (intCells (l.take j) ++ (#[Value.int .i64 (v), Value.int .i64 (v)] : Array Value).toList)) (hg5 : (w2.alloc (.cells #[Value.int .i64 (v), Value.int .i64 (v)] 3)).drew.grownBy w5 (Value.slice (some ⟨g, 0, none⟩) j c).ownBlock) (hat5 : (Value.slice (some ⟨g, 0, none⟩) j c).ownBlock = some g' ∨ g' = w2.heap.size + 1) =>
    show ∃ w6, w5.setCell ⟨b, 0, none⟩ (.slice (some ⟨g', 0, none⟩) (j + 2) cap) = w6 ∧ ActW w6 H p b w.heap.size g' (j + 2) cap CV (.slice K nk ck) AV most x (l.take j ++ [v, v]) ∧ (∃ u, w5.cell? ⟨b, 0, none⟩ = some u) ∧ w5.frozen? ⟨b, 0, none⟩ = false ∧ Only (fun k => k = p ∨ H ≤ k) w w6 from by
      have hbw : Below w2.heap.size w2 (w2.alloc (.cells #[Value.int .i64 (v), Value.int .i64 (v)] 3)).drew := ((Below.refl _ _).alloc (Nat.le_refl _) _).drew
      have hsz : (w2.alloc (.cells #[Value.int .i64 (v), Value.int .i64 (v)] 3)).drew.heap.size = w2.heap.size + 1 := by show (World.alloc _ _).heap.size = _; simp
      obtain ⟨q1, q2, q3, q4⟩ := ActW.put (w := (w2.alloc (.cells #[Value.int .i64 (v), Value.int .i64 (v)] 3)).drew) (HA2.out.keep hbw) hg5 (by rw [intCells_app2] at hown5; exact hown5) (hat5.elim (fun e => Or.inl (by injection e)) (fun e => Or.inr (by rw [hsz]; omega)))
      exact ⟨_, rfl, q1, q2, q3, (HY2.out.trans (Only.of_below hbw)).trans (q4.mono fun k hk => Or.inr hk)⟩)
  have HCELL := Lib.hid (show ∀ u ∈ (#[Value.int .i64 (v), Value.int .i64 (v)] : Array Value).toList, u.oneCell' = true by intro u hu; simp at hu; subst hu; rfl)
  have HSZ := Lib.hid (show H ≤ w2.heap.size by have := HY2.out.size; have := HH.out; omega)
  have HBYT := Lib.hid (show (j + 2) * 8 ≤ 140737488355328 by omega)
  go_wp2_with fail
  go_region_law (refine step_append_many stSlice rfl (.tmp 101) (.tmp 108) rfl (m := 2) (by decide) (by simp [Act.eval]) (by simp [Act.eval]; rfl) HA2.out.own HSZ.out rfl HCELL.out HBYT.out ?_; intro g' cap w5 hown5 hg5 hat5; obtain ⟨w6, hw6, ha6, ⟨cu, hcu⟩, hfz, hy6⟩ := M.out w5 g' cap hown5 hg5 hat5; have HW6 := Lib.hid hw6; have HA6 := Lib.hid ha6; have HY6 := Lib.hid hy6; clear hown5 hg5 hat5 hw6 ha6 hy6)
  all_goals
    rw [HW6.out]
    clear v0 hcu hfz b0 bf p1 p3 pf x0 x1 x2
    obtain ⟨⟨b0, bf⟩, ⟨p1, p3, pf⟩, x0, x1, x2⟩ := HA6.out.cells
    by_cases h64 : 64 < j + 2
    · have d64 : decide (64 < (j : Int) + 2) = true := decide_eq_true (by omega)
      have E := Lib.hid (E4.out h64)
      clear h64
      go_wp2_with fail
      go_ret
      exact ActSays.bad HY6.out E.out rfl (by decide)
    · have d64 : decide (64 < (j : Int) + 2) = false := decide_eq_false (by omega)
      have E := Lib.hid (E0.out h64)
      clear h64
      go_wp2_with fail
      go_region_law (fail)
      all_goals
        go_wp2_with fail
        go_ret
        exact ActSays.ok HA6.out HY6.out E.out rfl ⟨1, rfl⟩
end Go.Proofs.YthmbafkedgahaaaDoor
