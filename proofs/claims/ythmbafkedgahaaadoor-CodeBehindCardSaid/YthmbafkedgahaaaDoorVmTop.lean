/- The machine as it lies: its block (the stack, the row); push, pop: walked. (*machine).do, at an instruction of sound code: walked. vm.run, with the closure of Run (fuel) and with the closure of Trace: walked. vm.ready, vm.Run, vm.Trace: walked. What Run and Trace come to at sound code: plain. -/
import Derived.Test.YthmbafkedgahaaaDoorVmLaw
import Derived.Test.YthmbafkedgahaaaDoorVeOp
import Derived.Test.YthmbafkedgahaaaDoorOnly
import Derived.StillTailTactics
import Derived.Deep.QuietTactic
import Derived.BigQuiet
import Derived.IntWalk
import Derived.Test.YthmbafkedgahaaaDoorOwn3
import Derived.Test.YthmbafkedgahaaaDoorVeOf
import Derived.Test.YthmbafkedgahaaaDoorRowCheck
namespace Go.Proofs.YthmbafkedgahaaaDoor
open Go.ChangeShapes Go.WideShapes Go.ChangeAt Go.RowKit

theorem stkSlice : SliceTy Tryd.prog 28 23 (.agg #[.int .i64 0, .int .i64 0, .string ⟨#[]⟩]) 3 32 := SliceTy.of Tryd.underlying28 (by kernel_rfl) rfl (by decide) (by decide)
theorem valsCells_one (l : List Val) : ∀ u ∈ valsCells l, u.oneCell' = true := by
  intro u hu
  unfold valsCells at hu
  obtain ⟨x, _, hx⟩ := List.mem_flatMap.1 hu
  unfold valCells at hx
  simp only [List.mem_cons, List.not_mem_nil, or_false] at hx
  rcases hx with rfl | rfl | rfl <;> rfl
theorem valsCells_app (l m : List Val) : valsCells (l ++ m) = valsCells l ++ valsCells m := by simp [valsCells]
theorem valsCells_take : ∀ (l : List Val) (j : Nat), valsCells (l.take j) = (valsCells l).take (j * 3)
  | [], j => by simp [valsCells]
  | v :: l, 0 => by simp [valsCells]
  | v :: l, j + 1 => by
    have ih := valsCells_take l j
    have e : ∀ k : List Val, valsCells (v :: k) = .int .i64 v.type :: .int .i64 v.n :: .string v.s :: valsCells k := fun _ => rfl
    rw [List.take_succ_cons, e, e, ih, show (j + 1) * 3 = j * 3 + 1 + 1 + 1 by omega]
    simp
theorem valsCells_drop : ∀ (l : List Val) (j : Nat), valsCells (l.drop j) = (valsCells l).drop (j * 3)
  | [], j => by simp [valsCells]
  | v :: l, 0 => by simp
  | v :: l, j + 1 => by
    have ih := valsCells_drop l j
    have e : ∀ k : List Val, valsCells (v :: k) = .int .i64 v.type :: .int .i64 v.n :: .string v.s :: valsCells k := fun _ => rfl
    rw [List.drop_succ_cons, e, ih, show (j + 1) * 3 = j * 3 + 1 + 1 + 1 by omega]
    simp
/-- A row of the call's own, shortened. -/
theorem own_pre {w : World} {B e size g j k c : Nat} {xs : List Value} (h : w.ownsRow B e size (.slice (some ⟨g, 0, none⟩) (j + k) c) (j + k) xs) : w.ownsRow B e size (.slice (some ⟨g, 0, none⟩) j c) j (xs.take (j * size)) := by
  have hl := h.1
  refine ⟨by rw [List.length_take, hl, Nat.add_mul]; omega, ?_⟩
  rcases h.2 with ⟨e1, e2⟩ | ⟨q, cap, cur, e1, h1, h2, h3, h4, h5, h6⟩
  · cases e1
  · injection e1 with e1 e3 e4
    subst e4
    injection e1 with e1
    injection e1 with e1
    subst e1
    refine Or.inr ⟨g, c, cur, rfl, h1, h2, by omega, h4, h5, ?_⟩
    rw [← h6, List.take_take]
    congr 1
    rw [Nat.add_mul]; omega
theorem own_shape' {w : World} {B e size n c : Nat} {A : Option Addr} {xs : List Value} (h : w.ownsRow B e size (.slice A n c) n xs) : (A = none ∧ n = 0 ∧ c = 0) ∨ ∃ g, A = some ⟨g, 0, none⟩ := by
  rcases h.2 with ⟨e1, e2⟩ | ⟨g, cap, cur, e1, -⟩
  · injection e1 with e1 e3 e4; exact Or.inl ⟨e1, e2, e4⟩
  · injection e1 with e1; exact Or.inr ⟨g, e1⟩
structure VmAt (w : World) (H p : Nat) (sv : Value) (s : List Val) (R : Value) : Prop where
  box : w.heap[p]? = some (.cells #[sv, R] 143 (0, 0))
  own : w.ownsRow H 23 3 sv s.length (valsCells s)
  hp : H ≤ p
  far : sv.ownBlock ≠ some p
theorem VmAt.only {S : Nat → Prop} {w w' : World} {H p : Nat} {sv R : Value} {s : List Val} (h : VmAt w H p sv s R) (hy : Only S w w') (hp : ¬ S p) (hs : ∀ k, sv.ownBlock = some k → ¬ S k) : VmAt w' H p sv s R :=
  ⟨(hy.block p (Array.getElem?_eq_some_iff.1 h.box).1 hp).trans h.box, hy.own h.own hs, h.hp, h.far⟩
theorem VmAt.keep {w w' : World} {H p : Nat} {sv R : Value} {s : List Val} (h : VmAt w H p sv s R) (hb : Below w.heap.size w w') : VmAt w' H p sv s R :=
  h.only (Only.of_below (S := fun _ => False) hb) (fun h => h) (fun _ _ h => h)
theorem VmAt.lt {w : World} {H p : Nat} {sv R : Value} {s : List Val} (h : VmAt w H p sv s R) : p < w.heap.size := (Array.getElem?_eq_some_iff.1 h.box).1
/-- The machine's own blocks: what it may change. -/
def vmS (p : Nat) (sv : Value) (k : Nat) : Prop := k = p ∨ sv.ownBlock = some k
/-- What a step leaves: the stack s', in a block that was the machine's, or is new. -/
def VmTo (H p : Nat) (sv : Value) (s' : List Val) (R : Value) (w w' : World) : Prop :=
  (∃ sv', VmAt w' H p sv' s' R ∧ (∀ k, sv'.ownBlock = some k → sv.ownBlock = some k ∨ w.heap.size ≤ k)) ∧ Only (vmS p sv) w w'
theorem VmTo.trans {H p : Nat} {sv sv1 : Value} {s2 : List Val} {R : Value} {w w1 w2 : World} (hy : Only (vmS p sv) w w1) (hs : ∀ k, sv1.ownBlock = some k → sv.ownBlock = some k ∨ w.heap.size ≤ k) (h : VmTo H p sv1 s2 R w1 w2) : VmTo H p sv s2 R w w2 := by
  obtain ⟨⟨sv2, h1, h2⟩, h3⟩ := h
  refine ⟨⟨sv2, h1, fun k hk => ?_⟩, ?_⟩
  · rcases h2 k hk with h | h
    · exact hs k h
    · exact Or.inr (Nat.le_trans hy.size h)
  · refine ⟨h3.os.trans hy.os, h3.tape.trans hy.tape, h3.output.trans hy.output, Nat.le_trans hy.size h3.size, fun k hk hk2 => ?_⟩
    refine (h3.block k (Nat.lt_of_lt_of_le hk hy.size) ?_).trans (hy.block k hk hk2)
    rintro (h | h)
    · exact hk2 (Or.inl h)
    · rcases hs k h with h | h
      · exact hk2 (Or.inr h)
      · omega
theorem VmTo.of {H p : Nat} {sv : Value} {s' : List Val} {R : Value} {w w' : World} (h : VmAt w' H p sv s' R) (hy : Only (vmS p sv) w w') : VmTo H p sv s' R w w' := ⟨⟨sv, h, fun _ hk => Or.inl hk⟩, hy⟩
theorem VmTo.below {H p : Nat} {sv : Value} {s' : List Val} {R : Value} {w w1 w2 : World} (hb : Below w.heap.size w w1) (h : VmTo H p sv s' R w1 w2) : VmTo H p sv s' R w w2 :=
  VmTo.trans (Only.of_below hb) (fun _ hk => Or.inl hk) h
/-- 'append(x, y...)', y a row whose m elements lie at ad. -/
theorem list_append_src {P : Program} {t e : TypeId} {z : Value} {size bytes : Nat} (hS : SliceTy P t e z size bytes)
    {ops : Array Oper} {rest : List Oper} {o : Oper} {a : Act} {Q : Exit → Act → World → Prop} (hgd : o.guard = none) (s x : Operand)
    (ho : o.op = .call { callee := .builtin .append, args := #[s, x], argTypes := #[t, t] })
    {B : Nat} {wr : World} {v : Value} {n : Nat} {xs ys : List Value} {ad : Addr} {m c : Nat} (hm0 : 0 < m)
    (hs : a.eval s = v) (hx : a.eval x = .slice (some ad) m c) (hys : ys.length = m * size) (hcells : ∀ j u, ys[j]? = some u → wr.cell? (ad.add j) = some u)
    (hown : wr.ownsRow B e size v n xs) (hB : B ≤ wr.heap.size) (h1 : ∀ u ∈ ys, u.oneCell' = true)
    (hn : (n + m) * bytes ≤ 140737488355328)
    (h : ∀ g cap w', w'.ownsRow B e size (.slice (some ⟨g, 0, none⟩) (n + m) cap) (n + m) (xs ++ ys) → wr.grownBy w' v.ownBlock → (v.ownBlock = some g ∨ g = wr.heap.size) → wpList P ops Q rest (a.put o.dst (.slice (some ⟨g, 0, none⟩) (n + m) cap)) w') :
    wpList P ops Q (o :: rest) a wr := by
  obtain ⟨ht, h2, h3, hzs, i, hi, hz, hsz, hby⟩ := hS
  have hm : n + m ≤ (n + m) * bytes := Nat.le_mul_of_pos_right _ h3
  refine wpList_append_lies _ hgd s x t ho B e i z size bytes ht hi hz hsz hby hzs h2 v n xs hs hown ad m c ys hx hys hcells h1 hm0 (by unfold maxLen; omega) hn hB wr.heap.size rfl ?_
  intro g cap w' h1' h2' h3' _
  exact h g cap w' h1' h2' h3'
theorem vm_put {w w' : World} {H p g n cap : Nat} {sv R : Value} {s s' : List Val} (h : VmAt w H p sv s R) (hown : w'.ownsRow H 23 3 (.slice (some ⟨g, 0, none⟩) n cap) n (valsCells s')) (hn : s'.length = n) (hg : w.grownBy w' sv.ownBlock) (hat : sv.ownBlock = some g ∨ g = w.heap.size) :
    (∃ u, w'.cell? ⟨p, 0, none⟩ = some u) ∧ w'.frozen? ⟨p, 0, none⟩ = false ∧ VmTo H p sv s' R w (w'.setCell ⟨p, 0, none⟩ (.slice (some ⟨g, 0, none⟩) n cap)) := by
  have hbp : w'.heap[p]? = some (.cells #[sv, R] 143 (0, 0)) := (hg.block p h.lt (fun e => h.far e.symm)).trans h.box
  have hgp : g ≠ p := by
    rcases hat with e | e
    · intro e2; subst e2; exact h.far e
    · have := h.lt; omega
  subst hn
  refine ⟨⟨sv, (box2 hbp).1⟩, box_free (i := 0) hbp, ⟨⟨.slice (some ⟨g, 0, none⟩) s'.length cap, ⟨?_, ?_, h.hp, ?_⟩, fun k hk => ?_⟩, ?_⟩⟩
  · have := box_set (i := 0) (.slice (some ⟨g, 0, none⟩) s'.length cap) hbp
    exact this
  · exact own_other hown (by intro e; injection e with e; exact hgp e)
  · intro e; injection e with e; exact hgp e
  · injection hk with hk
    have hk : g = k := hk
    subst hk
    rcases hat with e | e
    · exact Or.inl e
    · exact Or.inr (by omega)
  · exact (Only.of_grown (S := vmS p sv) hg (fun k hk => Or.inr hk.symm)).setCell (p := ⟨p, 0, none⟩) (Or.inl rfl) _
def PushSays (H p : Nat) (sv : Value) (s' : List Val) (R : Value) (w : World) (e : Ending) (w' : World) : Prop := e = .returned (.tuple #[]) ∧ VmTo H p sv s' R w w'
set_option maxHeartbeats 2000000 in
theorem push_any (H p b c : Nat) (sv R : Value) (s : List Val) (v : Val) (w : World) (h : VmAt w H p sv s R) (hs : s.length ≤ 100) (hb : w.heap[b]? = some (.cells #[.int .i64 v.type, .int .i64 v.n, .string v.s] 23 (0, 0))) (hH : H ≤ w.heap.size) :
    Calls Tryd.prog 115 #[.pointer (some ⟨p, 0, none⟩), .slice (some ⟨b, 0, none⟩) 1 c] w (PushSays H p sv (s ++ [v]) R w) := by
  have hc0 := (box2 h.box).1
  have hf0 := box_free (i := 0) h.box
  have HH := Lib.hid h
  have HHH := Lib.hid hH
  have HCELL := Lib.hid (show ∀ j u, (valCells v)[j]? = some u → w.cell? ((⟨b, 0, none⟩ : Addr).add j) = some u by
    intro j u hu
    rw [addr_add0, cell_of_row _ _ _ _ _ _ hb]
    unfold valCells at hu
    rw [← hu]
    simp)
  have HONE := Lib.hid (show ∀ u ∈ valCells v, u.oneCell' = true by
    have := valsCells_one [v]
    simpa [valsCells] using this)
  have HBY := Lib.hid (show (s.length + 1) * 32 ≤ 140737488355328 by omega)
  have HN := Lib.hid (show (s ++ [v]).length = s.length + 1 by simp)
  have HV := Lib.hid (show valsCells s ++ valCells v = valsCells (s ++ [v]) by simp [valsCells])
  clear h hb hH
  go_enter Tryd.func115, Tryd.ntmps115
  go_wp2_with (first | (at_builtin; refine list_append_src stkSlice rfl _ _ rfl (by decide) rfl rfl rfl HCELL.out HH.out.own HHH.out HONE.out HBY.out ?_; intro g cap w5 hown hg hat; obtain ⟨⟨u0, hu0⟩, hfz, hto⟩ := vm_put HH.out (by rw [HV.out] at hown; exact hown) HN.out hg hat; have HTO := Lib.hid hto; clear hown hg hat hto hc0 hf0))
  go_end0
  exact ⟨rfl, HTO.out⟩
def PopSays (H p g j k c : Nat) (s : List Val) (R : Value) (w : World) (e : Ending) (w' : World) : Prop :=
  (∃ c', e = .returned (.slice (some ⟨g, j * 3, none⟩) k c') ∧ SeesVals w' (some ⟨g, j * 3, none⟩) k c' (s.drop j)) ∧ VmAt w' H p (.slice (some ⟨g, 0, none⟩) j c) (s.take j) R ∧ Only (· = p) w w'
theorem vals_drop {w : World} {H p g c j k : Nat} {s : List Val} {R : Value} (h : VmAt w H p (.slice (some ⟨g, 0, none⟩) (j + k) c) s R) (hl : s.length = j + k) : SeesVals w (some ⟨g, j * 3, none⟩) k (c - j) (s.drop j) := by
  have ho := h.own
  rw [hl] at ho
  obtain ⟨A, c2, e, hs⟩ := Sees.of_own ho
  injection e with e1 e2 e3
  subst e1 e3
  have h1 := hs.2.1
  have h2 := hs.2.2.1
  refine ⟨by rw [List.length_drop]; omega, by rw [valsCells_length, List.length_drop]; omega, by omega, by omega, (fun e => by cases e), fun hk => ?_⟩
  obtain ⟨g', o, e, hg, hc⟩ := hs.2.2.2.2 (by omega)
  injection e with e
  injection e with e1 e2
  subst e1 e2
  refine ⟨g, j * 3, rfl, hg, fun i u hu => ?_⟩
  have := hc (j * 3 + i) u (by rw [valsCells_drop, List.getElem?_drop] at hu; exact hu)
  rwa [Nat.zero_add] at this
set_option maxHeartbeats 2000000 in
theorem pop_any (H p g c j k : Nat) (s : List Val) (R : Value) (w : World) (h : VmAt w H p (.slice (some ⟨g, 0, none⟩) (j + k) c) s R) (hl : s.length = j + k) (hk0 : 1 ≤ k) (hk : k ≤ 1000) :
    Calls Tryd.prog 116 #[.pointer (some ⟨p, 0, none⟩), .int .i64 k] w (PopSays H p g j k c s R w) := by
  have hc0 := (box2 h.box).1
  have hf0 := box_free (i := 0) h.box
  have hd := vals_drop h hl
  have ho := h.own
  rw [hl] at ho
  obtain ⟨A, c2, e, hs⟩ := Sees.of_own ho
  injection e with e1 e2 e3
  subst e1 e3
  have h1 := hs.2.1
  have h2 := hs.2.2.1
  unfold maxLen at h2
  have HD := Lib.hid hd
  have HH := Lib.hid h
  have HO := Lib.hid ho
  have HL := Lib.hid hl
  obtain ⟨m, hm⟩ : ∃ m : Nat, m = j + k := ⟨_, rfl⟩
  have ej : ((m : Nat) : Int) - k = j := by omega
  have ejk : m - j = k := by omega
  rw [← hm] at hc0 h1
  have hjm : j ≤ m := by omega
  have hjc : ¬ c = j := by omega
  have hjc2 : ¬ j = c := by omega
  have hjc3 : j ≤ c := by omega
  clear h hd ho hs hl hm
  go_enter Tryd.func116, Tryd.ntmps116
  go_wp2_with fail
  go_ret
  have hgp : g ≠ p := fun e => HH.out.far (by rw [e]; rfl)
  have hy : Only (· = p) w (w.setCell ⟨p, 0, none⟩ (.slice (some ⟨g, 0, none⟩) j c)) := (Only.refl (· = p) w).setCell (p := ⟨p, 0, none⟩) rfl _
  refine ⟨⟨_, rfl, hy.vals_far HD.out (fun _ ad e => by injection e with e; rw [← e]; exact hgp)⟩, ⟨?_, ?_, HH.out.hp, ?_⟩, hy⟩
  · exact box_set (i := 0) (.slice (some ⟨g, 0, none⟩) j c) HH.out.box
  · have := own_pre HO.out
    rw [← valsCells_take] at this
    rw [show (s.take j).length = j by rw [List.length_take, HL.out]; omega]
    exact own_other this (by intro e; injection e with e; exact hgp e)
  · intro e; injection e with e; exact hgp e
end Go.Proofs.YthmbafkedgahaaaDoor
namespace Go.Proofs.YthmbafkedgahaaaDoor
open Go.ChangeShapes Go.WideShapes Go.ChangeAt Go.RowKit

def DoSays (H p : Nat) (sv : Value) (r : Int × List Val × Nat) (R : Value) (w : World) (e : Ending) (w' : World) : Prop :=
  e = .returned (.tuple #[.int .i64 r.2.2, errV r.1]) ∧ (r.1 = 0 → VmTo H p sv r.2.1 R w w') ∧ Only (vmS p sv) w w'
theorem DoSays.ok {H p : Nat} {sv R : Value} {s' : List Val} {k : Nat} {r : Int × List Val × Nat} {w w' : World} {e : Ending} (E : r = (0, s', k)) (he : e = .returned (.tuple #[.int .i64 k, .nilIface])) (h : VmTo H p sv s' R w w') : DoSays H p sv r R w e w' := by
  subst E; exact ⟨he, fun _ => h, h.2⟩
theorem VmTo.only {H p : Nat} {sv : Value} {s' : List Val} {R : Value} {w w' : World} (h : VmTo H p sv s' R w w') : Only (vmS p sv) w w' := h.2
theorem vm_shape {w : World} {H p k : Nat} {sv R : Value} {s : List Val} (h : VmAt w H p sv s R) (h1 : k ≤ s.length) (hk : 1 ≤ k) : ∃ g c j, sv = .slice (some ⟨g, 0, none⟩) (j + k) c ∧ s.length = j + k := by
  rcases h.own.2 with ⟨e1, e2⟩ | ⟨g, cap, cur, e1, -⟩
  · omega
  · obtain ⟨j, hj⟩ : ∃ j, s.length = j + k := ⟨s.length - k, by omega⟩
    rw [hj] at e1
    exact ⟨g, cap, j, e1, hj⟩
theorem vm_popped {w w1 w2 : World} {H p g j k c : Nat} {s' : List Val} {R : Value} (hb : Below w.heap.size w w1) (hvm : VmAt w2 H p (.slice (some ⟨g, 0, none⟩) j c) s' R) (hon : Only (· = p) w1 w2) : VmTo H p (.slice (some ⟨g, 0, none⟩) (j + k) c) s' R w w2 :=
  VmTo.below hb ⟨⟨_, hvm, fun _ hk => Or.inl hk⟩, hon.mono fun _ hk => Or.inl hk⟩
/-- What the walk of an instruction finds: the machine at p, the row, the instruction boxed. -/
theorem insBox (w : World) (x : Ins) : (w.alloc (.cells #[.int .i64 x.what, .int .i64 x.arg, .int .i64 x.val.type, .int .i64 x.val.n, .string x.val.s] 39)).heap[w.heap.size]? = some (.cells #[.int .i64 x.what, .int .i64 x.arg, .int .i64 x.val.type, .int .i64 x.val.n, .string x.val.s] 39 (0, 0)) := heap_alloc_new w _
section
variable (H p : Nat) (sv : Value) (s : List Val) (AR : Option Addr) (nr cr : Nat) (row : List Val) (x : Ins) (w : World)
  (h : VmAt w H p sv s (.slice AR nr cr)) (hs : s.length ≤ 64) (hH : H ≤ w.heap.size)
include h hs hH
set_option maxHeartbeats 4000000 in
set_option maxRecDepth 100000 in
theorem do_1 (hw : x.what = 1) : Calls Tryd.prog 81 #[.pointer (some ⟨p, 0, none⟩), insV x] w (DoSays H p sv (doP row x s) (.slice AR nr cr) w) := by
  have q1 : (x.what == 1) = true := beq_iff_eq.2 hw
  have q2 : (x.what == 2) = false := beq_eq_false_iff_ne.2 (by rw [hw]; decide)
  have q3 : (x.what == 3) = false := beq_eq_false_iff_ne.2 (by rw [hw]; decide)
  have q4 : (x.what == 4) = false := beq_eq_false_iff_ne.2 (by rw [hw]; decide)
  have q5 : (x.what == 5) = false := beq_eq_false_iff_ne.2 (by rw [hw]; decide)
  have q6 : (x.what == 6) = false := beq_eq_false_iff_ne.2 (by rw [hw]; decide)
  have q7 : (x.what == 7) = false := beq_eq_false_iff_ne.2 (by rw [hw]; decide)
  obtain ⟨w1, hw1⟩ : ∃ w1, w.alloc (.cells #[.int .i64 x.what, .int .i64 x.arg, .int .i64 x.val.type, .int .i64 x.val.n, .string x.val.s] 39) = w1 := ⟨_, rfl⟩
  have hb1 : Below w.heap.size w w1 := by rw [← hw1]; exact belowNew _ _
  have hbi : w1.heap[w.heap.size]? = some (.cells #[.int .i64 x.what, .int .i64 x.arg, .int .i64 x.val.type, .int .i64 x.val.n, .string x.val.s] 39 (0, 0)) := by have := insBox w x; rw [hw1] at this; exact this
  obtain ⟨x0, x1, x2, x3, x4⟩ := box5 hbi
  have E := Lib.hid (show doP row x s = (0, s ++ [x.val], 0) by unfold doP; rw [if_pos hw])
  obtain ⟨w2, hw2⟩ : ∃ w2, w1.alloc (.cells #[.int .i64 x.val.type, .int .i64 x.val.n, .string x.val.s] 23) = w2 := ⟨_, rfl⟩
  have hb2 : Below w1.heap.size w1 w2 := by rw [← hw2]; exact belowNew _ _
  have hbx := heap_alloc_new w1 (.cells #[.int .i64 x.val.type, .int .i64 x.val.n, .string x.val.s] 23)
  rw [hw2] at hbx
  have hb := below_step hb1 hb2
  have T := Lib.hid (push_any H p w1.heap.size 1 sv (.slice AR nr cr) s x.val w2 (h.keep hb) (by omega) hbx (by have := hb.size; omega))
  have HB := Lib.hid hb
  have HW1 := Lib.hid hw1
  have HW2 := Lib.hid hw2
  clear h hs hH hw hw1 hw2 hb1 hb2 hbx hb hbi
  unfold insV
  go_enter Tryd.func81, Tryd.ntmps81
  go_wp2_with (first | rw [HW1.out] | rw [HW2.out])
  refine (T.out).mono ?_
  rintro e w3 ⟨rfl, hto⟩
  have HTO := Lib.hid (VmTo.below HB.out hto)
  clear hto
  go_wp2_with fail
  go_ret2
  exact DoSays.ok E.out rfl HTO.out
set_option maxHeartbeats 4000000 in
set_option maxRecDepth 100000 in
theorem do_4 (hw : x.what = 4) (ha : 0 ≤ x.arg) : Calls Tryd.prog 81 #[.pointer (some ⟨p, 0, none⟩), insV x] w (DoSays H p sv (doP row x s) (.slice AR nr cr) w) := by
  have _u := hs
  have _v := hH
  have q4 : (x.what == 4) = true := beq_iff_eq.2 hw
  have q1 : (x.what == 1) = false := beq_eq_false_iff_ne.2 (by rw [hw]; decide)
  have q2 : (x.what == 2) = false := beq_eq_false_iff_ne.2 (by rw [hw]; decide)
  have q3 : (x.what == 3) = false := beq_eq_false_iff_ne.2 (by rw [hw]; decide)
  have q5 : (x.what == 5) = false := beq_eq_false_iff_ne.2 (by rw [hw]; decide)
  have q6 : (x.what == 6) = false := beq_eq_false_iff_ne.2 (by rw [hw]; decide)
  have q7 : (x.what == 7) = false := beq_eq_false_iff_ne.2 (by rw [hw]; decide)
  obtain ⟨w1, hw1⟩ : ∃ w1, w.alloc (.cells #[.int .i64 x.what, .int .i64 x.arg, .int .i64 x.val.type, .int .i64 x.val.n, .string x.val.s] 39) = w1 := ⟨_, rfl⟩
  have hb1 : Below w.heap.size w w1 := by rw [← hw1]; exact belowNew _ _
  have hbi : w1.heap[w.heap.size]? = some (.cells #[.int .i64 x.what, .int .i64 x.arg, .int .i64 x.val.type, .int .i64 x.val.n, .string x.val.s] 39 (0, 0)) := by have := insBox w x; rw [hw1] at this; exact this
  obtain ⟨x0, x1, x2, x3, x4⟩ := box5 hbi
  have E := Lib.hid (show doP row x s = (0, s, x.arg.toNat) by unfold doP; rw [if_neg (by rw [hw]; decide), if_neg (by rw [hw]; decide), if_neg (by rw [hw]; decide), if_pos hw])
  have HTO := Lib.hid (VmTo.of (h.keep hb1) (Only.of_below hb1))
  obtain ⟨a, ea⟩ : ∃ a : Nat, x.arg = a := ⟨x.arg.toNat, by omega⟩
  rw [ea, Int.toNat_natCast] at E
  have HW1 := Lib.hid hw1
  clear h hs hH hw hb1 hbi hw1
  rw [ea] at HW1 x1
  unfold insV
  rw [ea]
  clear ha ea
  go_enter Tryd.func81, Tryd.ntmps81
  go_wp2_with (first | rw [HW1.out])
  go_ret2
  exact DoSays.ok E.out rfl HTO.out
set_option maxHeartbeats 4000000 in
set_option maxRecDepth 100000 in
theorem do_7 (hw : x.what = 7) (h1 : 1 ≤ s.length) : Calls Tryd.prog 81 #[.pointer (some ⟨p, 0, none⟩), insV x] w (DoSays H p sv (doP row x s) (.slice AR nr cr) w) := by
  have _u := hs
  have _v := hH
  have q7 : (x.what == 7) = true := beq_iff_eq.2 hw
  have q1 : (x.what == 1) = false := beq_eq_false_iff_ne.2 (by rw [hw]; decide)
  have q2 : (x.what == 2) = false := beq_eq_false_iff_ne.2 (by rw [hw]; decide)
  have q3 : (x.what == 3) = false := beq_eq_false_iff_ne.2 (by rw [hw]; decide)
  have q4 : (x.what == 4) = false := beq_eq_false_iff_ne.2 (by rw [hw]; decide)
  have q5 : (x.what == 5) = false := beq_eq_false_iff_ne.2 (by rw [hw]; decide)
  have q6 : (x.what == 6) = false := beq_eq_false_iff_ne.2 (by rw [hw]; decide)
  obtain ⟨w1, hw1⟩ : ∃ w1, w.alloc (.cells #[.int .i64 x.what, .int .i64 x.arg, .int .i64 x.val.type, .int .i64 x.val.n, .string x.val.s] 39) = w1 := ⟨_, rfl⟩
  have hb1 : Below w.heap.size w w1 := by rw [← hw1]; exact belowNew _ _
  have hbi : w1.heap[w.heap.size]? = some (.cells #[.int .i64 x.what, .int .i64 x.arg, .int .i64 x.val.type, .int .i64 x.val.n, .string x.val.s] 39 (0, 0)) := by have := insBox w x; rw [hw1] at this; exact this
  obtain ⟨x0, x1, x2, x3, x4⟩ := box5 hbi
  have E := Lib.hid (show doP row x s = (0, s.take (s.length - 1), 0) by unfold doP; rw [if_neg (by rw [hw]; decide), if_neg (by rw [hw]; decide), if_neg (by rw [hw]; decide), if_neg (by rw [hw]; decide), if_neg (by rw [hw]; decide), if_neg (by rw [hw]; decide), if_pos hw])
  obtain ⟨g, c, j, rfl, hl⟩ := vm_shape (k := 1) h h1 (by decide)
  have hj : s.length - 1 = j := by omega
  rw [hj] at E
  have T := Lib.hid (pop_any H p g c j 1 s (.slice AR nr cr) w1 (h.keep hb1) hl (by decide) (by decide))
  have HB := Lib.hid hb1
  have HBI := Lib.hid hbi
  have hne := Lib.hid (show w.heap.size ≠ p from fun e => by have := h.lt; omega)
  have hsz := Lib.hid (show w.heap.size < w1.heap.size by rw [← hw1]; simp)
  have HW1 := Lib.hid hw1
  clear h hs hH hw hb1 hbi hw1 h1 hj
  unfold insV
  go_enter Tryd.func81, Tryd.ntmps81
  go_wp2_with (first | rw [HW1.out])
  refine (T.out).mono ?_
  rintro e w2 ⟨⟨c', rfl, hsv⟩, hvm, hon⟩
  have HTO := Lib.hid (vm_popped (k := 1) HB.out hvm hon)
  clear hsv hvm hon x0 x1 x2 x3 x4
  go_wp2_with fail
  go_ret2
  exact DoSays.ok E.out rfl HTO.out
set_option maxHeartbeats 4000000 in
set_option maxRecDepth 100000 in
theorem do_5 (hw : x.what = 5) (h1 : 1 ≤ s.length) (ha : 0 ≤ x.arg) : Calls Tryd.prog 81 #[.pointer (some ⟨p, 0, none⟩), insV x] w (DoSays H p sv (doP row x s) (.slice AR nr cr) w) := by
  have _u := hs
  have _v := hH
  have q5 : (x.what == 5) = true := beq_iff_eq.2 hw
  have q1 : (x.what == 1) = false := beq_eq_false_iff_ne.2 (by rw [hw]; decide)
  have q2 : (x.what == 2) = false := beq_eq_false_iff_ne.2 (by rw [hw]; decide)
  have q3 : (x.what == 3) = false := beq_eq_false_iff_ne.2 (by rw [hw]; decide)
  have q4 : (x.what == 4) = false := beq_eq_false_iff_ne.2 (by rw [hw]; decide)
  have q6 : (x.what == 6) = false := beq_eq_false_iff_ne.2 (by rw [hw]; decide)
  have q7 : (x.what == 7) = false := beq_eq_false_iff_ne.2 (by rw [hw]; decide)
  obtain ⟨w1, hw1⟩ : ∃ w1, w.alloc (.cells #[.int .i64 x.what, .int .i64 x.arg, .int .i64 x.val.type, .int .i64 x.val.n, .string x.val.s] 39) = w1 := ⟨_, rfl⟩
  have hb1 : Below w.heap.size w w1 := by rw [← hw1]; exact belowNew _ _
  have hbi : w1.heap[w.heap.size]? = some (.cells #[.int .i64 x.what, .int .i64 x.arg, .int .i64 x.val.type, .int .i64 x.val.n, .string x.val.s] 39 (0, 0)) := by have := insBox w x; rw [hw1] at this; exact this
  obtain ⟨x0, x1, x2, x3, x4⟩ := box5 hbi
  have E := Lib.hid (show doP row x s = (0, s.take (s.length - 1), if (topV s).n = 0 then x.arg.toNat else 0) by unfold doP; rw [if_neg (by rw [hw]; decide), if_neg (by rw [hw]; decide), if_neg (by rw [hw]; decide), if_neg (by rw [hw]; decide), if_pos hw])
  obtain ⟨g, c, j, rfl, hl⟩ := vm_shape (k := 1) h h1 (by decide)
  have hj : s.length - 1 = j := by omega
  rw [hj] at E
  have T := Lib.hid (pop_any H p g c j 1 s (.slice AR nr cr) w1 (h.keep hb1) hl (by decide) (by decide))
  have HB := Lib.hid hb1
  have HBI := Lib.hid hbi
  have hne := Lib.hid (show w.heap.size ≠ p from fun e => by have := h.lt; omega)
  have hsz := Lib.hid (show w.heap.size < w1.heap.size by rw [← hw1]; simp)
  have HTOP := Lib.hid (show topV s = (s.drop j).headD noVal by unfold topV; rw [hj])
  obtain ⟨a, ea⟩ : ∃ a : Nat, x.arg = a := ⟨x.arg.toNat, by omega⟩
  rw [ea, Int.toNat_natCast] at E
  have HW1 := Lib.hid hw1
  clear h hs hH hw hb1 hbi hw1 h1 hj
  rw [ea] at HW1 x1 HBI
  unfold insV
  rw [ea]
  clear ha ea
  go_enter Tryd.func81, Tryd.ntmps81
  go_wp2_with (first | rw [HW1.out])
  refine (T.out).mono ?_
  rintro e w2 ⟨⟨c', rfl, hsv⟩, hvm, hon⟩
  have HTO := Lib.hid (vm_popped (k := 1) HB.out hvm hon)
  obtain ⟨y0, y1, y2, y3, y4⟩ := box5 ((hon.block w.heap.size hsz.out hne.out).trans HBI.out)
  obtain ⟨g', o', v, eA, hg', hv, z0, z1, z2⟩ := hsv.at_ (show 0 < 1 by decide)
  injection eA with eA
  injection eA with e1 e2
  subst e1 e2
  rw [Nat.zero_mul, Nat.add_zero] at z0 z1 z2
  have HV := Lib.hid (show topV s = v by rw [HTOP.out]; cases hd : s.drop j with | nil => rw [hd] at hv; cases hv | cons b r => rw [hd] at hv; exact Option.some.inj hv)
  rw [HV.out] at E
  clear hsv hvm hon hv x0 x1 x2 x3 x4
  by_cases hz : v.n = 0
  · have e0 : (v.n == 0) = true := beq_iff_eq.2 hz
    rw [if_pos hz] at E
    clear hz
    go_wp2_with fail
    go_ret2
    exact DoSays.ok E.out rfl HTO.out
  · have e0 : (v.n == 0) = false := beq_eq_false_iff_ne.2 hz
    rw [if_neg hz] at E
    clear hz
    go_wp2_with fail
    go_ret2
    exact DoSays.ok E.out rfl HTO.out
set_option maxHeartbeats 4000000 in
set_option maxRecDepth 100000 in
theorem do_6 (hw : x.what = 6) (h1 : 1 ≤ s.length) : Calls Tryd.prog 81 #[.pointer (some ⟨p, 0, none⟩), insV x] w (DoSays H p sv (doP row x s) (.slice AR nr cr) w) := by
  have q6 : (x.what == 6) = true := beq_iff_eq.2 hw
  have q1 : (x.what == 1) = false := beq_eq_false_iff_ne.2 (by rw [hw]; decide)
  have q2 : (x.what == 2) = false := beq_eq_false_iff_ne.2 (by rw [hw]; decide)
  have q3 : (x.what == 3) = false := beq_eq_false_iff_ne.2 (by rw [hw]; decide)
  have q4 : (x.what == 4) = false := beq_eq_false_iff_ne.2 (by rw [hw]; decide)
  have q5 : (x.what == 5) = false := beq_eq_false_iff_ne.2 (by rw [hw]; decide)
  have q7 : (x.what == 7) = false := beq_eq_false_iff_ne.2 (by rw [hw]; decide)
  obtain ⟨w1, hw1⟩ : ∃ w1, w.alloc (.cells #[.int .i64 x.what, .int .i64 x.arg, .int .i64 x.val.type, .int .i64 x.val.n, .string x.val.s] 39) = w1 := ⟨_, rfl⟩
  have hb1 : Below w.heap.size w w1 := by rw [← hw1]; exact belowNew _ _
  have hbi : w1.heap[w.heap.size]? = some (.cells #[.int .i64 x.what, .int .i64 x.arg, .int .i64 x.val.type, .int .i64 x.val.n, .string x.val.s] 39 (0, 0)) := by have := insBox w x; rw [hw1] at this; exact this
  obtain ⟨x0, x1, x2, x3, x4⟩ := box5 hbi
  have E := Lib.hid (show doP row x s = (0, s ++ [topV s], 0) by unfold doP; rw [if_neg (by rw [hw]; decide), if_neg (by rw [hw]; decide), if_neg (by rw [hw]; decide), if_neg (by rw [hw]; decide), if_neg (by rw [hw]; decide), if_pos hw])
  obtain ⟨g, c, j, rfl, hl⟩ := vm_shape (k := 1) h h1 (by decide)
  have hj : s.length - 1 = j := by omega
  have hsv := vals_drop h hl
  obtain ⟨g', o', v, eA, hg', hv, z0, z1, z2⟩ := hsv.at_ (show 0 < 1 by decide)
  injection eA with eA
  injection eA with e1 e2
  subst e1 e2
  rw [Nat.zero_mul, Nat.add_zero] at z0 z1 z2
  have HV := Lib.hid (show topV s = v by unfold topV; rw [hj]; cases hd : s.drop j with | nil => rw [hd] at hv; cases hv | cons b r => rw [hd] at hv; exact Option.some.inj hv)
  rw [HV.out] at E
  have b0 := (hb1.cell (p := ⟨p, 0, none⟩) h.lt).trans (box2 h.box).1
  have y0 := (hb1.cell (p := ⟨g, j * 3, none⟩) hg').trans z0
  have y1 := (hb1.cell (p := ⟨g, j * 3 + 1, none⟩) hg').trans z1
  have y2 := (hb1.cell (p := ⟨g, j * 3 + 2, none⟩) hg').trans z2
  obtain ⟨w2, hw2⟩ : ∃ w2, (w1.alloc (.cells #[.int .i64 v.type, .int .i64 v.n, .string v.s] 23)).drew = w2 := ⟨_, rfl⟩
  have hb2 : Below w1.heap.size w1 w2 := by rw [← hw2]; exact (belowNew _ _).drew
  have hbx := heap_alloc_new w1 (.cells #[.int .i64 v.type, .int .i64 v.n, .string v.s] 23)
  have hbx : w2.heap[w1.heap.size]? = some (.cells #[.int .i64 v.type, .int .i64 v.n, .string v.s] 23 (0, 0)) := by rw [← hw2]; exact hbx
  have hb := below_step hb1 hb2
  have T := Lib.hid (push_any H p w1.heap.size 1 (.slice (some ⟨g, 0, none⟩) (j + 1) c) (.slice AR nr cr) s v w2 (h.keep hb) (by omega) hbx (by have := hb.size; omega))
  have HB := Lib.hid hb
  have HW1 := Lib.hid hw1
  subst hw2
  have hcc : j + 1 ≤ c := by have h2 := h.own; rw [hl] at h2; obtain ⟨A, c2, e, hs'⟩ := Sees.of_own h2; injection e with _ _ e3; rw [e3]; exact hs'.2.1
  have hcx : c ≤ 2 ^ 63 - 1 := by have h2 := h.own; rw [hl] at h2; obtain ⟨A, c2, e, hs'⟩ := Sees.of_own h2; injection e with _ _ e3; rw [e3]; exact hs'.2.2.1
  have ej : ((j + 1 : Nat) : Int) - 1 = (j : Int) := by omega
  have ej' : (j : Int) + 1 - 1 = (j : Int) := by omega
  have hj1 : j < j + 1 := by omega
  have hwr2 : IntKind.i64.wrap (j : Int) = (j : Int) := IntWalk.i64_in (j : Int) (by have := hcx; omega)
  have hwr1 : IntKind.i64.wrap ((j : Int) + 1 - 1) = (j : Int) := by rw [show (j : Int) + 1 - 1 = (j : Int) by omega]; exact hwr2
  have hj2 : (j : Int) < (j : Int) + 1 := by omega
  clear h hs hH hw hw1 hb1 hb2 hbx hb hbi hsv hv z0 z1 z2 hl h1 hj
  unfold insV
  go_enter Tryd.func81, Tryd.ntmps81
  go_wp2_with (first | rw [HW1.out])
  go_region_law (go_simp; go_at_call 115; refine (T.out).mono ?_; rintro e w3 ⟨rfl, hto⟩; have HTO := Lib.hid (VmTo.below HB.out hto); clear hto)
  all_goals
    go_wp2_with fail
    go_ret2
    exact DoSays.ok E.out rfl HTO.out
set_option maxHeartbeats 4000000 in
set_option maxRecDepth 100000 in
theorem do_2 (hw : x.what = 2) (hR : SeesVals w AR nr cr row) (ha : 0 ≤ x.arg ∧ x.arg < nr) : Calls Tryd.prog 81 #[.pointer (some ⟨p, 0, none⟩), insV x] w (DoSays H p sv (doP row x s) (.slice AR nr cr) w) := by
  have q2 : (x.what == 2) = true := beq_iff_eq.2 hw
  have q1 : (x.what == 1) = false := beq_eq_false_iff_ne.2 (by rw [hw]; decide)
  have q3 : (x.what == 3) = false := beq_eq_false_iff_ne.2 (by rw [hw]; decide)
  have q4 : (x.what == 4) = false := beq_eq_false_iff_ne.2 (by rw [hw]; decide)
  have q5 : (x.what == 5) = false := beq_eq_false_iff_ne.2 (by rw [hw]; decide)
  have q6 : (x.what == 6) = false := beq_eq_false_iff_ne.2 (by rw [hw]; decide)
  have q7 : (x.what == 7) = false := beq_eq_false_iff_ne.2 (by rw [hw]; decide)
  obtain ⟨w1, hw1⟩ : ∃ w1, w.alloc (.cells #[.int .i64 x.what, .int .i64 x.arg, .int .i64 x.val.type, .int .i64 x.val.n, .string x.val.s] 39) = w1 := ⟨_, rfl⟩
  have hb1 : Below w.heap.size w w1 := by rw [← hw1]; exact belowNew _ _
  have hbi : w1.heap[w.heap.size]? = some (.cells #[.int .i64 x.what, .int .i64 x.arg, .int .i64 x.val.type, .int .i64 x.val.n, .string x.val.s] 39 (0, 0)) := by have := insBox w x; rw [hw1] at this; exact this
  obtain ⟨x0, x1, x2, x3, x4⟩ := box5 hbi
  have E := Lib.hid (show doP row x s = (0, s ++ [row.getD x.arg.toNat noVal], 0) by unfold doP; rw [if_neg (by rw [hw]; decide), if_pos hw])
  obtain ⟨a, ea⟩ : ∃ a : Nat, x.arg = a := ⟨x.arg.toNat, by omega⟩
  rw [ea, Int.toNat_natCast] at E
  have han : a < nr := by omega
  have han2 : (a : Int) < (nr : Int) := by omega
  obtain ⟨g, o, v, rfl, hg, hv, z0, z1, z2⟩ := (hR.keep hb1).at_ han
  have HV := Lib.hid (show row.getD a noVal = v by rw [List.getD_eq_getElem?_getD, hv]; rfl)
  rw [HV.out] at E
  have b1 := (hb1.cell (p := ⟨p, 1, none⟩) h.lt).trans (box2 h.box).2
  have hcn := hR.2.2.1
  have hcx := hR.2.2.2.1
  unfold maxLen at hcx
  obtain ⟨w2, hw2⟩ : ∃ w2, (w1.alloc (.cells #[.int .i64 v.type, .int .i64 v.n, .string v.s] 23)).drew = w2 := ⟨_, rfl⟩
  have hb2 : Below w1.heap.size w1 w2 := by rw [← hw2]; exact (belowNew _ _).drew
  have hbx := heap_alloc_new w1 (.cells #[.int .i64 v.type, .int .i64 v.n, .string v.s] 23)
  have hbx : w2.heap[w1.heap.size]? = some (.cells #[.int .i64 v.type, .int .i64 v.n, .string v.s] 23 (0, 0)) := by rw [← hw2]; exact hbx
  have hb := below_step hb1 hb2
  have T := Lib.hid (push_any H p w1.heap.size 1 sv (.slice (some ⟨g, o, none⟩) nr cr) s v w2 (h.keep hb) (by omega) hbx (by have := hb.size; omega))
  have HB := Lib.hid hb
  have HW1 := Lib.hid hw1
  subst hw2
  clear h hs hH hw hw1 hb1 hb2 hbx hb hbi hR hv
  rw [ea] at HW1 x1
  unfold insV
  rw [ea]
  clear ha ea
  go_enter Tryd.func81, Tryd.ntmps81
  go_wp2_with (first | rw [HW1.out])
  go_region_law (go_simp; go_at_call 115; refine (T.out).mono ?_; rintro e w3 ⟨rfl, hto⟩; have HTO := Lib.hid (VmTo.below HB.out hto); clear hto)
  all_goals
    go_wp2_with fail
    go_ret2
    exact DoSays.ok E.out rfl HTO.out
set_option maxHeartbeats 8000000 in
set_option maxRecDepth 100000 in
theorem do_3 (hw : x.what = 3) (ho : opErr x.arg = 0) (hn : need x ≤ s.length) (hO : OpsT w) (hT : LevelsT w) (hr : ∀ v ∈ s, right v) (hf : fitsGrp (grp (opNm x.arg)) (typesOf (s.drop (s.length - need x))) = true) : Calls Tryd.prog 81 #[.pointer (some ⟨p, 0, none⟩), insV x] w (DoSays H p sv (doP row x s) (.slice AR nr cr) w) := by
  have q3 : (x.what == 3) = true := beq_iff_eq.2 hw
  have q1 : (x.what == 1) = false := beq_eq_false_iff_ne.2 (by rw [hw]; decide)
  have q2 : (x.what == 2) = false := beq_eq_false_iff_ne.2 (by rw [hw]; decide)
  have q4 : (x.what == 4) = false := beq_eq_false_iff_ne.2 (by rw [hw]; decide)
  have q5 : (x.what == 5) = false := beq_eq_false_iff_ne.2 (by rw [hw]; decide)
  have q6 : (x.what == 6) = false := beq_eq_false_iff_ne.2 (by rw [hw]; decide)
  have q7 : (x.what == 7) = false := beq_eq_false_iff_ne.2 (by rw [hw]; decide)
  obtain ⟨w1, hw1⟩ : ∃ w1, w.alloc (.cells #[.int .i64 x.what, .int .i64 x.arg, .int .i64 x.val.type, .int .i64 x.val.n, .string x.val.s] 39) = w1 := ⟨_, rfl⟩
  have hb1 : Below w.heap.size w w1 := by rw [← hw1]; exact belowNew _ _
  have hbi : w1.heap[w.heap.size]? = some (.cells #[.int .i64 x.what, .int .i64 x.arg, .int .i64 x.val.type, .int .i64 x.val.n, .string x.val.s] 39 (0, 0)) := by have := insBox w x; rw [hw1] at this; exact this
  obtain ⟨x0, x1, x2, x3, x4⟩ := box5 hbi
  obtain ⟨k, hk1, hk2⟩ : ∃ k : Nat, (k = 1 ∨ k = 2) ∧ arityOf (opNm x.arg) = k := by
    rcases op_arity ho with e | e
    · exact ⟨1, Or.inl rfl, e⟩
    · exact ⟨2, Or.inr rfl, e⟩
  have hk : need x = k := by unfold need; rw [if_pos hw, hk2]; exact Int.toNat_natCast k
  have hisop := opNm_isOp ho
  have E0 := Lib.hid (fun h0 => show doP row x s = (0, s.take (s.length - need x) ++ [applyVal (opNm x.arg) (s.drop (s.length - need x))], 0) by
    unfold doP; rw [if_neg (by rw [hw]; decide), if_neg (by rw [hw]; decide), if_pos hw, if_neg (show ¬ applyErr (opNm x.arg) (s.drop (s.length - need x)) ≠ 0 from fun h => h h0)])
  have E1 := Lib.hid (fun h0 => show doP row x s = (applyErr (opNm x.arg) (s.drop (s.length - need x)), s, 0) by
    unfold doP; rw [if_neg (by rw [hw]; decide), if_neg (by rw [hw]; decide), if_pos hw, if_pos h0])
  obtain ⟨g, c, j, rfl, hl⟩ := vm_shape (k := k) h (by omega) (by omega)
  have hj : s.length - need x = j := by omega
  rw [hj] at E0 E1 hf
  have TO := Lib.hid (fun w' hb => op_any x.arg w' (hO.keep (w' := w') hb))
  have TA := Lib.hid (fun w' hb => arity_any (opNm x.arg) w' (hT.keep (w' := w') hb))
  rw [hk2] at TA
  rw [ho, errV_zero] at TO
  have TP := Lib.hid (fun w' hb => pop_any H p g c j k s (.slice AR nr cr) w' (h.keep (w' := w') hb) hl (by omega) (by omega))
  have TP2 := Lib.hid (fun A n' c' w' (hl' : SeesVals w' A n' c' (s.drop j)) => apply_any (opNm x.arg) (s.drop j) A n' c' w' hl' hisop (by rw [hk2, List.length_drop]; omega) (fun v hv => (hr v (List.mem_of_mem_drop hv)).1) (fun v hv => (hr v (List.mem_of_mem_drop hv)).2) hf)
  have TU := Lib.hid (fun b c' v w' (h' : VmAt w' H p (.slice (some ⟨g, 0, none⟩) j c) (s.take j) (.slice AR nr cr)) hb' (hH' : H ≤ w'.heap.size) => push_any H p b c' (.slice (some ⟨g, 0, none⟩) j c) (.slice AR nr cr) (s.take j) v w' h' (by rw [List.length_take]; omega) hb' hH')
  have HB := Lib.hid hb1
  have HBI := Lib.hid hbi
  have HHH := Lib.hid hH
  have hne := Lib.hid (show w.heap.size ≠ p from fun e => by have := h.lt; omega)
  have hsz := Lib.hid (show w.heap.size < w1.heap.size by rw [← hw1]; simp)
  obtain ⟨nm, hnm⟩ : ∃ nm, opNm x.arg = nm := ⟨_, rfl⟩
  rw [hnm] at E0 E1 TO TA TP2
  obtain ⟨av, hav⟩ : ∃ av, applyVal nm (s.drop j) = av := ⟨_, rfl⟩
  obtain ⟨ae, hae⟩ : ∃ ae, applyErr nm (s.drop j) = ae := ⟨_, rfl⟩
  rw [hav, hae] at TP2
  rw [hae] at E1
  rw [hav, hae] at E0
  have HW1 := Lib.hid hw1
  clear h hs hH hw hb1 hbi hw1 hj hk ho hO hT hr hf hn hisop hl hnm hav hae hk1 hk2
  unfold insV
  go_enter Tryd.func81, Tryd.ntmps81
  go_wp2_with (first | rw [HW1.out])
  refine (TO.out w1 HB.out).mono ?_
  rintro e w2 ⟨rfl, hb⟩
  have HB2 := Lib.hid (below_step HB.out hb)
  have HBI2 := Lib.hid ((hb.block w.heap.size hsz.out).trans HBI.out)
  have hs12 := Lib.hid hb.size
  clear hb x0 x1 x2 x3 x4
  go_wp2_with fail
  refine (TA.out w2 HB2.out).mono ?_
  rintro e w2' ⟨rfl, rfl⟩
  go_wp2_with fail
  refine (TP.out w2 HB2.out).mono ?_
  rintro e w3 ⟨⟨c', rfl, hsv⟩, hvm, hon⟩
  have HVM := Lib.hid hvm
  have HON := Lib.hid hon
  have TAP := Lib.hid (TP2.out _ _ _ _ hsv)
  clear hsv hvm hon
  go_wp2_with fail
  refine (TAP.out).mono ?_
  rintro e w4 ⟨rfl, hb4⟩
  unfold valV
  have HVM4 := Lib.hid (HVM.out.keep hb4)
  have HON4 := Lib.hid (show Only (· = p) w w4 from ((Only.of_below HB2.out).trans HON.out).trans (Only.of_below hb4))
  clear hb4
  obtain ⟨w5, hw5⟩ : ∃ w5, w4.alloc (.cells #[.int .i64 av.type, .int .i64 av.n, .string av.s] 23) = w5 := ⟨_, rfl⟩
  have hb5 : Below w4.heap.size w4 w5 := by rw [← hw5]; exact belowNew _ _
  have hbx5 := heap_alloc_new w4 (.cells #[.int .i64 av.type, .int .i64 av.n, .string av.s] 23)
  rw [hw5] at hbx5
  obtain ⟨v0, v1, v2⟩ := box3 hbx5
  have HON5 := Lib.hid (HON4.out.trans (Only.of_below hb5))
  have HW5 := Lib.hid hw5
  have HB5 := Lib.hid hb5
  by_cases h0 : ae = 0
  · rw [h0, errV_zero]
    have E := Lib.hid (E0.out h0)
    clear E0 E1 h0
    obtain ⟨w6, hw6⟩ : ∃ w6, w5.alloc (.cells #[.int .i64 av.type, .int .i64 av.n, .string av.s] 23) = w6 := ⟨_, rfl⟩
    have hb6 : Below w5.heap.size w5 w6 := by rw [← hw6]; exact belowNew _ _
    have hbx6 := heap_alloc_new w5 (.cells #[.int .i64 av.type, .int .i64 av.n, .string av.s] 23)
    rw [hw6] at hbx6
    have HON6 := Lib.hid (HON5.out.trans (Only.of_below hb6))
    have T := Lib.hid (TU.out w5.heap.size 1 av w6 (HVM4.out.keep (below_step hb5 hb6)) hbx6 (Nat.le_trans HHH.out HON6.out.size))
    have HW6 := Lib.hid hw6
    clear hw5 hb5 hbx5 hw6 hb6 hbx6
    go_wp2_with (first | rw [HW5.out] | rw [HW6.out])
    refine (T.out).mono ?_
    rintro e w7 ⟨rfl, hto⟩
    have HTO := Lib.hid (VmTo.trans (sv := .slice (some ⟨g, 0, none⟩) (j + k) c) (HON6.out.mono fun _ hk => Or.inl hk) (fun _ hk => Or.inl hk) hto)
    clear hto v0 v1 v2
    go_wp2_with fail
    go_ret2
    exact DoSays.ok E.out rfl HTO.out
  · rw [errV_ne h0]
    have E := Lib.hid (E1.out h0)
    have HNE := Lib.hid h0
    clear E0 E1 h0 hw5 hb5 hbx5
    go_wp2_with (first | rw [HW5.out])
    go_ret2
    refine ⟨?_, fun h => absurd h ?_, HON5.out.mono fun _ hk => Or.inl hk⟩
    · rw [E.out, errV_ne HNE.out]; rfl
    · rw [E.out]; exact HNE.out
end
/-- An instruction of sound code, done. -/
theorem do_any (H p : Nat) (sv : Value) (s : List Val) (AR : Option Addr) (nr cr : Nat) (row : List Val) (x : Ins) (cols : List Col) (l : List Int) (len i : Nat) (w : World) (h : VmAt w H p sv s (.slice AR nr cr)) (hH : H ≤ w.heap.size)
    (hR : SeesVals w AR nr cr row) (hO : OpsT w) (hT : LevelsT w) (hr : RowOk cols row) (hs : StkOk s l) (hl64 : l.length ≤ 64) (ha : argErr len i cols.length x = 0) (hc : (actP cols x l).1 = 0) :
    Calls Tryd.prog 81 #[.pointer (some ⟨p, 0, none⟩), insV x] w (DoSays H p sv (doP row x s) (.slice AR nr cr) w) := by
  have hlen := hs.len
  have hs64 : s.length ≤ 64 := by omega
  obtain ⟨p1, p2, p3, -⟩ := actP_parts hc
  have ha' := ha
  unfold argErr at ha
  by_cases h1 : x.what = 1
  · exact do_1 H p sv s AR nr cr row x w h hs64 hH h1
  rw [if_neg h1] at ha
  by_cases h2 : x.what = 2
  · rw [if_pos h2] at ha
    refine do_2 H p sv s AR nr cr row x w h hs64 hH h2 hR ?_
    have := hR.1
    have := hr.len
    by_cases hh : 0 ≤ x.arg ∧ x.arg < cols.length
    · omega
    · rw [if_neg hh] at ha; exact absurd ha (by decide)
  rw [if_neg h2] at ha
  by_cases h3 : x.what = 3
  · rw [if_pos h3] at ha
    refine do_3 H p sv s AR nr cr row x w h hs64 hH h3 ha (by omega) hO hT hs.1 ?_
    unfold putTy at p2
    rw [if_neg h1, if_neg h2, if_pos h3] at p2
    by_cases hre : ruleErr (opNm x.arg) (l.drop (l.length - need x)) ≠ 0
    · rw [if_pos hre] at p2; exact absurd p2 (show ¬ (8 : Int) = 0 by decide)
    · have := (ruleErr_parts (show ruleErr (opNm x.arg) (l.drop (l.length - need x)) = 0 by simpa using hre)).2.2
      rw [← (hs.drop (l.length - need x)).2] at this
      rw [hlen]; exact this
  rw [if_neg h3] at ha
  have hn1 : x.what = 5 ∨ x.what = 6 ∨ x.what = 7 → 1 ≤ s.length := by
    intro hh
    have : need x = 1 := by unfold need; rw [if_neg h3, if_pos hh]
    omega
  have harg : x.what = 4 ∨ x.what = 5 → 0 ≤ x.arg := by
    intro hh
    obtain ⟨a, ea, -⟩ := arg_jump ha' hh
    omega
  by_cases h4 : x.what = 4
  · exact do_4 H p sv s AR nr cr row x w h hs64 hH h4 (harg (Or.inl h4))
  by_cases h5 : x.what = 5
  · exact do_5 H p sv s AR nr cr row x w h hs64 hH h5 (hn1 (by omega)) (harg (Or.inr h5))
  by_cases h6 : x.what = 6
  · exact do_6 H p sv s AR nr cr row x w h hs64 hH h6 (hn1 (by omega))
  by_cases h7 : x.what = 7
  · exact do_7 H p sv s AR nr cr row x w h hs64 hH h7 (hn1 (by omega))
  · rw [if_neg (by omega), if_neg (by omega)] at ha
    exact absurd ha (by decide)
end Go.Proofs.YthmbafkedgahaaaDoor
namespace Go.Proofs.YthmbafkedgahaaaDoor
open Go.ChangeShapes Go.WideShapes Go.ChangeAt Go.RowKit

theorem snd_next {code : List Ins} {cols : List Col} {row : List Val} {st : Sts} {t : Int} (hS : Snd code cols st t) (hr : RowOk cols row) (hx : ∀ x ∈ code, x.val.wf) {k : Nat} {x : Ins} {s : List Val} {l : List Int} (hk : code[k]? = some x) (hl : st.getD k none = some l) (hs : StkOk s l) (h0 : (doP row x s).1 = 0) :
    ∃ l', st.getD (k + 1 + (doP row x s).2.2) none = some l' ∧ StkOk (doP row x s).2.1 l' ∧ k + 1 + (doP row x s).2.2 ≤ code.length := by
  obtain ⟨m, h1, h2, h3, h4, h5⟩ := hS.at_ k x hk
  rw [hl] at h1
  injection h1 with h1
  subst h1
  have hlt := (List.getElem?_eq_some_iff.1 hk).1
  rcases do_sound hr (hx x (List.mem_of_getElem? hk)) hs h2 h3 with ⟨q1, q2, q3⟩ | ⟨q1, q2⟩
  · rcases q3 with ⟨q3, q4⟩ | ⟨q3, q4⟩
    · rw [q3]; exact ⟨_, h5 q4, q2, by omega⟩
    · rw [q4]
      obtain ⟨a, ea, hia⟩ := arg_jump h2 q3
      exact ⟨_, h4 q3, q2, by rw [ea, Int.toNat_natCast]; omega⟩
  · rw [q2] at h0; exact absurd h0 (by decide)
theorem snd_here {code : List Ins} {cols : List Col} {st : Sts} {t : Int} (hS : Snd code cols st t) {k : Nat} {x : Ins} {l : List Int} (hk : code[k]? = some x) (hl : st.getD k none = some l) :
    argErr code.length k cols.length x = 0 ∧ (actP cols x l).1 = 0 ∧ l.length ≤ 64 := by
  obtain ⟨m, h1, h2, h3, -, -⟩ := hS.at_ k x hk
  rw [hl] at h1
  injection h1 with h1
  subst h1
  exact ⟨h2, h3, hS.small k _ hl⟩
theorem do_err {cols : List Col} {row : List Val} {x : Ins} {s : List Val} {l : List Int} {len i : Nat} (hr : RowOk cols row) (hx : x.val.wf) (hs : StkOk s l) (ha : argErr len i cols.length x = 0) (hc : (actP cols x l).1 = 0) (h0 : (doP row x s).1 ≠ 0) : (doP row x s).1 = 9 := by
  rcases do_sound hr hx hs ha hc with ⟨q1, -, -⟩ | ⟨-, q2⟩
  · exact absurd q1 h0
  · exact q2
def OneI (w : World) (b : Nat) (c : Int) : Prop := w.heap[b]? = some (.cells #[.int .i64 c] 3 (0, 0))
theorem OneI.only {S : Nat → Prop} {w w' : World} {b : Nat} {c : Int} (h : OneI w b c) (hy : Only S w w') (hb : ¬ S b) : OneI w' b c := (hy.block b (Array.getElem?_eq_some_iff.1 h).1 hb).trans h
theorem Own3.only {S : Nat → Prop} {w w' : World} {b : Nat} {v : Val} (h : Own3 w b v) (hy : Only S w w') (hb : ¬ S b) : Own3 w' b v := (hy.block b (Array.getElem?_eq_some_iff.1 h).1 hb).trans h
set_option maxHeartbeats 1000000 in
theorem each_fuel (i : Int) (bn bf : Nat) (c F : Int) (w : World) (h1 : OneI w bn c) (h2 : OneI w bf F) (hne : bn ≠ bf) (hc : 0 ≤ c) (hc2 : c ≤ 2000) :
    Calls Tryd.prog 36 #[.int .i64 i, .pointer (some ⟨bn, 0, none⟩), .pointer (some ⟨bf, 0, none⟩)] w fun e w' => e = .returned (.bool (decide (c + 1 ≤ F))) ∧ Only (· = bn) w w' ∧ OneI w' bn (c + 1) := by
  have c1 := box1 h1
  have f1 := box_free (i := 0) h1
  have c2 := box1 h2
  have HS := Lib.hid (show OneI (w.setCell ⟨bn, 0, none⟩ (.int .i64 (c + 1))) bn (c + 1) from box_set (i := 0) _ h1)
  have c3 : (w.setCell ⟨bn, 0, none⟩ (.int .i64 (c + 1))).cell? ⟨bn, 0, none⟩ = some (.int .i64 (c + 1)) := box1 HS.out
  have HF := Lib.hid (show OneI (w.setCell ⟨bn, 0, none⟩ (.int .i64 (c + 1))) bf F from h2.only ((Only.refl (· = bn) w).setCell (p := ⟨bn, 0, none⟩) rfl _) (fun e => hne e.symm))
  have c4 := box1 HF.out
  obtain ⟨w1, hw1⟩ : ∃ w1, w.setCell ⟨bn, 0, none⟩ (.int .i64 (c + 1)) = w1 := ⟨_, rfl⟩
  have HY := Lib.hid (show Only (· = bn) w w1 by rw [← hw1]; exact (Only.refl (· = bn) w).setCell (p := ⟨bn, 0, none⟩) rfl _)
  rw [hw1] at HS c3 c4
  have HW := Lib.hid hw1
  clear h1 h2 hne HF hw1
  go_enter Tryd.func36, Tryd.ntmps36
  go_wp2_with (first | rw [HW.out])
  go_ret
  exact ⟨rfl, HY.out, HS.out⟩
theorem Only.after {S T : Nat → Prop} {a b c : World} (h : Only S a b) (k : Only T b c) (hT : ∀ j, T j → a.heap.size ≤ j) : Only S a c :=
  ⟨k.os.trans h.os, k.tape.trans h.tape, k.output.trans h.output, Nat.le_trans h.size k.size, fun i hi hs => (k.block i (Nat.lt_of_lt_of_le hi h.size) (fun e => by have := hT i e; omega)).trans (h.block i hi hs)⟩
theorem own_ge {w : World} {H p : Nat} {sv R : Value} {s : List Val} (h : VmAt w H p sv s R) : ∀ k, vmS p sv k → H ≤ k := by
  rintro k (rfl | hk)
  · exact h.hp
  · exact (h.own.lt k hk).1
theorem int_eq {a b : Int} (h : a = b) : Value.int .i64 a = .int .i64 b := by rw [h]
theorem only_set3 {w : World} {b : Nat} (t n : Int) (s : ByteArray) : Only (· = b) w (((w.setCell ⟨b, 0, none⟩ (.int .i64 t)).setCell ⟨b, 1, none⟩ (.int .i64 n)).setCell ⟨b, 2, none⟩ (.string s)) :=
  (((Only.refl (· = b) w).setCell (p := ⟨b, 0, none⟩) rfl _).setCell (p := ⟨b, 1, none⟩) rfl _).setCell (p := ⟨b, 2, none⟩) rfl _
/-- A row of numbers behind a captured variable. -/
structure TrAt (w : World) (B b : Nat) (v : Value) (l : List Nat) : Prop where
  box : w.heap[b]? = some (.cells #[v] 59 (0, 0))
  own : w.ownsRow B 3 1 v l.length (intCells (l.map fun k : Nat => (k : Int)))
  far : v.ownBlock ≠ some b
theorem TrAt.only {S : Nat → Prop} {w w' : World} {B b : Nat} {v : Value} {l : List Nat} (h : TrAt w B b v l) (hy : Only S w w') (hb : ¬ S b) (hs : ∀ k, v.ownBlock = some k → ¬ S k) : TrAt w' B b v l :=
  ⟨(hy.block b (Array.getElem?_eq_some_iff.1 h.box).1 hb).trans h.box, hy.own h.own hs, h.far⟩
def trS (b : Nat) (v : Value) (k : Nat) : Prop := k = b ∨ v.ownBlock = some k
def EachSays (B b : Nat) (v : Value) (l : List Nat) (w : World) (e : Ending) (w' : World) : Prop :=
  e = .returned (.bool true) ∧ (∃ v', TrAt w' B b v' l ∧ ∀ k, v'.ownBlock = some k → v.ownBlock = some k ∨ w.heap.size ≤ k) ∧ Only (trS b v) w w'
theorem Only.after2 {S T : Nat → Prop} {a b c : World} (h : Only S a b) (k : Only T b c) (hT : ∀ j, T j → S j ∨ a.heap.size ≤ j) : Only S a c :=
  ⟨k.os.trans h.os, k.tape.trans h.tape, k.output.trans h.output, Nat.le_trans h.size k.size, fun i hi hs => (k.block i (Nat.lt_of_lt_of_le hi h.size) (fun e => (hT i e).elim hs (fun e => by omega))).trans (h.block i hi hs)⟩
theorem tr_put {w w1 w' : World} {B b g n cap : Nat} {v : Value} {l : List Nat} {k : Nat} (h : TrAt w B b v l) (hb : Below w.heap.size w w1) (hown : w'.ownsRow B 3 1 (.slice (some ⟨g, 0, none⟩) n cap) n (intCells ((l ++ [k]).map fun k : Nat => (k : Int)))) (hn : (l ++ [k]).length = n) (hg : w1.grownBy w' v.ownBlock) (hat : v.ownBlock = some g ∨ w.heap.size ≤ g) :
    (∃ u, w'.cell? ⟨b, 0, none⟩ = some u) ∧ w'.frozen? ⟨b, 0, none⟩ = false ∧ (∃ v', TrAt (w'.setCell ⟨b, 0, none⟩ (.slice (some ⟨g, 0, none⟩) n cap)) B b v' (l ++ [k]) ∧ ∀ k, v'.ownBlock = some k → v.ownBlock = some k ∨ w.heap.size ≤ k) ∧ Only (trS b v) w (w'.setCell ⟨b, 0, none⟩ (.slice (some ⟨g, 0, none⟩) n cap)) := by
  have hlt := (Array.getElem?_eq_some_iff.1 h.box).1
  have hb1 := (hb.block b hlt).trans h.box
  have hbp : w'.heap[b]? = some (.cells #[v] 59 (0, 0)) := (hg.block b (Array.getElem?_eq_some_iff.1 hb1).1 (fun e => h.far e.symm)).trans hb1
  have hgp : g ≠ b := by
    rcases hat with e | e
    · intro e2; subst e2; exact h.far e
    · omega
  subst hn
  refine ⟨⟨v, box1 hbp⟩, box_free (i := 0) hbp, ⟨.slice (some ⟨g, 0, none⟩) (l ++ [k]).length cap, ⟨?_, ?_, ?_⟩, fun j hj => ?_⟩, ?_⟩
  · exact box_set (i := 0) (.slice (some ⟨g, 0, none⟩) (l ++ [k]).length cap) hbp
  · exact own_other hown (by intro e; injection e with e; exact hgp e)
  · intro e; injection e with e; exact hgp e
  · injection hj with hj
    have hj : g = j := hj
    subst hj
    exact hat
  · exact ((Only.of_below hb).trans (Only.of_grown (S := trS b v) hg (fun k hk => Or.inr hk.symm))).setCell (p := ⟨b, 0, none⟩) (Or.inl rfl) _

/-- What run comes to, with fuel: n counts. -/
def RunSays (r : VmR) (bn : Nat) (W : World) (e : Ending) (w' : World) : Prop :=
  e = .returned (.tuple #[valV r.val, errV r.err]) ∧ OneI w' bn (r.done.length + (if r.err = 0 then 0 else 1)) ∧ Only (· = bn) W w'
set_option maxHeartbeats 16000000 in
set_option maxRecDepth 100000 in
theorem run_fuel_any (A0 : Option Addr) (n c : Nat) (code : List Ins) (AR : Option Addr) (nr cr : Nat) (row : List Val) (cols : List Col) (st : Sts) (t : Int) (bn bf F : Nat) (W0 W : World)
    (hW : Below W0.heap.size W0 W) (hC : SeesCode W0 A0 n c code) (hR : SeesVals W0 AR nr cr row) (hO : OpsT W0) (hT : LevelsT W0) (hn : n ≤ 1200) (hwf : ∀ x ∈ code, x.val.wf) (hS : Snd code cols st t) (hr : RowOk cols row)
    (h1 : OneI W bn 0) (h2 : OneI W bf F) (hne : bn ≠ bf) (hb : W0.heap.size ≤ bn) :
    Calls Tryd.prog 35 #[.slice A0 n c, .slice AR nr cr, .func (.func 36) #[] #[.pointer (some ⟨bn, 0, none⟩), .pointer (some ⟨bf, 0, none⟩)]] W (RunSays (runV code row (some F) 0 [] []) bn W) := by
  have hl := hC.1
  have hcc := hC.2.2.1
  have hcm := hC.2.2.2.1
  unfold maxLen at hcm
  obtain ⟨w1, hw1⟩ : ∃ w1, W.alloc (.cells #[.int .i64 0, .int .i64 0, .string ⟨#[]⟩] 23) = w1 := ⟨_, rfl⟩
  obtain ⟨w2, hw2⟩ : ∃ w2, w1.alloc (.cells #[.slice none 0 0, .slice AR nr cr] 143) = w2 := ⟨_, rfl⟩
  have hb1 : Below W.heap.size W w1 := by rw [← hw1]; exact belowNew _ _
  have hb2 : Below w1.heap.size w1 w2 := by rw [← hw2]; exact belowNew _ _
  have ho1 : Own3 w1 W.heap.size noVal := by rw [← hw1]; exact own3_new W noVal
  have hbox := heap_alloc_new w1 (.cells #[.slice none 0 0, .slice AR nr cr] 143)
  rw [hw2] at hbox
  have hs1 : w1.heap.size = W.heap.size + 1 := by rw [← hw1]; simp
  obtain ⟨p, hp⟩ : ∃ p, p = w1.heap.size := ⟨_, rfl⟩
  rw [← hp] at hbox
  have HVM := Lib.hid (show VmAt w2 p p (.slice none 0 0) [] (.slice AR nr cr) from ⟨hbox, World.ownsRow_nil _ _ _ _, Nat.le_refl _, fun e => by cases e⟩)
  have hbnW := (Array.getElem?_eq_some_iff.1 h1).1
  have hbfW := (Array.getElem?_eq_some_iff.1 h2).1
  have HO3 := Lib.hid (ho1.keep hb2)
  have HON := Lib.hid (show Only (· = bn) W w2 from Only.of_below (below_step hb1 hb2))
  have HN := Lib.hid (show OneI w2 bn 0 from h1.only (Only.of_below (S := fun _ => False) (below_step hb1 hb2)) (fun h => h))
  have HC := Lib.hid hC
  have HR := Lib.hid hR
  have HOT := Lib.hid hO
  have HLT := Lib.hid hT
  have HWF := Lib.hid hwf
  have HS := Lib.hid hS
  have HRO := Lib.hid hr
  have HBF := Lib.hid h2
  have HNE := Lib.hid hne
  have HW0 := Lib.hid hW
  have HLL := Lib.hid hl
  have HW1 := Lib.hid hw1
  have HW2 := Lib.hid hw2
  have HP := Lib.hid hp
  have hpW : p = W.heap.size + 1 := by omega
  have HPW := Lib.hid hpW
  obtain ⟨br, hbr⟩ : ∃ br, br = W.heap.size := ⟨_, rfl⟩
  rw [← hbr] at HO3
  have HBR := Lib.hid hbr
  have hz0 : IntKind.i64.wrap 1 = 1 := by decide
  have FARB := Lib.hid (fun (w' : World) (hy : Only (· = bn) W w') => show Below W0.heap.size W0 w' from hW.trans (hy.below hW.size (fun k hk => by have hk : k = bn := hk; omega)))
  clear hC hR hO hT hwf hS hr h1 h2 hne hW hl hw1 hw2 hb1 hb2 ho1 hbox hs1 hp hpW hbr
  have hmf : ∀ (fn : Fn) (first cap : Array Value) (w : World), (Instr.makeFunc fn first cap).run Tryd.prog w = .ok (.func fn first cap) w := fun _ _ _ _ => rfl
  go_enter Tryd.func35, Tryd.ntmps35
  go_wp2_with (first | rw [HW1.out] | rw [HW2.out])
  rw [← HP.out, ← HBR.out]
  clear hmf
  go_loopw [9] (fun u wx => ∃ (k : Nat) (done : List Nat) (s : List Val) (sv : Value) (l : List Int), k ≤ n ∧ u = .int .i64 k ∧ runV code row (some F) 0 [] [] = runV code row (some F) k done s ∧ done.length ≤ F ∧ done.length ≤ k ∧ st.getD k none = some l ∧ StkOk s l ∧ VmAt wx p p sv s (.slice AR nr cr) ∧ Own3 wx br noVal ∧ OneI wx bn done.length ∧ Only (· = bn) W wx) (fun u _ => n - (intOf u).toNat)
  case atStart => exact ⟨0, [], [], _, [], by omega, rfl, rfl, by simp, by simp, HS.out.start, ⟨by simp, rfl⟩, HVM.out, HO3.out, HN.out, HON.out⟩
  case round =>
    obtain ⟨k, done, s, sv, l, hk, rfl, hrun, hdF, hdk, hst, hsk, hvm, ho3, hone, hon⟩ := hrel
    have HRUN := Lib.hid hrun
    have HST := Lib.hid hst
    have HSK := Lib.hid hsk
    have HVM := Lib.hid hvm
    have HO3 := Lib.hid ho3
    have HONE := Lib.hid hone
    have HON := Lib.hid hon
    have hge := Lib.hid (own_ge hvm)
    have hplt := hvm.lt
    clear hrun hst hsk hvm ho3 hone hon
    by_cases hkn : k < n
    · have TE := Lib.hid (each_fuel k bn bf done.length F wr HONE.out (HBF.out.only HON.out (fun e => HNE.out e.symm)) HNE.out (by omega) (by omega))
      go_wp2_with fail
      refine (TE.out).mono ?_
      rintro e w3 ⟨rfl, hy3, hn3⟩
      have HN3 := Lib.hid hn3
      have HON3 := Lib.hid (HON.out.trans hy3)
      have HBW3 := Lib.hid (FARB.out w3 HON3.out)
      have HVM3 := Lib.hid (HVM.out.only hy3 (show ¬ p = bn by have := HPW.out; omega) (fun j hj e => by have h1 := hge.out j (Or.inr hj); have e : j = bn := e; have := HPW.out; omega))
      have HO33 := Lib.hid (HO3.out.only hy3 (show ¬ br = bn by have := HBR.out; omega))
      obtain ⟨gC, oC, x, rfl, hg, hx, c0, c1, c2, c3, c4⟩ := (HC.out.keep HBW3.out).at_ hkn
      have HX := Lib.hid hx
      have hp3 := HVM3.out.lt
      clear hy3 hn3 hx
      by_cases hf : done.length = F
      · have E := Lib.hid (HRUN.out.trans (runV_out HX.out (by rw [hf])))
        have d0 : decide ((done.length : Int) + 1 ≤ (F : Int)) = false := decide_eq_false (by omega)
        clear hf
        rw [d0]
        clear d0 c0 c1 c2 c3 c4
        obtain ⟨o0, o1, o2, z0, z1, z2, hlt⟩ := HO33.out.cells
        go_wp2_with fail
        have HW4 := own3_set HO33.out 0 0 ⟨#[]⟩
        have HY4 := HON3.out.after (only_set3 (w := w3) (b := br) 0 0 ⟨#[]⟩) (fun j hj => by have hj : j = br := hj; have := HBR.out; omega)
        have HN4 := HN3.out.only (only_set3 (w := w3) (b := br) 0 0 ⟨#[]⟩) (fun e => by have e : bn = br := e; have := HBR.out; omega)
        generalize ((w3.setCell ⟨br, 0, none⟩ (.int .i64 0)).setCell ⟨br, 1, none⟩ (.int .i64 0)).setCell ⟨br, 2, none⟩ (.string ⟨#[]⟩) = w9 at HW4 HY4 HN4 ⊢
        clear o0 o1 o2 z0 z1 z2 hlt
        obtain ⟨o0, o1, o2, z0, z1, z2, hlt⟩ := HW4.cells
        unfold RunSays
        rw [E.out]
        exact bodyPost_ret (v := .tuple #[valV noVal, errV 10]) (by simp [results, Tryd.results35, go_sem, o0, o1, o2, valV, errV, noVal]) rfl ⟨rfl, by rw [if_neg (show ¬ (10 : Int) = 0 by decide)]; exact HN4, HY4⟩
      · have d0 : decide ((done.length : Int) + 1 ≤ (F : Int)) = true := decide_eq_true (by omega)
        have HNF := Lib.hid (show (some F : Option Nat) ≠ some done.length from fun e => hf (by injection e with e; exact e.symm))
        have hdF' : done.length + 1 ≤ F := by omega
        clear hf
        rw [d0]
        clear d0
        obtain ⟨ha, hc', h64⟩ := snd_here HS.out HX.out HST.out
        have TD := Lib.hid (do_any p p sv s AR nr cr row x cols l code.length k w3 HVM3.out (by omega) (HR.out.keep HBW3.out) (HOT.out.keep HBW3.out) (HLT.out.keep HBW3.out) HRO.out HSK.out h64 ha hc')
        unfold insV at TD
        have HERR := Lib.hid (do_err HRO.out (HWF.out x (List.mem_of_getElem? HX.out)) HSK.out ha hc')
        have HNX := Lib.hid (snd_next HS.out HRO.out HWF.out HX.out HST.out HSK.out)
        have HGO := Lib.hid (runV_go (row := row) (s := s) HX.out HNF.out)
        have HBAD := Lib.hid (runV_bad (row := row) (s := s) HX.out HNF.out)
        obtain ⟨r, hr⟩ : ∃ r, r = doP row x s := ⟨_, rfl⟩
        rw [← hr] at TD HERR HNX HGO HBAD
        rw [HLL.out] at HNX
        clear hr ha hc' h64
        go_wp2_with fail
        refine (TD.out).mono ?_
        rintro e w4 ⟨rfl, hto, hy4⟩
        have HON4 := Lib.hid (HON3.out.after hy4 (fun j hj => by have := hge.out j hj; have := HPW.out; omega))
        have HO34 := Lib.hid (HO33.out.only hy4 (fun e => by have := hge.out br e; have := HPW.out; have := HBR.out; omega))
        have HN4 := Lib.hid (HN3.out.only hy4 (fun e => by have := hge.out bn e; have := HPW.out; omega))
        clear hy4 c0 c1 c2 c3 c4
        by_cases h0 : r.1 = 0
        · obtain ⟨l', q1, q2, q3⟩ := HNX.out h0
          obtain ⟨⟨sv', hvm', -⟩, -⟩ := hto h0
          have HQ1 := Lib.hid q1
          have HQ2 := Lib.hid q2
          have HV4 := Lib.hid hvm'
          have HR2 := Lib.hid (HRUN.out.trans (HGO.out h0))
          rw [h0, errV_zero]
          clear h0 hto q1 q2 hvm' HNX HGO HBAD HERR
          go_wp2_with fail
          go_roundw
          case rel => exact ⟨k + 1 + r.2.2, done ++ [k], r.2.1, sv', l', by omega, int_eq (by omega), HR2.out, by rw [List.length_append]; exact hdF', by rw [List.length_append]; show done.length + 1 ≤ _; omega, HQ1.out, HQ2.out, HV4.out, HO34.out, by rw [List.length_append]; exact HN4.out, HON4.out⟩
          case measure => simp [intOf]; omega
        · have E := Lib.hid (HRUN.out.trans (HBAD.out h0))
          have HNE0 := Lib.hid h0
          rw [errV_ne h0]
          clear h0 hto HNX HGO HBAD HERR
          obtain ⟨o0, o1, o2, z0, z1, z2, hlt⟩ := HO34.out.cells
          go_wp2_with fail
          have HW4 := own3_set HO34.out 0 0 ⟨#[]⟩
          have HY4 := HON4.out.after (only_set3 (w := w4) (b := br) 0 0 ⟨#[]⟩) (fun j hj => by have hj : j = br := hj; have := HBR.out; omega)
          have HN4 := HN4.out.only (only_set3 (w := w4) (b := br) 0 0 ⟨#[]⟩) (fun e => by have e : bn = br := e; have := HBR.out; omega)
          generalize ((w4.setCell ⟨br, 0, none⟩ (.int .i64 0)).setCell ⟨br, 1, none⟩ (.int .i64 0)).setCell ⟨br, 2, none⟩ (.string ⟨#[]⟩) = w9 at HW4 HY4 HN4 ⊢
          clear o0 o1 o2 z0 z1 z2 hlt
          obtain ⟨o0, o1, o2, z0, z1, z2, hlt⟩ := HW4.cells
          unfold RunSays
          rw [E.out]
          exact bodyPost_ret (v := .tuple #[valV noVal, errV r.1]) (by simp [results, Tryd.results35, go_sem, o0, o1, o2, valV, errV_ne HNE0.out, noVal]) rfl ⟨rfl, by rw [if_neg HNE0.out]; exact HN4, HY4⟩
    · obtain rfl : k = n := by omega
      have E := Lib.hid (HRUN.out.trans (runV_end (by rw [HLL.out]; exact Nat.le_refl _)))
      have hsl : s.length = 1 := by
        have h1 := HSK.out.len
        have h2 := HS.out.stop
        rw [HLL.out, HST.out] at h2
        injection h2 with h2
        rw [h1, h2]; rfl
      obtain ⟨v, rfl⟩ : ∃ v, s = [v] := by
        match s, hsl with
        | [v], _ => exact ⟨v, rfl⟩
      obtain ⟨g, cap, j, rfl, hj⟩ := vm_shape (k := 1) HVM.out (by simp) (by decide)
      obtain rfl : j = 0 := by simp at hj; omega
      obtain ⟨g', o', v', eA, hg', hv', y0, y1, y2⟩ := (vals_drop HVM.out hj).at_ (show 0 < 1 by decide)
      injection eA with eA
      injection eA with e1 e2
      subst e1 e2
      obtain rfl : v = v' := Option.some.inj hv'
      simp only [Nat.zero_mul, Nat.add_zero, Nat.zero_add] at y0 y1 y2
      have b0 := (box2 HVM.out.box).1
      obtain ⟨o0, o1, o2, z0, z1, z2, hlt⟩ := HO3.out.cells
      have hgb : g ≠ br := by have := hge.out g (Or.inr rfl); have := HPW.out; have := HBR.out; omega
      clear hsl hj hv'
      go_wp2_with fail
      have HW4 := own3_set HO3.out v.type v.n v.s
      have HY4 := HON.out.after (only_set3 (w := wr) (b := br) v.type v.n v.s) (fun j hj => by have hj : j = br := hj; have := HBR.out; omega)
      have HN4 := HONE.out.only (only_set3 (w := wr) (b := br) v.type v.n v.s) (fun e => by have e : bn = br := e; have := HBR.out; omega)
      generalize ((wr.setCell ⟨br, 0, none⟩ (.int .i64 v.type)).setCell ⟨br, 1, none⟩ (.int .i64 v.n)).setCell ⟨br, 2, none⟩ (.string v.s) = w9 at HW4 HY4 HN4 ⊢
      clear o0 o1 o2 z0 z1 z2 hlt
      obtain ⟨o0, o1, o2, z0, z1, z2, hlt⟩ := HW4.cells
      unfold RunSays
      rw [E.out]
      exact bodyPost_ret (v := .tuple #[valV v, errV 0]) (by simp [results, Tryd.results35, go_sem, o0, o1, o2, valV, errV]) rfl ⟨rfl, by rw [if_pos rfl, Int.add_zero]; exact HN4, HY4⟩

/-- What run comes to, traced. -/
def TraceSays (r : VmR) (bo : Nat) (W : World) (e : Ending) (w' : World) : Prop :=
  e = .returned (.tuple #[valV r.val, errV r.err]) ∧ (r.err = 0 → ∃ ov, TrAt w' W.heap.size bo ov r.done) ∧ Only (· = bo) W w'
end Go.Proofs.YthmbafkedgahaaaDoor
namespace Go.Proofs.YthmbafkedgahaaaDoor
open Go.ChangeShapes Go.WideShapes Go.ChangeAt Go.RowKit

theorem rowOk_of {cols : List Col} {r : List Val} (h : rowErr cols r = 0) (hw : ∀ v ∈ r, v.wf) : schemaErr cols = 0 ∧ RowOk cols r := by
  unfold rowErr at h
  by_cases h1 : schemaErr cols ≠ 0
  · rw [if_pos h1] at h; exact absurd h h1
  rw [if_neg h1] at h
  by_cases h2 : r.length ≠ cols.length
  · rw [if_pos h2] at h; exact absurd h (by decide)
  rw [if_neg h2] at h
  have hl : r.length = cols.length := by simpa using h2
  have hall := firstErr_all h
  have hat : ∀ (i : Nat) (c : Col) (v : Val), cols[i]? = some c → r[i]? = some v → vcheck v = 0 ∧ v.type = c.type := by
    intro i c v hc hv
    have := hall i (List.getElem?_eq_some_iff.1 hv).1
    rw [rowAt_get hv hc] at this
    by_cases q1 : vcheck v ≠ 0
    · rw [if_pos q1] at this; exact absurd this q1
    · rw [if_neg q1] at this
      by_cases q2 : v.type ≠ c.type
      · rw [if_pos q2] at this; exact absurd this (by decide)
      · exact ⟨by simpa using q1, by simpa using q2⟩
  refine ⟨by simpa using h1, hl, fun v hv => ?_, fun i c v hc hv => (hat i c v hc hv).2⟩
  obtain ⟨i, hi⟩ := List.mem_iff_getElem?.1 hv
  have hlt := (List.getElem?_eq_some_iff.1 hi).1
  exact ⟨hw v hv, (hat i _ v (List.getElem?_eq_getElem (by omega)) hi).1⟩
theorem cell_self {w : World} {b : Nat} {cs : Array Value} {t : TypeId} (h : w.heap[b]? = some (.cells cs t (0, 0))) (j : Nat) (u : Value) (hu : cs[j]? = some u) : w.setCell ⟨b, j, none⟩ u = w := by
  have hs := heap_setCell_same w b j cs t u h
  have e : (w.setCell ⟨b, j, none⟩ u).heap = w.heap := by
    apply Array.ext_getElem?
    intro i
    by_cases hi : i = b
    · subst hi
      rw [hs, h]
      congr 2
      apply Array.ext_getElem?
      intro k
      rw [Array.getElem?_setIfInBounds]
      split
      · rename_i hk
        subst hk
        rw [hu, if_pos (Array.getElem?_eq_some_iff.1 hu).1]
      · rfl
    · exact heap_setCell_other _ _ _ _ hi
  rw [show w.setCell ⟨b, j, none⟩ u = { w with heap := (w.setCell ⟨b, j, none⟩ u).heap } from rfl, e]
def readyErr (code : List Ins) (cols : List Col) (row : List Val) : Int := if (verP code cols).err ≠ 0 then (verP code cols).err else rowErr cols row
/-- What Run comes to: the fault, how many were done, the value. -/
def vmRun (code : List Ins) (cols : List Col) (row : List Val) (fuel : Int) : Int × Nat × Val :=
  if readyErr code cols row ≠ 0 then (readyErr code cols row, 0, noVal) else if fuel < 0 ∨ 1000000 < fuel then (1, 0, noVal) else
  ((runV code row (some fuel.toNat) 0 [] []).err, (runV code row (some fuel.toNat) 0 [] []).done.length, (runV code row (some fuel.toNat) 0 [] []).val)
/-- What Trace comes to. -/
def vmTrace (code : List Ins) (cols : List Col) (row : List Val) : Int × List Nat :=
  if readyErr code cols row ≠ 0 then (readyErr code cols row, []) else if (runV code row none 0 [] []).err ≠ 0 then ((runV code row none 0 [] []).err, []) else (0, (runV code row none 0 [] []).done)
def RunTopSays (x : Int × Nat × Val) (W : World) (e : Ending) (w' : World) : Prop := e = .returned (.tuple #[valV x.2.2, .int .i64 x.2.1, errV x.1]) ∧ Below W.heap.size W w'
def TraceTopSays (x : Int × List Nat) (W : World) (e : Ending) (w' : World) : Prop :=
  ∃ A m c', e = .returned (.tuple #[.slice A m c', errV x.1]) ∧ Sees w' A m c' 1 (intCells (x.2.map fun k : Nat => (k : Int))) ∧ x.2.length = m ∧ Below W.heap.size W w'
section
variable (A0 : Option Addr) (n c : Nat) (code : List Ins) (K : Option Addr) (nk ck : Nat) (cols : List Col) (AR : Option Addr) (nr cr : Nat) (row : List Val) (W : World) (hC : SeesCode W A0 n c code) (hK : SeesCols W K nk ck cols) (hs : ∀ x ∈ cols, x.name.size ≤ maxLen) (hR : SeesVals W AR nr cr row) (hO : OpsT W) (hT : LevelsT W)
include hC hK hs hR hO hT
set_option maxHeartbeats 2000000 in
theorem ready_any : Calls Tryd.prog 34 #[.slice A0 n c, .slice K nk ck, .slice AR nr cr] W fun e w' => e = .returned (errV (readyErr code cols row)) ∧ Below W.heap.size W w' := by
  have T := Lib.hid (vecheck_any A0 n c code K nk ck cols W hC hK hs hO hT)
  have TR := Lib.hid (fun w' hb => rowCheck_any cols row K AR nk ck nr cr w' (hK.keep (w' := w') hb) hs (hR.keep hb))
  have HE := Lib.hid (show readyErr code cols row = if (verP code cols).err ≠ 0 then (verP code cols).err else rowErr cols row from rfl)
  obtain ⟨v, hv⟩ : ∃ v, v = verP code cols := ⟨_, rfl⟩
  rw [← hv] at T HE
  clear hC hK hs hR hO hT hv
  go_enter Tryd.func34, Tryd.ntmps34
  go_wp2_with fail
  refine (T.out).mono ?_
  rintro e w1 ⟨rfl, hb⟩
  have HB := Lib.hid hb
  clear hb
  by_cases h0 : v.err = 0
  · rw [h0, errV_zero]
    have E := Lib.hid (HE.out.trans (if_neg (by simpa using h0)))
    clear h0
    go_wp2_with fail
    refine (TR.out w1 HB.out).mono ?_
    rintro e w2 ⟨rfl, hb⟩
    have HB2 := Lib.hid (below_step HB.out hb)
    clear hb
    go_wp2_with fail
    go_ret
    exact ⟨by rw [E.out]; rfl, HB2.out⟩
  · have E := Lib.hid (HE.out.trans (if_pos h0))
    have HNE := Lib.hid h0
    rw [errV_ne h0]
    clear h0
    go_wp2_with fail
    go_ret
    exact ⟨by rw [E.out, errV_ne HNE.out]; rfl, HB.out⟩
set_option maxHeartbeats 8000000 in
set_option maxRecDepth 100000 in
theorem vmrun_any (fuel : Int) (hwf : ∀ x ∈ code, x.val.wf) (hwr : ∀ v ∈ row, v.wf) :
    Calls Tryd.prog 11 #[.slice A0 n c, .slice K nk ck, .slice AR nr cr, .int .i64 fuel] W (RunTopSays (vmRun code cols row fuel) W) := by
  have T := Lib.hid (fun w' hb => ready_any A0 n c code K nk ck cols AR nr cr row w' (hC.keep (w' := w') hb) (hK.keep hb) hs (hR.keep hb) (hO.keep hb) (hT.keep hb))
  have HE := Lib.hid (show vmRun code cols row fuel = if readyErr code cols row ≠ 0 then (readyErr code cols row, 0, noVal) else if fuel < 0 ∨ 1000000 < fuel then (1, 0, noVal) else
    ((runV code row (some fuel.toNat) 0 [] []).err, (runV code row (some fuel.toNat) 0 [] []).done.length, (runV code row (some fuel.toNat) 0 [] []).val) from rfl)
  obtain ⟨w1, hw1⟩ : ∃ w1, W.alloc (.cells #[.int .i64 fuel] 3) = w1 := ⟨_, rfl⟩
  obtain ⟨w2, hw2⟩ : ∃ w2, w1.alloc (.cells #[.int .i64 0, .int .i64 0, .string ⟨#[]⟩] 23) = w2 := ⟨_, rfl⟩
  have hb1 : Below W.heap.size W w1 := by rw [← hw1]; exact belowNew _ _
  have hb2 : Below w1.heap.size w1 w2 := by rw [← hw2]; exact belowNew _ _
  have hf1 : OneI w1 W.heap.size fuel := by rw [← hw1]; exact heap_alloc_new W _
  have ho1 : Own3 w2 w1.heap.size noVal := by rw [← hw2]; exact own3_new w1 noVal
  have hs1 : w1.heap.size = W.heap.size + 1 := by rw [← hw1]; simp
  have HB := Lib.hid (below_step hb1 hb2)
  have HF2 := Lib.hid (show OneI w2 W.heap.size fuel from (hb2.block W.heap.size (by omega)).trans hf1)
  have HO2 := Lib.hid ho1
  have HS1 := Lib.hid hs1
  have HS2 := Lib.hid (show w2.heap.size = W.heap.size + 2 by rw [← hw2]; simp [hs1])
  have HW1 := Lib.hid hw1
  have HW2 := Lib.hid hw2
  have HC := Lib.hid hC
  have HR := Lib.hid hR
  have HOT := Lib.hid hO
  have HLT := Lib.hid hT
  have HWF := Lib.hid hwf
  have HWR := Lib.hid hwr
  clear hC hK hs hR hO hT hwf hwr hw1 hw2 hb1 hb2 hf1 ho1 hs1
  go_enter Tryd.func11, Tryd.ntmps11
  go_wp2_with (first | rw [HW1.out] | rw [HW2.out])
  refine (T.out w2 HB.out).mono ?_
  rintro e w3 ⟨rfl, hb⟩
  rw [HS1.out]
  have HB3 := Lib.hid (below_step HB.out hb)
  have HF3 := Lib.hid (show OneI w3 W.heap.size fuel from (hb.block W.heap.size (by rw [HS2.out]; omega)).trans HF2.out)
  have HO3 := Lib.hid (HO2.out.keep hb)
  rw [HS1.out] at HO3
  have HS3 := Lib.hid hb.size
  clear hb
  obtain ⟨re, hre⟩ : ∃ re, re = readyErr code cols row := ⟨_, rfl⟩
  rw [← hre] at HE ⊢
  have HRE := Lib.hid hre
  clear hre
  have hbf : W.heap.size < w3.heap.size := by have := HS3.out; have := HS2.out; omega
  by_cases h0 : re = 0
  · rw [h0, errV_zero]
    have HE2 := Lib.hid (HE.out.trans (if_neg (by simpa using h0)))
    have HRE0 := Lib.hid (HRE.out.symm.trans h0)
    clear h0 HE
    have b0 := box1 HF3.out
    by_cases hf0 : fuel < 0
    · have d1 : decide (fuel < 0) = true := decide_eq_true hf0
      have E := Lib.hid (HE2.out.trans (if_pos (Or.inl hf0)))
      clear hf0 HE2
      obtain ⟨o0, o1, o2, z0, z1, z2, hlt⟩ := HO3.out.cells
      go_wp2_with fail
      have HO9 := own3_set HO3.out 0 0 ⟨#[]⟩
      have HB9 := Lib.hid (below_set3 HB3.out (show W.heap.size ≤ W.heap.size + 1 by omega) 0 0 ⟨#[]⟩)
      generalize ((w3.setCell ⟨W.heap.size + 1, 0, none⟩ (.int .i64 0)).setCell ⟨W.heap.size + 1, 1, none⟩ (.int .i64 0)).setCell ⟨W.heap.size + 1, 2, none⟩ (.string ⟨#[]⟩) = w9 at HO9 HB9 ⊢
      clear o0 o1 o2 z0 z1 z2 hlt
      obtain ⟨o0, o1, o2, z0, z1, z2, hlt⟩ := HO9.cells
      unfold RunTopSays
      rw [E.out]
      exact bodyPost_ret (v := .tuple #[valV noVal, .int .i64 0, errV 1]) (by simp [results, Tryd.results11, go_sem, o0, o1, o2, valV, errV, noVal]) rfl ⟨rfl, HB9.out⟩
    have d1 : decide (fuel < 0) = false := decide_eq_false hf0
    by_cases hf1 : 1000000 < fuel
    · have d2 : decide (1000000 < fuel) = true := decide_eq_true hf1
      have E := Lib.hid (HE2.out.trans (if_pos (Or.inr hf1)))
      clear hf0 hf1 HE2
      obtain ⟨o0, o1, o2, z0, z1, z2, hlt⟩ := HO3.out.cells
      go_wp2_with fail
      have HO9 := own3_set HO3.out 0 0 ⟨#[]⟩
      have HB9 := Lib.hid (below_set3 HB3.out (show W.heap.size ≤ W.heap.size + 1 by omega) 0 0 ⟨#[]⟩)
      generalize ((w3.setCell ⟨W.heap.size + 1, 0, none⟩ (.int .i64 0)).setCell ⟨W.heap.size + 1, 1, none⟩ (.int .i64 0)).setCell ⟨W.heap.size + 1, 2, none⟩ (.string ⟨#[]⟩) = w9 at HO9 HB9 ⊢
      clear o0 o1 o2 z0 z1 z2 hlt
      obtain ⟨o0, o1, o2, z0, z1, z2, hlt⟩ := HO9.cells
      unfold RunTopSays
      rw [E.out]
      exact bodyPost_ret (v := .tuple #[valV noVal, .int .i64 0, errV 1]) (by simp [results, Tryd.results11, go_sem, o0, o1, o2, valV, errV, noVal]) rfl ⟨rfl, HB9.out⟩
    have d2 : decide (1000000 < fuel) = false := decide_eq_false hf1
    have HE3 := Lib.hid (HE2.out.trans (if_neg (by omega)))
    obtain ⟨F, rfl⟩ : ∃ F : Nat, fuel = F := ⟨fuel.toNat, by omega⟩
    rw [Int.toNat_natCast] at HE3
    have hve : (verP code cols).err = 0 := by
      have h := HRE0.out
      unfold readyErr at h
      by_cases hv : (verP code cols).err ≠ 0
      · rw [if_pos hv] at h; exact absurd h hv
      · simpa using hv
    have hro : rowErr cols row = 0 := by
      have h := HRE0.out
      unfold readyErr at h
      rw [if_neg (by simpa using hve)] at h
      exact h
    obtain ⟨hlen, -, st, hsnd⟩ := snd_of hve
    obtain ⟨-, hrok⟩ := rowOk_of hro HWR.out
    obtain ⟨w4, hw4⟩ : ∃ w4, w3.alloc (.cells #[.int .i64 0] 3) = w4 := ⟨_, rfl⟩
    have hb4 : Below w3.heap.size w3 w4 := by rw [← hw4]; exact belowNew _ _
    have hn4 : OneI w4 w3.heap.size 0 := by rw [← hw4]; exact heap_alloc_new w3 _
    have HB4 := Lib.hid (below_step HB3.out hb4)
    have HO4 := Lib.hid (HO3.out.keep hb4)
    have TR := Lib.hid (run_fuel_any A0 n c code AR nr cr row cols st _ w3.heap.size W.heap.size F W w4 HB4.out HC.out HR.out HOT.out HLT.out (by rw [← HC.out.1]; exact hlen) HWF.out hsnd hrok hn4 ((hb4.block W.heap.size hbf).trans HF3.out) (by omega) (by omega))
    have HW4 := Lib.hid hw4
    have HSELF := Lib.hid (cell_self hn4 0 (.int .i64 0) rfl)
    have n40 := box1 hn4
    have n4f := box_free (i := 0) hn4
    have HS3L := Lib.hid (show W.heap.size + 1 < w3.heap.size by have := HS3.out; have := HS2.out; omega)
    have HRV := Lib.hid (show runV code row (some F) 0 [] [] = runV code row (some F) 0 [] [] from rfl)
    have HSND := Lib.hid (run_sound hsnd hrok HWF.out (some F) 0 [] [] (by omega) hsnd.start ⟨by simp, rfl⟩)
    have HDL := Lib.hid (show (runV code row (some F) 0 [] []).done.length ≤ 1200 by
      obtain ⟨l, h1, h2, -, -⟩ := run_done (code := code) (row := row) (fuel := some F) 0 [] []
      rw [h1, List.nil_append]; omega)
    obtain ⟨r, hr⟩ : ∃ r, r = runV code row (some F) 0 [] [] := ⟨_, rfl⟩
    rw [← hr] at TR HE3 HDL HSND
    have hdl := HDL.out
    clear hve hro hlen hsnd hrok hw4 hb4 hn4 hr hf0 hf1 HE2 HRV
    go_wp2_with (first | rw [HW4.out] | rw [HSELF.out])
    refine (TR.out).mono ?_
    rintro e w5 ⟨rfl, hn5, hy5⟩
    have HN5 := Lib.hid hn5
    have HO5 := Lib.hid (HO4.out.only hy5 (fun e => by have e : W.heap.size + 1 = w3.heap.size := e; have := HS3L.out; omega))
    have HB5 := Lib.hid (HB4.out.trans (hy5.below HB4.out.size (fun k hk => by have hk : k = w3.heap.size := hk; omega)))
    have hlt5 := (Array.getElem?_eq_some_iff.1 hn5).1
    clear hn5 hy5 n40 n4f
    unfold valV
    obtain ⟨w6, hw6⟩ : ∃ w6, w5.alloc (.cells #[.int .i64 r.val.type, .int .i64 r.val.n, .string r.val.s] 23) = w6 := ⟨_, rfl⟩
    have hb6 : Below w5.heap.size w5 w6 := by rw [← hw6]; exact belowNew _ _
    have hv6 := heap_alloc_new w5 (.cells #[.int .i64 r.val.type, .int .i64 r.val.n, .string r.val.s] 23)
    rw [hw6] at hv6
    have HB6 := Lib.hid (below_step HB5.out hb6)
    have HO6 := Lib.hid (HO5.out.keep hb6)
    have HN6 := Lib.hid ((hb6.block w3.heap.size hlt5).trans HN5.out)
    have HV6 := Lib.hid hv6
    have HW6 := Lib.hid hw6
    have HLT5 := Lib.hid (show w3.heap.size < w5.heap.size from hlt5)
    obtain ⟨v0, v1, v2⟩ := box3 hv6
    clear hw6 hb6 hv6 b0
    by_cases hr0 : r.err = 0
    · rw [hr0, errV_zero]
      have E := Lib.hid (HE3.out.trans (by rw [hr0]))
      have HN7 := Lib.hid (show OneI w6 w3.heap.size r.done.length by have := HN6.out; rw [if_pos hr0, Int.add_zero] at this; exact this)
      clear hr0
      have n0 := box1 HN7.out
      have nx : (w6.setCell ⟨W.heap.size + 1, 0, none⟩ (.int .i64 r.val.type)).cell? ⟨w3.heap.size, 0, none⟩ = some (.int .i64 r.done.length) := (World.cell?_of_block (w := w6) (a := ⟨w3.heap.size, 0, none⟩) (heap_setCell_other _ _ _ _ (by have := HS3L.out; show w3.heap.size ≠ W.heap.size + 1; omega))).trans n0
      obtain ⟨o0, o1, o2, z0, z1, z2, hlt⟩ := HO6.out.cells
      go_wp2_with (first | rw [HW6.out])
      go_region_law (fail)
      all_goals
        go_wp2_with fail
        have HO9 := (own3_set HO6.out r.val.type r.val.n r.val.s).drew
        have HB9 := Lib.hid ((below_set3 HB6.out (show W.heap.size ≤ W.heap.size + 1 by omega) r.val.type r.val.n r.val.s).drew)
        generalize (((w6.setCell ⟨W.heap.size + 1, 0, none⟩ (.int .i64 r.val.type)).setCell ⟨W.heap.size + 1, 1, none⟩ (.int .i64 r.val.n)).setCell ⟨W.heap.size + 1, 2, none⟩ (.string r.val.s)).drew = w9 at HO9 HB9 ⊢
        clear o0 o1 o2 z0 z1 z2 hlt
        obtain ⟨o0, o1, o2, z0, z1, z2, hlt⟩ := HO9.cells
        unfold RunTopSays
        rw [E.out]
        exact bodyPost_ret (v := .tuple #[valV r.val, .int .i64 r.done.length, errV 0]) (by simp [results, Tryd.results11, go_sem, o0, o1, o2, valV, errV]) rfl ⟨rfl, HB9.out⟩
    · rw [errV_ne hr0]
      have E := HE3
      have HNE := Lib.hid hr0
      have HN7 := Lib.hid (show OneI w6 w3.heap.size (r.done.length + 1) by have := HN6.out; rw [if_neg hr0] at this; exact this)
      clear hr0
      have n0 := box1 HN7.out
      have nf := box_free (i := 0) HN7.out
      obtain ⟨w7, hw7⟩ : ∃ w7, w6.setCell ⟨w3.heap.size, 0, none⟩ (.int .i64 r.done.length) = w7 := ⟨_, rfl⟩
      have hy7 : Only (· = w3.heap.size) w6 w7 := by rw [← hw7]; exact (Only.refl (· = w3.heap.size) w6).setCell (p := ⟨w3.heap.size, 0, none⟩) rfl _
      have hn7 : OneI w7 w3.heap.size r.done.length := by rw [← hw7]; exact box_set (i := 0) _ HN7.out
      have HO7 := Lib.hid (HO6.out.only hy7 (fun e => by have e : W.heap.size + 1 = w3.heap.size := e; have := HS3L.out; omega))
      have HB7 := Lib.hid (HB6.out.trans (hy7.below HB6.out.size (fun k hk => by have hk : k = w3.heap.size := hk; omega)))
      have hv7 := (hy7.block w5.heap.size (Array.getElem?_eq_some_iff.1 HV6.out).1 (fun e => by have e : w5.heap.size = w3.heap.size := e; have := HLT5.out; omega)).trans HV6.out
      have m0 := box1 hn7
      obtain ⟨u0, u1, u2⟩ := box3 hv7
      have nx : (w7.setCell ⟨W.heap.size + 1, 0, none⟩ (.int .i64 r.val.type)).cell? ⟨w3.heap.size, 0, none⟩ = some (.int .i64 r.done.length) := (World.cell?_of_block (w := w7) (a := ⟨w3.heap.size, 0, none⟩) (heap_setCell_other _ _ _ _ (by have := HS3L.out; show w3.heap.size ≠ W.heap.size + 1; omega))).trans m0
      have HW7 := Lib.hid hw7
      clear hy7 hn7 hv7 hw7
      obtain ⟨o0, o1, o2, z0, z1, z2, hlt⟩ := HO7.out.cells
      go_wp2_with (first | rw [HW6.out] | rw [HW7.out])
      go_region_law (fail)
      all_goals
        go_wp2_with fail
        have HO9 := (own3_set HO7.out r.val.type r.val.n r.val.s).drew
        have HB9 := Lib.hid ((below_set3 HB7.out (show W.heap.size ≤ W.heap.size + 1 by omega) r.val.type r.val.n r.val.s).drew)
        generalize (((w7.setCell ⟨W.heap.size + 1, 0, none⟩ (.int .i64 r.val.type)).setCell ⟨W.heap.size + 1, 1, none⟩ (.int .i64 r.val.n)).setCell ⟨W.heap.size + 1, 2, none⟩ (.string r.val.s)).drew = w9 at HO9 HB9 ⊢
        clear o0 o1 o2 z0 z1 z2 hlt
        obtain ⟨o0, o1, o2, z0, z1, z2, hlt⟩ := HO9.cells
        unfold RunTopSays
        rw [E.out]
        exact bodyPost_ret (v := .tuple #[valV r.val, .int .i64 r.done.length, errV r.err]) (by simp [results, Tryd.results11, go_sem, o0, o1, o2, valV, errV_ne HNE.out]) rfl ⟨rfl, HB9.out⟩
  · have E := Lib.hid (HE.out.trans (if_pos h0))
    have HNE := Lib.hid h0
    rw [errV_ne h0]
    clear h0 HE
    obtain ⟨o0, o1, o2, z0, z1, z2, hlt⟩ := HO3.out.cells
    go_wp2_with fail
    have HO9 := own3_set HO3.out 0 0 ⟨#[]⟩
    have HB9 := Lib.hid (below_set3 HB3.out (show W.heap.size ≤ W.heap.size + 1 by omega) 0 0 ⟨#[]⟩)
    generalize ((w3.setCell ⟨W.heap.size + 1, 0, none⟩ (.int .i64 0)).setCell ⟨W.heap.size + 1, 1, none⟩ (.int .i64 0)).setCell ⟨W.heap.size + 1, 2, none⟩ (.string ⟨#[]⟩) = w9 at HO9 HB9 ⊢
    clear o0 o1 o2 z0 z1 z2 hlt
    obtain ⟨o0, o1, o2, z0, z1, z2, hlt⟩ := HO9.cells
    unfold RunTopSays
    rw [E.out]
    exact bodyPost_ret (v := .tuple #[valV noVal, .int .i64 0, errV re]) (by simp [results, Tryd.results11, go_sem, o0, o1, o2, valV, errV_ne HNE.out, noVal]) rfl ⟨rfl, HB9.out⟩
end
end Go.Proofs.YthmbafkedgahaaaDoor
namespace Go.Proofs.YthmbafkedgahaaaDoor
open Go.RowKit

theorem zero3_self {w : World} {b : Nat} (h : Own3 w b noVal) : ((w.setCell ⟨b, 0, none⟩ (.int .i64 0)).setCell ⟨b, 1, none⟩ (.int .i64 0)).setCell ⟨b, 2, none⟩ (.string ⟨#[]⟩) = w := by
  rw [cell_self h 0 (.int .i64 0) rfl, cell_self h 1 (.int .i64 0) rfl, cell_self h 2 (.string ⟨#[]⟩) rfl]
theorem ready_parts {code : List Ins} {cols : List Col} {row : List Val} (h : readyErr code cols row = 0) : (verP code cols).err = 0 ∧ rowErr cols row = 0 := by
  unfold readyErr at h
  by_cases hv : (verP code cols).err ≠ 0
  · rw [if_pos hv] at h; exact absurd h hv
  · rw [if_neg hv] at h; exact ⟨by simpa using hv, h⟩
theorem vmRun_bad {code : List Ins} {cols : List Col} {row : List Val} {fuel : Int} (h : readyErr code cols row ≠ 0) : vmRun code cols row fuel = (readyErr code cols row, 0, noVal) := by
  unfold vmRun; rw [if_pos h]
theorem vmRun_ok {code : List Ins} {cols : List Col} {row : List Val} {F : Nat} (h : readyErr code cols row = 0) (hF : F ≤ 1000000) : vmRun code cols row F = ((runV code row (some F) 0 [] []).err, (runV code row (some F) 0 [] []).done.length, (runV code row (some F) 0 [] []).val) := by
  unfold vmRun; rw [if_neg (by simpa using h), if_neg (by omega), Int.toNat_natCast]
/-- Sound code on a right row, with no fuel asked. -/
theorem vm_full {code : List Ins} {cols : List Col} {row : List Val} (h : readyErr code cols row = 0) (hx : ∀ x ∈ code, x.wf) (hw : ∀ v ∈ row, v.wf) :
    (runV code row none 0 [] []).done.length ≤ code.length ∧ code.length ≤ 1200 ∧ (runV code row none 0 [] []).done.Pairwise (· < ·) ∧
    (((runV code row none 0 [] []).err = 0 ∧ right (runV code row none 0 [] []).val ∧ (runV code row none 0 [] []).val.type = (verP code cols).ty ∧ 0 < (runV code row none 0 [] []).done.length) ∨
     ((runV code row none 0 [] []).err = 9 ∧ (runV code row none 0 [] []).val = noVal)) := by
  obtain ⟨hv, hro⟩ := ready_parts h
  obtain ⟨hlen, -, st, hS⟩ := snd_of hv
  obtain ⟨-, hr⟩ := rowOk_of hro hw
  obtain ⟨l, h1, h2, h3, h4⟩ := run_done (code := code) (row := row) (fuel := none) 0 [] []
  rw [List.nil_append] at h1
  refine ⟨by rw [h1]; omega, hlen, by rw [h1]; exact h3, ?_⟩
  have hrs := run_sound hS hr (fun x hx' => (hx x hx').2.2) none 0 [] [] (by omega) hS.start ⟨by simp, rfl⟩
  rcases hrs with ⟨q1, q2, q3⟩ | ⟨q1, q2⟩
  · refine Or.inl ⟨q1, q2, q3, ?_⟩
    by_cases hc : 0 < code.length
    · obtain ⟨x, hx0⟩ : ∃ x, code[0]? = some x := ⟨_, List.getElem?_eq_getElem hc⟩
      have hnf : (none : Option Nat) ≠ some ([] : List Nat).length := by simp
      by_cases h0 : (doP row x []).1 = 0
      · rw [runV_go hx0 hnf h0]
        obtain ⟨l', h1', -⟩ := run_done (code := code) (row := row) (fuel := none) (0 + 1 + (doP row x []).2.2) ([] ++ [0]) (doP row x []).2.1
        rw [h1']; simp
      · rw [runV_bad hx0 hnf h0] at q1
        exact absurd q1 h0
    · have h5 := hS.stop
      have h6 := hS.start
      rw [show code.length = 0 by omega, h6] at h5
      injection h5 with h5
      cases h5
  · rcases q2 with q2 | ⟨q2, -⟩
    · exact Or.inr ⟨q2, q1⟩
    · exact absurd rfl q2
theorem vm_much {code : List Ins} {cols : List Col} {row : List Val} {F : Nat} (h : readyErr code cols row = 0) (_hx : ∀ x ∈ code, x.wf) (_hw : ∀ v ∈ row, v.wf) (hF : (runV code row none 0 [] []).done.length < F) (hF2 : F ≤ 1000000) :
    vmRun code cols row F = ((runV code row none 0 [] []).err, (runV code row none 0 [] []).done.length, (runV code row none 0 [] []).val) := by
  rw [vmRun_ok h hF2, run_fuel F 0 [] [] (by simp), if_pos (Or.inl hF)]
theorem vm_just {code : List Ins} {cols : List Col} {row : List Val} (h : readyErr code cols row = 0) (hx : ∀ x ∈ code, x.wf) (hw : ∀ v ∈ row, v.wf) (h0 : (runV code row none 0 [] []).err = 0) :
    vmRun code cols row ((runV code row none 0 [] []).done.length : Nat) = (0, (runV code row none 0 [] []).done.length, (runV code row none 0 [] []).val) := by
  have hf := vm_full h hx hw
  rw [vmRun_ok h (by omega), run_fuel _ 0 [] [] (by simp), if_pos (Or.inr ⟨rfl, h0, trivial⟩), h0]
theorem vm_less {code : List Ins} {cols : List Col} {row : List Val} (h : readyErr code cols row = 0) (hx : ∀ x ∈ code, x.wf) (hw : ∀ v ∈ row, v.wf) (_h0 : (runV code row none 0 [] []).err = 0) {m : Nat} (hm : (runV code row none 0 [] []).done.length = m + 1) :
    vmRun code cols row (m : Nat) = (10, m, noVal) := by
  have hf := vm_full h hx hw
  rw [vmRun_ok h (by omega), run_fuel _ 0 [] [] (by simp), if_neg (by omega)]
  show ((10 : Int), ((runV code row none 0 [] []).done.take m).length, noVal) = _
  rw [List.length_take, hm, Nat.min_eq_left (by omega)]
theorem vm_trace {code : List Ins} {cols : List Col} {row : List Val} (h : readyErr code cols row = 0) (h0 : (runV code row none 0 [] []).err = 0) : vmTrace code cols row = (0, (runV code row none 0 [] []).done) := by
  unfold vmTrace; rw [if_neg (by simpa using h), if_neg (by simpa using h0)]
/-- A run that ended: what it comes to with as much fuel as it took, with one less, and traced. -/
theorem vm_ended {code : List Ins} {cols : List Col} {row : List Val} (hx : ∀ x ∈ code, x.wf) (hw : ∀ v ∈ row, v.wf) (h : (vmRun code cols row 1000000).1 = 0) :
    ∃ (m : Nat) (v : Val) (done : List Nat), vmRun code cols row 1000000 = (0, m + 1, v) ∧ vmRun code cols row ((m : Int) + 1) = (0, m + 1, v) ∧ vmRun code cols row (m : Int) = (10, m, noVal) ∧ vmTrace code cols row = (0, done) ∧ done.length = m + 1 ∧ done.Pairwise (· < ·) ∧ m < 1200 := by
  have hr : readyErr code cols row = 0 := by
    by_cases hr : readyErr code cols row = 0
    · exact hr
    · rw [vmRun_bad hr] at h; exact h
  obtain ⟨h1, h2, h3, h4⟩ := vm_full hr hx hw
  have e1 : vmRun code cols row 1000000 = _ := vm_much (F := 1000000) hr hx hw (by omega) (by decide)
  rw [e1] at h
  have h0 : (runV code row none 0 [] []).err = 0 := h
  rcases h4 with ⟨-, -, -, h5⟩ | ⟨h5, -⟩
  · obtain ⟨m, hm⟩ : ∃ m, (runV code row none 0 [] []).done.length = m + 1 := ⟨(runV code row none 0 [] []).done.length - 1, by omega⟩
    have e2 := vm_just hr hx hw h0
    rw [hm] at e2
    exact ⟨m, (runV code row none 0 [] []).val, (runV code row none 0 [] []).done, by rw [e1, h0, hm], e2, vm_less hr hx hw h0 hm, vm_trace hr h0, hm, h3, by omega⟩
  · rw [h5] at h0; exact absurd h0 (by decide)
def loadI : Ins := ⟨2, 0, noVal⟩
def threeCode : List Ins := [⟨2, 0, noVal⟩, ⟨6, 0, noVal⟩, ⟨7, 0, noVal⟩]
theorem ver_three : verP threeCode oneCol = ⟨0, 0, 1, 2⟩ := by kernel_rfl
def rowOne : List Val := [⟨1, 3, ⟨#[]⟩⟩]
theorem vm_one : vmRun [loadI] oneCol rowOne 5 = (0, 1, ⟨1, 3, ⟨#[]⟩⟩) := by kernel_rfl
end Go.Proofs.YthmbafkedgahaaaDoor
