/- Expressions that lie in some blocks only; a block of the call's own for one; a row of the call's own of them, and a store into it. slices.Clone of expressions, walked. -/
import Derived.Test.YtpbbkpfaphjdoaaGreatDoorFEx
import Derived.Test.YtpbbkpfaphjdoaaGreatDoorFAnyInt
import Derived.Test.YtpbbkpfaphjdoaaGreatDoorFOwn3
namespace Go.Proofs.YtpbbkpfaphjdoaaGreatDoor
open Go.ChangeShapes Go.WideShapes Go.ChangeAt Go.RowKit
inductive SeesS (S : Nat → Prop) (w : World) : Ex → Prop
 | mk {e : Ex} (hs : Sees w e.A e.args.length e.c 7 (exsCells e.args)) (hS : ∀ g o, e.A = some ⟨g, o, none⟩ → 0 < e.args.length → S g) (ho : e.op.size ≤ maxLen) (hn : e.name.size ≤ maxLen) (hv : e.val.wf) (hp : fits e.pos) (ha : ∀ a ∈ e.args, SeesS S w a) : SeesS S w e
theorem SeesS.parts {S : Nat → Prop} {w : World} {e : Ex} (h : SeesS S w e) : Sees w e.A e.args.length e.c 7 (exsCells e.args) ∧ (∀ g o, e.A = some ⟨g, o, none⟩ → 0 < e.args.length → S g) ∧ e.op.size ≤ maxLen ∧ e.name.size ≤ maxLen ∧ e.val.wf ∧ fits e.pos ∧ ∀ a ∈ e.args, SeesS S w a := by
 cases h with
 | mk hs hS ho hn hv hp ha => exact ⟨hs, hS, ho, hn, hv, hp, ha⟩
theorem SeesS.see {S : Nat → Prop} {w : World} {e : Ex} (h : SeesS S w e) : SeesEx w e := by
 induction h with
 | mk hs _ ho hn hv hp _ ih => exact .mk hs ho hn hv hp ih
theorem SeesS.mono {S T : Nat → Prop} {w : World} {e : Ex} (h : SeesS S w e) (hT : ∀ b, S b → T b) : SeesS T w e := by
 induction h with
 | mk hs hS ho hn hv hp _ ih => exact .mk hs (fun g o e1 e2 => hT g (hS g o e1 e2)) ho hn hv hp ih
theorem seesS_of {w : World} {e : Ex} (h : SeesEx w e) : SeesS (fun b => b < w.heap.size) w e := by
 induction h with
 | mk hs ho hn hv hp _ ih =>
  refine .mk hs (fun g o e1 e2 => ?_) ho hn hv hp ih
  obtain ⟨g', o', e3, hg, _⟩ := hs.2.2.2.2 e2
  rw [e1] at e3
  injection e3 with e3
  injection e3 with e3 _
  rw [e3]; exact hg
structure Alike (S : Nat → Prop) (w w' : World) : Prop where
 size : w.heap.size ≤ w'.heap.size
 block : ∀ b, S b → b < w.heap.size → w'.heap[b]? = w.heap[b]?
theorem Alike.refl (S : Nat → Prop) (w : World) : Alike S w w := ⟨Nat.le_refl _, fun _ _ _ => rfl⟩
theorem Alike.trans {S : Nat → Prop} {a b c : World} (h : Alike S a b) (k : Alike S b c) : Alike S a c :=
 ⟨Nat.le_trans h.size k.size, fun x hx hl => (k.block x hx (Nat.lt_of_lt_of_le hl h.size)).trans (h.block x hx hl)⟩
theorem Alike.of_below {S : Nat → Prop} {w w' : World} (h : Below w.heap.size w w') : Alike S w w' := ⟨h.size, fun b _ hl => h.block b hl⟩
theorem SeesS.keep {S : Nat → Prop} {w w' : World} {e : Ex} (h : SeesS S w e) (hb : Alike S w w') : SeesS S w' e := by
 induction h with
 | mk hs hS ho hn hv hp _ ih =>
  refine .mk ⟨hs.1, hs.2.1, hs.2.2.1, hs.2.2.2.1, fun h0 => ?_⟩ hS ho hn hv hp ih
  obtain ⟨g, o, e1, hg, hc⟩ := hs.2.2.2.2 h0
  refine ⟨g, o, e1, Nat.lt_of_lt_of_le hg hb.size, fun j u hu => ?_⟩
  rw [World.cell?_of_block (w := w) (a := ⟨g, o + j, none⟩) (hb.block g (hS g o e1 h0) hg)]
  exact hc j u hu
def Own7 (w : World) (b : Nat) (e : Ex) : Prop := w.heap[b]? = some (.cells #[.string e.op, .string e.name, .int .i64 e.val.type, .int .i64 e.val.n, .string e.val.s, .slice e.A e.args.length e.c, .int .i64 e.pos] 26 (0, 0))
theorem Own7.keep {w w' : World} {b : Nat} {e : Ex} (h : Own7 w b e) (hb : Below w.heap.size w w') : Own7 w' b e := (hb.block b (Array.getElem?_eq_some_iff.1 h).1).trans h
theorem Own7.lt {w : World} {b : Nat} {e : Ex} (h : Own7 w b e) : b < w.heap.size := (Array.getElem?_eq_some_iff.1 h).1
theorem Own7.cells {w : World} {b : Nat} {e : Ex} (h : Own7 w b e) :
  w.cell? ⟨b, 0, none⟩ = some (.string e.op) ∧ w.cell? ⟨b, 1, none⟩ = some (.string e.name) ∧ w.cell? ⟨b, 2, none⟩ = some (.int .i64 e.val.type) ∧ w.cell? ⟨b, 3, none⟩ = some (.int .i64 e.val.n) ∧
  w.cell? ⟨b, 4, none⟩ = some (.string e.val.s) ∧ w.cell? ⟨b, 5, none⟩ = some (.slice e.A e.args.length e.c) ∧ w.cell? ⟨b, 6, none⟩ = some (.int .i64 e.pos) := by
 refine ⟨?_, ?_, ?_, ?_, ?_, ?_, ?_⟩ <;> (rw [cell_of_row _ _ _ _ _ _ h]; rfl)
theorem Own7.free {w : World} {b : Nat} {e : Ex} (h : Own7 w b e) (j : Nat) : w.frozen? ⟨b, j, none⟩ = false := frozen_of_row _ _ _ _ _ h
theorem Own7.frees {w : World} {b : Nat} {e : Ex} (h : Own7 w b e) :
  w.frozen? ⟨b, 0, none⟩ = false ∧ w.frozen? ⟨b, 1, none⟩ = false ∧ w.frozen? ⟨b, 2, none⟩ = false ∧ w.frozen? ⟨b, 3, none⟩ = false ∧ w.frozen? ⟨b, 4, none⟩ = false ∧ w.frozen? ⟨b, 5, none⟩ = false ∧ w.frozen? ⟨b, 6, none⟩ = false :=
 ⟨h.free 0, h.free 1, h.free 2, h.free 3, h.free 4, h.free 5, h.free 6⟩
theorem own7_new (w : World) (e : Ex) : Own7 (w.alloc (.cells #[.string e.op, .string e.name, .int .i64 e.val.type, .int .i64 e.val.n, .string e.val.s, .slice e.A e.args.length e.c, .int .i64 e.pos] 26)) w.heap.size e := heap_alloc_new w _
def setAll : List Value → Nat → List Value → List Value
 | xs, _, [] => xs
 | xs, o, v :: vs => setAll (xs.set o v) (o + 1) vs
def putAll : World → Nat → Nat → List Value → World
 | w, _, _, [] => w
 | w, g, o, v :: vs => putAll (w.setCell ⟨g, o, none⟩ v) g (o + 1) vs
theorem setAll_cons (a : Value) : ∀ (vs xs : List Value) (o : Nat), setAll (a :: xs) (o + 1) vs = a :: setAll xs o vs
 | [], xs, o => rfl
 | v :: vs, xs, o => by rw [setAll, setAll, List.set_cons_succ, setAll_cons a vs]
theorem setAll_app : ∀ (p xs : List Value) (o : Nat) (vs : List Value), setAll (p ++ xs) (o + p.length) vs = p ++ setAll xs o vs
 | [], xs, o, vs => rfl
 | a :: p, xs, o, vs => by rw [List.length_cons, ← Nat.add_assoc, List.cons_append, setAll_cons, setAll_app p xs o vs]; rfl
theorem setAll_here : ∀ (vs ys xs : List Value), ys.length = vs.length → setAll (ys ++ xs) 0 vs = vs ++ xs
 | [], [], xs, _ => rfl
 | v :: vs, y :: ys, xs, h => by
  rw [setAll, List.cons_append, List.set_cons_zero, setAll_cons, setAll_here vs ys xs (by simpa using h)]; rfl
 | [], _ :: _, _, h => by simp at h
 | _ :: _, [], _, h => by simp at h
theorem exsCells_set : ∀ (l : List Ex) (k : Nat) (x : Ex), k < l.length → setAll (exsCells l) (k * 7) (exCells x) = exsCells (l.set k x)
 | [], k, x, h => by simp at h
 | e :: l, 0, x, _ => by
  show setAll (exCells e ++ exsCells l) (0 * 7) (exCells x) = exCells x ++ exsCells l
  rw [Nat.zero_mul]
  exact setAll_here _ _ _ rfl
 | e :: l, k + 1, x, h => by
  show setAll (exCells e ++ exsCells l) ((k + 1) * 7) (exCells x) = exCells e ++ exsCells (l.set k x)
  have := setAll_app (exCells e) (exsCells l) (k * 7) (exCells x)
  rw [show k * 7 + (exCells e).length = (k + 1) * 7 by show k * 7 + 7 = _; omega] at this
  rw [this, exsCells_set l k x (by simpa using h)]
theorem setAll_take : ∀ (vs xs : List Value) (o n : Nat), (setAll xs o vs).take n = setAll (xs.take n) o vs
 | [], xs, o, n => rfl
 | v :: vs, xs, o, n => by rw [setAll, setAll, setAll_take vs, List.take_set]
theorem putAll_same : ∀ (vs : List Value) (w : World) (g o : Nat) (cs : Array Value) (t : TypeId), w.heap[g]? = some (.cells cs t (0, 0)) → ∃ cs', (putAll w g o vs).heap[g]? = some (.cells cs' t (0, 0)) ∧ cs'.toList = setAll cs.toList o vs
 | [], w, g, o, cs, t, h => ⟨cs, h, rfl⟩
 | v :: vs, w, g, o, cs, t, h => by
  obtain ⟨cs', h1, h2⟩ := putAll_same vs (w.setCell ⟨g, o, none⟩ v) g (o + 1) _ t (heap_setCell_same _ _ _ _ _ v h)
  refine ⟨cs', h1, ?_⟩
  rw [h2, setAll, Array.toList_setIfInBounds]
theorem putAll_other : ∀ (vs : List Value) (w : World) (g o k : Nat), k ≠ g → (putAll w g o vs).heap[k]? = w.heap[k]?
 | [], w, g, o, k, h => rfl
 | v :: vs, w, g, o, k, h => by rw [putAll, putAll_other vs _ g (o + 1) k h, heap_setCell_other _ _ _ _ h]
theorem putAll_below : ∀ (vs : List Value) (B : Nat) (w0 w : World) (g o : Nat), Below B w0 w → B ≤ g → Below B w0 (putAll w g o vs)
 | [], _, _, _, _, _, h, _ => h
 | v :: vs, B, w0, _, g, o, h, hg => putAll_below vs B w0 _ g (o + 1) (h.setCell (p := ⟨g, o, none⟩) hg v) hg
theorem putAll_size : ∀ (vs : List Value) (w : World) (g o : Nat), (putAll w g o vs).heap.size = w.heap.size
 | [], w, g, o => rfl
 | v :: vs, w, g, o => by rw [putAll, putAll_size vs]; simp [World.setCell]
theorem putAll_alike {S : Nat → Prop} (vs : List Value) (w : World) (g o : Nat) (h : ¬ S g) : Alike S w (putAll w g o vs) :=
 ⟨by rw [putAll_size]; exact Nat.le_refl _, fun b hb _ => putAll_other vs w g o b (fun e => h (e ▸ hb))⟩
theorem Own7.put {w : World} {b : Nat} {e : Ex} (h : Own7 w b e) (x : Ex) : Own7 (putAll w b 0 (exCells x)) b x := by
 obtain ⟨cs, h1, h2⟩ := putAll_same (exCells x) w b 0 _ _ h
 have h3 : cs.toList = exCells x := by
  rw [h2]
  have := setAll_here (exCells x) (exCells e) [] rfl
  rw [List.append_nil, List.append_nil] at this
  exact this
 unfold Own7
 rw [h1, show cs = (exCells x).toArray by rw [← h3]]
 rfl
theorem Own7.setArgs {w : World} {b : Nat} {op name : ByteArray} {v : Val} {A : Option Addr} {c : Nat} {l : List Ex} {pos : Int} (h : Own7 w b (.mk op name v A c l pos)) (A' : Option Addr) (c' : Nat) (l' : List Ex) : Own7 (w.setCell ⟨b, 5, none⟩ (.slice A' l'.length c')) b (.mk op name v A' c' l' pos) := by
 unfold Own7
 rw [heap_setCell_same _ _ _ _ _ _ h]
 rfl
def RowE (w : World) (g cap : Nat) (l : List Ex) : Prop := ∃ cur : Array Value, w.heap[g]? = some (.cells cur 26 (0, 0)) ∧ l.length ≤ cap ∧ cap ≤ maxLen ∧ cur.toList.take (l.length * 7) = exsCells l
theorem RowE.lt {w : World} {g cap : Nat} {l : List Ex} (h : RowE w g cap l) : g < w.heap.size := by
 obtain ⟨cur, h1, _⟩ := h
 exact (Array.getElem?_eq_some_iff.1 h1).1
theorem RowE.of_own {w : World} {B n : Nat} {v : Value} {l : List Ex} (h : w.ownsRow B 26 7 v n (exsCells l)) (hl : l.length = n) (h0 : 0 < n) : ∃ g cap, v = .slice (some ⟨g, 0, none⟩) n cap ∧ B ≤ g ∧ RowE w g cap l := by
 rcases h.2 with ⟨_, e⟩ | ⟨g, cap, cur, rfl, h1, h2, h3, h4, h5, h6⟩
 ·omega
 ·exact ⟨g, cap, rfl, h1, cur, h2, by omega, h4, by rw [hl]; exact h6⟩
theorem RowE.cell {w : World} {g cap : Nat} {l : List Ex} (h : RowE w g cap l) {j : Nat} {u : Value} (hu : (exsCells l)[j]? = some u) : w.cell? ⟨g, j, none⟩ = some u := by
 obtain ⟨cur, h1, h2, h3, h4⟩ := h
 rw [cell_of_row _ _ _ _ _ _ h1, ← Array.getElem?_toList]
 rw [← h4] at hu
 have hj := (List.getElem?_eq_some_iff.1 hu).1
 rw [List.length_take] at hj
 rwa [List.getElem?_take_of_lt (by omega)] at hu
theorem RowE.sees {w : World} {g cap : Nat} {l : List Ex} (h : RowE w g cap l) : Sees w (some ⟨g, 0, none⟩) l.length cap 7 (exsCells l) := by
 have hl := h.lt
 have hc := fun j u hu => RowE.cell (j := j) (u := u) h hu
 obtain ⟨cur, h1, h2, h3, h4⟩ := h
 exact ⟨exsCells_length l, h2, h3, (fun e => by cases e), fun _ => ⟨g, 0, rfl, hl, fun j u hu => by rw [Nat.zero_add]; exact hc j u hu⟩⟩
theorem RowE.at_ {w : World} {g cap : Nat} {l : List Ex} (h : RowE w g cap l) {k : Nat} {x : Ex} (hx : l[k]? = some x) :
  w.cell? ⟨g, k * 7, none⟩ = some (.string x.op) ∧ w.cell? ⟨g, k * 7 + 1, none⟩ = some (.string x.name) ∧
   w.cell? ⟨g, k * 7 + 2, none⟩ = some (.int .i64 x.val.type) ∧ w.cell? ⟨g, k * 7 + 3, none⟩ = some (.int .i64 x.val.n) ∧ w.cell? ⟨g, k * 7 + 4, none⟩ = some (.string x.val.s) ∧
   w.cell? ⟨g, k * 7 + 5, none⟩ = some (.slice x.A x.args.length x.c) ∧ w.cell? ⟨g, k * 7 + 6, none⟩ = some (.int .i64 x.pos) := by
 have key := fun j u hu => h.cell (exsCells_at hx j u hu)
 exact ⟨key 0 _ rfl, key 1 _ rfl, key 2 _ rfl, key 3 _ rfl, key 4 _ rfl, key 5 _ rfl, key 6 _ rfl⟩
theorem RowE.free {w : World} {g cap : Nat} {l : List Ex} (h : RowE w g cap l) (j : Nat) : w.frozen? ⟨g, j, none⟩ = false := by
 obtain ⟨cur, h1, _⟩ := h
 exact frozen_of_row _ _ _ _ _ h1
theorem RowE.put {w : World} {g cap : Nat} {l : List Ex} (h : RowE w g cap l) {k : Nat} (hk : k < l.length) (x : Ex) : RowE (putAll w g (k * 7) (exCells x)) g cap (l.set k x) := by
 obtain ⟨cur, h1, h2, h3, h4⟩ := h
 obtain ⟨cs, g1, g2⟩ := putAll_same (exCells x) w g (k * 7) _ _ h1
 exact ⟨cs, g1, by simpa using h2, h3, by rw [g2, List.length_set, setAll_take, h4, exsCells_set l k x hk]⟩
theorem RowE.same {w w' : World} {g cap : Nat} {l : List Ex} (h : RowE w g cap l) (hb : w'.heap[g]? = w.heap[g]?) : RowE w' g cap l := by
 obtain ⟨cur, h1, h2⟩ := h
 exact ⟨cur, hb.trans h1, h2⟩
theorem RowE.keep {w w' : World} {g cap : Nat} {l : List Ex} (h : RowE w g cap l) (hb : Below w.heap.size w w') : RowE w' g cap l := h.same (hb.block g h.lt)
theorem exSlice : SliceTy Tryz.prog 24 26 (.agg #[.string ⟨#[]⟩, .string ⟨#[]⟩, .int .i64 0, .int .i64 0, .string ⟨#[]⟩, .slice none 0 0, .int .i64 0]) 7 96 := SliceTy.of Tryz.underlying24 (by kernel_rfl) rfl (by decide) (by decide)
theorem exs_cell' : ∀ l : List Ex, ∀ u ∈ exsCells l, u.oneCell' = true
 | [], u, h => by cases h
 | e :: l, u, h => by
  have h' : u ∈ exCells e ++ exsCells l := h
  rcases List.mem_append.1 h' with h | h
  ·unfold exCells at h
   simp only [List.mem_cons, List.not_mem_nil, or_false] at h
   rcases h with rfl | rfl | rfl | rfl | rfl | rfl | rfl <;> rfl
  ·exact exs_cell' l u h
def CloneExSays (n : Nat) (l : List Ex) (w : World) (e : Ending) (w' : World) : Prop := ∃ v, e = .returned v ∧ w'.ownsRow w.heap.size 26 7 v n (exsCells l) ∧ Below w.heap.size w w'
set_option maxHeartbeats 1000000 in
theorem cloneEx_some (a : Addr) (n c : Nat) (l : List Ex) (w : World) (hl : Sees w (some a) n c 7 (exsCells l)) (hn : n ≤ 1000000) :
  Calls Tryz.prog 111 #[.slice (some a) n c] w (CloneExSays n l w) := by
 have q := fun (w : World) (a : Option Addr) (n c n' c' : Nat) => Lib.run_eql_slice_nil (P := Tryz.prog) w 24 _ a n c n' c' Tryz.underlying24
 have u := fun w => run_underlying (P := Tryz.prog) (w := w) Tryz.underlying24
 have HL := Lib.hid hl
 clear hl
 go_enter Tryz.func111, Tryz.ntmps111
 go_wp2_with (first | (at_builtin; refine wpList_append_src exSlice rfl _ _ rfl rfl rfl (World.ownsRow_made w #[] 0 (Nat.le_refl _) (Nat.zero_le _) rfl) (HL.out.keep ((Below.refl _ _).alloc (Nat.le_refl _) _)) ((Below.refl _ _).alloc (Nat.le_refl _) _) (Nat.le_refl _) (exs_cell' l) (by omega) ?_))
 intro v' w1 hown hb _
 have HO := Lib.hid hown
 have HB := Lib.hid hb
 clear hown hb
 go_wp2_with fail
 go_ret
 exact ⟨_, rfl, HO.out, HB.out⟩
theorem cloneEx_none (n c : Nat) (w : World) :
  Calls Tryz.prog 111 #[.slice none n c] w fun e w' => e = .returned (.slice none 0 0) ∧ w = w' := by
 have q := fun (w : World) (a : Option Addr) (n c n' c' : Nat) => Lib.run_eql_slice_nil (P := Tryz.prog) w 24 _ a n c n' c' Tryz.underlying24
 go_enter Tryz.func111, Tryz.ntmps111
 go_wp2_with fail
 go_ret
 exact ⟨rfl, rfl⟩
theorem cloneEx_any (A : Option Addr) (n c : Nat) (l : List Ex) (w : World) (hl : Sees w A n c 7 (exsCells l)) (hn : n ≤ 1000000) :
  Calls Tryz.prog 111 #[.slice A n c] w (CloneExSays n l w) := by
 cases A with
 | some a => exact cloneEx_some a n c l w hl hn
 | none =>
  obtain ⟨rfl, rfl⟩ := hl.2.2.2.1 rfl
  refine (cloneEx_none 0 0 w).mono ?_
  rintro e w' ⟨rfl, rfl⟩
  have h0 : exsCells l = [] := List.eq_nil_of_length_eq_zero (by rw [hl.1])
  exact ⟨_, rfl, by rw [h0]; exact World.ownsRow_nil _ _ _ _, Below.refl _ _⟩
theorem box_ex (w : World) (e : Ex) : ∃ w0, w.alloc (.cells #[.string e.op, .string e.name, .int .i64 e.val.type, .int .i64 e.val.n, .string e.val.s, .slice e.A e.args.length e.c, .int .i64 e.pos] 26) = w0 ∧ Own7 w0 w.heap.size e ∧ Below w.heap.size w w0 ∧ w0.heap.size = w.heap.size + 1 :=
 ⟨_, rfl, own7_new w e, (Below.refl _ _).alloc (Nat.le_refl _) _, by simp⟩
end Go.Proofs.YtpbbkpfaphjdoaaGreatDoor
