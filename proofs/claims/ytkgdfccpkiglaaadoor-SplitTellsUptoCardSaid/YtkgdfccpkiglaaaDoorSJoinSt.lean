/- Memory of a join: two rows of Outs of the call's own, side by side, that grow; lists of Outs; what a join comes to. -/
import Derived.Test.YtkgdfccpkiglaaaDoorSJoinClone
namespace Go.Proofs.YtkgdfccpkiglaaaDoor
open Go.ChangeShapes Go.WideShapes Go.ChangeAt Go.RowKit
namespace SortLaw
theorem outSlice : SliceTy Tryd.prog 37 52 (.agg #[.slice none 0 0, .int .i64 0, .int .i64 0]) 3 40 := SliceTy.of Tryd.underlying37 (by kernel_rfl) rfl (by decide) (by decide)
def Off (v : Value) (h : OutH) : Prop := ∀ ad, h.p = some ad → v.ownBlock ≠ some ad.block
structure JSt (B : Nat) (w0 w : World) (v4 v6 : Value) (cl bd : List OutH) : Prop where
 own4 : w.ownsRow B 52 3 v4 cl.length (outCells cl)
 own6 : w.ownsRow B 52 3 v6 bd.length (outCells bd)
 ne : v4.ownBlock = none ∨ v4.ownBlock ≠ v6.ownBlock
 rows : ∀ h ∈ cl, SeesOut w h ∧ Off v4 h ∧ Off v6 h
 empty : ∀ h ∈ bd, SeesOut w h ∧ h.o.row.length = 0
 below : Below B w0 w
theorem JSt.start (w : World) (B : Nat) : JSt B w w (.slice none 0 0) (.slice none 0 0) [] [] :=
 ⟨World.ownsRow_nil _ _ _ _, World.ownsRow_nil _ _ _ _, Or.inl rfl, by simp, by simp, Below.refl _ _⟩
theorem JSt.keep {B : Nat} {w0 w w' : World} {v4 v6 : Value} {cl bd : List OutH} (h : JSt B w0 w v4 v6 cl bd) (hB : B ≤ w.heap.size) (hb : Below w.heap.size w w') : JSt B w0 w' v4 v6 cl bd :=
 ⟨own_keep h.own4 hb, own_keep h.own6 hb, h.ne, fun x hx => ⟨(h.rows x hx).1.keep hb, (h.rows x hx).2⟩, fun x hx => ⟨(h.empty x hx).1.keep hb, (h.empty x hx).2⟩, h.below.trans (hb.mono hB)⟩
theorem sees_none {w w' : World} {h : OutH} (hs : SeesOut w h) (h0 : h.o.row.length = 0) : SeesOut w' h := by
 unfold SeesOut at *
 rw [h0] at hs ⊢
 exact ⟨hs.1, hs.2.1, hs.2.2.1, hs.2.2.2.1, hs.2.2.2.2.1, fun h => absurd h (by omega)⟩
theorem outCells_snoc (l : List OutH) (h : OutH) : outCells (l ++ [h]) = outCells l ++ (#[Value.slice h.p h.o.row.length h.c, .int .i64 h.o.err, .int .i64 h.o.beg] : Array Value).toList := by
 unfold outCells; rw [List.flatMap_append]; simp [oC, OutH.e]
theorem out_cell' (p : Option Addr) (n c : Nat) (err beg : Int) : ∀ u ∈ (#[Value.slice p n c, .int .i64 err, .int .i64 beg] : Array Value).toList, u.oneCell' = true := by
 intro u hu
 simp at hu
 rcases hu with rfl | rfl | rfl <;> rfl
theorem outs_cell' : ∀ (l : List OutH), ∀ u ∈ outCells l, u.oneCell' = true
 | [], u, h => by cases h
 | x :: l, u, h => by
  have e : outCells (x :: l) = oC x.e ++ outCells l := rfl
  rw [e] at h
  rcases List.mem_append.1 h with h | h
  ·unfold oC at h
   simp only [List.mem_cons, List.not_mem_nil, or_false] at h
   rcases h with rfl | rfl | rfl <;> rfl
  ·exact outs_cell' l u h
theorem grown_only {w w' : World} {r : Option Nat} (hg : w.grownBy w' r) : Only (fun k => some k = r) w w' := ⟨hg.os, hg.tape, hg.output, hg.size, fun k hk hs => hg.block k hk hs⟩
theorem grown_below {w w' : World} {B : Nat} {r : Option Nat} (hg : w.grownBy w' r) (hB : B ≤ w.heap.size) (hr : ∀ k, r = some k → B ≤ k) : Below B w w' :=
 ⟨hg.os, hg.tape, hg.output, hg.size, fun k hk => hg.block k (by omega) (fun e => by have := hr k e.symm; omega)⟩
theorem only_out {S : Nat → Prop} {a b : World} (h : Only S a b) {x : OutH} (hs : SeesOut a x) (hA : ∀ ad, x.p = some ad → ¬ S ad.block) : SeesOut b x := h.vals_far hs (fun _ => hA)
theorem JSt.step {B : Nat} {w0 w w1 : World} {v4 v6 v' : Value} {cl bd : List OutH} {x : OutH} (h : JSt B w0 w v4 v6 cl bd) (hB : B ≤ w.heap.size) (hx : SeesOut w x) (ho : Off v4 x ∧ Off v6 x) (hlt : ∀ ad, x.p = some ad → ad.block < w.heap.size)
  (hlts : ∀ y ∈ cl, ∀ ad, y.p = some ad → ad.block < w.heap.size)
  (hown : w1.ownsRow B 52 3 v' (cl.length + 1) (outCells cl ++ (#[Value.slice x.p x.o.row.length x.c, .int .i64 x.o.err, .int .i64 x.o.beg] : Array Value).toList))
  (hg : (w.alloc (.cells #[Value.slice x.p x.o.row.length x.c, .int .i64 x.o.err, .int .i64 x.o.beg] 52)).grownBy w1 v4.ownBlock)
  (hat : v'.ownBlock = v4.ownBlock ∨ v'.ownBlock = some (w.alloc (.cells #[Value.slice x.p x.o.row.length x.c, .int .i64 x.o.err, .int .i64 x.o.beg] 52)).heap.size) :
  JSt B w0 w1 v' v6 (cl ++ [x]) bd ∧ ∀ y ∈ cl ++ [x], ∀ ad, y.p = some ad → ad.block < w1.heap.size := by
 have ha : Below w.heap.size w (w.alloc (.cells #[Value.slice x.p x.o.row.length x.c, .int .i64 x.o.err, .int .i64 x.o.beg] 52)) := (Below.refl _ _).alloc (Nat.le_refl _) _
 have h' := h.keep hB ha
 have hx' := hx.keep ha
 have hsz : (w.alloc (.cells #[Value.slice x.p x.o.row.length x.c, .int .i64 x.o.err, .int .i64 x.o.beg] 52)).heap.size = w.heap.size + 1 := by simp
 generalize w.alloc (.cells #[Value.slice x.p x.o.row.length x.c, .int .i64 x.o.err, .int .i64 x.o.beg] 52) = wa at *
 have hall : ∀ y ∈ cl ++ [x], SeesOut wa y ∧ Off v4 y ∧ Off v6 y ∧ ∀ ad, y.p = some ad → ad.block < w.heap.size := by
  intro y hy
  rcases List.mem_append.1 hy with hy | hy
  ·exact ⟨(h'.rows y hy).1, (h'.rows y hy).2.1, (h'.rows y hy).2.2, hlts y hy⟩
  ·obtain rfl : y = x := by simpa using hy
   exact ⟨hx', ho.1, ho.2, hlt⟩
 have h6 := fun k (e : v6.ownBlock = some k) => h.own6.lt k e
 refine ⟨⟨?_, h'.own6.kept hg ?_, ?_, ?_, ?_, h'.below.trans (grown_below hg (by omega) fun k hk => (h.own4.lt k hk).1)⟩, ?_⟩
 ·rw [List.length_append, outCells_snoc]; exact hown
 ·cases e : v6.ownBlock with
  | none => exact Or.inl rfl
  | some b =>
   refine Or.inr (fun e2 => ?_)
   rcases h.ne with h1 | h1
   ·rw [h1] at e2; cases e2
   ·exact h1 (e2.symm.trans e.symm)
 ·rcases hat with e | e
  ·rw [e]; exact h.ne
  ·rw [e]
   refine Or.inr fun e2 => ?_
   have := h6 _ e2.symm
   omega
 ·intro y hy
  obtain ⟨s1, o1, o2, l1⟩ := hall y hy
  refine ⟨only_out (grown_only hg) s1 (fun ad hp e => o1 ad hp e.symm), ?_, o2⟩
  intro ad hp
  rcases hat with e | e
  ·rw [e]; exact o1 ad hp
  ·rw [e]; intro e2; injection e2 with e2; have := l1 ad hp; omega
 ·intro y hy
  exact ⟨sees_none (h.empty y hy).1 (h.empty y hy).2, (h.empty y hy).2⟩
 ·intro y hy ad hp
  have := (hall y hy).2.2.2 ad hp
  have := hg.size
  omega
theorem JSt.stepB {B : Nat} {w0 w w1 : World} {v4 v6 v' : Value} {cl bd : List OutH} {x : OutH} (h : JSt B w0 w v4 v6 cl bd) (hB : B ≤ w.heap.size) (hx : SeesOut w x) (h0 : x.o.row.length = 0)
  (hlts : ∀ y ∈ cl, ∀ ad, y.p = some ad → ad.block < w.heap.size)
  (hown : w1.ownsRow B 52 3 v' (bd.length + 1) (outCells bd ++ (#[Value.slice x.p x.o.row.length x.c, .int .i64 x.o.err, .int .i64 x.o.beg] : Array Value).toList))
  (hg : (w.alloc (.cells #[Value.slice x.p x.o.row.length x.c, .int .i64 x.o.err, .int .i64 x.o.beg] 52)).grownBy w1 v6.ownBlock)
  (hat : v'.ownBlock = v6.ownBlock ∨ v'.ownBlock = some (w.alloc (.cells #[Value.slice x.p x.o.row.length x.c, .int .i64 x.o.err, .int .i64 x.o.beg] 52)).heap.size) :
  JSt B w0 w1 v4 v' cl (bd ++ [x]) ∧ ∀ y ∈ cl, ∀ ad, y.p = some ad → ad.block < w1.heap.size := by
 have ha : Below w.heap.size w (w.alloc (.cells #[Value.slice x.p x.o.row.length x.c, .int .i64 x.o.err, .int .i64 x.o.beg] 52)) := (Below.refl _ _).alloc (Nat.le_refl _) _
 have h' := h.keep hB ha
 have hsz : (w.alloc (.cells #[Value.slice x.p x.o.row.length x.c, .int .i64 x.o.err, .int .i64 x.o.beg] 52)).heap.size = w.heap.size + 1 := by simp
 generalize w.alloc (.cells #[Value.slice x.p x.o.row.length x.c, .int .i64 x.o.err, .int .i64 x.o.beg] 52) = wa at *
 have h4 := fun k (e : v4.ownBlock = some k) => h.own4.lt k e
 refine ⟨⟨h'.own4.kept hg ?_, ?_, ?_, ?_, ?_, h'.below.trans (grown_below hg (by omega) fun k hk => (h.own6.lt k hk).1)⟩, ?_⟩
 ·exact h.ne
 ·rw [List.length_append, outCells_snoc]; exact hown
 ·cases e4 : v4.ownBlock with
  | none => exact Or.inl rfl
  | some b =>
   rcases hat with e | e
   ·rw [e, ← e4]
    refine Or.inr ?_
    rcases h.ne with h1 | h1
    ·rw [h1] at e4; cases e4
    ·exact h1
   ·rw [e]
    refine Or.inr fun e2 => ?_
    injection e2 with e2
    have := h4 _ e4
    omega
 ·intro y hy
  obtain ⟨s1, o1, o2⟩ := h'.rows y hy
  refine ⟨only_out (grown_only hg) s1 (fun ad hp e => o2 ad hp e.symm), o1, ?_⟩
  intro ad hp
  rcases hat with e | e
  ·rw [e]; exact o2 ad hp
  ·rw [e]; intro e2; injection e2 with e2; have := hlts y hy ad hp; omega
 ·intro y hy
  rcases List.mem_append.1 hy with hy | hy
  ·exact ⟨sees_none (h.empty y hy).1 (h.empty y hy).2, (h.empty y hy).2⟩
  ·obtain rfl : y = x := by simpa using hy
   exact ⟨sees_none hx h0, h0⟩
 ·intro y hy ad hp
  have := hlts y hy ad hp
  have := hg.size
  omega
theorem own_mono {w : World} {B B' e size : Nat} {v : Value} {n : Nat} {xs : List Value} (h : w.ownsRow B e size v n xs) (hB : B' ≤ B) : w.ownsRow B' e size v n xs := by
 refine ⟨h.1, ?_⟩
 rcases h.2 with h1 | ⟨g, cap, cur, e, hb, rest⟩
 ·exact .inl h1
 ·exact .inr ⟨g, cap, cur, e, Nat.le_trans hB hb, rest⟩
theorem osees_take {w : World} {A : Option Addr} {n c size k : Nat} {xs : List Value} (h : Sees w A n c size xs) (hk : k ≤ n) : Sees w A k c size (xs.take (k * size)) := by
 obtain ⟨h1, h2, h3, h4, h5⟩ := h
 have hm : k * size ≤ n * size := Nat.mul_le_mul_right _ hk
 refine ⟨by rw [List.length_take]; omega, by omega, h3, fun e => ⟨by have := (h4 e).1; omega, (h4 e).2⟩, fun h0 => ?_⟩
 obtain ⟨g, o, e, hg, hc⟩ := h5 (by omega)
 refine ⟨g, o, e, hg, fun j u hu => hc j u ?_⟩
 rw [List.getElem?_take] at hu
 split at hu
 ·exact hu
 ·cases hu
theorem osees_drop {w : World} {g n c k : Nat} {xs : List Value} (h : Sees w (some ⟨g, 0, none⟩) n c 3 xs) (hk : k ≤ n) : Sees w (if c = k then some ⟨g, 0, none⟩ else some ⟨g, k * 3, none⟩) (n - k) (c - k) 3 (xs.drop (k * 3)) := by
 obtain ⟨h1, h2, h3, h4, h5⟩ := h
 refine ⟨by rw [List.length_drop]; omega, by omega, by omega, fun e => (by split at e <;> cases e), fun h0 => ?_⟩
 obtain ⟨g', o, e, hg, hc⟩ := h5 (by omega)
 injection e with e
 injection e with e1 e2
 subst e1 e2
 rw [if_neg (by omega)]
 refine ⟨g, k * 3, rfl, hg, fun j u hu => ?_⟩
 rw [List.getElem?_drop] at hu
 have := hc _ u hu
 rwa [Nat.zero_add] at this
theorem outCells_take (l : List OutH) (k : Nat) : (outCells l).take (k * 3) = outCells (l.take k) := by
 unfold outCells
 induction l generalizing k with
 | nil => simp
 | cons a l ih =>
  cases k with
  | zero => simp
  | succ k =>
   rw [List.flatMap_cons, List.take_succ_cons, List.flatMap_cons, ← ih k, Nat.succ_mul]
   rw [show k * 3 + 3 = (oC a.e).length + k * 3 by show k * 3 + 3 = 3 + k * 3; omega, List.take_length_add_append]
theorem outCells_drop (l : List OutH) (k : Nat) : (outCells l).drop (k * 3) = outCells (l.drop k) := by
 unfold outCells
 induction l generalizing k with
 | nil => simp
 | cons a l ih =>
  cases k with
  | zero => simp
  | succ k =>
   rw [List.flatMap_cons, List.drop_succ_cons, ← ih k, Nat.succ_mul]
   rw [show k * 3 + 3 = (oC a.e).length + k * 3 by show k * 3 + 3 = 3 + k * 3; omega, List.drop_length_add_append]
structure ListH where
 R : Option Addr
 c : Nat
 hs : List OutH
def listCells (ls : List ListH) : List Value := ls.map fun l => .slice l.R l.hs.length l.c
def SeesLists (w : World) (A : Option Addr) (m c : Nat) (ls : List ListH) : Prop := Sees w A m c 1 (listCells ls) ∧ ∀ l ∈ ls, SeesOuts w l.R l.hs.length l.c l.hs
theorem SeesLists.keep {w w' : World} {A : Option Addr} {m c : Nat} {ls : List ListH} (h : SeesLists w A m c ls) (hb : Below w.heap.size w w') : SeesLists w' A m c ls := ⟨h.1.keep hb, fun x hx => (h.2 x hx).keep hb⟩
theorem SeesLists.len {w : World} {A : Option Addr} {m c : Nat} {ls : List ListH} (h : SeesLists w A m c ls) : ls.length = m := by have := h.1.1; simpa [listCells] using this
theorem SeesLists.at_ {w : World} {A : Option Addr} {m c : Nat} {ls : List ListH} (h : SeesLists w A m c ls) {k : Nat} (hk : k < m) :
  ∃ g o x, A = some ⟨g, o, none⟩ ∧ g < w.heap.size ∧ ls[k]? = some x ∧ SeesOuts w x.R x.hs.length x.c x.hs ∧ w.cell? ⟨g, o + k, none⟩ = some (.slice x.R x.hs.length x.c) := by
 obtain ⟨g, o, e, hg, hc⟩ := h.1.2.2.2.2 (by omega)
 have hl : ls[k]? = some (ls[k]'(by have := h.len; omega)) := List.getElem?_eq_getElem _
 refine ⟨g, o, _, e, hg, hl, h.2 _ (List.mem_of_getElem? hl), hc _ _ ?_⟩
 unfold listCells
 rw [List.getElem?_map, hl]; rfl
def flat (ls : List ListH) : List OutH := ls.flatMap (·.hs)
def outsOf (ls : List ListH) : List OutP := (flat ls).map (·.o)
def doneOf (ls : List ListH) (i j : Nat) : List OutP := ((ls.take i).flatMap (·.hs) ++ ((ls[i]?.map (·.hs)).getD []).take j).map (·.o)
theorem done_zero (ls : List ListH) : doneOf ls 0 0 = [] := by unfold doneOf; simp
theorem done_next {ls : List ListH} {i : Nat} {x : ListH} (hx : ls[i]? = some x) : doneOf ls i x.hs.length = doneOf ls (i + 1) 0 := by
 unfold doneOf; rw [List.take_add_one, hx]; simp
theorem done_step {ls : List ListH} {i j : Nat} {x : ListH} {h : OutH} (hx : ls[i]? = some x) (hh : x.hs[j]? = some h) : doneOf ls i (j + 1) = doneOf ls i j ++ [h.o] := by
 unfold doneOf; rw [hx]; simp [List.take_add_one, hh]
theorem done_all {ls : List ListH} : doneOf ls ls.length 0 = outsOf ls := by
 unfold doneOf outsOf flat; simp
theorem done_mem {ls : List ListH} {i j : Nat} {x : ListH} {h : OutH} (hx : ls[i]? = some x) (hh : x.hs[j]? = some h) : h ∈ flat ls :=
 List.mem_flatMap.2 ⟨x, List.mem_of_getElem? hx, List.mem_of_getElem? hh⟩
theorem flat_len_le {ls : List ListH} {M : Nat} (h : ∀ l ∈ ls, l.hs.length ≤ M) : (flat ls).length ≤ ls.length * M := by
 unfold flat
 induction ls with
 | nil => simp
 | cons a l ih =>
  have := ih fun x hx => h x (List.mem_cons_of_mem _ hx)
  have := h a (by simp)
  rw [List.flatMap_cons, List.length_append, List.length_cons, Nat.succ_mul]; omega
theorem done_sub {ls : List ListH} {i j : Nat} : (doneOf ls i j).length ≤ (flat ls).length := by
 unfold doneOf
 rw [List.length_map, List.length_append]
 have h1 : (flat ls).length = ((ls.take i).flatMap (·.hs)).length + ((ls.drop i).flatMap (·.hs)).length := by
  unfold flat
  rw [← List.length_append, ← List.flatMap_append, List.take_append_drop]
 have h2 : (((ls[i]?.map (·.hs)).getD []).take j).length ≤ ((ls.drop i).flatMap (·.hs)).length := by
  cases e : ls[i]? with
  | none => simp
  | some x =>
   obtain ⟨g1, g2⟩ := List.getElem?_eq_some_iff.1 e
   rw [List.drop_eq_getElem_cons g1, g2, List.flatMap_cons, List.length_append]
   simp only [Option.map_some, Option.getD_some, List.length_take]
   omega
 omega
def JoinPost (gI : Int) (l : List OutP) (w : World) (wrap : Int → Value) (e : Ending) (w' : World) : Prop :=
 ((joinErr gI l ≠ 0 ∧ e = .returned (.tuple #[.slice none 0 0, wrap (joinErr gI l)])) ∨
   (joinErr gI l = 0 ∧ ∃ A n c hs, e = .returned (.tuple #[.slice A n c, wrap 0]) ∧ SeesOuts w' A n c hs ∧ JoinIs gI.toNat l (hs.map (·.o)))) ∧ Below w.heap.size w w'
theorem own_sorted {β : Type} {S : SEnv β} {w w' : World} {B n cap : Nat} {l0 E : List β} (h : w.ownsRow B 52 3 (.slice (some ⟨S.b, 0, none⟩) n cap) n (oCs S l0)) (hp : ∃ cur : Array Value, w.heap[S.b]? = some (.cells cur 52 (0, 0)) ∧ cur.toList = oCs S l0 ++ S.post)
  (hs : SAt S w' E) (hE : E.length = l0.length) : w'.ownsRow B 52 3 (.slice (some ⟨S.b, 0, none⟩) n cap) n (oCs S E) := by
 have hl : l0.length = n := by have := h.1; rw [oCs_len] at this; omega
 refine ⟨by rw [oCs_len, hE, hl], ?_⟩
 rcases h.2 with ⟨e, _⟩ | ⟨g, c, cur, e, hb, hh, h1, h2, h3, h4⟩
 ·cases e
 injection e with e1 e2 e3
 injection e1 with e1
 injection e1 with e1
 subst e1 e3
 obtain ⟨cur', hc1, hc2⟩ := hp
 rw [hh] at hc1
 injection hc1 with hc1
 injection hc1 with hc1
 subst hc1
 refine .inr ⟨S.b, cap, (oCs S E ++ S.post).toArray, rfl, hb, hs.row, h1, h2, ?_, ?_⟩
 ·have : cur.size = (oCs S l0 ++ S.post).length := by rw [← hc2]; simp
  rw [List.size_toArray, List.length_append, oCs_len, hE]
  rw [List.length_append, oCs_len] at this
  omega
 ·rw [List.take_left' (by rw [oCs_len, hE, hl])]
theorem own_block {w : World} {B g n cap : Nat} {xs : List Value} (h : w.ownsRow B 52 3 (.slice (some ⟨g, 0, none⟩) n cap) n xs) :
  ∃ post, RowL w g 52 (xs ++ post) := by
 rcases h.2 with ⟨e, _⟩ | ⟨q, c, cur, e, hb, hh, h1, h2, h3, h4⟩
 ·cases e
 injection e with e1
 injection e1 with e1
 injection e1 with e1
 subst e1
 refine ⟨cur.toList.drop (n * 3), ?_⟩
 unfold RowL
 rw [← h4, List.take_append_drop]
 exact hh
end SortLaw
end Go.Proofs.YtkgdfccpkiglaaaDoor
