/- sluiceref2.Fold, walked: an expression that is right made short, as the document has it. -/
import Derived.Test.YtpbbkpfaphjdoaaGreatDoorFFoldOf
import Derived.Test.YtpbbkpfaphjdoaaGreatDoorFRefDoAny
import Derived.Test.YtpbbkpfaphjdoaaGreatDoorFOnly
namespace Go.Proofs.YtpbbkpfaphjdoaaGreatDoor
open Go.ChangeShapes Go.WideShapes Go.ChangeAt Go.RowKit
theorem seesS_lt {S : Nat → Prop} {w : World} {e : Ex} (h : SeesS S w e) : SeesS (fun b => S b ∧ b < w.heap.size) w e := by
 induction h with
 | mk hs hS ho hn hv hp _ ih =>
  refine .mk hs (fun g o e1 e2 => ⟨hS g o e1 e2, ?_⟩) ho hn hv hp ih
  obtain ⟨g', o', e3, hg, _⟩ := hs.2.2.2.2 e2
  rw [e1] at e3
  injection e3 with e3
  injection e3 with e3 _
  rw [e3]; exact hg
theorem alike_only {S T : Nat → Prop} {w w' : World} (h : Only T w w') (hd : ∀ b, S b → ¬ T b) : Alike S w w' := ⟨h.size, fun b hs hl => h.block b hl (hd b hs)⟩
theorem exsCells_more (l : List Ex) (y : Ex) : exsCells (l ++ [y]) = exsCells l ++ (#[Value.string y.op, .string y.name, .int .i64 y.val.type, .int .i64 y.val.n, .string y.val.s, .slice y.A y.args.length y.c, .int .i64 y.pos] : Array Value).toList := by
 simp [exsCells, exCells]
theorem valsCells_more2 (l : List Val) (v : Val) : valsCells (l ++ [v]) = valsCells l ++ (#[Value.int .i64 v.type, .int .i64 v.n, .string v.s] : Array Value).toList := by simp [valsCells, valCells]
structure Rows2 (T : Nat → Prop) (w : World) (H : Nat) (lv vv : Value) (xs : List Ex) (us : List Val) : Prop where
 ex : w.ownsRow H 26 7 lv xs.length (exsCells xs)
 vs : w.ownsRow H 23 3 vv us.length (valsCells us)
 far : ∀ k, lv.ownBlock = some k → vv.ownBlock ≠ some k
 see : ∀ x ∈ xs, SeesS (fun b => T b ∧ lv.ownBlock ≠ some b ∧ vv.ownBlock ≠ some b) w x
theorem Rows2.keep {T : Nat → Prop} {w w' : World} {H : Nat} {lv vv : Value} {xs : List Ex} {us : List Val} (h : Rows2 T w H lv vv xs us) (hb : Below w.heap.size w w') : Rows2 T w' H lv vv xs us :=
 ⟨own_keep h.ex hb, own_keep h.vs hb, h.far, fun x hx => (h.see x hx).keep (.of_below hb)⟩
theorem rows_ex {T : Nat → Prop} {w w1 w' : World} {H g cap : Nat} {lv vv : Value} {xs : List Ex} {us : List Val} {y : Ex} (h : Rows2 T w H lv vv xs us) (hy : SeesS (fun b => T b ∧ lv.ownBlock ≠ some b ∧ vv.ownBlock ≠ some b) w y) (hb : Below w.heap.size w w1)
  (hown : w'.ownsRow H 26 7 (.slice (some ⟨g, 0, none⟩) (xs.length + 1) cap) (xs.length + 1) (exsCells xs ++ (#[Value.string y.op, .string y.name, .int .i64 y.val.type, .int .i64 y.val.n, .string y.val.s, .slice y.A y.args.length y.c, .int .i64 y.pos] : Array Value).toList)) (hg : w1.grownBy w' lv.ownBlock) (hat : lv.ownBlock = some g ∨ w.heap.size ≤ g) (hH : H ≤ w.heap.size) :
  Rows2 T w' H (.slice (some ⟨g, 0, none⟩) (xs.length + 1) cap) vv (xs ++ [y]) us ∧ Below H w w' ∧ Only (fun k => lv.ownBlock = some k) w w' := by
 have ho : Only (fun k => lv.ownBlock = some k) w w' := (Only.of_below hb).trans (Only.of_grown hg (fun k hk => hk.symm))
 refine ⟨⟨?_, ho.own h.vs (fun k hk hs => h.far k hs hk), fun k hk => ?_, fun x hx => ?_⟩, ho.below hH (fun k hk => (h.ex.lt k hk).1), ho⟩
 ·rw [List.length_append, exsCells_more]; exact hown
 ·injection hk with hk
  have hk : g = k := hk
  subst hk
  rcases hat with e | e
  ·exact h.far g e
  ·intro e2; have := (h.vs.lt g e2).2; omega
 ·have hx' : SeesS (fun b => T b ∧ lv.ownBlock ≠ some b ∧ vv.ownBlock ≠ some b) w x := by
   rcases List.mem_append.1 hx with hx | hx
   ·exact h.see x hx
   ·simp at hx; rw [hx]; exact hy
  refine ((seesS_lt hx').keep (alike_only ho (fun b hb hl => hb.1.2.1 hl))).mono (fun b hb => ⟨hb.1.1, fun e => ?_, hb.1.2.2⟩)
  injection e with e
  have e : g = b := e
  subst e
  rcases hat with e | e
  ·exact hb.1.2.1 e
  ·have := hb.2; omega
theorem rows_vs {T : Nat → Prop} {w w1 w' : World} {H g cap : Nat} {lv vv : Value} {xs : List Ex} {us : List Val} {v : Val} (h : Rows2 T w H lv vv xs us) (hb : Below w.heap.size w w1)
  (hown : w'.ownsRow H 23 3 (.slice (some ⟨g, 0, none⟩) (us.length + 1) cap) (us.length + 1) (valsCells us ++ (#[Value.int .i64 v.type, .int .i64 v.n, .string v.s] : Array Value).toList)) (hg : w1.grownBy w' vv.ownBlock) (hat : vv.ownBlock = some g ∨ w.heap.size ≤ g) (hH : H ≤ w.heap.size) :
  Rows2 T w' H lv (.slice (some ⟨g, 0, none⟩) (us.length + 1) cap) xs (us ++ [v]) ∧ Below H w w' ∧ Only (fun k => vv.ownBlock = some k) w w' := by
 have ho : Only (fun k => vv.ownBlock = some k) w w' := (Only.of_below hb).trans (Only.of_grown hg (fun k hk => hk.symm))
 refine ⟨⟨ho.own h.ex (fun k hk hs => h.far k hk hs), ?_, fun k hk => ?_, fun x hx => ?_⟩, ho.below hH (fun k hk => (h.vs.lt k hk).1), ho⟩
 ·rw [List.length_append, valsCells_more2]; exact hown
 ·intro e
  injection e with e
  have e : g = k := e
  subst e
  rcases hat with e | e
  ·exact h.far g hk e
  ·have := (h.ex.lt g hk).2; omega
 ·refine ((seesS_lt (h.see x hx)).keep (alike_only ho (fun b hb hl => hb.1.2.2 hl))).mono (fun b hb => ⟨hb.1.1, hb.1.2.1, fun e => ?_⟩)
  injection e with e
  have e : g = b := e
  subst e
  rcases hat with e | e
  ·exact hb.1.2.2 e
  ·have := hb.2; omega
theorem built043 (op : ByteArray) (pos : Int) (A : Option Addr) (n c : Nat) : Tryz.prog.built 26 [(0, Value.string op), (4, .int .i64 pos), (3, .slice A n c)] = some #[.string op, .string ⟨#[]⟩, .int .i64 0, .int .i64 0, .string ⟨#[]⟩, .slice A n c, .int .i64 pos] := by kernel_rfl
theorem wpList_build043 {ops : Array Oper} {rest : List Oper} {o : Oper} {a : Act} {w : World} {Q : Exit → Act → World → Prop} (hg : o.guard = none) (x y z : Operand) (ho : o.op = .build 26 #[(0, x), (4, y), (3, z)])
  (op : ByteArray) (pos : Int) (A : Option Addr) (n c : Nat) (hx : a.eval x = .string op) (hy : a.eval y = .int .i64 pos) (hz : a.eval z = .slice A n c)
  (h : wpList Tryz.prog ops Q rest (a.put o.dst (.agg #[.string op, .string ⟨#[]⟩, .int .i64 0, .int .i64 0, .string ⟨#[]⟩, .slice A n c, .int .i64 pos])) w) : wpList Tryz.prog ops Q (o :: rest) a w := by
 have e : Tryz.prog.built 26 ((#[(0, x), (4, y), (3, z)] : Array (Nat × Operand)).map fun (i, x) => (i, a.eval x)).toList = some #[.string op, .string ⟨#[]⟩, .int .i64 0, .int .i64 0, .string ⟨#[]⟩, .slice A n c, .int .i64 pos] := by
  rw [← built043 op pos A n c]
  simp [hx, hy, hz]
 exact wpList_build hg _ _ ho (by rw [e]; rfl) (by rw [e]; exact h)
theorem nodeErr_plain {op name : ByteArray} {v : Val} {n : Nat} (h : nodeErrOf op name v n = 0) (hv : ¬ isVal op) (hc : ¬ isCol op) : name = ⟨#[]⟩ ∧ v = noVal := by
 unfold nodeErrOf at h
 by_cases h1 : arityOf op < 0 ∨ isCol op ∧ treeName name = false
 ·rw [if_pos h1] at h; omega
 rw [if_neg h1] at h
 by_cases h2 : (n : Int) ≠ arityOf op ∨ ¬ isCol op ∧ name.data.toList ≠ [] ∨ ¬ isVal op ∧ v ≠ noVal
 ·rw [if_pos h2] at h; omega
 refine ⟨?_, ?_⟩
 ·have : name.data.toList = [] := Classical.not_not.1 (fun e => h2 (Or.inr (Or.inl ⟨hc, e⟩)))
  exact bytes_of this
 ·exact Classical.not_not.1 (fun e => h2 (Or.inr (Or.inr ⟨hv, e⟩)))
def RFoldAt (cols : List Col) (m : Nat) : Prop := ∀ e : Ex, SizeOf.sizeOf e ≤ m → Good cols e → ∀ (S : Nat → Prop) (w : World), (∀ b, S b → b < w.heap.size) → SeesS S w e → Calls Tryz.prog 19 #[exV e] w (FoldSays S e w)
theorem allVal_app (l : List Ex) (y : Ex) : allVal (l ++ [y]) = (allVal l && decide (isVal y.op)) := by unfold allVal; rw [List.all_append]; simp
theorem oneEx (y : Ex) : ∀ u ∈ (#[Value.string y.op, .string y.name, .int .i64 y.val.type, .int .i64 y.val.n, .string y.val.s, .slice y.A y.args.length y.c, .int .i64 y.pos] : Array Value).toList, u.oneCell' = true := by
 intro u hu
 simp at hu
 rcases hu with rfl | rfl | rfl | rfl | rfl | rfl | rfl <;> rfl
theorem oneVal3 (v : Val) : ∀ u ∈ (#[Value.int .i64 v.type, .int .i64 v.n, .string v.s] : Array Value).toList, u.oneCell' = true := by
 intro u hu
 simp at hu
 rcases hu with rfl | rfl | rfl <;> rfl
set_option maxHeartbeats 4000000 in
set_option maxRecDepth 100000 in
theorem rfold_leaf (op name : ByteArray) (v : Val) (A : Option Addr) (c : Nat) (pos : Int) (S : Nat → Prop) (w : World) (he : SeesS S w (.mk op name v A c [] pos)) :
  Calls Tryz.prog 19 #[exV (.mk op name v A c [] pos)] w (FoldSays S (.mk op name v A c [] pos) w) := by
 obtain ⟨w0, hw0, ho, hb, -⟩ := box_ex w (.mk op name v A c [] pos)
 obtain ⟨w1, hw1⟩ : ∃ w1, w0.alloc (.cells #[.string ⟨#[]⟩, .string ⟨#[]⟩, .int .i64 0, .int .i64 0, .string ⟨#[]⟩, .slice none 0 0, .int .i64 0] 26) = w1 := ⟨_, rfl⟩
 have hb1 := belowNew' w0 (.cells #[.string ⟨#[]⟩, .string ⟨#[]⟩, .int .i64 0, .int .i64 0, .string ⟨#[]⟩, .slice none 0 0, .int .i64 0] 26)
 have hz : Own7 (w0.alloc (.cells #[.string ⟨#[]⟩, .string ⟨#[]⟩, .int .i64 0, .int .i64 0, .string ⟨#[]⟩, .slice none 0 0, .int .i64 0] 26)) w0.heap.size zeroEx := own7_new w0 zeroEx
 rw [hw1] at hb1 hz
 have HZ1 := Lib.hid hz
 have HB1 := Lib.hid (below_step hb hb1)
 have HLE := Lib.hid hb.size
 have HE := Lib.hid he
 have HW1 := Lib.hid hw1
 have HW0 : Hid (w.alloc (.cells #[.string op, .string name, .int .i64 v.type, .int .i64 v.n, .string v.s, .slice A 0 c, .int .i64 pos] 26) = w0) := Lib.hid hw0
 have hx1 := ho.keep hb1
 obtain ⟨c0, c1, c2, c3, c4, c5, c6⟩ := hx1.cells
 have hlt := hx1.lt
 replace c0 : w1.cell? ⟨w.heap.size, 0, none⟩ = some (.string op) := c0
 replace c1 : w1.cell? ⟨w.heap.size, 1, none⟩ = some (.string name) := c1
 replace c2 : w1.cell? ⟨w.heap.size, 2, none⟩ = some (.int .i64 v.type) := c2
 replace c3 : w1.cell? ⟨w.heap.size, 3, none⟩ = some (.int .i64 v.n) := c3
 replace c4 : w1.cell? ⟨w.heap.size, 4, none⟩ = some (.string v.s) := c4
 replace c5 : w1.cell? ⟨w.heap.size, 5, none⟩ = some (.slice A 0 c) := c5
 replace c6 : w1.cell? ⟨w.heap.size, 6, none⟩ = some (.int .i64 pos) := c6
 show Calls Tryz.prog 19 #[.agg #[.string op, .string name, .int .i64 v.type, .int .i64 v.n, .string v.s, .slice A 0 c, .int .i64 pos]] w _
 clear hw0 hw1 ho hb hb1 hz he hx1
 go_enter Tryz.func19, Tryz.ntmps19
 go_wp2_with (first
  | rw [HW0.out] | rw [HW1.out]
  | (refine wpList_store7 rfl (.tmp 2) (.tmp 16) rfl (X := .mk op name v A c [] pos) HZ1.out rfl (by rfl) ?_; intro w9 hz9 hb9 ha9 hs9))
 have HB9 := Lib.hid (hb9 w.heap.size w HB1.out HLE.out)
 clear hb9 ha9 hs9
 obtain ⟨o0, o1, o2, o3, o4, o5, o6⟩ := hz9.cells
 refine bodyPost_ret (v := exV (.mk op name v A c [] pos)) ?_ rfl ?_
 ·simp [results, Tryz.results19, go_sem, o0, o1, o2, o3, o4, o5, o6, exV]
 ·exact ⟨_, rfl, (HE.out.mono (fun b h => Or.inl h)).keep (.of_below HB9.out), by rw [foldE_leaf rfl], HB9.out⟩
set_option maxHeartbeats 16000000 in
set_option maxRecDepth 100000 in
theorem rfold_step {cols : List Col} (m : Nat) (ih : RFoldAt cols m) (op : ByteArray) (A : Option Addr) (c : Nat) (args : List Ex) (pos : Int) (hm : SizeOf.sizeOf (Ex.mk op ⟨#[]⟩ noVal A c args pos) ≤ m + 1)
  (hg : Good cols (.mk op ⟨#[]⟩ noVal A c args pos)) (hne : args ≠ []) (S : Nat → Prop) (w : World) (hS : ∀ b, S b → b < w.heap.size) (he : SeesS S w (.mk op ⟨#[]⟩ noVal A c args pos)) :
  Calls Tryz.prog 19 #[exV (.mk op ⟨#[]⟩ noVal A c args pos)] w (FoldSays S (.mk op ⟨#[]⟩ noVal A c args pos) w) := by
 have IH := Lib.hid ih
 have HO := Lib.hid (fold_opok hg hne)
 have HGA := Lib.hid (good_opok hg hne).each
 have HM := Lib.hid (fun a (ha : a ∈ args) => show SizeOf.sizeOf a ≤ m by have := ex_lt (e := .mk op ⟨#[]⟩ noVal A c args pos) ha; omega)
 have HSL := Lib.hid hS
 have HE := Lib.hid he
 have HNE := Lib.hid hne
 obtain ⟨w0, hw0, ho, hb, -⟩ := box_ex w (.mk op ⟨#[]⟩ noVal A c args pos)
 obtain ⟨w1, hw1⟩ : ∃ w1, w0.alloc (.cells #[.string ⟨#[]⟩, .string ⟨#[]⟩, .int .i64 0, .int .i64 0, .string ⟨#[]⟩, .slice none 0 0, .int .i64 0] 26) = w1 := ⟨_, rfl⟩
 have hb1 := belowNew' w0 (.cells #[.string ⟨#[]⟩, .string ⟨#[]⟩, .int .i64 0, .int .i64 0, .string ⟨#[]⟩, .slice none 0 0, .int .i64 0] 26)
 have hz : Own7 (w0.alloc (.cells #[.string ⟨#[]⟩, .string ⟨#[]⟩, .int .i64 0, .int .i64 0, .string ⟨#[]⟩, .slice none 0 0, .int .i64 0] 26)) w0.heap.size zeroEx := own7_new w0 zeroEx
 rw [hw1] at hb1 hz
 have HX1 := Lib.hid (ho.keep hb1)
 have HZ1 := Lib.hid hz
 have HB1 := Lib.hid (below_step hb hb1)
 have HLE := Lib.hid hb.size
 have HSZ := Lib.hid (show w.heap.size < w0.heap.size from ho.lt)
 have HSZ1 := Lib.hid (show w0.heap.size < w1.heap.size from hz.lt)
 have HW1 := Lib.hid hw1
 have hcap : args.length ≤ c := he.parts.1.2.1
 have hmax : c ≤ maxLen := he.parts.1.2.2.1
 unfold maxLen at hmax
 have h3 : args.length ≤ 3 := by have := (good_opok hg hne).len; have := arity_le op; omega
 have h1 : 1 ≤ args.length := List.length_pos_iff.2 hne
 obtain ⟨n, hn⟩ : ∃ n, args.length = n := ⟨_, rfl⟩
 have HLn := Lib.hid hn
 obtain ⟨-, -, -, -, -, b5, -⟩ := HX1.out.cells
 replace b5 : w1.cell? ⟨w.heap.size, 5, none⟩ = some (.slice A args.length c) := b5
 have hl1 : w.heap.size < w1.heap.size := HX1.out.lt
 have HW0 : Hid (w.alloc (.cells #[.string op, .string ⟨#[]⟩, .int .i64 0, .int .i64 0, .string ⟨#[]⟩, .slice A args.length c, .int .i64 pos] 26) = w0) := Lib.hid hw0
 show Calls Tryz.prog 19 #[.agg #[.string op, .string ⟨#[]⟩, .int .i64 0, .int .i64 0, .string ⟨#[]⟩, .slice A args.length c, .int .i64 pos]] w _
 rw [hn] at b5 hcap h3 h1 HW0 ⊢
 have HB5 := Lib.hid b5
 have HT := Lib.hid (show ∀ b, (S b ∨ w1.heap.size ≤ b) → (S b ∨ w.heap.size ≤ b) ∧ b ≠ w0.heap.size from fun b h => ⟨h.imp id (fun h => by omega), fun e => by
  have := HSZ.out; have := HSZ1.out
  rcases h with h | h
  ·have := HSL.out b h; omega
  ·omega⟩)
 have e0 : ((n : Int) == 0) = false := by simp; omega
 clear ih hm hg hne hS he hw0 hw1 hb hb1 ho hz hn
 go_enter Tryz.func19, Tryz.ntmps19
 go_wp2_with (first | rw [HW0.out] | rw [HW1.out])
 clear e0 b5
 go_loopw [3, 4, 5, 6] (fun lv av vv i wr => ∃ (k : Nat) (xs : List Ex), k ≤ n ∧ i = .int .i64 k ∧ xs.length = k ∧ av = .bool (allVal xs) ∧ Rows2 (fun b => (S b ∨ w.heap.size ≤ b) ∧ b ≠ w0.heap.size) wr w1.heap.size lv vv xs (valsOf xs) ∧ strips (foldEs (args.take k)) = strips xs ∧ Below w1.heap.size w1 wr) (fun _ _ _ i _ => n - (intOf i).toNat)
 case atStart => exact ⟨0, [], by omega, rfl, rfl, rfl, ⟨World.ownsRow_nil _ _ _ _, World.ownsRow_nil _ _ _ _, (fun k hk => by cases hk), (fun x hx => by cases hx)⟩, by rw [List.take_zero, foldEs], Below.refl _ _⟩
 case round =>
  obtain ⟨k, xs, hk, rfl, hxl, rfl, hrow, hst, hb⟩ := hrel
  have HBR := Lib.hid hb
  have HRW := Lib.hid hrow
  have HST := Lib.hid hst
  have HXL := Lib.hid hxl
  have b5 := (hb.cell (p := ⟨w.heap.size, 5, none⟩) hl1).trans HB5.out
  clear hrow hst hxl
  by_cases hlk : k < n
  ·obtain ⟨g, o, x, (rfl : A = _), hg, hx, hsx, c0, c1, c2, c3, c4, c5, c6⟩ := (HE.out.see.keep (HB1.out.trans (hb.mono HB1.out.size))).at_ (k := k) (by show k < args.length; rw [HLn.out]; exact hlk)
   have HX := Lib.hid (show args[k]? = some x from hx)
   have HMX := Lib.hid (List.mem_of_getElem? HX.out)
   have T := Lib.hid (IH.out x (HM.out x HMX.out) (HGA.out x HMX.out) S wr (fun b h => Nat.lt_of_lt_of_le (HSL.out b h) (Nat.le_trans HB1.out.size hb.size)) ((HE.out.parts.2.2.2.2.2.2 x HMX.out).keep (.of_below (HB1.out.trans (hb.mono HB1.out.size)))))
   unfold FoldSays exV at T
   have HSNX := Lib.hid (show strips (foldEs (args.take (k + 1))) = strips (foldEs (args.take k)) ++ [strip (foldE x)] by rw [List.take_add_one, HX.out, foldEs_map, foldEs_map, strips_map, strips_map]; simp)
   clear hb hx hsx hg
   go_wp2_with fail
   refine (T.out).mono ?_
   rintro e' w4 ⟨y, rfl, hsy, hstr, hb4⟩
   obtain ⟨w5, hw5, ho5, hb5, -⟩ := box_ex w4 y
   have HSZB := Lib.hid HBR.out.size
   have h45 := below_step hb4 hb5
   have HR5 := Lib.hid (HRW.out.keep h45)
   have HB45 := Lib.hid (HBR.out.trans (h45.mono HBR.out.size))
   have HZ5 := Lib.hid HB45.out.size
   have HOB := Lib.hid (show (∀ k, u3.ownBlock = some k → w1.heap.size ≤ k ∧ k < wr.heap.size) ∧ (∀ k, u5.ownBlock = some k → w1.heap.size ≤ k ∧ k < wr.heap.size) from ⟨HRW.out.ex.lt, HRW.out.vs.lt⟩)
   have HSY := Lib.hid (show SeesS (fun b => ((S b ∨ w.heap.size ≤ b) ∧ b ≠ w0.heap.size) ∧ u3.ownBlock ≠ some b ∧ u5.ownBlock ≠ some b) w5 y from (hsy.keep (.of_below hb5)).mono fun b h => by
    refine ⟨HT.out b (h.imp id (fun h => Nat.le_trans HSZB.out h)), fun e => ?_, fun e => ?_⟩
    ·have h2 := HOB.out.1 b e
     rcases h with h | h
     ·have := HSL.out b h; have := HSZ.out; have := HSZ1.out; omega
     ·omega
    ·have h2 := HOB.out.2 b e
     rcases h with h | h
     ·have := HSL.out b h; have := HSZ.out; have := HSZ1.out; omega
     ·omega)
   have HO5 := Lib.hid ho5
   have HLW := Lib.hid (show wr.heap.size ≤ w4.heap.size from hb4.size)
   have HW5 := Lib.hid hw5
   have HONE := Lib.hid (oneEx y)
   have HONV := Lib.hid (oneVal3 y.val)
   have HBY := Lib.hid (show (xs.length + 1) * 96 ≤ 140737488355328 by have := HXL.out; omega)
   have HBV := Lib.hid (show ((valsOf xs).length + 1) * 32 ≤ 140737488355328 by have := HXL.out; unfold valsOf; rw [List.length_map]; omega)
   have HNX := Lib.hid (show strips (foldEs (args.take (k + 1))) = strips (xs ++ [y]) by rw [HSNX.out, HST.out, strips_map, strips_map, List.map_append, ← hstr]; rfl)
   have HVX := Lib.hid (show valsOf (xs ++ [y]) = valsOf xs ++ [y.val] from by unfold valsOf; rw [List.map_append]; rfl)
   have HAX := Lib.hid (allVal_app xs y)
   obtain ⟨p0, p1, p2, p3, p4, p5, p6⟩ := ho5.cells
   clear hsy hstr hb4 hb5 h45 hw5 ho5 c0 c1 c2 c3 c4 c5 c6 b5 T
   by_cases hall : allVal xs = true
   ·by_cases hyv : isVal y.op
    ·have HALL := Lib.hid (show (allVal xs && decide (isVal y.op)) = true by rw [hall]; simp [hyv])
     have e1 := str_is (show y.op.data.toList = [118, 97, 108] from hyv)
     rw [hall]
     clear hall hyv
     go_wp2_with (first
      | rw [HW5.out]
      | (at_builtin; refine list_append_one exSlice rfl _ _ rfl rfl rfl HR5.out.ex HZ5.out rfl HONE.out HBY.out ?_; intro g1 cap1 w6 hown6 hg6 hat6; obtain ⟨hr6, hb6, hy6⟩ := rows_ex HR5.out HSY.out (belowNew _ _) hown6 hg6 (hat6.elim Or.inl (fun e => Or.inr (by omega))) HZ5.out; have HR6 := Lib.hid hr6; have HB6 := Lib.hid (HB45.out.trans hb6); have HZ6 := Lib.hid HB6.out.size; have ho6 : Own7 w6 w4.heap.size y := ((hy6.block w4.heap.size HO5.out.lt (fun e => by have := (HOB.out.1 _ e).2; have := HLW.out; omega)).trans HO5.out); obtain ⟨q0, q1, q2, q3, q4, q5, q6⟩ := ho6.cells; clear hown6 hg6 hat6 hr6 hb6 hy6 ho6)
      | (at_builtin; refine list_append_one valSlice rfl _ _ rfl rfl rfl HR6.out.vs HZ6.out rfl HONV.out HBV.out ?_; intro g2 cap2 w7 hown7 hg7 hat7; obtain ⟨hr7, hb7, -⟩ := rows_vs (v := y.val) HR6.out (belowNew _ _) hown7 hg7 (hat7.elim Or.inl (fun e => Or.inr (by omega))) HZ6.out; have HR7 := Lib.hid hr7; have HB7 := Lib.hid (HB6.out.trans hb7); clear hown7 hg7 hat7 hr7 hb7))
     go_roundw
     case rel => exact ⟨k + 1, xs ++ [y], by omega, by go_num, by rw [List.length_append, HXL.out]; rfl, by rw [HAX.out, HALL.out], by rw [HVX.out]; exact HR7.out, HNX.out, HB7.out⟩
     case measure => simp [intOf]; omega
    ·have HALL := Lib.hid (show (allVal xs && decide (isVal y.op)) = false by rw [hall]; simp [hyv])
     have e1 := str_ne (show y.op.data.toList ≠ [118, 97, 108] from hyv)
     rw [hall]
     clear hall hyv
     go_wp2_with (first
      | rw [HW5.out]
      | (at_builtin; refine list_append_one exSlice rfl _ _ rfl rfl rfl HR5.out.ex HZ5.out rfl HONE.out HBY.out ?_; intro g1 cap1 w6 hown6 hg6 hat6; obtain ⟨hr6, hb6, hy6⟩ := rows_ex HR5.out HSY.out (belowNew _ _) hown6 hg6 (hat6.elim Or.inl (fun e => Or.inr (by omega))) HZ5.out; have HR6 := Lib.hid hr6; have HB6 := Lib.hid (HB45.out.trans hb6); have HZ6 := Lib.hid HB6.out.size; have ho6 : Own7 w6 w4.heap.size y := ((hy6.block w4.heap.size HO5.out.lt (fun e => by have := (HOB.out.1 _ e).2; have := HLW.out; omega)).trans HO5.out); obtain ⟨q0, q1, q2, q3, q4, q5, q6⟩ := ho6.cells; clear hown6 hg6 hat6 hr6 hb6 hy6 ho6)
      | (at_builtin; refine list_append_one valSlice rfl _ _ rfl rfl rfl HR6.out.vs HZ6.out rfl HONV.out HBV.out ?_; intro g2 cap2 w7 hown7 hg7 hat7; obtain ⟨hr7, hb7, -⟩ := rows_vs (v := y.val) HR6.out (belowNew _ _) hown7 hg7 (hat7.elim Or.inl (fun e => Or.inr (by omega))) HZ6.out; have HR7 := Lib.hid hr7; have HB7 := Lib.hid (HB6.out.trans hb7); clear hown7 hg7 hat7 hr7 hb7))
     go_roundw
     case rel => exact ⟨k + 1, xs ++ [y], by omega, by go_num, by rw [List.length_append, HXL.out]; rfl, by rw [HAX.out, HALL.out], by rw [HVX.out]; exact HR7.out, HNX.out, HB7.out⟩
     case measure => simp [intOf]; omega
   ·have hall : allVal xs = false := by simpa using hall
    have HALL := Lib.hid (show (allVal xs && decide (isVal y.op)) = false by rw [hall]; rfl)
    rw [hall]
    clear hall
    go_wp2_with (first
     | rw [HW5.out]
     | (at_builtin; refine list_append_one exSlice rfl _ _ rfl rfl rfl HR5.out.ex HZ5.out rfl HONE.out HBY.out ?_; intro g1 cap1 w6 hown6 hg6 hat6; obtain ⟨hr6, hb6, hy6⟩ := rows_ex HR5.out HSY.out (belowNew _ _) hown6 hg6 (hat6.elim Or.inl (fun e => Or.inr (by omega))) HZ5.out; have HR6 := Lib.hid hr6; have HB6 := Lib.hid (HB45.out.trans hb6); have HZ6 := Lib.hid HB6.out.size; have ho6 : Own7 w6 w4.heap.size y := ((hy6.block w4.heap.size HO5.out.lt (fun e => by have := (HOB.out.1 _ e).2; have := HLW.out; omega)).trans HO5.out); obtain ⟨q0, q1, q2, q3, q4, q5, q6⟩ := ho6.cells; clear hown6 hg6 hat6 hr6 hb6 hy6 ho6)
     | (at_builtin; refine list_append_one valSlice rfl _ _ rfl rfl rfl HR6.out.vs HZ6.out rfl HONV.out HBV.out ?_; intro g2 cap2 w7 hown7 hg7 hat7; obtain ⟨hr7, hb7, -⟩ := rows_vs (v := y.val) HR6.out (belowNew _ _) hown7 hg7 (hat7.elim Or.inl (fun e => Or.inr (by omega))) HZ6.out; have HR7 := Lib.hid hr7; have HB7 := Lib.hid (HB6.out.trans hb7); clear hown7 hg7 hat7 hr7 hb7))
    go_roundw
    case rel => exact ⟨k + 1, xs ++ [y], by omega, by go_num, by rw [List.length_append, HXL.out]; rfl, by rw [HAX.out, HALL.out], by rw [HVX.out]; exact HR7.out, HNX.out, HB7.out⟩
    case measure => simp [intOf]; omega
  ·obtain rfl : n = k := by omega
   have HTK := Lib.hid (show args.take n = args from List.take_of_length_le (by rw [HLn.out]; exact Nat.le_refl _))
   rw [HTK.out] at HST
   obtain ⟨g, cap, rfl, hgB, hrow⟩ := RowE.of_own (by have h := HRW.out.ex; rw [HXL.out] at h; exact h) HXL.out (by omega)
   have HRE := Lib.hid hrow
   have HGB := Lib.hid hgB
   have hcp : n ≤ cap ∧ cap ≤ 2 ^ 63 - 1 := by
    obtain ⟨cur, _, h4, h5, _⟩ := hrow
    unfold maxLen at h5
    exact ⟨by rw [← HXL.out]; exact h4, h5⟩
   obtain ⟨hcp1, hcp2⟩ := hcp
   obtain ⟨vA, vc, rfl, hvs⟩ := Sees.of_own HRW.out.vs
   have hvl : (valsOf xs).length = n := by unfold valsOf; rw [List.length_map]; exact HXL.out
   rw [hvl] at hvs ⊢
   have HVS := Lib.hid (show SeesVals wr vA n vc (valsOf xs) from ⟨hvl, hvs⟩)
   have hvc : n ≤ vc := hvs.2.1
   have hvm : vc ≤ 2 ^ 63 - 1 := hvs.2.2.1
   have HSEE := Lib.hid (show ∀ x ∈ xs, SeesS (fun b => (S b ∨ w.heap.size ≤ b) ∧ b ≠ w0.heap.size) wr x from fun x hx => (HRW.out.see x hx).mono (fun b h => h.1))
   have HXr := Lib.hid (HX1.out.keep hb)
   have HZr := Lib.hid (HZ1.out.keep hb)
   have HBr := Lib.hid (HB1.out.trans (hb.mono HB1.out.size))
   have HOK := Lib.hid (opok_of_strips HO.out HST.out (fun x hx => wf_of_sees (HSEE.out x hx).see))
   have HFIN := Lib.hid (show ∀ X w', X = foldTop op ⟨#[]⟩ noVal (some ⟨g, 0, none⟩) cap pos xs → SeesS (fun b => S b ∨ w.heap.size ≤ b) w' X → Below w.heap.size w w' → FoldSays S (.mk op ⟨#[]⟩ noVal A c args pos) w (.returned (exV X)) w' from fun X w' h1 h2 h3 => ⟨X, rfl, h2, by rw [h1, strip_top, ← HST.out, ← strip_top op ⟨#[]⟩ noVal none 0 pos (foldEs args), ← foldE_node HNE.out], h3⟩)
   obtain ⟨d0, -, -, -, -, b5', d6⟩ := HXr.out.cells
   replace d0 : wr.cell? ⟨w.heap.size, 0, none⟩ = some (.string op) := d0
   replace d6 : wr.cell? ⟨w.heap.size, 6, none⟩ = some (.int .i64 pos) := d6
   have hlr := HXr.out.lt
   have HGLR := Lib.hid hrow.lt
   clear hb hrow hvs hgB b5' hvl
   obtain ⟨bb, hbb⟩ : ∃ bb, allVal xs = bb := ⟨_, rfl⟩
   rw [hbb]
   have HBBV := Lib.hid hbb
   clear hbb
   go_upto_if 45 with fail
   go_cut [8, 9] from 46 to 68 (fun _ _ wx => foldable op xs = false ∧ Below wr.heap.size wr wx)
   case first =>
    cases bb with
    | true =>
     have hall : allVal xs = true := HBBV.out
     obtain ⟨r1, r2⟩ := vals_right HOK.out.each hall
     obtain ⟨p1, p2, p3⟩ := ruleErr_parts HOK.out.rule
     have TD := Lib.hid (rdo_any op (valsOf xs) vA n vc wr HVS.out p1 (by unfold valsOf; rw [List.length_map]; exact HOK.out.len) (fun u hu => (r1 u hu).1) (fun u hu => (r1 u hu).2) (by rw [r2]; exact p3))
     have HFK := Lib.hid (show foldable op xs = (decide (applyErr op (valsOf xs) = 0) && mayStand (applyVal op (valsOf xs))) by unfold foldable; rw [hall]; rfl)
     have HTOP := Lib.hid (show foldable op xs = true → exVal (applyVal op (valsOf xs)) pos = foldTop op ⟨#[]⟩ noVal (some ⟨g, 0, none⟩) cap pos xs from fun h => by unfold foldTop; rw [if_pos h])
     unfold RDoSays valV at TD
     generalize applyVal op (valsOf xs) = u at TD HFK HTOP
     generalize applyErr op (valsOf xs) = ke at TD HFK
     clear r1 r2 p1 p2 p3 hall
     go_wp2_with fail
     refine (TD.out).mono ?_
     rintro e' w4 ⟨rfl, hb4⟩
     have hb5 := belowNew' w4 (.cells #[.int .i64 u.type, .int .i64 u.n, .string u.s] 23)
     have ho5 := own3_new w4 u
     obtain ⟨w5, hw5⟩ : ∃ w5, w4.alloc (.cells #[.int .i64 u.type, .int .i64 u.n, .string u.s] 23) = w5 := ⟨_, rfl⟩
     rw [hw5] at hb5 ho5
     have h45 := below_step hb4 hb5
     have HB5 := Lib.hid h45
     have HX5 := Lib.hid (HXr.out.keep h45)
     have HZ5 := Lib.hid (HZr.out.keep h45)
     have HW5 := Lib.hid hw5
     have HLT5 := Lib.hid (show w.heap.size ≤ w0.heap.size from HLE.out)
     obtain ⟨q0, q1, q2, -, -, -, -⟩ := ho5.cells
     obtain ⟨x0, -, -, -, -, -, x6⟩ := HX5.out.cells
     replace x6 : w5.cell? ⟨w.heap.size, 6, none⟩ = some (.int .i64 pos) := x6
     have hl5 := HX5.out.lt
     have HM := Lib.hid (show mayStand u = decide (u.type ≠ 1 ∨ 0 ≤ u.n) from rfl)
     clear hb4 hb5 h45 hw5 ho5 TD d0 d6 x0
     have hk : ke ≠ 0 ∨ (ke = 0 ∧ (u.type == 1) = false) ∨ (ke = 0 ∧ (u.type == 1) = true ∧ decide (0 ≤ u.n) = true) ∨ (ke = 0 ∧ (u.type == 1) = true ∧ decide (0 ≤ u.n) = false) := by
      by_cases h1 : ke = 0
      ·by_cases h2 : u.type = 1
       ·by_cases h3 : 0 ≤ u.n
        ·exact Or.inr (Or.inr (Or.inl ⟨h1, by simp [h2], by simp [h3]⟩))
        ·exact Or.inr (Or.inr (Or.inr ⟨h1, by simp [h2], by simp; omega⟩))
       ·exact Or.inr (Or.inl ⟨h1, by simp [h2]⟩)
      ·exact Or.inl h1
     rcases hk with h1 | ⟨rfl, h2⟩ | ⟨rfl, h2, h3⟩ | ⟨rfl, h2, h3⟩
     ·have g1 : (ke == 0) = false := by simpa using h1
      have HF := Lib.hid (show foldable op xs = false by rw [HFK.out]; simp [h1])
      clear h1 HFK HTOP HM
      go_wp2_with (first | rw [HW5.out])
      go_meet
      exact ⟨HF.out, HB5.out⟩
     ·have HF := Lib.hid (show foldable op xs = true by rw [HFK.out, HM.out]; simp at h2; simp [h2])
      have h2' := congrArg Bool.not h2
      rw [show (!(u.type == 1)) = (u.type != 1) from rfl] at h2'
      simp only [Bool.not_false] at h2'
      clear HFK HM
      go_wp2_with (first
       | rw [HW5.out]
       | (refine wpList_build48 rfl _ _ _ rfl _ _ _ _ rfl rfl rfl ?_)
       | (refine wpList_store7 rfl (.tmp 2) (.tmp 68) rfl (X := exVal u pos) HZ5.out rfl rfl ?_; intro w9 hz9 hb9 ha9 hs9))
      have HB9 := Lib.hid (hb9 w.heap.size w (HBr.out.trans (HB5.out.mono HBr.out.size)) HLE.out)
      clear hb9 ha9 hs9
      obtain ⟨o0, o1, o2, o3, o4, o5, o6⟩ := hz9.cells
      refine bodyPost_ret (v := exV (exVal u pos)) ?_ rfl ?_
      ·simp [results, Tryz.results19, go_sem, o0, o1, o2, o3, o4, o5, o6, exV]
      ·refine HFIN.out _ _ (HTOP.out HF.out) ?_ HB9.out
       have hwf := (top_good (A := some ⟨g, 0, none⟩) (c := cap) (pos := pos) HOK.out).1.wf
       rw [← HTOP.out HF.out] at hwf
       exact .mk (Sees.nil _ _) (fun g o h => by cases h) (show (3 : Nat) ≤ maxLen by decide) (Nat.zero_le _) hwf.parts.1 HE.out.parts.2.2.2.2.2.1 (fun a h => by cases h)
     ·have HF := Lib.hid (show foldable op xs = true by rw [HFK.out, HM.out]; simp at h2 h3; simp [h2, h3])
      have h2' := congrArg Bool.not h2
      rw [show (!(u.type == 1)) = (u.type != 1) from rfl] at h2'
      simp only [Bool.not_true] at h2'
      clear HFK HM
      go_wp2_with (first
       | rw [HW5.out]
       | (refine wpList_build48 rfl _ _ _ rfl _ _ _ _ rfl rfl rfl ?_)
       | (refine wpList_store7 rfl (.tmp 2) (.tmp 68) rfl (X := exVal u pos) HZ5.out rfl rfl ?_; intro w9 hz9 hb9 ha9 hs9))
      have HB9 := Lib.hid (hb9 w.heap.size w (HBr.out.trans (HB5.out.mono HBr.out.size)) HLE.out)
      clear hb9 ha9 hs9
      obtain ⟨o0, o1, o2, o3, o4, o5, o6⟩ := hz9.cells
      refine bodyPost_ret (v := exV (exVal u pos)) ?_ rfl ?_
      ·simp [results, Tryz.results19, go_sem, o0, o1, o2, o3, o4, o5, o6, exV]
      ·refine HFIN.out _ _ (HTOP.out HF.out) ?_ HB9.out
       have hwf := (top_good (A := some ⟨g, 0, none⟩) (c := cap) (pos := pos) HOK.out).1.wf
       rw [← HTOP.out HF.out] at hwf
       exact .mk (Sees.nil _ _) (fun g o h => by cases h) (show (3 : Nat) ≤ maxLen by decide) (Nat.zero_le _) hwf.parts.1 HE.out.parts.2.2.2.2.2.1 (fun a h => by cases h)
     ·have HF := Lib.hid (show foldable op xs = false by rw [HFK.out, HM.out]; simp at h2 h3; simp [h2]; omega)
      have h2' := congrArg Bool.not h2
      rw [show (!(u.type == 1)) = (u.type != 1) from rfl] at h2'
      simp only [Bool.not_true] at h2'
      clear HFK HM HTOP
      go_wp2_with (first | rw [HW5.out])
      go_meet
      exact ⟨HF.out, HB5.out⟩
    | false =>
     have HF := Lib.hid (show foldable op xs = false by unfold foldable; rw [HBBV.out]; rfl)
     go_wp2_with fail
     go_meet
     exact ⟨HF.out, Below.refl _ _⟩
   case rest =>
    obtain ⟨hf, hbc⟩ := hcut
    have HFR := Lib.hid (show foldTop op ⟨#[]⟩ noVal (some ⟨g, 0, none⟩) cap pos xs = foldRest op ⟨#[]⟩ noVal (some ⟨g, 0, none⟩) cap pos xs by unfold foldTop; rw [if_neg (by rw [hf]; decide)])
    obtain ⟨w8, hw8⟩ : ∃ w8, wc.alloc (.cells #[.string op, .string ⟨#[]⟩, .int .i64 0, .int .i64 0, .string ⟨#[]⟩, .slice (some ⟨g, 0, none⟩) n cap, .int .i64 pos] 26) = w8 := ⟨_, rfl⟩
    have hb8 := belowNew' wc (.cells #[.string op, .string ⟨#[]⟩, .int .i64 0, .int .i64 0, .string ⟨#[]⟩, .slice (some ⟨g, 0, none⟩) n cap, .int .i64 pos] 26)
    have ho8 : Own7 (wc.alloc (.cells #[.string op, .string ⟨#[]⟩, .int .i64 0, .int .i64 0, .string ⟨#[]⟩, .slice (some ⟨g, 0, none⟩) n cap, .int .i64 pos] 26)) wc.heap.size (.mk op ⟨#[]⟩ noVal (some ⟨g, 0, none⟩) cap xs pos) := by
     have := own7_new wc (.mk op ⟨#[]⟩ noVal (some ⟨g, 0, none⟩) cap xs pos)
     rw [show (Ex.mk op ⟨#[]⟩ noVal (some ⟨g, 0, none⟩) cap xs pos).args.length = n from HXL.out] at this
     unfold Own7
     rw [show (Ex.mk op ⟨#[]⟩ noVal (some ⟨g, 0, none⟩) cap xs pos).args.length = n from HXL.out]
     exact heap_alloc_new wc _
    rw [hw8] at hb8 ho8
    have hr8 := below_step hbc hb8
    have hxc := HXr.out.keep hbc
    obtain ⟨d0, -, -, -, -, -, d6⟩ := hxc.cells
    replace d0 : wc.cell? ⟨w.heap.size, 0, none⟩ = some (.string op) := d0
    replace d6 : wc.cell? ⟨w.heap.size, 6, none⟩ = some (.int .i64 pos) := d6
    have hlc := hxc.lt
    have hx8 := HXr.out.keep hr8
    have HR8 := Lib.hid (HRE.out.keep hr8)
    have HZ8 := Lib.hid (HZr.out.keep hr8)
    have HB8 := Lib.hid (HBr.out.trans (hr8.mono HBr.out.size))
    have HSX := Lib.hid (fun x hx => (HSEE.out x hx).keep (w' := w8) (.of_below hr8))
    obtain ⟨f0, -, -, -, -, -, -⟩ := hx8.cells
    replace f0 : w8.cell? ⟨w.heap.size, 0, none⟩ = some (.string op) := f0
    have hl8 := hx8.lt
    have HO8 := Lib.hid ho8
    have HW8 := Lib.hid hw8
    have HSS := Lib.hid (show SeesS (fun b => (S b ∨ w.heap.size ≤ b) ∧ b ≠ w0.heap.size) w8 (.mk op ⟨#[]⟩ noVal (some ⟨g, 0, none⟩) cap xs pos) from by
     refine .mk HR8.out.sees (fun g' o' e1 _ => ?_) HE.out.parts.2.2.1 (Nat.zero_le _) HE.out.parts.2.2.2.2.1 HE.out.parts.2.2.2.2.2.1 (fun a ha => HSX.out a ha)
     injection e1 with e1
     injection e1 with e1 _
     rw [← e1]
     have := HGB.out; have := HSZ.out; have := HSZ1.out
     exact ⟨Or.inr (by omega), by omega⟩)
    clear hf hbc hb8 hr8 hxc hx8 ho8 hw8
    obtain ⟨x0, r, rfl⟩ : ∃ x0 r, xs = x0 :: r := by
     cases xs with
     | nil => have := HXL.out; simp at this; omega
     | cons x0 r => exact ⟨x0, r, rfl⟩
    obtain ⟨y0, y1, y2, y3, y4, y5, y6⟩ := row_at0 HR8.out (x := x0) rfl
    have hgl8 := HR8.out.lt
    have HGX := Lib.hid (HOK.out.each x0 (by simp))
    have HOWN := Lib.hid (show w8.cell? ⟨wc.heap.size, 0, none⟩ = some (.string op) ∧ w8.cell? ⟨wc.heap.size, 1, none⟩ = some (.string ⟨#[]⟩) ∧ w8.cell? ⟨wc.heap.size, 2, none⟩ = some (.int .i64 0) ∧ w8.cell? ⟨wc.heap.size, 3, none⟩ = some (.int .i64 0) ∧ w8.cell? ⟨wc.heap.size, 4, none⟩ = some (.string ⟨#[]⟩) ∧ w8.cell? ⟨wc.heap.size, 5, none⟩ = some (.slice (some ⟨g, 0, none⟩) n cap) ∧ w8.cell? ⟨wc.heap.size, 6, none⟩ = some (.int .i64 pos) from by
     have h := HO8.out.cells
     rw [show (Ex.mk op ⟨#[]⟩ noVal (some ⟨g, 0, none⟩) cap (x0 :: r) pos).args.length = n from HXL.out] at h
     exact h)
    have HLEN := Lib.hid (show r.length + 1 = n by have := HXL.out; simpa using this)
    by_cases hV : isVal x0.op
    ·have HV := Lib.hid hV
     have HXN := Lib.hid (show ¬ isNot x0.op by rw [bytes_of hV]; decide)
     by_cases hN : isNot op
     ·have HOPK := Lib.hid hN
      have HAO := Lib.hid (show ¬ (isAnd op ∨ isOr op) by rw [bytes_of hN]; decide)
      have HIF := Lib.hid (show ¬ isIf op by rw [bytes_of hN]; decide)
      clear hV hN
      as_aux_lemma =>
       have e_not := str_is (show op.data.toList = [110, 111, 116] from HOPK.out)
       have e_and : (op.toList == [97, 110, 100]) = false := by rw [Lib.toList_data, show op.data.toList = [110, 111, 116] from HOPK.out]; decide
       have e_or : (op.toList == [111, 114]) = false := by rw [Lib.toList_data, show op.data.toList = [110, 111, 116] from HOPK.out]; decide
       have e_if : (op.toList == [105, 102]) = false := by rw [Lib.toList_data, show op.data.toList = [110, 111, 116] from HOPK.out]; decide
       have e_xv := str_is (show x0.op.data.toList = [118, 97, 108] from HV.out)
       have e_xv' : (x0.op.toList != [118, 97, 108]) = false := by show (!(x0.op.toList == [118, 97, 108])) = false; rw [e_xv]; rfl
       have e_xn := str_ne (show x0.op.data.toList ≠ [110, 111, 116] from HXN.out)
       have HRES := Lib.hid (show (.mk op ⟨#[]⟩ noVal (some ⟨g, 0, none⟩) cap (x0 :: r) pos) = foldTop op ⟨#[]⟩ noVal (some ⟨g, 0, none⟩) cap pos (x0 :: r) from by rw [HFR.out, foldRest, if_neg (fun h => HXN.out h.2), if_neg (by simp [HV.out]), if_neg (no_stops HAO.out), if_neg HAO.out, if_neg HIF.out])
       obtain ⟨t0, t1, t2, t3, t4, t5, t6⟩ := HOWN.out
       clear HFR HOWN
       go_wp2_with (first
        | (refine wpList_build043 rfl _ _ _ rfl op pos (some ⟨g, 0, none⟩) n cap rfl rfl rfl ?_)
        | rw [HW8.out]
        | (refine wpList_store7 rfl (.tmp 2) (.tmp 132) rfl (X := (.mk op ⟨#[]⟩ noVal (some ⟨g, 0, none⟩) cap (x0 :: r) pos)) HZ8.out rfl (by show _ = Value.agg #[.string op, .string ⟨#[]⟩, .int .i64 0, .int .i64 0, .string ⟨#[]⟩, .slice (some ⟨g, 0, none⟩) (r.length + 1) cap, .int .i64 pos]; rw [show r.length + 1 = n from HLEN.out]; rfl) ?_; intro w11 hz11 hb11 ha11 hs11))
       have HB11 := Lib.hid (hb11 w.heap.size w HB8.out HLE.out)
       have HAL11 := Lib.hid (show Alike (fun b => (S b ∨ w.heap.size ≤ b) ∧ b ≠ w0.heap.size) w8 w11 from ⟨by rw [hs11]; exact Nat.le_refl _, fun b hb _ => ha11 b hb.2⟩)
       clear hb11 ha11 hs11
       obtain ⟨o0, o1, o2, o3, o4, o5, o6⟩ := hz11.cells
       refine bodyPost_ret (v := exV ((.mk op ⟨#[]⟩ noVal (some ⟨g, 0, none⟩) cap (x0 :: r) pos))) ?_ rfl ?_
       ·simp [results, Tryz.results19, go_sem, o0, o1, o2, o3, o4, o5, o6, exV]
       ·exact HFIN.out _ _ HRES.out ((HSS.out.keep HAL11.out).mono (fun b h => h.1)) HB11.out
     have HNot := Lib.hid hN
     by_cases hA : isAnd op
     ·have HOPK := Lib.hid hA
      obtain ⟨xa, x1, hxs, t1, -⟩ := and_parts HOK.out (Or.inl hA)
      injection hxs with hxa hr
      subst hxa hr
      have hn01 := val_bool HGX.out hV t1
      have HOTH := Lib.hid (show ¬ isOr op by rw [bytes_of hA]; decide)
      have hn2 : 2 ≤ n := by rw [← (show 1 + 1 = n from HLEN.out)]; decide
      obtain ⟨s0, s1, s2, s3, s4, s5, s6⟩ := row_at1 HR8.out (x := x1) rfl
      clear hV hN hA t1
      rcases hn01 with hn1 | hn1
      ·have HN1 := Lib.hid hn1
       clear hn1
       as_aux_lemma =>
        have e_not : (op.toList == [110, 111, 116]) = false := by rw [Lib.toList_data, show op.data.toList = [97, 110, 100] from HOPK.out]; decide
        have e_and := str_is (show op.data.toList = [97, 110, 100] from HOPK.out)
        have e_or : (op.toList == [111, 114]) = false := by rw [Lib.toList_data, show op.data.toList = [97, 110, 100] from HOPK.out]; decide
        have e_if : (op.toList == [105, 102]) = false := by rw [Lib.toList_data, show op.data.toList = [97, 110, 100] from HOPK.out]; decide
        have e_xv := str_is (show x0.op.data.toList = [118, 97, 108] from HV.out)
        have e_xv' : (x0.op.toList != [118, 97, 108]) = false := by show (!(x0.op.toList == [118, 97, 108])) = false; rw [e_xv]; rfl
        rw [HN1.out] at y3
        have HRES := Lib.hid (show x0 = foldTop op ⟨#[]⟩ noVal (some ⟨g, 0, none⟩) cap pos (x0 :: [x1]) from by rw [HFR.out, foldRest, if_neg (fun h => HNot.out h.1), if_neg (by simp [HV.out]), if_pos (show stops op x0.val from Or.inl ⟨HOPK.out, HN1.out⟩)])
        clear HFR HOWN
        go_wp2_with (first
         | (refine wpList_build043 rfl _ _ _ rfl op pos (some ⟨g, 0, none⟩) n cap rfl rfl rfl ?_)
         | rw [HW8.out]
         | (refine wpList_store7 rfl (.tmp 2) (.tmp 113) rfl (X := x0) HZ8.out rfl (by rw [HN1.out]; rfl) ?_; intro w11 hz11 hb11 ha11 hs11))
        have HB11 := Lib.hid (hb11 w.heap.size w HB8.out HLE.out)
        have HAL11 := Lib.hid (show Alike (fun b => (S b ∨ w.heap.size ≤ b) ∧ b ≠ w0.heap.size) w8 w11 from ⟨by rw [hs11]; exact Nat.le_refl _, fun b hb _ => ha11 b hb.2⟩)
        clear hb11 ha11 hs11
        obtain ⟨o0, o1, o2, o3, o4, o5, o6⟩ := hz11.cells
        refine bodyPost_ret (v := exV (x0)) ?_ rfl ?_
        ·simp [results, Tryz.results19, go_sem, o0, o1, o2, o3, o4, o5, o6, exV]
        ·exact HFIN.out _ _ HRES.out (((HSX.out x0 (by simp)).keep HAL11.out).mono (fun b h => h.1)) HB11.out
      ·have HN1 := Lib.hid hn1
       clear hn1
       as_aux_lemma =>
        have e_not : (op.toList == [110, 111, 116]) = false := by rw [Lib.toList_data, show op.data.toList = [97, 110, 100] from HOPK.out]; decide
        have e_and := str_is (show op.data.toList = [97, 110, 100] from HOPK.out)
        have e_or : (op.toList == [111, 114]) = false := by rw [Lib.toList_data, show op.data.toList = [97, 110, 100] from HOPK.out]; decide
        have e_if : (op.toList == [105, 102]) = false := by rw [Lib.toList_data, show op.data.toList = [97, 110, 100] from HOPK.out]; decide
        have e_xv := str_is (show x0.op.data.toList = [118, 97, 108] from HV.out)
        have e_xv' : (x0.op.toList != [118, 97, 108]) = false := by show (!(x0.op.toList == [118, 97, 108])) = false; rw [e_xv]; rfl
        rw [HN1.out] at y3
        have HRES := Lib.hid (show x1 = foldTop op ⟨#[]⟩ noVal (some ⟨g, 0, none⟩) cap pos (x0 :: [x1]) from by rw [HFR.out, foldRest, if_neg (fun h => HNot.out h.1), if_neg (by simp [HV.out]), if_neg (fun h => by rcases h with h | h; (have := h.2; rw [HN1.out] at this; omega); (exact HOTH.out h.1)), if_pos (Or.inl HOPK.out)]; rfl)
        clear HFR HOWN
        go_wp2_with (first
         | (refine wpList_build043 rfl _ _ _ rfl op pos (some ⟨g, 0, none⟩) n cap rfl rfl rfl ?_)
         | rw [HW8.out]
         | (refine wpList_store7 rfl (.tmp 2) (.tmp 110) rfl (X := x1) HZ8.out rfl (by rfl) ?_; intro w11 hz11 hb11 ha11 hs11))
        have HB11 := Lib.hid (hb11 w.heap.size w HB8.out HLE.out)
        have HAL11 := Lib.hid (show Alike (fun b => (S b ∨ w.heap.size ≤ b) ∧ b ≠ w0.heap.size) w8 w11 from ⟨by rw [hs11]; exact Nat.le_refl _, fun b hb _ => ha11 b hb.2⟩)
        clear hb11 ha11 hs11
        obtain ⟨o0, o1, o2, o3, o4, o5, o6⟩ := hz11.cells
        refine bodyPost_ret (v := exV (x1)) ?_ rfl ?_
        ·simp [results, Tryz.results19, go_sem, o0, o1, o2, o3, o4, o5, o6, exV]
        ·exact HFIN.out _ _ HRES.out (((HSX.out x1 (by simp)).keep HAL11.out).mono (fun b h => h.1)) HB11.out
     have HAnd := Lib.hid hA
     clear hA
     by_cases hA : isOr op
     ·have HOPK := Lib.hid hA
      obtain ⟨xa, x1, hxs, t1, -⟩ := and_parts HOK.out (Or.inr hA)
      injection hxs with hxa hr
      subst hxa hr
      have hn01 := val_bool HGX.out hV t1
      have HOTH := Lib.hid (show ¬ isAnd op by rw [bytes_of hA]; decide)
      have hn2 : 2 ≤ n := by rw [← (show 1 + 1 = n from HLEN.out)]; decide
      obtain ⟨s0, s1, s2, s3, s4, s5, s6⟩ := row_at1 HR8.out (x := x1) rfl
      clear hV hN hA t1
      rcases hn01 with hn1 | hn1
      ·have HN1 := Lib.hid hn1
       clear hn1
       as_aux_lemma =>
        have e_not : (op.toList == [110, 111, 116]) = false := by rw [Lib.toList_data, show op.data.toList = [111, 114] from HOPK.out]; decide
        have e_and : (op.toList == [97, 110, 100]) = false := by rw [Lib.toList_data, show op.data.toList = [111, 114] from HOPK.out]; decide
        have e_or := str_is (show op.data.toList = [111, 114] from HOPK.out)
        have e_if : (op.toList == [105, 102]) = false := by rw [Lib.toList_data, show op.data.toList = [111, 114] from HOPK.out]; decide
        have e_xv := str_is (show x0.op.data.toList = [118, 97, 108] from HV.out)
        have e_xv' : (x0.op.toList != [118, 97, 108]) = false := by show (!(x0.op.toList == [118, 97, 108])) = false; rw [e_xv]; rfl
        rw [HN1.out] at y3
        have HRES := Lib.hid (show x1 = foldTop op ⟨#[]⟩ noVal (some ⟨g, 0, none⟩) cap pos (x0 :: [x1]) from by rw [HFR.out, foldRest, if_neg (fun h => HNot.out h.1), if_neg (by simp [HV.out]), if_neg (fun h => by rcases h with h | h; (exact HOTH.out h.1); (have := h.2; rw [HN1.out] at this; omega)), if_pos (Or.inr HOPK.out)]; rfl)
        clear HFR HOWN
        go_wp2_with (first
         | (refine wpList_build043 rfl _ _ _ rfl op pos (some ⟨g, 0, none⟩) n cap rfl rfl rfl ?_)
         | rw [HW8.out]
         | (refine wpList_store7 rfl (.tmp 2) (.tmp 122) rfl (X := x1) HZ8.out rfl (by rfl) ?_; intro w11 hz11 hb11 ha11 hs11))
        have HB11 := Lib.hid (hb11 w.heap.size w HB8.out HLE.out)
        have HAL11 := Lib.hid (show Alike (fun b => (S b ∨ w.heap.size ≤ b) ∧ b ≠ w0.heap.size) w8 w11 from ⟨by rw [hs11]; exact Nat.le_refl _, fun b hb _ => ha11 b hb.2⟩)
        clear hb11 ha11 hs11
        obtain ⟨o0, o1, o2, o3, o4, o5, o6⟩ := hz11.cells
        refine bodyPost_ret (v := exV (x1)) ?_ rfl ?_
        ·simp [results, Tryz.results19, go_sem, o0, o1, o2, o3, o4, o5, o6, exV]
        ·exact HFIN.out _ _ HRES.out (((HSX.out x1 (by simp)).keep HAL11.out).mono (fun b h => h.1)) HB11.out
      ·have HN1 := Lib.hid hn1
       clear hn1
       as_aux_lemma =>
        have e_not : (op.toList == [110, 111, 116]) = false := by rw [Lib.toList_data, show op.data.toList = [111, 114] from HOPK.out]; decide
        have e_and : (op.toList == [97, 110, 100]) = false := by rw [Lib.toList_data, show op.data.toList = [111, 114] from HOPK.out]; decide
        have e_or := str_is (show op.data.toList = [111, 114] from HOPK.out)
        have e_if : (op.toList == [105, 102]) = false := by rw [Lib.toList_data, show op.data.toList = [111, 114] from HOPK.out]; decide
        have e_xv := str_is (show x0.op.data.toList = [118, 97, 108] from HV.out)
        have e_xv' : (x0.op.toList != [118, 97, 108]) = false := by show (!(x0.op.toList == [118, 97, 108])) = false; rw [e_xv]; rfl
        rw [HN1.out] at y3
        have HRES := Lib.hid (show x0 = foldTop op ⟨#[]⟩ noVal (some ⟨g, 0, none⟩) cap pos (x0 :: [x1]) from by rw [HFR.out, foldRest, if_neg (fun h => HNot.out h.1), if_neg (by simp [HV.out]), if_pos (show stops op x0.val from Or.inr ⟨HOPK.out, HN1.out⟩)])
        clear HFR HOWN
        go_wp2_with (first
         | (refine wpList_build043 rfl _ _ _ rfl op pos (some ⟨g, 0, none⟩) n cap rfl rfl rfl ?_)
         | rw [HW8.out]
         | (refine wpList_store7 rfl (.tmp 2) (.tmp 119) rfl (X := x0) HZ8.out rfl (by rw [HN1.out]; rfl) ?_; intro w11 hz11 hb11 ha11 hs11))
        have HB11 := Lib.hid (hb11 w.heap.size w HB8.out HLE.out)
        have HAL11 := Lib.hid (show Alike (fun b => (S b ∨ w.heap.size ≤ b) ∧ b ≠ w0.heap.size) w8 w11 from ⟨by rw [hs11]; exact Nat.le_refl _, fun b hb _ => ha11 b hb.2⟩)
        clear hb11 ha11 hs11
        obtain ⟨o0, o1, o2, o3, o4, o5, o6⟩ := hz11.cells
        refine bodyPost_ret (v := exV (x0)) ?_ rfl ?_
        ·simp [results, Tryz.results19, go_sem, o0, o1, o2, o3, o4, o5, o6, exV]
        ·exact HFIN.out _ _ HRES.out (((HSX.out x0 (by simp)).keep HAL11.out).mono (fun b h => h.1)) HB11.out
     have HOr := Lib.hid hA
     clear hA
     have HAO := Lib.hid (show ¬ (isAnd op ∨ isOr op) from fun h => h.elim HAnd.out HOr.out)
     by_cases hI : isIf op
     ·have HOPK := Lib.hid hI
      obtain ⟨xa, x1, x2, hxs, t1, -⟩ := if_parts HOK.out hI
      injection hxs with hxa hr
      subst hxa hr
      have hn01 := val_bool HGX.out hV t1
      have hn2 : 3 ≤ n := by rw [← (show 1 + 1 + 1 = n from HLEN.out)]; decide
      obtain ⟨s0, s1, s2, s3, s4, s5, s6⟩ := row_at1 HR8.out (x := x1) rfl
      obtain ⟨r0, r1, r2, r3, r4, r5, r6⟩ := row_at2 HR8.out (x := x2) rfl
      clear hV hN hI t1
      rcases hn01 with hn1 | hn1
      ·have HN1 := Lib.hid hn1
       clear hn1
       as_aux_lemma =>
        have e_not : (op.toList == [110, 111, 116]) = false := by rw [Lib.toList_data, show op.data.toList = [105, 102] from HOPK.out]; decide
        have e_and : (op.toList == [97, 110, 100]) = false := by rw [Lib.toList_data, show op.data.toList = [105, 102] from HOPK.out]; decide
        have e_or : (op.toList == [111, 114]) = false := by rw [Lib.toList_data, show op.data.toList = [105, 102] from HOPK.out]; decide
        have e_if := str_is (show op.data.toList = [105, 102] from HOPK.out)
        have e_xv := str_is (show x0.op.data.toList = [118, 97, 108] from HV.out)
        have e_xv' : (x0.op.toList != [118, 97, 108]) = false := by show (!(x0.op.toList == [118, 97, 108])) = false; rw [e_xv]; rfl
        rw [HN1.out] at y3
        have HRES := Lib.hid (show x2 = foldTop op ⟨#[]⟩ noVal (some ⟨g, 0, none⟩) cap pos (x0 :: [x1, x2]) from by rw [HFR.out, foldRest, if_neg (fun h => HNot.out h.1), if_neg (by simp [HV.out]), if_neg (no_stops HAO.out), if_neg HAO.out, if_pos HOPK.out, HN1.out]; rfl)
        clear HFR HOWN
        go_wp2_with (first
         | (refine wpList_build043 rfl _ _ _ rfl op pos (some ⟨g, 0, none⟩) n cap rfl rfl rfl ?_)
         | rw [HW8.out]
         | (refine wpList_store7 rfl (.tmp 2) (.tmp 131) rfl (X := x2) HZ8.out rfl (by rfl) ?_; intro w11 hz11 hb11 ha11 hs11))
        have HB11 := Lib.hid (hb11 w.heap.size w HB8.out HLE.out)
        have HAL11 := Lib.hid (show Alike (fun b => (S b ∨ w.heap.size ≤ b) ∧ b ≠ w0.heap.size) w8 w11 from ⟨by rw [hs11]; exact Nat.le_refl _, fun b hb _ => ha11 b hb.2⟩)
        clear hb11 ha11 hs11
        obtain ⟨o0, o1, o2, o3, o4, o5, o6⟩ := hz11.cells
        refine bodyPost_ret (v := exV (x2)) ?_ rfl ?_
        ·simp [results, Tryz.results19, go_sem, o0, o1, o2, o3, o4, o5, o6, exV]
        ·exact HFIN.out _ _ HRES.out (((HSX.out x2 (by simp)).keep HAL11.out).mono (fun b h => h.1)) HB11.out
      ·have HN1 := Lib.hid hn1
       clear hn1
       as_aux_lemma =>
        have e_not : (op.toList == [110, 111, 116]) = false := by rw [Lib.toList_data, show op.data.toList = [105, 102] from HOPK.out]; decide
        have e_and : (op.toList == [97, 110, 100]) = false := by rw [Lib.toList_data, show op.data.toList = [105, 102] from HOPK.out]; decide
        have e_or : (op.toList == [111, 114]) = false := by rw [Lib.toList_data, show op.data.toList = [105, 102] from HOPK.out]; decide
        have e_if := str_is (show op.data.toList = [105, 102] from HOPK.out)
        have e_xv := str_is (show x0.op.data.toList = [118, 97, 108] from HV.out)
        have e_xv' : (x0.op.toList != [118, 97, 108]) = false := by show (!(x0.op.toList == [118, 97, 108])) = false; rw [e_xv]; rfl
        rw [HN1.out] at y3
        have HRES := Lib.hid (show x1 = foldTop op ⟨#[]⟩ noVal (some ⟨g, 0, none⟩) cap pos (x0 :: [x1, x2]) from by rw [HFR.out, foldRest, if_neg (fun h => HNot.out h.1), if_neg (by simp [HV.out]), if_neg (no_stops HAO.out), if_neg HAO.out, if_pos HOPK.out, HN1.out]; rfl)
        clear HFR HOWN
        go_wp2_with (first
         | (refine wpList_build043 rfl _ _ _ rfl op pos (some ⟨g, 0, none⟩) n cap rfl rfl rfl ?_)
         | rw [HW8.out]
         | (refine wpList_store7 rfl (.tmp 2) (.tmp 128) rfl (X := x1) HZ8.out rfl (by rfl) ?_; intro w11 hz11 hb11 ha11 hs11))
        have HB11 := Lib.hid (hb11 w.heap.size w HB8.out HLE.out)
        have HAL11 := Lib.hid (show Alike (fun b => (S b ∨ w.heap.size ≤ b) ∧ b ≠ w0.heap.size) w8 w11 from ⟨by rw [hs11]; exact Nat.le_refl _, fun b hb _ => ha11 b hb.2⟩)
        clear hb11 ha11 hs11
        obtain ⟨o0, o1, o2, o3, o4, o5, o6⟩ := hz11.cells
        refine bodyPost_ret (v := exV (x1)) ?_ rfl ?_
        ·simp [results, Tryz.results19, go_sem, o0, o1, o2, o3, o4, o5, o6, exV]
        ·exact HFIN.out _ _ HRES.out (((HSX.out x1 (by simp)).keep HAL11.out).mono (fun b h => h.1)) HB11.out
     have HNO := Lib.hid (show ¬ isNot op ∧ ¬ isAnd op ∧ ¬ isOr op ∧ ¬ isIf op from ⟨HNot.out, HAnd.out, HOr.out, hI⟩)
     clear hV hN hI
     as_aux_lemma =>
      have e_not := str_ne (show op.data.toList ≠ [110, 111, 116] from HNO.out.1)
      have e_and := str_ne (show op.data.toList ≠ [97, 110, 100] from HNO.out.2.1)
      have e_or := str_ne (show op.data.toList ≠ [111, 114] from HNO.out.2.2.1)
      have e_if := str_ne (show op.data.toList ≠ [105, 102] from HNO.out.2.2.2)
      have e_xv := str_is (show x0.op.data.toList = [118, 97, 108] from HV.out)
      have e_xv' : (x0.op.toList != [118, 97, 108]) = false := by show (!(x0.op.toList == [118, 97, 108])) = false; rw [e_xv]; rfl
      have HRES := Lib.hid (show (.mk op ⟨#[]⟩ noVal (some ⟨g, 0, none⟩) cap (x0 :: r) pos) = foldTop op ⟨#[]⟩ noVal (some ⟨g, 0, none⟩) cap pos (x0 :: r) from by rw [HFR.out, foldRest, if_neg (fun h => HNot.out h.1), if_neg (by simp [HV.out]), if_neg (no_stops HAO.out), if_neg HAO.out, if_neg HNO.out.2.2.2])
      obtain ⟨t0, t1, t2, t3, t4, t5, t6⟩ := HOWN.out
      clear HFR HOWN
      go_wp2_with (first
       | (refine wpList_build043 rfl _ _ _ rfl op pos (some ⟨g, 0, none⟩) n cap rfl rfl rfl ?_)
       | rw [HW8.out]
       | (refine wpList_store7 rfl (.tmp 2) (.tmp 132) rfl (X := (.mk op ⟨#[]⟩ noVal (some ⟨g, 0, none⟩) cap (x0 :: r) pos)) HZ8.out rfl (by show _ = Value.agg #[.string op, .string ⟨#[]⟩, .int .i64 0, .int .i64 0, .string ⟨#[]⟩, .slice (some ⟨g, 0, none⟩) (r.length + 1) cap, .int .i64 pos]; rw [show r.length + 1 = n from HLEN.out]; rfl) ?_; intro w11 hz11 hb11 ha11 hs11))
      have HB11 := Lib.hid (hb11 w.heap.size w HB8.out HLE.out)
      have HAL11 := Lib.hid (show Alike (fun b => (S b ∨ w.heap.size ≤ b) ∧ b ≠ w0.heap.size) w8 w11 from ⟨by rw [hs11]; exact Nat.le_refl _, fun b hb _ => ha11 b hb.2⟩)
      clear hb11 ha11 hs11
      obtain ⟨o0, o1, o2, o3, o4, o5, o6⟩ := hz11.cells
      refine bodyPost_ret (v := exV ((.mk op ⟨#[]⟩ noVal (some ⟨g, 0, none⟩) cap (x0 :: r) pos))) ?_ rfl ?_
      ·simp [results, Tryz.results19, go_sem, o0, o1, o2, o3, o4, o5, o6, exV]
      ·exact HFIN.out _ _ HRES.out ((HSS.out.keep HAL11.out).mono (fun b h => h.1)) HB11.out
    ·have HV := Lib.hid hV
     by_cases hN : isNot op
     ·have HOPK := Lib.hid hN
      by_cases hX : isNot x0.op
      ·have HXN := Lib.hid hX
       obtain ⟨b, hb, -⟩ := not_part HGX.out hX
       have HBB := Lib.hid hb
       obtain ⟨g2, o2, xb, hA2, hg2, hxb, -, s0, s1, s2, s3, s4, s5, s6⟩ := (HSX.out x0 (by simp)).see.at_ (k := 0) (by rw [hb]; exact Nat.one_pos)
       obtain rfl : b = xb := by rw [hb] at hxb; simpa using hxb
       simp only [Nat.zero_mul, Nat.add_zero] at s0 s1 s2 s3 s4 s5 s6
       rw [hA2, hb] at y5
       replace y5 : w8.cell? ⟨g, 5, none⟩ = some (.slice (some ⟨g2, o2, none⟩) 1 x0.c) := y5
       have hx0c : 1 ≤ x0.c ∧ x0.c ≤ 2 ^ 63 - 1 := by
        have h := (HSX.out x0 (by simp)).parts.1
        have h1 := h.2.1
        have h2 := h.2.2.1
        rw [hb] at h1
        unfold maxLen at h2
        exact ⟨h1, h2⟩
       obtain ⟨hx0c1, hx0c2⟩ := hx0c
       clear hA2 hxb hV hN hX hb
       as_aux_lemma =>
        have e_not := str_is (show op.data.toList = [110, 111, 116] from HOPK.out)
        have e_xn := str_is (show x0.op.data.toList = [110, 111, 116] from HXN.out)
        have HRES := Lib.hid (show b = foldTop op ⟨#[]⟩ noVal (some ⟨g, 0, none⟩) cap pos (x0 :: r) from by rw [HFR.out, foldRest, if_pos ⟨HOPK.out, HXN.out⟩, HBB.out]; rfl)
        clear HFR HOWN
        go_wp2_with (first
         | (refine wpList_build043 rfl _ _ _ rfl op pos (some ⟨g, 0, none⟩) n cap rfl rfl rfl ?_)
         | rw [HW8.out]
         | (refine wpList_store7 rfl (.tmp 2) (.tmp 90) rfl (X := b) HZ8.out rfl (by rfl) ?_; intro w11 hz11 hb11 ha11 hs11))
        have HB11 := Lib.hid (hb11 w.heap.size w HB8.out HLE.out)
        have HAL11 := Lib.hid (show Alike (fun b => (S b ∨ w.heap.size ≤ b) ∧ b ≠ w0.heap.size) w8 w11 from ⟨by rw [hs11]; exact Nat.le_refl _, fun b hb _ => ha11 b hb.2⟩)
        clear hb11 ha11 hs11
        obtain ⟨o0, o1, o2, o3, o4, o5, o6⟩ := hz11.cells
        refine bodyPost_ret (v := exV (b)) ?_ rfl ?_
        ·simp [results, Tryz.results19, go_sem, o0, o1, o2, o3, o4, o5, o6, exV]
        ·exact HFIN.out _ _ HRES.out ((((HSX.out x0 (by simp)).parts.2.2.2.2.2.2 b (by rw [HBB.out]; simp)).keep HAL11.out).mono (fun b h => h.1)) HB11.out
      ·have HXN := Lib.hid hX
       clear hV hN hX
       as_aux_lemma =>
        have e_not := str_is (show op.data.toList = [110, 111, 116] from HOPK.out)
        have e_xn := str_ne (show x0.op.data.toList ≠ [110, 111, 116] from HXN.out)
        have e_xv := str_ne (show x0.op.data.toList ≠ [118, 97, 108] from HV.out)
        have e_xv' : (x0.op.toList != [118, 97, 108]) = true := by show (!(x0.op.toList == [118, 97, 108])) = true; rw [e_xv]; rfl
        have HRES := Lib.hid (show (.mk op ⟨#[]⟩ noVal (some ⟨g, 0, none⟩) cap (x0 :: r) pos) = foldTop op ⟨#[]⟩ noVal (some ⟨g, 0, none⟩) cap pos (x0 :: r) from by rw [HFR.out, foldRest, if_neg (fun h => HXN.out h.2), if_pos HV.out])
        obtain ⟨t0, t1, t2, t3, t4, t5, t6⟩ := HOWN.out
        clear HFR HOWN
        go_wp2_with (first
         | (refine wpList_build043 rfl _ _ _ rfl op pos (some ⟨g, 0, none⟩) n cap rfl rfl rfl ?_)
         | rw [HW8.out]
         | (refine wpList_store7 rfl (.tmp 2) (.tmp 96) rfl (X := (.mk op ⟨#[]⟩ noVal (some ⟨g, 0, none⟩) cap (x0 :: r) pos)) HZ8.out rfl (by show _ = Value.agg #[.string op, .string ⟨#[]⟩, .int .i64 0, .int .i64 0, .string ⟨#[]⟩, .slice (some ⟨g, 0, none⟩) (r.length + 1) cap, .int .i64 pos]; rw [show r.length + 1 = n from HLEN.out]; rfl) ?_; intro w11 hz11 hb11 ha11 hs11))
        have HB11 := Lib.hid (hb11 w.heap.size w HB8.out HLE.out)
        have HAL11 := Lib.hid (show Alike (fun b => (S b ∨ w.heap.size ≤ b) ∧ b ≠ w0.heap.size) w8 w11 from ⟨by rw [hs11]; exact Nat.le_refl _, fun b hb _ => ha11 b hb.2⟩)
        clear hb11 ha11 hs11
        obtain ⟨o0, o1, o2, o3, o4, o5, o6⟩ := hz11.cells
        refine bodyPost_ret (v := exV ((.mk op ⟨#[]⟩ noVal (some ⟨g, 0, none⟩) cap (x0 :: r) pos))) ?_ rfl ?_
        ·simp [results, Tryz.results19, go_sem, o0, o1, o2, o3, o4, o5, o6, exV]
        ·exact HFIN.out _ _ HRES.out ((HSS.out.keep HAL11.out).mono (fun b h => h.1)) HB11.out
     ·have HNot := Lib.hid hN
      clear hV hN
      as_aux_lemma =>
       have e_not := str_ne (show op.data.toList ≠ [110, 111, 116] from HNot.out)
       have e_xv := str_ne (show x0.op.data.toList ≠ [118, 97, 108] from HV.out)
       have e_xv' : (x0.op.toList != [118, 97, 108]) = true := by show (!(x0.op.toList == [118, 97, 108])) = true; rw [e_xv]; rfl
       have HRES := Lib.hid (show (.mk op ⟨#[]⟩ noVal (some ⟨g, 0, none⟩) cap (x0 :: r) pos) = foldTop op ⟨#[]⟩ noVal (some ⟨g, 0, none⟩) cap pos (x0 :: r) from by rw [HFR.out, foldRest, if_neg (fun h => HNot.out h.1), if_pos HV.out])
       obtain ⟨t0, t1, t2, t3, t4, t5, t6⟩ := HOWN.out
       clear HFR HOWN
       go_wp2_with (first
        | (refine wpList_build043 rfl _ _ _ rfl op pos (some ⟨g, 0, none⟩) n cap rfl rfl rfl ?_)
        | rw [HW8.out]
        | (refine wpList_store7 rfl (.tmp 2) (.tmp 96) rfl (X := (.mk op ⟨#[]⟩ noVal (some ⟨g, 0, none⟩) cap (x0 :: r) pos)) HZ8.out rfl (by show _ = Value.agg #[.string op, .string ⟨#[]⟩, .int .i64 0, .int .i64 0, .string ⟨#[]⟩, .slice (some ⟨g, 0, none⟩) (r.length + 1) cap, .int .i64 pos]; rw [show r.length + 1 = n from HLEN.out]; rfl) ?_; intro w11 hz11 hb11 ha11 hs11))
       have HB11 := Lib.hid (hb11 w.heap.size w HB8.out HLE.out)
       have HAL11 := Lib.hid (show Alike (fun b => (S b ∨ w.heap.size ≤ b) ∧ b ≠ w0.heap.size) w8 w11 from ⟨by rw [hs11]; exact Nat.le_refl _, fun b hb _ => ha11 b hb.2⟩)
       clear hb11 ha11 hs11
       obtain ⟨o0, o1, o2, o3, o4, o5, o6⟩ := hz11.cells
       refine bodyPost_ret (v := exV ((.mk op ⟨#[]⟩ noVal (some ⟨g, 0, none⟩) cap (x0 :: r) pos))) ?_ rfl ?_
       ·simp [results, Tryz.results19, go_sem, o0, o1, o2, o3, o4, o5, o6, exV]
       ·exact HFIN.out _ _ HRES.out ((HSS.out.keep HAL11.out).mono (fun b h => h.1)) HB11.out
theorem rfold_any {cols : List Col} : ∀ m : Nat, RFoldAt cols m
 | 0 => fun e hm _ _ _ _ _ => by cases e; simp at hm
 | m + 1 => fun e hm hg S w hS he => by
  obtain ⟨op, name, v, A, c, args, pos⟩ := e
  by_cases hne : args = []
  ·subst hne
   exact rfold_leaf op name v A c pos S w he
  ·have ho := good_opok hg hne
   obtain ⟨rfl, rfl⟩ := nodeErr_plain ho.node ho.val ho.col
   exact rfold_step m (rfold_any m) op A c args pos hm hg hne S w hS he
end Go.Proofs.YtpbbkpfaphjdoaaGreatDoor
