/- fold.value, walked: the value of an operation all of whose args are values, if it may stand there. -/
import Derived.Test.YtpbbkpfaphjdoaaGreatDoorFFoldConst
import Derived.Test.YtpbbkpfaphjdoaaGreatDoorFEval
import Derived.BigRegion
import Derived.Laws.Tables
import Derived.Laws.CopyOwn
namespace Go.Proofs.YtpbbkpfaphjdoaaGreatDoor
open Go.ChangeShapes Go.WideShapes Go.ChangeAt Go.RowKit
theorem built48 (t n pos : Int) (s : ByteArray) : Tryz.prog.built 26 [(0, Value.string ⟨#[118, 97, 108]⟩), (2, .agg #[.int .i64 t, .int .i64 n, .string s]), (4, .int .i64 pos)] = some #[.string ⟨#[118, 97, 108]⟩, .string ⟨#[]⟩, .int .i64 t, .int .i64 n, .string s, .slice none 0 0, .int .i64 pos] := by kernel_rfl
theorem wpList_build48 {ops : Array Oper} {rest : List Oper} {o : Oper} {a : Act} {w : World} {Q : Exit → Act → World → Prop} (hg : o.guard = none) (x y z : Operand) (ho : o.op = .build 26 #[(0, x), (2, y), (4, z)])
  (t n pos : Int) (s : ByteArray) (hx : a.eval x = .string ⟨#[118, 97, 108]⟩) (hy : a.eval y = .agg #[.int .i64 t, .int .i64 n, .string s]) (hz : a.eval z = .int .i64 pos)
  (h : wpList Tryz.prog ops Q rest (a.put o.dst (.agg #[.string ⟨#[118, 97, 108]⟩, .string ⟨#[]⟩, .int .i64 t, .int .i64 n, .string s, .slice none 0 0, .int .i64 pos])) w) : wpList Tryz.prog ops Q (o :: rest) a w := by
 have e : Tryz.prog.built 26 ((#[(0, x), (2, y), (4, z)] : Array (Nat × Operand)).map fun (i, x) => (i, a.eval x)).toList = some #[.string ⟨#[118, 97, 108]⟩, .string ⟨#[]⟩, .int .i64 t, .int .i64 n, .string s, .slice none 0 0, .int .i64 pos] := by
  rw [← built48 t n pos s]
  simp [hx, hy, hz]
 exact wpList_build hg _ _ ho (by rw [e]; rfl) (by rw [e]; exact h)
theorem wpList_store7 {ops : Array Oper} {rest : List Oper} {o : Oper} {a : Act} {w : World} {Q : Exit → Act → World → Prop} (hg : o.guard = none) (x y : Operand) (ho : o.op = .store 26 x y) {b : Nat} {e X : Ex}
  (hown : Own7 w b e) (hx : a.eval x = .pointer (some ⟨b, 0, none⟩)) (hy : a.eval y = .agg #[.string X.op, .string X.name, .int .i64 X.val.type, .int .i64 X.val.n, .string X.val.s, .slice X.A X.args.length X.c, .int .i64 X.pos])
  (h : ∀ w', Own7 w' b X → (∀ B w0, Below B w0 w → B ≤ b → Below B w0 w') → (∀ k, k ≠ b → w'.heap[k]? = w.heap[k]?) → w'.heap.size = w.heap.size → wpList Tryz.prog ops Q rest (a.put o.dst undef) w') : wpList Tryz.prog ops Q (o :: rest) a w :=
 wpList_store_row hg _ x y ho b _ hx hy 26 _ hown (by kernel_rfl) rfl (by rw [← Array.all_toList]; rfl)
  (h _ (setRow_heap w b _ _ _ _ hown) (fun B w0 hb hB => below_setRow hb hB _) (fun k hk => setRow_other w b k _ hk) (size_setRow w b _))
def FValueSays (op : ByteArray) (args : List Ex) (w : World) (r : Ending) (w' : World) : Prop := ∃ u : Val, r = .returned (.tuple #[valV u, .bool (foldable op args)]) ∧ (foldable op args = true → u = applyVal op (valsOf args)) ∧ Below w.heap.size w w'
theorem not_foldable {op : ByteArray} {args : List Ex} {k : Nat} {x : Ex} (hx : args[k]? = some x) (hv : ¬ isVal x.op) : foldable op args = false := by
 unfold foldable
 have : allVal args = false := by
  unfold allVal
  rw [List.all_eq_false]
  exact ⟨x, List.mem_of_getElem? hx, by simpa using hv⟩
 rw [this]; rfl
theorem valsOf_step {args : List Ex} {k : Nat} {x : Ex} (hx : args[k]? = some x) : valsCells (valsOf (args.take (k + 1))) = valsCells (valsOf (args.take k)) ++ [.int .i64 x.val.type, .int .i64 x.val.n, .string x.val.s] := by
 unfold valsOf
 rw [List.take_add_one, hx, List.map_append]
 unfold valsCells valCells
 rw [List.flatMap_append]; rfl
theorem allVal_step {args : List Ex} {k : Nat} {x : Ex} (hx : args[k]? = some x) (h : allVal (args.take k) = true) (hv : isVal x.op) : allVal (args.take (k + 1)) = true := by
 unfold allVal at h ⊢
 rw [List.take_add_one, hx, List.all_append, h]
 simp [hv]
set_option maxHeartbeats 4000000 in
set_option maxRecDepth 100000 in
theorem fvalue_any {cols : List Col} (op name : ByteArray) (v : Val) (A : Option Addr) (c : Nat) (args : List Ex) (pos : Int) (hO : OpOk cols op name v args) (w : World) (he : SeesEx w (.mk op name v A c args pos)) :
  Calls Tryz.prog 142 #[exV (.mk op name v A c args pos)] w (FValueSays op args w) := by
 obtain ⟨w0, hw0, ho, hb, hsz⟩ := box_ex w (.mk op name v A c args pos)
 obtain ⟨w1, hw1⟩ : ∃ w1, w0.alloc (.cells #[.int .i64 0, .int .i64 0, .string ⟨#[]⟩] 23) = w1 := ⟨_, rfl⟩
 have hb1 := belowNew' w0 (.cells #[.int .i64 0, .int .i64 0, .string ⟨#[]⟩] 23)
 have hz := own3_new w0 noVal
 rw [show w0.alloc (.cells #[.int .i64 noVal.type, .int .i64 noVal.n, .string noVal.s] 23) = w1 from hw1] at hz
 rw [hw1] at hb1
 have HO := Lib.hid (ho.keep hb1)
 have HZ := Lib.hid hz
 have HB := Lib.hid (below_step hb hb1)
 have HLE := Lib.hid hb.size
 have HE := Lib.hid (he.keep HB.out)
 have HW0 := Lib.hid hw0
 have HW1 := Lib.hid hw1
 have hcap : args.length ≤ c := he.parts.1.2.1
 have hmax : c ≤ maxLen := he.parts.1.2.2.1
 have h3 : args.length ≤ 3 := by have := hO.len; have := arity_le op; omega
 have HOK := Lib.hid hO
 have HOP := Lib.hid (show op.size ≤ maxLen from he.parts.2.1)
 unfold maxLen at hmax
 show Calls Tryz.prog 142 #[.agg #[.string op, .string name, .int .i64 v.type, .int .i64 v.n, .string v.s, .slice A args.length c, .int .i64 pos]] w _
 obtain ⟨n, hn⟩ : ∃ n, args.length = n := ⟨_, rfl⟩
 have HLn := Lib.hid hn
 obtain ⟨b0, b1, b2, b3, b4, b5, b6⟩ := HO.out.cells
 replace b0 : w1.cell? ⟨w.heap.size, 0, none⟩ = some (.string op) := b0
 replace b5 : w1.cell? ⟨w.heap.size, 5, none⟩ = some (.slice A args.length c) := b5
 rw [hn] at b5 hcap h3 ⊢
 have HWW : Hid (w.alloc (.cells #[.string op, .string name, .int .i64 v.type, .int .i64 v.n, .string v.s, .slice A n c, .int .i64 pos] 26) = w0) := Lib.hid (by rw [← hn]; exact HW0.out)
 have hl1 : w.heap.size < w1.heap.size := HO.out.lt
 have HB5 := Lib.hid b5
 have HB0 := Lib.hid b0
 clear hO he ho hb hw0 hw1 hb1 hz hn HW0 hsz b1 b2 b3 b4 b6
 go_enter Tryz.func142, Tryz.ntmps142
 go_wp2_with (first | rw [HWW.out] | rw [HW1.out])
 go_loopw [4, 14] (fun out i wr => ∃ k : Nat, k ≤ n ∧ i = .int .i64 k ∧ wr.ownsRow w1.heap.size 23 3 out k (valsCells (valsOf (args.take k))) ∧ allVal (args.take k) = true ∧ Below w1.heap.size w1 wr) (fun _ i _ => n - (intOf i).toNat)
 case atStart => exact ⟨0, by omega, rfl, World.ownsRow_nil _ _ _ _, rfl, Below.refl _ _⟩
 case round =>
  obtain ⟨k, hk, rfl, hown, hall, hb⟩ := hrel
  have HBR := Lib.hid hb
  have HAL := Lib.hid hall
  have HOW := Lib.hid hown
  clear hall hown
  by_cases hlk : k < n
  ·obtain ⟨g, o, x, (rfl : A = _), hg, hx, hsx, c0, c1, c2, c3, c4, c5, c6⟩ := (HE.out.keep hb).at_ (k := k) (by show k < args.length; rw [HLn.out]; exact hlk)
   have HX := Lib.hid (show args[k]? = some x from hx)
   obtain ⟨w3, hw3, ho3, hb3, hs3⟩ := box_ex wr x
   have T := Lib.hid (const_any x w3)
   unfold ConstSays exV at T
   obtain ⟨x0, x1, x2, x3, x4, x5, x6⟩ := ho3.cells
   have HW3 := Lib.hid hw3
   have HB3 := Lib.hid (hb.trans (hb3.mono hb.size))
   have HO3 := Lib.hid (own_keep HOW.out hb3)
   clear hb hx hsx hb3 ho3 hw3
   by_cases hv : isVal x.op
   ·have HV := Lib.hid hv
    have HXB := Lib.hid (valsOf_step HX.out)
    have HAX := Lib.hid (allVal_step HX.out HAL.out hv)
    rw [if_pos hv, decide_eq_true hv] at T
    unfold valV at T
    clear hv
    go_wp2_with (first | rw [HW3.out])
    refine (T.out).mono ?_
    rintro e' w4 ⟨rfl, hb4⟩
    obtain ⟨w5, hw5⟩ : ∃ w5, w4.alloc (.cells #[.int .i64 x.val.type, .int .i64 x.val.n, .string x.val.s] 23) = w5 := ⟨_, rfl⟩
    have hb5 := belowNew' w4 (.cells #[.int .i64 x.val.type, .int .i64 x.val.n, .string x.val.s] 23)
    have ho5 := own3_new w4 x.val
    rw [hw5] at hb5 ho5
    obtain ⟨q0, q1, q2, -, -, -, -⟩ := ho5.cells
    have h45 := below_step hb4 hb5
    have hown5 := own_keep HO3.out h45
    have hc5 := HB3.out.trans (h45.mono HB3.out.size)
    have HW5 := Lib.hid hw5
    clear hb4 hb5 h45 hw5 ho5 x0 x1 x2 x3 x4 x5 x6
    go_wp2_with (first
     | rw [HW5.out]
     | (at_builtin; refine wpList_append_one valSlice rfl _ _ rfl rfl rfl hown5 hc5 (Nat.le_refl _) rfl (by intro u hu; simp at hu; rcases hu with rfl | rfl | rfl <;> rfl) (by omega) ?_; intro v1 w6 hown6 hb6 _))
    go_roundw
    case rel => exact ⟨k + 1, by omega, by go_num, by rw [HXB.out]; exact hown6, HAX.out, hb6⟩
    case measure => simp [intOf]; omega
   ·have HF := Lib.hid (not_foldable (op := op) HX.out hv)
    rw [if_neg hv, decide_eq_false hv] at T
    unfold valV at T
    generalize noVal = nv at T
    clear hv
    go_wp2_with (first | rw [HW3.out])
    refine (T.out).mono ?_
    rintro e' w4 ⟨rfl, hb4⟩
    have hc4 := HB3.out.trans (hb4.mono HB3.out.size)
    have hb5 := belowNew' w4 (.cells #[.int .i64 nv.type, .int .i64 nv.n, .string nv.s] 23)
    have HB5 := Lib.hid (hc4.trans (hb5.mono hc4.size))
    obtain ⟨w5, hw5⟩ : ∃ w5, w4.alloc (.cells #[.int .i64 nv.type, .int .i64 nv.n, .string nv.s] 23) = w5 := ⟨_, rfl⟩
    rw [hw5] at HB5
    have HW5 := Lib.hid hw5
    have HZ5 := Lib.hid (HZ.out.keep HB5.out)
    obtain ⟨z0, z1, z2, f0, f1, f2, zl⟩ := HZ5.out.cells
    clear hb4 hc4 hb5 hw5 x0 x1 x2 x3 x4 x5 x6 T
    go_wp2_with (first | rw [HW5.out])
    have HO6 := own3_set HZ5.out 0 0 ⟨#[]⟩
    have HB6 := Lib.hid (below_set3 (HB.out.trans (HB5.out.mono HB.out.size)) HLE.out 0 0 ⟨#[]⟩)
    generalize ((w5.setCell ⟨w0.heap.size, 0, none⟩ (.int .i64 0)).setCell ⟨w0.heap.size, 1, none⟩ (.int .i64 0)).setCell ⟨w0.heap.size, 2, none⟩ (.string ⟨#[]⟩) = w6 at HO6 HB6 ⊢
    clear z0 z1 z2 f0 f1 f2 zl
    obtain ⟨o0, o1, o2, -, -, -, -⟩ := HO6.cells
    refine bodyPost_ret (v := .tuple #[valV ⟨0, 0, ⟨#[]⟩⟩, .bool false]) ?_ rfl ?_
    ·simp [results, Tryz.results142, go_sem, o0, o1, o2, valV]
    ·exact ⟨⟨0, 0, ⟨#[]⟩⟩, by rw [HF.out], (fun h => by rw [HF.out] at h; cases h), HB6.out⟩
  ·obtain rfl : n = k := by omega
   have HTK := Lib.hid (show args.take n = args from List.take_of_length_le (by rw [HLn.out]; exact Nat.le_refl _))
   rw [HTK.out] at HOW HAL
   obtain ⟨A', c', hv, hse⟩ := Sees.of_own HOW.out
   subst hv
   obtain ⟨r1, r2⟩ := vals_right HOK.out.each HAL.out
   obtain ⟨p1, p2, p3⟩ := ruleErr_parts HOK.out.rule
   have hvl : (valsOf args).length = n := by unfold valsOf; rw [List.length_map]; exact HLn.out
   have TA := Lib.hid (apply_any op (valsOf args) A' n c' wr ⟨hvl, hse⟩ p1 (by rw [hvl, ← HLn.out]; exact HOK.out.len) (fun u hu => (r1 u hu).1) (fun u hu => (r1 u hu).2) (by rw [r2]; exact p3))
   have HFK := Lib.hid (show foldable op args = (decide (applyErr op (valsOf args) = 0) && mayStand (applyVal op (valsOf args))) by unfold foldable; rw [HAL.out]; rfl)
   have HS := Lib.hid (show ∀ u w', u = applyVal op (valsOf args) → Below w.heap.size w w' → FValueSays op args w (.returned (.tuple #[valV u, .bool (decide (applyErr op (valsOf args) = 0) && mayStand (applyVal op (valsOf args)))])) w' from fun u w' hu hb => ⟨u, by rw [HFK.out], fun _ => hu, hb⟩)
   unfold ApplySays valV at TA
   generalize applyVal op (valsOf args) = u at TA HS
   generalize applyErr op (valsOf args) = ke at TA HS
   have b5 := (HBR.out.cell (p := ⟨w.heap.size, 0, none⟩) hl1).trans HB0.out
   clear r1 r2 p1 p2 p3 hvl hse hb HOW HAL HFK b0
   go_wp2_with fail
   refine (TA.out).mono ?_
   rintro e' w4 ⟨rfl, hb4⟩
   have hc4 := HBR.out.trans (hb4.mono HBR.out.size)
   have HB4 := Lib.hid hc4
   have hb5 := belowNew' w4 (.cells #[.int .i64 u.type, .int .i64 u.n, .string u.s] 23)
   have ho5 := own3_new w4 u
   obtain ⟨w5, hw5⟩ : ∃ w5, w4.alloc (.cells #[.int .i64 u.type, .int .i64 u.n, .string u.s] 23) = w5 := ⟨_, rfl⟩
   rw [hw5] at hb5 ho5
   have HB5 := Lib.hid (hc4.trans (hb5.mono hc4.size))
   have HW5 := Lib.hid hw5
   have HZ5 := Lib.hid (HZ.out.keep HB5.out)
   have HU5 := Lib.hid ho5
   obtain ⟨q0, q1, q2, -, -, -, -⟩ := ho5.cells
   clear hb4 hc4 hb5 hw5 ho5 TA b5
   have hk : ke ≠ 0 ∨ (ke = 0 ∧ (u.type == 1) = false) ∨ (ke = 0 ∧ (u.type == 1) = true ∧ decide (0 ≤ u.n) = true) ∨ (ke = 0 ∧ (u.type == 1) = true ∧ decide (0 ≤ u.n) = false) := by
    by_cases h1 : ke = 0
    ·by_cases h2 : u.type = 1
     ·by_cases h3 : 0 ≤ u.n
      ·exact Or.inr (Or.inr (Or.inl ⟨h1, by simp [h2], by simp [h3]⟩))
      ·exact Or.inr (Or.inr (Or.inr ⟨h1, by simp [h2], by simp; omega⟩))
     ·exact Or.inr (Or.inl ⟨h1, by simp [h2]⟩)
    ·exact Or.inl h1
   have HM := Lib.hid (show mayStand u = decide (u.type ≠ 1 ∨ 0 ≤ u.n) from rfl)
   rcases hk with h1 | ⟨rfl, h2⟩ | ⟨rfl, h2, h3⟩ | ⟨rfl, h2, h3⟩
   ·have HFIN := Lib.hid (fun w' (hb : Below w.heap.size w w') => show FValueSays op args w (.returned (.tuple #[valV u, .bool false])) w' from by
     have := HS.out u w' rfl hb
     rwa [show (decide (ke = 0) && mayStand u) = false by simp [h1]] at this)
    rw [errV_ne h1]
    clear h1 HS HM hcap hmax
    go_wp2_with (first | rw [HW5.out])
    obtain ⟨z0, z1, z2, f0, f1, f2, zl⟩ := HZ5.out.cells
    go_region
    have HO6 := (own3_set HZ5.out u.type u.n u.s).drew
    have HB6 := Lib.hid (below_set3 (HB.out.trans (HB5.out.mono HB.out.size)) HLE.out u.type u.n u.s).drew
    generalize (((w5.setCell ⟨w0.heap.size, 0, none⟩ (.int .i64 u.type)).setCell ⟨w0.heap.size, 1, none⟩ (.int .i64 u.n)).setCell ⟨w0.heap.size, 2, none⟩ (.string u.s)).drew = w6 at HO6 HB6 ⊢
    go_wp2_with fail
    clear z0 z1 z2 f0 f1 f2 zl
    obtain ⟨o0, o1, o2, -, -, -, -⟩ := HO6.cells
    refine bodyPost_ret (v := .tuple #[valV u, .bool false]) ?_ rfl ?_
    ·simp [results, Tryz.results142, go_sem, o0, o1, o2, valV]
    ·exact HFIN.out _ HB6.out
   ·have HFIN := Lib.hid (fun w' (hb : Below w.heap.size w w') => show FValueSays op args w (.returned (.tuple #[valV u, .bool true])) w' from by
     have := HS.out u w' rfl hb
     rwa [show (decide ((0 : Int) = 0) && mayStand u) = true by rw [HM.out]; simp at h2; simp [h2]] at this)
    rw [errV_zero]
    have h2' := congrArg Bool.not h2
    rw [show (!(u.type == 1)) = (u.type != 1) from rfl] at h2'
    simp only [Bool.not_false] at h2'
    clear HS HM hcap hmax
    go_wp2_with (first | rw [HW5.out])
    obtain ⟨z0, z1, z2, f0, f1, f2, zl⟩ := HZ5.out.cells
    go_region
    have HO6 := (own3_set HZ5.out u.type u.n u.s).drew
    have HB6 := Lib.hid (below_set3 (HB.out.trans (HB5.out.mono HB.out.size)) HLE.out u.type u.n u.s).drew
    generalize (((w5.setCell ⟨w0.heap.size, 0, none⟩ (.int .i64 u.type)).setCell ⟨w0.heap.size, 1, none⟩ (.int .i64 u.n)).setCell ⟨w0.heap.size, 2, none⟩ (.string u.s)).drew = w6 at HO6 HB6 ⊢
    go_wp2_with fail
    clear z0 z1 z2 f0 f1 f2 zl
    obtain ⟨o0, o1, o2, -, -, -, -⟩ := HO6.cells
    refine bodyPost_ret (v := .tuple #[valV u, .bool true]) ?_ rfl ?_
    ·simp [results, Tryz.results142, go_sem, o0, o1, o2, valV]
    ·exact HFIN.out _ HB6.out
   ·have HFIN := Lib.hid (fun w' (hb : Below w.heap.size w w') => show FValueSays op args w (.returned (.tuple #[valV u, .bool true])) w' from by
     have := HS.out u w' rfl hb
     rwa [show (decide ((0 : Int) = 0) && mayStand u) = true by rw [HM.out]; simp at h2 h3; simp [h2, h3]] at this)
    rw [errV_zero]
    have h2' := congrArg Bool.not h2
    rw [show (!(u.type == 1)) = (u.type != 1) from rfl] at h2'
    simp only [Bool.not_true] at h2'
    clear HS HM hcap hmax
    go_wp2_with (first | rw [HW5.out])
    obtain ⟨z0, z1, z2, f0, f1, f2, zl⟩ := HZ5.out.cells
    have hne : w4.heap.size ≠ w0.heap.size := Nat.ne_of_gt (Nat.lt_of_lt_of_le HZ.out.cells.2.2.2.2.2.2 HB4.out.size)
    have g1 : ((w5.setCell ⟨w0.heap.size, 0, none⟩ (.int .i64 u.type)).setCell ⟨w0.heap.size, 1, none⟩ (.int .i64 u.n)).cell? ⟨w4.heap.size, 1, none⟩ = some (.int .i64 u.n) := by
     rw [World.cell?_of_block (w := w5) (a := ⟨w4.heap.size, 1, none⟩) (by rw [heap_setCell_other _ _ _ _ hne, heap_setCell_other _ _ _ _ hne]), q1]
    go_region
    have HO6 := (own3_set HZ5.out u.type u.n u.s).drew
    have HB6 := Lib.hid (below_set3 (HB.out.trans (HB5.out.mono HB.out.size)) HLE.out u.type u.n u.s).drew
    generalize (((w5.setCell ⟨w0.heap.size, 0, none⟩ (.int .i64 u.type)).setCell ⟨w0.heap.size, 1, none⟩ (.int .i64 u.n)).setCell ⟨w0.heap.size, 2, none⟩ (.string u.s)).drew = w6 at HO6 HB6 ⊢
    go_wp2_with fail
    clear z0 z1 z2 f0 f1 f2 zl
    obtain ⟨o0, o1, o2, -, -, -, -⟩ := HO6.cells
    refine bodyPost_ret (v := .tuple #[valV u, .bool true]) ?_ rfl ?_
    ·simp [results, Tryz.results142, go_sem, o0, o1, o2, valV]
    ·exact HFIN.out _ HB6.out
   ·have HFIN := Lib.hid (fun w' (hb : Below w.heap.size w w') => show FValueSays op args w (.returned (.tuple #[valV u, .bool false])) w' from by
     have := HS.out u w' rfl hb
     rwa [show (decide ((0 : Int) = 0) && mayStand u) = false by rw [HM.out]; simp at h2 h3; simp [h2]; omega] at this)
    rw [errV_zero]
    have h2' := congrArg Bool.not h2
    rw [show (!(u.type == 1)) = (u.type != 1) from rfl] at h2'
    simp only [Bool.not_true] at h2'
    clear HS HM hcap hmax
    go_wp2_with (first | rw [HW5.out])
    obtain ⟨z0, z1, z2, f0, f1, f2, zl⟩ := HZ5.out.cells
    have hne : w4.heap.size ≠ w0.heap.size := Nat.ne_of_gt (Nat.lt_of_lt_of_le HZ.out.cells.2.2.2.2.2.2 HB4.out.size)
    have g1 : ((w5.setCell ⟨w0.heap.size, 0, none⟩ (.int .i64 u.type)).setCell ⟨w0.heap.size, 1, none⟩ (.int .i64 u.n)).cell? ⟨w4.heap.size, 1, none⟩ = some (.int .i64 u.n) := by
     rw [World.cell?_of_block (w := w5) (a := ⟨w4.heap.size, 1, none⟩) (by rw [heap_setCell_other _ _ _ _ hne, heap_setCell_other _ _ _ _ hne]), q1]
    go_region
    have HO6 := (own3_set HZ5.out u.type u.n u.s).drew
    have HB6 := Lib.hid (below_set3 (HB.out.trans (HB5.out.mono HB.out.size)) HLE.out u.type u.n u.s).drew
    generalize (((w5.setCell ⟨w0.heap.size, 0, none⟩ (.int .i64 u.type)).setCell ⟨w0.heap.size, 1, none⟩ (.int .i64 u.n)).setCell ⟨w0.heap.size, 2, none⟩ (.string u.s)).drew = w6 at HO6 HB6 ⊢
    go_wp2_with fail
    clear z0 z1 z2 f0 f1 f2 zl
    obtain ⟨o0, o1, o2, -, -, -, -⟩ := HO6.cells
    refine bodyPost_ret (v := .tuple #[valV u, .bool false]) ?_ rfl ?_
    ·simp [results, Tryz.results142, go_sem, o0, o1, o2, valV]
    ·exact HFIN.out _ HB6.out
end Go.Proofs.YtpbbkpfaphjdoaaGreatDoor
