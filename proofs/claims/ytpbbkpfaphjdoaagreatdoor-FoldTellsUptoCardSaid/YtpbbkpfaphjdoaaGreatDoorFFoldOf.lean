/- fold.of, walked: an expression that is right made short. -/
import Derived.Test.YtpbbkpfaphjdoaaGreatDoorFFoldValue
import Derived.Test.YtpbbkpfaphjdoaaGreatDoorFFoldLaw
namespace Go.Proofs.YtpbbkpfaphjdoaaGreatDoor
open Go.ChangeShapes Go.WideShapes Go.ChangeAt Go.RowKit
def zeroEx : Ex := .mk ⟨#[]⟩ ⟨#[]⟩ noVal none 0 [] 0
def FoldSays (S : Nat → Prop) (e : Ex) (w : World) (r : Ending) (w' : World) : Prop := ∃ x, r = .returned (exV x) ∧ SeesS (fun b => S b ∨ w.heap.size ≤ b) w' x ∧ strip x = strip (foldE e) ∧ Below w.heap.size w w'
def FoldAt (cols : List Col) (m : Nat) : Prop := ∀ e : Ex, SizeOf.sizeOf e ≤ m → Good cols e → ∀ (S : Nat → Prop) (w : World), (∀ b, S b → b < w.heap.size) → SeesS S w e → Calls Tryz.prog 75 #[exV e] w (FoldSays S e w)
theorem strips_mem {l m : List Ex} (h : strips l = strips m) {x : Ex} (hx : x ∈ m) : ∃ y ∈ l, strip y = strip x := by
 rw [strips_map, strips_map] at h
 have : strip x ∈ m.map strip := List.mem_map.2 ⟨x, hx, rfl⟩
 rw [← h] at this
 obtain ⟨y, h1, h2⟩ := List.mem_map.1 this
 exact ⟨y, h1, h2⟩
theorem opok_of_strips {cols : List Col} {op name : ByteArray} {v : Val} {l m : List Ex} (h : OpOk cols op name v l) (hs : strips l = strips m) (hw : ∀ x ∈ m, WfE x) : OpOk cols op name v m := by
 have hl : m.length = l.length := by have := congrArg List.length hs; rw [strips_len, strips_len] at this; exact this.symm
 have ht : ofTypes cols m = ofTypes cols l := by rw [← strip_types, ← hs, strip_types]
 refine ⟨by rw [hl]; exact h.node, h.wf, fun x hx => ?_, by rw [ht]; exact h.rule, h.val, h.col⟩
 obtain ⟨y, h1, h2⟩ := strips_mem hs hx
 have g := h.each y h1
 exact ⟨by rw [← strip_nodes, ← h2, strip_nodes]; exact g.nodes, by rw [← strip_of, ← h2, strip_of]; exact g.ty, hw x hx⟩
theorem row_at0 {w : World} {g cap : Nat} {l : List Ex} {x : Ex} (h : RowE w g cap l) (hx : l[0]? = some x) :
  w.cell? ⟨g, 0, none⟩ = some (.string x.op) ∧ w.cell? ⟨g, 1, none⟩ = some (.string x.name) ∧ w.cell? ⟨g, 2, none⟩ = some (.int .i64 x.val.type) ∧ w.cell? ⟨g, 3, none⟩ = some (.int .i64 x.val.n) ∧ w.cell? ⟨g, 4, none⟩ = some (.string x.val.s) ∧
   w.cell? ⟨g, 5, none⟩ = some (.slice x.A x.args.length x.c) ∧ w.cell? ⟨g, 6, none⟩ = some (.int .i64 x.pos) := by
 have := h.at_ hx
 simp only [Nat.zero_mul, Nat.zero_add] at this
 exact this
theorem row_at1 {w : World} {g cap : Nat} {l : List Ex} {x : Ex} (h : RowE w g cap l) (hx : l[1]? = some x) :
  w.cell? ⟨g, 7, none⟩ = some (.string x.op) ∧ w.cell? ⟨g, 8, none⟩ = some (.string x.name) ∧ w.cell? ⟨g, 9, none⟩ = some (.int .i64 x.val.type) ∧ w.cell? ⟨g, 10, none⟩ = some (.int .i64 x.val.n) ∧ w.cell? ⟨g, 11, none⟩ = some (.string x.val.s) ∧
   w.cell? ⟨g, 12, none⟩ = some (.slice x.A x.args.length x.c) ∧ w.cell? ⟨g, 13, none⟩ = some (.int .i64 x.pos) := h.at_ hx
theorem row_at2 {w : World} {g cap : Nat} {l : List Ex} {x : Ex} (h : RowE w g cap l) (hx : l[2]? = some x) :
  w.cell? ⟨g, 14, none⟩ = some (.string x.op) ∧ w.cell? ⟨g, 15, none⟩ = some (.string x.name) ∧ w.cell? ⟨g, 16, none⟩ = some (.int .i64 x.val.type) ∧ w.cell? ⟨g, 17, none⟩ = some (.int .i64 x.val.n) ∧ w.cell? ⟨g, 18, none⟩ = some (.string x.val.s) ∧
   w.cell? ⟨g, 19, none⟩ = some (.slice x.A x.args.length x.c) ∧ w.cell? ⟨g, 20, none⟩ = some (.int .i64 x.pos) := h.at_ hx
theorem set_next {l xs : List Ex} {k : Nat} {y : Ex} (hk : xs.length = k) (hlt : k < l.length) : (xs ++ l.drop k).set k y = (xs ++ [y]) ++ l.drop (k + 1) := by
 rw [List.set_append_right _ _ (by omega), hk, Nat.sub_self, List.drop_eq_getElem_cons hlt, List.set_cons_zero]; simp
theorem get_next {l xs : List Ex} {k : Nat} {x : Ex} (hk : xs.length = k) (hx : l[k]? = some x) : (xs ++ l.drop k)[k]? = some x := by
 rw [List.getElem?_append_right (by omega), hk, Nat.sub_self, List.getElem?_drop, Nat.add_zero, hx]
theorem fold_leaf (op name : ByteArray) (v : Val) (A : Option Addr) (c : Nat) (pos : Int) (S : Nat → Prop) (w : World) (he : SeesS S w (.mk op name v A c [] pos)) :
  Calls Tryz.prog 75 #[exV (.mk op name v A c [] pos)] w (FoldSays S (.mk op name v A c [] pos) w) := by
 obtain ⟨w0, hw0, ho, hb, hsz⟩ := box_ex w (.mk op name v A c [] pos)
 obtain ⟨c0, c1, c2, c3, c4, c5, c6⟩ := ho.cells
 have hlt := ho.lt
 have hn := own7_new w0 (.mk op name v A c [] pos)
 have hb1 := belowNew' w0 (.cells #[.string op, .string name, .int .i64 v.type, .int .i64 v.n, .string v.s, .slice A 0 c, .int .i64 pos] 26)
 replace hn : Own7 (w0.alloc (.cells #[.string op, .string name, .int .i64 v.type, .int .i64 v.n, .string v.s, .slice A 0 c, .int .i64 pos] 26)) w0.heap.size (.mk op name v A c [] pos) := hn
 have HN := Lib.hid hn
 have HB1 := Lib.hid (below_step hb hb1)
 have HE := Lib.hid he
 have HW0 : Hid (w.alloc (.cells #[.string op, .string name, .int .i64 v.type, .int .i64 v.n, .string v.s, .slice A 0 c, .int .i64 pos] 26) = w0) := Lib.hid hw0
 replace c0 : w0.cell? ⟨w.heap.size, 0, none⟩ = some (.string op) := c0
 replace c1 : w0.cell? ⟨w.heap.size, 1, none⟩ = some (.string name) := c1
 replace c2 : w0.cell? ⟨w.heap.size, 2, none⟩ = some (.int .i64 v.type) := c2
 replace c3 : w0.cell? ⟨w.heap.size, 3, none⟩ = some (.int .i64 v.n) := c3
 replace c4 : w0.cell? ⟨w.heap.size, 4, none⟩ = some (.string v.s) := c4
 replace c5 : w0.cell? ⟨w.heap.size, 5, none⟩ = some (.slice A 0 c) := c5
 replace c6 : w0.cell? ⟨w.heap.size, 6, none⟩ = some (.int .i64 pos) := c6
 show Calls Tryz.prog 75 #[.agg #[.string op, .string name, .int .i64 v.type, .int .i64 v.n, .string v.s, .slice A 0 c, .int .i64 pos]] w _
 clear hw0 ho hb hn hb1 he hsz
 go_enter Tryz.func75, Tryz.ntmps75
 go_wp2_with (first | rw [HW0.out])
 obtain ⟨o0, o1, o2, o3, o4, o5, o6⟩ := HN.out.cells
 generalize w0.alloc (.cells #[.string op, .string name, .int .i64 v.type, .int .i64 v.n, .string v.s, .slice A 0 c, .int .i64 pos] 26) = w4 at HN HB1 o0 o1 o2 o3 o4 o5 o6 ⊢
 refine bodyPost_ret (v := exV (.mk op name v A c [] pos)) ?_ rfl ?_
 ·simp [results, Tryz.results75, go_sem, o0, o1, o2, o3, o4, o5, o6, exV]
 ·exact ⟨_, rfl, (HE.out.mono (fun b h => Or.inl h)).keep (.of_below HB1.out), by rw [foldE_leaf rfl], HB1.out⟩
set_option maxHeartbeats 16000000 in
set_option maxRecDepth 100000 in
theorem fold_step {cols : List Col} (m : Nat) (ih : FoldAt cols m) (op name : ByteArray) (v : Val) (A : Option Addr) (c : Nat) (args : List Ex) (pos : Int) (hm : SizeOf.sizeOf (Ex.mk op name v A c args pos) ≤ m + 1)
  (hg : Good cols (.mk op name v A c args pos)) (hne : args ≠ []) (S : Nat → Prop) (w : World) (hS : ∀ b, S b → b < w.heap.size) (he : SeesS S w (.mk op name v A c args pos)) :
  Calls Tryz.prog 75 #[exV (.mk op name v A c args pos)] w (FoldSays S (.mk op name v A c args pos) w) := by
 have IH := Lib.hid ih
 have HO := Lib.hid (fold_opok hg hne)
 have HGA := Lib.hid (good_opok hg hne).each
 have HM := Lib.hid (fun a (ha : a ∈ args) => show SizeOf.sizeOf a ≤ m by have := ex_lt (e := .mk op name v A c args pos) ha; omega)
 have HSL := Lib.hid hS
 have HE := Lib.hid he
 have HNE := Lib.hid hne
 obtain ⟨w0, hw0, ho, hb, -⟩ := box_ex w (.mk op name v A c args pos)
 obtain ⟨w1, hw1⟩ : ∃ w1, w0.alloc (.cells #[.string ⟨#[]⟩, .string ⟨#[]⟩, .int .i64 0, .int .i64 0, .string ⟨#[]⟩, .slice none 0 0, .int .i64 0] 26) = w1 := ⟨_, rfl⟩
 have hb1 := belowNew' w0 (.cells #[.string ⟨#[]⟩, .string ⟨#[]⟩, .int .i64 0, .int .i64 0, .string ⟨#[]⟩, .slice none 0 0, .int .i64 0] 26)
 have hz : Own7 (w0.alloc (.cells #[.string ⟨#[]⟩, .string ⟨#[]⟩, .int .i64 0, .int .i64 0, .string ⟨#[]⟩, .slice none 0 0, .int .i64 0] 26)) w0.heap.size zeroEx := own7_new w0 zeroEx
 rw [hw1] at hb1 hz
 have HX1 := Lib.hid (ho.keep hb1)
 have HZ1 := Lib.hid hz
 have HB1 := Lib.hid (below_step hb hb1)
 have HLE := Lib.hid hb.size
 have HSZ := Lib.hid (show w.heap.size < w0.heap.size from ho.lt)
 have HW1 := Lib.hid hw1
 have hcap : args.length ≤ c := he.parts.1.2.1
 have hmax : c ≤ maxLen := he.parts.1.2.2.1
 unfold maxLen at hmax
 have h3 : args.length ≤ 3 := by have := (good_opok hg hne).len; have := arity_le op; omega
 have h1 : 1 ≤ args.length := List.length_pos_iff.2 hne
 have TC := Lib.hid (cloneEx_any A args.length c args w1 ((he.keep (.of_below HB1.out)).parts.1) (by omega))
 unfold CloneExSays at TC
 obtain ⟨n, hn⟩ : ∃ n, args.length = n := ⟨_, rfl⟩
 have HLn := Lib.hid hn
 obtain ⟨-, -, -, -, -, b5, -⟩ := HX1.out.cells
 replace b5 : w1.cell? ⟨w.heap.size, 5, none⟩ = some (.slice A args.length c) := b5
 have HW0 : Hid (w.alloc (.cells #[.string op, .string name, .int .i64 v.type, .int .i64 v.n, .string v.s, .slice A args.length c, .int .i64 pos] 26) = w0) := Lib.hid hw0
 show Calls Tryz.prog 75 #[.agg #[.string op, .string name, .int .i64 v.type, .int .i64 v.n, .string v.s, .slice A args.length c, .int .i64 pos]] w _
 rw [hn] at b5 hcap h3 h1 TC HW0 ⊢
 have e0 : ((n : Int) == 0) = false := by simp; omega
 clear ih hm hg hne hS he hw0 hw1 hb hb1 ho hz hn
 go_enter Tryz.func75, Tryz.ntmps75
 go_wp2_with (first | rw [HW0.out] | rw [HW1.out])
 refine (TC.out).mono ?_
 rintro e' w2 ⟨vv, rfl, hown, hb2⟩
 obtain ⟨g, cap, rfl, hgB, hrow⟩ := RowE.of_own hown HLn.out (by omega)
 have HR2 := Lib.hid hrow
 have HB2 := Lib.hid hb2
 have HGB := Lib.hid hgB
 have hcp : n ≤ cap ∧ cap ≤ 2 ^ 63 - 1 := by
  obtain ⟨cur, _, h4, h5, _⟩ := hrow
  unfold maxLen at h5
  exact ⟨by rw [← HLn.out]; exact h4, h5⟩
 obtain ⟨hcp1, hcp2⟩ := hcp
 clear hown hrow hb2 TC e0 b5 hgB
 go_wp2_with fail
 go_loopw [20] (fun i wr => ∃ (k : Nat) (xs : List Ex), k ≤ n ∧ i = .int .i64 k ∧ xs.length = k ∧ RowE wr g cap (xs ++ args.drop k) ∧ (∀ x ∈ xs, SeesS (fun b => S b ∨ g < b) wr x) ∧ strips (foldEs (args.take k)) = strips xs ∧ Below w1.heap.size w1 wr) (fun i _ => n - (intOf i).toNat)
 case atStart => exact ⟨0, [], by omega, rfl, rfl, HR2.out, (fun x hx => by cases hx), by rw [List.take_zero, foldEs], HB2.out⟩
 case round =>
  obtain ⟨k, xs, hk, rfl, hxl, hrow, hsee, hst, hb⟩ := hrel
  have HBR := Lib.hid hb
  have HRW := Lib.hid hrow
  have HSE := Lib.hid hsee
  have HST := Lib.hid hst
  have HXL := Lib.hid hxl
  clear hrow hsee hst hxl
  by_cases hlk : k < n
  ·obtain ⟨x, hx⟩ : ∃ x, args[k]? = some x := ⟨_, List.getElem?_eq_getElem (by rw [HLn.out]; exact hlk)⟩
   have HX := Lib.hid hx
   obtain ⟨c0, c1, c2, c3, c4, c5, c6⟩ := HRW.out.at_ (get_next HXL.out hx)
   have hgl := HRW.out.lt
   obtain ⟨w3, hw3, -, hb3, -⟩ := box_ex wr x
   have ho3 := own7_new wr x
   rw [hw3] at ho3
   obtain ⟨x0, x1, x2, x3, x4, x5, x6⟩ := ho3.cells
   have HW3 := Lib.hid hw3
   have HB3 := Lib.hid (hb.trans (hb3.mono hb.size))
   have HBX := Lib.hid (HB1.out.trans (HB3.out.mono HB1.out.size))
   have HMX := Lib.hid (List.mem_of_getElem? hx)
   have hsx : SeesS S w3 x := (HE.out.parts.2.2.2.2.2.2 x HMX.out).keep (.of_below HBX.out)
   have T := Lib.hid (IH.out x (HM.out x HMX.out) (HGA.out x HMX.out) S w3 (fun b h => Nat.lt_of_lt_of_le (HSL.out b h) HBX.out.size) hsx)
   unfold FoldSays exV at T
   have HR3 := Lib.hid (HRW.out.keep hb3)
   have HG3 := Lib.hid (Nat.lt_of_lt_of_le hgl hb3.size)
   have HSE3 := Lib.hid (fun y hy => (HSE.out y hy).keep (w' := w3) (.of_below hb3))
   have HSNX := Lib.hid (show strips (foldEs (args.take (k + 1))) = strips (foldEs (args.take k)) ++ [strip (foldE x)] by rw [List.take_add_one, hx, foldEs_map, foldEs_map, strips_map, strips_map]; simp)
   clear hb hx hb3 hw3 ho3 hsx
   go_wp2_with (first | rw [HW3.out])
   refine (T.out).mono ?_
   rintro e' w4 ⟨y, rfl, hsy, hstr, hb4⟩
   have HR4 := Lib.hid (HR3.out.keep hb4)
   have HB4 := Lib.hid (HB3.out.trans (hb4.mono HB3.out.size))
   have hlen : k < (xs ++ args.drop k).length := by
    rw [List.length_append, List.length_drop, HXL.out, HLn.out]; omega
   have HR5 := Lib.hid (show RowE (putAll w4 g (k * 7) (exCells y)) g cap ((xs ++ [y]) ++ args.drop (k + 1)) by
    rw [← set_next HXL.out (by rw [HLn.out]; exact hlk)]
    exact HR4.out.put hlen y)
   have HNS : Hid (¬ (S g ∨ g < g)) := Lib.hid (fun h => by
    rcases h with h | h
    ·have := HSL.out g h; have := HB1.out.size; have := HGB.out; omega
    ·omega)
   have HB5 := Lib.hid (putAll_below (exCells y) _ _ _ g (k * 7) HB4.out HGB.out)
   have HSE5 := Lib.hid (show ∀ z ∈ xs ++ [y], SeesS (fun b => S b ∨ g < b) (putAll w4 g (k * 7) (exCells y)) z from fun z hz => by
    rcases List.mem_append.1 hz with hz | hz
    ·exact ((HSE3.out z hz).keep (.of_below hb4)).keep (putAll_alike _ _ _ _ HNS.out)
    ·simp at hz
     rw [hz]
     refine (hsy.mono fun b h => ?_).keep (putAll_alike _ _ _ _ HNS.out)
     rcases h with h | h
     ·exact Or.inl h
     ·exact Or.inr (Nat.lt_of_lt_of_le HG3.out h))
   have HST5 := Lib.hid (show strips (foldEs (args.take (k + 1))) = strips (xs ++ [y]) by
    rw [HSNX.out, HST.out, strips_map, strips_map, List.map_append, ← hstr]; rfl)
   obtain ⟨c0, c1, c2, c3, c4, c5, c6⟩ := HR4.out.at_ (get_next HXL.out HX.out)
   have f0 := HR4.out.free (k * 7)
   have f1 := HR4.out.free (k * 7 + 1)
   have f2 := HR4.out.free (k * 7 + 2)
   have f3 := HR4.out.free (k * 7 + 3)
   have f4 := HR4.out.free (k * 7 + 4)
   have f5 := HR4.out.free (k * 7 + 5)
   have f6 := HR4.out.free (k * 7 + 6)
   have hl4 := HR4.out.lt
   clear hsy hstr hb4 hlen x0 x1 x2 x3 x4 x5 x6
   unfold exCells at HR5 HB5 HSE5
   go_wp2_with fail
   go_roundw
   case rel => exact ⟨k + 1, xs ++ [y], by omega, by go_num, by rw [List.length_append, HXL.out]; rfl, HR5.out, HSE5.out, HST5.out, HB5.out⟩
   case measure => simp [intOf]; omega
  ·obtain rfl : n = k := by omega
   have HTK := Lib.hid (show args.take n = args from List.take_of_length_le (by rw [HLn.out]; exact Nat.le_refl _))
   have HDR := Lib.hid (show args.drop n = [] from List.drop_of_length_le (by rw [HLn.out]; exact Nat.le_refl _))
   rw [HDR.out, List.append_nil] at HRW
   rw [HTK.out] at HST
   have hgw : w.heap.size < g := by have := HSZ.out; have := HB1.out.size; have := HX1.out.lt; have := HGB.out; omega
   have hgz : w0.heap.size < g := by have := HZ1.out.lt; have := HGB.out; omega
   have HXr := HX1.out.keep hb
   have HZr := HZ1.out.keep hb
   obtain ⟨w6, hw6⟩ : ∃ w6, wr.setCell ⟨w.heap.size, 5, none⟩ (.slice (some ⟨g, 0, none⟩) n cap) = w6 := ⟨_, rfl⟩
   have hx6 := HXr.setArgs (some ⟨g, 0, none⟩) cap xs
   rw [HXL.out, hw6] at hx6
   have HX6 := Lib.hid hx6
   have HR6 := Lib.hid (HRW.out.same (w' := w6) (by rw [← hw6]; exact heap_setCell_other _ _ _ _ (show g ≠ w.heap.size by omega)))
   have HZ6 := Lib.hid (show Own7 w6 w0.heap.size zeroEx by
    unfold Own7
    rw [← hw6, heap_setCell_other _ _ _ _ (show w0.heap.size ≠ w.heap.size by have := HSZ.out; omega)]
    exact HZr)
   have HB6 := Lib.hid (show Below w.heap.size w w6 by
    rw [← hw6]
    exact (HB1.out.trans (hb.mono HB1.out.size)).setCell (p := ⟨w.heap.size, 5, none⟩) (Nat.le_refl _) _)
   have HAL := Lib.hid (show Alike (fun b => S b ∨ g < b) wr w6 from ⟨by rw [← hw6]; simp [World.setCell], fun b h _ => by
    rw [← hw6]
    refine heap_setCell_other _ _ _ _ (fun e => ?_)
    rw [show b = w.heap.size from e] at h
    rcases h with h | h
    ·have := HSL.out _ h; omega
    ·omega⟩)
   have HSE6 := Lib.hid (fun y hy => (HSE.out y hy).keep HAL.out)
   have HSS := Lib.hid (show SeesS (fun b => (S b ∨ w.heap.size ≤ b) ∧ b ≠ w0.heap.size) w6 (.mk op name v (some ⟨g, 0, none⟩) cap xs pos) from by
    refine .mk HR6.out.sees (fun g' o' e1 _ => ?_) HE.out.parts.2.2.1 HE.out.parts.2.2.2.1 HE.out.parts.2.2.2.2.1 HE.out.parts.2.2.2.2.2.1 (fun a ha => (HSE6.out a ha).mono (fun b h => ?_))
    ·injection e1 with e1
     injection e1 with e1 _
     rw [← e1]; exact ⟨Or.inr (Nat.le_of_lt hgw), by omega⟩
    ·rcases h with h | h
     ·exact ⟨Or.inl h, by have := HSL.out b h; have := HSZ.out; omega⟩
     ·exact ⟨Or.inr (by omega), by omega⟩)
   have HOK := Lib.hid (opok_of_strips HO.out HST.out (fun x hx => wf_of_sees (HSE6.out x hx).see))
   have TV := Lib.hid (show Calls Tryz.prog 142 #[.agg #[.string op, .string name, .int .i64 v.type, .int .i64 v.n, .string v.s, .slice (some ⟨g, 0, none⟩) n cap, .int .i64 pos]] w6 (FValueSays op xs w6) from by
    have h := fvalue_any op name v (some ⟨g, 0, none⟩) cap xs pos HOK.out w6 HSS.out.see
    rw [show exV (.mk op name v (some ⟨g, 0, none⟩) cap xs pos) = .agg #[.string op, .string name, .int .i64 v.type, .int .i64 v.n, .string v.s, .slice (some ⟨g, 0, none⟩) n cap, .int .i64 pos] by rw [← HXL.out]; rfl] at h
    exact h)
   unfold FValueSays valV at TV
   have HFIN := Lib.hid (show ∀ X w', X = foldTop op name v (some ⟨g, 0, none⟩) cap pos xs → SeesS (fun b => S b ∨ w.heap.size ≤ b) w' X → Below w.heap.size w w' → FoldSays S (.mk op name v A c args pos) w (.returned (exV X)) w' from fun X w' h1 h2 h3 => ⟨X, rfl, h2, by rw [h1, strip_top, ← HST.out, ← strip_top op name v none 0 pos (foldEs args), ← foldE_node HNE.out], h3⟩)
   obtain ⟨-, -, -, -, -, b5, -⟩ := HXr.cells
   replace b5 : wr.cell? ⟨w.heap.size, 5, none⟩ = some (.slice A args.length c) := b5
   have fb5 := HXr.free 5
   have hl5 := HXr.lt
   obtain ⟨d0, d1, d2, d3, d4, d5, d6⟩ := HX6.out.cells
   replace d0 : w6.cell? ⟨w.heap.size, 0, none⟩ = some (.string op) := d0
   replace d1 : w6.cell? ⟨w.heap.size, 1, none⟩ = some (.string name) := d1
   replace d2 : w6.cell? ⟨w.heap.size, 2, none⟩ = some (.int .i64 v.type) := d2
   replace d3 : w6.cell? ⟨w.heap.size, 3, none⟩ = some (.int .i64 v.n) := d3
   replace d4 : w6.cell? ⟨w.heap.size, 4, none⟩ = some (.string v.s) := d4
   replace d5 : w6.cell? ⟨w.heap.size, 5, none⟩ = some (.slice (some ⟨g, 0, none⟩) xs.length cap) := d5
   replace d6 : w6.cell? ⟨w.heap.size, 6, none⟩ = some (.int .i64 pos) := d6
   rw [HXL.out] at d5
   have HW6 := Lib.hid hw6
   clear hb hw6 hx6 HXr HZr hgw hgz
   go_wp2_with (first | rw [HW6.out])
   refine (TV.out).mono ?_
   rintro e' w7 ⟨u, rfl, hu, hb7⟩
   have hb8 := belowNew' w7 (.cells #[.int .i64 u.type, .int .i64 u.n, .string u.s] 23)
   have ho8 := own3_new w7 u
   obtain ⟨w8, hw8⟩ : ∃ w8, w7.alloc (.cells #[.int .i64 u.type, .int .i64 u.n, .string u.s] 23) = w8 := ⟨_, rfl⟩
   rw [hw8] at hb8 ho8
   have HB68 := Lib.hid (below_step hb7 hb8)
   have HX8 := Lib.hid (HX6.out.keep HB68.out)
   have HR8 := Lib.hid (HR6.out.keep HB68.out)
   have HZ8 := Lib.hid (HZ6.out.keep HB68.out)
   have HU8 := Lib.hid ho8
   have HU := Lib.hid hu
   have HW8 := Lib.hid hw8
   clear hb7 hb8 ho8 hw8 hu TV d0 d1 d2 d3 d4 d5 d6 b5 fb5 hl5
   obtain ⟨x0, r, rfl⟩ : ∃ x0 r, xs = x0 :: r := by
    cases xs with
    | nil => have := HXL.out; simp at this; omega
    | cons x0 r => exact ⟨x0, r, rfl⟩
   have HC8 := Lib.hid (show w8.cell? ⟨w.heap.size, 0, none⟩ = some (.string op) ∧ w8.cell? ⟨w.heap.size, 1, none⟩ = some (.string name) ∧ w8.cell? ⟨w.heap.size, 2, none⟩ = some (.int .i64 v.type) ∧ w8.cell? ⟨w.heap.size, 3, none⟩ = some (.int .i64 v.n) ∧ w8.cell? ⟨w.heap.size, 4, none⟩ = some (.string v.s) ∧ w8.cell? ⟨w.heap.size, 5, none⟩ = some (.slice (some ⟨g, 0, none⟩) n cap) ∧ w8.cell? ⟨w.heap.size, 6, none⟩ = some (.int .i64 pos) from by
    have h := HX8.out.cells
    rw [← HXL.out]
    exact h)
   by_cases hf : foldable op (x0 :: r) = true
   ·as_aux_lemma =>
     have HF := Lib.hid (show u.type = u.type ∧ exVal u pos = foldTop op name v (some ⟨g, 0, none⟩) cap pos (x0 :: r) from ⟨rfl, by rw [HU.out hf]; unfold foldTop; rw [if_pos hf]⟩)
     rw [hf]
     clear hf
     obtain ⟨q0, q1, q2, -, -, -, -⟩ := HU8.out.cells
     obtain ⟨-, -, -, -, -, -, d6⟩ := HC8.out
     go_wp2_with (first
      | rw [HW8.out]
      | (refine wpList_build48 rfl _ _ _ rfl _ _ _ _ rfl rfl rfl ?_)
      | (refine wpList_store7 rfl (.tmp 2) (.tmp 42) rfl (X := exVal u pos) HZ8.out rfl rfl ?_; intro w9 hz9 hb9 ha9 hs9))
     have HB9 := Lib.hid (hb9 w.heap.size w (HB6.out.trans (HB68.out.mono HB6.out.size)) HLE.out)
     clear hb9 ha9 hs9
     obtain ⟨o0, o1, o2, o3, o4, o5, o6⟩ := hz9.cells
     refine bodyPost_ret (v := exV (exVal u pos)) ?_ rfl ?_
     ·simp [results, Tryz.results75, go_sem, o0, o1, o2, o3, o4, o5, o6, exV]
     ·refine HFIN.out _ _ HF.out.2 ?_ HB9.out
      have hwf := (top_good (A := some ⟨g, 0, none⟩) (c := cap) (pos := pos) HOK.out).1.wf
      rw [← HF.out.2] at hwf
      exact .mk (Sees.nil _ _) (fun g o h => by cases h) (show (3 : Nat) ≤ maxLen by decide) (Nat.zero_le _) hwf.parts.1 HE.out.parts.2.2.2.2.2.1 (fun a h => by cases h)
   ·have HFR := Lib.hid (show foldTop op name v (some ⟨g, 0, none⟩) cap pos (x0 :: r) = foldRest op name v (some ⟨g, 0, none⟩) cap pos (x0 :: r) by unfold foldTop; rw [if_neg hf])
    rw [show foldable op (x0 :: r) = false by simpa using hf]
    clear hf
    obtain ⟨y0, y1, y2, y3, y4, y5, y6⟩ := row_at0 HR8.out (x := x0) rfl
    have hgl8 := HR8.out.lt
    have TK := Lib.hid (const_any x0 w8)
    unfold ConstSays exV valV at TK
    have HW0x := Lib.hid (rest_ways (A := some ⟨g, 0, none⟩) (c := cap) (pos := pos) HOK.out)
    have HLEN := Lib.hid (show r.length + 1 = n by have := HXL.out; simpa using this)
    have HSX := Lib.hid (fun (w' : World) (h : Below w8.heap.size w8 w') (y : Ex) (hy : y ∈ x0 :: r) => show SeesS (fun b => (S b ∨ w.heap.size ≤ b) ∧ b ≠ w0.heap.size) w' y from ((HSS.out.parts.2.2.2.2.2.2 y hy).keep (.of_below HB68.out)).keep (.of_below h))
    have HSE' := Lib.hid (fun (w' : World) (h : Below w8.heap.size w8 w') => (HSS.out.keep (.of_below HB68.out)).keep (.of_below h))
    have HB8 := Lib.hid (HB6.out.trans (HB68.out.mono HB6.out.size))
    have HGX := Lib.hid (HOK.out.each x0 (by simp))
    by_cases hV : isVal x0.op
    ·have HV := Lib.hid hV
     have HXN := Lib.hid (show ¬ isNot x0.op by rw [bytes_of hV]; decide)
     by_cases hN : isNot op
     ·have HOPK := Lib.hid hN
      have HAO := Lib.hid (show ¬ (isAnd op ∨ isOr op) by rw [bytes_of hN]; decide)
      have HIF := Lib.hid (show ¬ isIf op by rw [bytes_of hN]; decide)
      clear hV hN
      as_aux_lemma =>
       have eNot := str_is (show op.data.toList = [110, 111, 116] from HOPK.out)
       have eAnd : (op.toList == [97, 110, 100]) = false := by rw [Lib.toList_data, show op.data.toList = [110, 111, 116] from HOPK.out]; decide
       have eOr : (op.toList == [111, 114]) = false := by rw [Lib.toList_data, show op.data.toList = [110, 111, 116] from HOPK.out]; decide
       have eIf : (op.toList == [105, 102]) = false := by rw [Lib.toList_data, show op.data.toList = [110, 111, 116] from HOPK.out]; decide
       have eX := str_ne (show x0.op.data.toList ≠ [110, 111, 116] from HXN.out)
       have HRES := Lib.hid (show (.mk op name v (some ⟨g, 0, none⟩) cap (x0 :: r) pos) = foldTop op name v (some ⟨g, 0, none⟩) cap pos (x0 :: r) from by rw [HFR.out, foldRest, if_neg (fun h => HXN.out h.2), if_neg (by simp [HV.out]), if_neg (no_stops HAO.out), if_neg HAO.out, if_neg HIF.out])
       rw [if_pos HV.out, decide_eq_true HV.out] at TK
       clear HW0x HFR
       go_wp2_with (first | rw [HW8.out])
       refine (TK.out).mono ?_
       rintro e' w9 ⟨rfl, hb9⟩
       have hb10 := belowNew' w9 (.cells #[.int .i64 x0.val.type, .int .i64 x0.val.n, .string x0.val.s] 23)
       have ho10 := own3_new w9 ⟨x0.val.type, x0.val.n, x0.val.s⟩
       obtain ⟨w10, hw10⟩ : ∃ w10, w9.alloc (.cells #[.int .i64 x0.val.type, .int .i64 x0.val.n, .string x0.val.s] 23) = w10 := ⟨_, rfl⟩
       replace ho10 : Own3 (w9.alloc (.cells #[.int .i64 x0.val.type, .int .i64 x0.val.n, .string x0.val.s] 23)) w9.heap.size ⟨x0.val.type, x0.val.n, x0.val.s⟩ := ho10
       rw [hw10] at hb10 ho10
       have h810 := below_step hb9 hb10
       have HX10 := HX8.out.keep h810
       have HR10 := HR8.out.keep h810
       have HZ10 := Lib.hid (HZ8.out.keep h810)
       have HS10 := Lib.hid (HSX.out w10 h810)
       have HE10 := Lib.hid (HSE'.out w10 h810)
       have HB10 := Lib.hid (HB8.out.trans (h810.mono HB8.out.size))
       obtain ⟨q0, q1, q2, -, -, -, -⟩ := ho10.cells
       obtain ⟨y0, y1, y2, y3, y4, y5, y6⟩ := row_at0 HR10 (x := x0) rfl
       have hc10 := HX10.cells
       replace hc10 : w10.cell? ⟨w.heap.size, 0, none⟩ = some (.string op) ∧ w10.cell? ⟨w.heap.size, 1, none⟩ = some (.string name) ∧ w10.cell? ⟨w.heap.size, 2, none⟩ = some (.int .i64 v.type) ∧ w10.cell? ⟨w.heap.size, 3, none⟩ = some (.int .i64 v.n) ∧ w10.cell? ⟨w.heap.size, 4, none⟩ = some (.string v.s) ∧ w10.cell? ⟨w.heap.size, 5, none⟩ = some (.slice (some ⟨g, 0, none⟩) (r.length + 1) cap) ∧ w10.cell? ⟨w.heap.size, 6, none⟩ = some (.int .i64 pos) := hc10
       rw [show r.length + 1 = n from HLEN.out] at hc10
       obtain ⟨d0, d1, d2, d3, d4, d5, d6⟩ := hc10
       have HW10 := Lib.hid hw10
       clear hb9 hb10 h810 hw10 ho10 HX10 HR10 TK
       go_wp2_with (first
        | rw [HW10.out]
        | (refine wpList_store7 rfl (.tmp 2) (.tmp 111) rfl (X := (.mk op name v (some ⟨g, 0, none⟩) cap (x0 :: r) pos)) HZ10.out rfl (by show _ = Value.agg #[.string op, .string name, .int .i64 v.type, .int .i64 v.n, .string v.s, .slice (some ⟨g, 0, none⟩) (r.length + 1) cap, .int .i64 pos]; rw [HLEN.out]; rfl) ?_; intro w11 hz11 hb11 ha11 hs11))
       have HB11 := Lib.hid (hb11 w.heap.size w HB10.out HLE.out)
       have HAL11 := Lib.hid (show Alike (fun b => (S b ∨ w.heap.size ≤ b) ∧ b ≠ w0.heap.size) w10 w11 from ⟨by rw [hs11]; exact Nat.le_refl _, fun b hb _ => ha11 b hb.2⟩)
       clear hb11 ha11 hs11
       obtain ⟨o0, o1, o2, o3, o4, o5, o6⟩ := hz11.cells
       refine bodyPost_ret (v := exV ((.mk op name v (some ⟨g, 0, none⟩) cap (x0 :: r) pos))) ?_ rfl ?_
       ·simp [results, Tryz.results75, go_sem, o0, o1, o2, o3, o4, o5, o6, exV]
       ·exact HFIN.out _ _ HRES.out (((HE10.out).keep HAL11.out).mono (fun b h => h.1)) HB11.out
     have HNot := Lib.hid hN
     by_cases hAAnd : isAnd op
     ·have HOPK := Lib.hid hAAnd
      obtain ⟨xa, x1, hxs, t1, -⟩ := and_parts HOK.out (Or.inl hAAnd)
      injection hxs with hxa hr
      subst hxa hr
      have hn01 := val_bool HGX.out hV t1
      have HOTH := Lib.hid (show ¬ isOr op by rw [bytes_of hAAnd]; decide)
      clear hV hN hAAnd t1
      rcases hn01 with hn1 | hn1
      ·have HN1 := Lib.hid hn1
       clear hn1
       as_aux_lemma =>
        have eNot : (op.toList == [110, 111, 116]) = false := by rw [Lib.toList_data, show op.data.toList = [97, 110, 100] from HOPK.out]; decide
        have eAnd := str_is (show op.data.toList = [97, 110, 100] from HOPK.out)
        have eOr : (op.toList == [111, 114]) = false := by rw [Lib.toList_data, show op.data.toList = [97, 110, 100] from HOPK.out]; decide
        have eIf : (op.toList == [105, 102]) = false := by rw [Lib.toList_data, show op.data.toList = [97, 110, 100] from HOPK.out]; decide
        have HRES := Lib.hid (show x0 = foldTop op name v (some ⟨g, 0, none⟩) cap pos (x0 :: [x1]) from by rw [HFR.out, foldRest, if_neg (fun h => HNot.out h.1), if_neg (by simp [HV.out]), if_pos (show stops op x0.val from Or.inl ⟨HOPK.out, HN1.out⟩)])
        rw [if_pos HV.out, decide_eq_true HV.out] at TK
        rw [HN1.out] at TK y3
        clear HW0x HFR
        go_wp2_with (first | rw [HW8.out])
        refine (TK.out).mono ?_
        rintro e' w9 ⟨rfl, hb9⟩
        have hb10 := belowNew' w9 (.cells #[.int .i64 x0.val.type, .int .i64 0, .string x0.val.s] 23)
        have ho10 := own3_new w9 ⟨x0.val.type, 0, x0.val.s⟩
        obtain ⟨w10, hw10⟩ : ∃ w10, w9.alloc (.cells #[.int .i64 x0.val.type, .int .i64 0, .string x0.val.s] 23) = w10 := ⟨_, rfl⟩
        replace ho10 : Own3 (w9.alloc (.cells #[.int .i64 x0.val.type, .int .i64 0, .string x0.val.s] 23)) w9.heap.size ⟨x0.val.type, 0, x0.val.s⟩ := ho10
        rw [hw10] at hb10 ho10
        have h810 := below_step hb9 hb10
        have HX10 := HX8.out.keep h810
        have HR10 := HR8.out.keep h810
        have HZ10 := Lib.hid (HZ8.out.keep h810)
        have HS10 := Lib.hid (HSX.out w10 h810)
        have HE10 := Lib.hid (HSE'.out w10 h810)
        have HB10 := Lib.hid (HB8.out.trans (h810.mono HB8.out.size))
        obtain ⟨q0, q1, q2, -, -, -, -⟩ := ho10.cells
        obtain ⟨y0, y1, y2, y3, y4, y5, y6⟩ := row_at0 HR10 (x := x0) rfl
        have hc10 := HX10.cells
        replace hc10 : w10.cell? ⟨w.heap.size, 0, none⟩ = some (.string op) ∧ w10.cell? ⟨w.heap.size, 1, none⟩ = some (.string name) ∧ w10.cell? ⟨w.heap.size, 2, none⟩ = some (.int .i64 v.type) ∧ w10.cell? ⟨w.heap.size, 3, none⟩ = some (.int .i64 v.n) ∧ w10.cell? ⟨w.heap.size, 4, none⟩ = some (.string v.s) ∧ w10.cell? ⟨w.heap.size, 5, none⟩ = some (.slice (some ⟨g, 0, none⟩) (1 + 1) cap) ∧ w10.cell? ⟨w.heap.size, 6, none⟩ = some (.int .i64 pos) := hc10
        rw [show 1 + 1 = n from HLEN.out] at hc10
        obtain ⟨d0, d1, d2, d3, d4, d5, d6⟩ := hc10
        have HW10 := Lib.hid hw10
        clear hb9 hb10 h810 hw10 ho10 HX10 HR10 TK
        go_wp2_with (first
         | rw [HW10.out]
         | (refine wpList_store7 rfl (.tmp 2) (.tmp 90) rfl (X := x0) HZ10.out rfl (by rfl) ?_; intro w11 hz11 hb11 ha11 hs11))
        have HB11 := Lib.hid (hb11 w.heap.size w HB10.out HLE.out)
        have HAL11 := Lib.hid (show Alike (fun b => (S b ∨ w.heap.size ≤ b) ∧ b ≠ w0.heap.size) w10 w11 from ⟨by rw [hs11]; exact Nat.le_refl _, fun b hb _ => ha11 b hb.2⟩)
        clear hb11 ha11 hs11
        obtain ⟨o0, o1, o2, o3, o4, o5, o6⟩ := hz11.cells
        refine bodyPost_ret (v := exV (x0)) ?_ rfl ?_
        ·simp [results, Tryz.results75, go_sem, o0, o1, o2, o3, o4, o5, o6, exV]
        ·exact HFIN.out _ _ HRES.out (((HS10.out x0 (by simp)).keep HAL11.out).mono (fun b h => h.1)) HB11.out
      ·have HN1 := Lib.hid hn1
       clear hn1
       as_aux_lemma =>
        have eNot : (op.toList == [110, 111, 116]) = false := by rw [Lib.toList_data, show op.data.toList = [97, 110, 100] from HOPK.out]; decide
        have eAnd := str_is (show op.data.toList = [97, 110, 100] from HOPK.out)
        have eOr : (op.toList == [111, 114]) = false := by rw [Lib.toList_data, show op.data.toList = [97, 110, 100] from HOPK.out]; decide
        have eIf : (op.toList == [105, 102]) = false := by rw [Lib.toList_data, show op.data.toList = [97, 110, 100] from HOPK.out]; decide
        have HRES := Lib.hid (show x1 = foldTop op name v (some ⟨g, 0, none⟩) cap pos (x0 :: [x1]) from by rw [HFR.out, foldRest, if_neg (fun h => HNot.out h.1), if_neg (by simp [HV.out]), if_neg (fun h => by rcases h with h | h; (have := h.2; rw [HN1.out] at this; omega); (exact HOTH.out h.1)), if_pos (Or.inl HOPK.out)]; rfl)
        rw [if_pos HV.out, decide_eq_true HV.out] at TK
        rw [HN1.out] at TK y3
        clear HW0x HFR
        go_wp2_with (first | rw [HW8.out])
        refine (TK.out).mono ?_
        rintro e' w9 ⟨rfl, hb9⟩
        have hb10 := belowNew' w9 (.cells #[.int .i64 x0.val.type, .int .i64 1, .string x0.val.s] 23)
        have ho10 := own3_new w9 ⟨x0.val.type, 1, x0.val.s⟩
        obtain ⟨w10, hw10⟩ : ∃ w10, w9.alloc (.cells #[.int .i64 x0.val.type, .int .i64 1, .string x0.val.s] 23) = w10 := ⟨_, rfl⟩
        replace ho10 : Own3 (w9.alloc (.cells #[.int .i64 x0.val.type, .int .i64 1, .string x0.val.s] 23)) w9.heap.size ⟨x0.val.type, 1, x0.val.s⟩ := ho10
        rw [hw10] at hb10 ho10
        have h810 := below_step hb9 hb10
        have HX10 := HX8.out.keep h810
        have HR10 := HR8.out.keep h810
        have HZ10 := Lib.hid (HZ8.out.keep h810)
        have HS10 := Lib.hid (HSX.out w10 h810)
        have HE10 := Lib.hid (HSE'.out w10 h810)
        have HB10 := Lib.hid (HB8.out.trans (h810.mono HB8.out.size))
        obtain ⟨q0, q1, q2, -, -, -, -⟩ := ho10.cells
        obtain ⟨y0, y1, y2, y3, y4, y5, y6⟩ := row_at0 HR10 (x := x0) rfl
        have hc10 := HX10.cells
        replace hc10 : w10.cell? ⟨w.heap.size, 0, none⟩ = some (.string op) ∧ w10.cell? ⟨w.heap.size, 1, none⟩ = some (.string name) ∧ w10.cell? ⟨w.heap.size, 2, none⟩ = some (.int .i64 v.type) ∧ w10.cell? ⟨w.heap.size, 3, none⟩ = some (.int .i64 v.n) ∧ w10.cell? ⟨w.heap.size, 4, none⟩ = some (.string v.s) ∧ w10.cell? ⟨w.heap.size, 5, none⟩ = some (.slice (some ⟨g, 0, none⟩) (1 + 1) cap) ∧ w10.cell? ⟨w.heap.size, 6, none⟩ = some (.int .i64 pos) := hc10
        rw [show 1 + 1 = n from HLEN.out] at hc10
        obtain ⟨d0, d1, d2, d3, d4, d5, d6⟩ := hc10
        have hn2 : 2 ≤ n := by rw [← (show 1 + 1 = n from HLEN.out)]; decide
        obtain ⟨s0, s1, s2, s3, s4, s5, s6⟩ := row_at1 HR10 (x := x1) rfl
        have HW10 := Lib.hid hw10
        clear hb9 hb10 h810 hw10 ho10 HX10 HR10 TK
        go_wp2_with (first
         | rw [HW10.out]
         | (refine wpList_store7 rfl (.tmp 2) (.tmp 100) rfl (X := x1) HZ10.out rfl (by rfl) ?_; intro w11 hz11 hb11 ha11 hs11))
        have HB11 := Lib.hid (hb11 w.heap.size w HB10.out HLE.out)
        have HAL11 := Lib.hid (show Alike (fun b => (S b ∨ w.heap.size ≤ b) ∧ b ≠ w0.heap.size) w10 w11 from ⟨by rw [hs11]; exact Nat.le_refl _, fun b hb _ => ha11 b hb.2⟩)
        clear hb11 ha11 hs11
        obtain ⟨o0, o1, o2, o3, o4, o5, o6⟩ := hz11.cells
        refine bodyPost_ret (v := exV (x1)) ?_ rfl ?_
        ·simp [results, Tryz.results75, go_sem, o0, o1, o2, o3, o4, o5, o6, exV]
        ·exact HFIN.out _ _ HRES.out (((HS10.out x1 (by simp)).keep HAL11.out).mono (fun b h => h.1)) HB11.out
     have HAnd := Lib.hid hAAnd
     by_cases hAOr : isOr op
     ·have HOPK := Lib.hid hAOr
      obtain ⟨xa, x1, hxs, t1, -⟩ := and_parts HOK.out (Or.inr hAOr)
      injection hxs with hxa hr
      subst hxa hr
      have hn01 := val_bool HGX.out hV t1
      have HOTH := Lib.hid (show ¬ isAnd op by rw [bytes_of hAOr]; decide)
      clear hV hN hAOr t1
      rcases hn01 with hn1 | hn1
      ·have HN1 := Lib.hid hn1
       clear hn1
       as_aux_lemma =>
        have eNot : (op.toList == [110, 111, 116]) = false := by rw [Lib.toList_data, show op.data.toList = [111, 114] from HOPK.out]; decide
        have eAnd : (op.toList == [97, 110, 100]) = false := by rw [Lib.toList_data, show op.data.toList = [111, 114] from HOPK.out]; decide
        have eOr := str_is (show op.data.toList = [111, 114] from HOPK.out)
        have eIf : (op.toList == [105, 102]) = false := by rw [Lib.toList_data, show op.data.toList = [111, 114] from HOPK.out]; decide
        have HRES := Lib.hid (show x1 = foldTop op name v (some ⟨g, 0, none⟩) cap pos (x0 :: [x1]) from by rw [HFR.out, foldRest, if_neg (fun h => HNot.out h.1), if_neg (by simp [HV.out]), if_neg (fun h => by rcases h with h | h; (exact HOTH.out h.1); (have := h.2; rw [HN1.out] at this; omega)), if_pos (Or.inr HOPK.out)]; rfl)
        rw [if_pos HV.out, decide_eq_true HV.out] at TK
        rw [HN1.out] at TK y3
        clear HW0x HFR
        go_wp2_with (first | rw [HW8.out])
        refine (TK.out).mono ?_
        rintro e' w9 ⟨rfl, hb9⟩
        have hb10 := belowNew' w9 (.cells #[.int .i64 x0.val.type, .int .i64 0, .string x0.val.s] 23)
        have ho10 := own3_new w9 ⟨x0.val.type, 0, x0.val.s⟩
        obtain ⟨w10, hw10⟩ : ∃ w10, w9.alloc (.cells #[.int .i64 x0.val.type, .int .i64 0, .string x0.val.s] 23) = w10 := ⟨_, rfl⟩
        replace ho10 : Own3 (w9.alloc (.cells #[.int .i64 x0.val.type, .int .i64 0, .string x0.val.s] 23)) w9.heap.size ⟨x0.val.type, 0, x0.val.s⟩ := ho10
        rw [hw10] at hb10 ho10
        have h810 := below_step hb9 hb10
        have HX10 := HX8.out.keep h810
        have HR10 := HR8.out.keep h810
        have HZ10 := Lib.hid (HZ8.out.keep h810)
        have HS10 := Lib.hid (HSX.out w10 h810)
        have HE10 := Lib.hid (HSE'.out w10 h810)
        have HB10 := Lib.hid (HB8.out.trans (h810.mono HB8.out.size))
        obtain ⟨q0, q1, q2, -, -, -, -⟩ := ho10.cells
        obtain ⟨y0, y1, y2, y3, y4, y5, y6⟩ := row_at0 HR10 (x := x0) rfl
        have hc10 := HX10.cells
        replace hc10 : w10.cell? ⟨w.heap.size, 0, none⟩ = some (.string op) ∧ w10.cell? ⟨w.heap.size, 1, none⟩ = some (.string name) ∧ w10.cell? ⟨w.heap.size, 2, none⟩ = some (.int .i64 v.type) ∧ w10.cell? ⟨w.heap.size, 3, none⟩ = some (.int .i64 v.n) ∧ w10.cell? ⟨w.heap.size, 4, none⟩ = some (.string v.s) ∧ w10.cell? ⟨w.heap.size, 5, none⟩ = some (.slice (some ⟨g, 0, none⟩) (1 + 1) cap) ∧ w10.cell? ⟨w.heap.size, 6, none⟩ = some (.int .i64 pos) := hc10
        rw [show 1 + 1 = n from HLEN.out] at hc10
        obtain ⟨d0, d1, d2, d3, d4, d5, d6⟩ := hc10
        have hn2 : 2 ≤ n := by rw [← (show 1 + 1 = n from HLEN.out)]; decide
        obtain ⟨s0, s1, s2, s3, s4, s5, s6⟩ := row_at1 HR10 (x := x1) rfl
        have HW10 := Lib.hid hw10
        clear hb9 hb10 h810 hw10 ho10 HX10 HR10 TK
        go_wp2_with (first
         | rw [HW10.out]
         | (refine wpList_store7 rfl (.tmp 2) (.tmp 100) rfl (X := x1) HZ10.out rfl (by rfl) ?_; intro w11 hz11 hb11 ha11 hs11))
        have HB11 := Lib.hid (hb11 w.heap.size w HB10.out HLE.out)
        have HAL11 := Lib.hid (show Alike (fun b => (S b ∨ w.heap.size ≤ b) ∧ b ≠ w0.heap.size) w10 w11 from ⟨by rw [hs11]; exact Nat.le_refl _, fun b hb _ => ha11 b hb.2⟩)
        clear hb11 ha11 hs11
        obtain ⟨o0, o1, o2, o3, o4, o5, o6⟩ := hz11.cells
        refine bodyPost_ret (v := exV (x1)) ?_ rfl ?_
        ·simp [results, Tryz.results75, go_sem, o0, o1, o2, o3, o4, o5, o6, exV]
        ·exact HFIN.out _ _ HRES.out (((HS10.out x1 (by simp)).keep HAL11.out).mono (fun b h => h.1)) HB11.out
      ·have HN1 := Lib.hid hn1
       clear hn1
       as_aux_lemma =>
        have eNot : (op.toList == [110, 111, 116]) = false := by rw [Lib.toList_data, show op.data.toList = [111, 114] from HOPK.out]; decide
        have eAnd : (op.toList == [97, 110, 100]) = false := by rw [Lib.toList_data, show op.data.toList = [111, 114] from HOPK.out]; decide
        have eOr := str_is (show op.data.toList = [111, 114] from HOPK.out)
        have eIf : (op.toList == [105, 102]) = false := by rw [Lib.toList_data, show op.data.toList = [111, 114] from HOPK.out]; decide
        have HRES := Lib.hid (show x0 = foldTop op name v (some ⟨g, 0, none⟩) cap pos (x0 :: [x1]) from by rw [HFR.out, foldRest, if_neg (fun h => HNot.out h.1), if_neg (by simp [HV.out]), if_pos (show stops op x0.val from Or.inr ⟨HOPK.out, HN1.out⟩)])
        rw [if_pos HV.out, decide_eq_true HV.out] at TK
        rw [HN1.out] at TK y3
        clear HW0x HFR
        go_wp2_with (first | rw [HW8.out])
        refine (TK.out).mono ?_
        rintro e' w9 ⟨rfl, hb9⟩
        have hb10 := belowNew' w9 (.cells #[.int .i64 x0.val.type, .int .i64 1, .string x0.val.s] 23)
        have ho10 := own3_new w9 ⟨x0.val.type, 1, x0.val.s⟩
        obtain ⟨w10, hw10⟩ : ∃ w10, w9.alloc (.cells #[.int .i64 x0.val.type, .int .i64 1, .string x0.val.s] 23) = w10 := ⟨_, rfl⟩
        replace ho10 : Own3 (w9.alloc (.cells #[.int .i64 x0.val.type, .int .i64 1, .string x0.val.s] 23)) w9.heap.size ⟨x0.val.type, 1, x0.val.s⟩ := ho10
        rw [hw10] at hb10 ho10
        have h810 := below_step hb9 hb10
        have HX10 := HX8.out.keep h810
        have HR10 := HR8.out.keep h810
        have HZ10 := Lib.hid (HZ8.out.keep h810)
        have HS10 := Lib.hid (HSX.out w10 h810)
        have HE10 := Lib.hid (HSE'.out w10 h810)
        have HB10 := Lib.hid (HB8.out.trans (h810.mono HB8.out.size))
        obtain ⟨q0, q1, q2, -, -, -, -⟩ := ho10.cells
        obtain ⟨y0, y1, y2, y3, y4, y5, y6⟩ := row_at0 HR10 (x := x0) rfl
        have hc10 := HX10.cells
        replace hc10 : w10.cell? ⟨w.heap.size, 0, none⟩ = some (.string op) ∧ w10.cell? ⟨w.heap.size, 1, none⟩ = some (.string name) ∧ w10.cell? ⟨w.heap.size, 2, none⟩ = some (.int .i64 v.type) ∧ w10.cell? ⟨w.heap.size, 3, none⟩ = some (.int .i64 v.n) ∧ w10.cell? ⟨w.heap.size, 4, none⟩ = some (.string v.s) ∧ w10.cell? ⟨w.heap.size, 5, none⟩ = some (.slice (some ⟨g, 0, none⟩) (1 + 1) cap) ∧ w10.cell? ⟨w.heap.size, 6, none⟩ = some (.int .i64 pos) := hc10
        rw [show 1 + 1 = n from HLEN.out] at hc10
        obtain ⟨d0, d1, d2, d3, d4, d5, d6⟩ := hc10
        have HW10 := Lib.hid hw10
        clear hb9 hb10 h810 hw10 ho10 HX10 HR10 TK
        go_wp2_with (first
         | rw [HW10.out]
         | (refine wpList_store7 rfl (.tmp 2) (.tmp 90) rfl (X := x0) HZ10.out rfl (by rfl) ?_; intro w11 hz11 hb11 ha11 hs11))
        have HB11 := Lib.hid (hb11 w.heap.size w HB10.out HLE.out)
        have HAL11 := Lib.hid (show Alike (fun b => (S b ∨ w.heap.size ≤ b) ∧ b ≠ w0.heap.size) w10 w11 from ⟨by rw [hs11]; exact Nat.le_refl _, fun b hb _ => ha11 b hb.2⟩)
        clear hb11 ha11 hs11
        obtain ⟨o0, o1, o2, o3, o4, o5, o6⟩ := hz11.cells
        refine bodyPost_ret (v := exV (x0)) ?_ rfl ?_
        ·simp [results, Tryz.results75, go_sem, o0, o1, o2, o3, o4, o5, o6, exV]
        ·exact HFIN.out _ _ HRES.out (((HS10.out x0 (by simp)).keep HAL11.out).mono (fun b h => h.1)) HB11.out
     have HOr := Lib.hid hAOr
     have HAO := Lib.hid (show ¬ (isAnd op ∨ isOr op) from fun h => h.elim HAnd.out HOr.out)
     by_cases hI : isIf op
     ·have HOPK := Lib.hid hI
      obtain ⟨xa, x1, x2, hxs, t1, -⟩ := if_parts HOK.out hI
      injection hxs with hxa hr
      subst hxa hr
      have hn01 := val_bool HGX.out hV t1
      clear hV hN hI hAAnd hAOr t1
      rcases hn01 with hn1 | hn1
      ·have HN1 := Lib.hid hn1
       clear hn1
       as_aux_lemma =>
        have eNot : (op.toList == [110, 111, 116]) = false := by rw [Lib.toList_data, show op.data.toList = [105, 102] from HOPK.out]; decide
        have eAnd : (op.toList == [97, 110, 100]) = false := by rw [Lib.toList_data, show op.data.toList = [105, 102] from HOPK.out]; decide
        have eOr : (op.toList == [111, 114]) = false := by rw [Lib.toList_data, show op.data.toList = [105, 102] from HOPK.out]; decide
        have eIf := str_is (show op.data.toList = [105, 102] from HOPK.out)
        have HRES := Lib.hid (show x2 = foldTop op name v (some ⟨g, 0, none⟩) cap pos (x0 :: [x1, x2]) from by rw [HFR.out, foldRest, if_neg (fun h => HNot.out h.1), if_neg (by simp [HV.out]), if_neg (no_stops HAO.out), if_neg HAO.out, if_pos HOPK.out, HN1.out]; rfl)
        rw [if_pos HV.out, decide_eq_true HV.out] at TK
        rw [HN1.out] at TK y3
        clear HW0x HFR
        go_wp2_with (first | rw [HW8.out])
        refine (TK.out).mono ?_
        rintro e' w9 ⟨rfl, hb9⟩
        have hb10 := belowNew' w9 (.cells #[.int .i64 x0.val.type, .int .i64 0, .string x0.val.s] 23)
        have ho10 := own3_new w9 ⟨x0.val.type, 0, x0.val.s⟩
        obtain ⟨w10, hw10⟩ : ∃ w10, w9.alloc (.cells #[.int .i64 x0.val.type, .int .i64 0, .string x0.val.s] 23) = w10 := ⟨_, rfl⟩
        replace ho10 : Own3 (w9.alloc (.cells #[.int .i64 x0.val.type, .int .i64 0, .string x0.val.s] 23)) w9.heap.size ⟨x0.val.type, 0, x0.val.s⟩ := ho10
        rw [hw10] at hb10 ho10
        have h810 := below_step hb9 hb10
        have HX10 := HX8.out.keep h810
        have HR10 := HR8.out.keep h810
        have HZ10 := Lib.hid (HZ8.out.keep h810)
        have HS10 := Lib.hid (HSX.out w10 h810)
        have HE10 := Lib.hid (HSE'.out w10 h810)
        have HB10 := Lib.hid (HB8.out.trans (h810.mono HB8.out.size))
        obtain ⟨q0, q1, q2, -, -, -, -⟩ := ho10.cells
        obtain ⟨y0, y1, y2, y3, y4, y5, y6⟩ := row_at0 HR10 (x := x0) rfl
        have hc10 := HX10.cells
        replace hc10 : w10.cell? ⟨w.heap.size, 0, none⟩ = some (.string op) ∧ w10.cell? ⟨w.heap.size, 1, none⟩ = some (.string name) ∧ w10.cell? ⟨w.heap.size, 2, none⟩ = some (.int .i64 v.type) ∧ w10.cell? ⟨w.heap.size, 3, none⟩ = some (.int .i64 v.n) ∧ w10.cell? ⟨w.heap.size, 4, none⟩ = some (.string v.s) ∧ w10.cell? ⟨w.heap.size, 5, none⟩ = some (.slice (some ⟨g, 0, none⟩) (1 + 1 + 1) cap) ∧ w10.cell? ⟨w.heap.size, 6, none⟩ = some (.int .i64 pos) := hc10
        rw [show 1 + 1 + 1 = n from HLEN.out] at hc10
        obtain ⟨d0, d1, d2, d3, d4, d5, d6⟩ := hc10
        have hn2 : 3 ≤ n := by rw [← (show 1 + 1 + 1 = n from HLEN.out)]; decide
        obtain ⟨s0, s1, s2, s3, s4, s5, s6⟩ := row_at2 HR10 (x := x2) rfl
        have HW10 := Lib.hid hw10
        clear hb9 hb10 h810 hw10 ho10 HX10 HR10 TK
        go_wp2_with (first
         | rw [HW10.out]
         | (refine wpList_store7 rfl (.tmp 2) (.tmp 110) rfl (X := x2) HZ10.out rfl (by rfl) ?_; intro w11 hz11 hb11 ha11 hs11))
        have HB11 := Lib.hid (hb11 w.heap.size w HB10.out HLE.out)
        have HAL11 := Lib.hid (show Alike (fun b => (S b ∨ w.heap.size ≤ b) ∧ b ≠ w0.heap.size) w10 w11 from ⟨by rw [hs11]; exact Nat.le_refl _, fun b hb _ => ha11 b hb.2⟩)
        clear hb11 ha11 hs11
        obtain ⟨o0, o1, o2, o3, o4, o5, o6⟩ := hz11.cells
        refine bodyPost_ret (v := exV (x2)) ?_ rfl ?_
        ·simp [results, Tryz.results75, go_sem, o0, o1, o2, o3, o4, o5, o6, exV]
        ·exact HFIN.out _ _ HRES.out (((HS10.out x2 (by simp)).keep HAL11.out).mono (fun b h => h.1)) HB11.out
      ·have HN1 := Lib.hid hn1
       clear hn1
       as_aux_lemma =>
        have eNot : (op.toList == [110, 111, 116]) = false := by rw [Lib.toList_data, show op.data.toList = [105, 102] from HOPK.out]; decide
        have eAnd : (op.toList == [97, 110, 100]) = false := by rw [Lib.toList_data, show op.data.toList = [105, 102] from HOPK.out]; decide
        have eOr : (op.toList == [111, 114]) = false := by rw [Lib.toList_data, show op.data.toList = [105, 102] from HOPK.out]; decide
        have eIf := str_is (show op.data.toList = [105, 102] from HOPK.out)
        have HRES := Lib.hid (show x1 = foldTop op name v (some ⟨g, 0, none⟩) cap pos (x0 :: [x1, x2]) from by rw [HFR.out, foldRest, if_neg (fun h => HNot.out h.1), if_neg (by simp [HV.out]), if_neg (no_stops HAO.out), if_neg HAO.out, if_pos HOPK.out, HN1.out]; rfl)
        rw [if_pos HV.out, decide_eq_true HV.out] at TK
        rw [HN1.out] at TK y3
        clear HW0x HFR
        go_wp2_with (first | rw [HW8.out])
        refine (TK.out).mono ?_
        rintro e' w9 ⟨rfl, hb9⟩
        have hb10 := belowNew' w9 (.cells #[.int .i64 x0.val.type, .int .i64 1, .string x0.val.s] 23)
        have ho10 := own3_new w9 ⟨x0.val.type, 1, x0.val.s⟩
        obtain ⟨w10, hw10⟩ : ∃ w10, w9.alloc (.cells #[.int .i64 x0.val.type, .int .i64 1, .string x0.val.s] 23) = w10 := ⟨_, rfl⟩
        replace ho10 : Own3 (w9.alloc (.cells #[.int .i64 x0.val.type, .int .i64 1, .string x0.val.s] 23)) w9.heap.size ⟨x0.val.type, 1, x0.val.s⟩ := ho10
        rw [hw10] at hb10 ho10
        have h810 := below_step hb9 hb10
        have HX10 := HX8.out.keep h810
        have HR10 := HR8.out.keep h810
        have HZ10 := Lib.hid (HZ8.out.keep h810)
        have HS10 := Lib.hid (HSX.out w10 h810)
        have HE10 := Lib.hid (HSE'.out w10 h810)
        have HB10 := Lib.hid (HB8.out.trans (h810.mono HB8.out.size))
        obtain ⟨q0, q1, q2, -, -, -, -⟩ := ho10.cells
        obtain ⟨y0, y1, y2, y3, y4, y5, y6⟩ := row_at0 HR10 (x := x0) rfl
        have hc10 := HX10.cells
        replace hc10 : w10.cell? ⟨w.heap.size, 0, none⟩ = some (.string op) ∧ w10.cell? ⟨w.heap.size, 1, none⟩ = some (.string name) ∧ w10.cell? ⟨w.heap.size, 2, none⟩ = some (.int .i64 v.type) ∧ w10.cell? ⟨w.heap.size, 3, none⟩ = some (.int .i64 v.n) ∧ w10.cell? ⟨w.heap.size, 4, none⟩ = some (.string v.s) ∧ w10.cell? ⟨w.heap.size, 5, none⟩ = some (.slice (some ⟨g, 0, none⟩) (1 + 1 + 1) cap) ∧ w10.cell? ⟨w.heap.size, 6, none⟩ = some (.int .i64 pos) := hc10
        rw [show 1 + 1 + 1 = n from HLEN.out] at hc10
        obtain ⟨d0, d1, d2, d3, d4, d5, d6⟩ := hc10
        have hn2 : 2 ≤ n := by rw [← (show 1 + 1 + 1 = n from HLEN.out)]; decide
        obtain ⟨s0, s1, s2, s3, s4, s5, s6⟩ := row_at1 HR10 (x := x1) rfl
        have HW10 := Lib.hid hw10
        clear hb9 hb10 h810 hw10 ho10 HX10 HR10 TK
        go_wp2_with (first
         | rw [HW10.out]
         | (refine wpList_store7 rfl (.tmp 2) (.tmp 110) rfl (X := x1) HZ10.out rfl (by rfl) ?_; intro w11 hz11 hb11 ha11 hs11))
        have HB11 := Lib.hid (hb11 w.heap.size w HB10.out HLE.out)
        have HAL11 := Lib.hid (show Alike (fun b => (S b ∨ w.heap.size ≤ b) ∧ b ≠ w0.heap.size) w10 w11 from ⟨by rw [hs11]; exact Nat.le_refl _, fun b hb _ => ha11 b hb.2⟩)
        clear hb11 ha11 hs11
        obtain ⟨o0, o1, o2, o3, o4, o5, o6⟩ := hz11.cells
        refine bodyPost_ret (v := exV (x1)) ?_ rfl ?_
        ·simp [results, Tryz.results75, go_sem, o0, o1, o2, o3, o4, o5, o6, exV]
        ·exact HFIN.out _ _ HRES.out (((HS10.out x1 (by simp)).keep HAL11.out).mono (fun b h => h.1)) HB11.out
     have HIf := Lib.hid hI
     clear hV hN hI hAAnd hAOr
     as_aux_lemma =>
      have eNot := str_ne (show op.data.toList ≠ [110, 111, 116] from HNot.out)
      have eAnd := str_ne (show op.data.toList ≠ [97, 110, 100] from HAnd.out)
      have eOr := str_ne (show op.data.toList ≠ [111, 114] from HOr.out)
      have eIf := str_ne (show op.data.toList ≠ [105, 102] from HIf.out)
      have HRES := Lib.hid (show (.mk op name v (some ⟨g, 0, none⟩) cap (x0 :: r) pos) = foldTop op name v (some ⟨g, 0, none⟩) cap pos (x0 :: r) from by rw [HFR.out, foldRest, if_neg (fun h => HNot.out h.1), if_neg (by simp [HV.out]), if_neg (no_stops HAO.out), if_neg HAO.out, if_neg HIf.out])
      rw [if_pos HV.out, decide_eq_true HV.out] at TK
      clear HW0x HFR
      go_wp2_with (first | rw [HW8.out])
      refine (TK.out).mono ?_
      rintro e' w9 ⟨rfl, hb9⟩
      have hb10 := belowNew' w9 (.cells #[.int .i64 x0.val.type, .int .i64 x0.val.n, .string x0.val.s] 23)
      have ho10 := own3_new w9 ⟨x0.val.type, x0.val.n, x0.val.s⟩
      obtain ⟨w10, hw10⟩ : ∃ w10, w9.alloc (.cells #[.int .i64 x0.val.type, .int .i64 x0.val.n, .string x0.val.s] 23) = w10 := ⟨_, rfl⟩
      replace ho10 : Own3 (w9.alloc (.cells #[.int .i64 x0.val.type, .int .i64 x0.val.n, .string x0.val.s] 23)) w9.heap.size ⟨x0.val.type, x0.val.n, x0.val.s⟩ := ho10
      rw [hw10] at hb10 ho10
      have h810 := below_step hb9 hb10
      have HX10 := HX8.out.keep h810
      have HR10 := HR8.out.keep h810
      have HZ10 := Lib.hid (HZ8.out.keep h810)
      have HS10 := Lib.hid (HSX.out w10 h810)
      have HE10 := Lib.hid (HSE'.out w10 h810)
      have HB10 := Lib.hid (HB8.out.trans (h810.mono HB8.out.size))
      obtain ⟨q0, q1, q2, -, -, -, -⟩ := ho10.cells
      obtain ⟨y0, y1, y2, y3, y4, y5, y6⟩ := row_at0 HR10 (x := x0) rfl
      have hc10 := HX10.cells
      replace hc10 : w10.cell? ⟨w.heap.size, 0, none⟩ = some (.string op) ∧ w10.cell? ⟨w.heap.size, 1, none⟩ = some (.string name) ∧ w10.cell? ⟨w.heap.size, 2, none⟩ = some (.int .i64 v.type) ∧ w10.cell? ⟨w.heap.size, 3, none⟩ = some (.int .i64 v.n) ∧ w10.cell? ⟨w.heap.size, 4, none⟩ = some (.string v.s) ∧ w10.cell? ⟨w.heap.size, 5, none⟩ = some (.slice (some ⟨g, 0, none⟩) (r.length + 1) cap) ∧ w10.cell? ⟨w.heap.size, 6, none⟩ = some (.int .i64 pos) := hc10
      rw [show r.length + 1 = n from HLEN.out] at hc10
      obtain ⟨d0, d1, d2, d3, d4, d5, d6⟩ := hc10
      have HW10 := Lib.hid hw10
      clear hb9 hb10 h810 hw10 ho10 HX10 HR10 TK
      go_wp2_with (first
       | rw [HW10.out]
       | (refine wpList_store7 rfl (.tmp 2) (.tmp 111) rfl (X := (.mk op name v (some ⟨g, 0, none⟩) cap (x0 :: r) pos)) HZ10.out rfl (by show _ = Value.agg #[.string op, .string name, .int .i64 v.type, .int .i64 v.n, .string v.s, .slice (some ⟨g, 0, none⟩) (r.length + 1) cap, .int .i64 pos]; rw [HLEN.out]; rfl) ?_; intro w11 hz11 hb11 ha11 hs11))
      have HB11 := Lib.hid (hb11 w.heap.size w HB10.out HLE.out)
      have HAL11 := Lib.hid (show Alike (fun b => (S b ∨ w.heap.size ≤ b) ∧ b ≠ w0.heap.size) w10 w11 from ⟨by rw [hs11]; exact Nat.le_refl _, fun b hb _ => ha11 b hb.2⟩)
      clear hb11 ha11 hs11
      obtain ⟨o0, o1, o2, o3, o4, o5, o6⟩ := hz11.cells
      refine bodyPost_ret (v := exV ((.mk op name v (some ⟨g, 0, none⟩) cap (x0 :: r) pos))) ?_ rfl ?_
      ·simp [results, Tryz.results75, go_sem, o0, o1, o2, o3, o4, o5, o6, exV]
      ·exact HFIN.out _ _ HRES.out (((HE10.out).keep HAL11.out).mono (fun b h => h.1)) HB11.out
    ·have HV := Lib.hid hV
     by_cases hN : isNot op
     ·have HOPK := Lib.hid hN
      by_cases hX : isNot x0.op
      ·have HXN := Lib.hid hX
       obtain ⟨b, hb, -⟩ := not_part HGX.out hX
       have HBB := Lib.hid hb
       clear hV hN hX hb
       as_aux_lemma =>
        have eNot := str_is (show op.data.toList = [110, 111, 116] from HOPK.out)
        have eX := str_is (show x0.op.data.toList = [110, 111, 116] from HXN.out)
        have HRES := Lib.hid (show b = foldTop op name v (some ⟨g, 0, none⟩) cap pos (x0 :: r) from by rw [HFR.out, foldRest, if_pos ⟨HOPK.out, HXN.out⟩, HBB.out]; rfl)
        rw [if_neg HV.out, decide_eq_false HV.out] at TK
        generalize noVal = nv at TK
        clear HW0x HFR
        go_wp2_with (first | rw [HW8.out])
        refine (TK.out).mono ?_
        rintro e' w9 ⟨rfl, hb9⟩
        have hb10 := belowNew' w9 (.cells #[.int .i64 nv.type, .int .i64 nv.n, .string nv.s] 23)
        have ho10 := own3_new w9 ⟨nv.type, nv.n, nv.s⟩
        obtain ⟨w10, hw10⟩ : ∃ w10, w9.alloc (.cells #[.int .i64 nv.type, .int .i64 nv.n, .string nv.s] 23) = w10 := ⟨_, rfl⟩
        replace ho10 : Own3 (w9.alloc (.cells #[.int .i64 nv.type, .int .i64 nv.n, .string nv.s] 23)) w9.heap.size ⟨nv.type, nv.n, nv.s⟩ := ho10
        rw [hw10] at hb10 ho10
        have h810 := below_step hb9 hb10
        have HX10 := HX8.out.keep h810
        have HR10 := HR8.out.keep h810
        have HZ10 := Lib.hid (HZ8.out.keep h810)
        have HS10 := Lib.hid (HSX.out w10 h810)
        have HE10 := Lib.hid (HSE'.out w10 h810)
        have HB10 := Lib.hid (HB8.out.trans (h810.mono HB8.out.size))
        obtain ⟨q0, q1, q2, -, -, -, -⟩ := ho10.cells
        obtain ⟨y0, y1, y2, y3, y4, y5, y6⟩ := row_at0 HR10 (x := x0) rfl
        have hc10 := HX10.cells
        replace hc10 : w10.cell? ⟨w.heap.size, 0, none⟩ = some (.string op) ∧ w10.cell? ⟨w.heap.size, 1, none⟩ = some (.string name) ∧ w10.cell? ⟨w.heap.size, 2, none⟩ = some (.int .i64 v.type) ∧ w10.cell? ⟨w.heap.size, 3, none⟩ = some (.int .i64 v.n) ∧ w10.cell? ⟨w.heap.size, 4, none⟩ = some (.string v.s) ∧ w10.cell? ⟨w.heap.size, 5, none⟩ = some (.slice (some ⟨g, 0, none⟩) (r.length + 1) cap) ∧ w10.cell? ⟨w.heap.size, 6, none⟩ = some (.int .i64 pos) := hc10
        rw [show r.length + 1 = n from HLEN.out] at hc10
        obtain ⟨d0, d1, d2, d3, d4, d5, d6⟩ := hc10
        obtain ⟨g2, o2, xb, hA2, hg2, hxb, -, s0, s1, s2, s3, s4, s5, s6⟩ := (HS10.out x0 (by simp)).see.at_ (k := 0) (by rw [HBB.out]; exact Nat.one_pos)
        obtain rfl : b = xb := by rw [HBB.out] at hxb; simpa using hxb
        simp only [Nat.zero_mul, Nat.add_zero] at s0 s1 s2 s3 s4 s5 s6
        rw [hA2, HBB.out] at y5
        replace y5 : w10.cell? ⟨g, 5, none⟩ = some (.slice (some ⟨g2, o2, none⟩) 1 x0.c) := y5
        have hx0c : 1 ≤ x0.c ∧ x0.c ≤ 2 ^ 63 - 1 := by
         have h := (HS10.out x0 (by simp)).parts.1
         have h1 := h.2.1
         have h2 := h.2.2.1
         rw [HBB.out] at h1
         unfold maxLen at h2
         exact ⟨h1, h2⟩
        obtain ⟨hx0c1, hx0c2⟩ := hx0c
        clear hA2 hxb
        have HW10 := Lib.hid hw10
        clear hb9 hb10 h810 hw10 ho10 HX10 HR10 TK
        go_wp2_with (first
         | rw [HW10.out]
         | (refine wpList_store7 rfl (.tmp 2) (.tmp 66) rfl (X := b) HZ10.out rfl (by rfl) ?_; intro w11 hz11 hb11 ha11 hs11))
        have HB11 := Lib.hid (hb11 w.heap.size w HB10.out HLE.out)
        have HAL11 := Lib.hid (show Alike (fun b => (S b ∨ w.heap.size ≤ b) ∧ b ≠ w0.heap.size) w10 w11 from ⟨by rw [hs11]; exact Nat.le_refl _, fun b hb _ => ha11 b hb.2⟩)
        clear hb11 ha11 hs11
        obtain ⟨o0, o1, o2, o3, o4, o5, o6⟩ := hz11.cells
        refine bodyPost_ret (v := exV (b)) ?_ rfl ?_
        ·simp [results, Tryz.results75, go_sem, o0, o1, o2, o3, o4, o5, o6, exV]
        ·exact HFIN.out _ _ HRES.out ((((HS10.out x0 (by simp)).parts.2.2.2.2.2.2 b (by rw [HBB.out]; simp)).keep HAL11.out).mono (fun b h => h.1)) HB11.out
      ·have HXN := Lib.hid hX
       clear hV hN hX
       as_aux_lemma =>
        have eNot := str_is (show op.data.toList = [110, 111, 116] from HOPK.out)
        have eX := str_ne (show x0.op.data.toList ≠ [110, 111, 116] from HXN.out)
        have HRES := Lib.hid (show (.mk op name v (some ⟨g, 0, none⟩) cap (x0 :: r) pos) = foldTop op name v (some ⟨g, 0, none⟩) cap pos (x0 :: r) from by rw [HFR.out, foldRest, if_neg (fun h => HXN.out h.2), if_pos HV.out])
        rw [if_neg HV.out, decide_eq_false HV.out] at TK
        generalize noVal = nv at TK
        clear HW0x HFR
        go_wp2_with (first | rw [HW8.out])
        refine (TK.out).mono ?_
        rintro e' w9 ⟨rfl, hb9⟩
        have hb10 := belowNew' w9 (.cells #[.int .i64 nv.type, .int .i64 nv.n, .string nv.s] 23)
        have ho10 := own3_new w9 ⟨nv.type, nv.n, nv.s⟩
        obtain ⟨w10, hw10⟩ : ∃ w10, w9.alloc (.cells #[.int .i64 nv.type, .int .i64 nv.n, .string nv.s] 23) = w10 := ⟨_, rfl⟩
        replace ho10 : Own3 (w9.alloc (.cells #[.int .i64 nv.type, .int .i64 nv.n, .string nv.s] 23)) w9.heap.size ⟨nv.type, nv.n, nv.s⟩ := ho10
        rw [hw10] at hb10 ho10
        have h810 := below_step hb9 hb10
        have HX10 := HX8.out.keep h810
        have HR10 := HR8.out.keep h810
        have HZ10 := Lib.hid (HZ8.out.keep h810)
        have HS10 := Lib.hid (HSX.out w10 h810)
        have HE10 := Lib.hid (HSE'.out w10 h810)
        have HB10 := Lib.hid (HB8.out.trans (h810.mono HB8.out.size))
        obtain ⟨q0, q1, q2, -, -, -, -⟩ := ho10.cells
        obtain ⟨y0, y1, y2, y3, y4, y5, y6⟩ := row_at0 HR10 (x := x0) rfl
        have hc10 := HX10.cells
        replace hc10 : w10.cell? ⟨w.heap.size, 0, none⟩ = some (.string op) ∧ w10.cell? ⟨w.heap.size, 1, none⟩ = some (.string name) ∧ w10.cell? ⟨w.heap.size, 2, none⟩ = some (.int .i64 v.type) ∧ w10.cell? ⟨w.heap.size, 3, none⟩ = some (.int .i64 v.n) ∧ w10.cell? ⟨w.heap.size, 4, none⟩ = some (.string v.s) ∧ w10.cell? ⟨w.heap.size, 5, none⟩ = some (.slice (some ⟨g, 0, none⟩) (r.length + 1) cap) ∧ w10.cell? ⟨w.heap.size, 6, none⟩ = some (.int .i64 pos) := hc10
        rw [show r.length + 1 = n from HLEN.out] at hc10
        obtain ⟨d0, d1, d2, d3, d4, d5, d6⟩ := hc10
        have HW10 := Lib.hid hw10
        clear hb9 hb10 h810 hw10 ho10 HX10 HR10 TK
        go_wp2_with (first
         | rw [HW10.out]
         | (refine wpList_store7 rfl (.tmp 2) (.tmp 70) rfl (X := (.mk op name v (some ⟨g, 0, none⟩) cap (x0 :: r) pos)) HZ10.out rfl (by show _ = Value.agg #[.string op, .string name, .int .i64 v.type, .int .i64 v.n, .string v.s, .slice (some ⟨g, 0, none⟩) (r.length + 1) cap, .int .i64 pos]; rw [HLEN.out]; rfl) ?_; intro w11 hz11 hb11 ha11 hs11))
        have HB11 := Lib.hid (hb11 w.heap.size w HB10.out HLE.out)
        have HAL11 := Lib.hid (show Alike (fun b => (S b ∨ w.heap.size ≤ b) ∧ b ≠ w0.heap.size) w10 w11 from ⟨by rw [hs11]; exact Nat.le_refl _, fun b hb _ => ha11 b hb.2⟩)
        clear hb11 ha11 hs11
        obtain ⟨o0, o1, o2, o3, o4, o5, o6⟩ := hz11.cells
        refine bodyPost_ret (v := exV ((.mk op name v (some ⟨g, 0, none⟩) cap (x0 :: r) pos))) ?_ rfl ?_
        ·simp [results, Tryz.results75, go_sem, o0, o1, o2, o3, o4, o5, o6, exV]
        ·exact HFIN.out _ _ HRES.out (((HE10.out).keep HAL11.out).mono (fun b h => h.1)) HB11.out
     ·have HNot := Lib.hid hN
      clear hV hN
      as_aux_lemma =>
       have eNot := str_ne (show op.data.toList ≠ [110, 111, 116] from HNot.out)
       have HRES := Lib.hid (show (.mk op name v (some ⟨g, 0, none⟩) cap (x0 :: r) pos) = foldTop op name v (some ⟨g, 0, none⟩) cap pos (x0 :: r) from by rw [HFR.out, foldRest, if_neg (fun h => HNot.out h.1), if_pos HV.out])
       rw [if_neg HV.out, decide_eq_false HV.out] at TK
       generalize noVal = nv at TK
       clear HW0x HFR
       go_wp2_with (first | rw [HW8.out])
       refine (TK.out).mono ?_
       rintro e' w9 ⟨rfl, hb9⟩
       have hb10 := belowNew' w9 (.cells #[.int .i64 nv.type, .int .i64 nv.n, .string nv.s] 23)
       have ho10 := own3_new w9 ⟨nv.type, nv.n, nv.s⟩
       obtain ⟨w10, hw10⟩ : ∃ w10, w9.alloc (.cells #[.int .i64 nv.type, .int .i64 nv.n, .string nv.s] 23) = w10 := ⟨_, rfl⟩
       replace ho10 : Own3 (w9.alloc (.cells #[.int .i64 nv.type, .int .i64 nv.n, .string nv.s] 23)) w9.heap.size ⟨nv.type, nv.n, nv.s⟩ := ho10
       rw [hw10] at hb10 ho10
       have h810 := below_step hb9 hb10
       have HX10 := HX8.out.keep h810
       have HR10 := HR8.out.keep h810
       have HZ10 := Lib.hid (HZ8.out.keep h810)
       have HS10 := Lib.hid (HSX.out w10 h810)
       have HE10 := Lib.hid (HSE'.out w10 h810)
       have HB10 := Lib.hid (HB8.out.trans (h810.mono HB8.out.size))
       obtain ⟨q0, q1, q2, -, -, -, -⟩ := ho10.cells
       obtain ⟨y0, y1, y2, y3, y4, y5, y6⟩ := row_at0 HR10 (x := x0) rfl
       have hc10 := HX10.cells
       replace hc10 : w10.cell? ⟨w.heap.size, 0, none⟩ = some (.string op) ∧ w10.cell? ⟨w.heap.size, 1, none⟩ = some (.string name) ∧ w10.cell? ⟨w.heap.size, 2, none⟩ = some (.int .i64 v.type) ∧ w10.cell? ⟨w.heap.size, 3, none⟩ = some (.int .i64 v.n) ∧ w10.cell? ⟨w.heap.size, 4, none⟩ = some (.string v.s) ∧ w10.cell? ⟨w.heap.size, 5, none⟩ = some (.slice (some ⟨g, 0, none⟩) (r.length + 1) cap) ∧ w10.cell? ⟨w.heap.size, 6, none⟩ = some (.int .i64 pos) := hc10
       rw [show r.length + 1 = n from HLEN.out] at hc10
       obtain ⟨d0, d1, d2, d3, d4, d5, d6⟩ := hc10
       have HW10 := Lib.hid hw10
       clear hb9 hb10 h810 hw10 ho10 HX10 HR10 TK
       go_wp2_with (first
        | rw [HW10.out]
        | (refine wpList_store7 rfl (.tmp 2) (.tmp 70) rfl (X := (.mk op name v (some ⟨g, 0, none⟩) cap (x0 :: r) pos)) HZ10.out rfl (by show _ = Value.agg #[.string op, .string name, .int .i64 v.type, .int .i64 v.n, .string v.s, .slice (some ⟨g, 0, none⟩) (r.length + 1) cap, .int .i64 pos]; rw [HLEN.out]; rfl) ?_; intro w11 hz11 hb11 ha11 hs11))
       have HB11 := Lib.hid (hb11 w.heap.size w HB10.out HLE.out)
       have HAL11 := Lib.hid (show Alike (fun b => (S b ∨ w.heap.size ≤ b) ∧ b ≠ w0.heap.size) w10 w11 from ⟨by rw [hs11]; exact Nat.le_refl _, fun b hb _ => ha11 b hb.2⟩)
       clear hb11 ha11 hs11
       obtain ⟨o0, o1, o2, o3, o4, o5, o6⟩ := hz11.cells
       refine bodyPost_ret (v := exV ((.mk op name v (some ⟨g, 0, none⟩) cap (x0 :: r) pos))) ?_ rfl ?_
       ·simp [results, Tryz.results75, go_sem, o0, o1, o2, o3, o4, o5, o6, exV]
       ·exact HFIN.out _ _ HRES.out (((HE10.out).keep HAL11.out).mono (fun b h => h.1)) HB11.out
theorem foldOf_any {cols : List Col} : ∀ m : Nat, FoldAt cols m
 | 0 => fun e hm _ _ _ _ _ => by cases e; simp at hm
 | m + 1 => fun e hm hg S w hS he => by
  obtain ⟨op, name, v, A, c, args, pos⟩ := e
  by_cases hne : args = []
  ·subst hne
   exact fold_leaf op name v A c pos S w he
  ·exact fold_step m (foldOf_any m) op name v A c args pos hm hg hne S w hS he
end Go.Proofs.YtpbbkpfaphjdoaaGreatDoor
