/- Of the law FoldSame: the card Rows.FoldSameCardSaid, without any condition: whatever the expression, the columns and the row, it returns true. -/
import Derived.Test.YtpbbkpfaphjdoaaDoorOpenEx
import Derived.Test.YtpbbkpfaphjdoaaDoorTold
import Derived.Test.YtpbbkpfaphjdoaaDoorFoldLaw3
import Derived.Test.YtpbbkpfaphjdoaaDoorFoldFold
import Derived.Test.YtpbbkpfaphjdoaaDoorFoldUses
import Derived.Test.YtpbbkpfaphjdoaaDoorTreeSame
import Derived.Test.YtpbbkpfaphjdoaaDoorSameEx
import Derived.Test.YtpbbkpfaphjdoaaDoorTreeName
import Derived.Test.YtpbbkpfaphjdoaaDoorCards
import Derived.Test.YtpbbkpfaphjdoaaDoorTie
import Derived.Test.YtpbbkpfaphjdoaaDoorOpenExN
import Derived.LaidLaws
import Derived.LaidMore
import Derived.LaidHandle
import Derived.Stop.Joined
import Derived.SevenTiedAt
import Derived.Deep.DeepWitnessRowRef
import Derived.Deep.DeepHandedRow
import Derived.Deep.QuietTactic
import Derived.BigQuiet
import Derived.BigRegion
import Derived.Deep.RegionHeld3
namespace Go.Proofs.YtpbbkpfaphjdoaaDoor.foldSame
open Go.ChangeShapes Go.WideShapes Go.ChangeAt Go.RowKit

theorem seesNew (w : World) (cs : List Value) (t : TypeId) (n size : Nat) (h : cs.length = n * size) (hn : n ≤ maxLen) : Sees (w.alloc (.cells cs.toArray t)) (some ⟨w.heap.size, 0, none⟩) n n size cs := by
  refine ⟨h, Nat.le_refl _, hn, (fun e => by cases e), fun _ => ⟨_, _, rfl, by simp, fun j u hu => ?_⟩⟩
  rw [Nat.zero_add, cell_of_row _ _ _ _ _ _ (heap_alloc_new w _)]
  simpa using hu
theorem sum_cells {w : World} {b : Nat} {A : Option Addr} {c : Nat} (h : Own7 w b (sumF A c)) :
    w.cell? ⟨b, 0, none⟩ = some (.string ⟨#[43]⟩) ∧ w.cell? ⟨b, 1, none⟩ = some (.string ⟨#[]⟩) ∧ w.cell? ⟨b, 2, none⟩ = some (.int .i64 0) ∧ w.cell? ⟨b, 3, none⟩ = some (.int .i64 0) ∧
    w.cell? ⟨b, 4, none⟩ = some (.string ⟨#[]⟩) ∧ w.cell? ⟨b, 5, none⟩ = some (.slice A 2 c) ∧ w.cell? ⟨b, 6, none⟩ = some (.int .i64 0) := h.cells
theorem box_zero (w : World) : ∃ w0, w.alloc (.cells #[.string ⟨#[]⟩, .string ⟨#[]⟩, .int .i64 0, .int .i64 0, .string ⟨#[]⟩, .slice none 0 0, .int .i64 0] 57) = w0 ∧ Own7 w0 w.heap.size zeroEx ∧ Below w.heap.size w w0 :=
  ⟨_, rfl, own7_new w zeroEx, belowNew' _ _⟩
def FactSays (w : World) (r : Ending) (w' : World) : Prop := ∃ x : Ex, r = .returned (.tuple #[exV x, .nilIface]) ∧ x.op = ⟨#[118, 97, 108]⟩ ∧ x.val.n = 5 ∧ Below w.heap.size w w'
theorem fact_any (A C : Option Addr) (c q : Nat) (w : World) (hT : Tables w) (hC : SeesCols w C 1 q colsF) (he : SeesEx w (sumF A c)) : Calls Tryd.prog 19 #[.agg #[.string ⟨#[43]⟩, .string ⟨#[]⟩, .int .i64 0, .int .i64 0, .string ⟨#[]⟩, .slice A 2 c, .int .i64 0], .slice C 1 q] w (FactSays w) := by
  refine (foldFn_any (sumF A c) C 1 q colsF w hT hC (by intro x hx; simp [colsF] at hx; subst hx; exact (show (1 : Nat) ≤ maxLen by decide)) he).mono ?_
  rintro r w' (⟨h, -, -⟩ | ⟨-, x, rfl, -, h2, h3⟩)
  · exact absurd (sumF_type A c) h
  · exact ⟨x, rfl, (fact_is h2).1, (fact_is h2).2, h3⟩
theorem checkZero_any (x : Ex) (w : World) (hT : Tables w) (he : SeesEx w x) (h : checkErr x = 0) : Calls Tryd.prog 22 #[.agg #[.string x.op, .string x.name, .int .i64 x.val.type, .int .i64 x.val.n, .string x.val.s, .slice x.A x.args.length x.c, .int .i64 x.pos]] w fun e w' => e = .returned .nilIface ∧ Below w.heap.size w w' := by
  have := check_any x w hT.lev hT.words he
  unfold NodeSays at this
  rw [h, errV_zero] at this
  exact this
theorem sizeEx_any (x : Ex) (w : World) (he : SeesEx w x) (k : Int) (h : exSize x = k) : Calls Tryd.prog 21 #[.agg #[.string x.op, .string x.name, .int .i64 x.val.type, .int .i64 x.val.n, .string x.val.s, .slice x.A x.args.length x.c, .int .i64 x.pos]] w fun e w' => e = .returned (.int .i64 k) ∧ Below w.heap.size w w' := by
  rw [← h]
  exact tsize_any _ x (Nat.le_refl _) w he
theorem sameEx_any (x y : Ex) (w : World) (hx : SeesEx w x) (hy : SeesEx w y) (h : strip x = strip y) : Calls Tryd.prog 20 #[.agg #[.string x.op, .string x.name, .int .i64 x.val.type, .int .i64 x.val.n, .string x.val.s, .slice x.A x.args.length x.c, .int .i64 x.pos], .agg #[.string y.op, .string y.name, .int .i64 y.val.type, .int .i64 y.val.n, .string y.val.s, .slice y.A y.args.length y.c, .int .i64 y.pos]] w fun e w' => e = .returned (.bool true) ∧ Below w.heap.size w w' :=
  same_any _ x y (Nat.le_refl _) h w hx hy
theorem wpList_store3 {ops : Array Oper} {rest : List Oper} {o : Oper} {a : Act} {w : World} {Q : Exit → Act → World → Prop} (hg : o.guard = none) (x y : Operand) (ho : o.op = .store 54 x y) {b : Nat} {u v : Val}
    (hown : Own3 w b u) (hx : a.eval x = .pointer (some ⟨b, 0, none⟩)) (hy : a.eval y = .agg #[.int .i64 v.type, .int .i64 v.n, .string v.s])
    (h : ∀ w', Own3 w' b v → (∀ B w0, Below B w0 w → B ≤ b → Below B w0 w') → wpList Tryd.prog ops Q rest (a.put o.dst undef) w') : wpList Tryd.prog ops Q (o :: rest) a w :=
  wpList_store_row hg _ x y ho b _ hx hy 54 _ hown (by kernel_rfl) rfl (by rw [← Array.all_toList]; rfl)
    (h _ (setRow_heap w b _ _ _ _ hown) (fun B w0 hb hB => below_setRow hb hB _))
theorem box_noVal (w : World) : ∃ w0, w.alloc (.cells #[.int .i64 0, .int .i64 0, .string ⟨#[]⟩] 54) = w0 ∧ Own3 w0 w.heap.size noVal ∧ Below w.heap.size w w0 := ⟨_, rfl, own3_new w noVal, belowNew' _ _⟩
def UsesOk (e : Ex) (w : World) (r : Ending) (w' : World) : Prop := ∃ A n c l, r = .returned (.tuple #[.slice A n c, .nilIface]) ∧ Sees w' A n c 1 (strCells l) ∧ (∀ b : ByteArray, b ∈ l ↔ b ∈ exNames e) ∧ Below w.heap.size w w'
theorem usesOk_any (e : Ex) (w : World) (hT : Tables w) (he : SeesEx w e) (h : checkErr e = 0) : Calls Tryd.prog 23 #[.agg #[.string e.op, .string e.name, .int .i64 e.val.type, .int .i64 e.val.n, .string e.val.s, .slice e.A e.args.length e.c, .int .i64 e.pos]] w (UsesOk e w) := by
  refine Calls.mono (uses_any e w hT.lev hT.words he) ?_
  rintro r w' (⟨h1, -, -⟩ | ⟨-, A, n, c, ss, rfl, h2, h3, h4, -⟩)
  · exact absurd h h1
  · refine ⟨A, n, c, _, rfl, h2, fun b => ?_, h4⟩
    unfold sortedOf
    rw [List.mem_map]
    constructor
    · rintro ⟨x, hx, rfl⟩
      exact (h3 x).1 ((List.mergeSort_perm _ _).mem_iff.1 hx)
    · intro hb
      refine ⟨b.data.toList, (List.mergeSort_perm _ _).mem_iff.2 ((h3 _).2 (by rw [mkB_data]; exact hb)), mkB_data b⟩
theorem txt_at {w : World} {A : Option Addr} {n c : Nat} {zs : List ByteArray} (h : Sees w A n c 1 (strCells zs)) {k : Nat} (hk : k < n) :
    ∃ g o z, A = some ⟨g, o, none⟩ ∧ zs[k]? = some z ∧ w.cell? ⟨g, o + k, none⟩ = some (.string z) := by
  obtain ⟨g, o, u, e, hu, hc⟩ := h.at_ hk
  obtain ⟨z, hz, rfl⟩ := strCells_at hu
  exact ⟨g, o, z, e, hz, hc⟩
theorem txt_len {w : World} {A : Option Addr} {n c : Nat} {zs : List ByteArray} (h : Sees w A n c 1 (strCells zs)) : zs.length = n := by have := h.1; simpa [strCells] using this
theorem any_next {L : List ByteArray} {i : Nat} {x b : ByteArray} (h : L[i]? = some x) : (L.take (i + 1)).any (fun s => s.toList == b.toList) = ((L.take i).any (fun s => s.toList == b.toList) || (x.toList == b.toList)) := by
  rw [List.take_add_one, h, List.any_append]
  simp
set_option maxHeartbeats 8000000 in
set_option maxRecDepth 100000 in
theorem walk (e : Ex) (C : Option Addr) (p q : Nat) (cols : List Col) (R : Option Addr) (y z : Nat) (r : List Val) (W : World) (hT : Tables W) (he : SeesEx W e) (hC : SeesCols W C p q cols) (hs : ∀ x ∈ cols, x.name.size ≤ maxLen) (hR : SeesVals W R y z r) (hwr : ∀ v ∈ r, v.wf) :
    Calls Tryd.prog 5 #[exV e, .slice C p q, .slice R y z] W fun e W' => e = .returned (.bool true) ∧ Below W.heap.size W W' := by
  obtain ⟨w0, hw0, ho0, hb0, -⟩ := box_ex W e
  have HOE := Lib.hid ho0
  have HB0 := Lib.hid hb0
  have HT := Lib.hid (fun (w' : World) (hb : Below w0.heap.size w0 w') => (hT.keep hb0).keep hb)
  have HE := Lib.hid (fun (w' : World) (hb : Below w0.heap.size w0 w') => (he.keep hb0).keep hb)
  have TF := Lib.hid (fun (x : Ex) (w' : World) (hb : Below w0.heap.size w0 w') (hx : SeesEx w' x) => foldFn_any x C p q cols w' (HT.out w' hb) ((hC.keep hb0).keep hb) hs hx)
  have TV := Lib.hid (fun (x : Ex) (w' : World) (hb : Below w0.heap.size w0 w') (hx : SeesEx w' x) => eval_any x C R p q y z cols r w' (HT.out w' hb) ((hC.keep hb0).keep hb) hs ((hR.keep hb0).keep hb) hwr hx)
  have HSH := Lib.hid (fun (h : (typeOf cols e).h = 0) (x : Ex) (h2 : strip x = strip (foldE e)) => short_of h (wf_of_sees he) h2)
  have HWR := Lib.hid hwr
  obtain ⟨wc, hwc⟩ : ∃ wc, w0.alloc (.cells #[.string ⟨#[120]⟩, .int .i64 1] 60) = wc := ⟨_, rfl⟩
  have hbc : Below w0.heap.size w0 wc := by rw [← hwc]; exact belowNew' _ _
  have hsc : SeesCols wc (some ⟨w0.heap.size, 0, none⟩) 1 1 colsF := by rw [← hwc]; exact ⟨rfl, seesNew w0 (colsCells colsF) _ 1 2 rfl (by decide)⟩
  obtain ⟨wt, hwt⟩ : ∃ wt, wc.alloc (.cells #[.string ⟨#[118, 97, 108]⟩, .string ⟨#[]⟩, .int .i64 1, .int .i64 2, .string ⟨#[]⟩, .slice none 0 0, .int .i64 0, .string ⟨#[118, 97, 108]⟩, .string ⟨#[]⟩, .int .i64 1, .int .i64 3, .string ⟨#[]⟩, .slice none 0 0, .int .i64 0] 57) = wt := ⟨_, rfl⟩
  have hbt : Below wc.heap.size wc wt := by rw [← hwt]; exact belowNew' _ _
  have hst : Sees wt (some ⟨wc.heap.size, 0, none⟩) 2 2 7 (exsCells [valF 2, valF 3]) := by rw [← hwt]; exact seesNew wc (exsCells [valF 2, valF 3]) _ 2 7 rfl (by decide)
  obtain ⟨wz, hwz⟩ : ∃ wz, wt.alloc (.cells #[.string ⟨#[]⟩, .string ⟨#[]⟩, .int .i64 0, .int .i64 0, .string ⟨#[]⟩, .slice none 0 0, .int .i64 0] 57) = wz := ⟨_, rfl⟩
  have hbz : Below wt.heap.size wt wz := by rw [← hwz]; exact belowNew' _ _
  have hoz : Own7 (wt.alloc (.cells #[.string ⟨#[]⟩, .string ⟨#[]⟩, .int .i64 0, .int .i64 0, .string ⟨#[]⟩, .slice none 0 0, .int .i64 0] 57)) wt.heap.size zeroEx := own7_new wt zeroEx
  rw [hwz] at hoz
  have leafV : ∀ (n : Int) (w : World), fits n → SeesEx w (valF n) := fun n w hn => .mk (Sees.nil w 7) (show (3 : Nat) ≤ maxLen by decide) (Nat.zero_le _) ⟨show fits 1 by decide, hn, Nat.zero_le _⟩ (show fits 0 by decide) (fun a h => by cases h)
  have hse : SeesEx wt (sumF (some ⟨wc.heap.size, 0, none⟩) 2) := .mk hst (show (1 : Nat) ≤ maxLen by decide) (Nat.zero_le _) ⟨show fits 0 by decide, show fits 0 by decide, Nat.zero_le _⟩ (show fits 0 by decide) (fun a h => by
    have h' : a ∈ [valF 2, valF 3] := h
    simp only [List.mem_cons, List.not_mem_nil, or_false] at h'
    rcases h' with rfl | rfl
    · exact leafV 2 wt (show fits 2 by decide)
    · exact leafV 3 wt (show fits 3 by decide))
  have HSE := Lib.hid hse
  have HSC := Lib.hid (hsc.keep hbt)
  have HBZ := Lib.hid (below_step (below_step hbc hbt) hbz)
  have HBZT := Lib.hid hbz
  have HBT := Lib.hid (below_step hbc hbt)
  have HOZ := Lib.hid hoz
  have HW0 := Lib.hid hw0
  have HWC := Lib.hid hwc
  have HWT := Lib.hid hwt
  have HWZ := Lib.hid hwz
  have TFACT := Lib.hid (fun w1 (hb : Below w0.heap.size w0 w1) (hbt : Below wt.heap.size wt w1) => fact_any (some ⟨wc.heap.size, 0, none⟩) (some ⟨w0.heap.size, 0, none⟩) 2 1 w1 (HT.out w1 hb) (HSC.out.keep hbt) (HSE.out.keep hbt))
  unfold exV at TF TV
  unfold exV
  clear hT he hC hs hR hwr ho0 hb0 hw0 hbc hsc hwc hbt hst hwt hbz hoz hwz leafV hse
  go_enter Tryd.func5, Tryd.ntmps5
  go_wp2_with (first
    | rw [HW0.out]
    | rw [HWC.out]
    | rw [HWT.out]
    | rw [HWZ.out]
    | (refine wpList_store7 rfl (.tmp 8) (.tmp 33) rfl (X := sumF (some ⟨wc.heap.size, 0, none⟩) 2) HOZ.out rfl (by rfl) ?_; intro w1 ho1 hb1 ha1 hs1; obtain ⟨c0, c1, c2, c3, c4, c5, c6⟩ := sum_cells ho1; have HB1 := Lib.hid (hb1 _ _ HBZ.out HBT.out.size); have T1 := Lib.hid (TFACT.out w1 HB1.out (hb1 _ _ HBZT.out (Nat.le_refl _))); clear ho1 hb1 ha1 hs1))
  refine (T1.out).mono ?_
  rintro e' w2 ⟨x0, rfl, hx0, hn0, hb2⟩
  have HB2 := Lib.hid (HB1.out.trans (hb2.mono HB1.out.size))
  obtain ⟨w3, hw3, ho3, hb3⟩ := box_zero w2
  have HW3 := Lib.hid hw3
  have HO3 := Lib.hid ho3
  have HB3 := Lib.hid (HB2.out.trans (hb3.mono HB2.out.size))
  have HX0 := Lib.hid hx0
  have HN0 := Lib.hid hn0
  clear hb2 hb3 ho3 hw3 hx0 hn0 c0 c1 c2 c3 c4 c5 c6 T1 TFACT HSE HSC HBZ HBZT HBT HOZ HW0 HWC HWT HWZ
  go_wp2_with (first
    | rw [HW3.out]
    | (refine wpList_store7 rfl (.tmp 9) (.tmp 38) rfl (X := x0) HO3.out rfl (by rfl) ?_; intro w4 ho4 hb4 ha4 hs4; obtain ⟨c0, -, -, c3, -, -, -⟩ := ho4.cells; rw [HX0.out] at c0; rw [HN0.out] at c3; have HB4 := Lib.hid (hb4 _ _ HB3.out HB2.out.size); obtain ⟨d0, d1, d2, d3, d4, d5, d6⟩ := (HOE.out.keep HB4.out).cells; have T2 := Lib.hid (TF.out e w4 HB4.out (HE.out w4 HB4.out)); clear ho4 hb4 ha4 hs4))
  refine (T2.out).mono ?_
  rintro e' w5 (⟨hk, rfl, hb5⟩ | ⟨hk, x, rfl, hsx, hstr, hb5⟩)
  · rw [errV_ne hk]
    have HB5 := Lib.hid (HB4.out.trans (hb5.mono HB4.out.size))
    obtain ⟨w6, hw6, ho6, hb6⟩ := box_zero w5
    have HW6 := Lib.hid hw6
    have HO6 := Lib.hid ho6
    have HB6 := Lib.hid (HB5.out.trans (hb6.mono HB5.out.size))
    have qk : ((typeOf cols e).h == 0) = false := by simpa using hk
    generalize (typeOf cols e).h = k at *
    clear hb5 hb6 ho6 hw6 hk T2 HW3 HO3 HB3 TV HSH HWR TF HT HE
    unfold exV zeroEx
    go_wp2_with (first
      | rw [HW6.out]
      | (refine wpList_store7 rfl (.tmp 11) (.tmp 57) rfl (X := zeroEx) HO6.out rfl (by rfl) ?_; intro w7 ho7 hb7 ha7 hs7; have HB7 := Lib.hid (hb7 _ _ HB6.out HB5.out.size); clear ho7 hb7 ha7 hs7))
    go_ret
    exact ⟨rfl, HB0.out.trans (HB7.out.mono HB0.out.size)⟩
  · have HS1 := Lib.hid (HSH.out hk x hstr)
    have HK := Lib.hid hk
    have HB5 := Lib.hid (HB4.out.trans (hb5.mono HB4.out.size))
    obtain ⟨w6, hw6, ho6, hb6⟩ := box_zero w5
    have HW6 := Lib.hid hw6
    have HO6 := Lib.hid ho6
    have HB6 := Lib.hid (HB5.out.trans (hb6.mono HB5.out.size))
    have HB56 := Lib.hid hb6
    have HX5 := Lib.hid hsx.see
    rw [errV_zero]
    clear hb5 hb6 ho6 hw6 hk T2 HW3 HO3 HB3 hsx hstr
    go_wp2_with (first
      | rw [HW6.out]
      | (refine wpList_store7 rfl (.tmp 11) (.tmp 57) rfl (X := x) HO6.out rfl (by rfl) ?_; intro w7 ho7 hb7 ha7 hs7; obtain ⟨x0, x1, x2, x3, x4, x5, x6⟩ := ho7.cells; have HB7 := Lib.hid (hb7 _ _ HB6.out HB5.out.size); have HX7 := Lib.hid (HX5.out.keep (hb7 _ _ HB56.out (Nat.le_refl _))); have HOX7 := Lib.hid ho7; have T3 := Lib.hid (TF.out x w7 HB7.out HX7.out); clear ho7 hb7 ha7 hs7))
    refine (T3.out).mono ?_
    rintro e' w8 (⟨hk2, -, -⟩ | ⟨-, y', rfl, hsy, hstr2, hb8⟩)
    · exact absurd HS1.out.ty hk2
    have HB8 := Lib.hid (HB7.out.trans (hb8.mono HB7.out.size))
    obtain ⟨w9, hw9, ho9, hb9⟩ := box_zero w8
    have HW9 := Lib.hid hw9
    have HO9 := Lib.hid ho9
    have HB9 := Lib.hid (HB8.out.trans (hb9.mono HB8.out.size))
    have HB89 := Lib.hid hb9
    have HB79 := Lib.hid (below_step hb8 hb9)
    have HL78 := Lib.hid hb8.size
    have HY8 := Lib.hid hsy.see
    have HXY := Lib.hid (show strip x = strip y' from (hstr2.trans HS1.out.again).symm)
    rw [errV_zero]
    clear hb8 hb9 ho9 hw9 T3 hsy hstr2 x0 x1 x2 x3 x4 x5 x6 d0 d1 d2 d3 d4 d5 d6 c0 c3
    go_wp2_with (first
      | rw [HW9.out]
      | (refine wpList_store7 rfl (.tmp 13) (.tmp 65) rfl (X := y') HO9.out rfl (by rfl) ?_; intro w10 ho10 hb10 ha10 hs10; have HB10 := Lib.hid (hb10 _ _ HB9.out HB8.out.size); have HB710 := Lib.hid (hb10 _ _ HB79.out HL78.out); have HY10 := Lib.hid (HY8.out.keep (hb10 _ _ HB89.out (Nat.le_refl _))); have HX10 := Lib.hid (HX7.out.keep HB710.out); have HOX := Lib.hid (HOX7.out.keep HB710.out); have HOY := Lib.hid ho10; have HOE10 := Lib.hid (HOE.out.keep HB10.out); clear ho10 hb10 ha10 hs10;
          obtain ⟨x0, x1, x2, x3, x4, x5, x6⟩ := HOX.out.cells; obtain ⟨y0, y1, y2, y3, y4, y5, y6⟩ := HOY.out.cells; obtain ⟨d0, d1, d2, d3, d4, d5, d6⟩ := HOE10.out.cells))
    have hgt : ¬ exSize e < exSize x := by have := HS1.out.size; omega
    obtain ⟨se, hse⟩ : ∃ k, exSize e = k := ⟨_, rfl⟩
    obtain ⟨sx, hsx⟩ : ∃ k, exSize x = k := ⟨_, rfl⟩
    rw [hse, hsx] at hgt
    have TSX := Lib.hid (fun w' (hb : Below w10.heap.size w10 w') => sizeEx_any x w' (HX10.out.keep hb) sx hsx)
    have TSE := Lib.hid (fun w' (hb : Below w10.heap.size w10 w') => sizeEx_any e w' (HE.out w' (HB10.out.trans (hb.mono HB10.out.size))) se hse)
    have TSA := Lib.hid (fun w' (hb : Below w10.heap.size w10 w') => sameEx_any x y' w' (HX10.out.keep hb) (HY10.out.keep hb) HXY.out)
    have TCK := Lib.hid (fun w' (hb : Below w10.heap.size w10 w') => checkZero_any x w' (HT.out w' (HB10.out.trans (hb.mono HB10.out.size))) (HX10.out.keep hb) HS1.out.chk)
    have HBX := Lib.hid (show Below w10.heap.size w10 (w10.drew) from (Below.refl _ w10).drew)
    have q1 : decide (se < sx) = false := by simpa using hgt
    clear hse hsx hgt
    have HKEEP := Lib.hid (show ∀ w', Below w10.heap.size w10 w' → (fun w' : World => Below w10.heap.size w10 w' ∧ w'.cell? ⟨w5.heap.size, 0, none⟩ = some (.string x.op) ∧ w'.cell? ⟨w5.heap.size, 1, none⟩ = some (.string x.name) ∧ w'.cell? ⟨w5.heap.size, 2, none⟩ = some (.int .i64 x.val.type) ∧ w'.cell? ⟨w5.heap.size, 3, none⟩ = some (.int .i64 x.val.n) ∧ w'.cell? ⟨w5.heap.size, 4, none⟩ = some (.string x.val.s) ∧ w'.cell? ⟨w5.heap.size, 5, none⟩ = some (.slice x.A x.args.length x.c) ∧ w'.cell? ⟨w5.heap.size, 6, none⟩ = some (.int .i64 x.pos) ∧ w'.cell? ⟨w8.heap.size, 0, none⟩ = some (.string y'.op) ∧ w'.cell? ⟨w8.heap.size, 1, none⟩ = some (.string y'.name) ∧ w'.cell? ⟨w8.heap.size, 2, none⟩ = some (.int .i64 y'.val.type) ∧ w'.cell? ⟨w8.heap.size, 3, none⟩ = some (.int .i64 y'.val.n) ∧ w'.cell? ⟨w8.heap.size, 4, none⟩ = some (.string y'.val.s) ∧ w'.cell? ⟨w8.heap.size, 5, none⟩ = some (.slice y'.A y'.args.length y'.c) ∧ w'.cell? ⟨w8.heap.size, 6, none⟩ = some (.int .i64 y'.pos) ∧ w'.cell? ⟨W.heap.size, 0, none⟩ = some (.string e.op) ∧ w'.cell? ⟨W.heap.size, 1, none⟩ = some (.string e.name) ∧ w'.cell? ⟨W.heap.size, 2, none⟩ = some (.int .i64 e.val.type) ∧ w'.cell? ⟨W.heap.size, 3, none⟩ = some (.int .i64 e.val.n) ∧ w'.cell? ⟨W.heap.size, 4, none⟩ = some (.string e.val.s) ∧ w'.cell? ⟨W.heap.size, 5, none⟩ = some (.slice e.A e.args.length e.c) ∧ w'.cell? ⟨W.heap.size, 6, none⟩ = some (.int .i64 e.pos)) w' from fun w' hb => by
      obtain ⟨x0, x1, x2, x3, x4, x5, x6⟩ := (HOX.out.keep hb).cells
      obtain ⟨y0, y1, y2, y3, y4, y5, y6⟩ := (HOY.out.keep hb).cells
      obtain ⟨d0, d1, d2, d3, d4, d5, d6⟩ := (HOE10.out.keep hb).cells
      exact ⟨hb, x0, x1, x2, x3, x4, x5, x6, y0, y1, y2, y3, y4, y5, y6, d0, d1, d2, d3, d4, d5, d6⟩)
    clear x0 x1 x2 x3 x4 x5 x6 y0 y1 y2 y3 y4 y5 y6 d0 d1 d2 d3 d4 d5 d6
    go_region_held3 (fun w' : World => Below w10.heap.size w10 w' ∧ w'.cell? ⟨w5.heap.size, 0, none⟩ = some (.string x.op) ∧ w'.cell? ⟨w5.heap.size, 1, none⟩ = some (.string x.name) ∧ w'.cell? ⟨w5.heap.size, 2, none⟩ = some (.int .i64 x.val.type) ∧ w'.cell? ⟨w5.heap.size, 3, none⟩ = some (.int .i64 x.val.n) ∧ w'.cell? ⟨w5.heap.size, 4, none⟩ = some (.string x.val.s) ∧ w'.cell? ⟨w5.heap.size, 5, none⟩ = some (.slice x.A x.args.length x.c) ∧ w'.cell? ⟨w5.heap.size, 6, none⟩ = some (.int .i64 x.pos) ∧ w'.cell? ⟨w8.heap.size, 0, none⟩ = some (.string y'.op) ∧ w'.cell? ⟨w8.heap.size, 1, none⟩ = some (.string y'.name) ∧ w'.cell? ⟨w8.heap.size, 2, none⟩ = some (.int .i64 y'.val.type) ∧ w'.cell? ⟨w8.heap.size, 3, none⟩ = some (.int .i64 y'.val.n) ∧ w'.cell? ⟨w8.heap.size, 4, none⟩ = some (.string y'.val.s) ∧ w'.cell? ⟨w8.heap.size, 5, none⟩ = some (.slice y'.A y'.args.length y'.c) ∧ w'.cell? ⟨w8.heap.size, 6, none⟩ = some (.int .i64 y'.pos) ∧ w'.cell? ⟨W.heap.size, 0, none⟩ = some (.string e.op) ∧ w'.cell? ⟨W.heap.size, 1, none⟩ = some (.string e.name) ∧ w'.cell? ⟨W.heap.size, 2, none⟩ = some (.int .i64 e.val.type) ∧ w'.cell? ⟨W.heap.size, 3, none⟩ = some (.int .i64 e.val.n) ∧ w'.cell? ⟨W.heap.size, 4, none⟩ = some (.string e.val.s) ∧ w'.cell? ⟨W.heap.size, 5, none⟩ = some (.slice e.A e.args.length e.c) ∧ w'.cell? ⟨W.heap.size, 6, none⟩ = some (.int .i64 e.pos)) (first | exact HKEEP.out _ HBN.out | exact HKEEP.out _ HBX.out)
      (first
        | (go_at_call 20; refine (TSA.out _ (by first | exact HBN.out | exact HBX.out)).mono ?_; rintro e' wn ⟨rfl, hbn⟩; have HBN := Lib.hid (below_step (show Below w10.heap.size w10 _ by first | exact HBN.out | exact HBX.out) hbn))
        | (go_at_call_of 21 (Value.agg #[.string x.op, .string x.name, .int .i64 x.val.type, .int .i64 x.val.n, .string x.val.s, .slice x.A x.args.length x.c, .int .i64 x.pos]); refine (TSX.out _ (by first | exact HBN.out | exact HBX.out)).mono ?_; rintro e' wn ⟨rfl, hbn⟩; have HBN := Lib.hid (below_step (show Below w10.heap.size w10 _ by first | exact HBN.out | exact HBX.out) hbn))
        | (go_at_call_of 21 (Value.agg #[.string e.op, .string e.name, .int .i64 e.val.type, .int .i64 e.val.n, .string e.val.s, .slice e.A e.args.length e.c, .int .i64 e.pos]); refine (TSE.out _ (by first | exact HBN.out | exact HBX.out)).mono ?_; rintro e' wn ⟨rfl, hbn⟩; have HBN := Lib.hid (below_step (show Below w10.heap.size w10 _ by first | exact HBN.out | exact HBX.out) hbn))
        | (go_at_call 22; refine (TCK.out _ (by first | exact HBN.out | exact HBX.out)).mono ?_; rintro e' wn ⟨rfl, hbn⟩; have HBN := Lib.hid (below_step (show Below w10.heap.size w10 _ by first | exact HBN.out | exact HBX.out) hbn)))
    have HB11 := Lib.hid (HB10.out.trans (HBN.out.mono HB10.out.size))
    have TU1 := Lib.hid (usesOk_any e wn (HT.out wn HB11.out) (HE.out wn HB11.out) (typeOf_ok HK.out).2.2.1)
    obtain ⟨d0, d1, d2, d3, d4, d5, d6⟩ := (HOE10.out.keep HBN.out).cells
    go_wp2_with fail
    refine (TU1.out).mono ?_
    rintro e' w11 ⟨A1, n1, c1, la, rfl, hsa, hma, hb11⟩
    have HBY := Lib.hid (below_step HBN.out hb11)
    have HB12 := Lib.hid (HB10.out.trans (HBY.out.mono HB10.out.size))
    have TU2 := Lib.hid (usesOk_any x w11 (HT.out w11 HB12.out) (HX10.out.keep HBY.out) HS1.out.chk)
    clear d0 d1 d2 d3 d4 d5 d6
    obtain ⟨x0, x1, x2, x3, x4, x5, x6⟩ := (HOX.out.keep HBY.out).cells
    have HSA := Lib.hid hsa
    have HMA := Lib.hid hma
    clear hsa hma hb11 TU1
    go_wp2_with fail
    refine (TU2.out).mono ?_
    rintro e' w12 ⟨A2, n2, c2, lb, rfl, hsb, hmb, hb12⟩
    have HBZ := Lib.hid (below_step HBY.out hb12)
    have HSA2 := Lib.hid (HSA.out.keep hb12)
    have HSB2 := Lib.hid hsb
    have HIN := Lib.hid (show ∀ t ∈ lb, t ∈ la from fun t ht => (HMA.out t).2 (HS1.out.names t ((hmb t).1 ht)))
    have HLA := Lib.hid (txt_len HSA2.out)
    have HLB := Lib.hid (txt_len HSB2.out)
    have hca := HSA2.out.2.1
    have hcb := HSB2.out.2.1
    have hma := HSA2.out.2.2.1
    have hmb2 := HSB2.out.2.2.1
    unfold maxLen at hma hmb2
    clear hsb hmb hb12 TU2 x0 x1 x2 x3 x4 x5 x6
    go_wp2_with fail
    go_loopw [19, 20, 21] (fun i _ _ wr => ∃ j : Nat, j ≤ n2 ∧ i = .int .i64 j ∧ Below w12.heap.size w12 wr) (fun i _ _ _ => n2 - (intOf i).toNat)
    case atStart => exact ⟨0, Nat.zero_le _, rfl, Below.refl _ _⟩
    case round =>
      obtain ⟨j, hjn, rfl, hbr⟩ := hrel
      have HBR := Lib.hid hbr
      by_cases hj : j < n2
      · obtain ⟨g2, o2, t, rfl, ht, p2⟩ := txt_at (HSB2.out.keep hbr) hj
        have HTA := Lib.hid (show la.any (fun s => s.toList == t.toList) = true from List.any_eq_true.2 ⟨t, HIN.out t (List.mem_of_getElem? ht), by simp⟩)
        have P2 := Lib.hid p2
        have HG2 := Lib.hid (World.block_lt_of_cell? wr _ p2)
        clear ht p2 hbr
        obtain ⟨wo, hwo⟩ : ∃ wo, wo = wr := ⟨_, rfl⟩
        subst hwo
        go_wp2_with fail
        go_loopw [20, 21] (fun u v wx => ∃ k : Nat, k ≤ n1 ∧ u = .bool ((la.take k).any (fun s => s.toList == t.toList)) ∧ v = .int .i64 k ∧ Below wo.heap.size wo wx) (fun _ v _ => n1 - (intOf v).toNat)
        case atStart => exact ⟨0, Nat.zero_le _, rfl, rfl, Below.refl _ _⟩
        case round =>
          obtain ⟨k, hkn, rfl, rfl, hbx⟩ := hrel
          have HBX2 := Lib.hid hbx
          by_cases hk1 : k < n1
          · obtain ⟨g1, o1, z1, rfl, hz1, p1⟩ := txt_at ((HSA2.out.keep HBR.out).keep hbx) hk1
            have p2 := (hbx.cell HG2.out).trans P2.out
            have NX := Lib.hid (any_next (b := t) hz1)
            generalize (la.take k).any (fun s => s.toList == t.toList) = u at *
            clear hz1 hbx
            cases u
            all_goals
              go_wp2_with fail
              go_quiet (fail)
              go_wp2_with fail
              go_roundw
              case rel => exact ⟨k + 1, by omega, by rw [NX.out]; rfl, by go_num, by repeat (first | exact HBX2.out | refine below_drewN ?_ _ | refine Below.drew ?_)⟩
              case measure => simp [intOf]; omega
          · obtain rfl : n1 = k := by omega
            rw [List.take_of_length_le (by rw [HLA.out]; exact Nat.le_refl _), HTA.out]
            clear hbx
            go_wp2_with fail
            go_roundw
            case rel => exact ⟨j + 1, by omega, by go_num, below_step HBR.out HBX2.out⟩
            case measure => simp [intOf]; omega
      · obtain rfl : n2 = j := by omega
        clear hbr
        have HBQ := Lib.hid (HB10.out.trans ((below_step HBZ.out HBR.out).mono HB10.out.size))
        have HBQ10 := Lib.hid (below_step HBZ.out HBR.out)
        have TV1 := Lib.hid (TV.out e wr HBQ.out (HE.out wr HBQ.out))
        have HEV := Lib.hid (HS1.out.ev r HWR.out)
        unfold EvSays valV at TV1
        obtain ⟨d0, d1, d2, d3, d4, d5, d6⟩ := (HOE10.out.keep HBQ10.out).cells
        go_wp2_with fail
        refine (TV1.out).mono ?_
        rintro e' w13 ⟨rfl, hb13⟩
        have HB13 := Lib.hid (below_step HBQ10.out hb13)
        obtain ⟨w14, hw14, ho14, hb14⟩ := box_noVal w13
        have HW14 := Lib.hid hw14
        have HO14 := Lib.hid ho14
        have HB14 := Lib.hid (below_step HB13.out hb14)
        have HL13 := Lib.hid (show w10.heap.size ≤ w13.heap.size from HB13.out.size)
        clear hb13 hw14 ho14 hb14 TV1 d0 d1 d2 d3 d4 d5 d6
        go_wp2_with (first
          | rw [HW14.out]
          | (refine wpList_store3 rfl (.tmp 22) (.tmp 128) rfl (v := (evalR cols r e).v) HO14.out rfl (by rfl) ?_; intro w15 ho15 hb15; have HO15 := Lib.hid ho15; have HB15 := Lib.hid (hb15 _ _ HB14.out HL13.out); have HB015 := Lib.hid (HB10.out.trans (HB15.out.mono HB10.out.size)); have TV2 := Lib.hid (TV.out x w15 HB015.out (HX10.out.keep HB15.out)); rw [HEV.out] at TV2; unfold EvSays valV at TV2; obtain ⟨x0, x1, x2, x3, x4, x5, x6⟩ := (HOX.out.keep HB15.out).cells; clear ho15 hb15))
        refine (TV2.out).mono ?_
        rintro e' w16 ⟨rfl, hb16⟩
        have HO16 := Lib.hid (HO15.out.keep hb16)
        have HB16 := Lib.hid (below_step HB15.out hb16)
        obtain ⟨w17, hw17, ho17, hb17⟩ := box_noVal w16
        have HW17 := Lib.hid hw17
        have HO17 := Lib.hid ho17
        have HB17 := Lib.hid (below_step HB16.out hb17)
        have HB1517 := Lib.hid (below_step hb16 hb17)
        have HL16 := Lib.hid (show w10.heap.size ≤ w16.heap.size from HB16.out.size)
        have HL15 := Lib.hid (show w15.heap.size ≤ w16.heap.size from hb16.size)
        clear hb16 hw17 ho17 hb17 TV2 x0 x1 x2 x3 x4 x5 x6
        go_wp2_with (first
          | rw [HW17.out]
          | (refine wpList_store3 rfl (.tmp 24) (.tmp 135) rfl (v := (evalR cols r e).v) HO17.out rfl (by rfl) ?_; intro w18 ho18 hb18; have HB18 := Lib.hid (hb18 _ _ HB17.out HL16.out); have hbk := hb18 _ _ HB1517.out HL15.out; obtain ⟨c0, c1, c2, -, -, -, -⟩ := (HO15.out.keep hbk).cells; obtain ⟨f0, f1, f2, -, -, -, -⟩ := ho18.cells; clear ho18 hb18 hbk))
        generalize (evalR cols r e).v.type = vt at *
        generalize (evalR cols r e).v.n = vn at *
        generalize (evalR cols r e).v.s = vs at *
        by_cases hv : (evalR cols r e).k = 0
        · rw [hv, errV_zero]
          go_quiet (fail)
          go_wp2_with fail
          go_ret
          exact ⟨rfl, HB0.out.trans ((HB10.out.trans ((below_drewN HB18.out nq).mono HB10.out.size)).mono HB0.out.size)⟩
        · rw [errV_ne hv]
          generalize (evalR cols r e).k = vk at *
          go_quiet (fail)
          go_wp2_with fail
          go_ret
          exact ⟨rfl, HB0.out.trans ((HB10.out.trans ((below_drewN HB18.out nq).mono HB10.out.size)).mono HB0.out.size)⟩

set_option maxRecDepth 100000 in
theorem contract (H : Type) (enc : TypeId × Value → H) (W : World) (base : Nat) (args : Array Value) (ds gs : List (DataW H)) (before : List MemPlace)
    (hval : ∀ (j : Nat) t v, Tryd.f5.params[j]? = some t → args[j]? = some v → Value.okWide Tryd.prog W .any base t v)
    (hW : DataW.Whole enc Tryd.prog Tryd.f5.params.toList Rows.foldSameSpec.vars false W args.toList ds gs before)
    (hsz : (DataW.weightsEach Tryd.prog (Tryd.f5.params.toList ++ (OpenSpec.ofChange Rows.foldSameSpec).bare.plain.varTypes Tryd.prog) (ds ++ gs)).all (· ≤ reachBytes) = true) (hL : laidMetH Tryd.prog Rows.foldSameRow.laid W) :
    Calls Tryd.prog 5 args W fun e W' => ∃ v, e = .returned v ∧ Rows.foldSameSpec.post enc Tryd.prog Tryd.f5 false true false false W args v W' := by
  have hW' := hW
  obtain ⟨p, q, hA0, hV, rfl, hfz, hnd⟩ := hW
  have hA : DataW.TrodAll enc Tryd.prog W 0 (fun _ => true) true Tryd.f5.params.toList args.toList ds p := hA0
  rw [Tryd.params5] at hA hval
  obtain ⟨v0, vs0, d0, ds0, p0, q0, hargs, rfl, rfl, h0, r0⟩ := trodAll_cons hA
  obtain ⟨v1, vs1, d1, ds1, p1, q1, rfl, rfl, rfl, h1, r1⟩ := trodAll_cons r0
  obtain ⟨v2, vs2, d2, ds2, p2, q2, rfl, rfl, rfl, h2, r2⟩ := trodAll_cons r1
  obtain ⟨rfl, rfl, rfl⟩ := trodAll_nil r2
  obtain rfl : args = #[v0, v1, v2] := by cases args; simp_all
  obtain ⟨rfl, rfl⟩ := trodVars_none hV
  have hv0 := hval 0 57 v0 rfl rfl
  have hv1 := hval 1 58 v1 rfl rfl
  have hv2 := hval 2 28 v2 rfl rfl
  obtain ⟨e, rfl, he⟩ := open_ex hv0 h0
  obtain ⟨C, p, q, cols, rfl, hC, hcs⟩ := open_cols (okWide_slice Tryd.underlying58 hv1) h1
  obtain ⟨R, y, z, r, rfl, hR, hwr⟩ := open_vals (okWide_slice Tryd.underlying28 hv2) h2
  have hL0 : laidMet Tryd.prog Rows.foldSameRow.laid W := hL
  refine (walk e C p q cols R y z r W ⟨levelsT_of hL0 (.tail _ (.head _)), opsT_of hL0 (.tail _ (.tail _ (.head _))), wordsT_of hL0 (.head _)⟩ he hC (fun x hx => (hcs x hx).1) hR hwr).mono fun e W' ⟨he, hb⟩ => ?_
  subst he
  exact ⟨_, rfl, law_post laidOut Tryd.underlying4 (by kernel_rfl) rfl (by rw [Tryd.params5]; intro t ht; simp only [List.mem_cons, List.not_mem_nil, or_false] at ht; rcases ht with rfl | rfl | rfl; all_goals exact ⟨by kernel_rfl, of_decide_eq_true (by kernel_rfl)⟩) hW' rfl hb⟩

theorem reads (os : Os) {H : Type} (enc : TypeId × Value → H) : ∃ places, DataW.whole enc Tryd.prog ((World.doorLaid Tryd.prog 4000 os).forCall (fun _ _ => 0) ⟨#[], #[.agg #[.string .empty, .string .empty, .int .i64 0, .int .i64 0, .string .empty, .slice none 0 0, .int .i64 0], .slice none 0 0, .slice none 0 0], []⟩).memory Tryd.f5.params.toList Rows.foldSameSpec.vars false (#[.agg #[.string .empty, .string .empty, .int .i64 0, .int .i64 0, .string .empty, .slice none 0 0, .int .i64 0], .slice none 0 0, .slice none 0 0] : Array Value).toList 8 = some ([.agg [.lit (.string []), .lit (.string []), .agg [.lit (.int .i64 0), .lit (.int .i64 0), .lit (.string [])], .nil, .lit (.int .i64 0)], .nil, .nil], [], places) :=
  ⟨[], by kernel_rfl⟩

set_option maxRecDepth 100000 in
theorem lifted (os : Os) (started : os.Started) (H : Type) (enc : TypeId × Value → H) (F : Stop.Interp) :
    ReturnsInHanded {} Tryd.checked os 5 .any ((OpenSpec.ofChange Rows.foldSameSpec).preRow enc Tryd.prog Tryd.f5 Rows.foldSameRow.domain false Rows.foldSameRow.laid) (((OpenSpec.ofChange Rows.foldSameSpec).at F).post enc Tryd.prog Tryd.f5 false true false false) := by
  obtain ⟨places, hx⟩ := reads os enc
  refine returnsInHanded_of_row (C := Tryd.checked) (s := OpenSpec.ofChange Rows.foldSameSpec) own started (by kernel_rfl) Tryd.func5
    (witness_row_atRef (enc := enc) (C := Tryd.checked) false (World.doorLaid Tryd.prog 4000 os) #[.agg #[.string .empty, .string .empty, .int .i64 0, .int .i64 0, .string .empty, .slice none 0 0, .int .i64 0], .slice none 0 0, .slice none 0 0] rfl (by kernel_rfl) (by kernel_rfl) (by kernel_rfl)
      (OpenSpec.preRow_of_cond 8 hx (by kernel_rfl) (fun k hk => by cases hk) (by kernel_rfl) (laidMet_of_run' 12 (by kernel_rfl) (by kernel_rfl)))) ?_
  intro W base args ds gs before hval hW _ _ hsz hL _ _
  exact contract H enc W base args ds gs before hval hW hsz hL

theorem said : Rows.FoldSameSaid :=
  OpenClaim.holds_of_cond 5 Tryd.f5 rfl rfl rfl rfl rfl rfl rfl ⟨rfl, rfl, rfl, rfl, rfl⟩ rfl rfl rfl rfl rfl (by kernel_rfl) Tryd.func5 (by kernel_rfl)
    (of_decide_eq_true (by kernel_rfl)) (by unfold Func.isWrapper; first | (rw [if_pos (by decide +kernel)]; kernel_rfl) | (rw [if_neg (by decide +kernel)]; exact ⟨rfl, rfl⟩))
    (fun os started H enc _ F => by rw [OpenClaim.pre_eq_preRow]; exact lifted os started H enc F)

theorem plain (f : FuncId) (fn : Func) (hf : Tryd.pinned.checked.prog.funcNamed "sluicebook/sluicelaw2.FoldSame" = some f) (hfn : Tryd.pinned.checked.prog.funcs[f]? = some fn) :
    true = Tryd.pinned.checked.prog.looks [] ∧ ∀ (j : Nat) t, fn.params[j]? = some t → Tryd.pinned.checked.prog.wantsStandIn t = false := by
  obtain rfl : f = 5 := Option.some.inj ((show Tryd.prog.funcNamed "sluicebook/sluicelaw2.FoldSame" = some 5 by kernel_rfl).symm.trans hf) |>.symm
  obtain rfl : fn = Tryd.f5 := (Option.some.inj (Tryd.func5.symm.trans hfn)).symm
  refine ⟨by kernel_rfl, fun j t ht => ?_⟩
  rw [Tryd.params5] at ht
  have hm := Array.mem_of_getElem? ht
  simp only [List.mem_toArray, List.mem_cons, List.not_mem_nil, or_false] at hm
  rcases hm with rfl | rfl | rfl
  · exact (show Tryd.prog.wantsStandIn 57 = false by kernel_rfl)
  · exact (show Tryd.prog.wantsStandIn 58 = false by kernel_rfl)
  · exact (show Tryd.prog.wantsStandIn 28 = false by kernel_rfl)

theorem card : Rows.FoldSameCardSaid :=
  Claim7.holds_tied_plain_at .later [] _ _ _ _ said (fun _ h => by cases h) (by kernel_rfl) (fun _ h => by cases h) foldSame_row_tie rfl ⟨rfl, rfl⟩ (by kernel_rfl) rfl plain (by kernel_rfl)
#print axioms card
end Go.Proofs.YtpbbkpfaphjdoaaDoor.foldSame
