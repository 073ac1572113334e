/- QueryNames: the walk of the law. -/
import Derived.Test.YtpbbkpfaphjdoabGreatDoorSOpenQry
import Derived.Test.YtpbbkpfaphjdoabGreatDoorSBackLaw
import Derived.Test.YtpbbkpfaphjdoabGreatDoorSQryParse
import Derived.Test.YtpbbkpfaphjdoabGreatDoorSTold
import Derived.Test.YtpbbkpfaphjdoabGreatDoorCards
import Derived.Test.YtpbbkpfaphjdoabGreatDoorTie
import Derived.LaidLaws
import Derived.LaidMore
import Derived.LaidHandle
import Derived.Stop.Joined
import Derived.SevenTiedAt
import Derived.Deep.DeepWitnessRowRef
import Derived.Deep.DeepHandedRow
namespace Go.Proofs.YtpbbkpfaphjdoabGreatDoor.queryNames
open Go.ChangeShapes Go.WideShapes Go.ChangeAt Go.RowKit Go.Proofs.YtpbbkpfaphjdoabGreatDoor
theorem own2f_setN {w : World} {b : Nat} {h p : Int} (hw : Own2F w b 0 0) : Own2F ((w.setCell ⟨b, 0, none⟩ (.int .i64 h)).setCell ⟨b, 1, none⟩ (.int .i64 p)) b h p := by
 unfold Own2F
 have h1 : (w.setCell ⟨b, 0, none⟩ (.int .i64 h)).heap[b]? = some (.cells #[.int .i64 h, .int .i64 0] 64 (0, 0)) := by
  rw [heap_setCell_same _ _ _ _ _ _ hw]; rfl
 rw [heap_setCell_same _ _ _ _ _ _ h1]
 rfl
theorem alloc_sizeN (w : World) (o : Obj) : (w.alloc o).heap.size = w.heap.size + 1 := by show (w.heap.push _).size = _; exact Array.size_push _
theorem pair_boxQ (wr : World) (y : QX) (h q : Int) : ∃ ws wt0 wt, wr.alloc (.cells #[.string y.from_, .string y.wher.op, .string y.wher.name, .int .i64 y.wher.val.type, .int .i64 y.wher.val.n, .string y.wher.val.s, .slice y.wher.A y.wher.args.length y.wher.c, .int .i64 y.wher.pos, .slice y.CA y.cols.length y.cc, .slice y.NA y.names.length y.nc, .slice y.GA y.group.length y.gc, .int .i64 y.size, .int .i64 y.slide, .slice y.AA y.aggs.length y.ac] 59) = ws ∧ ws.alloc (.cells #[.int .i64 0, .int .i64 0] 64) = wt0 ∧
  (wt0.setCell ⟨wr.heap.size + 1, 0, none⟩ (.int .i64 h)).setCell ⟨wr.heap.size + 1, 1, none⟩ (.int .i64 q) = wt ∧ Own2F wt0 (wr.heap.size + 1) 0 0 ∧ RowL wt wr.heap.size 59 (qxL y) ∧ Own2F wt (wr.heap.size + 1) h q ∧ Below wr.heap.size wr wt := by
 obtain ⟨ws, hws, ho9, hb9⟩ := box_q wr y
 have hsz : ws.heap.size = wr.heap.size + 1 := by rw [← hws]; exact alloc_sizeN _ _
 obtain ⟨wt0, hwt0⟩ : ∃ wt0, ws.alloc (.cells #[.int .i64 0, .int .i64 0] 64) = wt0 := ⟨_, rfl⟩
 have hb10 : Below ws.heap.size ws wt0 := by rw [← hwt0]; exact belowNew' _ _
 have ho100 : Own2F wt0 (wr.heap.size + 1) 0 0 := by rw [← hwt0, ← hsz]; exact own2f_new ws _ _
 have ho10 := own2f_setN (h := h) (p := q) ho100
 have hn10 : Only (fun k => k = wr.heap.size + 1) wt0 ((wt0.setCell ⟨wr.heap.size + 1, 0, none⟩ (.int .i64 h)).setCell ⟨wr.heap.size + 1, 1, none⟩ (.int .i64 q)) := ((Only.refl (fun k => k = wr.heap.size + 1) wt0).setCell (p := ⟨wr.heap.size + 1, 0, none⟩) rfl _).setCell (p := ⟨wr.heap.size + 1, 1, none⟩) rfl _
 have hb11 : Below ws.heap.size ws _ := hb10.trans (hn10.below hb10.size (fun k e => by have e' : k = wr.heap.size + 1 := e; omega))
 exact ⟨ws, wt0, _, hws, hwt0, rfl, ho100, ho9.keep hb11, ho10, below_step hb9 hb11⟩
theorem strSliceN : SliceTy Tryz.prog 56 9 (.string .empty) 1 16 := SliceTy.of Tryz.underlying56 (by kernel_rfl) rfl (by decide) (by decide)
theorem str_cell' (l : List ByteArray) : ∀ u ∈ strCells l, u.oneCell' = true := by
 intro u hu
 obtain ⟨s, -, rfl⟩ := List.mem_map.1 hu
 rfl
theorem firstErr_allN {f : Nat → Int} : ∀ {n : Nat}, firstErr f n = 0 → ∀ k, k < n → f k = 0
 | 0, _, k, h => by omega
 | n + 1, h, k, hk => by
  unfold firstErr at h
  split at h
  ·rename_i h0
   by_cases e : k = n
   ·subst e; exact h
   ·exact firstErr_allN h0 k (by omega)
  ·rename_i h0; exact absurd h h0
theorem schema_types {L : List Col} (h : schemaErr L = 0) : L.length ≤ 6 ∧ ∀ (k : Nat) (x : Col), L[k]? = some x → 1 ≤ x.type ∧ x.type ≤ 3 := by
 unfold schemaErr at h
 split at h
 ·cases h
 ·split at h
  ·cases h
  ·rename_i h6
   refine ⟨by omega, fun k x hx => ?_⟩
   have hk := (List.getElem?_eq_some_iff.1 hx).1
   have h0 := firstErr_allN h k hk
   unfold schemaAt at h0
   rw [hx] at h0
   simp only at h0
   split at h0
   ·cases h0
   ·split at h0
    ·cases h0
    ·rename_i h1; exact Classical.byContradiction fun hn => h1 hn
theorem outs_names (f : Nat → Col × Int) (zs : List ByteArray) : ∀ n, n ≤ zs.length → (∀ k s, k < n → zs[k]? = some s → (f k).1.name = s) → (outs f n).map (·.name) = zs.take n
 | 0, _, _ => by rw [outs]; simp
 | n + 1, hn, h => by
  have hz : zs[n]? = some (zs[n]'(by omega)) := List.getElem?_eq_getElem _
  rw [outs, List.map_append, outs_names f zs n (by omega) (fun k s hk => h k s (by omega)), List.take_add_one, hz]
  show _ ++ [(f n).1.name] = _
  rw [h n _ (by omega) hz]
  rfl
def namesQ (q : QX) : List ByteArray := q.names ++ q.group ++ q.aggs.map (·.name)
theorem shape_eq {q : QX} (h : shapeErr q = 0) : q.names.length = q.cols.length := by
 have h1 := shape_names h
 unfold shapeErr shapeOf at h
 split at h
 ·cases h
 ·rename_i h2
  split at h
  ·cases h
  ·rename_i h3
   by_cases hz : q.size = 0
   ·exact Classical.byContradiction fun hn => h2 ⟨hz, Or.inr (Or.inr (Or.inr hn))⟩
   ·have : ¬ 0 < q.cols.length + q.names.length := fun hn => h3 ⟨hz, hn⟩
    omega
theorem wrong_parts {q : QX} {l : List Col} (h : wrongQ q l = 0) : shapeErr q = 0 ∧ schemaErr (colsOut q l) = 0 := by
 unfold wrongQ at h
 split at h
 ·rename_i h1; exact absurd h h1
 ·split at h
  ·rename_i h1; exact absurd h h1
  ·rename_i h2
   split at h
   ·rename_i h1; exact absurd h h1.2
   ·split at h
    ·rename_i h1; exact absurd h h1
    ·exact ⟨Classical.byContradiction h2, h⟩
theorem told_name (l : List Col) (a : AggX) : (toldQ l a).1.name = a.name := by
 unfold toldQ
 split
 ·rfl
 ·split
  ·rfl
  ·rfl
theorem names_out {q : QX} {l : List Col} (h : wrongQ q l = 0) : (colsOut q l).map (·.name) = namesQ q := by
 have hl := shape_eq (wrong_parts h).1
 unfold colsOut namesQ
 rw [List.map_append, List.map_append]
 rw [outs_names (colsF1 q l) q.names q.cols.length (by omega) (fun k s hk hs => by
  unfold colsF1
  rw [List.getElem?_eq_getElem hk]
  show (q.names[k]?).getD ⟨#[]⟩ = s
  rw [hs]; rfl)]
 rw [outs_names (colsF2 q l) q.group q.group.length (Nat.le_refl _) (fun k s hk hs => by unfold colsF2; rw [hs])]
 rw [outs_names (colsF3 q l) (q.aggs.map (·.name)) q.aggs.length (by rw [List.length_map]; exact Nat.le_refl _) (fun k s hk hs => by
  unfold colsF3
  rw [List.getElem?_map] at hs
  rw [List.getElem?_eq_getElem hk] at hs ⊢
  injection hs with hs
  show (toldQ l _).1.name = s
  rw [told_name, ← hs])]
 rw [← hl, List.take_length, List.take_length, show q.aggs.length = (q.aggs.map (·.name)).length by rw [List.length_map], List.take_length]
structure TabsN (w : World) : Prop where
 tab : Tables w
 text : TextT w
 num : NumT w
 signs : SignsT w
 aggs : AggsT w
theorem TabsN.keep {w w' : World} (h : TabsN w) (hb : Below w.heap.size w w') : TabsN w' := ⟨h.tab.keep hb, h.text.keep hb, h.num.keep hb, h.signs.keep hb, h.aggs.keep hb⟩
theorem strCells_app (a b : List ByteArray) : strCells a ++ strCells b = strCells (a ++ b) := by unfold strCells; rw [List.map_append]
set_option maxHeartbeats 16000000 in
set_option maxRecDepth 100000 in
theorem walk (q : QX) (C : Option Addr) (p n : Nat) (l : List Col) (w : World) (hT : TabsN w) (hC : SeesCols w C p n l) (hs : ∀ x ∈ l, x.name.size ≤ maxLen) (hq : SeesQ (fun _ => True) w q) (hlen : LensQ q) :
  Calls Tryz.prog 4 #[qxV q, .slice C p n] w fun e w' => e = .returned (.bool true) ∧ Below w.heap.size w w' := by
 obtain ⟨w0, hw0, ho0, hb0⟩ := box_q w q
 obtain ⟨w1, hw1⟩ : ∃ w1, w0.alloc (.cells #[.string ⟨#[120]⟩, .int .i64 1] 61) = w1 := ⟨_, rfl⟩
 have hb1 : Below w0.heap.size w0 w1 := by rw [← hw1]; exact belowNew' _ _
 have ho1 : RowL w1 w0.heap.size 61 (colsCells factL) := by rw [← hw1]; exact rowL_new w0 _ (colsCells factL)
 have hone : SeesCols w1 (some ⟨w0.heap.size, 0, none⟩) 1 1 factL := ⟨rfl, rfl, Nat.le_refl _, (by unfold maxLen; omega), (fun e => by cases e), fun _ => ⟨w0.heap.size, 0, rfl, ho1.lt, fun j u hu => by rw [Nat.zero_add]; exact ho1.cell hu⟩⟩
 obtain ⟨qf, hqf, hqk⟩ := fact_is
 have HB1 := Lib.hid (below_step hb0 hb1)
 have T1 := Lib.hid (qParse_any factB (by decide) hqf w1 (hT.keep HB1.out).tab.lev (hT.keep HB1.out).tab.words (hT.keep HB1.out).text (hT.keep HB1.out).num (hT.keep HB1.out).signs (hT.keep HB1.out).aggs)
 have HQF := Lib.hid hqk
 have HO0 := Lib.hid (ho0.keep hb1)
 have HTT := Lib.hid hT
 have HC := Lib.hid hC
 have HS := Lib.hid hs
 have HQ := Lib.hid hq
 have HLEN := Lib.hid hlen
 have HONE := Lib.hid hone
 have HW0 := Lib.hid hw0
 have HW1 := Lib.hid hw1
 have hl1 := ho1.lt
 clear hT hC hs hq hlen hone hw0 hw1 hb0 hb1 ho0 ho1 hqf hqk
 unfold factB at T1
 unfold qxV
 go_enter Tryz.func4, Tryz.ntmps4
 go_wp2_with (first | rw [HW0.out] | rw [HW1.out])
 refine (T1.out).mono ?_
 rintro e w2 ⟨hb2, y, rfl, hsy, hqp⟩
 have HB2 := Lib.hid (below_step HB1.out hb2)
 replace HO0 := Lib.hid (HO0.out.keep hb2)
 replace HONE := Lib.hid (HONE.out.keep hb2)
 obtain ⟨hy1, hy2, hy3⟩ := fact_out hqp HQF.out
 have HY1 := Lib.hid hy1
 have HY2 := Lib.hid hy2
 have HY3 := Lib.hid hy3
 have HSY := Lib.hid hsy
 clear hb2 hsy hqp hy1 hy2 hy3 hl1 T1
 unfold qxV faultV
 obtain ⟨rh, hrh⟩ : ∃ rh : Int, rh = 0 := ⟨0, rfl⟩
 obtain ⟨rp, hrp⟩ : ∃ rp : Int, rp = 0 := ⟨0, rfl⟩
 rw [show (Value.agg #[Value.int .i64 0, Value.int .i64 0]) = .agg #[.int .i64 rh, .int .i64 rp] by rw [hrh, hrp]]
 have q0 : (rh != 0) = false := by rw [hrh]; rfl
 clear hrh hrp
 obtain ⟨ws, wt0, w3, hws, hwt0, hwt, hz0, hoy, hof, hbt⟩ := pair_boxQ w2 y rh rp
 obtain ⟨z0, z1⟩ := hz0.cells
 obtain ⟨zf0, zf1⟩ := hz0.frees
 have zl := hz0.lt
 have y0 : w3.cell? ⟨w2.heap.size, 0, none⟩ = some (.string y.from_) := hoy.cell rfl
 have y1 : w3.cell? ⟨w2.heap.size, 1, none⟩ = some (.string y.wher.op) := hoy.cell rfl
 have y2 : w3.cell? ⟨w2.heap.size, 2, none⟩ = some (.string y.wher.name) := hoy.cell rfl
 have y3 : w3.cell? ⟨w2.heap.size, 3, none⟩ = some (.int .i64 y.wher.val.type) := hoy.cell rfl
 have y4 : w3.cell? ⟨w2.heap.size, 4, none⟩ = some (.int .i64 y.wher.val.n) := hoy.cell rfl
 have y5 : w3.cell? ⟨w2.heap.size, 5, none⟩ = some (.string y.wher.val.s) := hoy.cell rfl
 have y6 : w3.cell? ⟨w2.heap.size, 6, none⟩ = some (.slice y.wher.A y.wher.args.length y.wher.c) := hoy.cell rfl
 have y7 : w3.cell? ⟨w2.heap.size, 7, none⟩ = some (.int .i64 y.wher.pos) := hoy.cell rfl
 have y8 : w3.cell? ⟨w2.heap.size, 8, none⟩ = some (.slice y.CA y.cols.length y.cc) := hoy.cell rfl
 have y9 : w3.cell? ⟨w2.heap.size, 9, none⟩ = some (.slice y.NA y.names.length y.nc) := hoy.cell rfl
 have y10 : w3.cell? ⟨w2.heap.size, 10, none⟩ = some (.slice y.GA y.group.length y.gc) := hoy.cell rfl
 have y11 : w3.cell? ⟨w2.heap.size, 11, none⟩ = some (.int .i64 y.size) := hoy.cell rfl
 have y12 : w3.cell? ⟨w2.heap.size, 12, none⟩ = some (.int .i64 y.slide) := hoy.cell rfl
 have y13 : w3.cell? ⟨w2.heap.size, 13, none⟩ = some (.slice y.AA y.aggs.length y.ac) := hoy.cell rfl
 have hly := hoy.lt
 have HB3 := Lib.hid (below_step HB2.out hbt)
 have HOF := Lib.hid hof
 have HWS := Lib.hid hws
 have HWT0 := Lib.hid hwt0
 have HWT := Lib.hid hwt
 replace HO0 := Lib.hid (HO0.out.keep hbt)
 replace HONE := Lib.hid (HONE.out.keep hbt)
 replace HSY := Lib.hid ((HSY.out.keep (.of_below hbt)).mono (fun _ _ => trivial))
 have T3 := Lib.hid (qcheck_any y _ 1 1 factL w3 (HTT.out.keep HB3.out).tab (HTT.out.keep HB3.out).aggs HONE.out (by intro x hx; rw [show factL = [⟨⟨#[120]⟩, 1⟩] from rfl, List.mem_singleton] at hx; rw [hx]; decide) HSY.out HY3.out)
 unfold qxV at T3
 clear hws hwt0 hwt hz0 hoy hof hbt
 go_wp2_with (first | rw [HWS.out] | rw [HWT0.out] | rw [HWT.out])
 refine (T3.out).mono ?_
 rintro e w4 ⟨hb4, hc4⟩
 rw [HY1.out, if_neg (by decide), HY2.out] at hc4
 obtain ⟨OA, oc, rfl, hsee⟩ := hc4
 have HB4 := Lib.hid (below_step HB3.out hb4)
 have hof4 := HOF.out.keep hb4
 obtain ⟨f0, f1⟩ := hof4.cells
 have hlf := hof4.lt
 have HR4 := HO0.out.keep hb4
 replace HO0 := Lib.hid HR4
 obtain ⟨gA, oA, xA, rfl, hgA, hxA, m0, m1⟩ := hsee.at_ (k := 0) (by decide)
 have hxA : some (⟨⟨#[121]⟩, 2⟩ : Col) = some xA := hxA
 injection hxA with hxA
 subst hxA
 rw [Nat.zero_mul, Nat.add_zero] at m0 m1
 have c0 : w4.cell? ⟨w.heap.size, 0, none⟩ = some (.string q.from_) := HR4.cell rfl
 have c1 : w4.cell? ⟨w.heap.size, 1, none⟩ = some (.string q.wher.op) := HR4.cell rfl
 have c2 : w4.cell? ⟨w.heap.size, 2, none⟩ = some (.string q.wher.name) := HR4.cell rfl
 have c3 : w4.cell? ⟨w.heap.size, 3, none⟩ = some (.int .i64 q.wher.val.type) := HR4.cell rfl
 have c4 : w4.cell? ⟨w.heap.size, 4, none⟩ = some (.int .i64 q.wher.val.n) := HR4.cell rfl
 have c5 : w4.cell? ⟨w.heap.size, 5, none⟩ = some (.string q.wher.val.s) := HR4.cell rfl
 have c6 : w4.cell? ⟨w.heap.size, 6, none⟩ = some (.slice q.wher.A q.wher.args.length q.wher.c) := HR4.cell rfl
 have c7 : w4.cell? ⟨w.heap.size, 7, none⟩ = some (.int .i64 q.wher.pos) := HR4.cell rfl
 have c8 : w4.cell? ⟨w.heap.size, 8, none⟩ = some (.slice q.CA q.cols.length q.cc) := HR4.cell rfl
 have c9 : w4.cell? ⟨w.heap.size, 9, none⟩ = some (.slice q.NA q.names.length q.nc) := HR4.cell rfl
 have c10 : w4.cell? ⟨w.heap.size, 10, none⟩ = some (.slice q.GA q.group.length q.gc) := HR4.cell rfl
 have c11 : w4.cell? ⟨w.heap.size, 11, none⟩ = some (.int .i64 q.size) := HR4.cell rfl
 have c12 : w4.cell? ⟨w.heap.size, 12, none⟩ = some (.int .i64 q.slide) := HR4.cell rfl
 have c13 : w4.cell? ⟨w.heap.size, 13, none⟩ = some (.slice q.AA q.aggs.length q.ac) := HR4.cell rfl
 have hlq := HR4.lt
 have T4 := Lib.hid (qcheck_any q C p n l w4 (HTT.out.keep HB4.out).tab (HTT.out.keep HB4.out).aggs (HC.out.keep HB4.out) HS.out (HQ.out.keep (.of_below HB4.out)) HLEN.out)
 unfold qxV at T4
 clear y0 y1 y2 y3 y4 y5 y6 y7 y8 y9 y10 y11 y12 y13 z0 z1 zf0 zf1 zl hly hof4 hb4 hsee HR4 T3
 go_wp2_with fail
 refine (T4.out).mono ?_
 rintro e w5 ⟨hb5, hc5⟩
 have HB5 := Lib.hid (below_step HB4.out hb5)
 have HR5 := HO0.out.keep hb5
 replace HO0 := Lib.hid HR5
 clear c0 c1 c2 c3 c4 c5 c6 c7 c8 c9 c10 c11 c12 c13 f0 f1 m0 m1 hlf hgA hlq T4 hb5
 by_cases hwq : wrongQ q l = 0
 ·rw [if_neg (fun h => h hwq)] at hc5
  obtain ⟨CA, cc, rfl, hsc⟩ := hc5
  obtain ⟨hty, htx⟩ := schema_types (wrong_parts hwq).2
  have HNM := Lib.hid (names_out hwq)
  have HTX := Lib.hid htx
  have HSC := Lib.hid hsc
  have hnl : (colsOut q l).length = q.names.length + q.group.length + q.aggs.length := by
   have := congrArg List.length HNM.out
   unfold namesQ at this
   simp only [List.length_map, List.length_append] at this
   exact this
  generalize hLN : (colsOut q l).length = LN at HSC hty hnl ⊢
  have HLN := Lib.hid hLN
  have c9 : w5.cell? ⟨w.heap.size, 9, none⟩ = some (.slice q.NA q.names.length q.nc) := HR5.cell rfl
  have hl5 := HR5.lt
  have HG := Lib.hid (HQ.out.names.1.keep HB5.out)
  have HG2 := Lib.hid (fun w' (hb : Below w5.heap.size w5 w') => HQ.out.group.1.keep (below_step HB5.out hb))
  clear HR5 hwq htx hsc hLN
  have hn1 : q.names.length ≤ 6 := by omega
  have hn2 : q.group.length ≤ 6 := by omega
  have hn3 : q.aggs.length ≤ 6 := by omega
  have HNL := Lib.hid hnl
  clear hnl
  have e4 := HQ.out.aggs.1.2.1
  have e4' := HQ.out.aggs.1.2.2.1
  unfold maxLen at e4'
  go_wp2_with (first
   | (at_builtin; refine wpList_append_src strSliceN rfl _ _ rfl rfl rfl hown6 (HG2.out w6 HB6.out) HB6.out (Nat.le_refl _) (str_cell' q.group) (by omega) ?_; intro v2 w7 hown7 hb7 _; have c13 : w7.cell? ⟨w.heap.size, 13, none⟩ = some (.slice q.AA q.aggs.length q.ac) := (HO0.out.keep hb7).cell rfl; have hl7 := (HO0.out.keep hb7).lt; have HOW7 := Lib.hid hown7; have HB7 := Lib.hid hb7; clear hown7 hb7)
   | (at_builtin; refine wpList_append_src strSliceN rfl _ _ rfl rfl rfl (World.ownsRow_nil w5 w5.heap.size 9 1) HG.out (Below.refl _ _) (Nat.le_refl _) (str_cell' q.names) (by omega) ?_; intro v1 w6 hown6 hb6 _; have c10 : w6.cell? ⟨w.heap.size, 10, none⟩ = some (.slice q.GA q.group.length q.gc) := (HO0.out.keep hb6).cell rfl; have hl6 := (HO0.out.keep hb6).lt; have HB6 := Lib.hid hb6; clear hb6))
  clear c9 c10 c13
  go_loopw [12, 13] (fun v i wr => ∃ k : Nat, k ≤ q.aggs.length ∧ i = .int .i64 k ∧ wr.ownsRow w5.heap.size 9 1 v (q.names.length + q.group.length + k) (strCells (q.names ++ q.group ++ (q.aggs.take k).map (·.name))) ∧ Below w5.heap.size w5 wr) (fun _ i _ => q.aggs.length - (intOf i).toNat)
  case atStart =>
   have h := HOW7.out
   rw [List.nil_append, strCells_app] at h
   refine ⟨0, Nat.zero_le _, rfl, ?_, HB7.out⟩
   rw [List.take_zero, List.map_nil, List.append_nil]
   rw [Nat.zero_add] at h
   exact h
  case round =>
   obtain ⟨k, hk, rfl, hown, hb⟩ := hrel
   have HBR := Lib.hid hb
   have HOW := Lib.hid hown
   have c13 : wr.cell? ⟨w.heap.size, 13, none⟩ = some (.slice q.AA q.aggs.length q.ac) := (HO0.out.keep hb).cell rfl
   have hlr := (HO0.out.keep hb).lt
   clear hown
   by_cases hlk : k < q.aggs.length
   ·obtain ⟨g, o, x, hA, hg, hx, a0, a1, a2, a3, a4, a5, a6, a7, a8⟩ := aggs_at ((HQ.out.aggs.1.keep HB5.out).keep hb) hlk
    have HTK := Lib.hid (show q.aggs.take (k + 1) = q.aggs.take k ++ [x] by rw [List.take_add_one, hx]; rfl)
    have how := HOW.out
    generalize hLL : q.names ++ q.group ++ (q.aggs.take k).map (·.name) = L1 at how
    have HLL := Lib.hid hLL
    clear hx hLL
    go_wp2_with (first
     | (at_builtin; refine wpList_append_one strSliceN rfl _ _ rfl rfl rfl how hb (Nat.le_refl _) rfl (by intro u hu; simp at hu; subst hu; rfl) (by omega) ?_; intro v1 wz hownz hbz _))
    go_roundw
    case rel =>
     have hfin : wz.ownsRow w5.heap.size 9 1 v1 (q.names.length + q.group.length + (k + 1)) (strCells (q.names ++ q.group ++ (q.aggs.take (k + 1)).map (·.name))) := by
      rw [HTK.out, List.map_append, ← List.append_assoc, HLL.out, show strCells (L1 ++ [x].map (·.name)) = strCells L1 ++ [.string x.name] by simp [strCells]]
      exact hownz
     refine ⟨k + 1, by omega, by go_num, ?_⟩
     rw [List.append_assoc, List.map_take] at hfin
     first
      | exact hfin
      | exact ⟨hfin, hbz⟩
      | simpa using hfin
    case measure => simp [intOf]; omega
   ·obtain rfl : k = q.aggs.length := by omega
    have hnm : wr.ownsRow w5.heap.size 9 1 u12 LN (strCells (namesQ q)) := by
     have h := HOW.out
     rw [List.take_length] at h
     rw [HNL.out]
     exact h
    obtain ⟨NA2, nc2, rfl, hsn⟩ := SeesIn.of_own (S := fun _ => True) hnm (fun _ _ _ => trivial)
    have HSN := Lib.hid hsn.1
    have HSC2 := Lib.hid (HSC.out.keep hb)
    have d1 := hsn.1.2.1
    have d1' := hsn.1.2.2.1
    have d2 := HSC2.out.2.2.1
    have d2' := HSC2.out.2.2.2.1
    unfold maxLen at d1' d2'
    have HWB := Lib.hid (show Below w.heap.size w wr from below_step HB5.out hb)
    clear hnm hsn hb HOW
    go_wp2_with fail
    go_loopw [14] (fun i w' => ∃ k : Nat, k ≤ LN ∧ i = .int .i64 k ∧ Below wr.heap.size wr w') (fun i _ => LN - (intOf i).toNat)
    case atStart => exact ⟨0, Nat.zero_le _, rfl, Below.refl _ _⟩
    case round =>
     obtain ⟨k, hk, rfl, hb⟩ := hrel
     have HBK := Lib.hid hb
     by_cases hlk : k < LN
     ·obtain ⟨g, o, x, (hCA : CA = _), hg, hx, m0, m1⟩ := (HSC2.out.keep hb).at_ hlk
      obtain ⟨g2, o2, t, (hNA : NA2 = _), hg2, ht, n0⟩ := strAt (HSN.out.keep hb) hlk
      obtain rfl : x.name = t := by
       have h := congrArg (fun L : List ByteArray => L[k]?) HNM.out
       simp only [List.getElem?_map, hx, ht] at h
       injection h
      obtain ⟨hx1, hx2⟩ := HTX.out k x hx
      have hx1' : ¬ x.type < 1 := by omega
      have hx2' : ¬ 3 < x.type := by omega
      have g1 : decide (x.type < 1) = false := decide_eq_false hx1'
      have g2' : decide (3 < x.type) = false := decide_eq_false hx2'
      clear hx ht
      subst hCA hNA
      go_wp2_with fail
      go_quiet (fail)
      go_wp2_with fail
      go_roundw
      case rel =>
       first
        | exact ⟨k + 1, by omega, by go_num, below_drewN HBK.out _⟩
        | exact ⟨k + 1, by omega, by go_num⟩
        | (repeat apply Exists.intro
                   exact ⟨⟨k + 1, by omega, by go_num, below_drewN HBK.out _⟩, rfl⟩)
      case measure => simp [intOf]; omega
     ·obtain rfl : k = LN := by omega
      go_wp2_with fail
      go_ret
      exact ⟨by simp, HWB.out.trans (HBK.out.mono HWB.out.size)⟩
 ·rw [if_pos hwq] at hc5
  subst hc5
  rw [errV_ne hwq]
  have HBF := Lib.hid HB5.out
  go_wp2_with fail
  go_ret
  exact ⟨rfl, HBF.out⟩
noncomputable def theWorld (os : Os) : World := (World.doorLaid Tryz.prog 4000 os).layVars Tryz.prog (Rows.queryNamesRow.laid.filter fun x => x.2.handleName?.isNone)
set_option maxRecDepth 100000 in
theorem contract (H : Type) (enc : TypeId × Value → H) (W : World) (base : Nat) (args : Array Value) (ds gs : List (DataW H)) (before : List MemPlace)
  (hval : ∀ (j : Nat) t v, Tryz.f4.params[j]? = some t → args[j]? = some v → Value.okWide Tryz.prog W .any base t v)
  (hW : DataW.Whole enc Tryz.prog Tryz.f4.params.toList Rows.queryNamesSpec.vars false W args.toList ds gs before)
  (hsz : (DataW.weightsEach Tryz.prog (Tryz.f4.params.toList ++ (OpenSpec.ofChange Rows.queryNamesSpec).bare.plain.varTypes Tryz.prog) (ds ++ gs)).all (· ≤ reachBytes) = true) (hL : laidMetH Tryz.prog Rows.queryNamesRow.laid W) (hsh : W.ShapedOpen Tryz.prog) :
  Calls Tryz.prog 4 args W fun e W' => ∃ v, e = .returned v ∧ Rows.queryNamesSpec.post enc Tryz.prog Tryz.f4 false true false false W args v W' := by
 have hW' := hW
 obtain ⟨p, q, hA0, hV, rfl, hfz, hnd⟩ := hW
 have hA : DataW.TrodAll enc Tryz.prog W 0 (fun _ => true) true Tryz.f4.params.toList args.toList ds p := hA0
 rw [Tryz.params4] at hA hval
 obtain ⟨v0, vs0, d0, ds0, p0, q0, hargs, rfl, rfl, h0, r0⟩ := trodAll_cons hA
 obtain ⟨v1, vs1, d1, ds1, p1, q1, rfl, rfl, rfl, h1, r1⟩ := trodAll_cons r0
 obtain ⟨rfl, rfl, rfl⟩ := trodAll_nil r1
 obtain rfl : args = #[v0, v1] := by cases args; simp_all
 obtain ⟨rfl, rfl⟩ := trodVars_none hV
 have hv0 := hval 0 59 v0 rfl rfl
 have hv1 := hval 1 22 v1 rfl rfl
 obtain ⟨qy, rfl, hqy, hqn⟩ := open_qry hv0 h0
 obtain ⟨C, pp, nn, cols, rfl, hC, hcs⟩ := open_cols (okWide_slice Tryz.underlying22 hv1) h1
 have hL0 : laidMet Tryz.prog [("math/bits.deBruijn32tab", Rows.laid_math_bits_deBruijn32tab), ("math/bits.deBruijn64tab", Rows.laid_math_bits_deBruijn64tab), ("internal/strconv.uint64pow10", Rows.laid_internal_strconv_uint64pow10), ("unicode/utf8.acceptRanges", Rows.laid_unicode_utf8_acceptRanges), ("strconv.ErrRange", Rows.laid_strconv_ErrRange), ("strconv.ErrSyntax", Rows.laid_strconv_ErrSyntax), ("sluicebook/lex.signs", Rows.laid_sluicebook_lex_signs), ("sluicebook/tree.words", Rows.laid_sluicebook_tree_words), ("sluicebook/tree.levels", Rows.laid_sluicebook_tree_levels), ("sluicebook/kind.ops", Rows.laid_sluicebook_kind_ops), ("sluicebook/query.aggs", Rows.laid_sluicebook_query_aggs), ("unicode/utf8.first", Rows.laid_unicode_utf8_first)] W := hL
 have hlen : LensQ qy := hqn (fun n hn => of_decide_eq_true (List.all_eq_true.1 hsz n (DataW.weights_mem_each (j := 0) (by rw [Tryz.params4]; rfl) rfl n hn)))
 refine (walk qy C pp nn cols W ⟨⟨(levelsT_of hL0 (.tail _ (.tail _ (.tail _ (.tail _ (.tail _ (.tail _ (.tail _ (.tail _ (.head _)))))))))), (opsT_of hL0 (.tail _ (.tail _ (.tail _ (.tail _ (.tail _ (.tail _ (.tail _ (.tail _ (.tail _ (.head _))))))))))), (wordsT_of hL0 (.tail _ (.tail _ (.tail _ (.tail _ (.tail _ (.tail _ (.tail _ (.head _)))))))))⟩, (textT_of hL0 (.tail _ (.tail _ (.head _))) hsh), (numT_of hL0.tail.tail.tail.tail), (signsT_of hL0 (.tail _ (.tail _ (.tail _ (.tail _ (.tail _ (.tail _ (.head _)))))))), (aggsT_of hL0 (.tail _ (.tail _ (.tail _ (.tail _ (.tail _ (.tail _ (.tail _ (.tail _ (.tail _ (.tail _ (.head _))))))))))))⟩ hC (fun x hx => (hcs x hx).1) hqy hlen).mono fun e W' ⟨he, hb⟩ => ?_
 subst he
 exact ⟨_, rfl, law_post laidOut Tryz.underlying4 (by kernel_rfl) rfl (by rw [Tryz.params4]; intro t ht; simp only [List.mem_cons, List.not_mem_nil, or_false] at ht; rcases ht with rfl | rfl; all_goals exact ⟨by kernel_rfl, of_decide_eq_true (by kernel_rfl)⟩) hW' rfl hb⟩
theorem reads (os : Os) {H : Type} (enc : TypeId × Value → H) : ∃ places, DataW.whole enc Tryz.prog ((theWorld os).forCall (fun _ _ => 0) ⟨#[], #[.agg #[.string .empty, .string .empty, .string .empty, .int .i64 0, .int .i64 0, .string .empty, .slice none 0 0, .int .i64 0, .slice none 0 0, .slice none 0 0, .slice none 0 0, .int .i64 0, .int .i64 0, .slice none 0 0], .slice none 0 0], []⟩).memory Tryz.f4.params.toList Rows.queryNamesSpec.vars false (#[.agg #[.string .empty, .string .empty, .string .empty, .int .i64 0, .int .i64 0, .string .empty, .slice none 0 0, .int .i64 0, .slice none 0 0, .slice none 0 0, .slice none 0 0, .int .i64 0, .int .i64 0, .slice none 0 0], .slice none 0 0] : Array Value).toList 8 = some ([.agg [.lit (.string []), .agg [.lit (.string []), .lit (.string []), .agg [.lit (.int .i64 0), .lit (.int .i64 0), .lit (.string [])], .nil, .lit (.int .i64 0)], .nil, .nil, .nil, .lit (.int .i64 0), .lit (.int .i64 0), .nil], .nil], [], places) :=
 ⟨[], by kernel_rfl⟩
set_option maxRecDepth 100000 in
theorem lifted (os : Os) (started : os.Started) (H : Type) (enc : TypeId × Value → H) (F : Stop.Interp) :
  ReturnsInHanded {} Tryz.checked os 4 .any ((OpenSpec.ofChange Rows.queryNamesSpec).preRow enc Tryz.prog Tryz.f4 Rows.queryNamesRow.domain false Rows.queryNamesRow.laid) (((OpenSpec.ofChange Rows.queryNamesSpec).at F).post enc Tryz.prog Tryz.f4 false true false false) := by
 obtain ⟨places, hx⟩ := reads os enc
 refine returnsInHanded_of_row (C := Tryz.checked) (s := OpenSpec.ofChange Rows.queryNamesSpec) own started (by kernel_rfl) Tryz.func4
  (witness_row_atRef (enc := enc) (C := Tryz.checked) false (theWorld os) #[.agg #[.string .empty, .string .empty, .string .empty, .int .i64 0, .int .i64 0, .string .empty, .slice none 0 0, .int .i64 0, .slice none 0 0, .slice none 0 0, .slice none 0 0, .int .i64 0, .int .i64 0, .slice none 0 0], .slice none 0 0] (World.layVars_os _ _ _) (by kernel_rfl) (by kernel_rfl) (by kernel_rfl)
   (OpenSpec.preRow_of_cond 8 hx (by kernel_rfl) (fun k hk => by cases hk) (by kernel_rfl) (laidMetH_of_parts (laidMet_over (w0 := World.doorLaid Tryz.prog 4000 os) rfl (by kernel_rfl) (by kernel_rfl)) (by kernel_rfl)))) ?_
 intro W base args ds gs before hval hW _ _ hsz hL hsh _
 exact contract H enc W base args ds gs before hval hW hsz hL hsh
theorem said : Rows.QueryNamesSaid :=
 OpenClaim.holds_of_cond 4 Tryz.f4 rfl rfl rfl rfl rfl rfl rfl ⟨rfl, rfl, rfl, rfl, rfl⟩ rfl rfl rfl rfl rfl (by kernel_rfl) Tryz.func4 (by kernel_rfl)
  (of_decide_eq_true (by kernel_rfl)) (by unfold Func.isWrapper; first | (rw [if_pos (by decide +kernel)]; kernel_rfl) | (rw [if_neg (by decide +kernel)]; exact ⟨rfl, rfl⟩))
  (fun os started H enc _ F => by rw [OpenClaim.pre_eq_preRow]; exact lifted os started H enc F)
theorem plain (f : FuncId) (fn : Func) (hf : Tryz.pinned.checked.prog.funcNamed "sluicebook/sluicelaw4.QueryNames" = some f) (hfn : Tryz.pinned.checked.prog.funcs[f]? = some fn) :
  true = Tryz.pinned.checked.prog.looks [] ∧ ∀ (j : Nat) t, fn.params[j]? = some t → Tryz.pinned.checked.prog.wantsStandIn t = false := by
 obtain rfl : f = 4 := Option.some.inj ((show Tryz.prog.funcNamed "sluicebook/sluicelaw4.QueryNames" = some 4 by kernel_rfl).symm.trans hf) |>.symm
 obtain rfl : fn = Tryz.f4 := (Option.some.inj (Tryz.func4.symm.trans hfn)).symm
 refine ⟨by kernel_rfl, fun j t ht => ?_⟩
 rw [Tryz.params4] at ht
 have hm := Array.mem_of_getElem? ht
 simp only [List.mem_toArray, List.mem_cons, List.not_mem_nil, or_false] at hm
 rcases hm with rfl | rfl
 ·exact (show Tryz.prog.wantsStandIn 59 = false by kernel_rfl)
 ·exact (show Tryz.prog.wantsStandIn 22 = false by kernel_rfl)
theorem card : Rows.QueryNamesCardSaid :=
 Claim7.holds_tied_plain_at .later [] _ _ _ _ said (fun _ h => by cases h) (by kernel_rfl) (fun _ h => by cases h) queryNames_row_tie rfl ⟨rfl, rfl⟩ (by kernel_rfl) rfl plain (by kernel_rfl)
#print axioms card
end Go.Proofs.YtpbbkpfaphjdoabGreatDoor.queryNames
