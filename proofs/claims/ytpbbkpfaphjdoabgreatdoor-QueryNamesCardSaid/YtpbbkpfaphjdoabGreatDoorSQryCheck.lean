/- query.Check, walked: the columns of what comes of a query, or what is wrong with it. -/
import Derived.Test.YtpbbkpfaphjdoabGreatDoorSQryColsOf
namespace Go.Proofs.YtpbbkpfaphjdoabGreatDoor
open Go.ChangeShapes Go.WideShapes Go.ChangeAt Go.RowKit
def wrongQ (q : QX) (l : List Col) : Int :=
 if schemaErr l ≠ 0 then schemaErr l else if shapeErr q ≠ 0 then shapeErr q else if exSame q.wher zeroE = false ∧ (typedQ l q.wher 2).2 ≠ 0 then (typedQ l q.wher 2).2
 else if colsErr q l ≠ 0 then colsErr q l else schemaErr (colsOut q l)
def QCheckSays (q : QX) (l : List Col) (w : World) (r : Ending) (w' : World) : Prop :=
 Below w.heap.size w w' ∧ if wrongQ q l ≠ 0 then r = .returned (.tuple #[.slice none 0 0, errV (wrongQ q l)])
 else ∃ A c, r = .returned (.tuple #[.slice A (colsOut q l).length c, .nilIface]) ∧ SeesCols w' A (colsOut q l).length c (colsOut q l)
theorem shape_names {q : QX} (h : shapeErr q = 0) : q.cols.length ≤ q.names.length := by
 unfold shapeErr shapeOf at h
 split at h
 ·omega
 ·rename_i h1
  split at h
  ·omega
  ·rename_i h2
   by_cases hz : q.size = 0
   ·have : q.names.length = q.cols.length := Classical.byContradiction fun hn => h1 ⟨hz, Or.inr (Or.inr (Or.inr hn))⟩
    omega
   ·have : ¬ 0 < q.cols.length + q.names.length := fun hn => h2 ⟨hz, hn⟩
    omega
theorem shape_small {q : QX} (h : shapeErr q = 0) : q.names.length + q.group.length + q.aggs.length ≤ 6 := by
 unfold shapeErr shapeOf at h
 split at h
 ·omega
 ·split at h
  ·omega
  ·split at h
   ·omega
   ·split at h
    ·omega
    ·split at h
     ·omega
     ·omega
set_option maxHeartbeats 8000000 in
set_option maxRecDepth 100000 in
theorem qcheck_any (q : QX) (C : Option Addr) (p n : Nat) (l : List Col) (w : World) (hT : Tables w) (hA : AggsT w) (hC : SeesCols w C p n l) (hs : ∀ x ∈ l, x.name.size ≤ maxLen) (hq : SeesQ (fun _ => True) w q) (hlen : LensQ q) :
  Calls Tryz.prog 23 #[qxV q, .slice C p n] w (QCheckSays q l w) := by
 obtain ⟨w0, hw0, ho0, hb0⟩ := box_q w q
 have T1 := Lib.hid (rschema_any l C p n w0 (hC.keep hb0) hs)
 have T2 := Lib.hid (fun w' => qshape_any q w' hlen)
 have T3 := Lib.hid (fun w' (hb : Below w.heap.size w w') => show Calls Tryz.prog 50 #[.agg #[.string q.wher.op, .string q.wher.name, .int .i64 q.wher.val.type, .int .i64 q.wher.val.n, .string q.wher.val.s, .slice q.wher.A q.wher.args.length q.wher.c, .int .i64 q.wher.pos], .agg #[.string ⟨#[]⟩, .string ⟨#[]⟩, .int .i64 0, .int .i64 0, .string ⟨#[]⟩, .slice none 0 0, .int .i64 0]] w' (fun e w'' => e = .returned (.bool (exSame q.wher zeroE)) ∧ Below w'.heap.size w' w'') from (like_any (SizeOf.sizeOf q.wher)) q.wher zeroE (Nat.le_refl _) w' (hq.wher.see.keep hb) (zeroX_sees w'))
 have T4 := Lib.hid (fun w' (hb : Below w.heap.size w w') => typed_any q.wher C p n l 2 w' (hT.keep hb) (hC.keep hb) hs (hq.wher.see.keep hb))
 have T5 := Lib.hid (fun w' (hb : Below w.heap.size w w') (hn : shapeErr q = 0) => cols_any q C p n l w' (hT.keep hb) (hA.keep hb) (hC.keep hb) hs (hq.keep (.of_below hb)) (shape_names hn) (shape_small hn))
 have HB0 := Lib.hid hb0
 have HO0 := Lib.hid ho0
 have HW0 := Lib.hid hw0
 have E := Lib.hid (show wrongQ q l = if schemaErr l ≠ 0 then schemaErr l else if shapeErr q ≠ 0 then shapeErr q else if exSame q.wher zeroE = false ∧ (typedQ l q.wher 2).2 ≠ 0 then (typedQ l q.wher 2).2
  else if colsErr q l ≠ 0 then colsErr q l else schemaErr (colsOut q l) from rfl)
 clear hT hA hC hs hq hlen hw0 ho0 hb0
 unfold ColsSays at T5
 unfold exV at T4
 generalize schemaErr l = x1 at T1 E
 generalize shapeErr q = x2 at T2 E T5
 generalize exSame q.wher zeroE = x3 at T3 E
 generalize typedQ l q.wher 2 = x4 at T4 E
 generalize colsErr q l = x5 at T5 E
 generalize schemaErr (colsOut q l) = x6 at T5 E
 unfold qxV at T2 T5 ⊢
 go_enter Tryz.func23, Tryz.ntmps23
 go_wp2_with (first | rw [HW0.out])
 refine (T1.out).mono ?_
 rintro e' w1 ⟨rfl, hb1⟩
 have HB1 := Lib.hid (below_step HB0.out hb1)
 have HO1 := HO0.out.keep hb1
 have HQ1 := Lib.hid HO1
 clear hb1
 have c0 : w1.cell? ⟨w.heap.size, 0, none⟩ = some (.string q.from_) := HO1.cell rfl
 have c1 : w1.cell? ⟨w.heap.size, 1, none⟩ = some (.string q.wher.op) := HO1.cell rfl
 have c2 : w1.cell? ⟨w.heap.size, 2, none⟩ = some (.string q.wher.name) := HO1.cell rfl
 have c3 : w1.cell? ⟨w.heap.size, 3, none⟩ = some (.int .i64 q.wher.val.type) := HO1.cell rfl
 have c4 : w1.cell? ⟨w.heap.size, 4, none⟩ = some (.int .i64 q.wher.val.n) := HO1.cell rfl
 have c5 : w1.cell? ⟨w.heap.size, 5, none⟩ = some (.string q.wher.val.s) := HO1.cell rfl
 have c6 : w1.cell? ⟨w.heap.size, 6, none⟩ = some (.slice q.wher.A q.wher.args.length q.wher.c) := HO1.cell rfl
 have c7 : w1.cell? ⟨w.heap.size, 7, none⟩ = some (.int .i64 q.wher.pos) := HO1.cell rfl
 have c8 : w1.cell? ⟨w.heap.size, 8, none⟩ = some (.slice q.CA q.cols.length q.cc) := HO1.cell rfl
 have c9 : w1.cell? ⟨w.heap.size, 9, none⟩ = some (.slice q.NA q.names.length q.nc) := HO1.cell rfl
 have c10 : w1.cell? ⟨w.heap.size, 10, none⟩ = some (.slice q.GA q.group.length q.gc) := HO1.cell rfl
 have c11 : w1.cell? ⟨w.heap.size, 11, none⟩ = some (.int .i64 q.size) := HO1.cell rfl
 have c12 : w1.cell? ⟨w.heap.size, 12, none⟩ = some (.int .i64 q.slide) := HO1.cell rfl
 have c13 : w1.cell? ⟨w.heap.size, 13, none⟩ = some (.slice q.AA q.aggs.length q.ac) := HO1.cell rfl
 have hl1 := HO1.lt
 clear HO1
 by_cases h1 : x1 = 0
 ·subst h1
  rw [errV_zero]
  replace E := Lib.hid (E.out.trans (if_neg (by decide)))
  go_wp2_with fail
  refine (T2.out w1).mono ?_
  rintro e' w2 ⟨rfl, hb2⟩
  clear c0 c1 c2 c3 c4 c5 c6 c7 c8 c9 c10 c11 c12 c13 hl1
  have HO2 := HQ1.out.keep hb2
  have HQ2 := Lib.hid HO2
  have HB2 := Lib.hid (below_step HB1.out hb2)
  clear hb2
  by_cases h2 : x2 = 0
  ·subst h2
   replace T5 := Lib.hid (fun w' hb => T5.out w' hb rfl)
   rw [errV_zero]
   replace E := Lib.hid (E.out.trans (if_neg (by decide)))
   have c1 : w2.cell? ⟨w.heap.size, 1, none⟩ = some (.string q.wher.op) := HO2.cell rfl
   have c2 : w2.cell? ⟨w.heap.size, 2, none⟩ = some (.string q.wher.name) := HO2.cell rfl
   have c3 : w2.cell? ⟨w.heap.size, 3, none⟩ = some (.int .i64 q.wher.val.type) := HO2.cell rfl
   have c4 : w2.cell? ⟨w.heap.size, 4, none⟩ = some (.int .i64 q.wher.val.n) := HO2.cell rfl
   have c5 : w2.cell? ⟨w.heap.size, 5, none⟩ = some (.string q.wher.val.s) := HO2.cell rfl
   have c6 : w2.cell? ⟨w.heap.size, 6, none⟩ = some (.slice q.wher.A q.wher.args.length q.wher.c) := HO2.cell rfl
   have c7 : w2.cell? ⟨w.heap.size, 7, none⟩ = some (.int .i64 q.wher.pos) := HO2.cell rfl
   have hl2 := HO2.lt
   clear HO2
   have bz := run_zero w2
   go_wp2_with fail
   refine (T3.out w2 HB2.out).mono ?_
   rintro e' w3 ⟨rfl, hb3⟩
   clear c1 c2 c3 c4 c5 c6 c7 hl2 bz
   have HO3 := HQ2.out.keep hb3
   have HQ3 := Lib.hid HO3
   have HB3 := Lib.hid (below_step HB2.out hb3)
   clear hb3
   have c0 : w3.cell? ⟨w.heap.size, 0, none⟩ = some (.string q.from_) := HO3.cell rfl
   have c1 : w3.cell? ⟨w.heap.size, 1, none⟩ = some (.string q.wher.op) := HO3.cell rfl
   have c2 : w3.cell? ⟨w.heap.size, 2, none⟩ = some (.string q.wher.name) := HO3.cell rfl
   have c3 : w3.cell? ⟨w.heap.size, 3, none⟩ = some (.int .i64 q.wher.val.type) := HO3.cell rfl
   have c4 : w3.cell? ⟨w.heap.size, 4, none⟩ = some (.int .i64 q.wher.val.n) := HO3.cell rfl
   have c5 : w3.cell? ⟨w.heap.size, 5, none⟩ = some (.string q.wher.val.s) := HO3.cell rfl
   have c6 : w3.cell? ⟨w.heap.size, 6, none⟩ = some (.slice q.wher.A q.wher.args.length q.wher.c) := HO3.cell rfl
   have c7 : w3.cell? ⟨w.heap.size, 7, none⟩ = some (.int .i64 q.wher.pos) := HO3.cell rfl
   have c8 : w3.cell? ⟨w.heap.size, 8, none⟩ = some (.slice q.CA q.cols.length q.cc) := HO3.cell rfl
   have c9 : w3.cell? ⟨w.heap.size, 9, none⟩ = some (.slice q.NA q.names.length q.nc) := HO3.cell rfl
   have c10 : w3.cell? ⟨w.heap.size, 10, none⟩ = some (.slice q.GA q.group.length q.gc) := HO3.cell rfl
   have c11 : w3.cell? ⟨w.heap.size, 11, none⟩ = some (.int .i64 q.size) := HO3.cell rfl
   have c12 : w3.cell? ⟨w.heap.size, 12, none⟩ = some (.int .i64 q.slide) := HO3.cell rfl
   have c13 : w3.cell? ⟨w.heap.size, 13, none⟩ = some (.slice q.AA q.aggs.length q.ac) := HO3.cell rfl
   have hl3 := HO3.lt
   clear HO3
   cases x3 with
   | true =>
    replace E := Lib.hid (E.out.trans (if_neg (fun h => by cases h.1)))
    have T6 := T5.out w3 HB3.out
    go_wp2_with fail
    refine T6.mono ?_
    rintro e' w5 ⟨hb5, hc5⟩
    have HB5 := Lib.hid (below_step HB3.out hb5)
    clear hb5 T6 c0 c1 c2 c3 c4 c5 c6 c7 c8 c9 c10 c11 c12 c13
    by_cases h5 : x5 = 0
    ·subst h5
     replace E := Lib.hid (E.out.trans (if_neg (by decide)))
     rw [if_neg (by decide)] at hc5
     obtain ⟨OA, oc, rfl, hsee⟩ := hc5
     have HSEE := Lib.hid hsee
     generalize hLN : (colsOut q l).length = LN at HSEE ⊢
     have HLN := Lib.hid hLN
     clear hLN
     clear hsee
     by_cases h6 : x6 = 0
     ·subst h6
      rw [errV_zero]
      go_wp2_with fail
      go_ret2
      refine ⟨HB5.out, ?_⟩
      rw [E.out, if_neg (by decide), HLN.out]
      exact ⟨OA, oc, rfl, HSEE.out⟩
     ·rw [errV_ne h6]
      have HNE := Lib.hid h6
      clear h6
      go_wp2_with fail
      go_ret2
      refine ⟨HB5.out, ?_⟩
      rw [E.out, if_pos HNE.out, errV_ne HNE.out]
      rfl
    ·replace E := Lib.hid (E.out.trans (if_pos h5))
     rw [if_pos h5] at hc5
     subst hc5
     rw [errV_ne h5]
     have HNE := Lib.hid h5
     clear h5
     go_wp2_with fail
     go_ret2
     refine ⟨HB5.out, ?_⟩
     rw [E.out, if_pos HNE.out, errV_ne HNE.out]
     rfl
   | false =>
    go_wp2_with fail
    refine (T4.out w3 HB3.out).mono ?_
    rintro e' w4 ⟨rfl, hb4⟩
    clear c0 c1 c2 c3 c4 c5 c6 c7 c8 c9 c10 c11 c12 c13 hl3
    have HO4 := HQ3.out.keep hb4
    have HB4 := Lib.hid (below_step HB3.out hb4)
    clear hb4
    obtain ⟨ty, x4⟩ := x4
    by_cases h4 : x4 = 0
    ·subst h4
     rw [errV_zero]
     replace E := Lib.hid (E.out.trans (if_neg (fun h => h.2 rfl)))
     have c0 : w4.cell? ⟨w.heap.size, 0, none⟩ = some (.string q.from_) := HO4.cell rfl
     have c1 : w4.cell? ⟨w.heap.size, 1, none⟩ = some (.string q.wher.op) := HO4.cell rfl
     have c2 : w4.cell? ⟨w.heap.size, 2, none⟩ = some (.string q.wher.name) := HO4.cell rfl
     have c3 : w4.cell? ⟨w.heap.size, 3, none⟩ = some (.int .i64 q.wher.val.type) := HO4.cell rfl
     have c4 : w4.cell? ⟨w.heap.size, 4, none⟩ = some (.int .i64 q.wher.val.n) := HO4.cell rfl
     have c5 : w4.cell? ⟨w.heap.size, 5, none⟩ = some (.string q.wher.val.s) := HO4.cell rfl
     have c6 : w4.cell? ⟨w.heap.size, 6, none⟩ = some (.slice q.wher.A q.wher.args.length q.wher.c) := HO4.cell rfl
     have c7 : w4.cell? ⟨w.heap.size, 7, none⟩ = some (.int .i64 q.wher.pos) := HO4.cell rfl
     have c8 : w4.cell? ⟨w.heap.size, 8, none⟩ = some (.slice q.CA q.cols.length q.cc) := HO4.cell rfl
     have c9 : w4.cell? ⟨w.heap.size, 9, none⟩ = some (.slice q.NA q.names.length q.nc) := HO4.cell rfl
     have c10 : w4.cell? ⟨w.heap.size, 10, none⟩ = some (.slice q.GA q.group.length q.gc) := HO4.cell rfl
     have c11 : w4.cell? ⟨w.heap.size, 11, none⟩ = some (.int .i64 q.size) := HO4.cell rfl
     have c12 : w4.cell? ⟨w.heap.size, 12, none⟩ = some (.int .i64 q.slide) := HO4.cell rfl
     have c13 : w4.cell? ⟨w.heap.size, 13, none⟩ = some (.slice q.AA q.aggs.length q.ac) := HO4.cell rfl
     have hl4 := HO4.lt
     clear HO4
     have T6 := T5.out w4 HB4.out
     go_wp2_with fail
     refine T6.mono ?_
     rintro e' w5 ⟨hb5, hc5⟩
     have HB5 := Lib.hid (below_step HB4.out hb5)
     clear hb5 T6 c0 c1 c2 c3 c4 c5 c6 c7 c8 c9 c10 c11 c12 c13
     by_cases h5 : x5 = 0
     ·subst h5
      replace E := Lib.hid (E.out.trans (if_neg (by decide)))
      rw [if_neg (by decide)] at hc5
      obtain ⟨OA, oc, rfl, hsee⟩ := hc5
      have HSEE := Lib.hid hsee
      generalize hLN : (colsOut q l).length = LN at HSEE ⊢
      have HLN := Lib.hid hLN
      clear hLN
      clear hsee
      by_cases h6 : x6 = 0
      ·subst h6
       rw [errV_zero]
       go_wp2_with fail
       go_ret2
       refine ⟨HB5.out, ?_⟩
       rw [E.out, if_neg (by decide), HLN.out]
       exact ⟨OA, oc, rfl, HSEE.out⟩
      ·rw [errV_ne h6]
       have HNE := Lib.hid h6
       clear h6
       go_wp2_with fail
       go_ret2
       refine ⟨HB5.out, ?_⟩
       rw [E.out, if_pos HNE.out, errV_ne HNE.out]
       rfl
     ·replace E := Lib.hid (E.out.trans (if_pos h5))
      rw [if_pos h5] at hc5
      subst hc5
      rw [errV_ne h5]
      have HNE := Lib.hid h5
      clear h5
      go_wp2_with fail
      go_ret2
      refine ⟨HB5.out, ?_⟩
      rw [E.out, if_pos HNE.out, errV_ne HNE.out]
      rfl
    ·replace E := Lib.hid (E.out.trans (if_pos ⟨by first | trivial | rfl, h4⟩))
     rw [errV_ne h4]
     have HNE := Lib.hid (show x4 ≠ 0 from h4)
     clear h4
     go_wp2_with fail
     go_ret2
     refine ⟨HB4.out, ?_⟩
     rw [E.out, if_pos HNE.out, errV_ne HNE.out]
     rfl
  ·replace E := Lib.hid (E.out.trans (if_pos h2))
   rw [errV_ne h2]
   have HNE := Lib.hid h2
   clear h2
   go_wp2_with fail
   go_ret2
   refine ⟨HB2.out, ?_⟩
   rw [E.out, if_pos HNE.out, errV_ne HNE.out]
   rfl
 ·replace E := Lib.hid (E.out.trans (if_pos h1))
  rw [errV_ne h1]
  have HNE := Lib.hid h1
  clear h1
  go_wp2_with fail
  go_ret2
  refine ⟨HB1.out, ?_⟩
  rw [E.out, if_pos HNE.out, errV_ne HNE.out]
  rfl
end Go.Proofs.YtpbbkpfaphjdoabGreatDoor
