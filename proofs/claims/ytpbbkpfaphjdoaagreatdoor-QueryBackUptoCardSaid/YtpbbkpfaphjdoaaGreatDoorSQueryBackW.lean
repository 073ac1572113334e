/- QueryBack: the walk of the law. -/
import Derived.Test.YtpbbkpfaphjdoaaGreatDoorSQryCheck
import Derived.Test.YtpbbkpfaphjdoaaGreatDoorSQryLike
import Derived.Test.YtpbbkpfaphjdoaaGreatDoorSTold
import Derived.Test.YtpbbkpfaphjdoaaGreatDoorCards
import Derived.Test.YtpbbkpfaphjdoaaGreatDoorTie
import Derived.LaidLaws
import Derived.LaidMore
import Derived.LaidHandle
import Derived.Stop.Joined
import Derived.SevenTiedAt
import Derived.Deep.Cut
import Derived.Deep.CutRange
import Derived.Deep.DeepWitnessRowRef
import Derived.Deep.DeepHandedRow
namespace Go.Proofs.YtpbbkpfaphjdoaaGreatDoor.queryBack
open Go.ChangeShapes Go.WideShapes Go.ChangeAt Go.RowKit Go.Proofs.YtpbbkpfaphjdoaaGreatDoor
def oracB (T : List Tok) (E : Nat) (i : Nat) : PR := (rdF T E 100 (.lv 0) i).getD (.error 0)
def parseQB (l : List UInt8) : Option (Except (Int × Int) QP) :=
 match lexF 100 l 0 with
 | none => none
 | some T => if (List.range (T.length + 1)).all (fun i => (rdF T l.length 100 (.lv 0) i).isSome) = true then
   (match readQ' T l.length (oracB T l.length) with
   | .error k => some (.error (2, (k : Int)))
   | .ok (q, j) => if j < T.length then some (.error (2, (atT T l.length j : Int))) else if fullQ q = true then some (.error (4, 0)) else some (.ok q))
  else none
theorem parseQB_sound {l : List UInt8} {R : Except (Int × Int) QP} (hl : l.length ≤ 400) (h : parseQB l = some R) : QryIs l R := by
 unfold parseQB at h
 split at h
 ·cases h
 ·rename_i T hT
  have hlx : lexS l = .ok T := by rw [lexS_len hl]; exact lexF_sound _ _ _ _ hT
  split at h
  ·rename_i hall
   have hX : Oracle T l.length (oracB T l.length) := by
    intro i hi
    have := List.all_eq_true.1 hall i (List.mem_range.2 (by omega))
    obtain ⟨r, hr⟩ := Option.isSome_iff_exists.1 this
    unfold oracB
    rw [hr]
    exact rdF_sound _ _ _ _ _ _ hr
   split at h
   ·rename_i k hk
    cases h
    exact Or.inr ⟨T, _, hlx, hX, Or.inl ⟨k, hk, rfl⟩⟩
   ·rename_i q j hk
    refine Or.inr ⟨T, _, hlx, hX, Or.inr ⟨q, j, hk, ?_⟩⟩
    split at h
    ·rename_i hj; cases h; exact Or.inl ⟨hj, rfl⟩
    ·rename_i hj
     split at h
     ·rename_i hf; cases h; exact Or.inr ⟨by omega, Or.inl ⟨hf, rfl⟩⟩
     ·rename_i hf; cases h; exact Or.inr ⟨by omega, Or.inr ⟨by simpa using hf, rfl⟩⟩
  ·cases h
def factS : ByteArray := ⟨#[115, 101, 108, 101, 99, 116, 32, 97, 32, 43, 32, 49, 32, 97, 115, 32, 98, 32, 102, 114, 111, 109, 32, 99, 32, 119, 104, 101, 114, 101, 32, 97, 32, 62, 32, 50]⟩
def factSQ (q : QP) : Bool := q.from_ == [99] && q.cols.length == 1 && q.names == [[98]] && q.wher.op.data.toList == [62]
def factSOk : Bool := match parseQB factS.data.toList with | some (.ok q) => factSQ q | _ => false
theorem factS_ok : factSOk = true := by kernel_rfl
theorem factS_is : ∃ q, QryIs factS.data.toList (.ok q) ∧ factSQ q = true := by
 have h := factS_ok
 unfold factSOk at h
 split at h
 ·rename_i q hq
  exact ⟨q, parseQB_sound (by decide) hq, h⟩
 ·cases h
theorem factS_out {y : QX} {q : QP} (hy : qpX y = q) (hq : factSQ q = true) : (y.from_.toList == [99]) = true ∧ y.cols.length = 1 ∧ y.names = [⟨#[98]⟩] ∧ (y.wher.op.toList == [62]) = true := by
 subst hy
 unfold factSQ at hq
 simp only [Bool.and_eq_true] at hq
 obtain ⟨⟨⟨h1, h2⟩, h3⟩, h4⟩ := hq
 refine ⟨by rw [Lib.toList_data]; exact h1, ?_, ?_, ?_⟩
 ·have : (strips y.cols).length = 1 := eq_of_beq h2
  rwa [strips_map, List.length_map] at this
 ·exact strsL_inj (b := [⟨#[98]⟩]) (eq_of_beq h3)
 ·rw [Lib.toList_data]
  have : (strip y.wher).op.data.toList == [62] := h4
  rwa [strip_op] at this
theorem parseT_any (s : ByteArray) (hs : s.size ≤ maxLen) {R : Except (Int × Int) QP} (hR : QryIs s.data.toList R) (w : World) (hT : TabsQ w) : Calls Tryz.prog 8 #[.string s] w (QPSays R w) :=
 qParse_any s hs hR w hT.tab.lev hT.tab.words hT.text hT.num hT.signs hT.aggs
theorem text_fits {q : QX} {S : Nat → Prop} {w : World} (h : SeesQ S w q) (hs : SmallQ q) (he : textErrX q = 0) : (text3 q).size ≤ maxLen := by
 have := text3_size hs ⟨fun x hx => fitsE_sees (h.colsAt x hx).see, fun a ha => fitsE_sees (h.aggsAt a ha).see, fitsE_sees h.wher.see⟩ h.nums he
 unfold maxLen
 omega
theorem outsQ_len {q : QX} {l : List Col} (h : wrongQ q l = 0) : shapeErr q = 0 ∧ schemaErr (colsOut q l) = 0 ∧ (colsOut q l).length = q.names.length + q.group.length + q.aggs.length ∧ q.names.length + q.group.length + q.aggs.length ≤ 6 := by
 have hp : shapeErr q = 0 ∧ schemaErr (colsOut q l) = 0 := by
  unfold wrongQ at h
  split at h
  ·rename_i h1; exact absurd h h1
  ·split at h
   ·rename_i h1; exact absurd h h1
   ·rename_i h2
    split at h
    ·rename_i h1; exact absurd h h1.2
    ·split at h
     ·rename_i h1; exact absurd h h1
     ·exact ⟨Classical.byContradiction h2, h⟩
 have hl : q.names.length = q.cols.length := by
  have h1 := shape_names hp.1
  have h := hp.1
  unfold shapeErr shapeOf at h
  split at h
  ·cases h
  ·rename_i h2
   split at h
   ·cases h
   ·rename_i h3
    by_cases hz : q.size = 0
    ·exact Classical.byContradiction fun hn => h2 ⟨hz, Or.inr (Or.inr (Or.inr hn))⟩
    ·have : ¬ 0 < q.cols.length + q.names.length := fun hn => h3 ⟨hz, hn⟩
     omega
 refine ⟨hp.1, hp.2, ?_, shape_small hp.1⟩
 unfold colsOut
 rw [List.length_append, List.length_append, outs_length, outs_length, outs_length, hl]
set_option maxHeartbeats 16000000 in
set_option maxRecDepth 100000 in
theorem walk (s : ByteArray) (q : QX) (C : Option Addr) (p n : Nat) (l : List Col) (w : World) (hs : s.size ≤ 2000000) (hT : TabsQ w) (hC : SeesCols w C p n l) (hcs : ∀ x ∈ l, x.name.size ≤ maxLen) (hq : SeesQ (fun _ => True) w q) (hsm : SmallQ q) :
  Calls Tryz.prog 3 #[.string s, qxV q, .slice C p n] w fun e w' => e = .returned (.bool true) ∧ Below w.heap.size w w' := by
 obtain ⟨w0, hw0, ho0, hb0⟩ := box_q w q
 obtain ⟨qf, hqf, hqk⟩ := factS_is
 obtain ⟨R1, hR1⟩ := qry_all (text3 q).data.toList
 obtain ⟨R3, hR3⟩ := qry_all s.data.toList
 have T1 := Lib.hid (parseT_any factS (by decide) hqf w0 (hT.keep hb0))
 have HQF := Lib.hid hqk
 have HR1 := Lib.hid hR1
 have HR3 := Lib.hid hR3
 have HO0 := Lib.hid ho0
 have HT := Lib.hid hT
 have HC := Lib.hid hC
 have HS := Lib.hid hcs
 have HQ := Lib.hid hq
 have HSM := Lib.hid hsm
 have HB0 := Lib.hid hb0
 have HW0 := Lib.hid hw0
 have hl0 := ho0.lt
 clear hT hC hcs hq hsm hw0 hb0 ho0 hqf hqk hR1 hR3
 unfold factS at T1
 unfold qxV
 go_enter Tryz.func3, Tryz.ntmps3
 go_wp2_with (first | rw [HW0.out])
 refine (T1.out).mono ?_
 rintro e w1 ⟨hb1, y, rfl, hsy, hqp⟩
 have HB1 := Lib.hid (below_step HB0.out hb1)
 replace HO0 := Lib.hid (HO0.out.keep hb1)
 obtain ⟨e1, hn1, hn2, e4⟩ := factS_out hqp HQF.out
 have e2 : ((y.cols.length : Int) != 1) = false := by rw [hn1]; rfl
 have hnl : 0 < y.names.length := by rw [hn2]; decide
 obtain ⟨gN, oN, zN, hNA, hgN, hzN, n0⟩ := strAt hsy.names.1 hnl
 have e3 : (zN.toList == [98]) = true := by
  rw [hn2] at hzN
  injection hzN with hzN
  rw [← hzN, Lib.toList_data]
  rfl
 rw [Nat.add_zero] at n0
 have hcapN := hsy.names.1.2.1
 have hcapN2 := hsy.names.1.2.2.1
 unfold maxLen at hcapN2
 clear hb1 hqp hn1 hn2 hzN hl0 T1
 unfold qxV faultV
 obtain ⟨rh, hrh⟩ : ∃ rh : Int, rh = 0 := ⟨0, rfl⟩
 obtain ⟨rp, hrp⟩ : ∃ rp : Int, rp = 0 := ⟨0, rfl⟩
 rw [show (Value.agg #[Value.int .i64 0, Value.int .i64 0]) = .agg #[.int .i64 rh, .int .i64 rp] by rw [hrh, hrp]]
 have q0 : (rh != 0) = false := by rw [hrh]; rfl
 have q0' : (rh == 0) = true := by rw [hrh]; rfl
 clear hrh hrp
 obtain ⟨ws, wt0, w2, hws, hwt0, hwt, hz0, hoy, hof, hbt⟩ := pair_boxP w1 y rh rp
 obtain ⟨z0, z1⟩ := hz0.cells
 obtain ⟨zf0, zf1⟩ := hz0.frees
 have zl := hz0.lt
 have y0 : w2.cell? ⟨w1.heap.size, 0, none⟩ = some (.string y.from_) := hoy.cell rfl
 have y1 : w2.cell? ⟨w1.heap.size, 1, none⟩ = some (.string y.wher.op) := hoy.cell rfl
 have y2 : w2.cell? ⟨w1.heap.size, 2, none⟩ = some (.string y.wher.name) := hoy.cell rfl
 have y3 : w2.cell? ⟨w1.heap.size, 3, none⟩ = some (.int .i64 y.wher.val.type) := hoy.cell rfl
 have y4 : w2.cell? ⟨w1.heap.size, 4, none⟩ = some (.int .i64 y.wher.val.n) := hoy.cell rfl
 have y5 : w2.cell? ⟨w1.heap.size, 5, none⟩ = some (.string y.wher.val.s) := hoy.cell rfl
 have y6 : w2.cell? ⟨w1.heap.size, 6, none⟩ = some (.slice y.wher.A y.wher.args.length y.wher.c) := hoy.cell rfl
 have y7 : w2.cell? ⟨w1.heap.size, 7, none⟩ = some (.int .i64 y.wher.pos) := hoy.cell rfl
 have y8 : w2.cell? ⟨w1.heap.size, 8, none⟩ = some (.slice y.CA y.cols.length y.cc) := hoy.cell rfl
 have y9 : w2.cell? ⟨w1.heap.size, 9, none⟩ = some (.slice y.NA y.names.length y.nc) := hoy.cell rfl
 have y10 : w2.cell? ⟨w1.heap.size, 10, none⟩ = some (.slice y.GA y.group.length y.gc) := hoy.cell rfl
 have y11 : w2.cell? ⟨w1.heap.size, 11, none⟩ = some (.int .i64 y.size) := hoy.cell rfl
 have y12 : w2.cell? ⟨w1.heap.size, 12, none⟩ = some (.int .i64 y.slide) := hoy.cell rfl
 have y13 : w2.cell? ⟨w1.heap.size, 13, none⟩ = some (.slice y.AA y.aggs.length y.ac) := hoy.cell rfl
 have hly := hoy.lt
 obtain ⟨f0, f1⟩ := hof.cells
 have hlf := hof.lt
 have HOY := Lib.hid hoy
 have HOF := Lib.hid hof
 have Hw2 := Lib.hid (below_step HB1.out hbt)
 have HBT := Lib.hid hbt
 have HWS := Lib.hid hws
 have HWT0 := Lib.hid hwt0
 have HWT := Lib.hid hwt
 clear hws hwt0 hwt hz0 hoy hof hbt
 replace HO0 := Lib.hid (HO0.out.keep HBT.out)
 replace n0 := (HBT.out.cell hgN).trans n0
 rw [hNA] at y9 HWS
 clear hsy
 have c0 : w2.cell? ⟨w.heap.size, 0, none⟩ = some (.string q.from_) := HO0.out.cell rfl
 have c1 : w2.cell? ⟨w.heap.size, 1, none⟩ = some (.string q.wher.op) := HO0.out.cell rfl
 have c2 : w2.cell? ⟨w.heap.size, 2, none⟩ = some (.string q.wher.name) := HO0.out.cell rfl
 have c3 : w2.cell? ⟨w.heap.size, 3, none⟩ = some (.int .i64 q.wher.val.type) := HO0.out.cell rfl
 have c4 : w2.cell? ⟨w.heap.size, 4, none⟩ = some (.int .i64 q.wher.val.n) := HO0.out.cell rfl
 have c5 : w2.cell? ⟨w.heap.size, 5, none⟩ = some (.string q.wher.val.s) := HO0.out.cell rfl
 have c6 : w2.cell? ⟨w.heap.size, 6, none⟩ = some (.slice q.wher.A q.wher.args.length q.wher.c) := HO0.out.cell rfl
 have c7 : w2.cell? ⟨w.heap.size, 7, none⟩ = some (.int .i64 q.wher.pos) := HO0.out.cell rfl
 have c8 : w2.cell? ⟨w.heap.size, 8, none⟩ = some (.slice q.CA q.cols.length q.cc) := HO0.out.cell rfl
 have c9 : w2.cell? ⟨w.heap.size, 9, none⟩ = some (.slice q.NA q.names.length q.nc) := HO0.out.cell rfl
 have c10 : w2.cell? ⟨w.heap.size, 10, none⟩ = some (.slice q.GA q.group.length q.gc) := HO0.out.cell rfl
 have c11 : w2.cell? ⟨w.heap.size, 11, none⟩ = some (.int .i64 q.size) := HO0.out.cell rfl
 have c12 : w2.cell? ⟨w.heap.size, 12, none⟩ = some (.int .i64 q.slide) := HO0.out.cell rfl
 have c13 : w2.cell? ⟨w.heap.size, 13, none⟩ = some (.slice q.AA q.aggs.length q.ac) := HO0.out.cell rfl
 have hlq := HO0.out.lt
 have T2 := Lib.hid (printQ_any q R1 HR1.out w2 (HQ.out.keep (.of_below Hw2.out)) HSM.out (HT.out.keep Hw2.out))
 unfold qxV at T2
 go_wp2_with (first | rw [HWS.out] | rw [HWT0.out] | rw [HWT.out])
 refine (T2.out).mono ?_
 rintro e w3 ⟨hb3, hc⟩
 obtain ⟨tx, k, rfl, hck⟩ : ∃ (tx : ByteArray) (k : Int), e = .returned (.tuple #[.string tx, errV k]) ∧ ((k = 0 ∧ textErrX q = 0 ∧ OkSame R1 q ∧ text3 q = tx) ∨ k ≠ 0) := by
  rcases hc with ⟨h1, h2, rfl⟩ | ⟨-, rfl⟩
  ·exact ⟨_, 0, by rw [errV_zero], Or.inl ⟨rfl, h1, h2, rfl⟩⟩
  ·exact ⟨_, 2, rfl, Or.inr (by decide)⟩
 have HB3 := Lib.hid (below_step Hw2.out hb3)
 have HO3 := Lib.hid (HO0.out.keep hb3)
 have HCK := Lib.hid hck
 clear hb3 hc hck T2 c0 c1 c2 c3 c4 c5 c6 c7 c8 c9 c10 c11 c12 c13 hlq y0 y1 y2 y3 y4 y5 y6 y7 y8 y9 y10 y11 y12 y13 z0 z1 zf0 zf1 zl n0 e1 e2 e3 e4 hly f0 f1 hlf q0 q0' HWS HWT0 HWT HOY HOF HBT
 have QA := errVNil k
 have QA2 := errVGuard 57 k
 go_upto_if 58 with fail
 go_cut [11, 12, 13] from 58 to 73 (fun _ _ _ wx => Below w.heap.size w wx ∧ RowL wx w.heap.size 30 (qxL q))
 case first =>
  rcases HCK.out with ⟨hk0, he, ⟨pp, hpp, hps⟩, htx⟩ | hk0
  ·have qk : (k == 0) = true := beq_iff_eq.2 hk0
   have HTS := Lib.hid (text_fits HQ.out HSM.out he)
   subst hpp
   rw [htx] at HTS HR1
   have T3 := Lib.hid (parseT_any tx HTS.out HR1.out w3 (HT.out.keep HB3.out))
   have HPS := Lib.hid hps
   clear he hps htx hk0
   go_wp2_with fail
   refine (T3.out).mono ?_
   rintro e w4 ⟨hb4, y, rfl, hsy, hqp⟩
   have HB4 := Lib.hid (below_step HB3.out hb4)
   have HO4 := Lib.hid (HO3.out.keep hb4)
   have HSA := Lib.hid (show QSame (qpX y) (qpX q) by rw [hqp]; exact HPS.out)
   clear hb4 hqp T3
   unfold qxV faultV
   obtain ⟨rh, hrh⟩ : ∃ rh : Int, rh = 0 := ⟨0, rfl⟩
   obtain ⟨rp, hrp⟩ : ∃ rp : Int, rp = 0 := ⟨0, rfl⟩
   rw [show (Value.agg #[Value.int .i64 0, Value.int .i64 0]) = .agg #[.int .i64 rh, .int .i64 rp] by rw [hrh, hrp]]
   have q0 : (rh != 0) = false := by rw [hrh]; rfl
   have q0' : (rh == 0) = true := by rw [hrh]; rfl
   clear hrh hrp
   obtain ⟨ws, wt0, w5, hws, hwt0, hwt, hz0, hoy, hof, hbt⟩ := pair_boxP w4 y rh rp
   obtain ⟨z0, z1⟩ := hz0.cells
   obtain ⟨zf0, zf1⟩ := hz0.frees
   have zl := hz0.lt
   have y0 : w5.cell? ⟨w4.heap.size, 0, none⟩ = some (.string y.from_) := hoy.cell rfl
   have y1 : w5.cell? ⟨w4.heap.size, 1, none⟩ = some (.string y.wher.op) := hoy.cell rfl
   have y2 : w5.cell? ⟨w4.heap.size, 2, none⟩ = some (.string y.wher.name) := hoy.cell rfl
   have y3 : w5.cell? ⟨w4.heap.size, 3, none⟩ = some (.int .i64 y.wher.val.type) := hoy.cell rfl
   have y4 : w5.cell? ⟨w4.heap.size, 4, none⟩ = some (.int .i64 y.wher.val.n) := hoy.cell rfl
   have y5 : w5.cell? ⟨w4.heap.size, 5, none⟩ = some (.string y.wher.val.s) := hoy.cell rfl
   have y6 : w5.cell? ⟨w4.heap.size, 6, none⟩ = some (.slice y.wher.A y.wher.args.length y.wher.c) := hoy.cell rfl
   have y7 : w5.cell? ⟨w4.heap.size, 7, none⟩ = some (.int .i64 y.wher.pos) := hoy.cell rfl
   have y8 : w5.cell? ⟨w4.heap.size, 8, none⟩ = some (.slice y.CA y.cols.length y.cc) := hoy.cell rfl
   have y9 : w5.cell? ⟨w4.heap.size, 9, none⟩ = some (.slice y.NA y.names.length y.nc) := hoy.cell rfl
   have y10 : w5.cell? ⟨w4.heap.size, 10, none⟩ = some (.slice y.GA y.group.length y.gc) := hoy.cell rfl
   have y11 : w5.cell? ⟨w4.heap.size, 11, none⟩ = some (.int .i64 y.size) := hoy.cell rfl
   have y12 : w5.cell? ⟨w4.heap.size, 12, none⟩ = some (.int .i64 y.slide) := hoy.cell rfl
   have y13 : w5.cell? ⟨w4.heap.size, 13, none⟩ = some (.slice y.AA y.aggs.length y.ac) := hoy.cell rfl
   have hly := hoy.lt
   obtain ⟨f0, f1⟩ := hof.cells
   have hlf := hof.lt
   have HOY := Lib.hid hoy
   have HOF := Lib.hid hof
   have Hw5 := Lib.hid (below_step HB4.out hbt)
   have HBT := Lib.hid hbt
   have HWS := Lib.hid hws
   have HWT0 := Lib.hid hwt0
   have HWT := Lib.hid hwt
   clear hws hwt0 hwt hz0 hoy hof hbt
   have HR5 := HO4.out.keep HBT.out
   have c0 : w5.cell? ⟨w.heap.size, 0, none⟩ = some (.string q.from_) := HR5.cell rfl
   have c1 : w5.cell? ⟨w.heap.size, 1, none⟩ = some (.string q.wher.op) := HR5.cell rfl
   have c2 : w5.cell? ⟨w.heap.size, 2, none⟩ = some (.string q.wher.name) := HR5.cell rfl
   have c3 : w5.cell? ⟨w.heap.size, 3, none⟩ = some (.int .i64 q.wher.val.type) := HR5.cell rfl
   have c4 : w5.cell? ⟨w.heap.size, 4, none⟩ = some (.int .i64 q.wher.val.n) := HR5.cell rfl
   have c5 : w5.cell? ⟨w.heap.size, 5, none⟩ = some (.string q.wher.val.s) := HR5.cell rfl
   have c6 : w5.cell? ⟨w.heap.size, 6, none⟩ = some (.slice q.wher.A q.wher.args.length q.wher.c) := HR5.cell rfl
   have c7 : w5.cell? ⟨w.heap.size, 7, none⟩ = some (.int .i64 q.wher.pos) := HR5.cell rfl
   have c8 : w5.cell? ⟨w.heap.size, 8, none⟩ = some (.slice q.CA q.cols.length q.cc) := HR5.cell rfl
   have c9 : w5.cell? ⟨w.heap.size, 9, none⟩ = some (.slice q.NA q.names.length q.nc) := HR5.cell rfl
   have c10 : w5.cell? ⟨w.heap.size, 10, none⟩ = some (.slice q.GA q.group.length q.gc) := HR5.cell rfl
   have c11 : w5.cell? ⟨w.heap.size, 11, none⟩ = some (.int .i64 q.size) := HR5.cell rfl
   have c12 : w5.cell? ⟨w.heap.size, 12, none⟩ = some (.int .i64 q.slide) := HR5.cell rfl
   have c13 : w5.cell? ⟨w.heap.size, 13, none⟩ = some (.slice q.AA q.aggs.length q.ac) := HR5.cell rfl
   have hlq := HR5.lt
   have T4 := Lib.hid (likeQ_any y q w5 ((hsy.keep (.of_below HBT.out)).mono (fun _ _ => trivial)) (HQ.out.keep (.of_below Hw5.out)) HSA.out)
   unfold qxV at T4
   clear hsy HR5
   go_wp2_with (first | rw [HWS.out] | rw [HWT0.out] | rw [HWT.out])
   refine (T4.out).mono ?_
   rintro e w6 ⟨rfl, hb6⟩
   have HB6 := Lib.hid (below_step Hw5.out hb6)
   have HO6 := Lib.hid ((HO4.out.keep HBT.out).keep hb6)
   have hf6 := HOF.out.keep hb6
   obtain ⟨k0, k1⟩ := hf6.cells
   have hlk := hf6.lt
   clear hf6 hb6 y0 y1 y2 y3 y4 y5 y6 y7 y8 y9 y10 y11 y12 y13 c0 c1 c2 c3 c4 c5 c6 c7 c8 c9 c10 c11 c12 c13 hlq hly f0 f1 hlf z0 z1 zf0 zf1 zl HWS HWT0 HWT
   go_wp2_with fail
   go_meet
   exact ⟨HB6.out, HO6.out⟩
  ·have qk : (k == 0) = false := beq_eq_false_iff_ne.2 hk0
   clear hk0
   go_wp2_with fail
   go_meet
   exact ⟨HB3.out, HO3.out⟩
 case rest =>
  obtain ⟨hbc, hoc⟩ := hcut
  have HBC := Lib.hid hbc
  have HOC := Lib.hid hoc
  clear hbc hoc HR1 QA QA2 HO0 HO3 HB3 HCK
  generalize wc = wa at HBC HOC ⊢
  have c0 : wa.cell? ⟨w.heap.size, 0, none⟩ = some (.string q.from_) := HOC.out.cell rfl
  have c1 : wa.cell? ⟨w.heap.size, 1, none⟩ = some (.string q.wher.op) := HOC.out.cell rfl
  have c2 : wa.cell? ⟨w.heap.size, 2, none⟩ = some (.string q.wher.name) := HOC.out.cell rfl
  have c3 : wa.cell? ⟨w.heap.size, 3, none⟩ = some (.int .i64 q.wher.val.type) := HOC.out.cell rfl
  have c4 : wa.cell? ⟨w.heap.size, 4, none⟩ = some (.int .i64 q.wher.val.n) := HOC.out.cell rfl
  have c5 : wa.cell? ⟨w.heap.size, 5, none⟩ = some (.string q.wher.val.s) := HOC.out.cell rfl
  have c6 : wa.cell? ⟨w.heap.size, 6, none⟩ = some (.slice q.wher.A q.wher.args.length q.wher.c) := HOC.out.cell rfl
  have c7 : wa.cell? ⟨w.heap.size, 7, none⟩ = some (.int .i64 q.wher.pos) := HOC.out.cell rfl
  have c8 : wa.cell? ⟨w.heap.size, 8, none⟩ = some (.slice q.CA q.cols.length q.cc) := HOC.out.cell rfl
  have c9 : wa.cell? ⟨w.heap.size, 9, none⟩ = some (.slice q.NA q.names.length q.nc) := HOC.out.cell rfl
  have c10 : wa.cell? ⟨w.heap.size, 10, none⟩ = some (.slice q.GA q.group.length q.gc) := HOC.out.cell rfl
  have c11 : wa.cell? ⟨w.heap.size, 11, none⟩ = some (.int .i64 q.size) := HOC.out.cell rfl
  have c12 : wa.cell? ⟨w.heap.size, 12, none⟩ = some (.int .i64 q.slide) := HOC.out.cell rfl
  have c13 : wa.cell? ⟨w.heap.size, 13, none⟩ = some (.slice q.AA q.aggs.length q.ac) := HOC.out.cell rfl
  have hlq := HOC.out.lt
  have T5 := Lib.hid (qcheck_any q C p n l wa (HT.out.keep HBC.out).tab (HT.out.keep HBC.out).aggs (HC.out.keep HBC.out) HS.out (HQ.out.keep (.of_below HBC.out)) (lens_small HSM.out))
  unfold qxV at T5
  go_wp2_with fail
  refine (T5.out).mono ?_
  rintro e w3 ⟨hb3, hc⟩
  have HB3 := Lib.hid (below_step HBC.out hb3)
  have HO3 := Lib.hid (HOC.out.keep hb3)
  obtain ⟨CA, LN, cc, k, rfl, hck⟩ : ∃ (CA : Option Addr) (LN cc : Nat) (k : Int), e = .returned (.tuple #[.slice CA LN cc, errV k]) ∧ ((k = 0 ∧ SeesCols w3 CA LN cc (colsOut q l) ∧ schemaErr (colsOut q l) = 0 ∧ LN = q.names.length + q.group.length + q.aggs.length ∧ q.names.length + q.group.length + q.aggs.length ≤ 6) ∨ k ≠ 0) := by
   by_cases hwq : wrongQ q l = 0
   ·rw [if_neg (fun h => h hwq)] at hc
    obtain ⟨CA, cc, rfl, hsc⟩ := hc
    obtain ⟨h1, h2, h3, h4⟩ := outsQ_len hwq
    exact ⟨CA, _, cc, 0, by rw [errV_zero], Or.inl ⟨rfl, hsc, h2, h3, h4⟩⟩
   ·rw [if_pos hwq] at hc
    subst hc
    exact ⟨none, 0, 0, _, rfl, Or.inr hwq⟩
  have HCK := Lib.hid hck
  clear hb3 hc hck T5 c0 c1 c2 c3 c4 c5 c6 c7 c8 c9 c10 c11 c12 c13 hlq
  have QA := errVNil k
  have QA2 := errVGuard 80 k
  go_upto_region 11 with fail
  go_cut [102] from 80 to 101 (fun s wx => s = .bool false ∧ Below w.heap.size w wx)
  case first =>
   rcases HCK.out with ⟨hk0, hsc, h2, h3, h4⟩ | hk0
   ·have qk : (k == 0) = true := beq_iff_eq.2 hk0
    have T6 := Lib.hid (rschema_any (colsOut q l) CA LN cc w3 hsc (colsOut_fit HQ.out.sizes.2.1 HQ.out.sizes.2.2.1 (fun a ha => (HQ.out.sizes.2.2.2 a ha).2)))
    rw [h2, errV_zero] at T6
    have HLN := Lib.hid h3
    clear hk0 hsc h2 h3
    go_wp2_with fail
    refine (T6.out).mono ?_
    rintro e w4 ⟨rfl, hb4⟩
    have HB4 := Lib.hid (below_step HB3.out hb4)
    have HR4 := HO3.out.keep hb4
    have c9 : w4.cell? ⟨w.heap.size, 9, none⟩ = some (.slice q.NA q.names.length q.nc) := HR4.cell rfl
    have c10 : w4.cell? ⟨w.heap.size, 10, none⟩ = some (.slice q.GA q.group.length q.gc) := HR4.cell rfl
    have c13 : w4.cell? ⟨w.heap.size, 13, none⟩ = some (.slice q.AA q.aggs.length q.ac) := HR4.cell rfl
    have hlq := HR4.lt
    have q9 : ((LN : Int) != ((q.names.length : Int) + q.group.length + q.aggs.length)) = false := by have := HLN.out; simp; omega
    clear HR4 hb4
    go_wp2_with fail
    go_meet
    exact ⟨by first | rfl | simp [q9] | simp, HB4.out⟩
   ·have qk : (k == 0) = false := beq_eq_false_iff_ne.2 hk0
    clear hk0
    go_wp2_with fail
    go_meet
    exact ⟨by first | rfl | simp, HB3.out⟩
  case rest =>
   obtain ⟨rfl, hbd⟩ := hcut
   have HBD := Lib.hid hbd
   clear hbd HOC HBC HC HS HO3 HB3 HCK QA QA2
   have T7 := Lib.hid (parseT_any s (by unfold maxLen; omega) HR3.out wc (HT.out.keep HBD.out))
   go_wp2_with fail
   refine (T7.out).mono ?_
   rintro e w3 ⟨hb3, hc⟩
   have HB3 := Lib.hid (below_step HBD.out hb3)
   clear T7
   cases R3 with
   | error hp =>
    obtain ⟨rh, rp⟩ := hp
    have hc : e = .returned (.tuple #[qxV zeroQX, faultV rh rp]) := hc
    obtain ⟨y, hy⟩ : ∃ y, zeroQX = y := ⟨_, rfl⟩
    rw [hy] at hc
    subst hc
    obtain ⟨hr1, hr2, hr3⟩ := qry_wrong HR3.out
    have q0 : (rh != 0) = true := by simpa using hr1
    have q1 : (decide (0 ≤ rp)) = true := decide_eq_true hr2
    have e5 : s.data.toList.length = s.size := rfl
    have q2 : (decide (rp ≤ (s.size : Int))) = true := decide_eq_true (by omega)
    clear hy hb3 hr1 hr2 hr3 e5
    unfold qxV faultV
    obtain ⟨ws, wt0, w4, hws, hwt0, hwt, hz0, hoy, hof, hbt⟩ := pair_boxP w3 y rh rp
    obtain ⟨z0, z1⟩ := hz0.cells
    obtain ⟨zf0, zf1⟩ := hz0.frees
    have zl := hz0.lt
    have y0 : w4.cell? ⟨w3.heap.size, 0, none⟩ = some (.string y.from_) := hoy.cell rfl
    have y1 : w4.cell? ⟨w3.heap.size, 1, none⟩ = some (.string y.wher.op) := hoy.cell rfl
    have y2 : w4.cell? ⟨w3.heap.size, 2, none⟩ = some (.string y.wher.name) := hoy.cell rfl
    have y3 : w4.cell? ⟨w3.heap.size, 3, none⟩ = some (.int .i64 y.wher.val.type) := hoy.cell rfl
    have y4 : w4.cell? ⟨w3.heap.size, 4, none⟩ = some (.int .i64 y.wher.val.n) := hoy.cell rfl
    have y5 : w4.cell? ⟨w3.heap.size, 5, none⟩ = some (.string y.wher.val.s) := hoy.cell rfl
    have y6 : w4.cell? ⟨w3.heap.size, 6, none⟩ = some (.slice y.wher.A y.wher.args.length y.wher.c) := hoy.cell rfl
    have y7 : w4.cell? ⟨w3.heap.size, 7, none⟩ = some (.int .i64 y.wher.pos) := hoy.cell rfl
    have y8 : w4.cell? ⟨w3.heap.size, 8, none⟩ = some (.slice y.CA y.cols.length y.cc) := hoy.cell rfl
    have y9 : w4.cell? ⟨w3.heap.size, 9, none⟩ = some (.slice y.NA y.names.length y.nc) := hoy.cell rfl
    have y10 : w4.cell? ⟨w3.heap.size, 10, none⟩ = some (.slice y.GA y.group.length y.gc) := hoy.cell rfl
    have y11 : w4.cell? ⟨w3.heap.size, 11, none⟩ = some (.int .i64 y.size) := hoy.cell rfl
    have y12 : w4.cell? ⟨w3.heap.size, 12, none⟩ = some (.int .i64 y.slide) := hoy.cell rfl
    have y13 : w4.cell? ⟨w3.heap.size, 13, none⟩ = some (.slice y.AA y.aggs.length y.ac) := hoy.cell rfl
    have hly := hoy.lt
    obtain ⟨f0, f1⟩ := hof.cells
    have hlf := hof.lt
    have HOY := Lib.hid hoy
    have HOF := Lib.hid hof
    have Hw4 := Lib.hid (below_step HB3.out hbt)
    have HBT := Lib.hid hbt
    have HWS := Lib.hid hws
    have HWT0 := Lib.hid hwt0
    have HWT := Lib.hid hwt
    clear hws hwt0 hwt hz0 hoy hof hbt
    go_wp2_with (first | rw [HWS.out] | rw [HWT0.out] | rw [HWT.out])
    go_ret
    exact ⟨by first | rfl | simp [q2] | simp, Hw4.out⟩
   | ok pp =>
    obtain ⟨y, rfl, hsy, hqp⟩ := hc
    have HQP := Lib.hid (show QryIs s.data.toList (.ok (qpX y)) by rw [hqp]; exact HR3.out)
    obtain ⟨R4, hR4⟩ := qry_all (text3 y).data.toList
    have HR4 := Lib.hid hR4
    clear hb3 hqp hR4
    unfold qxV faultV
    obtain ⟨rh, hrh⟩ : ∃ rh : Int, rh = 0 := ⟨0, rfl⟩
    obtain ⟨rp, hrp⟩ : ∃ rp : Int, rp = 0 := ⟨0, rfl⟩
    rw [show (Value.agg #[Value.int .i64 0, Value.int .i64 0]) = .agg #[.int .i64 rh, .int .i64 rp] by rw [hrh, hrp]]
    have q0 : (rh != 0) = false := by rw [hrh]; rfl
    have q0' : (rh == 0) = true := by rw [hrh]; rfl
    clear hrh hrp
    obtain ⟨ws, wt0, w4, hws, hwt0, hwt, hz0, hoy, hof, hbt⟩ := pair_boxP w3 y rh rp
    obtain ⟨z0, z1⟩ := hz0.cells
    obtain ⟨zf0, zf1⟩ := hz0.frees
    have zl := hz0.lt
    have y0 : w4.cell? ⟨w3.heap.size, 0, none⟩ = some (.string y.from_) := hoy.cell rfl
    have y1 : w4.cell? ⟨w3.heap.size, 1, none⟩ = some (.string y.wher.op) := hoy.cell rfl
    have y2 : w4.cell? ⟨w3.heap.size, 2, none⟩ = some (.string y.wher.name) := hoy.cell rfl
    have y3 : w4.cell? ⟨w3.heap.size, 3, none⟩ = some (.int .i64 y.wher.val.type) := hoy.cell rfl
    have y4 : w4.cell? ⟨w3.heap.size, 4, none⟩ = some (.int .i64 y.wher.val.n) := hoy.cell rfl
    have y5 : w4.cell? ⟨w3.heap.size, 5, none⟩ = some (.string y.wher.val.s) := hoy.cell rfl
    have y6 : w4.cell? ⟨w3.heap.size, 6, none⟩ = some (.slice y.wher.A y.wher.args.length y.wher.c) := hoy.cell rfl
    have y7 : w4.cell? ⟨w3.heap.size, 7, none⟩ = some (.int .i64 y.wher.pos) := hoy.cell rfl
    have y8 : w4.cell? ⟨w3.heap.size, 8, none⟩ = some (.slice y.CA y.cols.length y.cc) := hoy.cell rfl
    have y9 : w4.cell? ⟨w3.heap.size, 9, none⟩ = some (.slice y.NA y.names.length y.nc) := hoy.cell rfl
    have y10 : w4.cell? ⟨w3.heap.size, 10, none⟩ = some (.slice y.GA y.group.length y.gc) := hoy.cell rfl
    have y11 : w4.cell? ⟨w3.heap.size, 11, none⟩ = some (.int .i64 y.size) := hoy.cell rfl
    have y12 : w4.cell? ⟨w3.heap.size, 12, none⟩ = some (.int .i64 y.slide) := hoy.cell rfl
    have y13 : w4.cell? ⟨w3.heap.size, 13, none⟩ = some (.slice y.AA y.aggs.length y.ac) := hoy.cell rfl
    have hly := hoy.lt
    obtain ⟨f0, f1⟩ := hof.cells
    have hlf := hof.lt
    have HOY := Lib.hid hoy
    have HOF := Lib.hid hof
    have Hw4 := Lib.hid (below_step HB3.out hbt)
    have HBT := Lib.hid hbt
    have HWS := Lib.hid hws
    have HWT0 := Lib.hid hwt0
    have HWT := Lib.hid hwt
    clear hws hwt0 hwt hz0 hoy hof hbt
    have HSY := Lib.hid ((hsy.keep (.of_below HBT.out)).mono (fun _ _ => trivial) : SeesQ (fun _ => True) w4 y)
    have HSMY := Lib.hid (small_read HQP.out)
    have T8 := Lib.hid (printQ_any y R4 HR4.out w4 HSY.out HSMY.out (HT.out.keep Hw4.out))
    unfold qxV at T8
    clear hsy
    go_wp2_with (first | rw [HWS.out] | rw [HWT0.out] | rw [HWT.out])
    refine (T8.out).mono ?_
    rintro e w5 ⟨hb5, hc⟩
    have HB5 := Lib.hid (below_step Hw4.out hb5)
    have HOY5 := Lib.hid (HOY.out.keep hb5)
    replace HSY := Lib.hid (HSY.out.keep (.of_below hb5))
    clear hb5 T8 y0 y1 y2 y3 y4 y5 y6 y7 y8 y9 y10 y11 y12 y13 hly f0 f1 hlf z0 z1 zf0 zf1 zl HWS HWT0 HWT HOY HOF HBT q0 q0'
    rcases hc with ⟨he, ⟨p2, rfl, hps⟩, rfl⟩ | ⟨hno, rfl⟩
    ·have HTS := Lib.hid (text_fits HSY.out HSMY.out he)
     obtain ⟨tx, htx⟩ : ∃ tx, text3 y = tx := ⟨_, rfl⟩
     rw [htx] at HTS HR4 ⊢
     have T9 := Lib.hid (parseT_any tx HTS.out HR4.out w5 (HT.out.keep HB5.out))
     have HPS := Lib.hid hps
     clear he hps htx
     go_wp2_with fail
     refine (T9.out).mono ?_
     rintro e w6 ⟨hb6, x, rfl, hsx, hqp⟩
     have HB6 := Lib.hid (below_step HB5.out hb6)
     have HOY6 := Lib.hid (HOY5.out.keep hb6)
     replace HSY := Lib.hid (HSY.out.keep (.of_below hb6))
     have HSA := Lib.hid (show QSame (qpX x) (qpX y) by rw [hqp]; exact HPS.out)
     clear hb6 hqp T9
     unfold qxV faultV
     obtain ⟨rh, hrh⟩ : ∃ rh : Int, rh = 0 := ⟨0, rfl⟩
     obtain ⟨rp, hrp⟩ : ∃ rp : Int, rp = 0 := ⟨0, rfl⟩
     rw [show (Value.agg #[Value.int .i64 0, Value.int .i64 0]) = .agg #[.int .i64 rh, .int .i64 rp] by rw [hrh, hrp]]
     have q0 : (rh != 0) = false := by rw [hrh]; rfl
     have q0' : (rh == 0) = true := by rw [hrh]; rfl
     clear hrh hrp
     obtain ⟨ws, wt0, w7, hws, hwt0, hwt, hz0, hoy, hof, hbt⟩ := pair_boxP w6 x rh rp
     obtain ⟨z0, z1⟩ := hz0.cells
     obtain ⟨zf0, zf1⟩ := hz0.frees
     have zl := hz0.lt
     have x0 : w7.cell? ⟨w6.heap.size, 0, none⟩ = some (.string x.from_) := hoy.cell rfl
     have x1 : w7.cell? ⟨w6.heap.size, 1, none⟩ = some (.string x.wher.op) := hoy.cell rfl
     have x2 : w7.cell? ⟨w6.heap.size, 2, none⟩ = some (.string x.wher.name) := hoy.cell rfl
     have x3 : w7.cell? ⟨w6.heap.size, 3, none⟩ = some (.int .i64 x.wher.val.type) := hoy.cell rfl
     have x4 : w7.cell? ⟨w6.heap.size, 4, none⟩ = some (.int .i64 x.wher.val.n) := hoy.cell rfl
     have x5 : w7.cell? ⟨w6.heap.size, 5, none⟩ = some (.string x.wher.val.s) := hoy.cell rfl
     have x6 : w7.cell? ⟨w6.heap.size, 6, none⟩ = some (.slice x.wher.A x.wher.args.length x.wher.c) := hoy.cell rfl
     have x7 : w7.cell? ⟨w6.heap.size, 7, none⟩ = some (.int .i64 x.wher.pos) := hoy.cell rfl
     have x8 : w7.cell? ⟨w6.heap.size, 8, none⟩ = some (.slice x.CA x.cols.length x.cc) := hoy.cell rfl
     have x9 : w7.cell? ⟨w6.heap.size, 9, none⟩ = some (.slice x.NA x.names.length x.nc) := hoy.cell rfl
     have x10 : w7.cell? ⟨w6.heap.size, 10, none⟩ = some (.slice x.GA x.group.length x.gc) := hoy.cell rfl
     have x11 : w7.cell? ⟨w6.heap.size, 11, none⟩ = some (.int .i64 x.size) := hoy.cell rfl
     have x12 : w7.cell? ⟨w6.heap.size, 12, none⟩ = some (.int .i64 x.slide) := hoy.cell rfl
     have x13 : w7.cell? ⟨w6.heap.size, 13, none⟩ = some (.slice x.AA x.aggs.length x.ac) := hoy.cell rfl
     have hly := hoy.lt
     obtain ⟨f0, f1⟩ := hof.cells
     have hlf := hof.lt
     have HOY := Lib.hid hoy
     have HOF := Lib.hid hof
     have Hw7 := Lib.hid (below_step HB6.out hbt)
     have HBT := Lib.hid hbt
     have HWS := Lib.hid hws
     have HWT0 := Lib.hid hwt0
     have HWT := Lib.hid hwt
     clear hws hwt0 hwt hz0 hoy hof hbt
     have HR7 := HOY6.out.keep HBT.out
     have c0 : w7.cell? ⟨w3.heap.size, 0, none⟩ = some (.string y.from_) := HR7.cell rfl
     have c1 : w7.cell? ⟨w3.heap.size, 1, none⟩ = some (.string y.wher.op) := HR7.cell rfl
     have c2 : w7.cell? ⟨w3.heap.size, 2, none⟩ = some (.string y.wher.name) := HR7.cell rfl
     have c3 : w7.cell? ⟨w3.heap.size, 3, none⟩ = some (.int .i64 y.wher.val.type) := HR7.cell rfl
     have c4 : w7.cell? ⟨w3.heap.size, 4, none⟩ = some (.int .i64 y.wher.val.n) := HR7.cell rfl
     have c5 : w7.cell? ⟨w3.heap.size, 5, none⟩ = some (.string y.wher.val.s) := HR7.cell rfl
     have c6 : w7.cell? ⟨w3.heap.size, 6, none⟩ = some (.slice y.wher.A y.wher.args.length y.wher.c) := HR7.cell rfl
     have c7 : w7.cell? ⟨w3.heap.size, 7, none⟩ = some (.int .i64 y.wher.pos) := HR7.cell rfl
     have c8 : w7.cell? ⟨w3.heap.size, 8, none⟩ = some (.slice y.CA y.cols.length y.cc) := HR7.cell rfl
     have c9 : w7.cell? ⟨w3.heap.size, 9, none⟩ = some (.slice y.NA y.names.length y.nc) := HR7.cell rfl
     have c10 : w7.cell? ⟨w3.heap.size, 10, none⟩ = some (.slice y.GA y.group.length y.gc) := HR7.cell rfl
     have c11 : w7.cell? ⟨w3.heap.size, 11, none⟩ = some (.int .i64 y.size) := HR7.cell rfl
     have c12 : w7.cell? ⟨w3.heap.size, 12, none⟩ = some (.int .i64 y.slide) := HR7.cell rfl
     have c13 : w7.cell? ⟨w3.heap.size, 13, none⟩ = some (.slice y.AA y.aggs.length y.ac) := HR7.cell rfl
     have hlq := HR7.lt
     have T10 := Lib.hid (likeQ_any x y w7 ((hsx.keep (.of_below HBT.out)).mono (fun _ _ => trivial)) (HSY.out.keep (.of_below HBT.out)) HSA.out)
     unfold qxV at T10
     clear hsx HR7
     go_wp2_with (first | rw [HWS.out] | rw [HWT0.out] | rw [HWT.out])
     refine (T10.out).mono ?_
     rintro e w8 ⟨rfl, hb8⟩
     have HB8 := Lib.hid (below_step Hw7.out hb8)
     have hf8 := HOF.out.keep hb8
     obtain ⟨k0, k1⟩ := hf8.cells
     have hlk := hf8.lt
     clear hf8 hb8 x0 x1 x2 x3 x4 x5 x6 x7 x8 x9 x10 x11 x12 x13 c0 c1 c2 c3 c4 c5 c6 c7 c8 c9 c10 c11 c12 c13 hlq hly f0 f1 hlf z0 z1 zf0 zf1 zl HWS HWT0 HWT
     go_wp2_with fail
     go_ret
     exact ⟨by first | rfl | simp, HB8.out⟩
    ·have e5 : s.data.toList.length = s.size := rfl
     have q2 : (decide ((100 : Int) < (s.size : Int))) = true := decide_eq_true (by
      by_cases hl : s.data.toList.length ≤ 100
      ·obtain ⟨h1, r, h2, h3⟩ := back_read HQP.out HSY.out hl
       exact absurd ⟨h1, r, qry_one HR4.out h2, h3⟩ hno
      ·omega)
     have q3 : (decide (100 < s.size)) = true := decide_eq_true (by have := of_decide_eq_true q2; omega)
     clear hno e5
     go_wp2_with fail
     go_ret
     exact ⟨by first | rfl | simp [q2] | simp [q3], HB5.out⟩
end Go.Proofs.YtpbbkpfaphjdoaaGreatDoor.queryBack
