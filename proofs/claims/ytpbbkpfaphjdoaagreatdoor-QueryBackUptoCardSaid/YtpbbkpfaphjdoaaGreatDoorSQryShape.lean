/- query.exprs, and whether one of them is full, walked. window.Check and query.shape, walked. -/
import Derived.Test.YtpbbkpfaphjdoaaGreatDoorSQryRead
import Derived.Test.YtpbbkpfaphjdoaaGreatDoorSLexTok
namespace Go.Proofs.YtpbbkpfaphjdoaaGreatDoor
open Go.ChangeShapes Go.WideShapes Go.ChangeAt Go.RowKit
def fullE (e : Ex) : Bool := checkErr e == 4
set_option maxHeartbeats 1000000 in
set_option maxRecDepth 100000 in
theorem parse2_any (e : Ex) (w : World) (hL : LevelsT w) (hW : WordsT w) (he : SeesEx w e) : Calls Tryz.prog 44 #[exV e] w fun r w' => r = .returned (.bool (fullE e)) ∧ Below w.heap.size w w' := by
 obtain ⟨w0, hw0, ho0, hb0, -⟩ := box_ex w e
 have T := Lib.hid (check_any e w0 (hL.keep hb0) (hW.keep hb0) (he.keep hb0))
 unfold NodeSays at T
 obtain ⟨c0, c1, c2, c3, c4, c5, c6⟩ := ho0.cells
 have hl := ho0.lt
 have HB := Lib.hid hb0
 have HW0 := Lib.hid hw0
 have QA := errVEq (checkErr e) 4 (by decide)
 have HF := Lib.hid (show fullE e = (checkErr e == 4) from rfl)
 clear hL hW he hw0 ho0 hb0
 unfold exV at T ⊢
 generalize checkErr e = k at T QA HF
 go_enter Tryz.func44, Tryz.ntmps44
 go_wp2_with (first | rw [HW0.out])
 refine (T.out).mono ?_
 rintro r w1 ⟨rfl, hb1⟩
 have HB1 := Lib.hid (below_step HB.out hb1)
 clear hb1
 by_cases hk : k = 0
 ·subst hk
  rw [errV_zero] at QA ⊢
  go_wp2_with fail
  go_ret
  exact ⟨by rw [HF.out]; rfl, HB1.out⟩
 ·rw [errV_ne hk] at QA ⊢
  go_wp2_with fail
  go_ret
  exact ⟨by rw [HF.out]; rfl, HB1.out⟩
set_option maxHeartbeats 1000000 in
set_option maxRecDepth 100000 in
theorem idx_full (e : Ex) (w : World) (hL : LevelsT w) (hW : WordsT w) (he : SeesEx w e) :
  Calls Tryz.prog 110 #[.slice e.A e.args.length e.c, .func (.func 44) #[] #[]] w
   fun r w' => r = .returned (.int .i64 (findB fullE e.args)) ∧ Below w.heap.size w w' := by
 obtain ⟨op, name, v, A, c, args, pos⟩ := e
 have HE := Lib.hid he
 have HT := Lib.hid (And.intro hL hW)
 have hcap : args.length ≤ c := he.parts.1.2.1
 have hmax : c ≤ maxLen := he.parts.1.2.2.1
 unfold maxLen at hmax
 show Calls Tryz.prog 110 #[.slice A args.length c, .func (.func 44) #[] #[]] w
   fun r w' => r = .returned (.int .i64 (findB fullE args)) ∧ Below w.heap.size w w'
 generalize hn : args.length = n at hcap HE ⊢
 have HLn := Lib.hid hn
 clear he hn hL hW
 go_enter Tryz.func110, Tryz.ntmps110
 go_wp2_with fail
 go_loopw [5, 8] (fun _ i wr => ∃ k : Nat, k ≤ n ∧ i = .int .i64 k ∧ (∀ x ∈ args.take k, fullE x = false) ∧ Below w.heap.size w wr) (fun _ i _ => n - (intOf i).toNat)
 case atStart => exact ⟨0, by omega, rfl, by simp, Below.refl _ _⟩
 case round =>
  obtain ⟨k, hk, rfl, hno, hb⟩ := hrel
  have HN := Lib.hid hno
  have HBR := Lib.hid hb
  clear hno
  by_cases hlk : k < n
  ·obtain ⟨g, o, x, (rfl : A = _), hg, hx, hsx, c0, c1, c2, c3, c4, c5, c6⟩ := (HE.out.keep hb).at_ (k := k) (by show k < args.length; rw [HLn.out]; exact hlk)
   have HX := Lib.hid (show args[k]? = some x from hx)
   have T := Lib.hid (parse2_any x wr (HT.out.1.keep hb) (HT.out.2.keep hb) hsx)
   unfold exV at T
   clear hb hx hsx
   generalize hB : fullE x = r at T
   cases r with
   | true =>
    have E := Lib.hid (findB_some HN.out HX.out hB)
    clear hB
    go_wp2_with fail
    refine (T.out).mono ?_
    rintro e' w1 ⟨rfl, hb1⟩
    have HB1 := Lib.hid (below_step HBR.out hb1)
    clear hb1
    go_wp2_with fail
    go_ret
    exact ⟨by rw [E.out]; rfl, HB1.out⟩
   | false =>
    have HB := Lib.hid hB
    clear hB
    go_wp2_with fail
    refine (T.out).mono ?_
    rintro e' w1 ⟨rfl, hb1⟩
    have HB1 := Lib.hid (below_step HBR.out hb1)
    clear hb1
    go_wp2_with fail
    go_roundw
    case rel => exact ⟨k + 1, by omega, by go_num, take_next HN.out HX.out HB.out, HB1.out⟩
    case measure => simp [intOf]; omega
  ·have E := Lib.hid (findB_none (p := fullE) (l := args) (by have := HN.out; rwa [List.take_of_length_le (by rw [HLn.out]; omega)] at this))
   clear hb
   go_wp2_with fail
   go_ret
   exact ⟨by rw [E.out]; rfl, HBR.out⟩
set_option maxRecDepth 100000 in
theorem any_full (A : Option Addr) (n c : Nat) (l : List Ex) (w : World) (hL : LevelsT w) (hW : WordsT w) (hs : Sees w A n c 7 (exsCells l)) (hl : ∀ x ∈ l, SeesEx w x) :
  Calls Tryz.prog 42 #[.slice A n c, .func (.func 44) #[] #[]] w
   fun r w' => r = .returned (.bool (l.any fullE)) ∧ Below w.heap.size w w' := by
 have hn : l.length = n := by have := hs.1; rw [exsCells_length] at this; omega
 subst hn
 have T := Lib.hid (idx_full (.mk ⟨#[]⟩ ⟨#[]⟩ noVal A c l 0) w hL hW (.mk hs (Nat.zero_le _) (Nat.zero_le _) ⟨show fits 0 by decide, show fits 0 by decide, Nat.zero_le _⟩ (show fits 0 by decide) hl))
 unfold Ex.A Ex.c Ex.args at T
 have E := Lib.hid (findB_any fullE l)
 clear hL hW hs hl
 generalize l.length = n at T ⊢
 generalize findB fullE l = r at T E ⊢
 go_enter Tryz.func42, Tryz.ntmps42
 go_wp2_with fail
 refine (T.out).mono ?_
 rintro e' w1 ⟨rfl, hb1⟩
 have HB1 := Lib.hid hb1
 clear hb1
 go_wp2_with fail
 go_ret
 exact ⟨by rw [← E.out]; rfl, HB1.out⟩
theorem own_base {w : World} {B B' e size n : Nat} {v : Value} {xs : List Value} (h : w.ownsRow B e size v n xs) (hB : B' ≤ B) : w.ownsRow B' e size v n xs := by
 refine ⟨h.1, ?_⟩
 rcases h.2 with h2 | ⟨g, cap, cur, h1, h2, h3⟩
 ·exact Or.inl h2
 ·exact Or.inr ⟨g, cap, cur, h1, Nat.le_trans hB h2, h3⟩
theorem aggXs_length (l : List AggX) : (aggXs l).length = l.length * 9 := by
 induction l with
 | nil => rfl
 | cons c l ih => simp only [aggXs, List.flatMap_cons, List.length_append, List.length_cons] at *; simp [aggXL, ih]; omega
theorem aggXs_at : ∀ {l : List AggX} {k : Nat} {e : AggX}, l[k]? = some e → ∀ j u, (aggXL e)[j]? = some u → (aggXs l)[k * 9 + j]? = some u
 | x :: l, 0, c, h, j, u, hu => by
  simp at h; subst h
  have hj : j < 9 := (List.getElem?_eq_some_iff.1 hu).1
  rw [Nat.zero_mul, Nat.zero_add]
  show (aggXL x ++ aggXs l)[j]? = some u
  rw [List.getElem?_append_left (by exact hj)]; exact hu
 | x :: l, k + 1, c, h, j, u, hu => by
  have ih := aggXs_at (l := l) (k := k) (by simpa using h) j u hu
  show (aggXL x ++ aggXs l)[(k + 1) * 9 + j]? = some u
  rw [List.getElem?_append_right (by show 9 ≤ _; omega), show (k + 1) * 9 + j - (aggXL x).length = k * 9 + j by show (k + 1) * 9 + j - 9 = _; omega]
  exact ih
 | [], k, c, h, _, _, _ => by simp at h
theorem aggs_at {w : World} {A : Option Addr} {n c : Nat} {l : List AggX} (hs : Sees w A n c 9 (aggXs l)) {k : Nat} (hk : k < n) :
  ∃ g o x, A = some ⟨g, o, none⟩ ∧ g < w.heap.size ∧ l[k]? = some x ∧
   w.cell? ⟨g, o + k * 9, none⟩ = some (.string x.what) ∧ w.cell? ⟨g, o + k * 9 + 1, none⟩ = some (.string x.of.op) ∧ w.cell? ⟨g, o + k * 9 + 2, none⟩ = some (.string x.of.name) ∧
   w.cell? ⟨g, o + k * 9 + 3, none⟩ = some (.int .i64 x.of.val.type) ∧ w.cell? ⟨g, o + k * 9 + 4, none⟩ = some (.int .i64 x.of.val.n) ∧ w.cell? ⟨g, o + k * 9 + 5, none⟩ = some (.string x.of.val.s) ∧
   w.cell? ⟨g, o + k * 9 + 6, none⟩ = some (.slice x.of.A x.of.args.length x.of.c) ∧ w.cell? ⟨g, o + k * 9 + 7, none⟩ = some (.int .i64 x.of.pos) ∧ w.cell? ⟨g, o + k * 9 + 8, none⟩ = some (.string x.name) := by
 have hln : l.length = n := by have := hs.1; rw [aggXs_length] at this; omega
 obtain ⟨g, o, e1, hg, hc⟩ := hs.2.2.2.2 (by omega)
 have hl : l[k]? = some l[k] := List.getElem?_eq_getElem (by omega)
 have key := fun j u hu => hc (k * 9 + j) u (aggXs_at hl j u hu)
 refine ⟨g, o, _, e1, hg, hl, key 0 _ rfl, ?_, ?_, ?_, ?_, ?_, ?_, ?_, ?_⟩
 ·exact key 1 _ rfl
 ·exact key 2 _ rfl
 ·exact key 3 _ rfl
 ·exact key 4 _ rfl
 ·exact key 5 _ rfl
 ·exact key 6 _ rfl
 ·exact key 7 _ rfl
 ·exact key 8 _ rfl
def hasOp (e : Ex) : Bool := !e.op.data.toList.isEmpty
def exprsX (q : QX) : List Ex := q.cols ++ (if hasOp q.wher = true then [q.wher] else []) ++ (q.aggs.filter fun a => hasOp a.of).map (·.of)
theorem box_q (w : World) (q : QX) : ∃ w0, w.alloc (.cells #[.string q.from_, .string q.wher.op, .string q.wher.name, .int .i64 q.wher.val.type, .int .i64 q.wher.val.n, .string q.wher.val.s, .slice q.wher.A q.wher.args.length q.wher.c, .int .i64 q.wher.pos, .slice q.CA q.cols.length q.cc, .slice q.NA q.names.length q.nc, .slice q.GA q.group.length q.gc, .int .i64 q.size, .int .i64 q.slide, .slice q.AA q.aggs.length q.ac] 30) = w0 ∧ RowL w0 w.heap.size 30 (qxL q) ∧ Below w.heap.size w w0 :=
 ⟨_, rfl, rowL_new w _ (qxL q), belowNew' _ _⟩
def ExprsSays (q : QX) (w : World) (r : Ending) (w' : World) : Prop := ∃ v, r = .returned v ∧ w'.ownsRow w.heap.size 26 7 v (exprsX q).length (exsCells (exprsX q)) ∧ Below w.heap.size w w'
set_option maxHeartbeats 4000000 in
set_option maxRecDepth 100000 in
theorem exprs_any (q : QX) (w : World) (hq : SeesQ (fun _ => True) w q) (hn : q.cols.length ≤ 1000000 ∧ q.aggs.length ≤ 1000000) : Calls Tryz.prog 43 #[qxV q] w (ExprsSays q w) := by
 obtain ⟨w0, hw0, ho0, hb0⟩ := box_q w q
 have T1 := Lib.hid (cloneEx_any q.CA q.cols.length q.cc q.cols w0 (hq.cols.1.keep hb0) hn.1)
 have HQ := Lib.hid hq
 have HN := Lib.hid hn
 have HB0 := Lib.hid hb0
 have HO0 := Lib.hid ho0
 have HW0 := Lib.hid hw0
 have c8 : w0.cell? ⟨w.heap.size, 8, none⟩ = some (.slice q.CA q.cols.length q.cc) := ho0.cell rfl
 have hl0 := ho0.lt
 clear hq hw0 ho0 hb0
 unfold qxV
 unfold CloneExSays at T1
 go_enter Tryz.func43, Tryz.ntmps43
 go_wp2_with (first | rw [HW0.out])
 refine (T1.out).mono ?_
 rintro e' w1 ⟨v1, rfl, hr1, hb1⟩
 have HR1 := Lib.hid hr1
 have HB1 := Lib.hid hb1
 have HO1 := Lib.hid (HO0.out.keep hb1)
 clear hr1 hb1 T1 c8 hl0
 have c1 : w1.cell? ⟨w.heap.size, 1, none⟩ = some (.string q.wher.op) := HO1.out.cell rfl
 have c2 : w1.cell? ⟨w.heap.size, 2, none⟩ = some (.string q.wher.name) := HO1.out.cell rfl
 have c3 : w1.cell? ⟨w.heap.size, 3, none⟩ = some (.int .i64 q.wher.val.type) := HO1.out.cell rfl
 have c4 : w1.cell? ⟨w.heap.size, 4, none⟩ = some (.int .i64 q.wher.val.n) := HO1.out.cell rfl
 have c5 : w1.cell? ⟨w.heap.size, 5, none⟩ = some (.string q.wher.val.s) := HO1.out.cell rfl
 have c6 : w1.cell? ⟨w.heap.size, 6, none⟩ = some (.slice q.wher.A q.wher.args.length q.wher.c) := HO1.out.cell rfl
 have c7 : w1.cell? ⟨w.heap.size, 7, none⟩ = some (.int .i64 q.wher.pos) := HO1.out.cell rfl
 have hl1 := HO1.out.lt
 obtain ⟨b, hb⟩ : ∃ b, q.wher.op.toList.isEmpty = b := ⟨_, rfl⟩
 have HB := Lib.hid (show hasOp q.wher = !b by rw [← hb, Lib.toList_data]; rfl)
 have hnc := hn.1
 have hna := hn.2
 obtain ⟨L0, hL0⟩ : ∃ L0 : List Ex, L0 = q.cols ++ (if hasOp q.wher = true then [q.wher] else []) := ⟨_, rfl⟩
 have HL0 := Lib.hid hL0
 have HLN := Lib.hid (show L0.length ≤ 1000001 by rw [hL0]; split <;> simp <;> omega)
 clear hL0
 go_upto_if 12 with fail
 go_cut [3] from 13 to 17 (fun s3 wx => wx.ownsRow w0.heap.size 26 7 s3 L0.length (exsCells L0) ∧ Below w0.heap.size w0 wx)
 case first =>
  cases b with
  | true =>
   go_wp2_with fail
   go_meet
   rw [HL0.out, HB.out]
   exact ⟨by simpa using HR1.out, HB1.out⟩
  | false =>
   go_wp2_with (at_builtin; refine wpList_append_one exSlice rfl (.tmp 13) (.tmp 16) rfl (B := w0.heap.size) (w0 := w0) (wr := w1) (v := v1) (n := q.cols.length) (xs := exsCells q.cols) (cs := #[.string q.wher.op, .string q.wher.name, .int .i64 q.wher.val.type, .int .i64 q.wher.val.n, .string q.wher.val.s, .slice q.wher.A q.wher.args.length q.wher.c, .int .i64 q.wher.pos]) rfl rfl HR1.out HB1.out (Nat.le_refl _) rfl (exs_cell' [q.wher]) (by omega) ?_; intro v2 w2 hown2 hb2 _; have HOWN := Lib.hid hown2; have HB2 := Lib.hid hb2; clear hown2 hb2)
   go_meet
   rw [HL0.out, HB.out]
   refine ⟨?_, HB2.out⟩
   have h := HOWN.out
   rw [show (if (!false) = true then [q.wher] else []) = [q.wher] from rfl, List.length_append]
   rw [show exsCells (q.cols ++ [q.wher]) = exsCells q.cols ++ exsCells [q.wher] by simp [exsCells]]
   exact h
 case rest =>
  obtain ⟨hown, hbl⟩ := hcut
  have HOWN := Lib.hid hown
  have HBL := Lib.hid hbl
  have HO3 := Lib.hid (HO0.out.keep hbl)
  have c13 : wc.cell? ⟨w.heap.size, 13, none⟩ = some (.slice q.AA q.aggs.length q.ac) := (HO0.out.keep hbl).cell rfl
  have hlc := (HO0.out.keep hbl).lt
  have hca := HQ.out.aggs.1.2.1
  have hcm := HQ.out.aggs.1.2.2.1
  unfold maxLen at hcm
  clear hown hbl HR1 HB1 HO1 hb
  go_wp2_with fail
  go_loopw [3, 5, 21] (fun v _ i wr => ∃ k : Nat, k ≤ q.aggs.length ∧ i = .int .i64 k ∧ wr.ownsRow w0.heap.size 26 7 v (L0 ++ ((q.aggs.take k).filter fun a => hasOp a.of).map (·.of)).length (exsCells (L0 ++ ((q.aggs.take k).filter fun a => hasOp a.of).map (·.of))) ∧ Below w0.heap.size w0 wr) (fun _ _ i _ => q.aggs.length - (intOf i).toNat)
  case atStart => exact ⟨0, Nat.zero_le _, rfl, by simpa using HOWN.out, HBL.out⟩
  case round =>
   obtain ⟨k, hk, rfl, hown, hb⟩ := hrel
   have HOW := Lib.hid hown
   have HBR := Lib.hid hb
   have HKN := Lib.hid (show (L0 ++ ((q.aggs.take k).filter fun a => hasOp a.of).map (·.of)).length ≤ 2000002 by
    have h1 := List.length_filter_le (fun a : AggX => hasOp a.of) (q.aggs.take k)
    have h2 : (q.aggs.take k).length ≤ k := by rw [List.length_take]; omega
    have h3 := HLN.out
    rw [List.length_append, List.length_map]
    omega)
   clear hown c13
   by_cases hlk : k < q.aggs.length
   ·obtain ⟨g, o, x, hA, hg, hx, a0, a1, a2, a3, a4, a5, a6, a7, a8⟩ := aggs_at ((HQ.out.aggs.1.keep HB0.out).keep hb) hlk
    have HTK := Lib.hid (show q.aggs.take (k + 1) = q.aggs.take k ++ [x] by rw [List.take_add_one, hx]; rfl)
    obtain ⟨w3, hw3⟩ : ∃ w3, wr.alloc (.cells #[.string x.what, .string x.of.op, .string x.of.name, .int .i64 x.of.val.type, .int .i64 x.of.val.n, .string x.of.val.s, .slice x.of.A x.of.args.length x.of.c, .int .i64 x.of.pos, .string x.name] 99) = w3 := ⟨_, rfl⟩
    have hb3 : Below wr.heap.size wr w3 := by rw [← hw3]; exact belowNew' _ _
    have ho3 : RowL w3 wr.heap.size 99 (aggXL x) := by rw [← hw3]; exact rowL_new wr _ (aggXL x)
    have d1 : w3.cell? ⟨wr.heap.size, 1, none⟩ = some (.string x.of.op) := ho3.cell rfl
    have d2 : w3.cell? ⟨wr.heap.size, 2, none⟩ = some (.string x.of.name) := ho3.cell rfl
    have d3 : w3.cell? ⟨wr.heap.size, 3, none⟩ = some (.int .i64 x.of.val.type) := ho3.cell rfl
    have d4 : w3.cell? ⟨wr.heap.size, 4, none⟩ = some (.int .i64 x.of.val.n) := ho3.cell rfl
    have d5 : w3.cell? ⟨wr.heap.size, 5, none⟩ = some (.string x.of.val.s) := ho3.cell rfl
    have d6 : w3.cell? ⟨wr.heap.size, 6, none⟩ = some (.slice x.of.A x.of.args.length x.of.c) := ho3.cell rfl
    have d7 : w3.cell? ⟨wr.heap.size, 7, none⟩ = some (.int .i64 x.of.pos) := ho3.cell rfl
    have hl3 := ho3.lt
    have HB3 := Lib.hid (below_step HBR.out hb3)
    have HOW3 := Lib.hid (show w3.ownsRow w0.heap.size 26 7 u3 (L0 ++ ((q.aggs.take k).filter fun a => hasOp a.of).map (·.of)).length (exsCells (L0 ++ ((q.aggs.take k).filter fun a => hasOp a.of).map (·.of))) by rw [← hw3]; exact HOW.out.alloc _)
    have HW3 := Lib.hid hw3
    obtain ⟨b2, hb2⟩ : ∃ b2, x.of.op.toList.isEmpty = b2 := ⟨_, rfl⟩
    have HBX := Lib.hid (show hasOp x.of = !b2 by rw [← hb2, Lib.toList_data]; rfl)
    clear hx hw3 hb3 ho3 hb
    have hnl := HKN.out
    cases b2 with
    | true =>
     go_wp2_with (first | rw [HW3.out])
     go_roundw
     case rel =>
      refine ⟨k + 1, by omega, by go_num, ?_, HB3.out⟩
      rw [HTK.out, List.filter_append, show ([x].filter fun a => hasOp a.of) = [] by simp [HBX.out], List.append_nil]
      exact HOW3.out
     case measure => simp [intOf]; omega
    | false =>
     generalize hLL : L0 ++ ((q.aggs.take k).filter fun a => hasOp a.of).map (·.of) = L1 at HOW3 hnl
     have HLL := Lib.hid hLL
     clear hLL
     go_wp2_with (first
      | rw [HW3.out]
      | (at_builtin; refine wpList_append_one exSlice rfl (.tmp 29) (.tmp 32) rfl (B := w0.heap.size) (w0 := w0) (wr := w3) (v := u3) (n := L1.length) (xs := exsCells L1) (cs := #[.string x.of.op, .string x.of.name, .int .i64 x.of.val.type, .int .i64 x.of.val.n, .string x.of.val.s, .slice x.of.A x.of.args.length x.of.c, .int .i64 x.of.pos]) rfl rfl HOW3.out HB3.out (Nat.le_refl _) rfl (exs_cell' [x.of]) (by omega) ?_; intro v2 w4 hown2 hb4 _; have HOWN2 := Lib.hid hown2; have HB4 := Lib.hid hb4; clear hown2 hb4))
     go_roundw
     case rel =>
      refine ⟨_, _, _, ⟨k + 1, by omega, by go_num, ?_, HB4.out⟩, rfl, rfl, rfl⟩
      have e : L0 ++ ((q.aggs.take (k + 1)).filter fun a => hasOp a.of).map (·.of) = L1 ++ [x.of] := by
       rw [HTK.out, List.filter_append, show ([x].filter fun a => hasOp a.of) = [x] by simp [HBX.out], List.map_append, ← List.append_assoc, HLL.out]; rfl
      have e2 : L0.length + ((q.aggs.take (k + 1)).filter fun a => hasOp a.of).length = L1.length + 1 := by have := congrArg List.length e; simpa using this
      rw [e, e2, show exsCells (L1 ++ [x.of]) = exsCells L1 ++ exsCells [x.of] by simp [exsCells]]
      exact HOWN2.out
     case measure => simp [intOf]; omega
   ·have e : q.aggs.take k = q.aggs := List.take_of_length_le (by omega)
    have HRES := Lib.hid (show wr.ownsRow w.heap.size 26 7 u3 (exprsX q).length (exsCells (exprsX q)) by
     have h := HOW.out
     rw [e, HL0.out] at h
     exact own_base h (Nat.le_of_lt HO0.out.lt))
    have HBF := Lib.hid (below_step HB0.out HBR.out)
    clear hb
    go_wp2_with fail
    go_ret
    exact ⟨_, rfl, HRES.out, HBF.out⟩
end Go.Proofs.YtpbbkpfaphjdoaaGreatDoor
namespace Go.Proofs.YtpbbkpfaphjdoaaGreatDoor
open Go.ChangeShapes Go.WideShapes Go.ChangeAt Go.RowKit
def spanOk (size slide : Int) : Prop := 1 ≤ size ∧ size ≤ 1000 ∧ 1 ≤ slide ∧ slide ≤ size ∧ size ≤ 10 * slide
instance (size slide : Int) : Decidable (spanOk size slide) := by unfold spanOk; infer_instance
theorem span_ok (size slide : Int) (w : World) (h : spanOk size slide) :
  Calls Tryz.prog 118 #[.int .i64 size, .int .i64 slide] w fun e w' => e = .returned .nilIface ∧ w = w' := by
 obtain ⟨h1, h2, h3, h4, h5⟩ := h
 go_enter Tryz.func118, Tryz.ntmps118
 go_wp2
 go_ret
 exact ⟨rfl, rfl⟩
theorem span_bad (size slide : Int) (w : World) (h : ¬ spanOk size slide) :
  Calls Tryz.prog 118 #[.int .i64 size, .int .i64 slide] w fun e w' => e = .returned (.iface 32 (.int .i64 1)) ∧ w = w' := by
 unfold spanOk at h
 by_cases h1 : 1 ≤ size
 ·by_cases h2 : size ≤ 1000
  ·by_cases h3 : 1 ≤ slide
   ·by_cases h4 : slide ≤ size
    ·have h5 : ¬ size ≤ 10 * slide := fun h5 => h ⟨h1, h2, h3, h4, h5⟩
     clear h
     go_enter Tryz.func118, Tryz.ntmps118
     go_wp2
     go_ret
     exact ⟨rfl, rfl⟩
    ·clear h
     go_enter Tryz.func118, Tryz.ntmps118
     go_wp2
     go_ret
     exact ⟨rfl, rfl⟩
   ·clear h
    go_enter Tryz.func118, Tryz.ntmps118
    go_wp2
    go_ret
    exact ⟨rfl, rfl⟩
  ·clear h
   go_enter Tryz.func118, Tryz.ntmps118
   go_wp2
   go_ret
   exact ⟨rfl, rfl⟩
 ·clear h
  go_enter Tryz.func118, Tryz.ntmps118
  go_wp2
  go_ret
  exact ⟨rfl, rfl⟩
def shapeOf (nc nn ng na : Nat) (z s : Int) : Int :=
 if z = 0 ∧ (s ≠ 0 ∨ 0 < na ∨ 0 < ng ∨ nn ≠ nc) then 3 else if z ≠ 0 ∧ 0 < nc + nn then 3 else if z ≠ 0 ∧ ¬ spanOk z s then 1 else if nn + ng + na = 0 then 5 else if 6 < nn + ng + na then 4 else 0
def shapeErr (q : QX) : Int := shapeOf q.cols.length q.names.length q.group.length q.aggs.length q.size q.slide
set_option maxHeartbeats 4000000 in
set_option maxRecDepth 100000 in
theorem shape_cells (V0 V1 V2 V3 V4 V5 V6 V7 : Value) (CA NA GA AA : Option Addr) (nc cc nn nnc ng gc na ac : Nat) (z s : Int) (w : World) (h1 : nc ≤ 140737488355328) (h2 : nn ≤ 140737488355328) (h3 : ng ≤ 140737488355328) (h4 : na ≤ 140737488355328) :
  Calls Tryz.prog 48 #[.agg #[V0, V1, V2, V3, V4, V5, V6, V7, .slice CA nc cc, .slice NA nn nnc, .slice GA ng gc, .int .i64 z, .int .i64 s, .slice AA na ac]] w fun e w' => e = .returned (errV (shapeOf nc nn ng na z s)) ∧ Below w.heap.size w w' := by
 by_cases hz : z = 0
 ·subst hz
  by_cases hs : s = 0
  ·subst hs
   by_cases ha : 0 < na
   ·have E := Lib.hid (show shapeOf nc nn ng na 0 0 = 3 by unfold shapeOf; rw [if_pos ⟨rfl, Or.inr (Or.inl ha)⟩])
    generalize shapeOf nc nn ng na 0 0 = R at E ⊢
    go_enter Tryz.func48, Tryz.ntmps48
    go_wp2_with fail
    go_ret
    exact ⟨by rw [E.out]; rfl, belowNew' _ _⟩
   ·obtain rfl : na = 0 := by omega
    clear ha
    by_cases hg : 0 < ng
    ·have E := Lib.hid (show shapeOf nc nn ng 0 0 0 = 3 by unfold shapeOf; rw [if_pos ⟨rfl, Or.inr (Or.inr (Or.inl hg))⟩])
     generalize shapeOf nc nn ng 0 0 0 = R at E ⊢
     go_enter Tryz.func48, Tryz.ntmps48
     go_wp2_with fail
     go_ret
     exact ⟨by rw [E.out]; rfl, belowNew' _ _⟩
    ·obtain rfl : ng = 0 := by omega
     clear hg
     by_cases hn : nn = nc
     ·subst hn
      by_cases h5 : nn = 0
      ·subst h5
       have E := Lib.hid (show shapeOf 0 0 0 0 0 0 = 5 by unfold shapeOf; rw [if_neg (fun h => by obtain ⟨-, h | h | h | h⟩ := h <;> omega), if_neg (fun h => h.1 rfl), if_neg (fun h => h.1 rfl), if_pos rfl])
       generalize shapeOf 0 0 0 0 0 0 = R at E ⊢
       go_enter Tryz.func48, Tryz.ntmps48
       go_wp2_with fail
       go_ret
       exact ⟨by rw [E.out]; rfl, belowNew' _ _⟩
      ·by_cases h6 : 6 < nn
       ·have E := Lib.hid (show shapeOf nn nn 0 0 0 0 = 4 by unfold shapeOf; rw [if_neg (fun h => by obtain ⟨-, h | h | h | h⟩ := h <;> omega), if_neg (fun h => h.1 rfl), if_neg (fun h => h.1 rfl), if_neg (by omega), if_pos (by omega)])
        generalize shapeOf nn nn 0 0 0 0 = R at E ⊢
        go_enter Tryz.func48, Tryz.ntmps48
        go_wp2_with fail
        go_ret
        exact ⟨by rw [E.out]; rfl, belowNew' _ _⟩
       ·have E := Lib.hid (show shapeOf nn nn 0 0 0 0 = 0 by unfold shapeOf; rw [if_neg (fun h => by obtain ⟨-, h | h | h | h⟩ := h <;> omega), if_neg (fun h => h.1 rfl), if_neg (fun h => h.1 rfl), if_neg (by omega), if_neg (by omega)])
        generalize shapeOf nn nn 0 0 0 0 = R at E ⊢
        go_enter Tryz.func48, Tryz.ntmps48
        go_wp2_with fail
        go_ret
        exact ⟨by rw [E.out]; rfl, belowNew' _ _⟩
     ·have E := Lib.hid (show shapeOf nc nn 0 0 0 0 = 3 by unfold shapeOf; rw [if_pos ⟨rfl, Or.inr (Or.inr (Or.inr hn))⟩])
      generalize shapeOf nc nn 0 0 0 0 = R at E ⊢
      go_enter Tryz.func48, Tryz.ntmps48
      go_wp2_with fail
      go_ret
      exact ⟨by rw [E.out]; rfl, belowNew' _ _⟩
  ·have E := Lib.hid (show shapeOf nc nn ng na 0 s = 3 by unfold shapeOf; rw [if_pos ⟨rfl, Or.inl hs⟩])
   generalize shapeOf nc nn ng na 0 s = R at E ⊢
   go_enter Tryz.func48, Tryz.ntmps48
   go_wp2_with fail
   go_ret
   exact ⟨by rw [E.out]; rfl, belowNew' _ _⟩
 ·by_cases hc : 0 < nc + nn
  ·have hc2 : ¬ ((nc : Int) + nn ≤ 0) := by omega
   have hz2 : (z != 0) = true := by simpa using hz
   have E := Lib.hid (show shapeOf nc nn ng na z s = 3 by unfold shapeOf; rw [if_neg (fun h => hz h.1), if_pos ⟨hz, hc⟩])
   generalize shapeOf nc nn ng na z s = R at E ⊢
   go_enter Tryz.func48, Tryz.ntmps48
   go_wp2_with fail
   go_ret
   exact ⟨by rw [E.out]; rfl, belowNew' _ _⟩
  ·obtain rfl : nc = 0 := by omega
   obtain rfl : nn = 0 := by omega
   clear hc
   by_cases hk : spanOk z s
   ·have HK := Lib.hid hk
    clear hk
    by_cases h5 : ng + na = 0
    ·obtain rfl : ng = 0 := by omega
     obtain rfl : na = 0 := by omega
     clear h5
     have E := Lib.hid (show shapeOf 0 0 0 0 z s = 5 by unfold shapeOf; rw [if_neg (fun h => hz h.1), if_neg (fun h => by omega), if_neg (fun h => h.2 HK.out), if_pos rfl])
     generalize shapeOf 0 0 0 0 z s = R at E ⊢
     go_enter Tryz.func48, Tryz.ntmps48
     go_wp2_with (first | (go_at_call 118; refine (span_ok _ _ _ HK.out).mono ?_; rintro e w' ⟨rfl, rfl⟩))
     go_ret
     exact ⟨by rw [E.out]; rfl, belowNew' _ _⟩
    ·by_cases h6 : 6 < ng + na
     ·have E := Lib.hid (show shapeOf 0 0 ng na z s = 4 by unfold shapeOf; rw [if_neg (fun h => hz h.1), if_neg (fun h => by omega), if_neg (fun h => h.2 HK.out), if_neg (by omega), if_pos (by omega)])
      generalize shapeOf 0 0 ng na z s = R at E ⊢
      go_enter Tryz.func48, Tryz.ntmps48
      go_wp2_with (first | (go_at_call 118; refine (span_ok _ _ _ HK.out).mono ?_; rintro e w' ⟨rfl, rfl⟩))
      go_ret
      exact ⟨by rw [E.out]; rfl, belowNew' _ _⟩
     ·have E := Lib.hid (show shapeOf 0 0 ng na z s = 0 by unfold shapeOf; rw [if_neg (fun h => hz h.1), if_neg (fun h => by omega), if_neg (fun h => h.2 HK.out), if_neg (by omega), if_neg (by omega)])
      generalize shapeOf 0 0 ng na z s = R at E ⊢
      go_enter Tryz.func48, Tryz.ntmps48
      go_wp2_with (first | (go_at_call 118; refine (span_ok _ _ _ HK.out).mono ?_; rintro e w' ⟨rfl, rfl⟩))
      go_ret
      exact ⟨by rw [E.out]; rfl, belowNew' _ _⟩
   ·have HK := Lib.hid hk
    clear hk
    have E := Lib.hid (show shapeOf 0 0 ng na z s = 1 by unfold shapeOf; rw [if_neg (fun h => hz h.1), if_neg (fun h => by omega), if_pos ⟨hz, HK.out⟩])
    generalize shapeOf 0 0 ng na z s = R at E ⊢
    go_enter Tryz.func48, Tryz.ntmps48
    go_wp2_with (first | (go_at_call 118; refine (span_bad _ _ _ HK.out).mono ?_; rintro e w' ⟨rfl, rfl⟩))
    go_ret
    exact ⟨by rw [E.out]; rfl, belowNew' _ _⟩
structure LensQ (q : QX) : Prop where
 cols : q.cols.length ≤ 140737488355328
 names : q.names.length ≤ 140737488355328
 group : q.group.length ≤ 140737488355328
 aggs : q.aggs.length ≤ 140737488355328
theorem qshape_any (q : QX) (w : World) (hn : LensQ q) : Calls Tryz.prog 48 #[qxV q] w fun e w' => e = .returned (errV (shapeErr q)) ∧ Below w.heap.size w w' :=
 shape_cells _ _ _ _ _ _ _ _ _ _ _ _ _ _ _ _ _ _ _ _ _ _ w hn.cols hn.names hn.group hn.aggs
end Go.Proofs.YtpbbkpfaphjdoaaGreatDoor
