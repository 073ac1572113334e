/- code.Compile, walked: the code of an expression, or its fault. -/
import Derived.Test.YthmbafkedgahaaaDoorCodeOf
import Derived.Test.YthmbafkedgahaaaDoorEval
namespace Go.Proofs.YthmbafkedgahaaaDoor
open Go.ChangeShapes Go.WideShapes Go.ChangeAt Go.RowKit

def CompSays (l : List Ins) (h p : Int) (w : World) (e : Ending) (w' : World) : Prop := ∃ A m c, e = .returned (.tuple #[.slice A m c, .agg #[.int .i64 h, .int .i64 p]]) ∧ SeesCode w' A m c l ∧ Below w.heap.size w w'
theorem exN_small {cols : List Col} {e : Ex} (h : (typeOf cols e).h = 0) : exN e ≤ 200 := by
  have h1 := checkErr_ok (typeOf_ok h).2.2.1
  have h2 := (size_ok 30 (Nat.le_refl _) e h1.2.1 h1.2.2).1
  omega
set_option maxHeartbeats 2000000 in
set_option maxRecDepth 100000 in
theorem compile_any (e : Ex) (C : Option Addr) (p q : Nat) (cols : List Col) (w : World) (hT : Tables w) (hC : SeesCols w C p q cols) (hs : ∀ x ∈ cols, x.name.size ≤ maxLen) (he : SeesEx w e) :
    Calls Tryd.prog 7 #[exV e, .slice C p q] w (CompSays (if (typeOf cols e).h ≠ 0 then [] else compE cols e) (if (typeOf cols e).h ≠ 0 then (typeOf cols e).h else 0) (if (typeOf cols e).h ≠ 0 then (typeOf cols e).p else 0) w) := by
  have TT := Lib.hid (fun w' hb => typeOf_any e C p q cols w' (hT.keep (w' := w') hb) (hC.keep hb) hs (he.keep hb))
  have TO := Lib.hid (fun hh w' hb => comp_any _ e (Nat.le_refl _) C p q cols w' (hT.keep (w' := w') hb).ops (hC.keep hb) (he.keep hb) (typeOf_ok (cols := cols) (e := e) hh).1 (typeOf_ok (cols := cols) (e := e) hh).2.1 (exN_small hh))
  obtain ⟨tr, htr⟩ : ∃ tr, tr = typeOf cols e := ⟨_, rfl⟩
  rw [← htr] at TT TO ⊢
  clear htr hT hC hs he
  obtain ⟨ce, hce⟩ : ∃ ce, ce = compE cols e := ⟨_, rfl⟩
  rw [← hce] at TO ⊢
  clear hce
  obtain ⟨op, name, v, A, c, args, pos⟩ := e
  unfold exV at TT TO
  show Calls Tryd.prog 7 #[.agg #[.string op, .string name, .int .i64 v.type, .int .i64 v.n, .string v.s, .slice A args.length c, .int .i64 pos], .slice C p q] w _
  obtain ⟨w1, hw1⟩ : ∃ w1, w.alloc (.cells #[.string op, .string name, .int .i64 v.type, .int .i64 v.n, .string v.s, .slice A args.length c, .int .i64 pos] 26) = w1 := ⟨_, rfl⟩
  obtain ⟨w0, hw0⟩ : ∃ w0, w1.alloc (.cells #[.int .i64 0, .int .i64 0] 34) = w0 := ⟨_, rfl⟩
  have hb1 : Below w.heap.size w w1 := by rw [← hw1]; exact belowNew _ _
  have hb0' : Below w1.heap.size w1 w0 := by rw [← hw0]; exact belowNew _ _
  have hbx := heap_alloc_new w (.cells #[.string op, .string name, .int .i64 v.type, .int .i64 v.n, .string v.s, .slice A args.length c, .int .i64 pos] 26)
  rw [hw1] at hbx
  have hlt : w.heap.size < w1.heap.size := by rw [← hw1]; simp
  have HBX := Lib.hid ((hb0'.block w.heap.size hlt).trans hbx)
  have HV := Lib.hid (show Own2 w0 w1.heap.size 0 0 by rw [← hw0]; exact own2_new w1 0 0)
  have HB := Lib.hid (below_step hb1 hb0')
  have HGE := Lib.hid (show w.heap.size ≤ w1.heap.size by omega)
  have HLT0 := Lib.hid (Nat.lt_of_lt_of_le hlt hb0'.size)
  have HW1 := Lib.hid hw1
  have HW0 := Lib.hid hw0
  clear hw1 hw0 hb1 hb0' hbx hlt
  obtain ⟨d0, d1, d2, d3, d4, d5, d6⟩ := box7' HBX.out
  have T := Lib.hid (TT.out w0 HB.out)
  unfold ResSays resV at T
  obtain ⟨tt, th, tp⟩ := tr
  dsimp only at TO ⊢
  generalize hRL : (if th ≠ 0 then ([] : List Ins) else ce) = RL
  generalize hRH : (if th ≠ 0 then th else (0 : Int)) = RH
  generalize hRP : (if th ≠ 0 then tp else (0 : Int)) = RP
  have HRL := Lib.hid hRL
  have HRH := Lib.hid hRH
  have HRP := Lib.hid hRP
  clear hRL hRH hRP
  go_enter Tryd.func7, Tryd.ntmps7
  go_wp2_with (first | rw [HW1.out] | rw [HW0.out])
  refine (T.out).mono ?_
  rintro e' w2 ⟨rfl, hb2⟩
  clear d0 d1 d2 d3 d4 d5 d6
  have HB2 := Lib.hid (below_step HB.out hb2)
  obtain ⟨w3, hw3⟩ : ∃ w3, w2.alloc (.cells #[.int .i64 th, .int .i64 tp] 34) = w3 := ⟨_, rfl⟩
  have hb3 : Below w2.heap.size w2 w3 := by rw [← hw3]; exact belowNew _ _
  have HF3 := Lib.hid (show Own2 w3 w2.heap.size th tp by rw [← hw3]; exact own2_new w2 th tp)
  have HV3 := Lib.hid ((HV.out.keep hb2).keep hb3)
  have HB3 := Lib.hid (below_step HB2.out hb3)
  have HBX3 := Lib.hid ((hb3.block w.heap.size (Nat.lt_of_lt_of_le HLT0.out hb2.size)).trans ((hb2.block w.heap.size HLT0.out).trans HBX.out))
  have HW3 := Lib.hid hw3
  clear hw3 hb3 hb2
  obtain ⟨f0, f1, -, -, -⟩ := HF3.out.cells
  obtain ⟨o0, o1, z0, z1, hlt⟩ := HV3.out.cells
  by_cases hh : th = 0
  · have e1 : (th != 0) = false := by simp [hh]
    have T2 := Lib.hid (TO.out hh w3 HB3.out)
    obtain ⟨q1, q2, q3⟩ : ce = RL ∧ 0 = RH ∧ 0 = RP := ⟨by rw [← HRL.out, if_neg (by simp [hh])], by rw [← HRH.out, if_neg (by simp [hh])], by rw [← HRP.out, if_neg (by simp [hh])]⟩
    clear HRL HRH HRP
    subst q1 q2 q3
    clear hh
    obtain ⟨d0, d1, d2, d3, d4, d5, d6⟩ := box7' HBX3.out
    go_wp2_with (first | rw [HW3.out])
    refine (T2.out).mono ?_
    rintro e' w4 ⟨g, c4, rfl, hown, hb4⟩
    have HB4 := Lib.hid (below_step HB3.out hb4)
    have HV4 := Lib.hid (HV3.out.keep hb4)
    have HO4 := Lib.hid hown
    have HLG := Lib.hid (show w1.heap.size ≠ g from fun e => by have h1 := (hown.lt g rfl).1; have h2 := hlt; omega)
    clear hb4 hown d0 d1 d2 d3 d4 d5 d6 f0 f1 o0 o1 z0 z1 hlt
    obtain ⟨o0, o1, z0, z1, hlt⟩ := HV4.out.cells
    go_wp2_with fail
    have HO5 := own2_set HV4.out 0 0
    have HB5 := Lib.hid (below_set2 HB4.out HGE.out (.int .i64 0) (.int .i64 0))
    have HS5 := Lib.hid (code_own (own_other (g := w1.heap.size) (i := 1) (u := .int .i64 0) (own_other (g := w1.heap.size) (i := 0) (u := .int .i64 0) HO4.out (fun e => HLG.out (by injection e with e; exact e.symm))) (fun e => HLG.out (by injection e with e; exact e.symm))))
    generalize (w4.setCell ⟨w1.heap.size, 0, none⟩ (.int .i64 0)).setCell ⟨w1.heap.size, 1, none⟩ (.int .i64 0) = w5 at HO5 HB5 HS5 ⊢
    clear o0 o1 z0 z1 hlt
    obtain ⟨o0, o1, z0, z1, hlt⟩ := HO5.cells
    exact bodyPost_ret (v := .tuple #[.slice (some ⟨g, 0, none⟩) ce.length c4, .agg #[.int .i64 0, .int .i64 0]]) (by simp [results, Tryd.results7, go_sem, o0, o1]) rfl ⟨_, _, _, rfl, HS5.out, HB5.out⟩
  · have e1 : (th != 0) = true := by simpa using hh
    obtain ⟨q1, q2, q3⟩ : [] = RL ∧ th = RH ∧ tp = RP := ⟨by rw [← HRL.out, if_pos hh], by rw [← HRH.out, if_pos hh], by rw [← HRP.out, if_pos hh]⟩
    clear HRL HRH HRP
    subst q1 q2 q3
    clear hh
    go_wp2_with (first | rw [HW3.out])
    go_region
    go_wp2_with fail
    have HO5 : Own2 ((w3.setCell ⟨w1.heap.size, 0, none⟩ (.int .i64 th)).setCell ⟨w1.heap.size, 1, none⟩ (.int .i64 tp)).drew w1.heap.size th tp := own2_set HV3.out th tp
    have HB5 := Lib.hid (below_set2 HB3.out HGE.out (.int .i64 th) (.int .i64 tp)).drew
    generalize ((w3.setCell ⟨w1.heap.size, 0, none⟩ (.int .i64 th)).setCell ⟨w1.heap.size, 1, none⟩ (.int .i64 tp)).drew = w5 at HO5 HB5 ⊢
    clear o0 o1 z0 z1 hlt
    obtain ⟨o0, o1, z0, z1, hlt⟩ := HO5.cells
    exact bodyPost_ret (v := .tuple #[.slice none 0 0, .agg #[.int .i64 th, .int .i64 tp]]) (by simp [results, Tryd.results7, go_sem, o0, o1]) rfl ⟨_, _, _, rfl, ⟨rfl, ⟨rfl, Nat.le_refl _, Nat.zero_le _, fun _ => ⟨rfl, rfl⟩, fun h => absurd h (by omega)⟩⟩, HB5.out⟩
end Go.Proofs.YthmbafkedgahaaaDoor
