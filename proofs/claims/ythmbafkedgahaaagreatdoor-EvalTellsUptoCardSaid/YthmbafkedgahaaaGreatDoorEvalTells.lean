/- Of the law EvalTells: the card Rows.EvalTellsUptoCardSaid: where what it reads is of bulk at most 1048576, whatever the operation, the values, the expression, the columns and the row, it returns true. -/
import Derived.Test.YthmbafkedgahaaaGreatDoorRefEval
import Derived.Test.YthmbafkedgahaaaGreatDoorDo
import Derived.Test.YthmbafkedgahaaaGreatDoorRefOf
import Derived.Test.YthmbafkedgahaaaGreatDoorTold
import Derived.Test.YthmbafkedgahaaaGreatDoorVeOp
import Derived.Test.YthmbafkedgahaaaGreatDoorCards
import Derived.Test.YthmbafkedgahaaaGreatDoorTie
import Derived.Test.YthmbafkedgahaaaGreatDoorOpenExN
import Derived.Test.YthmbafkedgahaaaGreatDoorOpenVals
import Derived.LaidLaws
import Derived.LaidMore
import Derived.LaidHandle
import Derived.Stop.Joined
import Derived.SevenTiedAt
import Derived.Deep.DeepWitnessRowRef
import Derived.Deep.DeepHandedRow
namespace Go.Proofs.YthmbafkedgahaaaGreatDoor.evalTells
open Go.ChangeShapes Go.WideShapes Go.ChangeAt Go.RowKit

theorem errIs (k : Int) : ErrIs (errV k) k := by
  by_cases h : k = 0
  · subst h; exact Or.inl ⟨rfl, rfl⟩
  · exact Or.inr ⟨errV_ne h, h⟩
theorem firstBad_app : ∀ a b : List Val, firstBad (a ++ b) = if firstBad a ≠ 0 then firstBad a else firstBad b
  | [], b => rfl
  | x :: a, b => by
    rw [List.cons_append, firstBad, firstBad, firstBad_app a b]
    by_cases h : vcheck x = 0
    · rw [if_pos h, if_pos h]
    · rw [if_neg h, if_neg h, if_pos h]
theorem firstBad_take {l : List Val} {k : Nat} {x : Val} (h : firstBad (l.take k) = 0) (hx : l[k]? = some x) : firstBad (l.take (k + 1)) = vcheck x := by
  rw [List.take_add_one, hx, firstBad_app, if_neg (by simp [h])]
  show (if vcheck x = 0 then 0 else vcheck x) = vcheck x
  split
  · rename_i h; exact h.symm
  · rfl
theorem firstBad_stays {l : List Val} {k : Nat} (h : firstBad (l.take k) ≠ 0) : firstBad l = firstBad (l.take k) := by
  have := firstBad_app (l.take k) (l.drop k)
  rw [List.take_append_drop, if_pos h] at this
  exact this
theorem box7 {w : World} {b : Nat} {x0 x1 x2 x3 x4 x5 x6 : Value} {T : TypeId} (h : w.heap[b]? = some (.cells #[x0, x1, x2, x3, x4, x5, x6] T (0, 0))) :
    w.cell? ⟨b, 0, none⟩ = some x0 ∧ w.cell? ⟨b, 1, none⟩ = some x1 ∧ w.cell? ⟨b, 2, none⟩ = some x2 ∧ w.cell? ⟨b, 3, none⟩ = some x3 ∧ w.cell? ⟨b, 4, none⟩ = some x4 ∧ w.cell? ⟨b, 5, none⟩ = some x5 ∧ w.cell? ⟨b, 6, none⟩ = some x6 := by
  refine ⟨?_, ?_, ?_, ?_, ?_, ?_, ?_⟩ <;> rw [cell_of_row _ _ _ _ _ _ h] <;> rfl
theorem only_s3 {w : World} (b : Nat) (t n : Int) (s : ByteArray) : Only (· = b) w (((w.setCell ⟨b, 0, none⟩ (.int .i64 t)).setCell ⟨b, 1, none⟩ (.int .i64 n)).setCell ⟨b, 2, none⟩ (.string s)) :=
  (((Only.refl (· = b) w).setCell (p := ⟨b, 0, none⟩) rfl _).setCell (p := ⟨b, 1, none⟩) rfl _).setCell (p := ⟨b, 2, none⟩) rfl _
theorem own3_lt {w : World} {b : Nat} {v : Val} (h : Own3 w b v) : b < w.heap.size := (Array.getElem?_eq_some_iff.1 h).1
theorem own3_only {w w' : World} {b b' : Nat} {v : Val} (h : Own3 w b v) (hy : Only (· = b') w w') (hne : b ≠ b') : Own3 w' b v := (hy.block b (own3_lt h) hne).trans h
theorem own3_far {w : World} {b b' : Nat} (h : b < w.heap.size) (hb : b' = w.heap.size) : b ≠ b' := by omega
section
variable {H : Type}
theorem bulk_pos (d : DataW H) : 1 ≤ Rows.uptoBulk d := by
  cases d with
  | lit l => cases l <;> simp [Rows.uptoBulk]
  | _ => simp [Rows.uptoBulk]
theorem bulk_len : ∀ ds : List (DataW H), ds.length ≤ Rows.uptoBulkAll ds
  | [] => Nat.zero_le _
  | d :: ds => by
    have h1 := bulk_pos d
    have h2 := bulk_len ds
    rw [Rows.uptoBulkAll, List.length_cons]; omega
variable {enc : TypeId × Value → H} {w : World}
set_option maxRecDepth 100000 in
theorem vals_bulk {A : Option Addr} {n c : Nat} {d : DataW H} {p : List MemPlace} (h : DataW.Trod enc Tryz.prog w 0 (fun _ => true) true 24 (.slice A n c) d p) : n ≤ Rows.uptoBulk d := by
  obtain ⟨fuel, hf⟩ := h
  obtain ⟨A', n', c', css, ds, e, hn, hds, _, _, _, hx⟩ := open_sees Tryz.underlying24 cellsVal (by decide) hf (fun _ _ => True) (fun _ _ _ _ _ => trivial)
  have e : Value.slice A n c = .slice A' n' c' := by simpa [Value.cells] using e
  injection e with _ e2 _
  subst e2
  rcases hx with ⟨_, h2, _⟩ | ⟨sp, h2, _⟩
  · omega
  · have h2 : d = .slice ds sp := h2
    rw [h2, Rows.uptoBulk]
    have := bulk_len ds
    omega
end
set_option maxHeartbeats 16000000 in
set_option maxRecDepth 100000 in
theorem walk (s : ByteArray) (l : List Val) (A : Option Addr) (n c : Nat) (e : Ex) (C : Option Addr) (p q : Nat) (cols : List Col) (R : Option Addr) (y z : Nat) (r : List Val) (W : World) (hG : ErrT W) (hT : Tables W) (hl : SeesVals W A n c l) (hw : ∀ v ∈ l, v.wf) (hn : n ≤ 1048576) (he : SeesEx W e) (hN : exN e ≤ 1048576) (hC : SeesCols W C p q cols) (hs : ∀ x ∈ cols, x.name.size ≤ maxLen) (hR : SeesVals W R y z r) (hwr : ∀ v ∈ r, v.wf) :
    Calls Tryz.prog 4 #[.string s, .slice A n c, exV e, .slice C p q, .slice R y z] W fun e W' => e = .returned (.bool true) ∧ Below W.heap.size W W' := by
  have TOF0 := Lib.hid (fun w' hb => rof_any e C p q cols w' (hC.keep (w' := w') hb) hs (he.keep hb) hN)
  have TRW0 := Lib.hid (fun w' hb => rrow_any cols r C R p q y z w' (hC.keep (w' := w') hb) hs (hR.keep hb) (fun v hv => (hwr v hv).2.2))
  have TEV0 := Lib.hid (fun hh hr w' hb => rev_any _ e (Nat.le_refl _) C R p q y z cols r w' (hC.keep (w' := w') hb) (hR.keep hb) hr (he.keep hb) (typeOf_ok (cols := cols) (e := e) hh).1 (typeOf_ok (cols := cols) (e := e) hh).2.1)
  have TEW0 := Lib.hid (fun w' hb => eval_any e C R p q y z cols r w' (hT.keep (w' := w') hb) (hC.keep hb) hs (hR.keep hb) hwr (he.keep hb))
  have TDO0 := Lib.hid (fun w' hb => do_any s l A n c w' (hT.ops.keep (w' := w') hb) (hT.lev.keep hb) (hl.keep hb) hw (by omega))
  have TRD0 := Lib.hid (fun ho hn' hc hf w' hb => rdo_any s l A n c w' (hl.keep (w' := w') hb) ho hn' hw hc hf)
  have TSE0 := Lib.hid (fun k e w' hb => same_err (errV k) k e w' (hG.keep (w' := w') hb) (errIs k))
  have HROK := Lib.hid (fun h => rowErr_ok (cols := cols) (r := r) h hwr)
  have HEVR := Lib.hid (show evalR cols r e = if (typeOf cols e).h ≠ 0 then ⟨(typeOf cols e).h, noVal⟩ else if rowErr cols r ≠ 0 then ⟨rowErr cols r, noVal⟩ else evE cols r e from rfl)
  have HDE := Lib.hid (show doErr s l = if firstBad l ≠ 0 then firstBad l else if ruleErr s (typesOf l) ≠ 0 then ruleErr s (typesOf l) else applyErr s l from rfl)
  have HDV := Lib.hid (show doVal s l = if firstBad l ≠ 0 then noVal else if ruleErr s (typesOf l) ≠ 0 then noVal else applyVal s l from rfl)
  have HL := Lib.hid hl
  have HWF := Lib.hid hw
  have HLN := Lib.hid hl.1
  have hcap := hl.2.2.1
  have hmax := hl.2.2.2.1
  unfold maxLen at hmax
  have HTO := Lib.hid (fun hh => (typeOf_ok (cols := cols) (e := e) hh).2.2.2.2)
  obtain ⟨tr, htr⟩ : ∃ tr, tr = typeOf cols e := ⟨_, rfl⟩
  obtain ⟨er, her⟩ : ∃ er, er = rowErr cols r := ⟨_, rfl⟩
  obtain ⟨ee, hee⟩ : ∃ ee, ee = evE cols r e := ⟨_, rfl⟩
  rw [← htr] at TOF0 TEV0 HEVR HTO
  rw [← her] at TRW0 HEVR HROK
  rw [← hee] at TEV0 HEVR
  unfold EvSays at TEW0
  unfold REvSays at TEV0
  unfold TripSays tripV at TOF0
  obtain ⟨vr, hvr⟩ : ∃ vr, vr = evalR cols r e := ⟨_, rfl⟩
  rw [← hvr] at TEW0 HEVR
  obtain ⟨dvv, hdvv⟩ : ∃ dvv, dvv = doVal s l := ⟨_, rfl⟩
  obtain ⟨dve, hdve⟩ : ∃ dve, dve = doErr s l := ⟨_, rfl⟩
  rw [← hdvv] at TDO0 HDV
  rw [← hdve] at TDO0 HDE
  unfold ApplySays at TDO0
  clear htr her hee hvr hdvv hdve
  clear hG hT hl hw he hN hC hs hR hwr
  obtain ⟨zv, hzv⟩ : ∃ zv, zv = noVal := ⟨_, rfl⟩
  have HZ := Lib.hid hzv
  clear hzv
  obtain ⟨op, name, v, EA, ec, args, pos⟩ := e
  unfold exV at TOF0 TEV0 TEW0
  show Calls Tryz.prog 4 #[.string s, .slice A n c, .agg #[.string op, .string name, .int .i64 v.type, .int .i64 v.n, .string v.s, .slice EA args.length ec, .int .i64 pos], .slice C p q, .slice R y z] W _
  obtain ⟨w0, hw0⟩ : ∃ w0, W.alloc (.cells #[.string op, .string name, .int .i64 v.type, .int .i64 v.n, .string v.s, .slice EA args.length ec, .int .i64 pos] 44) = w0 := ⟨_, rfl⟩
  have hb0 : Below W.heap.size W w0 := by rw [← hw0]; exact belowNew _ _
  have hbx0 := heap_alloc_new W (.cells #[.string op, .string name, .int .i64 v.type, .int .i64 v.n, .string v.s, .slice EA args.length ec, .int .i64 pos] 44)
  rw [hw0] at hbx0
  have HBX0 := Lib.hid hbx0
  have HB0 := Lib.hid hb0
  have HLT0 := Lib.hid (show W.heap.size < w0.heap.size by rw [← hw0]; simp)
  have HW0 := Lib.hid hw0
  have HL0 := Lib.hid (HL.out.keep hb0)
  clear hw0 hb0 hbx0
  go_enter Tryz.func4, Tryz.ntmps4
  go_wp2_with (first | rw [HW0.out])
  go_loopw [11, 12, 13] (fun fu lu iu wx => ∃ k : Nat, k ≤ n ∧ iu = .int .i64 k ∧ fu = .int .i64 (firstBad (l.take k)) ∧ wx.ownsRow w0.heap.size 3 1 lu k (intCells (typesOf (l.take k))) ∧ Below w0.heap.size w0 wx) (fun _ _ iu _ => n - (intOf iu).toNat)
  case atStart => exact ⟨0, by omega, rfl, rfl, World.ownsRow_nil _ _ _ _, Below.refl _ _⟩
  case round =>
    obtain ⟨k, hk, rfl, rfl, hown, hb⟩ := hrel
    have HB := Lib.hid hb
    have HOWN := Lib.hid hown
    have HSZ := Lib.hid hb.size
    have HTK := Lib.hid (fun x (h0 : firstBad (l.take k) = 0) hx => firstBad_take (l := l) (k := k) (x := x) h0 hx)
    have HST := Lib.hid (fun h => firstBad_stays (l := l) (k := k) h)
    have HEND := Lib.hid (fun (h : k = n) => show firstBad l = firstBad (l.take k) by rw [List.take_of_length_le (by have := HLN.out; omega)])
    obtain ⟨fb, hfb⟩ : ∃ fb, fb = firstBad (l.take k) := ⟨_, rfl⟩
    rw [← hfb] at HTK HST HEND ⊢
    by_cases hf : fb = 0
    · subst hf
      by_cases hlk : k < n
      · obtain ⟨g, o, x, rfl, hg, hx, c0, c1, c2⟩ := (HL0.out.keep hb).at_ hlk
        have HNX := Lib.hid (HTK.out x rfl hx)
        have HTS := Lib.hid (types_snoc hx)
        have TV := Lib.hid (rval_any x wr (HWF.out x (List.mem_of_getElem? hx)).2.2)
        have HG := Lib.hid hg
        have HC0 := Lib.hid c0
        clear hb hown hx hfb
        go_wp2_with fail
        refine (TV.out).mono ?_
        rintro e' w2 ⟨rfl, hb2⟩
        have k0 : w2.cell? ⟨g, o + k * 3, none⟩ = some (.int .i64 x.type) := (hb2.cell (p := ⟨g, o + k * 3, none⟩) hg).trans HC0.out
        have HB2 := Lib.hid (HB.out.trans (hb2.mono HSZ.out))
        have HOW2 := Lib.hid (own_keep HOWN.out hb2)
        clear hb2 c0 c1 c2
        go_wp2_with (first | (at_builtin; refine wpList_append_one intSlice rfl _ _ rfl rfl rfl HOW2.out HB2.out (Nat.le_refl _) rfl (by intro u hu; simp at hu; subst hu; rfl) (by omega) ?_; intro v1 w3 hown3 hb3 _))
        go_roundw
        case rel => exact ⟨k + 1, by omega, by go_num, by rw [HNX.out], by rw [HTS.out]; exact hown3, hb3⟩
        case measure => simp [intOf]; omega
      · obtain rfl : k = n := by omega
        have HF0 := Lib.hid (HEND.out rfl)
        clear hb hfb HTK HST HEND
        obtain ⟨AL, cl, rfl, hsl⟩ := Sees.of_own hown
        have HTA := Lib.hid (show l.take k = l from List.take_of_length_le (by have := HLN.out; omega))
        have TRU := Lib.hid (fun w' (hb : Below wr.heap.size wr w') => rrule_any s (typesOf l) AL k cl w' (by have h := hsl.keep hb; rwa [HTA.out] at h))
        obtain ⟨rk, hrk⟩ : ∃ rk, rk = ruleErr s (typesOf l) := ⟨_, rfl⟩
        have HRO := Lib.hid (fun h => ruleErr_ok (s := s) (ts := typesOf l) h)
        rw [← hrk] at TRU HDE HDV HRO
        have HFA := Lib.hid (fun (h : firstBad l = 0) => firstBad_all h)
        have TR2 := Lib.hid (TRU.out wr (Below.refl _ _))
        unfold TwoSays at TR2
        clear hown hsl hrk TRU
        go_wp2_with fail
        refine (TR2.out).mono ?_
        rintro e' w1_ ⟨rfl, hb⟩
        have HLE := HB.out.size
        replace HB := Lib.hid (HB.out.trans (hb.mono HLE))
        clear hb HLE
        by_cases hr0 : rk = 0
        · subst hr0
          obtain ⟨ho, hn', hf'⟩ := HRO.out rfl
          have TRDc := Lib.hid (fun w' hb => TRD0.out ho (by rw [← hn']; simp [typesOf]) (HFA.out HF0.out) hf' w' hb)
          have HD := Lib.hid (show dvv = applyVal s l ∧ dve = applyErr s l from ⟨by rw [HDV.out, HF0.out, if_neg (by decide)]; exact if_neg (by decide), by rw [HDE.out, HF0.out, if_neg (by decide)]; exact if_neg (by decide)⟩)
          obtain ⟨av, hav⟩ : ∃ av, av = applyVal s l := ⟨_, rfl⟩
          obtain ⟨ae, hae⟩ : ∃ ae, ae = applyErr s l := ⟨_, rfl⟩
          rw [← hav, ← hae] at HD TRDc
          unfold RDoSays at TRDc
          clear ho hn' hf' hav hae HDE HDV HRO HFA TRD0
          have HLEw := Lib.hid HB.out.size
          obtain ⟨w2_, hw_⟩ : ∃ w', w1_.alloc (.cells #[.int .i64 0, .int .i64 0, .string ⟨#[]⟩] 30) = w' := ⟨_, rfl⟩
          have hb : Below w1_.heap.size w1_ w2_ := by rw [← hw_]; exact belowNew _ _
          have HOW := Lib.hid (show Own3 w2_ w1_.heap.size zv by rw [HZ.out, ← hw_]; exact own3_new w1_ noVal)
          have HA_w2_ := Lib.hid hw_
          clear hw_
          have HLE := HB.out.size
          replace HB := Lib.hid (HB.out.trans (hb.mono HLE))
          clear hb HLE
          obtain ⟨bw, hbw⟩ : ∃ b, b = w1_.heap.size := ⟨_, rfl⟩
          rw [← hbw] at HOW
          have Hbw := Lib.hid hbw
          have Hbwge := Lib.hid (show w0.heap.size ≤ bw by rw [Hbw.out]; exact HLEw.out)
          go_wp2_with (first | rw [HA_w2_.out])
          rw [← hbw]
          clear hbw
          refine (TRDc.out w2_ (HB0.out.trans (HB.out.mono (Nat.le_of_lt HLT0.out)))).mono ?_
          rintro e' w3_ ⟨rfl, hb⟩
          have HLE := HB.out.size
          replace HB := Lib.hid (HB.out.trans (hb.mono HLE))
          replace HOW := Lib.hid (HOW.out.keep hb)
          clear hb HLE
          unfold valV
          obtain ⟨o0, o1, o2, z0, z1, z2, hlt⟩ := HOW.out.cells
          obtain ⟨w4_, hw_⟩ : ∃ w', ((w3_.setCell ⟨bw, 0, none⟩ (.int .i64 (av).type)).setCell ⟨bw, 1, none⟩ (.int .i64 (av).n)).setCell ⟨bw, 2, none⟩ (.string (av).s) = w' := ⟨_, rfl⟩
          have hy : Only (· = bw) w3_ w4_ := by rw [← hw_]; exact only_s3 _ _ _ _
          replace HOW := Lib.hid (show Own3 w4_ bw (av) by rw [← hw_]; exact own3_set HOW.out _ _ _)
          replace HB := Lib.hid (show Below w0.heap.size w0 w4_ by rw [← hw_]; exact below_set3 HB.out Hbwge.out _ _ _)
          have HA_w4_ := Lib.hid hw_
          clear hw_
          clear hy
          go_wp2_with (first | rw [HA_w4_.out])
          have TD := Lib.hid (TDO0.out w4_ (HB0.out.trans (HB.out.mono (Nat.le_of_lt HLT0.out))))
          rw [HD.out.1, HD.out.2] at TD
          unfold valV at TD
          refine (TD.out).mono ?_
          rintro e' w5_ ⟨rfl, hb⟩
          have HLE := HB.out.size
          replace HB := Lib.hid (HB.out.trans (hb.mono HLE))
          replace HOW := Lib.hid (HOW.out.keep hb)
          clear hb HLE
          obtain ⟨w6_, hw_⟩ : ∃ w', w5_.alloc (.cells #[.int .i64 (av).type, .int .i64 (av).n, .string (av).s] 30) = w' := ⟨_, rfl⟩
          have hb : Below w5_.heap.size w5_ w6_ := by rw [← hw_]; exact belowNew _ _
          have HOG := Lib.hid (show Own3 w6_ w5_.heap.size (av) by rw [← hw_]; exact own3_new w5_ (av))
          have HA_w6_ := Lib.hid hw_
          clear hw_
          have HLE := HB.out.size
          replace HB := Lib.hid (HB.out.trans (hb.mono HLE))
          replace HOW := Lib.hid (HOW.out.keep hb)
          clear hb HLE
          go_wp2_with (first | rw [HA_w6_.out])
          refine (TSE0.out (ae) (ae) w6_ (HB0.out.trans (HB.out.mono (Nat.le_of_lt HLT0.out)))).mono ?_
          rintro e' w7_ ⟨rfl, hb⟩
          have HLE := HB.out.size
          replace HB := Lib.hid (HB.out.trans (hb.mono HLE))
          replace HOW := Lib.hid (HOW.out.keep hb)
          replace HOG := Lib.hid (HOG.out.keep hb)
          clear hb HLE
          rw [show ((ae : Int) == ae) = true from by simp]
          obtain ⟨d0, d1, d2, d3, d4, d5, d6⟩ := box7 ((HB.out.block W.heap.size HLT0.out).trans HBX0.out)
          go_wp2_with fail
          refine (TOF0.out w7_ (HB0.out.trans (HB.out.mono (Nat.le_of_lt HLT0.out)))).mono ?_
          rintro e' w8_ ⟨rfl, hb⟩
          have HLE := HB.out.size
          replace HB := Lib.hid (HB.out.trans (hb.mono HLE))
          replace HOW := Lib.hid (HOW.out.keep hb)
          replace HOG := Lib.hid (HOG.out.keep hb)
          clear hb HLE
          clear d0 d1 d2 d3 d4 d5 d6
          obtain ⟨tt, th, ta⟩ := tr
          dsimp only at HEVR HROK HTO TEV0 ⊢
          by_cases hth : th = 0
          · subst hth
            have HEVR2 := Lib.hid (show vr = if er ≠ 0 then ⟨er, noVal⟩ else ee by rw [HEVR.out]; exact if_neg (by decide))
            go_wp2_with fail
            refine (TRW0.out w8_ (HB0.out.trans (HB.out.mono (Nat.le_of_lt HLT0.out)))).mono ?_
            rintro e' w9_ ⟨rfl, hb⟩
            have HLE := HB.out.size
            replace HB := Lib.hid (HB.out.trans (hb.mono HLE))
            replace HOW := Lib.hid (HOW.out.keep hb)
            replace HOG := Lib.hid (HOG.out.keep hb)
            clear hb HLE
            by_cases her : er = 0
            · subst her
              have HE := Lib.hid (show vr = ee by rw [HEVR2.out]; exact if_neg (by decide))
              clear HEVR HEVR2
              obtain ⟨ek, evv⟩ := ee
              dsimp only at TEV0
              have hW_ := Lib.hid (own3_lt HOW.out)
              have hG_ := Lib.hid (own3_lt HOG.out)
              have hM_ := Lib.hid HB.out.size
              obtain ⟨w10_, hw_⟩ : ∃ w', w9_.alloc (.cells #[.int .i64 0, .int .i64 0, .string ⟨#[]⟩] 30) = w' := ⟨_, rfl⟩
              have hb : Below w9_.heap.size w9_ w10_ := by rw [← hw_]; exact belowNew _ _
              have HOV := Lib.hid (show Own3 w10_ w9_.heap.size zv by rw [HZ.out, ← hw_]; exact own3_new w9_ noVal)
              have HA_w10_ := Lib.hid hw_
              clear hw_
              have HLE := HB.out.size
              replace HB := Lib.hid (HB.out.trans (hb.mono HLE))
              replace HOW := Lib.hid (HOW.out.keep hb)
              replace HOG := Lib.hid (HOG.out.keep hb)
              clear hb HLE
              obtain ⟨bv, hbv⟩ : ∃ b, b = w9_.heap.size := ⟨_, rfl⟩
              rw [← hbv] at HOV
              have Hbv := Lib.hid hbv
              have Hbvge := Lib.hid (show w0.heap.size ≤ bv by rw [Hbv.out]; exact hM_.out)
              have HbvW := Lib.hid (own3_far hW_.out Hbv.out)
              have HbvG := Lib.hid (own3_far hG_.out Hbv.out)
              obtain ⟨d0, d1, d2, d3, d4, d5, d6⟩ := box7 ((HB.out.block W.heap.size HLT0.out).trans HBX0.out)
              go_wp2_with (first | rw [HA_w10_.out])
              rw [← hbv]
              clear hbv
              refine (TEV0.out (by trivial) (HROK.out (by trivial)).2 w10_ (HB0.out.trans (HB.out.mono (Nat.le_of_lt HLT0.out)))).mono ?_
              rintro e' w11_ ⟨rfl, hb⟩
              have HLE := HB.out.size
              replace HB := Lib.hid (HB.out.trans (hb.mono HLE))
              replace HOW := Lib.hid (HOW.out.keep hb)
              replace HOG := Lib.hid (HOG.out.keep hb)
              replace HOV := Lib.hid (HOV.out.keep hb)
              clear hb HLE
              clear d0 d1 d2 d3 d4 d5 d6
              unfold valV
              obtain ⟨o0, o1, o2, z0, z1, z2, hlt⟩ := HOV.out.cells
              obtain ⟨w12_, hw_⟩ : ∃ w', ((w11_.setCell ⟨bv, 0, none⟩ (.int .i64 (evv).type)).setCell ⟨bv, 1, none⟩ (.int .i64 (evv).n)).setCell ⟨bv, 2, none⟩ (.string (evv).s) = w' := ⟨_, rfl⟩
              have hy : Only (· = bv) w11_ w12_ := by rw [← hw_]; exact only_s3 _ _ _ _
              replace HOV := Lib.hid (show Own3 w12_ bv (evv) by rw [← hw_]; exact own3_set HOV.out _ _ _)
              replace HB := Lib.hid (show Below w0.heap.size w0 w12_ by rw [← hw_]; exact below_set3 HB.out Hbvge.out _ _ _)
              have HA_w12_ := Lib.hid hw_
              clear hw_
              replace HOW := Lib.hid (own3_only HOW.out hy HbvW.out)
              replace HOG := Lib.hid (own3_only HOG.out hy HbvG.out)
              clear hy
              obtain ⟨d0, d1, d2, d3, d4, d5, d6⟩ := box7 ((HB.out.block W.heap.size HLT0.out).trans HBX0.out)
              go_wp2_with (first | rw [HA_w12_.out])
              have TW := Lib.hid (TEW0.out w12_ (HB0.out.trans (HB.out.mono (Nat.le_of_lt HLT0.out))))
              rw [HE.out] at TW
              dsimp only at TW
              unfold valV at TW
              refine (TW.out).mono ?_
              rintro e' w13_ ⟨rfl, hb⟩
              have HLE := HB.out.size
              replace HB := Lib.hid (HB.out.trans (hb.mono HLE))
              replace HOW := Lib.hid (HOW.out.keep hb)
              replace HOG := Lib.hid (HOG.out.keep hb)
              replace HOV := Lib.hid (HOV.out.keep hb)
              clear hb HLE
              clear d0 d1 d2 d3 d4 d5 d6
              obtain ⟨w14_, hw_⟩ : ∃ w', w13_.alloc (.cells #[.int .i64 (evv).type, .int .i64 (evv).n, .string (evv).s] 30) = w' := ⟨_, rfl⟩
              have hb : Below w13_.heap.size w13_ w14_ := by rw [← hw_]; exact belowNew _ _
              have HOX := Lib.hid (show Own3 w14_ w13_.heap.size (evv) by rw [← hw_]; exact own3_new w13_ (evv))
              have HA_w14_ := Lib.hid hw_
              clear hw_
              have HLE := HB.out.size
              replace HB := Lib.hid (HB.out.trans (hb.mono HLE))
              replace HOW := Lib.hid (HOW.out.keep hb)
              replace HOG := Lib.hid (HOG.out.keep hb)
              replace HOV := Lib.hid (HOV.out.keep hb)
              clear hb HLE
              go_wp2_with (first | rw [HA_w14_.out])
              refine (TSE0.out (ek) (ek) w14_ (HB0.out.trans (HB.out.mono (Nat.le_of_lt HLT0.out)))).mono ?_
              rintro e' w15_ ⟨rfl, hb⟩
              have HLE := HB.out.size
              replace HB := Lib.hid (HB.out.trans (hb.mono HLE))
              replace HOW := Lib.hid (HOW.out.keep hb)
              replace HOG := Lib.hid (HOG.out.keep hb)
              replace HOV := Lib.hid (HOV.out.keep hb)
              replace HOX := Lib.hid (HOX.out.keep hb)
              clear hb HLE
              rw [show ((ek : Int) == ek) = true from by simp]
              obtain ⟨o0, o1, o2, -, -, -, -⟩ := HOW.out.cells
              obtain ⟨p0, p1, p2, -, -, -, -⟩ := HOG.out.cells
              obtain ⟨q0, q1, q2, -, -, -, -⟩ := HOV.out.cells
              obtain ⟨u0, u1, u2, -, -, -, -⟩ := HOX.out.cells
              have s1 : ((av).type == (av).type) = true := by simp
              have s2 : ((av).n == (av).n) = true := by simp
              have s3 : ((av).s.toList == (av).s.toList) = true := by simp
              have s4 : ((evv).type == (evv).type) = true := by simp
              have s5 : ((evv).n == (evv).n) = true := by simp
              have s6 : ((evv).s.toList == (evv).s.toList) = true := by simp
              go_wp2_with fail
              go_ret
              exact ⟨rfl, HB0.out.trans (HB.out.mono (Nat.le_of_lt HLT0.out))⟩
            · have r0 : (er == 0) = false := beq_eq_false_iff_ne.2 her
              have HE := Lib.hid (show vr = ⟨er, zv⟩ by rw [HEVR2.out, HZ.out]; exact if_pos her)
              clear HEVR HEVR2 her
              obtain ⟨w16_, hw_⟩ : ∃ w', w9_.alloc (.cells #[.int .i64 0, .int .i64 0, .string ⟨#[]⟩] 30) = w' := ⟨_, rfl⟩
              have hb : Below w9_.heap.size w9_ w16_ := by rw [← hw_]; exact belowNew _ _
              have HOV := Lib.hid (show Own3 w16_ w9_.heap.size zv by rw [HZ.out, ← hw_]; exact own3_new w9_ noVal)
              have HA_w16_ := Lib.hid hw_
              clear hw_
              have HLE := HB.out.size
              replace HB := Lib.hid (HB.out.trans (hb.mono HLE))
              replace HOW := Lib.hid (HOW.out.keep hb)
              replace HOG := Lib.hid (HOG.out.keep hb)
              clear hb HLE
              obtain ⟨d0, d1, d2, d3, d4, d5, d6⟩ := box7 ((HB.out.block W.heap.size HLT0.out).trans HBX0.out)
              go_wp2_with (first | rw [HA_w16_.out])
              have TW := Lib.hid (TEW0.out w16_ (HB0.out.trans (HB.out.mono (Nat.le_of_lt HLT0.out))))
              rw [HE.out] at TW
              dsimp only at TW
              unfold valV at TW
              refine (TW.out).mono ?_
              rintro e' w17_ ⟨rfl, hb⟩
              have HLE := HB.out.size
              replace HB := Lib.hid (HB.out.trans (hb.mono HLE))
              replace HOW := Lib.hid (HOW.out.keep hb)
              replace HOG := Lib.hid (HOG.out.keep hb)
              replace HOV := Lib.hid (HOV.out.keep hb)
              clear hb HLE
              clear d0 d1 d2 d3 d4 d5 d6
              obtain ⟨w18_, hw_⟩ : ∃ w', w17_.alloc (.cells #[.int .i64 (zv).type, .int .i64 (zv).n, .string (zv).s] 30) = w' := ⟨_, rfl⟩
              have hb : Below w17_.heap.size w17_ w18_ := by rw [← hw_]; exact belowNew _ _
              have HOX := Lib.hid (show Own3 w18_ w17_.heap.size (zv) by rw [← hw_]; exact own3_new w17_ (zv))
              have HA_w18_ := Lib.hid hw_
              clear hw_
              have HLE := HB.out.size
              replace HB := Lib.hid (HB.out.trans (hb.mono HLE))
              replace HOW := Lib.hid (HOW.out.keep hb)
              replace HOG := Lib.hid (HOG.out.keep hb)
              replace HOV := Lib.hid (HOV.out.keep hb)
              clear hb HLE
              go_wp2_with (first | rw [HA_w18_.out])
              refine (TSE0.out (er) (er) w18_ (HB0.out.trans (HB.out.mono (Nat.le_of_lt HLT0.out)))).mono ?_
              rintro e' w19_ ⟨rfl, hb⟩
              have HLE := HB.out.size
              replace HB := Lib.hid (HB.out.trans (hb.mono HLE))
              replace HOW := Lib.hid (HOW.out.keep hb)
              replace HOG := Lib.hid (HOG.out.keep hb)
              replace HOV := Lib.hid (HOV.out.keep hb)
              replace HOX := Lib.hid (HOX.out.keep hb)
              clear hb HLE
              rw [show ((er : Int) == er) = true from by simp]
              obtain ⟨o0, o1, o2, -, -, -, -⟩ := HOW.out.cells
              obtain ⟨p0, p1, p2, -, -, -, -⟩ := HOG.out.cells
              obtain ⟨q0, q1, q2, -, -, -, -⟩ := HOV.out.cells
              obtain ⟨u0, u1, u2, -, -, -, -⟩ := HOX.out.cells
              have s1 : ((av).type == (av).type) = true := by simp
              have s2 : ((av).n == (av).n) = true := by simp
              have s3 : ((av).s.toList == (av).s.toList) = true := by simp
              have s4 : ((zv).type == (zv).type) = true := by simp
              have s5 : ((zv).n == (zv).n) = true := by simp
              have s6 : ((zv).s.toList == (zv).s.toList) = true := by simp
              go_wp2_with fail
              go_ret
              exact ⟨rfl, HB0.out.trans (HB.out.mono (Nat.le_of_lt HLT0.out))⟩
          · have t0 : (th == 0) = false := beq_eq_false_iff_ne.2 hth
            have HE := Lib.hid (show vr = ⟨th, zv⟩ by rw [HEVR.out, HZ.out]; exact if_pos hth)
            clear HEVR hth
            obtain ⟨w20_, hw_⟩ : ∃ w', w8_.alloc (.cells #[.int .i64 0, .int .i64 0, .string ⟨#[]⟩] 30) = w' := ⟨_, rfl⟩
            have hb : Below w8_.heap.size w8_ w20_ := by rw [← hw_]; exact belowNew _ _
            have HOV := Lib.hid (show Own3 w20_ w8_.heap.size zv by rw [HZ.out, ← hw_]; exact own3_new w8_ noVal)
            have HA_w20_ := Lib.hid hw_
            clear hw_
            have HLE := HB.out.size
            replace HB := Lib.hid (HB.out.trans (hb.mono HLE))
            replace HOW := Lib.hid (HOW.out.keep hb)
            replace HOG := Lib.hid (HOG.out.keep hb)
            clear hb HLE
            obtain ⟨d0, d1, d2, d3, d4, d5, d6⟩ := box7 ((HB.out.block W.heap.size HLT0.out).trans HBX0.out)
            go_wp2_with (first | rw [HA_w20_.out])
            have TW := Lib.hid (TEW0.out w20_ (HB0.out.trans (HB.out.mono (Nat.le_of_lt HLT0.out))))
            rw [HE.out] at TW
            dsimp only at TW
            unfold valV at TW
            refine (TW.out).mono ?_
            rintro e' w21_ ⟨rfl, hb⟩
            have HLE := HB.out.size
            replace HB := Lib.hid (HB.out.trans (hb.mono HLE))
            replace HOW := Lib.hid (HOW.out.keep hb)
            replace HOG := Lib.hid (HOG.out.keep hb)
            replace HOV := Lib.hid (HOV.out.keep hb)
            clear hb HLE
            clear d0 d1 d2 d3 d4 d5 d6
            obtain ⟨w22_, hw_⟩ : ∃ w', w21_.alloc (.cells #[.int .i64 (zv).type, .int .i64 (zv).n, .string (zv).s] 30) = w' := ⟨_, rfl⟩
            have hb : Below w21_.heap.size w21_ w22_ := by rw [← hw_]; exact belowNew _ _
            have HOX := Lib.hid (show Own3 w22_ w21_.heap.size (zv) by rw [← hw_]; exact own3_new w21_ (zv))
            have HA_w22_ := Lib.hid hw_
            clear hw_
            have HLE := HB.out.size
            replace HB := Lib.hid (HB.out.trans (hb.mono HLE))
            replace HOW := Lib.hid (HOW.out.keep hb)
            replace HOG := Lib.hid (HOG.out.keep hb)
            replace HOV := Lib.hid (HOV.out.keep hb)
            clear hb HLE
            go_wp2_with (first | rw [HA_w22_.out])
            refine (TSE0.out (th) (th) w22_ (HB0.out.trans (HB.out.mono (Nat.le_of_lt HLT0.out)))).mono ?_
            rintro e' w23_ ⟨rfl, hb⟩
            have HLE := HB.out.size
            replace HB := Lib.hid (HB.out.trans (hb.mono HLE))
            replace HOW := Lib.hid (HOW.out.keep hb)
            replace HOG := Lib.hid (HOG.out.keep hb)
            replace HOV := Lib.hid (HOV.out.keep hb)
            replace HOX := Lib.hid (HOX.out.keep hb)
            clear hb HLE
            rw [show ((th : Int) == th) = true from by simp]
            obtain ⟨o0, o1, o2, -, -, -, -⟩ := HOW.out.cells
            obtain ⟨p0, p1, p2, -, -, -, -⟩ := HOG.out.cells
            obtain ⟨q0, q1, q2, -, -, -, -⟩ := HOV.out.cells
            obtain ⟨u0, u1, u2, -, -, -, -⟩ := HOX.out.cells
            have s1 : ((av).type == (av).type) = true := by simp
            have s2 : ((av).n == (av).n) = true := by simp
            have s3 : ((av).s.toList == (av).s.toList) = true := by simp
            have s4 : ((zv).type == (zv).type) = true := by simp
            have s5 : ((zv).n == (zv).n) = true := by simp
            have s6 : ((zv).s.toList == (zv).s.toList) = true := by simp
            go_wp2_with fail
            go_ret
            exact ⟨rfl, HB0.out.trans (HB.out.mono (Nat.le_of_lt HLT0.out))⟩
        · have rk0 : (rk == 0) = false := beq_eq_false_iff_ne.2 hr0
          have HD := Lib.hid (show dvv = zv ∧ dve = rk from ⟨by rw [HDV.out, HF0.out, if_neg (by decide), HZ.out]; exact if_pos hr0, by rw [HDE.out, HF0.out, if_neg (by decide)]; exact if_pos hr0⟩)
          clear HDE HDV HRO HFA TRD0 hr0
          obtain ⟨w24_, hw_⟩ : ∃ w', w1_.alloc (.cells #[.int .i64 0, .int .i64 0, .string ⟨#[]⟩] 30) = w' := ⟨_, rfl⟩
          have hb : Below w1_.heap.size w1_ w24_ := by rw [← hw_]; exact belowNew _ _
          have HOW := Lib.hid (show Own3 w24_ w1_.heap.size zv by rw [HZ.out, ← hw_]; exact own3_new w1_ noVal)
          have HA_w24_ := Lib.hid hw_
          clear hw_
          have HLE := HB.out.size
          replace HB := Lib.hid (HB.out.trans (hb.mono HLE))
          clear hb HLE
          go_wp2_with (first | rw [HA_w24_.out])
          have TD := Lib.hid (TDO0.out w24_ (HB0.out.trans (HB.out.mono (Nat.le_of_lt HLT0.out))))
          rw [HD.out.1, HD.out.2] at TD
          unfold valV at TD
          refine (TD.out).mono ?_
          rintro e' w25_ ⟨rfl, hb⟩
          have HLE := HB.out.size
          replace HB := Lib.hid (HB.out.trans (hb.mono HLE))
          replace HOW := Lib.hid (HOW.out.keep hb)
          clear hb HLE
          obtain ⟨w26_, hw_⟩ : ∃ w', w25_.alloc (.cells #[.int .i64 (zv).type, .int .i64 (zv).n, .string (zv).s] 30) = w' := ⟨_, rfl⟩
          have hb : Below w25_.heap.size w25_ w26_ := by rw [← hw_]; exact belowNew _ _
          have HOG := Lib.hid (show Own3 w26_ w25_.heap.size (zv) by rw [← hw_]; exact own3_new w25_ (zv))
          have HA_w26_ := Lib.hid hw_
          clear hw_
          have HLE := HB.out.size
          replace HB := Lib.hid (HB.out.trans (hb.mono HLE))
          replace HOW := Lib.hid (HOW.out.keep hb)
          clear hb HLE
          go_wp2_with (first | rw [HA_w26_.out])
          refine (TSE0.out (rk) (rk) w26_ (HB0.out.trans (HB.out.mono (Nat.le_of_lt HLT0.out)))).mono ?_
          rintro e' w27_ ⟨rfl, hb⟩
          have HLE := HB.out.size
          replace HB := Lib.hid (HB.out.trans (hb.mono HLE))
          replace HOW := Lib.hid (HOW.out.keep hb)
          replace HOG := Lib.hid (HOG.out.keep hb)
          clear hb HLE
          rw [show ((rk : Int) == rk) = true from by simp]
          obtain ⟨d0, d1, d2, d3, d4, d5, d6⟩ := box7 ((HB.out.block W.heap.size HLT0.out).trans HBX0.out)
          go_wp2_with fail
          refine (TOF0.out w27_ (HB0.out.trans (HB.out.mono (Nat.le_of_lt HLT0.out)))).mono ?_
          rintro e' w28_ ⟨rfl, hb⟩
          have HLE := HB.out.size
          replace HB := Lib.hid (HB.out.trans (hb.mono HLE))
          replace HOW := Lib.hid (HOW.out.keep hb)
          replace HOG := Lib.hid (HOG.out.keep hb)
          clear hb HLE
          clear d0 d1 d2 d3 d4 d5 d6
          obtain ⟨tt, th, ta⟩ := tr
          dsimp only at HEVR HROK HTO TEV0 ⊢
          by_cases hth : th = 0
          · subst hth
            have HEVR2 := Lib.hid (show vr = if er ≠ 0 then ⟨er, noVal⟩ else ee by rw [HEVR.out]; exact if_neg (by decide))
            go_wp2_with fail
            refine (TRW0.out w28_ (HB0.out.trans (HB.out.mono (Nat.le_of_lt HLT0.out)))).mono ?_
            rintro e' w29_ ⟨rfl, hb⟩
            have HLE := HB.out.size
            replace HB := Lib.hid (HB.out.trans (hb.mono HLE))
            replace HOW := Lib.hid (HOW.out.keep hb)
            replace HOG := Lib.hid (HOG.out.keep hb)
            clear hb HLE
            by_cases her : er = 0
            · subst her
              have HE := Lib.hid (show vr = ee by rw [HEVR2.out]; exact if_neg (by decide))
              clear HEVR HEVR2
              obtain ⟨ek, evv⟩ := ee
              dsimp only at TEV0
              have hW_ := Lib.hid (own3_lt HOW.out)
              have hG_ := Lib.hid (own3_lt HOG.out)
              have hM_ := Lib.hid HB.out.size
              obtain ⟨w30_, hw_⟩ : ∃ w', w29_.alloc (.cells #[.int .i64 0, .int .i64 0, .string ⟨#[]⟩] 30) = w' := ⟨_, rfl⟩
              have hb : Below w29_.heap.size w29_ w30_ := by rw [← hw_]; exact belowNew _ _
              have HOV := Lib.hid (show Own3 w30_ w29_.heap.size zv by rw [HZ.out, ← hw_]; exact own3_new w29_ noVal)
              have HA_w30_ := Lib.hid hw_
              clear hw_
              have HLE := HB.out.size
              replace HB := Lib.hid (HB.out.trans (hb.mono HLE))
              replace HOW := Lib.hid (HOW.out.keep hb)
              replace HOG := Lib.hid (HOG.out.keep hb)
              clear hb HLE
              obtain ⟨bv, hbv⟩ : ∃ b, b = w29_.heap.size := ⟨_, rfl⟩
              rw [← hbv] at HOV
              have Hbv := Lib.hid hbv
              have Hbvge := Lib.hid (show w0.heap.size ≤ bv by rw [Hbv.out]; exact hM_.out)
              have HbvW := Lib.hid (own3_far hW_.out Hbv.out)
              have HbvG := Lib.hid (own3_far hG_.out Hbv.out)
              obtain ⟨d0, d1, d2, d3, d4, d5, d6⟩ := box7 ((HB.out.block W.heap.size HLT0.out).trans HBX0.out)
              go_wp2_with (first | rw [HA_w30_.out])
              rw [← hbv]
              clear hbv
              refine (TEV0.out (by trivial) (HROK.out (by trivial)).2 w30_ (HB0.out.trans (HB.out.mono (Nat.le_of_lt HLT0.out)))).mono ?_
              rintro e' w31_ ⟨rfl, hb⟩
              have HLE := HB.out.size
              replace HB := Lib.hid (HB.out.trans (hb.mono HLE))
              replace HOW := Lib.hid (HOW.out.keep hb)
              replace HOG := Lib.hid (HOG.out.keep hb)
              replace HOV := Lib.hid (HOV.out.keep hb)
              clear hb HLE
              clear d0 d1 d2 d3 d4 d5 d6
              unfold valV
              obtain ⟨o0, o1, o2, z0, z1, z2, hlt⟩ := HOV.out.cells
              obtain ⟨w32_, hw_⟩ : ∃ w', ((w31_.setCell ⟨bv, 0, none⟩ (.int .i64 (evv).type)).setCell ⟨bv, 1, none⟩ (.int .i64 (evv).n)).setCell ⟨bv, 2, none⟩ (.string (evv).s) = w' := ⟨_, rfl⟩
              have hy : Only (· = bv) w31_ w32_ := by rw [← hw_]; exact only_s3 _ _ _ _
              replace HOV := Lib.hid (show Own3 w32_ bv (evv) by rw [← hw_]; exact own3_set HOV.out _ _ _)
              replace HB := Lib.hid (show Below w0.heap.size w0 w32_ by rw [← hw_]; exact below_set3 HB.out Hbvge.out _ _ _)
              have HA_w32_ := Lib.hid hw_
              clear hw_
              replace HOW := Lib.hid (own3_only HOW.out hy HbvW.out)
              replace HOG := Lib.hid (own3_only HOG.out hy HbvG.out)
              clear hy
              obtain ⟨d0, d1, d2, d3, d4, d5, d6⟩ := box7 ((HB.out.block W.heap.size HLT0.out).trans HBX0.out)
              go_wp2_with (first | rw [HA_w32_.out])
              have TW := Lib.hid (TEW0.out w32_ (HB0.out.trans (HB.out.mono (Nat.le_of_lt HLT0.out))))
              rw [HE.out] at TW
              dsimp only at TW
              unfold valV at TW
              refine (TW.out).mono ?_
              rintro e' w33_ ⟨rfl, hb⟩
              have HLE := HB.out.size
              replace HB := Lib.hid (HB.out.trans (hb.mono HLE))
              replace HOW := Lib.hid (HOW.out.keep hb)
              replace HOG := Lib.hid (HOG.out.keep hb)
              replace HOV := Lib.hid (HOV.out.keep hb)
              clear hb HLE
              clear d0 d1 d2 d3 d4 d5 d6
              obtain ⟨w34_, hw_⟩ : ∃ w', w33_.alloc (.cells #[.int .i64 (evv).type, .int .i64 (evv).n, .string (evv).s] 30) = w' := ⟨_, rfl⟩
              have hb : Below w33_.heap.size w33_ w34_ := by rw [← hw_]; exact belowNew _ _
              have HOX := Lib.hid (show Own3 w34_ w33_.heap.size (evv) by rw [← hw_]; exact own3_new w33_ (evv))
              have HA_w34_ := Lib.hid hw_
              clear hw_
              have HLE := HB.out.size
              replace HB := Lib.hid (HB.out.trans (hb.mono HLE))
              replace HOW := Lib.hid (HOW.out.keep hb)
              replace HOG := Lib.hid (HOG.out.keep hb)
              replace HOV := Lib.hid (HOV.out.keep hb)
              clear hb HLE
              go_wp2_with (first | rw [HA_w34_.out])
              refine (TSE0.out (ek) (ek) w34_ (HB0.out.trans (HB.out.mono (Nat.le_of_lt HLT0.out)))).mono ?_
              rintro e' w35_ ⟨rfl, hb⟩
              have HLE := HB.out.size
              replace HB := Lib.hid (HB.out.trans (hb.mono HLE))
              replace HOW := Lib.hid (HOW.out.keep hb)
              replace HOG := Lib.hid (HOG.out.keep hb)
              replace HOV := Lib.hid (HOV.out.keep hb)
              replace HOX := Lib.hid (HOX.out.keep hb)
              clear hb HLE
              rw [show ((ek : Int) == ek) = true from by simp]
              obtain ⟨o0, o1, o2, -, -, -, -⟩ := HOW.out.cells
              obtain ⟨p0, p1, p2, -, -, -, -⟩ := HOG.out.cells
              obtain ⟨q0, q1, q2, -, -, -, -⟩ := HOV.out.cells
              obtain ⟨u0, u1, u2, -, -, -, -⟩ := HOX.out.cells
              have s1 : ((zv).type == (zv).type) = true := by simp
              have s2 : ((zv).n == (zv).n) = true := by simp
              have s3 : ((zv).s.toList == (zv).s.toList) = true := by simp
              have s4 : ((evv).type == (evv).type) = true := by simp
              have s5 : ((evv).n == (evv).n) = true := by simp
              have s6 : ((evv).s.toList == (evv).s.toList) = true := by simp
              go_wp2_with fail
              go_ret
              exact ⟨rfl, HB0.out.trans (HB.out.mono (Nat.le_of_lt HLT0.out))⟩
            · have r0 : (er == 0) = false := beq_eq_false_iff_ne.2 her
              have HE := Lib.hid (show vr = ⟨er, zv⟩ by rw [HEVR2.out, HZ.out]; exact if_pos her)
              clear HEVR HEVR2 her
              obtain ⟨w36_, hw_⟩ : ∃ w', w29_.alloc (.cells #[.int .i64 0, .int .i64 0, .string ⟨#[]⟩] 30) = w' := ⟨_, rfl⟩
              have hb : Below w29_.heap.size w29_ w36_ := by rw [← hw_]; exact belowNew _ _
              have HOV := Lib.hid (show Own3 w36_ w29_.heap.size zv by rw [HZ.out, ← hw_]; exact own3_new w29_ noVal)
              have HA_w36_ := Lib.hid hw_
              clear hw_
              have HLE := HB.out.size
              replace HB := Lib.hid (HB.out.trans (hb.mono HLE))
              replace HOW := Lib.hid (HOW.out.keep hb)
              replace HOG := Lib.hid (HOG.out.keep hb)
              clear hb HLE
              obtain ⟨d0, d1, d2, d3, d4, d5, d6⟩ := box7 ((HB.out.block W.heap.size HLT0.out).trans HBX0.out)
              go_wp2_with (first | rw [HA_w36_.out])
              have TW := Lib.hid (TEW0.out w36_ (HB0.out.trans (HB.out.mono (Nat.le_of_lt HLT0.out))))
              rw [HE.out] at TW
              dsimp only at TW
              unfold valV at TW
              refine (TW.out).mono ?_
              rintro e' w37_ ⟨rfl, hb⟩
              have HLE := HB.out.size
              replace HB := Lib.hid (HB.out.trans (hb.mono HLE))
              replace HOW := Lib.hid (HOW.out.keep hb)
              replace HOG := Lib.hid (HOG.out.keep hb)
              replace HOV := Lib.hid (HOV.out.keep hb)
              clear hb HLE
              clear d0 d1 d2 d3 d4 d5 d6
              obtain ⟨w38_, hw_⟩ : ∃ w', w37_.alloc (.cells #[.int .i64 (zv).type, .int .i64 (zv).n, .string (zv).s] 30) = w' := ⟨_, rfl⟩
              have hb : Below w37_.heap.size w37_ w38_ := by rw [← hw_]; exact belowNew _ _
              have HOX := Lib.hid (show Own3 w38_ w37_.heap.size (zv) by rw [← hw_]; exact own3_new w37_ (zv))
              have HA_w38_ := Lib.hid hw_
              clear hw_
              have HLE := HB.out.size
              replace HB := Lib.hid (HB.out.trans (hb.mono HLE))
              replace HOW := Lib.hid (HOW.out.keep hb)
              replace HOG := Lib.hid (HOG.out.keep hb)
              replace HOV := Lib.hid (HOV.out.keep hb)
              clear hb HLE
              go_wp2_with (first | rw [HA_w38_.out])
              refine (TSE0.out (er) (er) w38_ (HB0.out.trans (HB.out.mono (Nat.le_of_lt HLT0.out)))).mono ?_
              rintro e' w39_ ⟨rfl, hb⟩
              have HLE := HB.out.size
              replace HB := Lib.hid (HB.out.trans (hb.mono HLE))
              replace HOW := Lib.hid (HOW.out.keep hb)
              replace HOG := Lib.hid (HOG.out.keep hb)
              replace HOV := Lib.hid (HOV.out.keep hb)
              replace HOX := Lib.hid (HOX.out.keep hb)
              clear hb HLE
              rw [show ((er : Int) == er) = true from by simp]
              obtain ⟨o0, o1, o2, -, -, -, -⟩ := HOW.out.cells
              obtain ⟨p0, p1, p2, -, -, -, -⟩ := HOG.out.cells
              obtain ⟨q0, q1, q2, -, -, -, -⟩ := HOV.out.cells
              obtain ⟨u0, u1, u2, -, -, -, -⟩ := HOX.out.cells
              have s1 : ((zv).type == (zv).type) = true := by simp
              have s2 : ((zv).n == (zv).n) = true := by simp
              have s3 : ((zv).s.toList == (zv).s.toList) = true := by simp
              have s4 : ((zv).type == (zv).type) = true := by simp
              have s5 : ((zv).n == (zv).n) = true := by simp
              have s6 : ((zv).s.toList == (zv).s.toList) = true := by simp
              go_wp2_with fail
              go_ret
              exact ⟨rfl, HB0.out.trans (HB.out.mono (Nat.le_of_lt HLT0.out))⟩
          · have t0 : (th == 0) = false := beq_eq_false_iff_ne.2 hth
            have HE := Lib.hid (show vr = ⟨th, zv⟩ by rw [HEVR.out, HZ.out]; exact if_pos hth)
            clear HEVR hth
            obtain ⟨w40_, hw_⟩ : ∃ w', w28_.alloc (.cells #[.int .i64 0, .int .i64 0, .string ⟨#[]⟩] 30) = w' := ⟨_, rfl⟩
            have hb : Below w28_.heap.size w28_ w40_ := by rw [← hw_]; exact belowNew _ _
            have HOV := Lib.hid (show Own3 w40_ w28_.heap.size zv by rw [HZ.out, ← hw_]; exact own3_new w28_ noVal)
            have HA_w40_ := Lib.hid hw_
            clear hw_
            have HLE := HB.out.size
            replace HB := Lib.hid (HB.out.trans (hb.mono HLE))
            replace HOW := Lib.hid (HOW.out.keep hb)
            replace HOG := Lib.hid (HOG.out.keep hb)
            clear hb HLE
            obtain ⟨d0, d1, d2, d3, d4, d5, d6⟩ := box7 ((HB.out.block W.heap.size HLT0.out).trans HBX0.out)
            go_wp2_with (first | rw [HA_w40_.out])
            have TW := Lib.hid (TEW0.out w40_ (HB0.out.trans (HB.out.mono (Nat.le_of_lt HLT0.out))))
            rw [HE.out] at TW
            dsimp only at TW
            unfold valV at TW
            refine (TW.out).mono ?_
            rintro e' w41_ ⟨rfl, hb⟩
            have HLE := HB.out.size
            replace HB := Lib.hid (HB.out.trans (hb.mono HLE))
            replace HOW := Lib.hid (HOW.out.keep hb)
            replace HOG := Lib.hid (HOG.out.keep hb)
            replace HOV := Lib.hid (HOV.out.keep hb)
            clear hb HLE
            clear d0 d1 d2 d3 d4 d5 d6
            obtain ⟨w42_, hw_⟩ : ∃ w', w41_.alloc (.cells #[.int .i64 (zv).type, .int .i64 (zv).n, .string (zv).s] 30) = w' := ⟨_, rfl⟩
            have hb : Below w41_.heap.size w41_ w42_ := by rw [← hw_]; exact belowNew _ _
            have HOX := Lib.hid (show Own3 w42_ w41_.heap.size (zv) by rw [← hw_]; exact own3_new w41_ (zv))
            have HA_w42_ := Lib.hid hw_
            clear hw_
            have HLE := HB.out.size
            replace HB := Lib.hid (HB.out.trans (hb.mono HLE))
            replace HOW := Lib.hid (HOW.out.keep hb)
            replace HOG := Lib.hid (HOG.out.keep hb)
            replace HOV := Lib.hid (HOV.out.keep hb)
            clear hb HLE
            go_wp2_with (first | rw [HA_w42_.out])
            refine (TSE0.out (th) (th) w42_ (HB0.out.trans (HB.out.mono (Nat.le_of_lt HLT0.out)))).mono ?_
            rintro e' w43_ ⟨rfl, hb⟩
            have HLE := HB.out.size
            replace HB := Lib.hid (HB.out.trans (hb.mono HLE))
            replace HOW := Lib.hid (HOW.out.keep hb)
            replace HOG := Lib.hid (HOG.out.keep hb)
            replace HOV := Lib.hid (HOV.out.keep hb)
            replace HOX := Lib.hid (HOX.out.keep hb)
            clear hb HLE
            rw [show ((th : Int) == th) = true from by simp]
            obtain ⟨o0, o1, o2, -, -, -, -⟩ := HOW.out.cells
            obtain ⟨p0, p1, p2, -, -, -, -⟩ := HOG.out.cells
            obtain ⟨q0, q1, q2, -, -, -, -⟩ := HOV.out.cells
            obtain ⟨u0, u1, u2, -, -, -, -⟩ := HOX.out.cells
            have s1 : ((zv).type == (zv).type) = true := by simp
            have s2 : ((zv).n == (zv).n) = true := by simp
            have s3 : ((zv).s.toList == (zv).s.toList) = true := by simp
            have s4 : ((zv).type == (zv).type) = true := by simp
            have s5 : ((zv).n == (zv).n) = true := by simp
            have s6 : ((zv).s.toList == (zv).s.toList) = true := by simp
            go_wp2_with fail
            go_ret
            exact ⟨rfl, HB0.out.trans (HB.out.mono (Nat.le_of_lt HLT0.out))⟩
    · have f0 : (fb == 0) = false := beq_eq_false_iff_ne.2 hf
      have HD := Lib.hid (show dvv = zv ∧ dve = fb from ⟨by rw [HDV.out, HST.out hf, HZ.out]; exact if_pos hf, by rw [HDE.out, HST.out hf]; exact if_pos hf⟩)
      clear HDE HDV HTK HST HEND hb hown hf hfb
      by_cases hlk : k < n
      · skip
        obtain ⟨w44_, hw_⟩ : ∃ w', wr.alloc (.cells #[.int .i64 0, .int .i64 0, .string ⟨#[]⟩] 30) = w' := ⟨_, rfl⟩
        have hb : Below wr.heap.size wr w44_ := by rw [← hw_]; exact belowNew _ _
        have HOW := Lib.hid (show Own3 w44_ wr.heap.size zv by rw [HZ.out, ← hw_]; exact own3_new wr noVal)
        have HA_w44_ := Lib.hid hw_
        clear hw_
        have HLE := HB.out.size
        replace HB := Lib.hid (HB.out.trans (hb.mono HLE))
        clear hb HLE
        go_wp2_with (first | rw [HA_w44_.out])
        have TD := Lib.hid (TDO0.out w44_ (HB0.out.trans (HB.out.mono (Nat.le_of_lt HLT0.out))))
        rw [HD.out.1, HD.out.2] at TD
        unfold valV at TD
        refine (TD.out).mono ?_
        rintro e' w45_ ⟨rfl, hb⟩
        have HLE := HB.out.size
        replace HB := Lib.hid (HB.out.trans (hb.mono HLE))
        replace HOW := Lib.hid (HOW.out.keep hb)
        clear hb HLE
        obtain ⟨w46_, hw_⟩ : ∃ w', w45_.alloc (.cells #[.int .i64 (zv).type, .int .i64 (zv).n, .string (zv).s] 30) = w' := ⟨_, rfl⟩
        have hb : Below w45_.heap.size w45_ w46_ := by rw [← hw_]; exact belowNew _ _
        have HOG := Lib.hid (show Own3 w46_ w45_.heap.size (zv) by rw [← hw_]; exact own3_new w45_ (zv))
        have HA_w46_ := Lib.hid hw_
        clear hw_
        have HLE := HB.out.size
        replace HB := Lib.hid (HB.out.trans (hb.mono HLE))
        replace HOW := Lib.hid (HOW.out.keep hb)
        clear hb HLE
        go_wp2_with (first | rw [HA_w46_.out])
        refine (TSE0.out (fb) (fb) w46_ (HB0.out.trans (HB.out.mono (Nat.le_of_lt HLT0.out)))).mono ?_
        rintro e' w47_ ⟨rfl, hb⟩
        have HLE := HB.out.size
        replace HB := Lib.hid (HB.out.trans (hb.mono HLE))
        replace HOW := Lib.hid (HOW.out.keep hb)
        replace HOG := Lib.hid (HOG.out.keep hb)
        clear hb HLE
        rw [show ((fb : Int) == fb) = true from by simp]
        obtain ⟨d0, d1, d2, d3, d4, d5, d6⟩ := box7 ((HB.out.block W.heap.size HLT0.out).trans HBX0.out)
        go_wp2_with fail
        refine (TOF0.out w47_ (HB0.out.trans (HB.out.mono (Nat.le_of_lt HLT0.out)))).mono ?_
        rintro e' w48_ ⟨rfl, hb⟩
        have HLE := HB.out.size
        replace HB := Lib.hid (HB.out.trans (hb.mono HLE))
        replace HOW := Lib.hid (HOW.out.keep hb)
        replace HOG := Lib.hid (HOG.out.keep hb)
        clear hb HLE
        clear d0 d1 d2 d3 d4 d5 d6
        obtain ⟨tt, th, ta⟩ := tr
        dsimp only at HEVR HROK HTO TEV0 ⊢
        by_cases hth : th = 0
        · subst hth
          have HEVR2 := Lib.hid (show vr = if er ≠ 0 then ⟨er, noVal⟩ else ee by rw [HEVR.out]; exact if_neg (by decide))
          go_wp2_with fail
          refine (TRW0.out w48_ (HB0.out.trans (HB.out.mono (Nat.le_of_lt HLT0.out)))).mono ?_
          rintro e' w49_ ⟨rfl, hb⟩
          have HLE := HB.out.size
          replace HB := Lib.hid (HB.out.trans (hb.mono HLE))
          replace HOW := Lib.hid (HOW.out.keep hb)
          replace HOG := Lib.hid (HOG.out.keep hb)
          clear hb HLE
          by_cases her : er = 0
          · subst her
            have HE := Lib.hid (show vr = ee by rw [HEVR2.out]; exact if_neg (by decide))
            clear HEVR HEVR2
            obtain ⟨ek, evv⟩ := ee
            dsimp only at TEV0
            have hW_ := Lib.hid (own3_lt HOW.out)
            have hG_ := Lib.hid (own3_lt HOG.out)
            have hM_ := Lib.hid HB.out.size
            obtain ⟨w50_, hw_⟩ : ∃ w', w49_.alloc (.cells #[.int .i64 0, .int .i64 0, .string ⟨#[]⟩] 30) = w' := ⟨_, rfl⟩
            have hb : Below w49_.heap.size w49_ w50_ := by rw [← hw_]; exact belowNew _ _
            have HOV := Lib.hid (show Own3 w50_ w49_.heap.size zv by rw [HZ.out, ← hw_]; exact own3_new w49_ noVal)
            have HA_w50_ := Lib.hid hw_
            clear hw_
            have HLE := HB.out.size
            replace HB := Lib.hid (HB.out.trans (hb.mono HLE))
            replace HOW := Lib.hid (HOW.out.keep hb)
            replace HOG := Lib.hid (HOG.out.keep hb)
            clear hb HLE
            obtain ⟨bv, hbv⟩ : ∃ b, b = w49_.heap.size := ⟨_, rfl⟩
            rw [← hbv] at HOV
            have Hbv := Lib.hid hbv
            have Hbvge := Lib.hid (show w0.heap.size ≤ bv by rw [Hbv.out]; exact hM_.out)
            have HbvW := Lib.hid (own3_far hW_.out Hbv.out)
            have HbvG := Lib.hid (own3_far hG_.out Hbv.out)
            obtain ⟨d0, d1, d2, d3, d4, d5, d6⟩ := box7 ((HB.out.block W.heap.size HLT0.out).trans HBX0.out)
            go_wp2_with (first | rw [HA_w50_.out])
            rw [← hbv]
            clear hbv
            refine (TEV0.out (by trivial) (HROK.out (by trivial)).2 w50_ (HB0.out.trans (HB.out.mono (Nat.le_of_lt HLT0.out)))).mono ?_
            rintro e' w51_ ⟨rfl, hb⟩
            have HLE := HB.out.size
            replace HB := Lib.hid (HB.out.trans (hb.mono HLE))
            replace HOW := Lib.hid (HOW.out.keep hb)
            replace HOG := Lib.hid (HOG.out.keep hb)
            replace HOV := Lib.hid (HOV.out.keep hb)
            clear hb HLE
            clear d0 d1 d2 d3 d4 d5 d6
            unfold valV
            obtain ⟨o0, o1, o2, z0, z1, z2, hlt⟩ := HOV.out.cells
            obtain ⟨w52_, hw_⟩ : ∃ w', ((w51_.setCell ⟨bv, 0, none⟩ (.int .i64 (evv).type)).setCell ⟨bv, 1, none⟩ (.int .i64 (evv).n)).setCell ⟨bv, 2, none⟩ (.string (evv).s) = w' := ⟨_, rfl⟩
            have hy : Only (· = bv) w51_ w52_ := by rw [← hw_]; exact only_s3 _ _ _ _
            replace HOV := Lib.hid (show Own3 w52_ bv (evv) by rw [← hw_]; exact own3_set HOV.out _ _ _)
            replace HB := Lib.hid (show Below w0.heap.size w0 w52_ by rw [← hw_]; exact below_set3 HB.out Hbvge.out _ _ _)
            have HA_w52_ := Lib.hid hw_
            clear hw_
            replace HOW := Lib.hid (own3_only HOW.out hy HbvW.out)
            replace HOG := Lib.hid (own3_only HOG.out hy HbvG.out)
            clear hy
            obtain ⟨d0, d1, d2, d3, d4, d5, d6⟩ := box7 ((HB.out.block W.heap.size HLT0.out).trans HBX0.out)
            go_wp2_with (first | rw [HA_w52_.out])
            have TW := Lib.hid (TEW0.out w52_ (HB0.out.trans (HB.out.mono (Nat.le_of_lt HLT0.out))))
            rw [HE.out] at TW
            dsimp only at TW
            unfold valV at TW
            refine (TW.out).mono ?_
            rintro e' w53_ ⟨rfl, hb⟩
            have HLE := HB.out.size
            replace HB := Lib.hid (HB.out.trans (hb.mono HLE))
            replace HOW := Lib.hid (HOW.out.keep hb)
            replace HOG := Lib.hid (HOG.out.keep hb)
            replace HOV := Lib.hid (HOV.out.keep hb)
            clear hb HLE
            clear d0 d1 d2 d3 d4 d5 d6
            obtain ⟨w54_, hw_⟩ : ∃ w', w53_.alloc (.cells #[.int .i64 (evv).type, .int .i64 (evv).n, .string (evv).s] 30) = w' := ⟨_, rfl⟩
            have hb : Below w53_.heap.size w53_ w54_ := by rw [← hw_]; exact belowNew _ _
            have HOX := Lib.hid (show Own3 w54_ w53_.heap.size (evv) by rw [← hw_]; exact own3_new w53_ (evv))
            have HA_w54_ := Lib.hid hw_
            clear hw_
            have HLE := HB.out.size
            replace HB := Lib.hid (HB.out.trans (hb.mono HLE))
            replace HOW := Lib.hid (HOW.out.keep hb)
            replace HOG := Lib.hid (HOG.out.keep hb)
            replace HOV := Lib.hid (HOV.out.keep hb)
            clear hb HLE
            go_wp2_with (first | rw [HA_w54_.out])
            refine (TSE0.out (ek) (ek) w54_ (HB0.out.trans (HB.out.mono (Nat.le_of_lt HLT0.out)))).mono ?_
            rintro e' w55_ ⟨rfl, hb⟩
            have HLE := HB.out.size
            replace HB := Lib.hid (HB.out.trans (hb.mono HLE))
            replace HOW := Lib.hid (HOW.out.keep hb)
            replace HOG := Lib.hid (HOG.out.keep hb)
            replace HOV := Lib.hid (HOV.out.keep hb)
            replace HOX := Lib.hid (HOX.out.keep hb)
            clear hb HLE
            rw [show ((ek : Int) == ek) = true from by simp]
            obtain ⟨o0, o1, o2, -, -, -, -⟩ := HOW.out.cells
            obtain ⟨p0, p1, p2, -, -, -, -⟩ := HOG.out.cells
            obtain ⟨q0, q1, q2, -, -, -, -⟩ := HOV.out.cells
            obtain ⟨u0, u1, u2, -, -, -, -⟩ := HOX.out.cells
            have s1 : ((zv).type == (zv).type) = true := by simp
            have s2 : ((zv).n == (zv).n) = true := by simp
            have s3 : ((zv).s.toList == (zv).s.toList) = true := by simp
            have s4 : ((evv).type == (evv).type) = true := by simp
            have s5 : ((evv).n == (evv).n) = true := by simp
            have s6 : ((evv).s.toList == (evv).s.toList) = true := by simp
            go_wp2_with fail
            go_ret
            exact ⟨rfl, HB0.out.trans (HB.out.mono (Nat.le_of_lt HLT0.out))⟩
          · have r0 : (er == 0) = false := beq_eq_false_iff_ne.2 her
            have HE := Lib.hid (show vr = ⟨er, zv⟩ by rw [HEVR2.out, HZ.out]; exact if_pos her)
            clear HEVR HEVR2 her
            obtain ⟨w56_, hw_⟩ : ∃ w', w49_.alloc (.cells #[.int .i64 0, .int .i64 0, .string ⟨#[]⟩] 30) = w' := ⟨_, rfl⟩
            have hb : Below w49_.heap.size w49_ w56_ := by rw [← hw_]; exact belowNew _ _
            have HOV := Lib.hid (show Own3 w56_ w49_.heap.size zv by rw [HZ.out, ← hw_]; exact own3_new w49_ noVal)
            have HA_w56_ := Lib.hid hw_
            clear hw_
            have HLE := HB.out.size
            replace HB := Lib.hid (HB.out.trans (hb.mono HLE))
            replace HOW := Lib.hid (HOW.out.keep hb)
            replace HOG := Lib.hid (HOG.out.keep hb)
            clear hb HLE
            obtain ⟨d0, d1, d2, d3, d4, d5, d6⟩ := box7 ((HB.out.block W.heap.size HLT0.out).trans HBX0.out)
            go_wp2_with (first | rw [HA_w56_.out])
            have TW := Lib.hid (TEW0.out w56_ (HB0.out.trans (HB.out.mono (Nat.le_of_lt HLT0.out))))
            rw [HE.out] at TW
            dsimp only at TW
            unfold valV at TW
            refine (TW.out).mono ?_
            rintro e' w57_ ⟨rfl, hb⟩
            have HLE := HB.out.size
            replace HB := Lib.hid (HB.out.trans (hb.mono HLE))
            replace HOW := Lib.hid (HOW.out.keep hb)
            replace HOG := Lib.hid (HOG.out.keep hb)
            replace HOV := Lib.hid (HOV.out.keep hb)
            clear hb HLE
            clear d0 d1 d2 d3 d4 d5 d6
            obtain ⟨w58_, hw_⟩ : ∃ w', w57_.alloc (.cells #[.int .i64 (zv).type, .int .i64 (zv).n, .string (zv).s] 30) = w' := ⟨_, rfl⟩
            have hb : Below w57_.heap.size w57_ w58_ := by rw [← hw_]; exact belowNew _ _
            have HOX := Lib.hid (show Own3 w58_ w57_.heap.size (zv) by rw [← hw_]; exact own3_new w57_ (zv))
            have HA_w58_ := Lib.hid hw_
            clear hw_
            have HLE := HB.out.size
            replace HB := Lib.hid (HB.out.trans (hb.mono HLE))
            replace HOW := Lib.hid (HOW.out.keep hb)
            replace HOG := Lib.hid (HOG.out.keep hb)
            replace HOV := Lib.hid (HOV.out.keep hb)
            clear hb HLE
            go_wp2_with (first | rw [HA_w58_.out])
            refine (TSE0.out (er) (er) w58_ (HB0.out.trans (HB.out.mono (Nat.le_of_lt HLT0.out)))).mono ?_
            rintro e' w59_ ⟨rfl, hb⟩
            have HLE := HB.out.size
            replace HB := Lib.hid (HB.out.trans (hb.mono HLE))
            replace HOW := Lib.hid (HOW.out.keep hb)
            replace HOG := Lib.hid (HOG.out.keep hb)
            replace HOV := Lib.hid (HOV.out.keep hb)
            replace HOX := Lib.hid (HOX.out.keep hb)
            clear hb HLE
            rw [show ((er : Int) == er) = true from by simp]
            obtain ⟨o0, o1, o2, -, -, -, -⟩ := HOW.out.cells
            obtain ⟨p0, p1, p2, -, -, -, -⟩ := HOG.out.cells
            obtain ⟨q0, q1, q2, -, -, -, -⟩ := HOV.out.cells
            obtain ⟨u0, u1, u2, -, -, -, -⟩ := HOX.out.cells
            have s1 : ((zv).type == (zv).type) = true := by simp
            have s2 : ((zv).n == (zv).n) = true := by simp
            have s3 : ((zv).s.toList == (zv).s.toList) = true := by simp
            have s4 : ((zv).type == (zv).type) = true := by simp
            have s5 : ((zv).n == (zv).n) = true := by simp
            have s6 : ((zv).s.toList == (zv).s.toList) = true := by simp
            go_wp2_with fail
            go_ret
            exact ⟨rfl, HB0.out.trans (HB.out.mono (Nat.le_of_lt HLT0.out))⟩
        · have t0 : (th == 0) = false := beq_eq_false_iff_ne.2 hth
          have HE := Lib.hid (show vr = ⟨th, zv⟩ by rw [HEVR.out, HZ.out]; exact if_pos hth)
          clear HEVR hth
          obtain ⟨w60_, hw_⟩ : ∃ w', w48_.alloc (.cells #[.int .i64 0, .int .i64 0, .string ⟨#[]⟩] 30) = w' := ⟨_, rfl⟩
          have hb : Below w48_.heap.size w48_ w60_ := by rw [← hw_]; exact belowNew _ _
          have HOV := Lib.hid (show Own3 w60_ w48_.heap.size zv by rw [HZ.out, ← hw_]; exact own3_new w48_ noVal)
          have HA_w60_ := Lib.hid hw_
          clear hw_
          have HLE := HB.out.size
          replace HB := Lib.hid (HB.out.trans (hb.mono HLE))
          replace HOW := Lib.hid (HOW.out.keep hb)
          replace HOG := Lib.hid (HOG.out.keep hb)
          clear hb HLE
          obtain ⟨d0, d1, d2, d3, d4, d5, d6⟩ := box7 ((HB.out.block W.heap.size HLT0.out).trans HBX0.out)
          go_wp2_with (first | rw [HA_w60_.out])
          have TW := Lib.hid (TEW0.out w60_ (HB0.out.trans (HB.out.mono (Nat.le_of_lt HLT0.out))))
          rw [HE.out] at TW
          dsimp only at TW
          unfold valV at TW
          refine (TW.out).mono ?_
          rintro e' w61_ ⟨rfl, hb⟩
          have HLE := HB.out.size
          replace HB := Lib.hid (HB.out.trans (hb.mono HLE))
          replace HOW := Lib.hid (HOW.out.keep hb)
          replace HOG := Lib.hid (HOG.out.keep hb)
          replace HOV := Lib.hid (HOV.out.keep hb)
          clear hb HLE
          clear d0 d1 d2 d3 d4 d5 d6
          obtain ⟨w62_, hw_⟩ : ∃ w', w61_.alloc (.cells #[.int .i64 (zv).type, .int .i64 (zv).n, .string (zv).s] 30) = w' := ⟨_, rfl⟩
          have hb : Below w61_.heap.size w61_ w62_ := by rw [← hw_]; exact belowNew _ _
          have HOX := Lib.hid (show Own3 w62_ w61_.heap.size (zv) by rw [← hw_]; exact own3_new w61_ (zv))
          have HA_w62_ := Lib.hid hw_
          clear hw_
          have HLE := HB.out.size
          replace HB := Lib.hid (HB.out.trans (hb.mono HLE))
          replace HOW := Lib.hid (HOW.out.keep hb)
          replace HOG := Lib.hid (HOG.out.keep hb)
          replace HOV := Lib.hid (HOV.out.keep hb)
          clear hb HLE
          go_wp2_with (first | rw [HA_w62_.out])
          refine (TSE0.out (th) (th) w62_ (HB0.out.trans (HB.out.mono (Nat.le_of_lt HLT0.out)))).mono ?_
          rintro e' w63_ ⟨rfl, hb⟩
          have HLE := HB.out.size
          replace HB := Lib.hid (HB.out.trans (hb.mono HLE))
          replace HOW := Lib.hid (HOW.out.keep hb)
          replace HOG := Lib.hid (HOG.out.keep hb)
          replace HOV := Lib.hid (HOV.out.keep hb)
          replace HOX := Lib.hid (HOX.out.keep hb)
          clear hb HLE
          rw [show ((th : Int) == th) = true from by simp]
          obtain ⟨o0, o1, o2, -, -, -, -⟩ := HOW.out.cells
          obtain ⟨p0, p1, p2, -, -, -, -⟩ := HOG.out.cells
          obtain ⟨q0, q1, q2, -, -, -, -⟩ := HOV.out.cells
          obtain ⟨u0, u1, u2, -, -, -, -⟩ := HOX.out.cells
          have s1 : ((zv).type == (zv).type) = true := by simp
          have s2 : ((zv).n == (zv).n) = true := by simp
          have s3 : ((zv).s.toList == (zv).s.toList) = true := by simp
          have s4 : ((zv).type == (zv).type) = true := by simp
          have s5 : ((zv).n == (zv).n) = true := by simp
          have s6 : ((zv).s.toList == (zv).s.toList) = true := by simp
          go_wp2_with fail
          go_ret
          exact ⟨rfl, HB0.out.trans (HB.out.mono (Nat.le_of_lt HLT0.out))⟩
      · obtain rfl : k = n := by omega
        obtain ⟨w64_, hw_⟩ : ∃ w', wr.alloc (.cells #[.int .i64 0, .int .i64 0, .string ⟨#[]⟩] 30) = w' := ⟨_, rfl⟩
        have hb : Below wr.heap.size wr w64_ := by rw [← hw_]; exact belowNew _ _
        have HOW := Lib.hid (show Own3 w64_ wr.heap.size zv by rw [HZ.out, ← hw_]; exact own3_new wr noVal)
        have HA_w64_ := Lib.hid hw_
        clear hw_
        have HLE := HB.out.size
        replace HB := Lib.hid (HB.out.trans (hb.mono HLE))
        clear hb HLE
        go_wp2_with (first | rw [HA_w64_.out])
        have TD := Lib.hid (TDO0.out w64_ (HB0.out.trans (HB.out.mono (Nat.le_of_lt HLT0.out))))
        rw [HD.out.1, HD.out.2] at TD
        unfold valV at TD
        refine (TD.out).mono ?_
        rintro e' w65_ ⟨rfl, hb⟩
        have HLE := HB.out.size
        replace HB := Lib.hid (HB.out.trans (hb.mono HLE))
        replace HOW := Lib.hid (HOW.out.keep hb)
        clear hb HLE
        obtain ⟨w66_, hw_⟩ : ∃ w', w65_.alloc (.cells #[.int .i64 (zv).type, .int .i64 (zv).n, .string (zv).s] 30) = w' := ⟨_, rfl⟩
        have hb : Below w65_.heap.size w65_ w66_ := by rw [← hw_]; exact belowNew _ _
        have HOG := Lib.hid (show Own3 w66_ w65_.heap.size (zv) by rw [← hw_]; exact own3_new w65_ (zv))
        have HA_w66_ := Lib.hid hw_
        clear hw_
        have HLE := HB.out.size
        replace HB := Lib.hid (HB.out.trans (hb.mono HLE))
        replace HOW := Lib.hid (HOW.out.keep hb)
        clear hb HLE
        go_wp2_with (first | rw [HA_w66_.out])
        refine (TSE0.out (fb) (fb) w66_ (HB0.out.trans (HB.out.mono (Nat.le_of_lt HLT0.out)))).mono ?_
        rintro e' w67_ ⟨rfl, hb⟩
        have HLE := HB.out.size
        replace HB := Lib.hid (HB.out.trans (hb.mono HLE))
        replace HOW := Lib.hid (HOW.out.keep hb)
        replace HOG := Lib.hid (HOG.out.keep hb)
        clear hb HLE
        rw [show ((fb : Int) == fb) = true from by simp]
        obtain ⟨d0, d1, d2, d3, d4, d5, d6⟩ := box7 ((HB.out.block W.heap.size HLT0.out).trans HBX0.out)
        go_wp2_with fail
        refine (TOF0.out w67_ (HB0.out.trans (HB.out.mono (Nat.le_of_lt HLT0.out)))).mono ?_
        rintro e' w68_ ⟨rfl, hb⟩
        have HLE := HB.out.size
        replace HB := Lib.hid (HB.out.trans (hb.mono HLE))
        replace HOW := Lib.hid (HOW.out.keep hb)
        replace HOG := Lib.hid (HOG.out.keep hb)
        clear hb HLE
        clear d0 d1 d2 d3 d4 d5 d6
        obtain ⟨tt, th, ta⟩ := tr
        dsimp only at HEVR HROK HTO TEV0 ⊢
        by_cases hth : th = 0
        · subst hth
          have HEVR2 := Lib.hid (show vr = if er ≠ 0 then ⟨er, noVal⟩ else ee by rw [HEVR.out]; exact if_neg (by decide))
          go_wp2_with fail
          refine (TRW0.out w68_ (HB0.out.trans (HB.out.mono (Nat.le_of_lt HLT0.out)))).mono ?_
          rintro e' w69_ ⟨rfl, hb⟩
          have HLE := HB.out.size
          replace HB := Lib.hid (HB.out.trans (hb.mono HLE))
          replace HOW := Lib.hid (HOW.out.keep hb)
          replace HOG := Lib.hid (HOG.out.keep hb)
          clear hb HLE
          by_cases her : er = 0
          · subst her
            have HE := Lib.hid (show vr = ee by rw [HEVR2.out]; exact if_neg (by decide))
            clear HEVR HEVR2
            obtain ⟨ek, evv⟩ := ee
            dsimp only at TEV0
            have hW_ := Lib.hid (own3_lt HOW.out)
            have hG_ := Lib.hid (own3_lt HOG.out)
            have hM_ := Lib.hid HB.out.size
            obtain ⟨w70_, hw_⟩ : ∃ w', w69_.alloc (.cells #[.int .i64 0, .int .i64 0, .string ⟨#[]⟩] 30) = w' := ⟨_, rfl⟩
            have hb : Below w69_.heap.size w69_ w70_ := by rw [← hw_]; exact belowNew _ _
            have HOV := Lib.hid (show Own3 w70_ w69_.heap.size zv by rw [HZ.out, ← hw_]; exact own3_new w69_ noVal)
            have HA_w70_ := Lib.hid hw_
            clear hw_
            have HLE := HB.out.size
            replace HB := Lib.hid (HB.out.trans (hb.mono HLE))
            replace HOW := Lib.hid (HOW.out.keep hb)
            replace HOG := Lib.hid (HOG.out.keep hb)
            clear hb HLE
            obtain ⟨bv, hbv⟩ : ∃ b, b = w69_.heap.size := ⟨_, rfl⟩
            rw [← hbv] at HOV
            have Hbv := Lib.hid hbv
            have Hbvge := Lib.hid (show w0.heap.size ≤ bv by rw [Hbv.out]; exact hM_.out)
            have HbvW := Lib.hid (own3_far hW_.out Hbv.out)
            have HbvG := Lib.hid (own3_far hG_.out Hbv.out)
            obtain ⟨d0, d1, d2, d3, d4, d5, d6⟩ := box7 ((HB.out.block W.heap.size HLT0.out).trans HBX0.out)
            go_wp2_with (first | rw [HA_w70_.out])
            rw [← hbv]
            clear hbv
            refine (TEV0.out (by trivial) (HROK.out (by trivial)).2 w70_ (HB0.out.trans (HB.out.mono (Nat.le_of_lt HLT0.out)))).mono ?_
            rintro e' w71_ ⟨rfl, hb⟩
            have HLE := HB.out.size
            replace HB := Lib.hid (HB.out.trans (hb.mono HLE))
            replace HOW := Lib.hid (HOW.out.keep hb)
            replace HOG := Lib.hid (HOG.out.keep hb)
            replace HOV := Lib.hid (HOV.out.keep hb)
            clear hb HLE
            clear d0 d1 d2 d3 d4 d5 d6
            unfold valV
            obtain ⟨o0, o1, o2, z0, z1, z2, hlt⟩ := HOV.out.cells
            obtain ⟨w72_, hw_⟩ : ∃ w', ((w71_.setCell ⟨bv, 0, none⟩ (.int .i64 (evv).type)).setCell ⟨bv, 1, none⟩ (.int .i64 (evv).n)).setCell ⟨bv, 2, none⟩ (.string (evv).s) = w' := ⟨_, rfl⟩
            have hy : Only (· = bv) w71_ w72_ := by rw [← hw_]; exact only_s3 _ _ _ _
            replace HOV := Lib.hid (show Own3 w72_ bv (evv) by rw [← hw_]; exact own3_set HOV.out _ _ _)
            replace HB := Lib.hid (show Below w0.heap.size w0 w72_ by rw [← hw_]; exact below_set3 HB.out Hbvge.out _ _ _)
            have HA_w72_ := Lib.hid hw_
            clear hw_
            replace HOW := Lib.hid (own3_only HOW.out hy HbvW.out)
            replace HOG := Lib.hid (own3_only HOG.out hy HbvG.out)
            clear hy
            obtain ⟨d0, d1, d2, d3, d4, d5, d6⟩ := box7 ((HB.out.block W.heap.size HLT0.out).trans HBX0.out)
            go_wp2_with (first | rw [HA_w72_.out])
            have TW := Lib.hid (TEW0.out w72_ (HB0.out.trans (HB.out.mono (Nat.le_of_lt HLT0.out))))
            rw [HE.out] at TW
            dsimp only at TW
            unfold valV at TW
            refine (TW.out).mono ?_
            rintro e' w73_ ⟨rfl, hb⟩
            have HLE := HB.out.size
            replace HB := Lib.hid (HB.out.trans (hb.mono HLE))
            replace HOW := Lib.hid (HOW.out.keep hb)
            replace HOG := Lib.hid (HOG.out.keep hb)
            replace HOV := Lib.hid (HOV.out.keep hb)
            clear hb HLE
            clear d0 d1 d2 d3 d4 d5 d6
            obtain ⟨w74_, hw_⟩ : ∃ w', w73_.alloc (.cells #[.int .i64 (evv).type, .int .i64 (evv).n, .string (evv).s] 30) = w' := ⟨_, rfl⟩
            have hb : Below w73_.heap.size w73_ w74_ := by rw [← hw_]; exact belowNew _ _
            have HOX := Lib.hid (show Own3 w74_ w73_.heap.size (evv) by rw [← hw_]; exact own3_new w73_ (evv))
            have HA_w74_ := Lib.hid hw_
            clear hw_
            have HLE := HB.out.size
            replace HB := Lib.hid (HB.out.trans (hb.mono HLE))
            replace HOW := Lib.hid (HOW.out.keep hb)
            replace HOG := Lib.hid (HOG.out.keep hb)
            replace HOV := Lib.hid (HOV.out.keep hb)
            clear hb HLE
            go_wp2_with (first | rw [HA_w74_.out])
            refine (TSE0.out (ek) (ek) w74_ (HB0.out.trans (HB.out.mono (Nat.le_of_lt HLT0.out)))).mono ?_
            rintro e' w75_ ⟨rfl, hb⟩
            have HLE := HB.out.size
            replace HB := Lib.hid (HB.out.trans (hb.mono HLE))
            replace HOW := Lib.hid (HOW.out.keep hb)
            replace HOG := Lib.hid (HOG.out.keep hb)
            replace HOV := Lib.hid (HOV.out.keep hb)
            replace HOX := Lib.hid (HOX.out.keep hb)
            clear hb HLE
            rw [show ((ek : Int) == ek) = true from by simp]
            obtain ⟨o0, o1, o2, -, -, -, -⟩ := HOW.out.cells
            obtain ⟨p0, p1, p2, -, -, -, -⟩ := HOG.out.cells
            obtain ⟨q0, q1, q2, -, -, -, -⟩ := HOV.out.cells
            obtain ⟨u0, u1, u2, -, -, -, -⟩ := HOX.out.cells
            have s1 : ((zv).type == (zv).type) = true := by simp
            have s2 : ((zv).n == (zv).n) = true := by simp
            have s3 : ((zv).s.toList == (zv).s.toList) = true := by simp
            have s4 : ((evv).type == (evv).type) = true := by simp
            have s5 : ((evv).n == (evv).n) = true := by simp
            have s6 : ((evv).s.toList == (evv).s.toList) = true := by simp
            go_wp2_with fail
            go_ret
            exact ⟨rfl, HB0.out.trans (HB.out.mono (Nat.le_of_lt HLT0.out))⟩
          · have r0 : (er == 0) = false := beq_eq_false_iff_ne.2 her
            have HE := Lib.hid (show vr = ⟨er, zv⟩ by rw [HEVR2.out, HZ.out]; exact if_pos her)
            clear HEVR HEVR2 her
            obtain ⟨w76_, hw_⟩ : ∃ w', w69_.alloc (.cells #[.int .i64 0, .int .i64 0, .string ⟨#[]⟩] 30) = w' := ⟨_, rfl⟩
            have hb : Below w69_.heap.size w69_ w76_ := by rw [← hw_]; exact belowNew _ _
            have HOV := Lib.hid (show Own3 w76_ w69_.heap.size zv by rw [HZ.out, ← hw_]; exact own3_new w69_ noVal)
            have HA_w76_ := Lib.hid hw_
            clear hw_
            have HLE := HB.out.size
            replace HB := Lib.hid (HB.out.trans (hb.mono HLE))
            replace HOW := Lib.hid (HOW.out.keep hb)
            replace HOG := Lib.hid (HOG.out.keep hb)
            clear hb HLE
            obtain ⟨d0, d1, d2, d3, d4, d5, d6⟩ := box7 ((HB.out.block W.heap.size HLT0.out).trans HBX0.out)
            go_wp2_with (first | rw [HA_w76_.out])
            have TW := Lib.hid (TEW0.out w76_ (HB0.out.trans (HB.out.mono (Nat.le_of_lt HLT0.out))))
            rw [HE.out] at TW
            dsimp only at TW
            unfold valV at TW
            refine (TW.out).mono ?_
            rintro e' w77_ ⟨rfl, hb⟩
            have HLE := HB.out.size
            replace HB := Lib.hid (HB.out.trans (hb.mono HLE))
            replace HOW := Lib.hid (HOW.out.keep hb)
            replace HOG := Lib.hid (HOG.out.keep hb)
            replace HOV := Lib.hid (HOV.out.keep hb)
            clear hb HLE
            clear d0 d1 d2 d3 d4 d5 d6
            obtain ⟨w78_, hw_⟩ : ∃ w', w77_.alloc (.cells #[.int .i64 (zv).type, .int .i64 (zv).n, .string (zv).s] 30) = w' := ⟨_, rfl⟩
            have hb : Below w77_.heap.size w77_ w78_ := by rw [← hw_]; exact belowNew _ _
            have HOX := Lib.hid (show Own3 w78_ w77_.heap.size (zv) by rw [← hw_]; exact own3_new w77_ (zv))
            have HA_w78_ := Lib.hid hw_
            clear hw_
            have HLE := HB.out.size
            replace HB := Lib.hid (HB.out.trans (hb.mono HLE))
            replace HOW := Lib.hid (HOW.out.keep hb)
            replace HOG := Lib.hid (HOG.out.keep hb)
            replace HOV := Lib.hid (HOV.out.keep hb)
            clear hb HLE
            go_wp2_with (first | rw [HA_w78_.out])
            refine (TSE0.out (er) (er) w78_ (HB0.out.trans (HB.out.mono (Nat.le_of_lt HLT0.out)))).mono ?_
            rintro e' w79_ ⟨rfl, hb⟩
            have HLE := HB.out.size
            replace HB := Lib.hid (HB.out.trans (hb.mono HLE))
            replace HOW := Lib.hid (HOW.out.keep hb)
            replace HOG := Lib.hid (HOG.out.keep hb)
            replace HOV := Lib.hid (HOV.out.keep hb)
            replace HOX := Lib.hid (HOX.out.keep hb)
            clear hb HLE
            rw [show ((er : Int) == er) = true from by simp]
            obtain ⟨o0, o1, o2, -, -, -, -⟩ := HOW.out.cells
            obtain ⟨p0, p1, p2, -, -, -, -⟩ := HOG.out.cells
            obtain ⟨q0, q1, q2, -, -, -, -⟩ := HOV.out.cells
            obtain ⟨u0, u1, u2, -, -, -, -⟩ := HOX.out.cells
            have s1 : ((zv).type == (zv).type) = true := by simp
            have s2 : ((zv).n == (zv).n) = true := by simp
            have s3 : ((zv).s.toList == (zv).s.toList) = true := by simp
            have s4 : ((zv).type == (zv).type) = true := by simp
            have s5 : ((zv).n == (zv).n) = true := by simp
            have s6 : ((zv).s.toList == (zv).s.toList) = true := by simp
            go_wp2_with fail
            go_ret
            exact ⟨rfl, HB0.out.trans (HB.out.mono (Nat.le_of_lt HLT0.out))⟩
        · have t0 : (th == 0) = false := beq_eq_false_iff_ne.2 hth
          have HE := Lib.hid (show vr = ⟨th, zv⟩ by rw [HEVR.out, HZ.out]; exact if_pos hth)
          clear HEVR hth
          obtain ⟨w80_, hw_⟩ : ∃ w', w68_.alloc (.cells #[.int .i64 0, .int .i64 0, .string ⟨#[]⟩] 30) = w' := ⟨_, rfl⟩
          have hb : Below w68_.heap.size w68_ w80_ := by rw [← hw_]; exact belowNew _ _
          have HOV := Lib.hid (show Own3 w80_ w68_.heap.size zv by rw [HZ.out, ← hw_]; exact own3_new w68_ noVal)
          have HA_w80_ := Lib.hid hw_
          clear hw_
          have HLE := HB.out.size
          replace HB := Lib.hid (HB.out.trans (hb.mono HLE))
          replace HOW := Lib.hid (HOW.out.keep hb)
          replace HOG := Lib.hid (HOG.out.keep hb)
          clear hb HLE
          obtain ⟨d0, d1, d2, d3, d4, d5, d6⟩ := box7 ((HB.out.block W.heap.size HLT0.out).trans HBX0.out)
          go_wp2_with (first | rw [HA_w80_.out])
          have TW := Lib.hid (TEW0.out w80_ (HB0.out.trans (HB.out.mono (Nat.le_of_lt HLT0.out))))
          rw [HE.out] at TW
          dsimp only at TW
          unfold valV at TW
          refine (TW.out).mono ?_
          rintro e' w81_ ⟨rfl, hb⟩
          have HLE := HB.out.size
          replace HB := Lib.hid (HB.out.trans (hb.mono HLE))
          replace HOW := Lib.hid (HOW.out.keep hb)
          replace HOG := Lib.hid (HOG.out.keep hb)
          replace HOV := Lib.hid (HOV.out.keep hb)
          clear hb HLE
          clear d0 d1 d2 d3 d4 d5 d6
          obtain ⟨w82_, hw_⟩ : ∃ w', w81_.alloc (.cells #[.int .i64 (zv).type, .int .i64 (zv).n, .string (zv).s] 30) = w' := ⟨_, rfl⟩
          have hb : Below w81_.heap.size w81_ w82_ := by rw [← hw_]; exact belowNew _ _
          have HOX := Lib.hid (show Own3 w82_ w81_.heap.size (zv) by rw [← hw_]; exact own3_new w81_ (zv))
          have HA_w82_ := Lib.hid hw_
          clear hw_
          have HLE := HB.out.size
          replace HB := Lib.hid (HB.out.trans (hb.mono HLE))
          replace HOW := Lib.hid (HOW.out.keep hb)
          replace HOG := Lib.hid (HOG.out.keep hb)
          replace HOV := Lib.hid (HOV.out.keep hb)
          clear hb HLE
          go_wp2_with (first | rw [HA_w82_.out])
          refine (TSE0.out (th) (th) w82_ (HB0.out.trans (HB.out.mono (Nat.le_of_lt HLT0.out)))).mono ?_
          rintro e' w83_ ⟨rfl, hb⟩
          have HLE := HB.out.size
          replace HB := Lib.hid (HB.out.trans (hb.mono HLE))
          replace HOW := Lib.hid (HOW.out.keep hb)
          replace HOG := Lib.hid (HOG.out.keep hb)
          replace HOV := Lib.hid (HOV.out.keep hb)
          replace HOX := Lib.hid (HOX.out.keep hb)
          clear hb HLE
          rw [show ((th : Int) == th) = true from by simp]
          obtain ⟨o0, o1, o2, -, -, -, -⟩ := HOW.out.cells
          obtain ⟨p0, p1, p2, -, -, -, -⟩ := HOG.out.cells
          obtain ⟨q0, q1, q2, -, -, -, -⟩ := HOV.out.cells
          obtain ⟨u0, u1, u2, -, -, -, -⟩ := HOX.out.cells
          have s1 : ((zv).type == (zv).type) = true := by simp
          have s2 : ((zv).n == (zv).n) = true := by simp
          have s3 : ((zv).s.toList == (zv).s.toList) = true := by simp
          have s4 : ((zv).type == (zv).type) = true := by simp
          have s5 : ((zv).n == (zv).n) = true := by simp
          have s6 : ((zv).s.toList == (zv).s.toList) = true := by simp
          go_wp2_with fail
          go_ret
          exact ⟨rfl, HB0.out.trans (HB.out.mono (Nat.le_of_lt HLT0.out))⟩

set_option maxRecDepth 100000 in
theorem contract (H : Type) (enc : TypeId × Value → H) (W : World) (base : Nat) (args : Array Value) (ds gs : List (DataW H)) (before : List MemPlace)
    (hval : ∀ (j : Nat) t v, Tryz.f4.params[j]? = some t → args[j]? = some v → Value.okWide Tryz.prog W .any base t v)
    (hW : DataW.Whole enc Tryz.prog Tryz.f4.params.toList Rows.evalTellsSpec.vars false W args.toList ds gs before)
    (hsz : (DataW.weightsEach Tryz.prog (Tryz.f4.params.toList ++ (Rows.OpenSpec.upto Rows.evalTellsSpec).bare.plain.varTypes Tryz.prog) (ds ++ gs)).all (· ≤ reachBytes) = true) (hL : laidMetH Tryz.prog Rows.evalTellsUptoRow.laid W) (hk : Rows.uptoSmall H (ds ++ gs) = true) :
    Calls Tryz.prog 4 args W fun e W' => ∃ v, e = .returned v ∧ Rows.evalTellsSpec.post enc Tryz.prog Tryz.f4 false true false false W args v W' := by
  have hW' := hW
  obtain ⟨p, q, hA0, hV, rfl, hfz, hnd⟩ := hW
  have hA : DataW.TrodAll enc Tryz.prog W 0 (fun _ => true) true Tryz.f4.params.toList args.toList ds p := hA0
  rw [Tryz.params4] at hA hval
  obtain ⟨v0, vs0, d0, ds0, p0, q0, hargs, rfl, rfl, h0, r0⟩ := trodAll_cons hA
  obtain ⟨v1, vs1, d1, ds1, p1, q1, rfl, rfl, rfl, h1, r1⟩ := trodAll_cons r0
  obtain ⟨v2, vs2, d2, ds2, p2, q2, rfl, rfl, rfl, h2, r2⟩ := trodAll_cons r1
  obtain ⟨v3, vs3, d3, ds3, p3, q3, rfl, rfl, rfl, h3, r3⟩ := trodAll_cons r2
  obtain ⟨v4, vs4, d4, ds4, p4, q4, rfl, rfl, rfl, h4, r4⟩ := trodAll_cons r3
  obtain ⟨rfl, rfl, rfl⟩ := trodAll_nil r4
  obtain rfl : args = #[v0, v1, v2, v3, v4] := by cases args; simp_all
  obtain ⟨rfl, rfl⟩ := trodVars_none hV
  obtain ⟨a0, rfl, rfl, rfl, w0⟩ := Go.ChangeMaps.open_string Tryz.underlying9 (hval 0 9 v0 rfl rfl) h0
  have hv1 := hval 1 24 v1 rfl rfl
  have hv2 := hval 2 44 v2 rfl rfl
  have hv3 := hval 3 23 v3 rfl rfl
  have hv4 := hval 4 24 v4 rfl rfl
  obtain ⟨I, ni, ci, l, rfl, hI, hwl⟩ := open_vals (okWide_slice Tryz.underlying24 hv1) h1
  obtain ⟨e, rfl, he, hne⟩ := open_exn hv2 h2
  obtain ⟨C, p, q, cols, rfl, hC, hcs⟩ := open_cols (okWide_slice Tryz.underlying23 hv3) h3
  obtain ⟨R, y, z, r, rfl, hR, hwr⟩ := open_vals (okWide_slice Tryz.underlying24 hv4) h4
  have hbk : Rows.uptoBulkAll _ ≤ 1048576 := of_decide_eq_true hk
  have hN : exN e ≤ 1048576 := by simp only [List.append_nil, Rows.uptoBulkAll] at hbk; omega
  have hni : ni ≤ 1048576 := by have := vals_bulk h1; simp only [List.append_nil, Rows.uptoBulkAll] at hbk; omega
  have hL0 : laidMet Tryz.prog [("sluicebook/tree.words", Rows.laid_sluicebook_tree_words), ("sluicebook/tree.levels", Rows.laid_sluicebook_tree_levels), ("sluicebook/kind.ops", Rows.laid_sluicebook_kind_ops)] W ∧ handlesMet Tryz.prog [("errors.errorType", Rows.laid_errors_errorType)] W := hL
  refine (walk a0 l I ni ci e C p q cols R y z r W (errT_of_laid (show laidMetH Tryz.prog [("errors.errorType", Rows.laid_errors_errorType)] W from ⟨laidMet_nil _ _, hL0.2⟩)) ⟨levelsT_of hL0.1 (.tail _ (.head _)), opsT_of hL0.1 (.tail _ (.tail _ (.head _))), wordsT_of hL0.1 (.head _)⟩ hI hwl hni he hN hC (fun x hx => (hcs x hx).1) hR hwr).mono fun e W' ⟨he, hb⟩ => ?_
  subst he
  exact ⟨_, rfl, law_post laidOut Tryz.underlying4 (by kernel_rfl) rfl (by rw [Tryz.params4]; intro t ht; simp only [List.mem_cons, List.not_mem_nil, or_false] at ht; rcases ht with rfl | rfl | rfl | rfl | rfl; all_goals exact ⟨by kernel_rfl, of_decide_eq_true (by kernel_rfl)⟩) hW' rfl hb⟩

theorem reads (os : Os) {H : Type} (enc : TypeId × Value → H) : ∃ places, DataW.whole enc Tryz.prog ((World.doorLaid Tryz.prog 4000 os).forCall (fun _ _ => 0) ⟨#[], #[.string .empty, .slice none 0 0, .agg #[.string .empty, .string .empty, .int .i64 0, .int .i64 0, .string .empty, .slice none 0 0, .int .i64 0], .slice none 0 0, .slice none 0 0], []⟩).memory Tryz.f4.params.toList Rows.evalTellsSpec.vars false (#[.string .empty, .slice none 0 0, .agg #[.string .empty, .string .empty, .int .i64 0, .int .i64 0, .string .empty, .slice none 0 0, .int .i64 0], .slice none 0 0, .slice none 0 0] : Array Value).toList 8 = some ([.lit (.string []), .nil, .agg [.lit (.string []), .lit (.string []), .agg [.lit (.int .i64 0), .lit (.int .i64 0), .lit (.string [])], .nil, .lit (.int .i64 0)], .nil, .nil], [], places) :=
  ⟨[], by kernel_rfl⟩

set_option maxRecDepth 100000 in
theorem lifted (os : Os) (started : os.Started) (H : Type) (enc : TypeId × Value → H) (F : Stop.Interp) :
    ReturnsInHanded {} Tryz.checked os 4 .any ((Rows.OpenSpec.upto Rows.evalTellsSpec).preRow enc Tryz.prog Tryz.f4 Rows.evalTellsUptoRow.domain false Rows.evalTellsUptoRow.laid) (((Rows.OpenSpec.upto Rows.evalTellsSpec).at F).post enc Tryz.prog Tryz.f4 false true false false) := by
  obtain ⟨places, hx⟩ := reads os enc
  refine returnsInHanded_of_row (C := Tryz.checked) (s := Rows.OpenSpec.upto Rows.evalTellsSpec) own started (by kernel_rfl) Tryz.func4
    (witness_row_atRef (enc := enc) (C := Tryz.checked) false (World.doorLaid Tryz.prog 4000 os) #[.string .empty, .slice none 0 0, .agg #[.string .empty, .string .empty, .int .i64 0, .int .i64 0, .string .empty, .slice none 0 0, .int .i64 0], .slice none 0 0, .slice none 0 0] rfl (by kernel_rfl) (by kernel_rfl) (by kernel_rfl)
      (OpenSpec.preRow_of_cond 8 hx (by kernel_rfl) (fun k hk => by cases hk; kernel_rfl) (by kernel_rfl) (laidMetH_of_parts (laidMet_of_run' 12 (by kernel_rfl) (by kernel_rfl)) (by kernel_rfl)))) ?_
  intro W base args ds gs before hval hW _ hcond hsz hL _ _
  exact contract H enc W base args ds gs before hval hW hsz hL (hcond _ rfl)

theorem said : Rows.EvalTellsUptoSaid :=
  OpenClaim.holds_of_cond 4 Tryz.f4 rfl rfl rfl rfl rfl rfl rfl ⟨rfl, rfl, rfl, rfl, rfl⟩ rfl rfl rfl rfl rfl (by kernel_rfl) Tryz.func4 (by kernel_rfl)
    (of_decide_eq_true (by kernel_rfl)) (by unfold Func.isWrapper; first | (rw [if_pos (by decide +kernel)]; kernel_rfl) | (rw [if_neg (by decide +kernel)]; exact ⟨rfl, rfl⟩))
    (fun os started H enc _ F => by rw [OpenClaim.pre_eq_preRow]; exact lifted os started H enc F)

theorem plain (f : FuncId) (fn : Func) (hf : Tryz.pinned.checked.prog.funcNamed "sluicebook/sluicelaw1.EvalTells" = some f) (hfn : Tryz.pinned.checked.prog.funcs[f]? = some fn) :
    true = Tryz.pinned.checked.prog.looks [] ∧ ∀ (j : Nat) t, fn.params[j]? = some t → Tryz.pinned.checked.prog.wantsStandIn t = false := by
  obtain rfl : f = 4 := Option.some.inj ((show Tryz.prog.funcNamed "sluicebook/sluicelaw1.EvalTells" = some 4 by kernel_rfl).symm.trans hf) |>.symm
  obtain rfl : fn = Tryz.f4 := (Option.some.inj (Tryz.func4.symm.trans hfn)).symm
  refine ⟨by kernel_rfl, fun j t ht => ?_⟩
  rw [Tryz.params4] at ht
  have hm := Array.mem_of_getElem? ht
  simp only [List.mem_toArray, List.mem_cons, List.not_mem_nil, or_false] at hm
  rcases hm with rfl | rfl | rfl | rfl | rfl
  · exact (show Tryz.prog.wantsStandIn 9 = false by kernel_rfl)
  · exact (show Tryz.prog.wantsStandIn 24 = false by kernel_rfl)
  · exact (show Tryz.prog.wantsStandIn 44 = false by kernel_rfl)
  · exact (show Tryz.prog.wantsStandIn 23 = false by kernel_rfl)
  · exact (show Tryz.prog.wantsStandIn 24 = false by kernel_rfl)

theorem card : Rows.EvalTellsUptoCardSaid :=
  Claim7.holds_tied_plain_at .later [] _ _ _ _ said (fun _ h => by cases h) (by kernel_rfl) (fun _ h => by cases h) evalTellsUpto_row_tie rfl ⟨rfl, rfl⟩ (by kernel_rfl) rfl plain (by kernel_rfl)
#print axioms card
end Go.Proofs.YthmbafkedgahaaaGreatDoor.evalTells
