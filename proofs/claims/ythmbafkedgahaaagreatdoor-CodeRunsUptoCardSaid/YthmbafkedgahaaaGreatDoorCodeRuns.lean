/- Of the law CodeRuns: the card Rows.CodeRunsUptoCardSaid: where what it reads is of bulk at most 1048576, whatever the expression, the columns and the row, it returns true. -/
import Derived.Test.YthmbafkedgahaaaGreatDoorCodeEnd
import Derived.Test.YthmbafkedgahaaaGreatDoorRefOf
import Derived.Test.YthmbafkedgahaaaGreatDoorTold
import Derived.Test.YthmbafkedgahaaaGreatDoorCards
import Derived.Test.YthmbafkedgahaaaGreatDoorTie
import Derived.Test.YthmbafkedgahaaaGreatDoorOpenExN
import Derived.Test.YthmbafkedgahaaaGreatDoorOpenVals
import Derived.LaidLaws
import Derived.LaidMore
import Derived.LaidHandle
import Derived.Stop.Joined
import Derived.SevenTiedAt
import Derived.Deep.DeepWitnessRowRef
import Derived.Deep.DeepHandedRow
import Derived.Deep.QuietTactic
import Derived.BigQuiet
namespace Go.Proofs.YthmbafkedgahaaaGreatDoor.codeRuns
open Go.ChangeShapes Go.WideShapes Go.ChangeAt Go.RowKit

theorem errIs (k : Int) : ErrIs (errV k) k := by
  by_cases h : k = 0
  · subst h; exact Or.inl ⟨rfl, rfl⟩
  · exact Or.inr ⟨errV_ne h, h⟩
theorem comp_wf {cols : List Col} : ∀ (m : Nat) (e : Ex), SizeOf.sizeOf e ≤ m → ∀ w : World, SeesEx w e → nodesErr e = 0 → ∀ x ∈ compE cols e, x.val.wf
  | 0, e, hm, _, _, _ => by cases e; simp at hm
  | m + 1, .mk op name v A c args pos, hm, w, he, hn => by
    have hz : noVal.wf := ⟨show fits 0 by decide, show fits 0 by decide, Nat.zero_le _⟩
    obtain ⟨n1, n2⟩ := nodesErr_parts hn
    have ih : ∀ a ∈ args, ∀ x ∈ compE cols a, x.val.wf := fun a ha => comp_wf m a (by have := ex_lt (e := .mk op name v A c args pos) ha; omega) w (he.parts.2.2.2.2.2 a ha) (nodesErrs_all n2 a ha)
    have hat : ∀ k, ∀ x ∈ compAt cols args k, x.val.wf := by
      intro k x hx
      cases hk : args[k]? with
      | some a => rw [compAt_get hk] at hx; exact ih a (List.mem_of_getElem? hk) x hx
      | none =>
        have : ∀ (l : List Ex) (k : Nat), l[k]? = none → compAt cols l k = [] := by
          intro l
          induction l with
          | nil => intro k _; rw [compAt]
          | cons b l ihl =>
            intro k hk
            cases k with
            | zero => simp at hk
            | succ k => rw [compAt]; exact ihl k (by simpa using hk)
        rw [this args k hk] at hx; cases hx
    have hall : ∀ l : List Ex, (∀ a ∈ l, ∀ x ∈ compE cols a, x.val.wf) → ∀ x ∈ compAll cols l, x.val.wf := by
      intro l
      induction l with
      | nil => intro _ x hx; rw [compAll] at hx; cases hx
      | cons b l ihl =>
        intro h x hx
        rw [compAll] at hx
        rcases List.mem_append.1 hx with hx | hx
        · exact h b (by simp) x hx
        · exact ihl (fun a ha => h a (List.mem_cons_of_mem _ ha)) x hx
    have heith : ∀ f y n : List Ins, (∀ x ∈ f, x.val.wf) → (∀ x ∈ y, x.val.wf) → (∀ x ∈ n, x.val.wf) → ∀ x ∈ eithP f y n, x.val.wf := by
      intro f y n hf hy hn' x hx
      unfold eithP at hx
      rcases List.mem_append.1 hx with hx | hx
      · exact hf x hx
      rcases List.mem_cons.1 hx with rfl | hx
      · exact hz
      rcases List.mem_append.1 hx with hx | hx
      · exact hy x hx
      rcases List.mem_cons.1 hx with rfl | hx
      · exact hz
      · exact hn' x hx
    have hp : ∀ b : Bool, ∀ x ∈ [pushI (truthV b)], x.val.wf := by
      intro b x hx
      rw [List.mem_singleton.1 hx]
      exact (right_truth b).1
    intro x hx
    rw [compE_mk] at hx
    split at hx
    · rw [List.mem_singleton.1 hx]; exact he.parts.2.2.2.1
    split at hx
    · rw [List.mem_singleton.1 hx]; exact hz
    split at hx
    · exact heith _ _ _ (hat 0) (hat 1) (hp false) x hx
    split at hx
    · exact heith _ _ _ (hat 0) (hp true) (hat 1) x hx
    split at hx
    · exact heith _ _ _ (hat 0) (hat 1) (hat 2) x hx
    · rcases List.mem_append.1 hx with hx | hx
      · exact hall args ih x hx
      · rw [List.mem_singleton.1 hx]; exact hz
def colsX : List Col := [⟨⟨#[120]⟩, 1⟩]
def colX : Ex := .mk ⟨#[99, 111, 108]⟩ ⟨#[120]⟩ noVal none 0 [] 0
def negX (A : Option Addr) (c : Nat) : Ex := .mk ⟨#[110, 101, 103]⟩ ⟨#[]⟩ noVal A c [colX] 0
theorem colX_seen (w : World) : SeesEx w colX := .mk (Sees.nil w 7) (show (3 : Nat) ≤ maxLen by decide) (show (1 : Nat) ≤ maxLen by decide) ⟨show fits 0 by decide, show fits 0 by decide, Nat.zero_le _⟩ (show fits 0 by decide) (fun a h => by cases h)
theorem negX_seen (w : World) : SeesEx (w.alloc (.cells (exsCells [colX]).toArray 44)) (negX (some ⟨w.heap.size, 0, none⟩) 1) :=
  .mk (seesNew w _ _ 1 7 (exsCells_length _) (by decide)) (show (3 : Nat) ≤ maxLen by decide) (Nat.zero_le _) ⟨show fits 0 by decide, show fits 0 by decide, Nat.zero_le _⟩ (show fits 0 by decide) (fun x hx => by rw [List.mem_singleton.1 hx]; exact colX_seen _)
theorem neg_type (A : Option Addr) (c : Nat) : typeOf colsX (negX A c) = ⟨1, 0, 0⟩ := by kernel_rfl
theorem neg_len (A : Option Addr) (c : Nat) : (compE colsX (negX A c)).length = 2 := by kernel_rfl
set_option maxHeartbeats 16000000 in
set_option maxRecDepth 100000 in
theorem walk (e : Ex) (C : Option Addr) (p q : Nat) (cols : List Col) (R : Option Addr) (y z : Nat) (r : List Val) (W : World) (hG : ErrT W) (hT : Tables W) (he : SeesEx W e) (hN : exN e ≤ 1048576) (hC : SeesCols W C p q cols) (hs : ∀ x ∈ cols, x.name.size ≤ maxLen) (hR : SeesVals W R y z r) (hwr : ∀ v ∈ r, v.wf) :
    Calls Tryz.prog 5 #[exV e, .slice C p q, .slice R y z] W fun e W' => e = .returned (.bool true) ∧ Below W.heap.size W W' := by
  have TOF0 := Lib.hid (fun w' hb => rof_any e C p q cols w' (hC.keep (w' := w') hb) hs (he.keep hb) hN)
  have TCP0 := Lib.hid (fun w' hb => compile_any e C p q cols w' (hT.keep (w' := w') hb) (hC.keep hb) hs (he.keep hb))
  have TEW0 := Lib.hid (fun w' hb => eval_any e C R p q y z cols r w' (hT.keep (w' := w') hb) (hC.keep hb) hs (hR.keep hb) hwr (he.keep hb))
  have TSE0 := Lib.hid (fun k e w' hb => same_err (errV k) k e w' (hG.keep (w' := w') hb) (errIs k))
  have TSZ0 := Lib.hid (fun w' hb => tsize_any _ e (Nat.le_refl _) w' (he.keep (w' := w') hb))
  have TRC0 := Lib.hid (fun w' hb => rowCheck_any cols r C R p q y z w' (hC.keep (w' := w') hb) hs (hR.keep hb))
  have TVT0 := Lib.hid (fun A n c (code : List Ins) w' hb (hS : SeesCode w' A n c code) => vetype_any A n c code C p q cols w' hS (hC.keep (w' := w') hb) hs (hT.ops.keep hb) (hT.lev.keep hb))
  have TVR0 := Lib.hid (fun A n c (code : List Ins) w' hb (hS : SeesCode w' A n c code) hwf => vmrun_any A n c code C p q cols R y z r w' hS (hC.keep (w' := w') hb) hs (hR.keep hb) (hT.ops.keep hb) (hT.lev.keep hb) 1000000 hwf hwr)
  have HSND := Lib.hid (fun hh => comp_sound (cols := cols) (e := e) hh)
  have HSAME := Lib.hid (fun hh => comp_same (cols := cols) (row := r) he hwr hh)
  have HWFC := Lib.hid (fun hh => comp_wf (cols := cols) _ e (Nat.le_refl _) W he (typeOf_ok (cols := cols) (e := e) hh).1)
  have HTK := Lib.hid (fun (w' : World) (hb : Below W.heap.size W w') => hT.keep hb)
  obtain ⟨tr, htr⟩ : ∃ tr, tr = typeOf cols e := ⟨_, rfl⟩
  obtain ⟨er, her⟩ : ∃ er, er = rowErr cols r := ⟨_, rfl⟩
  obtain ⟨ce, hce⟩ : ∃ ce, ce = compE cols e := ⟨_, rfl⟩
  obtain ⟨vr, hvr⟩ : ∃ vr, vr = evalR cols r e := ⟨_, rfl⟩
  obtain ⟨sz, hsz⟩ : ∃ sz, sz = exSize e := ⟨_, rfl⟩
  rw [← htr] at TOF0 TCP0 HSND HSAME HWFC
  rw [← hce] at TCP0 HSND HSAME HWFC
  rw [← her] at TRC0 HSAME
  rw [← hvr] at TEW0 HSAME
  rw [← hsz] at TSZ0 HSND
  unfold EvSays at TEW0
  unfold TripSays tripV at TOF0
  have HNE := Lib.hid hN
  obtain ⟨xn, hxn⟩ : ∃ xn, xn = exN e := ⟨_, rfl⟩
  rw [← hxn] at HSND
  clear htr her hce hvr hsz hG hT he hN hC hs hR hwr HNE hxn
  obtain ⟨op, name, v, EA, ec, args, pos⟩ := e
  unfold exV at TOF0 TCP0 TEW0 TSZ0
  show Calls Tryz.prog 5 #[.agg #[.string op, .string name, .int .i64 v.type, .int .i64 v.n, .string v.s, .slice EA args.length ec, .int .i64 pos], .slice C p q, .slice R y z] W _
  obtain ⟨w0, hw0⟩ : ∃ w0, W.alloc (.cells #[.string op, .string name, .int .i64 v.type, .int .i64 v.n, .string v.s, .slice EA args.length ec, .int .i64 pos] 44) = w0 := ⟨_, rfl⟩
  have hb0 : Below W.heap.size W w0 := by rw [← hw0]; exact belowNew _ _
  have hbx0 := heap_alloc_new W (.cells #[.string op, .string name, .int .i64 v.type, .int .i64 v.n, .string v.s, .slice EA args.length ec, .int .i64 pos] 44)
  rw [hw0] at hbx0
  have HLT0 := Lib.hid (show W.heap.size < w0.heap.size by rw [← hw0]; simp)
  obtain ⟨wc, hwc⟩ : ∃ wc, w0.alloc (.cells #[.string ⟨#[120]⟩, .int .i64 1] 58) = wc := ⟨_, rfl⟩
  have hbc : Below w0.heap.size w0 wc := by rw [← hwc]; exact belowNew _ _
  have hsc : SeesCols wc (some ⟨w0.heap.size, 0, none⟩) 1 1 colsX := by rw [← hwc]; exact ⟨rfl, seesNew w0 (colsCells colsX) _ 1 2 rfl (by decide)⟩
  obtain ⟨wx, hwx⟩ : ∃ wx, wc.alloc (.cells #[.string ⟨#[99, 111, 108]⟩, .string ⟨#[120]⟩, .int .i64 0, .int .i64 0, .string ⟨#[]⟩, .slice none 0 0, .int .i64 0] 44) = wx := ⟨_, rfl⟩
  have hbxx : Below wc.heap.size wc wx := by rw [← hwx]; exact belowNew _ _
  have hsn : SeesEx wx (negX (some ⟨wc.heap.size, 0, none⟩) 1) := by rw [← hwx]; exact negX_seen wc
  have HB := Lib.hid (below_step (below_step hb0 hbc) hbxx)
  have HBOX := Lib.hid (((below_step hbc hbxx).block W.heap.size HLT0.out).trans hbx0)
  have HLT := Lib.hid (Nat.lt_of_lt_of_le HLT0.out (below_step hbc hbxx).size)
  have hT0 := compile_any (negX (some ⟨wc.heap.size, 0, none⟩) 1) (some ⟨w0.heap.size, 0, none⟩) 1 1 colsX wx (HTK.out wx HB.out) (hsc.keep hbxx) (by intro x hx; simp [colsX] at hx; subst hx; exact (show (1 : Nat) ≤ maxLen by decide)) hsn
  rw [neg_type, if_neg (by decide), if_neg (by decide)] at hT0
  obtain ⟨z1, hz1⟩ : ∃ z : Int, z = 0 := ⟨0, rfl⟩
  obtain ⟨z2, hz2⟩ : ∃ z : Int, z = 0 := ⟨0, rfl⟩
  have T0 := Lib.hid (show Calls Tryz.prog 21 #[.agg #[.string ⟨#[110, 101, 103]⟩, .string ⟨#[]⟩, .int .i64 0, .int .i64 0, .string ⟨#[]⟩, .slice (some ⟨wc.heap.size, 0, none⟩) 1 1, .int .i64 0], .slice (some ⟨w0.heap.size, 0, none⟩) 1 1] wx (fun e w' => ∃ A c, e = .returned (.tuple #[.slice A 2 c, .agg #[.int .i64 z1, .int .i64 z2]]) ∧ 2 ≤ c ∧ c ≤ 9223372036854775807 ∧ Below wx.heap.size wx w') by
    refine hT0.mono ?_
    rintro e w' ⟨A, m, c, h1, h2, h3⟩
    have h4 := h2.1
    rw [neg_len] at h4
    subst h4
    refine ⟨A, c, by rw [h1, hz1, hz2], h2.2.2.1, ?_, h3⟩
    have := h2.2.2.2.1
    unfold maxLen at this
    exact this)
  have y1 : (z1 != 0) = false := by rw [hz1]; rfl
  have HZ1 := Lib.hid hz1
  have HZ2 := Lib.hid hz2
  have HW0 := Lib.hid hw0
  have HWC := Lib.hid hwc
  have HWX := Lib.hid hwx
  clear hw0 hb0 hbx0 hwc hbc hsc hwx hbxx hsn hT0 hz1 hz2
  obtain ⟨tt, th, tp⟩ := tr
  dsimp only at HSND HSAME HWFC
  by_cases hh : th = 0
  · have HS1 := Lib.hid (HSND.out hh)
    obtain ⟨ek, vv, nn, e1, e2, e3, e4, e5⟩ := HSAME.out hh
    have HWV := Lib.hid (HWFC.out hh)
    have HEV := Lib.hid e1
    have HVR := Lib.hid e2
    have HER1 := Lib.hid e4
    have HER2 := Lib.hid e5
    obtain ⟨k1, hk1⟩ : ∃ z : Int, z = 0 := ⟨0, rfl⟩
    obtain ⟨k2, hk2⟩ : ∃ z : Int, z = 0 := ⟨0, rfl⟩
    have TCP := Lib.hid (fun w' hb => show Calls Tryz.prog 21 _ w' (CompSays ce k1 k2 w') from by
      have h := TCP0.out w' hb
      rw [if_neg (show ¬ th ≠ 0 by simp [hh]), if_neg (show ¬ th ≠ 0 by simp [hh]), if_neg (show ¬ th ≠ 0 by simp [hh])] at h
      rw [hk1, hk2]
      exact h)
    have y2 : (k1 != 0) = false := by rw [hk1]; rfl
    have y3 : (th != 0) = false := by rw [hh]; rfl
    have HQL := Lib.hid (show (ce.length : Int) ≤ 6 * sz by obtain ⟨-, -, h3, h4, -⟩ := HS1.out; omega)
    have HQ2 := Lib.hid (show 0 ≤ sz ∧ sz ≤ 200 by obtain ⟨-, -, h3, h4, h5⟩ := HS1.out; omega)
    have HNN := Lib.hid e3
    clear e1 e2 e3 e4 e5 hk1 hk2 hh HSND HSAME HWFC TCP0
    go_enter Tryz.func5, Tryz.ntmps5
    go_wp2_with (first | rw [HW0.out] | rw [HWC.out] | rw [HWX.out])
    refine (T0.out).mono ?_
    rintro e' w1_ ⟨A9, c9, rfl, hc91, hc92, hb⟩
    have HLE := HB.out.size
    replace HBOX := Lib.hid ((hb.block W.heap.size HLT.out).trans HBOX.out)
    replace HLT := Lib.hid (Nat.lt_of_lt_of_le HLT.out hb.size)
    replace HB := Lib.hid (below_step HB.out hb)
    clear hb HLE
    obtain ⟨w2_, hw_⟩ : ∃ w', w1_.alloc (.cells #[.int .i64 z1, .int .i64 z2] 61) = w' := ⟨_, rfl⟩
    have hb : Below w1_.heap.size w1_ w2_ := by rw [← hw_]; exact belowNew _ _
    have HF0 := Lib.hid (show Own2 w2_ w1_.heap.size z1 z2 by rw [← hw_]; exact own2_new w1_ z1 z2)
    have HA_w2_ := Lib.hid hw_
    clear hw_
    have HLE := HB.out.size
    replace HBOX := Lib.hid ((hb.block W.heap.size HLT.out).trans HBOX.out)
    replace HLT := Lib.hid (Nat.lt_of_lt_of_le HLT.out hb.size)
    replace HB := Lib.hid (below_step HB.out hb)
    clear hb HLE
    obtain ⟨f0, f1, -, -, -⟩ := HF0.out.cells
    obtain ⟨d0, d1, d2, d3, d4, d5, d6⟩ := box7' HBOX.out
    go_wp2_with (first | rw [HA_w2_.out])
    clear f0 f1
    refine (TCP.out w2_ HB.out).mono ?_
    rintro e' w3_ ⟨AL, ml, cl, rfl, hsl, hb⟩
    have HSL := Lib.hid hsl
    clear hsl
    have HLE := HB.out.size
    replace HBOX := Lib.hid ((hb.block W.heap.size HLT.out).trans HBOX.out)
    replace HLT := Lib.hid (Nat.lt_of_lt_of_le HLT.out hb.size)
    replace HB := Lib.hid (below_step HB.out hb)
    clear hb HLE
    clear d0 d1 d2 d3 d4 d5 d6
    obtain ⟨w4_, hw_⟩ : ∃ w', w3_.alloc (.cells #[.int .i64 k1, .int .i64 k2] 61) = w' := ⟨_, rfl⟩
    have hb : Below w3_.heap.size w3_ w4_ := by rw [← hw_]; exact belowNew _ _
    have HF := Lib.hid (show Own2 w4_ w3_.heap.size k1 k2 by rw [← hw_]; exact own2_new w3_ k1 k2)
    have HA_w4_ := Lib.hid hw_
    clear hw_
    have HLE := HB.out.size
    replace HBOX := Lib.hid ((hb.block W.heap.size HLT.out).trans HBOX.out)
    replace HLT := Lib.hid (Nat.lt_of_lt_of_le HLT.out hb.size)
    replace HB := Lib.hid (below_step HB.out hb)
    replace HSL := Lib.hid (HSL.out.keep hb)
    clear hb HLE
    obtain ⟨d0, d1, d2, d3, d4, d5, d6⟩ := box7' HBOX.out
    have hml : ce.length = ml := HSL.out.1
    subst hml
    have hlc := HSL.out.2.2.1
    have hlm := HSL.out.2.2.2.1
    unfold maxLen at hlm
    go_wp2_with (first | rw [HA_w4_.out])
    refine (TOF0.out w4_ HB.out).mono ?_
    rintro e' w5_ ⟨rfl, hb⟩
    have HLE := HB.out.size
    replace HBOX := Lib.hid ((hb.block W.heap.size HLT.out).trans HBOX.out)
    replace HLT := Lib.hid (Nat.lt_of_lt_of_le HLT.out hb.size)
    replace HB := Lib.hid (below_step HB.out hb)
    replace HSL := Lib.hid (HSL.out.keep hb)
    replace HF := Lib.hid (HF.out.keep hb)
    clear hb HLE
    clear d0 d1 d2 d3 d4 d5 d6
    dsimp only
    go_wp2_with fail
    have TV := Lib.hid (TVT0.out _ _ _ _ w5_ HB.out HSL.out)
    unfold TwoV at TV
    rw [HS1.out.1, HS1.out.2.1, errV_zero] at TV
    refine (TV.out).mono ?_
    rintro e' w6_ ⟨rfl, hb⟩
    have HLE := HB.out.size
    replace HBOX := Lib.hid ((hb.block W.heap.size HLT.out).trans HBOX.out)
    replace HLT := Lib.hid (Nat.lt_of_lt_of_le HLT.out hb.size)
    replace HB := Lib.hid (below_step HB.out hb)
    replace HSL := Lib.hid (HSL.out.keep hb)
    replace HF := Lib.hid (HF.out.keep hb)
    clear hb HLE
    obtain ⟨d0, d1, d2, d3, d4, d5, d6⟩ := box7' HBOX.out
    obtain ⟨f0, f1, -, -, -⟩ := HF.out.cells
    have y4 : (tt != tt) = false := by simp
    have y5 : decide (6 * sz < (ce.length : Int)) = false := decide_eq_false (by have := HQL.out; omega)
    have y6 := HQ2.out
    go_wp2_with fail
    refine (TSZ0.out w6_ HB.out).mono ?_
    rintro e' w7_ ⟨rfl, hb⟩
    have HLE := HB.out.size
    replace HBOX := Lib.hid ((hb.block W.heap.size HLT.out).trans HBOX.out)
    replace HLT := Lib.hid (Nat.lt_of_lt_of_le HLT.out hb.size)
    replace HB := Lib.hid (below_step HB.out hb)
    replace HSL := Lib.hid (HSL.out.keep hb)
    replace HF := Lib.hid (HF.out.keep hb)
    clear hb HLE
    clear d0 d1 d2 d3 d4 d5 d6
    clear f0 f1
    obtain ⟨d0, d1, d2, d3, d4, d5, d6⟩ := box7' HBOX.out
    go_wp2_with fail
    have TW := Lib.hid (TEW0.out w7_ HB.out)
    rw [HEV.out] at TW
    dsimp only at TW
    unfold valV at TW
    refine (TW.out).mono ?_
    rintro e' w8_ ⟨rfl, hb⟩
    have HLE := HB.out.size
    replace HBOX := Lib.hid ((hb.block W.heap.size HLT.out).trans HBOX.out)
    replace HLT := Lib.hid (Nat.lt_of_lt_of_le HLT.out hb.size)
    replace HB := Lib.hid (below_step HB.out hb)
    replace HSL := Lib.hid (HSL.out.keep hb)
    replace HF := Lib.hid (HF.out.keep hb)
    clear hb HLE
    clear d0 d1 d2 d3 d4 d5 d6
    obtain ⟨w9_, hw_⟩ : ∃ w', w8_.alloc (.cells #[.int .i64 vv.type, .int .i64 vv.n, .string vv.s] 30) = w' := ⟨_, rfl⟩
    have hb : Below w8_.heap.size w8_ w9_ := by rw [← hw_]; exact belowNew _ _
    have HO1 := Lib.hid (show Own3 w9_ w8_.heap.size vv by rw [← hw_]; exact own3_new w8_ vv)
    have HA_w9_ := Lib.hid hw_
    clear hw_
    have HLE := HB.out.size
    replace HBOX := Lib.hid ((hb.block W.heap.size HLT.out).trans HBOX.out)
    replace HLT := Lib.hid (Nat.lt_of_lt_of_le HLT.out hb.size)
    replace HB := Lib.hid (below_step HB.out hb)
    replace HSL := Lib.hid (HSL.out.keep hb)
    replace HF := Lib.hid (HF.out.keep hb)
    clear hb HLE
    go_wp2_with (first | rw [HA_w9_.out])
    have TR := Lib.hid (show Calls Tryz.prog 10 #[.slice AL ce.length cl, .slice C p q, .slice R y z, .int .i64 1000000] w9_ (fun e w' => e = .returned (.tuple #[.agg #[.int .i64 vv.type, .int .i64 vv.n, .string vv.s], .int .i64 nn, errV ek]) ∧ Below w9_.heap.size w9_ w') by
      have h := TVR0.out _ _ _ _ w9_ HB.out HSL.out HWV.out
      unfold RunTopSays at h
      rw [HVR.out] at h
      exact h)
    refine (TR.out).mono ?_
    rintro e' w10_ ⟨rfl, hb⟩
    have HLE := HB.out.size
    replace HBOX := Lib.hid ((hb.block W.heap.size HLT.out).trans HBOX.out)
    replace HLT := Lib.hid (Nat.lt_of_lt_of_le HLT.out hb.size)
    replace HB := Lib.hid (below_step HB.out hb)
    replace HSL := Lib.hid (HSL.out.keep hb)
    replace HO1 := Lib.hid (HO1.out.keep hb)
    clear hb HLE
    obtain ⟨w11_, hw_⟩ : ∃ w', w10_.alloc (.cells #[.int .i64 vv.type, .int .i64 vv.n, .string vv.s] 30) = w' := ⟨_, rfl⟩
    have hb : Below w10_.heap.size w10_ w11_ := by rw [← hw_]; exact belowNew _ _
    have HO2 := Lib.hid (show Own3 w11_ w10_.heap.size vv by rw [← hw_]; exact own3_new w10_ vv)
    have HA_w11_ := Lib.hid hw_
    clear hw_
    have HLE := HB.out.size
    replace HBOX := Lib.hid ((hb.block W.heap.size HLT.out).trans HBOX.out)
    replace HLT := Lib.hid (Nat.lt_of_lt_of_le HLT.out hb.size)
    replace HB := Lib.hid (below_step HB.out hb)
    replace HSL := Lib.hid (HSL.out.keep hb)
    replace HO1 := Lib.hid (HO1.out.keep hb)
    clear hb HLE
    go_wp2_with (first | rw [HA_w11_.out])
    refine (TRC0.out w11_ HB.out).mono ?_
    rintro e' w12_ ⟨rfl, hb⟩
    have HLE := HB.out.size
    replace HBOX := Lib.hid ((hb.block W.heap.size HLT.out).trans HBOX.out)
    replace HLT := Lib.hid (Nat.lt_of_lt_of_le HLT.out hb.size)
    replace HB := Lib.hid (below_step HB.out hb)
    replace HO1 := Lib.hid (HO1.out.keep hb)
    replace HO2 := Lib.hid (HO2.out.keep hb)
    clear hb HLE
    by_cases her : er = 0
    · subst her
      rw [errV_zero]
      go_wp2_with fail
      refine (TSE0.out ek 9 w12_ HB.out).mono ?_
      rintro e' w13_ ⟨rfl, hb⟩
      have HLE := HB.out.size
      replace HBOX := Lib.hid ((hb.block W.heap.size HLT.out).trans HBOX.out)
      replace HLT := Lib.hid (Nat.lt_of_lt_of_le HLT.out hb.size)
      replace HB := Lib.hid (below_step HB.out hb)
      replace HO1 := Lib.hid (HO1.out.keep hb)
      replace HO2 := Lib.hid (HO2.out.keep hb)
      clear hb HLE
      obtain ⟨o0, o1, o2, -, -, -, -⟩ := HO1.out.cells
      obtain ⟨p0, p1, p2, -, -, -, -⟩ := HO2.out.cells
      have s1 : (vv.type == vv.type) = true := by simp
      have s2 : (vv.n == vv.n) = true := by simp
      have s3 : (vv.s.toList == vv.s.toList) = true := by simp
      have s4 : decide ((nn : Int) ≤ (ce.length : Int)) = true := decide_eq_true (by have := HNN.out; omega)
      have s9 : decide (nn ≤ ce.length) = true := decide_eq_true HNN.out
      rcases HER2.out (by trivial) with hek | hek
      · subst hek
        rw [errV_zero]
        go_wp2_with fail
        go_quiet (fail)
        have HBQ := Lib.hid (below_drewN HB.out nq)
        generalize w13_.drewN nq = wq at HBQ ⊢
        go_wp2_with fail
        go_ret
        exact ⟨rfl, HBQ.out⟩
      · have hne : ek ≠ 0 := by rw [hek]; decide
        have s5 : (ek == 9) = true := by rw [hek]; rfl
        rw [errV_ne hne, s5]
        clear hek hne
        go_wp2_with fail
        go_quiet (fail)
        have HBQ := Lib.hid (below_drewN HB.out nq)
        generalize w13_.drewN nq = wq at HBQ ⊢
        go_wp2_with fail
        go_ret
        exact ⟨rfl, HBQ.out⟩
    · have hne := HER1.out her
      rw [errV_ne her, errV_ne hne]
      clear her hne
      go_wp2_with fail
      go_ret
      exact ⟨rfl, HB.out⟩
  · have y3 : (th != 0) = true := by simpa using hh
    have TCP := Lib.hid (fun w' hb => show Calls Tryz.prog 21 _ w' (CompSays [] th tp w') from by
      have h := TCP0.out w' hb
      rw [if_pos hh, if_pos hh, if_pos hh] at h
      exact h)
    clear hh HSND HSAME HWFC TCP0
    go_enter Tryz.func5, Tryz.ntmps5
    go_wp2_with (first | rw [HW0.out] | rw [HWC.out] | rw [HWX.out])
    refine (T0.out).mono ?_
    rintro e' w14_ ⟨A9, c9, rfl, hc91, hc92, hb⟩
    have HLE := HB.out.size
    replace HBOX := Lib.hid ((hb.block W.heap.size HLT.out).trans HBOX.out)
    replace HLT := Lib.hid (Nat.lt_of_lt_of_le HLT.out hb.size)
    replace HB := Lib.hid (below_step HB.out hb)
    clear hb HLE
    obtain ⟨w15_, hw_⟩ : ∃ w', w14_.alloc (.cells #[.int .i64 z1, .int .i64 z2] 61) = w' := ⟨_, rfl⟩
    have hb : Below w14_.heap.size w14_ w15_ := by rw [← hw_]; exact belowNew _ _
    have HF0 := Lib.hid (show Own2 w15_ w14_.heap.size z1 z2 by rw [← hw_]; exact own2_new w14_ z1 z2)
    have HA_w15_ := Lib.hid hw_
    clear hw_
    have HLE := HB.out.size
    replace HBOX := Lib.hid ((hb.block W.heap.size HLT.out).trans HBOX.out)
    replace HLT := Lib.hid (Nat.lt_of_lt_of_le HLT.out hb.size)
    replace HB := Lib.hid (below_step HB.out hb)
    clear hb HLE
    obtain ⟨f0, f1, -, -, -⟩ := HF0.out.cells
    obtain ⟨d0, d1, d2, d3, d4, d5, d6⟩ := box7' HBOX.out
    go_wp2_with (first | rw [HA_w15_.out])
    clear f0 f1
    refine (TCP.out w15_ HB.out).mono ?_
    rintro e' w16_ ⟨AL, ml, cl, rfl, hsl, hb⟩
    have hml := hsl.1
    have hlc := hsl.2.2.1
    have hlm := hsl.2.2.2.1
    unfold maxLen at hlm
    subst hml
    clear hsl
    have HLE := HB.out.size
    replace HBOX := Lib.hid ((hb.block W.heap.size HLT.out).trans HBOX.out)
    replace HLT := Lib.hid (Nat.lt_of_lt_of_le HLT.out hb.size)
    replace HB := Lib.hid (below_step HB.out hb)
    clear hb HLE
    clear d0 d1 d2 d3 d4 d5 d6
    obtain ⟨w17_, hw_⟩ : ∃ w', w16_.alloc (.cells #[.int .i64 th, .int .i64 tp] 61) = w' := ⟨_, rfl⟩
    have hb : Below w16_.heap.size w16_ w17_ := by rw [← hw_]; exact belowNew _ _
    have HF := Lib.hid (show Own2 w17_ w16_.heap.size th tp by rw [← hw_]; exact own2_new w16_ th tp)
    have HA_w17_ := Lib.hid hw_
    clear hw_
    have HLE := HB.out.size
    replace HBOX := Lib.hid ((hb.block W.heap.size HLT.out).trans HBOX.out)
    replace HLT := Lib.hid (Nat.lt_of_lt_of_le HLT.out hb.size)
    replace HB := Lib.hid (below_step HB.out hb)
    clear hb HLE
    obtain ⟨d0, d1, d2, d3, d4, d5, d6⟩ := box7' HBOX.out
    dsimp only [List.length_nil] at hlc ⊢
    go_wp2_with (first | rw [HA_w17_.out])
    refine (TOF0.out w17_ HB.out).mono ?_
    rintro e' w18_ ⟨rfl, hb⟩
    have HLE := HB.out.size
    replace HBOX := Lib.hid ((hb.block W.heap.size HLT.out).trans HBOX.out)
    replace HLT := Lib.hid (Nat.lt_of_lt_of_le HLT.out hb.size)
    replace HB := Lib.hid (below_step HB.out hb)
    replace HF := Lib.hid (HF.out.keep hb)
    clear hb HLE
    clear d0 d1 d2 d3 d4 d5 d6
    obtain ⟨f0, f1, -, -, -⟩ := HF.out.cells
    have s1 : (th == th) = true := by simp
    have s2 : (tp == tp) = true := by simp
    dsimp only
    go_wp2_with fail
    go_ret
    exact ⟨rfl, HB.out⟩

set_option maxRecDepth 100000 in
theorem contract (H : Type) (enc : TypeId × Value → H) (W : World) (base : Nat) (args : Array Value) (ds gs : List (DataW H)) (before : List MemPlace)
    (hval : ∀ (j : Nat) t v, Tryz.f5.params[j]? = some t → args[j]? = some v → Value.okWide Tryz.prog W .any base t v)
    (hW : DataW.Whole enc Tryz.prog Tryz.f5.params.toList Rows.codeRunsSpec.vars false W args.toList ds gs before)
    (hsz : (DataW.weightsEach Tryz.prog (Tryz.f5.params.toList ++ (Rows.OpenSpec.upto Rows.codeRunsSpec).bare.plain.varTypes Tryz.prog) (ds ++ gs)).all (· ≤ reachBytes) = true) (hL : laidMetH Tryz.prog Rows.codeRunsUptoRow.laid W) (hk : Rows.uptoSmall H (ds ++ gs) = true) :
    Calls Tryz.prog 5 args W fun e W' => ∃ v, e = .returned v ∧ Rows.codeRunsSpec.post enc Tryz.prog Tryz.f5 false true false false W args v W' := by
  have hW' := hW
  obtain ⟨p, q, hA0, hV, rfl, hfz, hnd⟩ := hW
  have hA : DataW.TrodAll enc Tryz.prog W 0 (fun _ => true) true Tryz.f5.params.toList args.toList ds p := hA0
  rw [Tryz.params5] at hA hval
  obtain ⟨v0, vs0, d0, ds0, p0, q0, hargs, rfl, rfl, h0, r0⟩ := trodAll_cons hA
  obtain ⟨v1, vs1, d1, ds1, p1, q1, rfl, rfl, rfl, h1, r1⟩ := trodAll_cons r0
  obtain ⟨v2, vs2, d2, ds2, p2, q2, rfl, rfl, rfl, h2, r2⟩ := trodAll_cons r1
  obtain ⟨rfl, rfl, rfl⟩ := trodAll_nil r2
  obtain rfl : args = #[v0, v1, v2] := by cases args; simp_all
  obtain ⟨rfl, rfl⟩ := trodVars_none hV
  have hv0 := hval 0 44 v0 rfl rfl
  have hv1 := hval 1 23 v1 rfl rfl
  have hv2 := hval 2 24 v2 rfl rfl
  obtain ⟨e, rfl, he, hne⟩ := open_exn hv0 h0
  obtain ⟨C, p, q, cols, rfl, hC, hcs⟩ := open_cols (okWide_slice Tryz.underlying23 hv1) h1
  obtain ⟨R, y, z, r, rfl, hR, hwr⟩ := open_vals (okWide_slice Tryz.underlying24 hv2) h2
  have hbk : Rows.uptoBulkAll _ ≤ 1048576 := of_decide_eq_true hk
  have hN : exN e ≤ 1048576 := by simp only [List.append_nil, Rows.uptoBulkAll] at hbk; omega
  have hL0 : laidMet Tryz.prog [("sluicebook/tree.words", Rows.laid_sluicebook_tree_words), ("sluicebook/tree.levels", Rows.laid_sluicebook_tree_levels), ("sluicebook/kind.ops", Rows.laid_sluicebook_kind_ops)] W ∧ handlesMet Tryz.prog [("errors.errorType", Rows.laid_errors_errorType)] W := hL
  refine (walk e C p q cols R y z r W (errT_of_laid (show laidMetH Tryz.prog [("errors.errorType", Rows.laid_errors_errorType)] W from ⟨laidMet_nil _ _, hL0.2⟩)) ⟨levelsT_of hL0.1 (.tail _ (.head _)), opsT_of hL0.1 (.tail _ (.tail _ (.head _))), wordsT_of hL0.1 (.head _)⟩ he hN hC (fun x hx => (hcs x hx).1) hR hwr).mono fun e W' ⟨he, hb⟩ => ?_
  subst he
  exact ⟨_, rfl, law_post laidOut Tryz.underlying4 (by kernel_rfl) rfl (by rw [Tryz.params5]; intro t ht; simp only [List.mem_cons, List.not_mem_nil, or_false] at ht; rcases ht with rfl | rfl | rfl; all_goals exact ⟨by kernel_rfl, of_decide_eq_true (by kernel_rfl)⟩) hW' rfl hb⟩

theorem reads (os : Os) {H : Type} (enc : TypeId × Value → H) : ∃ places, DataW.whole enc Tryz.prog ((World.doorLaid Tryz.prog 4000 os).forCall (fun _ _ => 0) ⟨#[], #[.agg #[.string .empty, .string .empty, .int .i64 0, .int .i64 0, .string .empty, .slice none 0 0, .int .i64 0], .slice none 0 0, .slice none 0 0], []⟩).memory Tryz.f5.params.toList Rows.codeRunsSpec.vars false (#[.agg #[.string .empty, .string .empty, .int .i64 0, .int .i64 0, .string .empty, .slice none 0 0, .int .i64 0], .slice none 0 0, .slice none 0 0] : Array Value).toList 8 = some ([.agg [.lit (.string []), .lit (.string []), .agg [.lit (.int .i64 0), .lit (.int .i64 0), .lit (.string [])], .nil, .lit (.int .i64 0)], .nil, .nil], [], places) :=
  ⟨[], by kernel_rfl⟩

set_option maxRecDepth 100000 in
theorem lifted (os : Os) (started : os.Started) (H : Type) (enc : TypeId × Value → H) (F : Stop.Interp) :
    ReturnsInHanded {} Tryz.checked os 5 .any ((Rows.OpenSpec.upto Rows.codeRunsSpec).preRow enc Tryz.prog Tryz.f5 Rows.codeRunsUptoRow.domain false Rows.codeRunsUptoRow.laid) (((Rows.OpenSpec.upto Rows.codeRunsSpec).at F).post enc Tryz.prog Tryz.f5 false true false false) := by
  obtain ⟨places, hx⟩ := reads os enc
  refine returnsInHanded_of_row (C := Tryz.checked) (s := Rows.OpenSpec.upto Rows.codeRunsSpec) own started (by kernel_rfl) Tryz.func5
    (witness_row_atRef (enc := enc) (C := Tryz.checked) false (World.doorLaid Tryz.prog 4000 os) #[.agg #[.string .empty, .string .empty, .int .i64 0, .int .i64 0, .string .empty, .slice none 0 0, .int .i64 0], .slice none 0 0, .slice none 0 0] rfl (by kernel_rfl) (by kernel_rfl) (by kernel_rfl)
      (OpenSpec.preRow_of_cond 8 hx (by kernel_rfl) (fun k hk => by cases hk; kernel_rfl) (by kernel_rfl) (laidMetH_of_parts (laidMet_of_run' 12 (by kernel_rfl) (by kernel_rfl)) (by kernel_rfl)))) ?_
  intro W base args ds gs before hval hW _ hcond hsz hL _ _
  exact contract H enc W base args ds gs before hval hW hsz hL (hcond _ rfl)

theorem said : Rows.CodeRunsUptoSaid :=
  OpenClaim.holds_of_cond 5 Tryz.f5 rfl rfl rfl rfl rfl rfl rfl ⟨rfl, rfl, rfl, rfl, rfl⟩ rfl rfl rfl rfl rfl (by kernel_rfl) Tryz.func5 (by kernel_rfl)
    (of_decide_eq_true (by kernel_rfl)) (by unfold Func.isWrapper; first | (rw [if_pos (by decide +kernel)]; kernel_rfl) | (rw [if_neg (by decide +kernel)]; exact ⟨rfl, rfl⟩))
    (fun os started H enc _ F => by rw [OpenClaim.pre_eq_preRow]; exact lifted os started H enc F)

theorem plain (f : FuncId) (fn : Func) (hf : Tryz.pinned.checked.prog.funcNamed "sluicebook/sluicelaw2.CodeRuns" = some f) (hfn : Tryz.pinned.checked.prog.funcs[f]? = some fn) :
    true = Tryz.pinned.checked.prog.looks [] ∧ ∀ (j : Nat) t, fn.params[j]? = some t → Tryz.pinned.checked.prog.wantsStandIn t = false := by
  obtain rfl : f = 5 := Option.some.inj ((show Tryz.prog.funcNamed "sluicebook/sluicelaw2.CodeRuns" = some 5 by kernel_rfl).symm.trans hf) |>.symm
  obtain rfl : fn = Tryz.f5 := (Option.some.inj (Tryz.func5.symm.trans hfn)).symm
  refine ⟨by kernel_rfl, fun j t ht => ?_⟩
  rw [Tryz.params5] at ht
  have hm := Array.mem_of_getElem? ht
  simp only [List.mem_toArray, List.mem_cons, List.not_mem_nil, or_false] at hm
  rcases hm with rfl | rfl | rfl
  · exact (show Tryz.prog.wantsStandIn 44 = false by kernel_rfl)
  · exact (show Tryz.prog.wantsStandIn 23 = false by kernel_rfl)
  · exact (show Tryz.prog.wantsStandIn 24 = false by kernel_rfl)

theorem card : Rows.CodeRunsUptoCardSaid :=
  Claim7.holds_tied_plain_at .later [] _ _ _ _ said (fun _ h => by cases h) (by kernel_rfl) (fun _ h => by cases h) codeRunsUpto_row_tie rfl ⟨rfl, rfl⟩ (by kernel_rfl) rfl plain (by kernel_rfl)
#print axioms card
end Go.Proofs.YthmbafkedgahaaaGreatDoor.codeRuns
