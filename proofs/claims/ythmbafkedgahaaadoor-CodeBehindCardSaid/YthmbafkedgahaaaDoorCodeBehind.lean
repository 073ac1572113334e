/- CodeBehind: one behind the other: what is compiled runs on behind other code that leaves nothing, and comes to the same. No conditions. -/
import Derived.Test.YthmbafkedgahaaaDoorCodeBehind0
import Derived.Test.YthmbafkedgahaaaDoorTold
import Derived.Test.YthmbafkedgahaaaDoorCards
import Derived.Test.YthmbafkedgahaaaDoorTie
import Derived.Test.YthmbafkedgahaaaDoorOpenEx
import Derived.Test.YthmbafkedgahaaaDoorOpenVals
import Derived.LaidLaws
import Derived.LaidMore
import Derived.LaidHandle
import Derived.Stop.Joined
import Derived.SevenTiedAt
import Derived.Deep.DeepWitnessRowRef
import Derived.Deep.DeepHandedRow
import Derived.Deep.QuietTactic
import Derived.BigQuiet
namespace Go.Proofs.YthmbafkedgahaaaDoor.codeBehind
open Go.ChangeShapes Go.WideShapes Go.ChangeAt Go.RowKit
theorem comp_wf {cols : List Col} : ∀ (m : Nat) (e : Ex), SizeOf.sizeOf e ≤ m → ∀ w : World, SeesEx w e → nodesErr e = 0 → ∀ x ∈ compE cols e, x.val.wf
  | 0, e, hm, _, _, _ => by cases e; simp at hm
  | m + 1, .mk op name v A c args pos, hm, w, he, hn => by
    have hz : noVal.wf := ⟨show fits 0 by decide, show fits 0 by decide, Nat.zero_le _⟩
    obtain ⟨n1, n2⟩ := nodesErr_parts hn
    have ih : ∀ a ∈ args, ∀ x ∈ compE cols a, x.val.wf := fun a ha => comp_wf m a (by have := ex_lt (e := .mk op name v A c args pos) ha; omega) w (he.parts.2.2.2.2.2 a ha) (nodesErrs_all n2 a ha)
    have hat : ∀ k, ∀ x ∈ compAt cols args k, x.val.wf := by
      intro k x hx
      cases hk : args[k]? with
      | some a => rw [compAt_get hk] at hx; exact ih a (List.mem_of_getElem? hk) x hx
      | none =>
        have : ∀ (l : List Ex) (k : Nat), l[k]? = none → compAt cols l k = [] := by
          intro l
          induction l with
          | nil => intro k _; rw [compAt]
          | cons b l ihl =>
            intro k hk
            cases k with
            | zero => simp at hk
            | succ k => rw [compAt]; exact ihl k (by simpa using hk)
        rw [this args k hk] at hx; cases hx
    have hall : ∀ l : List Ex, (∀ a ∈ l, ∀ x ∈ compE cols a, x.val.wf) → ∀ x ∈ compAll cols l, x.val.wf := by
      intro l
      induction l with
      | nil => intro _ x hx; rw [compAll] at hx; cases hx
      | cons b l ihl =>
        intro h x hx
        rw [compAll] at hx
        rcases List.mem_append.1 hx with hx | hx
        · exact h b (by simp) x hx
        · exact ihl (fun a ha => h a (List.mem_cons_of_mem _ ha)) x hx
    have heith : ∀ f y n : List Ins, (∀ x ∈ f, x.val.wf) → (∀ x ∈ y, x.val.wf) → (∀ x ∈ n, x.val.wf) → ∀ x ∈ eithP f y n, x.val.wf := by
      intro f y n hf hy hn' x hx
      unfold eithP at hx
      rcases List.mem_append.1 hx with hx | hx
      · exact hf x hx
      rcases List.mem_cons.1 hx with rfl | hx
      · exact hz
      rcases List.mem_append.1 hx with hx | hx
      · exact hy x hx
      rcases List.mem_cons.1 hx with rfl | hx
      · exact hz
      · exact hn' x hx
    have hp : ∀ b : Bool, ∀ x ∈ [pushI (truthV b)], x.val.wf := by
      intro b x hx
      rw [List.mem_singleton.1 hx]
      exact (right_truth b).1
    intro x hx
    rw [compE_mk] at hx
    split at hx
    · rw [List.mem_singleton.1 hx]; exact he.parts.2.2.2.1
    split at hx
    · rw [List.mem_singleton.1 hx]; exact hz
    split at hx
    · exact heith _ _ _ (hat 0) (hat 1) (hp false) x hx
    split at hx
    · exact heith _ _ _ (hat 0) (hp true) (hat 1) x hx
    split at hx
    · exact heith _ _ _ (hat 0) (hat 1) (hat 2) x hx
    · rcases List.mem_append.1 hx with hx | hx
      · exact hall args ih x hx
      · rw [List.mem_singleton.1 hx]; exact hz
def colsX : List Col := [⟨⟨#[120]⟩, 1⟩]
def colX : Ex := .mk ⟨#[99, 111, 108]⟩ ⟨#[120]⟩ noVal none 0 [] 0
theorem colX_seen (w : World) : SeesEx w colX := .mk (Sees.nil w 7) (show (3 : Nat) ≤ maxLen by decide) (show (1 : Nat) ≤ maxLen by decide) ⟨show fits 0 by decide, show fits 0 by decide, Nat.zero_le _⟩ (show fits 0 by decide) (fun a h => by cases h)
theorem col_type : typeOf colsX colX = ⟨1, 0, 0⟩ := by kernel_rfl
theorem col_len : (compE colsX colX).length = 1 := by kernel_rfl
set_option maxHeartbeats 1000000 in
theorem in_any (k : Int) (w : World) : Calls Tryd.prog 8 #[.int .i64 k] w fun e w' => e = .returned (.agg #[.int .i64 1, .int .i64 k, .string ⟨#[]⟩]) ∧ Below w.heap.size w w' := by
  obtain ⟨w0, hw0⟩ : ∃ w0, w.alloc (.cells #[.int .i64 0, .int .i64 0, .string ⟨#[]⟩] 23) = w0 := ⟨_, rfl⟩
  have HB := Lib.hid (show Below w.heap.size w w0 by rw [← hw0]; exact belowNew _ _)
  have HO := Lib.hid (show Own3 w0 w.heap.size noVal by rw [← hw0]; exact own3_new w noVal)
  have HW := Lib.hid hw0
  clear hw0
  obtain ⟨o0, o1, o2, z0, z1, z2, hlt⟩ := HO.out.cells
  go_enter Tryd.func8, Tryd.ntmps8
  go_wp2_with (first | rw [HW.out])
  have HO4 := own3_set HO.out 1 k ⟨#[]⟩
  have HB4 := Lib.hid (below_set3 HB.out (Nat.le_refl _) 1 k ⟨#[]⟩)
  generalize ((w0.setCell ⟨w.heap.size, 0, none⟩ (.int .i64 1)).setCell ⟨w.heap.size, 1, none⟩ (.int .i64 k)).setCell ⟨w.heap.size, 2, none⟩ (.string ⟨#[]⟩) = w9 at HO4 HB4 ⊢
  clear o0 o1 o2 z0 z1 z2 hlt
  obtain ⟨o0, o1, o2, z0, z1, z2, hlt⟩ := HO4.cells
  exact bodyPost_ret (v := .agg #[.int .i64 1, .int .i64 k, .string ⟨#[]⟩]) (by simp [results, Tryd.results8, go_sem, o0, o1, o2]) rfl ⟨rfl, HB4.out⟩
theorem pre_wf : ∀ n : Nat, n ≤ 1000 → ∀ x ∈ preP n, x.val.wf
  | 0, _, x, hx => by rw [preP] at hx; cases hx
  | n + 1, hn, x, hx => by
    rw [preP] at hx
    rcases List.mem_append.1 hx with hx | hx
    · exact pre_wf n (by omega) x hx
    · simp only [List.mem_cons, List.not_mem_nil, or_false] at hx
      rcases hx with rfl | rfl
      · refine ⟨show fits 1 by decide, ?_, Nat.zero_le _⟩
        show fits (n : Int)
        unfold fits lo63 hi63; omega
      · exact ⟨show fits 0 by decide, show fits 0 by decide, Nat.zero_le _⟩
theorem own_grew {w w1 w' : World} {B e size n : Nat} {v : Value} {xs : List Value} (h : w.ownsRow B e size v n xs) (hb : Below w.heap.size w w1) (hg : w1.grownBy w' v.ownBlock) (hB : B ≤ w.heap.size) : Below B w w' :=
  ((Only.of_below hb).trans (Only.of_grown (S := fun k => v.ownBlock = some k) hg (fun _ hk => hk.symm))).below hB (fun k hk => (h.lt k hk).1)
set_option maxHeartbeats 16000000 in
set_option maxRecDepth 100000 in
theorem walk (e : Ex) (C : Option Addr) (p q : Nat) (cols : List Col) (R : Option Addr) (y z : Nat) (r : List Val) (num : Int) (W : World) (hT : Tables W) (he : SeesEx W e) (hC : SeesCols W C p q cols) (hs : ∀ x ∈ cols, x.name.size ≤ maxLen) (hR : SeesVals W R y z r) (hwr : ∀ v ∈ r, v.wf) :
    Calls Tryd.prog 3 #[exV e, .slice C p q, .slice R y z, .int .i64 num] W fun e W' => e = .returned (.bool true) ∧ Below W.heap.size W W' := by
  have TCP0 := Lib.hid (fun w' hb => compile_any e C p q cols w' (hT.keep (w' := w') hb) (hC.keep hb) hs (he.keep hb))
  have TEW0 := Lib.hid (fun w' hb => eval_any e C R p q y z cols r w' (hT.keep (w' := w') hb) (hC.keep hb) hs (hR.keep hb) hwr (he.keep hb))
  have TVT0 := Lib.hid (fun A n c (code : List Ins) w' hb (hS : SeesCode w' A n c code) => vetype_any A n c code C p q cols w' hS (hC.keep (w' := w') hb) hs (hT.ops.keep hb) (hT.lev.keep hb))
  have TVR0 := Lib.hid (fun A n c (code : List Ins) w' hb (hS : SeesCode w' A n c code) hwf => vmrun_any A n c code C p q cols R y z r w' hS (hC.keep (w' := w') hb) hs (hR.keep hb) (hT.ops.keep hb) (hT.lev.keep hb) 1000000 hwf hwr)
  have HSND := Lib.hid (fun hh => comp_sound (cols := cols) (e := e) hh)
  have HBS := Lib.hid (fun n hh hl => behind_sound (cols := cols) (e := e) (n := n) hh hl)
  have HSAME := Lib.hid (fun n hh hl => behind_same (cols := cols) (row := r) (n := n) he hwr hh hl)
  have HWFC := Lib.hid (fun hh => comp_wf (cols := cols) _ e (Nat.le_refl _) W he (typeOf_ok (cols := cols) (e := e) hh).1)
  have HPOS := Lib.hid (comp_pos cols e)
  have HTK := Lib.hid (fun (w' : World) (hb : Below W.heap.size W w') => hT.keep hb)
  obtain ⟨tr, htr⟩ : ∃ tr, tr = typeOf cols e := ⟨_, rfl⟩
  obtain ⟨ce, hce⟩ : ∃ ce, ce = compE cols e := ⟨_, rfl⟩
  obtain ⟨vr, hvr⟩ : ∃ vr, vr = evalR cols r e := ⟨_, rfl⟩
  rw [← htr] at TCP0 HSND HSAME HWFC HBS
  rw [← hce] at TCP0 HSND HSAME HWFC HBS HPOS
  rw [← hvr] at TEW0 HSAME
  unfold EvSays at TEW0
  obtain ⟨xn, hxn⟩ : ∃ xn, xn = exN e := ⟨_, rfl⟩
  rw [← hxn] at HSND
  obtain ⟨sz, hsz⟩ : ∃ sz, sz = exSize e := ⟨_, rfl⟩
  rw [← hsz] at HSND
  clear htr hce hvr hsz hT he hC hs hR hwr hxn
  obtain ⟨op, name, v, EA, ec, args, pos⟩ := e
  unfold exV at TCP0 TEW0
  show Calls Tryd.prog 3 #[.agg #[.string op, .string name, .int .i64 v.type, .int .i64 v.n, .string v.s, .slice EA args.length ec, .int .i64 pos], .slice C p q, .slice R y z, .int .i64 num] W _
  obtain ⟨w0, hw0⟩ : ∃ w0, W.alloc (.cells #[.string op, .string name, .int .i64 v.type, .int .i64 v.n, .string v.s, .slice EA args.length ec, .int .i64 pos] 26) = w0 := ⟨_, rfl⟩
  have hb0 : Below W.heap.size W w0 := by rw [← hw0]; exact belowNew _ _
  have hbx0 := heap_alloc_new W (.cells #[.string op, .string name, .int .i64 v.type, .int .i64 v.n, .string v.s, .slice EA args.length ec, .int .i64 pos] 26)
  rw [hw0] at hbx0
  have HLT0 := Lib.hid (show W.heap.size < w0.heap.size by rw [← hw0]; simp)
  obtain ⟨wc, hwc⟩ : ∃ wc, w0.alloc (.cells #[.string ⟨#[120]⟩, .int .i64 1] 30) = wc := ⟨_, rfl⟩
  have hbc : Below w0.heap.size w0 wc := by rw [← hwc]; exact belowNew _ _
  have hsc : SeesCols wc (some ⟨w0.heap.size, 0, none⟩) 1 1 colsX := by rw [← hwc]; exact ⟨rfl, seesNew w0 (colsCells colsX) _ 1 2 rfl (by decide)⟩
  have HB := Lib.hid (below_step hb0 hbc)
  have HBOX := Lib.hid ((hbc.block W.heap.size HLT0.out).trans hbx0)
  have HLT := Lib.hid (Nat.lt_of_lt_of_le HLT0.out hbc.size)
  have hT0 := compile_any colX (some ⟨w0.heap.size, 0, none⟩) 1 1 colsX wc (HTK.out wc HB.out) hsc (by intro x hx; simp [colsX] at hx; subst hx; exact (show (1 : Nat) ≤ maxLen by decide)) (colX_seen wc)
  rw [col_type, if_neg (by decide), if_neg (by decide)] at hT0
  obtain ⟨z1, hz1⟩ : ∃ z : Int, z = 0 := ⟨0, rfl⟩
  obtain ⟨z2, hz2⟩ : ∃ z : Int, z = 0 := ⟨0, rfl⟩
  have T0 := Lib.hid (show Calls Tryd.prog 7 #[.agg #[.string ⟨#[99, 111, 108]⟩, .string ⟨#[120]⟩, .int .i64 0, .int .i64 0, .string ⟨#[]⟩, .slice none 0 0, .int .i64 0], .slice (some ⟨w0.heap.size, 0, none⟩) 1 1] wc (fun e w' => ∃ A c, e = .returned (.tuple #[.slice A 1 c, .agg #[.int .i64 z1, .int .i64 z2]]) ∧ 1 ≤ c ∧ c ≤ 9223372036854775807 ∧ Below wc.heap.size wc w') by
    refine hT0.mono ?_
    rintro e w' ⟨A, m, c, h1, h2, h3⟩
    have h4 := h2.1
    rw [col_len] at h4
    subst h4
    refine ⟨A, c, by rw [h1, hz1, hz2], h2.2.2.1, ?_, h3⟩
    have := h2.2.2.2.1
    unfold maxLen at this
    exact this)
  have y1 : (z1 != 0) = false := by rw [hz1]; rfl
  have HZ1 := Lib.hid hz1
  have HZ2 := Lib.hid hz2
  have HW0 := Lib.hid hw0
  have HWC := Lib.hid hwc
  clear hw0 hb0 hbx0 hwc hbc hsc hT0 hz1 hz2
  obtain ⟨tt, th, tp⟩ := tr
  dsimp only at HSND HSAME HWFC HBS
  by_cases hh : th = 0
  · have HS1 := Lib.hid (HSND.out hh)
    have HWV := Lib.hid (HWFC.out hh)
    have HBS1 := Lib.hid (fun n hl => HBS.out n hh hl)
    have HSM1 := Lib.hid (fun n hl => HSAME.out n hh hl)
    obtain ⟨k1, hk1⟩ : ∃ z : Int, z = 0 := ⟨0, rfl⟩
    obtain ⟨k2, hk2⟩ : ∃ z : Int, z = 0 := ⟨0, rfl⟩
    have TCP := Lib.hid (fun w' hb => show Calls Tryd.prog 7 _ w' (CompSays ce k1 k2 w') from by
      have h := TCP0.out w' hb
      rw [if_neg (show ¬ th ≠ 0 by simp [hh]), if_neg (show ¬ th ≠ 0 by simp [hh]), if_neg (show ¬ th ≠ 0 by simp [hh])] at h
      rw [hk1, hk2]
      exact h)
    have y2 : (k1 != 0) = false := by rw [hk1]; rfl
    clear hk1 hk2 hh HSND HSAME HWFC HBS TCP0
    by_cases hn0 : num < 0
    · have x0 : decide (num < 0) = true := decide_eq_true hn0
      clear hn0
      go_enter Tryd.func3, Tryd.ntmps3
      go_wp2_with (first | rw [HW0.out] | rw [HWC.out])
      refine (T0.out).mono ?_
      rintro e' w1_ ⟨A9, c9, rfl, hc91, hc92, hb⟩
      have HLE := HB.out.size
      replace HBOX := Lib.hid ((hb.block W.heap.size HLT.out).trans HBOX.out)
      replace HLT := Lib.hid (Nat.lt_of_lt_of_le HLT.out hb.size)
      replace HB := Lib.hid (below_step HB.out hb)
      clear hb HLE
      obtain ⟨w2_, hw_⟩ : ∃ w', w1_.alloc (.cells #[.int .i64 z1, .int .i64 z2] 34) = w' := ⟨_, rfl⟩
      have hb : Below w1_.heap.size w1_ w2_ := by rw [← hw_]; exact belowNew _ _
      have HF0 := Lib.hid (show Own2 w2_ w1_.heap.size z1 z2 by rw [← hw_]; exact own2_new w1_ z1 z2)
      have HA_w2_ := Lib.hid hw_
      clear hw_
      have HLE := HB.out.size
      replace HBOX := Lib.hid ((hb.block W.heap.size HLT.out).trans HBOX.out)
      replace HLT := Lib.hid (Nat.lt_of_lt_of_le HLT.out hb.size)
      replace HB := Lib.hid (below_step HB.out hb)
      clear hb HLE
      obtain ⟨f0, f1, -, -, -⟩ := HF0.out.cells
      obtain ⟨d0, d1, d2, d3, d4, d5, d6⟩ := box7' HBOX.out
      go_wp2_with (first | rw [HA_w2_.out])
      clear f0 f1
      refine (TCP.out w2_ HB.out).mono ?_
      rintro e' w3_ ⟨AL, ml, cl, rfl, hsl, hb⟩
      have HSL := Lib.hid hsl
      clear hsl
      have HLE := HB.out.size
      replace HBOX := Lib.hid ((hb.block W.heap.size HLT.out).trans HBOX.out)
      replace HLT := Lib.hid (Nat.lt_of_lt_of_le HLT.out hb.size)
      replace HB := Lib.hid (below_step HB.out hb)
      clear hb HLE
      clear d0 d1 d2 d3 d4 d5 d6
      obtain ⟨w4_, hw_⟩ : ∃ w', w3_.alloc (.cells #[.int .i64 k1, .int .i64 k2] 34) = w' := ⟨_, rfl⟩
      have hb : Below w3_.heap.size w3_ w4_ := by rw [← hw_]; exact belowNew _ _
      have HF := Lib.hid (show Own2 w4_ w3_.heap.size k1 k2 by rw [← hw_]; exact own2_new w3_ k1 k2)
      have HA_w4_ := Lib.hid hw_
      clear hw_
      have HLE := HB.out.size
      replace HBOX := Lib.hid ((hb.block W.heap.size HLT.out).trans HBOX.out)
      replace HLT := Lib.hid (Nat.lt_of_lt_of_le HLT.out hb.size)
      replace HB := Lib.hid (below_step HB.out hb)
      replace HSL := Lib.hid (HSL.out.keep hb)
      clear hb HLE
      have hml : ce.length = ml := HSL.out.1
      subst hml
      have hlc := HSL.out.2.2.1
      have hlm := HSL.out.2.2.2.1
      unfold maxLen at hlm
      obtain ⟨f0, f1, -, -, -⟩ := HF.out.cells
      go_wp2_with (first | rw [HA_w4_.out])
      clear f0 f1
      go_ret
      exact ⟨rfl, HB.out⟩
    · have x0 : decide (num < 0) = false := decide_eq_false hn0
      by_cases hn1 : 20 < num
      · have x1 : decide (20 < num) = true := decide_eq_true hn1
        clear hn0 hn1
        go_enter Tryd.func3, Tryd.ntmps3
        go_wp2_with (first | rw [HW0.out] | rw [HWC.out])
        refine (T0.out).mono ?_
        rintro e' w5_ ⟨A9, c9, rfl, hc91, hc92, hb⟩
        have HLE := HB.out.size
        replace HBOX := Lib.hid ((hb.block W.heap.size HLT.out).trans HBOX.out)
        replace HLT := Lib.hid (Nat.lt_of_lt_of_le HLT.out hb.size)
        replace HB := Lib.hid (below_step HB.out hb)
        clear hb HLE
        obtain ⟨w6_, hw_⟩ : ∃ w', w5_.alloc (.cells #[.int .i64 z1, .int .i64 z2] 34) = w' := ⟨_, rfl⟩
        have hb : Below w5_.heap.size w5_ w6_ := by rw [← hw_]; exact belowNew _ _
        have HF0 := Lib.hid (show Own2 w6_ w5_.heap.size z1 z2 by rw [← hw_]; exact own2_new w5_ z1 z2)
        have HA_w6_ := Lib.hid hw_
        clear hw_
        have HLE := HB.out.size
        replace HBOX := Lib.hid ((hb.block W.heap.size HLT.out).trans HBOX.out)
        replace HLT := Lib.hid (Nat.lt_of_lt_of_le HLT.out hb.size)
        replace HB := Lib.hid (below_step HB.out hb)
        clear hb HLE
        obtain ⟨f0, f1, -, -, -⟩ := HF0.out.cells
        obtain ⟨d0, d1, d2, d3, d4, d5, d6⟩ := box7' HBOX.out
        go_wp2_with (first | rw [HA_w6_.out])
        clear f0 f1
        refine (TCP.out w6_ HB.out).mono ?_
        rintro e' w7_ ⟨AL, ml, cl, rfl, hsl, hb⟩
        have HSL := Lib.hid hsl
        clear hsl
        have HLE := HB.out.size
        replace HBOX := Lib.hid ((hb.block W.heap.size HLT.out).trans HBOX.out)
        replace HLT := Lib.hid (Nat.lt_of_lt_of_le HLT.out hb.size)
        replace HB := Lib.hid (below_step HB.out hb)
        clear hb HLE
        clear d0 d1 d2 d3 d4 d5 d6
        obtain ⟨w8_, hw_⟩ : ∃ w', w7_.alloc (.cells #[.int .i64 k1, .int .i64 k2] 34) = w' := ⟨_, rfl⟩
        have hb : Below w7_.heap.size w7_ w8_ := by rw [← hw_]; exact belowNew _ _
        have HF := Lib.hid (show Own2 w8_ w7_.heap.size k1 k2 by rw [← hw_]; exact own2_new w7_ k1 k2)
        have HA_w8_ := Lib.hid hw_
        clear hw_
        have HLE := HB.out.size
        replace HBOX := Lib.hid ((hb.block W.heap.size HLT.out).trans HBOX.out)
        replace HLT := Lib.hid (Nat.lt_of_lt_of_le HLT.out hb.size)
        replace HB := Lib.hid (below_step HB.out hb)
        replace HSL := Lib.hid (HSL.out.keep hb)
        clear hb HLE
        have hml : ce.length = ml := HSL.out.1
        subst hml
        have hlc := HSL.out.2.2.1
        have hlm := HSL.out.2.2.2.1
        unfold maxLen at hlm
        obtain ⟨f0, f1, -, -, -⟩ := HF.out.cells
        go_wp2_with (first | rw [HA_w8_.out])
        clear f0 f1
        go_ret
        exact ⟨rfl, HB.out⟩
      · have x1 : decide (20 < num) = false := decide_eq_false hn1
        obtain ⟨N, rfl⟩ : ∃ N : Nat, num = N := ⟨num.toNat, by omega⟩
        have hN : N ≤ 20 := by omega
        clear hn0 hn1
        go_enter Tryd.func3, Tryd.ntmps3
        go_wp2_with (first | rw [HW0.out] | rw [HWC.out])
        refine (T0.out).mono ?_
        rintro e' w9_ ⟨A9, c9, rfl, hc91, hc92, hb⟩
        have HLE := HB.out.size
        replace HBOX := Lib.hid ((hb.block W.heap.size HLT.out).trans HBOX.out)
        replace HLT := Lib.hid (Nat.lt_of_lt_of_le HLT.out hb.size)
        replace HB := Lib.hid (below_step HB.out hb)
        clear hb HLE
        obtain ⟨w10_, hw_⟩ : ∃ w', w9_.alloc (.cells #[.int .i64 z1, .int .i64 z2] 34) = w' := ⟨_, rfl⟩
        have hb : Below w9_.heap.size w9_ w10_ := by rw [← hw_]; exact belowNew _ _
        have HF0 := Lib.hid (show Own2 w10_ w9_.heap.size z1 z2 by rw [← hw_]; exact own2_new w9_ z1 z2)
        have HA_w10_ := Lib.hid hw_
        clear hw_
        have HLE := HB.out.size
        replace HBOX := Lib.hid ((hb.block W.heap.size HLT.out).trans HBOX.out)
        replace HLT := Lib.hid (Nat.lt_of_lt_of_le HLT.out hb.size)
        replace HB := Lib.hid (below_step HB.out hb)
        clear hb HLE
        obtain ⟨f0, f1, -, -, -⟩ := HF0.out.cells
        obtain ⟨d0, d1, d2, d3, d4, d5, d6⟩ := box7' HBOX.out
        go_wp2_with (first | rw [HA_w10_.out])
        clear f0 f1
        refine (TCP.out w10_ HB.out).mono ?_
        rintro e' w11_ ⟨AL, ml, cl, rfl, hsl, hb⟩
        have HSL := Lib.hid hsl
        clear hsl
        have HLE := HB.out.size
        replace HBOX := Lib.hid ((hb.block W.heap.size HLT.out).trans HBOX.out)
        replace HLT := Lib.hid (Nat.lt_of_lt_of_le HLT.out hb.size)
        replace HB := Lib.hid (below_step HB.out hb)
        clear hb HLE
        clear d0 d1 d2 d3 d4 d5 d6
        obtain ⟨w12_, hw_⟩ : ∃ w', w11_.alloc (.cells #[.int .i64 k1, .int .i64 k2] 34) = w' := ⟨_, rfl⟩
        have hb : Below w11_.heap.size w11_ w12_ := by rw [← hw_]; exact belowNew _ _
        have HF := Lib.hid (show Own2 w12_ w11_.heap.size k1 k2 by rw [← hw_]; exact own2_new w11_ k1 k2)
        have HA_w12_ := Lib.hid hw_
        clear hw_
        have HLE := HB.out.size
        replace HBOX := Lib.hid ((hb.block W.heap.size HLT.out).trans HBOX.out)
        replace HLT := Lib.hid (Nat.lt_of_lt_of_le HLT.out hb.size)
        replace HB := Lib.hid (below_step HB.out hb)
        replace HSL := Lib.hid (HSL.out.keep hb)
        clear hb HLE
        have hml : ce.length = ml := HSL.out.1
        subst hml
        have hlc := HSL.out.2.2.1
        have hlm := HSL.out.2.2.2.1
        unfold maxLen at hlm
        obtain ⟨f0, f1, -, -, -⟩ := HF.out.cells
        go_wp2_with (first | rw [HA_w12_.out])
        clear f0 f1
        clear x0 x1
        go_loopw [14, 15] (fun su iu wx => ∃ k : Nat, k ≤ N ∧ iu = .int .i64 k ∧ wx.ownsRow w12_.heap.size 39 5 su (preP k).length (codeCells (preP k)) ∧ Below w12_.heap.size w12_ wx) (fun _ iu _ => N - (intOf iu).toNat)
        case atStart => exact ⟨0, by omega, rfl, World.ownsRow_nil _ _ _ _, Below.refl _ _⟩
        case round =>
          obtain ⟨k, hk, rfl, hown, hb⟩ := hrel
          obtain ⟨AS, cs, rfl, hss⟩ := Sees.of_own hown
          have HOW := Lib.hid hown
          have HBR := Lib.hid hb
          have HSZ := Lib.hid hb.size
          clear hss
          by_cases hkn : k < N
          · have TI := Lib.hid (in_any (k : Int) wr)
            clear hown hb
            go_wp2_with fail
            refine (TI.out).mono ?_
            rintro e' w2 ⟨rfl, hb2⟩
            have HB2 := Lib.hid (HBR.out.trans (hb2.mono HSZ.out))
            have HOW2 := Lib.hid (own_keep HOW.out hb2)
            have HSZ2 := Lib.hid HB2.out.size
            have HON1 := Lib.hid (show ∀ u ∈ (#[Value.int .i64 1, Value.int .i64 0, Value.int .i64 1, Value.int .i64 k, Value.string ⟨#[]⟩] : Array Value).toList, u.oneCell' = true by intro u hu; simp at hu; rcases hu with rfl | rfl | rfl | rfl | rfl <;> rfl)
            have HON2 := Lib.hid (show ∀ u ∈ (#[Value.int .i64 7, Value.int .i64 0, Value.int .i64 0, Value.int .i64 0, Value.string ⟨#[]⟩] : Array Value).toList, u.oneCell' = true by intro u hu; simp at hu; rcases hu with rfl | rfl | rfl | rfl | rfl <;> rfl)
            have HBY1 := Lib.hid (show ((preP k).length + 1) * 48 ≤ 140737488355328 by rw [preP_len]; omega)
            have HBY2 := Lib.hid (show ((preP k).length + 1 + 1) * 48 ≤ 140737488355328 by rw [preP_len]; omega)
            have HCC := Lib.hid (show codeCells (preP k) ++ (#[Value.int .i64 1, Value.int .i64 0, Value.int .i64 1, Value.int .i64 k, Value.string ⟨#[]⟩] : Array Value).toList ++ (#[Value.int .i64 7, Value.int .i64 0, Value.int .i64 0, Value.int .i64 0, Value.string ⟨#[]⟩] : Array Value).toList = codeCells (preP (k + 1)) by
              rw [preP]; unfold codeCells; rw [List.flatMap_append, List.append_assoc]; rfl)
            clear hb2
            go_wp2_with (first
              | (at_builtin; refine list_append_one insSlice rfl _ _ rfl rfl rfl HOW2.out HSZ2.out rfl HON1.out HBY1.out ?_; intro g5 cap5 w5 hown5 hg5 hat5; have HB5 := Lib.hid (HB2.out.trans (own_grew HOW2.out (belowNew _ _) hg5 HSZ2.out)); have HOW5 := Lib.hid hown5; have HSZ5 := Lib.hid HB5.out.size; clear hown5 hg5 hat5)
              | (at_builtin; refine list_append_one insSlice rfl _ _ rfl rfl rfl HOW5.out HSZ5.out rfl HON2.out HBY2.out ?_; intro g6 cap6 w6 hown6 hg6 hat6; have HB6 := Lib.hid (HB5.out.trans (own_grew HOW5.out (belowNew _ _) hg6 HSZ5.out)); have HOW6 := Lib.hid hown6; clear hown6 hg6 hat6))
            go_roundw
            case rel =>
              refine ⟨k + 1, by omega, by go_num, ?_, HB6.out⟩
              have h := HOW6.out
              rw [HCC.out] at h
              rw [show (preP (k + 1)).length = (preP k).length + 1 + 1 by rw [preP_len, preP_len]; omega]
              exact h
            case measure => simp [intOf]; omega
          · obtain rfl : k = N := by omega
            have HBX := Lib.hid ((HBR.out.block W.heap.size HLT.out).trans HBOX.out)
            have HLX := Lib.hid (Nat.lt_of_lt_of_le HLT.out HSZ.out)
            have HBW := Lib.hid (below_step HB.out hb)
            have HSX := Lib.hid (HSL.out.keep hb)
            have hpl := preP_len k
            have hcl : ce.length ≤ 1200 := by obtain ⟨-, -, h3, h4, h5⟩ := HS1.out; omega
            obtain ⟨gx, ox, ex, hgx, hcx⟩ := HSX.out.2.2.2.2.2 HPOS.out
            subst ex
            have HCX := Lib.hid (show ∀ (q : Nat) (u : Value), (codeCells ce)[q]? = some u → wr.cell? ((⟨gx, ox, none⟩ : Addr).add q) = some u from fun q u hu => by rw [addr_addN]; exact hcx q u hu)
            have HCL := Lib.hid (show (codeCells ce).length = ce.length * 5 from HSX.out.2.1)
            have HONE := Lib.hid (insCells_one ce)
            have HPS := Lib.hid HPOS.out
            have HBY := Lib.hid (show ((preP k).length + ce.length) * 48 ≤ 140737488355328 by rw [hpl]; omega)
            have HCC := Lib.hid (show codeCells (preP k) ++ codeCells ce = codeCells (preP k ++ ce) by unfold codeCells; rw [List.flatMap_append])
            have HALN := Lib.hid (show (preP k ++ ce).length = (preP k).length + ce.length by rw [List.length_append])
            have hsum : (preP k).length + ce.length ≤ 1240 := by rw [hpl]; omega
            generalize hPL : (preP k).length = PL at HOW HBY HALN hsum ⊢
            have HPL := Lib.hid hPL
            clear hown hb hgx hcx hPL hpl
            by_cases hbig : 1200 < PL + ce.length
            · have x5 : decide (1200 < (PL : Int) + (ce.length : Int)) = true := decide_eq_true (by omega)
              have x6 : decide (1200 < ((PL + ce.length : Nat) : Int)) = true := decide_eq_true (by omega)
              clear hbig
              go_wp2_with (first | (at_builtin; refine list_append_src insSlice rfl _ _ rfl HPS.out rfl rfl HCL.out HCX.out HOW.out HSZ.out HONE.out HBY.out ?_; intro g5 cap w5 hown5 hg5 hat5; have HB5 := Lib.hid (HBR.out.trans (own_grew HOW.out (Below.refl _ _) hg5 HSZ.out)); clear hown5 hg5 hat5))
              go_ret
              exact ⟨rfl, HB.out.trans (HB5.out.mono HB.out.size)⟩
            · have x5 : decide (1200 < (PL : Int) + (ce.length : Int)) = false := decide_eq_false (by omega)
              have x6 : decide (1200 < ((PL + ce.length : Nat) : Int)) = false := decide_eq_false (by omega)
              have HLE := Lib.hid (show (preP k ++ ce).length ≤ 1200 by rw [HALN.out]; omega)
              clear hbig
              have HB5' := HB
              go_wp2_with (first | (at_builtin; refine list_append_src insSlice rfl _ _ rfl HPS.out rfl rfl HCL.out HCX.out HOW.out HSZ.out HONE.out HBY.out ?_; intro g5 cap w5 hown5 hg5 hat5; have HB5 := Lib.hid (HBR.out.trans (own_grew HOW.out (Below.refl _ _) hg5 HSZ.out)); have HO5 := Lib.hid hown5; clear hown5 hg5 hat5))
              have HSA := Lib.hid (show SeesCode w5 (some ⟨g5, 0, none⟩) (PL + ce.length) cap (preP k ++ ce) by
                have h := HO5.out
                rw [HCC.out, ← HALN.out] at h
                rw [← HALN.out]
                exact code_own h)
              replace HSL := Lib.hid (HSL.out.keep HB5.out)
              replace HBOX := Lib.hid ((HB5.out.block W.heap.size HLT.out).trans HBOX.out)
              replace HLT := Lib.hid (Nat.lt_of_lt_of_le HLT.out HB5.out.size)
              replace HB := Lib.hid (below_step HB.out HB5.out)
              have hac := HSA.out.2.2.1
              have ham := HSA.out.2.2.2.1
              unfold maxLen at ham
              have HTS := Lib.hid (HBS1.out k HLE.out)
              obtain ⟨ek, vv, nn, e1, e2⟩ := HSM1.out k HLE.out
              have HEV := Lib.hid e1
              have HVR := Lib.hid e2
              clear e1 e2
              have TV := Lib.hid (TVT0.out _ _ _ _ w5 HB.out HSL.out)
              unfold TwoV at TV
              rw [HS1.out.1, HS1.out.2.1, errV_zero] at TV
              go_wp2_with fail
              refine (TV.out).mono ?_
              rintro e' w13_ ⟨rfl, hb⟩
              have HLE := HB.out.size
              replace HBOX := Lib.hid ((hb.block W.heap.size HLT.out).trans HBOX.out)
              replace HLT := Lib.hid (Nat.lt_of_lt_of_le HLT.out hb.size)
              replace HB := Lib.hid (below_step HB.out hb)
              replace HSL := Lib.hid (HSL.out.keep hb)
              replace HSA := Lib.hid (HSA.out.keep hb)
              clear hb HLE
              have TV2 := Lib.hid (TVT0.out _ _ _ _ w13_ HB.out HSA.out)
              unfold TwoV at TV2
              rw [HTS.out.1, HTS.out.2, errV_zero] at TV2
              go_wp2_with fail
              refine (TV2.out).mono ?_
              rintro e' w14_ ⟨rfl, hb⟩
              have HLE := HB.out.size
              replace HBOX := Lib.hid ((hb.block W.heap.size HLT.out).trans HBOX.out)
              replace HLT := Lib.hid (Nat.lt_of_lt_of_le HLT.out hb.size)
              replace HB := Lib.hid (below_step HB.out hb)
              replace HSL := Lib.hid (HSL.out.keep hb)
              replace HSA := Lib.hid (HSA.out.keep hb)
              clear hb HLE
              obtain ⟨d0, d1, d2, d3, d4, d5, d6⟩ := box7' HBOX.out
              go_wp2_with fail
              have TW := Lib.hid (TEW0.out w14_ HB.out)
              rw [HEV.out] at TW
              dsimp only at TW
              unfold valV at TW
              refine (TW.out).mono ?_
              rintro e' w15_ ⟨rfl, hb⟩
              have HLE := HB.out.size
              replace HBOX := Lib.hid ((hb.block W.heap.size HLT.out).trans HBOX.out)
              replace HLT := Lib.hid (Nat.lt_of_lt_of_le HLT.out hb.size)
              replace HB := Lib.hid (below_step HB.out hb)
              replace HSL := Lib.hid (HSL.out.keep hb)
              replace HSA := Lib.hid (HSA.out.keep hb)
              clear hb HLE
              clear d0 d1 d2 d3 d4 d5 d6
              obtain ⟨w16_, hw_⟩ : ∃ w', w15_.alloc (.cells #[.int .i64 vv.type, .int .i64 vv.n, .string vv.s] 23) = w' := ⟨_, rfl⟩
              have hb : Below w15_.heap.size w15_ w16_ := by rw [← hw_]; exact belowNew _ _
              have HO1 := Lib.hid (show Own3 w16_ w15_.heap.size vv by rw [← hw_]; exact own3_new w15_ vv)
              have HA_w16_ := Lib.hid hw_
              clear hw_
              have HLE := HB.out.size
              replace HBOX := Lib.hid ((hb.block W.heap.size HLT.out).trans HBOX.out)
              replace HLT := Lib.hid (Nat.lt_of_lt_of_le HLT.out hb.size)
              replace HB := Lib.hid (below_step HB.out hb)
              replace HSL := Lib.hid (HSL.out.keep hb)
              replace HSA := Lib.hid (HSA.out.keep hb)
              clear hb HLE
              go_wp2_with (first | rw [HA_w16_.out])
              have TR := Lib.hid (show Calls Tryd.prog 11 #[.slice (some ⟨g5, 0, none⟩) (PL + ce.length) cap, .slice C p q, .slice R y z, .int .i64 1000000] w16_ (fun e w' => e = .returned (.tuple #[.agg #[.int .i64 vv.type, .int .i64 vv.n, .string vv.s], .int .i64 nn, errV ek]) ∧ Below w16_.heap.size w16_ w') by
                have h := TVR0.out _ _ _ _ w16_ HB.out HSA.out (fun x hx => by
                  rcases List.mem_append.1 hx with hx | hx
                  · exact pre_wf k (by omega) x hx
                  · exact HWV.out x hx)
                unfold RunTopSays at h
                rw [HVR.out] at h
                exact h)
              refine (TR.out).mono ?_
              rintro e' w17_ ⟨rfl, hb⟩
              have HLE := HB.out.size
              replace HBOX := Lib.hid ((hb.block W.heap.size HLT.out).trans HBOX.out)
              replace HLT := Lib.hid (Nat.lt_of_lt_of_le HLT.out hb.size)
              replace HB := Lib.hid (below_step HB.out hb)
              replace HSA := Lib.hid (HSA.out.keep hb)
              replace HO1 := Lib.hid (HO1.out.keep hb)
              clear hb HLE
              obtain ⟨w18_, hw_⟩ : ∃ w', w17_.alloc (.cells #[.int .i64 vv.type, .int .i64 vv.n, .string vv.s] 23) = w' := ⟨_, rfl⟩
              have hb : Below w17_.heap.size w17_ w18_ := by rw [← hw_]; exact belowNew _ _
              have HO2 := Lib.hid (show Own3 w18_ w17_.heap.size vv by rw [← hw_]; exact own3_new w17_ vv)
              have HA_w18_ := Lib.hid hw_
              clear hw_
              have HLE := HB.out.size
              replace HBOX := Lib.hid ((hb.block W.heap.size HLT.out).trans HBOX.out)
              replace HLT := Lib.hid (Nat.lt_of_lt_of_le HLT.out hb.size)
              replace HB := Lib.hid (below_step HB.out hb)
              replace HSA := Lib.hid (HSA.out.keep hb)
              replace HO1 := Lib.hid (HO1.out.keep hb)
              clear hb HLE
              obtain ⟨o0, o1, o2, -, -, -, -⟩ := HO1.out.cells
              obtain ⟨p0, p1, p2, -, -, -, -⟩ := HO2.out.cells
              have s1 : (vv.type == vv.type) = true := by simp
              have s2 : (vv.n == vv.n) = true := by simp
              have s3 : (vv.s.toList == vv.s.toList) = true := by simp
              have s4 : (tt == tt) = true := by simp
              by_cases hek : ek = 0
              · subst hek
                rw [errV_zero]
                go_wp2_with (first | rw [HA_w18_.out])
                go_quiet (fail)
                have HBQ := Lib.hid (below_drewN HB.out nq)
                generalize w18_.drewN nq = wq at HBQ ⊢
                go_wp2_with fail
                go_ret
                exact ⟨rfl, HBQ.out⟩
              · rw [errV_ne hek]
                clear hek
                go_wp2_with (first | rw [HA_w18_.out])
                go_quiet (fail)
                have HBQ := Lib.hid (below_drewN HB.out nq)
                generalize w18_.drewN nq = wq at HBQ ⊢
                go_wp2_with fail
                go_ret
                exact ⟨rfl, HBQ.out⟩
  · have y3 : (th != 0) = true := by simpa using hh
    have TCP := Lib.hid (fun w' hb => show Calls Tryd.prog 7 _ w' (CompSays [] th tp w') from by
      have h := TCP0.out w' hb
      rw [if_pos hh, if_pos hh, if_pos hh] at h
      exact h)
    clear hh HSND HSAME HWFC TCP0 HBS
    go_enter Tryd.func3, Tryd.ntmps3
    go_wp2_with (first | rw [HW0.out] | rw [HWC.out])
    refine (T0.out).mono ?_
    rintro e' w19_ ⟨A9, c9, rfl, hc91, hc92, hb⟩
    have HLE := HB.out.size
    replace HBOX := Lib.hid ((hb.block W.heap.size HLT.out).trans HBOX.out)
    replace HLT := Lib.hid (Nat.lt_of_lt_of_le HLT.out hb.size)
    replace HB := Lib.hid (below_step HB.out hb)
    clear hb HLE
    obtain ⟨w20_, hw_⟩ : ∃ w', w19_.alloc (.cells #[.int .i64 z1, .int .i64 z2] 34) = w' := ⟨_, rfl⟩
    have hb : Below w19_.heap.size w19_ w20_ := by rw [← hw_]; exact belowNew _ _
    have HF0 := Lib.hid (show Own2 w20_ w19_.heap.size z1 z2 by rw [← hw_]; exact own2_new w19_ z1 z2)
    have HA_w20_ := Lib.hid hw_
    clear hw_
    have HLE := HB.out.size
    replace HBOX := Lib.hid ((hb.block W.heap.size HLT.out).trans HBOX.out)
    replace HLT := Lib.hid (Nat.lt_of_lt_of_le HLT.out hb.size)
    replace HB := Lib.hid (below_step HB.out hb)
    clear hb HLE
    obtain ⟨f0, f1, -, -, -⟩ := HF0.out.cells
    obtain ⟨d0, d1, d2, d3, d4, d5, d6⟩ := box7' HBOX.out
    go_wp2_with (first | rw [HA_w20_.out])
    clear f0 f1
    refine (TCP.out w20_ HB.out).mono ?_
    rintro e' w21_ ⟨AL, ml, cl, rfl, hsl, hb⟩
    clear hsl
    have HLE := HB.out.size
    replace HBOX := Lib.hid ((hb.block W.heap.size HLT.out).trans HBOX.out)
    replace HLT := Lib.hid (Nat.lt_of_lt_of_le HLT.out hb.size)
    replace HB := Lib.hid (below_step HB.out hb)
    clear hb HLE
    clear d0 d1 d2 d3 d4 d5 d6
    obtain ⟨w22_, hw_⟩ : ∃ w', w21_.alloc (.cells #[.int .i64 th, .int .i64 tp] 34) = w' := ⟨_, rfl⟩
    have hb : Below w21_.heap.size w21_ w22_ := by rw [← hw_]; exact belowNew _ _
    have HF := Lib.hid (show Own2 w22_ w21_.heap.size th tp by rw [← hw_]; exact own2_new w21_ th tp)
    have HA_w22_ := Lib.hid hw_
    clear hw_
    have HLE := HB.out.size
    replace HBOX := Lib.hid ((hb.block W.heap.size HLT.out).trans HBOX.out)
    replace HLT := Lib.hid (Nat.lt_of_lt_of_le HLT.out hb.size)
    replace HB := Lib.hid (below_step HB.out hb)
    clear hb HLE
    obtain ⟨f0, f1, -, -, -⟩ := HF.out.cells
    go_wp2_with (first | rw [HA_w22_.out])
    go_ret
    exact ⟨rfl, HB.out⟩

set_option maxRecDepth 100000 in
theorem contract (H : Type) (enc : TypeId × Value → H) (W : World) (base : Nat) (args : Array Value) (ds gs : List (DataW H)) (before : List MemPlace)
    (hval : ∀ (j : Nat) t v, Tryd.f3.params[j]? = some t → args[j]? = some v → Value.okWide Tryd.prog W .any base t v)
    (hW : DataW.Whole enc Tryd.prog Tryd.f3.params.toList Rows.codeBehindSpec.vars false W args.toList ds gs before)
    (hsz : (DataW.weightsEach Tryd.prog (Tryd.f3.params.toList ++ (OpenSpec.ofChange Rows.codeBehindSpec).bare.plain.varTypes Tryd.prog) (ds ++ gs)).all (· ≤ reachBytes) = true) (hL : laidMetH Tryd.prog Rows.codeBehindRow.laid W) :
    Calls Tryd.prog 3 args W fun e W' => ∃ v, e = .returned v ∧ Rows.codeBehindSpec.post enc Tryd.prog Tryd.f3 false true false false W args v W' := by
  have hW' := hW
  obtain ⟨p, q, hA0, hV, rfl, hfz, hnd⟩ := hW
  have hA : DataW.TrodAll enc Tryd.prog W 0 (fun _ => true) true Tryd.f3.params.toList args.toList ds p := hA0
  rw [Tryd.params3] at hA hval
  obtain ⟨v0, vs0, d0, ds0, p0, q0, hargs, rfl, rfl, h0, r0⟩ := trodAll_cons hA
  obtain ⟨v1, vs1, d1, ds1, p1, q1, rfl, rfl, rfl, h1, r1⟩ := trodAll_cons r0
  obtain ⟨v2, vs2, d2, ds2, p2, q2, rfl, rfl, rfl, h2, r2⟩ := trodAll_cons r1
  obtain ⟨v3, vs3, d3, ds3, p3, q3, rfl, rfl, rfl, h3, r3⟩ := trodAll_cons r2
  obtain ⟨rfl, rfl, rfl⟩ := trodAll_nil r3
  obtain rfl : args = #[v0, v1, v2, v3] := by cases args; simp_all
  obtain ⟨rfl, rfl⟩ := trodVars_none hV
  have hv0 := hval 0 26 v0 rfl rfl
  have hv1 := hval 1 27 v1 rfl rfl
  have hv2 := hval 2 28 v2 rfl rfl
  obtain ⟨num, rfl, rfl, rfl, _⟩ := open_int Tryd.underlying3 (hval 3 3 v3 rfl rfl) h3
  obtain ⟨e, rfl, he⟩ := open_ex hv0 h0
  obtain ⟨C, p, q, cols, rfl, hC, hcs⟩ := open_cols (okWide_slice Tryd.underlying27 hv1) h1
  obtain ⟨R, y, z, r, rfl, hR, hwr⟩ := open_vals (okWide_slice Tryd.underlying28 hv2) h2
  have hL0 : laidMet Tryd.prog Rows.codeBehindRow.laid W := hL
  refine (walk e C p q cols R y z r num W ⟨levelsT_of hL0 (.tail _ (.head _)), opsT_of hL0 (.tail _ (.tail _ (.head _))), wordsT_of hL0 (.head _)⟩ he hC (fun x hx => (hcs x hx).1) hR hwr).mono fun e W' ⟨he, hb⟩ => ?_
  subst he
  exact ⟨_, rfl, law_post laidOut Tryd.underlying4 (by kernel_rfl) rfl (by rw [Tryd.params3]; intro t ht; simp only [List.mem_cons, List.not_mem_nil, or_false] at ht; rcases ht with rfl | rfl | rfl | rfl; all_goals exact ⟨by kernel_rfl, of_decide_eq_true (by kernel_rfl)⟩) hW' rfl hb⟩

theorem reads (os : Os) {H : Type} (enc : TypeId × Value → H) : ∃ places, DataW.whole enc Tryd.prog ((World.doorLaid Tryd.prog 4000 os).forCall (fun _ _ => 0) ⟨#[], #[.agg #[.string .empty, .string .empty, .int .i64 0, .int .i64 0, .string .empty, .slice none 0 0, .int .i64 0], .slice none 0 0, .slice none 0 0, .int .i64 0], []⟩).memory Tryd.f3.params.toList Rows.codeBehindSpec.vars false (#[.agg #[.string .empty, .string .empty, .int .i64 0, .int .i64 0, .string .empty, .slice none 0 0, .int .i64 0], .slice none 0 0, .slice none 0 0, .int .i64 0] : Array Value).toList 8 = some ([.agg [.lit (.string []), .lit (.string []), .agg [.lit (.int .i64 0), .lit (.int .i64 0), .lit (.string [])], .nil, .lit (.int .i64 0)], .nil, .nil, .lit (.int .i64 0)], [], places) :=
  ⟨[], by kernel_rfl⟩

set_option maxRecDepth 100000 in
theorem lifted (os : Os) (started : os.Started) (H : Type) (enc : TypeId × Value → H) (F : Stop.Interp) :
    ReturnsInHanded {} Tryd.checked os 3 .any ((OpenSpec.ofChange Rows.codeBehindSpec).preRow enc Tryd.prog Tryd.f3 Rows.codeBehindRow.domain false Rows.codeBehindRow.laid) (((OpenSpec.ofChange Rows.codeBehindSpec).at F).post enc Tryd.prog Tryd.f3 false true false false) := by
  obtain ⟨places, hx⟩ := reads os enc
  refine returnsInHanded_of_row (C := Tryd.checked) (s := OpenSpec.ofChange Rows.codeBehindSpec) own started (by kernel_rfl) Tryd.func3
    (witness_row_atRef (enc := enc) (C := Tryd.checked) false (World.doorLaid Tryd.prog 4000 os) #[.agg #[.string .empty, .string .empty, .int .i64 0, .int .i64 0, .string .empty, .slice none 0 0, .int .i64 0], .slice none 0 0, .slice none 0 0, .int .i64 0] rfl (by kernel_rfl) (by kernel_rfl) (by kernel_rfl)
      (OpenSpec.preRow_of_cond 8 hx (by kernel_rfl) (fun k hk => by cases hk) (by kernel_rfl) (laidMet_of_run' 12 (by kernel_rfl) (by kernel_rfl)))) ?_
  intro W base args ds gs before hval hW _ _ hsz hL _ _
  exact contract H enc W base args ds gs before hval hW hsz hL

theorem said : Rows.CodeBehindSaid :=
  OpenClaim.holds_of_cond 3 Tryd.f3 rfl rfl rfl rfl rfl rfl rfl ⟨rfl, rfl, rfl, rfl, rfl⟩ rfl rfl rfl rfl rfl (by kernel_rfl) Tryd.func3 (by kernel_rfl)
    (of_decide_eq_true (by kernel_rfl)) (by unfold Func.isWrapper; first | (rw [if_pos (by decide +kernel)]; kernel_rfl) | (rw [if_neg (by decide +kernel)]; exact ⟨rfl, rfl⟩))
    (fun os started H enc _ F => by rw [OpenClaim.pre_eq_preRow]; exact lifted os started H enc F)

theorem plain (f : FuncId) (fn : Func) (hf : Tryd.pinned.checked.prog.funcNamed "sluicebook/sluicelaw4.CodeBehind" = some f) (hfn : Tryd.pinned.checked.prog.funcs[f]? = some fn) :
    true = Tryd.pinned.checked.prog.looks [] ∧ ∀ (j : Nat) t, fn.params[j]? = some t → Tryd.pinned.checked.prog.wantsStandIn t = false := by
  obtain rfl : f = 3 := Option.some.inj ((show Tryd.prog.funcNamed "sluicebook/sluicelaw4.CodeBehind" = some 3 by kernel_rfl).symm.trans hf) |>.symm
  obtain rfl : fn = Tryd.f3 := (Option.some.inj (Tryd.func3.symm.trans hfn)).symm
  refine ⟨by kernel_rfl, fun j t ht => ?_⟩
  rw [Tryd.params3] at ht
  have hm := Array.mem_of_getElem? ht
  simp only [List.mem_toArray, List.mem_cons, List.not_mem_nil, or_false] at hm
  rcases hm with rfl | rfl | rfl | rfl
  · exact (show Tryd.prog.wantsStandIn 26 = false by kernel_rfl)
  · exact (show Tryd.prog.wantsStandIn 27 = false by kernel_rfl)
  · exact (show Tryd.prog.wantsStandIn 28 = false by kernel_rfl)
  · exact (show Tryd.prog.wantsStandIn 3 = false by kernel_rfl)

theorem card : Rows.CodeBehindCardSaid :=
  Claim7.holds_tied_plain_at .later [] _ _ _ _ said (fun _ h => by cases h) (by kernel_rfl) (fun _ h => by cases h) codeBehind_row_tie rfl ⟨rfl, rfl⟩ (by kernel_rfl) rfl plain (by kernel_rfl)
#print axioms card
end Go.Proofs.YthmbafkedgahaaaDoor.codeBehind
