/- val.Print, walked: a value as text. -/
import Derived.Test.YtpbbkpfaphjdoaaGreatDoorShow
import Derived.Lib.ReplaceLaws
import Derived.Lib.AppendIntMem
import Derived.Lib.ItoaLen
namespace Go.Proofs.YtpbbkpfaphjdoaaGreatDoor
open Go.ChangeShapes Go.WideShapes Go.ChangeAt Go.RowKit

/-- What the library's texts need: a table of powers of ten; the longest text that is sought by machine. -/
structure TextT (w : World) : Prop where
  tab : Lib.TabBelow Tryz.prog w.heap.size w "internal/strconv.uint64pow10" .u64 Lib.pow10Tab
  maxl : ∃ m, w.cell? ⟨6, 0, none⟩ = some (.int .i64 m) ∧ 6 < w.heap.size
theorem TextT.keep {w w' : World} (h : TextT w) (hb : Below w.heap.size w w') : TextT w' :=
  ⟨fun w2 h2 => h.tab w2 (hb.trans (h2.mono hb.size)), by obtain ⟨m, h1, h2⟩ := h.maxl; exact ⟨m, (hb.cell (p := ⟨6, 0, none⟩) h2).trans h1, Nat.lt_of_lt_of_le h2 hb.size⟩⟩
theorem fmt_true : Lib.formatBool true = [116, 114, 117, 101] := by decide
theorem fmt_false : Lib.formatBool false = [102, 97, 108, 115, 101] := by decide
theorem vcheck_size {v : Val} (hc : vcheck v = 0) : v.s.size ≤ 40 := by
  have hz : v.s.data.toList = [] → v.s.size ≤ 40 := fun h => by
    have : v.s.size = v.s.data.toList.length := rfl
    rw [this, h]; decide
  unfold vcheck at hc
  split at hc
  · split at hc
    · rename_i h; exact hz h
    · omega
  split at hc
  · split at hc
    · split at hc
      · rename_i h; exact hz h
      · omega
    · omega
  split at hc
  · split at hc
    · omega
    · omega
  · omega
theorem itoa_len {n : Int} (h : fits n) : (Lib.itoa n).length ≤ 21 := Lib.itoa_length_le n (by unfold fits lo63 hi63 at h; omega) (by unfold fits lo63 hi63 at h; omega)
theorem valText_len {v : Val} (hf : fits v.n) (hc : vcheck v = 0) : (valText v).length ≤ 100 := by
  have h1 := itoa_len hf
  have h2 := vcheck_size hc
  have h3 := dblQ_len v.s.data.toList
  have h4 : v.s.data.toList.length = v.s.size := rfl
  unfold valText
  split
  · omega
  split
  · split <;> decide
  · rw [List.length_cons, List.length_append]
    show _ + 1 + 1 ≤ 100
    omega
def PrintSays (v : Val) (w : World) (e : Ending) (w' : World) : Prop := e = .returned (.tuple #[.string (if vcheck v = 0 then ⟨(valText v).toArray⟩ else ⟨#[]⟩), errV (vcheck v)]) ∧ Below w.heap.size w w'
set_option maxHeartbeats 4000000 in
set_option maxRecDepth 100000 in
theorem print_any (v : Val) (hw : v.wf) (w : World) (hT : TextT w) : Calls Tryz.prog 32 #[.agg #[.int .i64 v.type, .int .i64 v.n, .string v.s]] w (PrintSays v w) := by
  obtain ⟨w0, hw0⟩ : ∃ w0, w.alloc (.cells #[.int .i64 v.type, .int .i64 v.n, .string v.s] 23) = w0 := ⟨_, rfl⟩
  have hb0 : Below w.heap.size w w0 := by rw [← hw0]; exact belowNew' _ _
  have hbx := heap_alloc_new w (.cells #[.int .i64 v.type, .int .i64 v.n, .string v.s] 23)
  rw [hw0] at hbx
  have HBX := Lib.hid hbx
  have HB0 := Lib.hid hb0
  have HT0 := Lib.hid (hT.keep hb0)
  have HLT := Lib.hid (show w.heap.size < w0.heap.size by rw [← hw0]; simp)
  have HW := Lib.hid hw0
  obtain ⟨c0, c1, c2⟩ := cells3' hbx
  have T := Lib.hid (vcheck_any v w0)
  unfold valV at T
  have hn := hw.2.1
  clear hw0 hb0 hbx hT
  by_cases hc : vcheck v = 0
  · have HSZ := Lib.hid (vcheck_size hc)
    unfold PrintSays
    rw [hc, errV_zero] at T
    rw [if_pos hc, hc, errV_zero]
    clear hc
    by_cases h1 : v.type = 1
    · have e1 : (v.type == 1) = true := beq_iff_eq.2 h1
      have E := Lib.hid (show valText v = Lib.itoa v.n by unfold valText; rw [if_pos h1])
      have TI := Lib.hid (fun (w' : World) (hb : Below w0.heap.size w0 w') => Tryz.strconv_Itoa v.n (by unfold fits lo63 hi63 at hn; omega) (by unfold fits lo63 hi63 at hn; omega) w' (HT0.out.tab w' hb))
      rw [E.out]
      clear h1 E hn
      go_enter Tryz.func32, Tryz.ntmps32
      go_wp2_with (first | rw [HW.out])
      refine (T.out).mono ?_
      rintro e w1 ⟨rfl, hb1⟩
      have HB1 := Lib.hid hb1
      have k1 := (hb1.cell (p := ⟨w.heap.size, 1, none⟩) HLT.out).trans c1
      have k0 := (hb1.cell (p := ⟨w.heap.size, 0, none⟩) HLT.out).trans c0
      clear hb1
      go_wp2_with fail
      refine (TI.out w1 HB1.out).mono ?_
      rintro e w2 ⟨rfl, kq, os, rfl⟩
      have HB2 := Lib.hid (below_step HB0.out (below_step HB1.out (Lib.below_grow w1.heap.size w1 (Nat.le_refl _) kq os)))
      go_wp2_with fail
      go_ret2
      exact ⟨rfl, HB2.out⟩
    by_cases h2 : v.type = 2
    · have e1 : (v.type == 1) = false := beq_eq_false_iff_ne.2 h1
      have e2 : (v.type == 2) = true := beq_iff_eq.2 h2
      have TF := Lib.hid (fun b w' => Tryz.strconv_FormatBool b w')
      have E := Lib.hid (show valText v = Lib.formatBool (v.n == 1) by
        unfold valText
        rw [if_neg h1, if_pos h2]
        by_cases h3 : v.n = 1
        · rw [if_pos h3, show (v.n == 1) = true from beq_iff_eq.2 h3, fmt_true]
        · rw [if_neg h3, show (v.n == 1) = false from beq_eq_false_iff_ne.2 h3, fmt_false])
      rw [E.out]
      clear h1 h2 E hn
      go_enter Tryz.func32, Tryz.ntmps32
      go_wp2_with (first | rw [HW.out])
      refine (T.out).mono ?_
      rintro e w1 ⟨rfl, hb1⟩
      have HB1 := Lib.hid (below_step HB0.out hb1)
      have k1 := (hb1.cell (p := ⟨w.heap.size, 1, none⟩) HLT.out).trans c1
      have k0 := (hb1.cell (p := ⟨w.heap.size, 0, none⟩) HLT.out).trans c0
      clear hb1
      go_wp2_with fail
      refine (TF.out _ w1).mono ?_
      rintro e w2 ⟨rfl, rfl⟩
      go_wp2_with fail
      go_ret2
      exact ⟨rfl, HB1.out⟩
    · have e1 : (v.type == 1) = false := beq_eq_false_iff_ne.2 h1
      have e2 : (v.type == 2) = false := beq_eq_false_iff_ne.2 h2
      have E := Lib.hid (show valText v = 39 :: (dblQ v.s.data.toList ++ [39]) by unfold valText; rw [if_neg h1, if_neg h2])
      obtain ⟨m, hm1, hm2⟩ := HT0.out.maxl
      have hcb := Lib.countB_le ⟨#[39]⟩ (by decide) v.s.size v.s (Nat.le_refl _)
      have TR := Lib.hid (fun (w' : World) (hb : Below w0.heap.size w0 w') => Tryz.strings_ReplaceAll v.s ⟨#[39]⟩ ⟨#[39, 39]⟩ m w' (by have := HSZ.out; omega) ((hb.cell (p := ⟨6, 0, none⟩) hm2).trans hm1) (by decide) (by have := HSZ.out; show v.s.size + Lib.countB v.s ⟨#[39]⟩ * 2 ≤ _; omega))
      have HR := Lib.hid (show Lib.replaceAll v.s.data.toList (⟨#[39]⟩ : ByteArray).data.toList (⟨#[39, 39]⟩ : ByteArray).data.toList = dblQ v.s.data.toList from replace_dbl _)
      rw [HR.out] at TR
      have hdl := dblQ_len v.s.data.toList
      have hsz : v.s.data.toList.length = v.s.size := rfl
      have hs40 := HSZ.out
      rw [E.out]
      generalize dblQ v.s.data.toList = D at TR hdl ⊢
      clear h1 h2 E hn hm1 hm2 hcb HR
      go_enter Tryz.func32, Tryz.ntmps32
      go_wp2_with (first | rw [HW.out])
      refine (T.out).mono ?_
      rintro e w1 ⟨rfl, hb1⟩
      have HB1 := Lib.hid hb1
      have k2 := (hb1.cell (p := ⟨w.heap.size, 2, none⟩) HLT.out).trans c2
      have k0 := (hb1.cell (p := ⟨w.heap.size, 0, none⟩) HLT.out).trans c0
      clear hb1
      go_wp2_with fail
      refine (TR.out w1 HB1.out).mono ?_
      rintro e w2 ⟨rfl, hb2⟩
      have HB2 := Lib.hid (below_step HB0.out (below_step HB1.out hb2))
      clear hb2
      go_wp2_with fail
      go_ret2
      exact ⟨congrArg (fun s => Ending.returned (.tuple #[.string s, .nilIface])) ((congrArg (· ++ (⟨[39].toArray⟩ : ByteArray)) (bytes_app [39] D)).trans (bytes_app (39 :: D) [39])), HB2.out⟩
  · unfold PrintSays
    rw [if_neg hc, errV_ne hc]
    rw [errV_ne hc] at T
    clear hc hn
    go_enter Tryz.func32, Tryz.ntmps32
    go_wp2_with (first | rw [HW.out])
    refine (T.out).mono ?_
    rintro e w1 ⟨rfl, hb1⟩
    have HB1 := Lib.hid (below_step HB0.out hb1)
    clear hb1
    go_wp2_with fail
    go_ret2
    exact ⟨rfl, HB1.out⟩
end Go.Proofs.YtpbbkpfaphjdoaaGreatDoor
