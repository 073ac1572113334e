/- Values among the words, plain: what is known of one that is a value, and of one that is none; the expressions that are made of a value, of a name. tree.Reader's primary, walked: brackets, len, if, a value, a name. -/
import Derived.Test.YtpbbkpfaphjdoaaGreatDoorRdGo
import Derived.Test.YtpbbkpfaphjdoaaGreatDoorNumLaw
import Derived.Test.YtpbbkpfaphjdoaaGreatDoorRdCallGo
namespace Go.Proofs.YtpbbkpfaphjdoaaGreatDoor
open Go.ChangeShapes Go.WideShapes Go.ChangeAt Go.RowKit

theorem vcheck_s40 {v : Val} (h : vcheck v = 0) : v.s.size ≤ 40 := by
  have nil : v.s.data.toList = [] → v.s.size ≤ 40 := fun e => by
    have e2 : v.s.size = v.s.data.toList.length := rfl
    rw [e2, e]; exact Nat.zero_le _
  unfold vcheck at h
  split at h
  · split at h
    · rename_i hx; exact nil hx
    · cases h
  · split at h
    · split at h
      · split at h
        · rename_i hx; exact nil hx
        · cases h
      · cases h
    · split at h
      · split at h
        · cases h
        · rename_i hx; omega
      · cases h
theorem readP_wf {l : List UInt8} (h : (readP l).2 = 0) : (readP l).1.wf := by
  obtain ⟨h1, -, h3, h4⟩ := show_read (l := l) (v := (readP l).1) (Prod.ext rfl h)
  have := vcheck_s40 h1
  unfold fitsN at h3 h4
  refine ⟨?_, ?_, ?_⟩
  · unfold fits lo63 hi63; omega
  · unfold fits lo63 hi63; omega
  · unfold maxLen; omega
theorem read_words (l : List UInt8) (h : l = tTrue ∨ l = tFalse) : (readP l).2 = 0 := by
  rcases h with rfl | rfl <;> rfl
section
variable {T : List Tok} {E : Nat}
theorem val_some (hW : Words T E) {i : Nat} {v : Val} (h : valT T i = some v) : i < T.length ∧ v = (readP (textT T i)).1 ∧ (readP (textT T i)).2 = 0 ∧ (textT T i).length ≤ 400 ∧
    (kindT T i = 2 ∨ (kindT T i ≠ 2 ∧ kindT T i = 3) ∨ (kindT T i ≠ 2 ∧ kindT T i ≠ 3 ∧ isT T i tTrue = true) ∨ (kindT T i ≠ 2 ∧ kindT T i ≠ 3 ∧ isT T i tTrue = false ∧ isT T i tFalse = true)) := by
  unfold valT at h
  cases ht : T[i]? with
  | none => rw [ht] at h; cases h
  | some t =>
    rw [ht] at h
    have hm := List.mem_of_getElem? ht
    have e1 : textT T i = t.text := by unfold textT; rw [ht]
    have e2 : kindT T i = t.kind := by unfold kindT; rw [ht]
    rw [isT_eq, isT_eq, e1, e2]
    simp only at h
    split at h
    · rename_i hx
      injection h with h
      refine ⟨(List.getElem?_eq_some_iff.1 ht).1, h.symm, ?_, hW.text t hm, ?_⟩
      · rcases hx with hx | hx | ⟨_, hx⟩
        · exact hW.val t hm (Or.inl hx)
        · exact hW.val t hm (Or.inr hx)
        · exact read_words _ hx
      · rcases hx with hx | hx | ⟨h1, hx⟩
        · exact Or.inl hx
        · exact Or.inr (Or.inl ⟨by omega, hx⟩)
        · have k2 : t.kind ≠ 2 := by omega
          have k3 : t.kind ≠ 3 := by omega
          rcases hx with hx | hx
          · exact Or.inr (Or.inr (Or.inl ⟨k2, k3, by rw [h1, hx]; rfl⟩))
          · exact Or.inr (Or.inr (Or.inr ⟨k2, k3, by rw [h1, hx]; rfl, by rw [h1, hx]; rfl⟩))
    · cases h
theorem val_none (hW : Words T E) {i : Nat} (h : valT T i = none) : kindT T i ≠ 2 ∧ kindT T i ≠ 3 ∧ isT T i tTrue = false ∧ isT T i tFalse = false := by
  unfold valT at h
  cases ht : T[i]? with
  | none =>
    have e2 : kindT T i = 0 := by unfold kindT; rw [ht]
    rw [isT_eq, isT_eq, e2]
    exact ⟨by decide, by decide, rfl, rfl⟩
  | some t =>
    rw [ht] at h
    have hm := List.mem_of_getElem? ht
    have e1 : textT T i = t.text := by unfold textT; rw [ht]
    have e2 : kindT T i = t.kind := by unfold kindT; rw [ht]
    simp only at h
    split at h
    · cases h
    · rename_i hx
      have no : ∀ u, u = tTrue ∨ u = tFalse → isT T i u = false := by
        intro u hu
        cases hh : isT T i u with
        | false => rfl
        | true =>
          obtain ⟨t', ht', hk, htx⟩ := isT_some hh
          rw [ht] at ht'
          injection ht' with ht'
          subst ht'
          rcases hk with hk | hk
          · have := hW.sign t hm hk
            rw [htx] at this
            rcases hu with rfl | rfl
            · exact absurd this (by decide)
            · exact absurd this (by decide)
          · exact absurd (Or.inr (Or.inr ⟨hk, by rw [htx]; exact hu⟩)) hx
      rw [e2]
      exact ⟨fun e => hx (Or.inl e), fun e => hx (Or.inr (Or.inl e)), no _ (Or.inl rfl), no _ (Or.inr rfl)⟩
end
theorem built_val (v : Val) (pos : Int) : Tryz.prog.built 26 [(0, Value.string ⟨#[118, 97, 108]⟩), (2, .agg #[.int .i64 v.type, .int .i64 v.n, .string v.s]), (4, .int .i64 pos)] = some #[.string ⟨#[118, 97, 108]⟩, .string ⟨#[]⟩, .int .i64 v.type, .int .i64 v.n, .string v.s, .slice none 0 0, .int .i64 pos] := by kernel_rfl
theorem run_val (v : Val) (pos : Int) (w : World) : (Instr.build 26 #[(0, .string ⟨#[118, 97, 108]⟩), (2, .agg #[.int .i64 v.type, .int .i64 v.n, .string v.s]), (4, .int .i64 pos)]).run Tryz.prog w = .ok (.agg #[.string ⟨#[118, 97, 108]⟩, .string ⟨#[]⟩, .int .i64 v.type, .int .i64 v.n, .string v.s, .slice none 0 0, .int .i64 pos]) w :=
  run_build w _ _ _ (built_val v pos)
theorem built_col (s : ByteArray) (pos : Int) : Tryz.prog.built 26 [(0, Value.string ⟨#[99, 111, 108]⟩), (1, .string s), (4, .int .i64 pos)] = some #[.string ⟨#[99, 111, 108]⟩, .string s, .int .i64 0, .int .i64 0, .string ⟨#[]⟩, .slice none 0 0, .int .i64 pos] := by kernel_rfl
theorem run_col (s : ByteArray) (pos : Int) (w : World) : (Instr.build 26 #[(0, .string ⟨#[99, 111, 108]⟩), (1, .string s), (4, .int .i64 pos)]).run Tryz.prog w = .ok (.agg #[.string ⟨#[99, 111, 108]⟩, .string s, .int .i64 0, .int .i64 0, .string ⟨#[]⟩, .slice none 0 0, .int .i64 pos]) w :=
  run_build w _ _ _ (built_col s pos)
/-- An expression without parts. -/
theorem seesS_leaf {S : Nat → Prop} {w : World} {op name : ByteArray} {v : Val} {pos : Int} (ho : op.size ≤ 400) (hn : name.size ≤ 400) (hv : v.wf) (hp : fits pos) : SeesS S w (.mk op name v none 0 [] pos) :=
  .mk (Sees.nil w 7) (fun g o e _ => by cases e) (show op.size ≤ maxLen by unfold maxLen; omega) (show name.size ≤ maxLen by unfold maxLen; omega) hv hp (fun a ha => by cases ha)
end Go.Proofs.YtpbbkpfaphjdoaaGreatDoor
namespace Go.Proofs.YtpbbkpfaphjdoaaGreatDoor
open Go.ChangeShapes Go.WideShapes Go.ChangeAt Go.RowKit
set_option maxHeartbeats 4000000 in
set_option maxRecDepth 100000 in
theorem pr_par {T : List Tok} {E : Nat} (hW : Words T E) {i : Nat} (h : isT T i wOpen = true) {r r1 : PR} (wB w : World) (rb : Nat) (A : Option Addr) (c : Nat) (hR : RdAt T E w rb A c i) (hE : Env wB w rb)
    (IH : ∀ w' : World, RdAt T E w' rb A c (i + 1) → Env wB w' rb → Calls Tryz.prog 82 #[.pointer (some ⟨rb, 0, none⟩)] w' (RSays T E rb A c w' r1))
    (hok : ∀ x j, r1 = .ok (x, j) → j ≤ T.length ∧ (isT T j wClose = true ∧ r = .ok (x, j + 1) ∨ isT T j wClose = false ∧ r = .error (atT T E j)))
    (herr : ∀ k, r1 = .error k → r = .error k) :
    Calls Tryz.prog 233 #[.pointer (some ⟨rb, 0, none⟩)] w (RSays T E rb A c w r) := by
  obtain ⟨w0, hw0, ho0, hb0⟩ := box_zeroE w
  have HO0 := Lib.hid ho0
  have HB0 := Lib.hid hb0
  have HW0 := Lib.hid hw0
  have T1 := Lib.hid (peek_any (hR.keep hb0) hW)
  have HR0 := Lib.hid (hR.keep hb0)
  have HWW := Lib.hid hW
  have HI := Lib.hid h
  have HE0 := Lib.hid (hE.keep hb0)
  have HEW := Lib.hid hE
  have HLT := Lib.hid hR.lt
  have HOLD := Lib.hid (show 0 < T.length → ∀ ad, A = some ad → ad.block < w.heap.size from hR.old)
  have HIH := Lib.hid IH
  clear IH
  have HOKX := Lib.hid hok
  clear hok
  have HERX := Lib.hid herr
  clear herr
  unfold PeekSays tokV at T1
  clear hW h hR hE hw0 ho0 hb0
  go_enter Tryz.func233, Tryz.ntmps233
  go_wp2_with (first | rw [HW0.out])
  refine (T1.out).mono ?_
  rintro e' w1 ⟨rfl, hb1⟩
  obtain ⟨w2, hw2⟩ : ∃ w2, w1.alloc (.cells #[.int .i64 (kindT T i), .string ⟨(textT T i).toArray⟩, .int .i64 (atT T E i)] 115) = w2 := ⟨_, rfl⟩
  have hb2 : Below w1.heap.size w1 w2 := by rw [← hw2]; exact belowNew' _ _
  have ho2 : Own3T w2 w1.heap.size (kindT T i) ⟨(textT T i).toArray⟩ (atT T E i) := by rw [← hw2]; exact own3t_new w1 _ _ _
  have h02 := below_step hb1 hb2
  have T2 := Lib.hid (has_any (HR0.out.keep h02) HWW.out ⟨#[40]⟩)
  rw [show isT T i (⟨#[40]⟩ : ByteArray).data.toList = true from HI.out] at T2
  have HO2 := Lib.hid ho2
  have HB2 := Lib.hid h02
  have HL1 := Lib.hid hb1.size
  have HW2 := Lib.hid hw2
  clear hb1 hb2 ho2 h02 hw2 T1
  go_wp2_with (first | rw [HW2.out])
  refine (T2.out).mono ?_
  rintro e' w3 ⟨rfl, hr3, hn3⟩
  have HR3 := Lib.hid (show RdAt T E w3 rb A c (i + 1) from hr3)
  have HN3 := Lib.hid ((Only.of_below (S := fun k => k = rb) (below_step HB0.out HB2.out)).trans hn3)
  have hne : w1.heap.size ≠ rb := by have := HR0.out.lt; have := HL1.out; omega
  have ho3 : Own3T w3 w1.heap.size (kindT T i) ⟨(textT T i).toArray⟩ (atT T E i) := (hn3.block _ HO2.out.lt hne).trans HO2.out
  have HT3 := Lib.hid ho3
  have hz3 : Own7 w3 w.heap.size zeroE := (hn3.block _ (HO0.out.keep HB2.out).lt (by have := HLT.out; omega)).trans (HO0.out.keep HB2.out)
  have HZ3 := Lib.hid hz3
  have HLW3 := Lib.hid (show w.heap.size < w3.heap.size from hz3.lt)
  have HNW := Lib.hid (show w.heap.size < w1.heap.size from Nat.lt_of_lt_of_le HO0.out.lt HL1.out)
  have HE3 := Lib.hid (show Env wB w3 rb from HE0.out.only ((Only.of_below HB2.out).trans hn3))
  clear hr3 hn3 hz3 ho3 T2
  have T3 := Lib.hid (HIH.out w3 HR3.out HE3.out)
  go_wp2_with fail
  refine (T3.out).mono ?_
  match r1, T3, HOKX, HERX with
  | .error k, T3, HOKX, HERX =>
    rintro e w5 ⟨rfl, hn5⟩
    have HF := Lib.hid (HN3.out.trans hn5)
    have HR := Lib.hid (HERX.out k rfl)
    clear hn5
    unfold wrongAt
    go_wp2_with fail
    rw [HR.out]
    exact ⟨rfl, rfl, HF.out⟩
  | .ok (x, jx), T3, HOKX, HERX =>
    rintro e w5 ⟨y, rfl, hsy, hst, hr5, hn5⟩
    have HC := Lib.hid (HOKX.out x jx rfl).2
    obtain ⟨w6, hw6, ho6, hb6, -⟩ := box_ex w5 y
    have HW6 := Lib.hid hw6
    have T4 := Lib.hid (need_any (hr5.keep hb6) HWW.out ⟨#[41]⟩)
    have HSY := Lib.hid (hsy.keep (.of_below hb6))
    have HSL := Lib.hid (seesS_lt2 hsy)
    have HST := Lib.hid hst
    have HN6 := Lib.hid ((HN3.out.trans hn5).trans (.of_below hb6))
    have HZ6 := Lib.hid ((own7_only HZ3.out hn5 (by have := HLT.out; omega)).keep hb6)
    have HO6 := Lib.hid ho6
    have HL5 := Lib.hid (show rb < w5.heap.size ∧ w.heap.size < w3.heap.size from ⟨hr5.lt, HZ3.out.lt⟩)
    clear hw6 ho6 hb6 hsy hst hr5 hn5 T3
    unfold exV
    go_wp2_with (first | rw [HW6.out])
    refine (T4.out).mono ?_
    rintro e w7 (⟨hc, rfl, hr7, hn7⟩ | ⟨hc, rfl, hn7⟩)
    · have HR := Lib.hid (show r = .ok (x, jx + 1) from by
        rcases HC.out with ⟨_, h⟩ | ⟨h, _⟩
        · exact h
        · rw [show isT T jx wClose = true from hc] at h; cases h)
      have HR7 := Lib.hid hr7
      have HN7 := Lib.hid (HN6.out.trans hn7)
      have HZ7 := Lib.hid (own7_only HZ6.out hn7 (by have := HLT.out; omega))
      have HO7 := Lib.hid (own7_only HO6.out hn7 (fun e => by have := HL5.out.1; have e' : w5.heap.size = rb := e; omega))
      have HSY7 := Lib.hid (HSY.out.keep (alike_only2 hn7 (fun b hb e => by have hb' : w3.heap.size ≤ b := hb; have e' : b = rb := e; have := HL5.out.2; have := HLT.out; omega)))
      obtain ⟨t0, t1, t2, t3, t4, t5, t6⟩ := HO7.out.cells
      have hl7 := HO7.out.lt
      clear hc hr7 hn7 T4 HC
      go_wp2_with (first
        | (refine wpList_put7 rfl (.tmp 2) (.tmp 16) rfl (X := y) HZ7.out rfl (by rfl) ?_; intro w8 hz8 ho8; have HZ8 := Lib.hid hz8; have HO8 := Lib.hid ho8; clear hz8 ho8))
      obtain ⟨o0, o1, o2, o3, o4, o5, o6⟩ := HZ8.out.cells
      refine bodyPost_ret (v := exV y) ?_ rfl ?_
      · simp [results, Tryz.results233, go_sem, o0, o1, o2, o3, o4, o5, o6, exV]
      · rw [HR.out]
        exact says_put HN7.out HR7.out HSY7.out (fun b hb => by have := HL5.out.2; have hb' : w3.heap.size ≤ b := hb; exact ⟨by omega, by omega⟩) HST.out HO8.out rfl HLT.out HOLD.out
    · have HR := Lib.hid (show r = .error (atT T E jx) from by
        rcases HC.out with ⟨h, _⟩ | ⟨_, h⟩
        · rw [show isT T jx wClose = false from hc] at h; cases h
        · exact h)
      have HF := Lib.hid (HN6.out.trans hn7)
      clear hc hn7 T4 HC
      unfold wrongAt
      go_wp2_with fail
      rw [HR.out]
      exact ⟨rfl, rfl, HF.out⟩
set_option maxHeartbeats 4000000 in
set_option maxRecDepth 100000 in
theorem pr_len {T : List Tok} {E : Nat} (hW : Words T E) {i : Nat} (h : isT T i wOpen = false) (hl : isT T i wLen = true) {r1 : PR} (wB w : World) (rb : Nat) (A : Option Addr) (c : Nat) (hR : RdAt T E w rb A c i) (hE : Env wB w rb)
    (IH : ∀ w' : World, RdAt T E w' rb A c (i) → Env wB w' rb → Calls Tryz.prog 260 #[.pointer (some ⟨rb, 0, none⟩), .int .i64 1] w' (RSays T E rb A c w' r1)) :
    Calls Tryz.prog 233 #[.pointer (some ⟨rb, 0, none⟩)] w (RSays T E rb A c w r1) := by
  obtain ⟨w0, hw0, ho0, hb0⟩ := box_zeroE w
  have HO0 := Lib.hid ho0
  have HB0 := Lib.hid hb0
  have HW0 := Lib.hid hw0
  have T1 := Lib.hid (peek_any (hR.keep hb0) hW)
  have HR0 := Lib.hid (hR.keep hb0)
  have HWW := Lib.hid hW
  have HI := Lib.hid h
  have HE0 := Lib.hid (hE.keep hb0)
  have HEW := Lib.hid hE
  have HLT := Lib.hid hR.lt
  have HOLD := Lib.hid (show 0 < T.length → ∀ ad, A = some ad → ad.block < w.heap.size from hR.old)
  have HIH := Lib.hid IH
  clear IH
  have HLN := Lib.hid hl
  clear hl
  unfold PeekSays tokV at T1
  clear hW h hR hE hw0 ho0 hb0
  go_enter Tryz.func233, Tryz.ntmps233
  go_wp2_with (first | rw [HW0.out])
  refine (T1.out).mono ?_
  rintro e' w1 ⟨rfl, hb1⟩
  obtain ⟨w2, hw2⟩ : ∃ w2, w1.alloc (.cells #[.int .i64 (kindT T i), .string ⟨(textT T i).toArray⟩, .int .i64 (atT T E i)] 115) = w2 := ⟨_, rfl⟩
  have hb2 : Below w1.heap.size w1 w2 := by rw [← hw2]; exact belowNew' _ _
  have ho2 : Own3T w2 w1.heap.size (kindT T i) ⟨(textT T i).toArray⟩ (atT T E i) := by rw [← hw2]; exact own3t_new w1 _ _ _
  have h02 := below_step hb1 hb2
  have T2 := Lib.hid (has_any (HR0.out.keep h02) HWW.out ⟨#[40]⟩)
  rw [show isT T i (⟨#[40]⟩ : ByteArray).data.toList = false from HI.out] at T2
  have HO2 := Lib.hid ho2
  have HB2 := Lib.hid h02
  have HL1 := Lib.hid hb1.size
  have HW2 := Lib.hid hw2
  clear hb1 hb2 ho2 h02 hw2 T1
  go_wp2_with (first | rw [HW2.out])
  refine (T2.out).mono ?_
  rintro e' w3 ⟨rfl, hr3, hn3⟩
  have HR3 := Lib.hid (show RdAt T E w3 rb A c (i) from hr3)
  have HN3 := Lib.hid ((Only.of_below (S := fun k => k = rb) (below_step HB0.out HB2.out)).trans hn3)
  have hne : w1.heap.size ≠ rb := by have := HR0.out.lt; have := HL1.out; omega
  have ho3 : Own3T w3 w1.heap.size (kindT T i) ⟨(textT T i).toArray⟩ (atT T E i) := (hn3.block _ HO2.out.lt hne).trans HO2.out
  have HT3 := Lib.hid ho3
  have hz3 : Own7 w3 w.heap.size zeroE := (hn3.block _ (HO0.out.keep HB2.out).lt (by have := HLT.out; omega)).trans (HO0.out.keep HB2.out)
  have HZ3 := Lib.hid hz3
  have HLW3 := Lib.hid (show w.heap.size < w3.heap.size from hz3.lt)
  have HNW := Lib.hid (show w.heap.size < w1.heap.size from Nat.lt_of_lt_of_le HO0.out.lt HL1.out)
  have HE3 := Lib.hid (show Env wB w3 rb from HE0.out.only ((Only.of_below HB2.out).trans hn3))
  clear hr3 hn3 hz3 ho3 T2
  have TI4 := Lib.hid (is_any HR3.out HWW.out ⟨#[108, 101, 110]⟩)
  rw [show isT T i (⟨#[108, 101, 110]⟩ : ByteArray).data.toList = true from HLN.out] at TI4
  go_wp2_with fail
  refine (TI4.out).mono ?_
  rintro e' w4 ⟨rfl, hb4⟩
  have HR4 := Lib.hid (HR3.out.keep hb4)
  have HN4 := Lib.hid (HN3.out.trans (.of_below hb4))
  have HZ4 := Lib.hid (HZ3.out.keep hb4)
  have HE4 := Lib.hid (HE3.out.keep hb4)
  have HT4 := Lib.hid (HT3.out.keep hb4)
  clear hb4 TI4
  have T5 := Lib.hid (HIH.out w4 HR4.out HE4.out)
  go_wp2_with fail
  refine (T5.out).mono ?_
  match r1, T5 with
  | .error k, T5 =>
    rintro e wk ⟨rfl, hnk⟩
    have HF := Lib.hid (HN4.out.trans hnk)
    clear hnk
    unfold wrongAt
    go_wp2_with fail
    exact ⟨rfl, rfl, HF.out⟩
  | .ok (x, jx), T5 =>
    rintro e wk ⟨y, rfl, hsy, hst, hrk, hnk⟩
    have HSY := Lib.hid hsy
    have HST := Lib.hid hst
    have HRK := Lib.hid hrk
    have HNK := Lib.hid (HN4.out.trans hnk)
    have HZZ := Lib.hid (own7_only HZ4.out hnk (by have := HLT.out; omega))
    have HSZ := Lib.hid (show w.heap.size < w4.heap.size from HZ4.out.lt)
    clear hsy hst hrk hnk
    go_wp2_with (first
      | (refine wpList_put7 rfl (.tmp 2) (.tmp 21) rfl (X := y) HZZ.out rfl (by rfl) ?_; intro wl hzl hol; have HZL := Lib.hid hzl; have HOL := Lib.hid hol; clear hzl hol))
    obtain ⟨o0, o1, o2, o3, o4, o5, o6⟩ := HZL.out.cells
    refine bodyPost_ret (v := exV y) ?_ rfl ?_
    · simp [results, Tryz.results233, go_sem, o0, o1, o2, o3, o4, o5, o6, exV]
    · exact says_put HNK.out HRK.out HSY.out (fun b hb => by have := HSZ.out; have hb' : w4.heap.size ≤ b := hb; exact ⟨by omega, by omega⟩) HST.out HOL.out rfl HLT.out HOLD.out
set_option maxHeartbeats 4000000 in
set_option maxRecDepth 100000 in
theorem pr_if {T : List Tok} {E : Nat} (hW : Words T E) {i : Nat} (h : isT T i wOpen = false) (hl : isT T i wLen = false) (hf : isT T i wIf = true) {r1 : PR} (wB w : World) (rb : Nat) (A : Option Addr) (c : Nat) (hR : RdAt T E w rb A c i) (hE : Env wB w rb)
    (IH : ∀ w' : World, RdAt T E w' rb A c (i) → Env wB w' rb → Calls Tryz.prog 260 #[.pointer (some ⟨rb, 0, none⟩), .int .i64 3] w' (RSays T E rb A c w' r1)) :
    Calls Tryz.prog 233 #[.pointer (some ⟨rb, 0, none⟩)] w (RSays T E rb A c w r1) := by
  obtain ⟨w0, hw0, ho0, hb0⟩ := box_zeroE w
  have HO0 := Lib.hid ho0
  have HB0 := Lib.hid hb0
  have HW0 := Lib.hid hw0
  have T1 := Lib.hid (peek_any (hR.keep hb0) hW)
  have HR0 := Lib.hid (hR.keep hb0)
  have HWW := Lib.hid hW
  have HI := Lib.hid h
  have HE0 := Lib.hid (hE.keep hb0)
  have HEW := Lib.hid hE
  have HLT := Lib.hid hR.lt
  have HOLD := Lib.hid (show 0 < T.length → ∀ ad, A = some ad → ad.block < w.heap.size from hR.old)
  have HIH := Lib.hid IH
  clear IH
  have HLN := Lib.hid hl
  clear hl
  have HIF := Lib.hid hf
  clear hf
  unfold PeekSays tokV at T1
  clear hW h hR hE hw0 ho0 hb0
  go_enter Tryz.func233, Tryz.ntmps233
  go_wp2_with (first | rw [HW0.out])
  refine (T1.out).mono ?_
  rintro e' w1 ⟨rfl, hb1⟩
  obtain ⟨w2, hw2⟩ : ∃ w2, w1.alloc (.cells #[.int .i64 (kindT T i), .string ⟨(textT T i).toArray⟩, .int .i64 (atT T E i)] 115) = w2 := ⟨_, rfl⟩
  have hb2 : Below w1.heap.size w1 w2 := by rw [← hw2]; exact belowNew' _ _
  have ho2 : Own3T w2 w1.heap.size (kindT T i) ⟨(textT T i).toArray⟩ (atT T E i) := by rw [← hw2]; exact own3t_new w1 _ _ _
  have h02 := below_step hb1 hb2
  have T2 := Lib.hid (has_any (HR0.out.keep h02) HWW.out ⟨#[40]⟩)
  rw [show isT T i (⟨#[40]⟩ : ByteArray).data.toList = false from HI.out] at T2
  have HO2 := Lib.hid ho2
  have HB2 := Lib.hid h02
  have HL1 := Lib.hid hb1.size
  have HW2 := Lib.hid hw2
  clear hb1 hb2 ho2 h02 hw2 T1
  go_wp2_with (first | rw [HW2.out])
  refine (T2.out).mono ?_
  rintro e' w3 ⟨rfl, hr3, hn3⟩
  have HR3 := Lib.hid (show RdAt T E w3 rb A c (i) from hr3)
  have HN3 := Lib.hid ((Only.of_below (S := fun k => k = rb) (below_step HB0.out HB2.out)).trans hn3)
  have hne : w1.heap.size ≠ rb := by have := HR0.out.lt; have := HL1.out; omega
  have ho3 : Own3T w3 w1.heap.size (kindT T i) ⟨(textT T i).toArray⟩ (atT T E i) := (hn3.block _ HO2.out.lt hne).trans HO2.out
  have HT3 := Lib.hid ho3
  have hz3 : Own7 w3 w.heap.size zeroE := (hn3.block _ (HO0.out.keep HB2.out).lt (by have := HLT.out; omega)).trans (HO0.out.keep HB2.out)
  have HZ3 := Lib.hid hz3
  have HLW3 := Lib.hid (show w.heap.size < w3.heap.size from hz3.lt)
  have HNW := Lib.hid (show w.heap.size < w1.heap.size from Nat.lt_of_lt_of_le HO0.out.lt HL1.out)
  have HE3 := Lib.hid (show Env wB w3 rb from HE0.out.only ((Only.of_below HB2.out).trans hn3))
  clear hr3 hn3 hz3 ho3 T2
  have TI4 := Lib.hid (is_any HR3.out HWW.out ⟨#[108, 101, 110]⟩)
  rw [show isT T i (⟨#[108, 101, 110]⟩ : ByteArray).data.toList = false from HLN.out] at TI4
  go_wp2_with fail
  refine (TI4.out).mono ?_
  rintro e' w4 ⟨rfl, hb4⟩
  have HR4 := Lib.hid (HR3.out.keep hb4)
  have HN4 := Lib.hid (HN3.out.trans (.of_below hb4))
  have HZ4 := Lib.hid (HZ3.out.keep hb4)
  have HE4 := Lib.hid (HE3.out.keep hb4)
  have HT4 := Lib.hid (HT3.out.keep hb4)
  clear hb4 TI4
  have TI5 := Lib.hid (is_any HR4.out HWW.out ⟨#[105, 102]⟩)
  rw [show isT T i (⟨#[105, 102]⟩ : ByteArray).data.toList = true from HIF.out] at TI5
  go_wp2_with fail
  refine (TI5.out).mono ?_
  rintro e' w5 ⟨rfl, hb5⟩
  have HR5 := Lib.hid (HR4.out.keep hb5)
  have HN5 := Lib.hid (HN4.out.trans (.of_below hb5))
  have HZ5 := Lib.hid (HZ4.out.keep hb5)
  have HE5 := Lib.hid (HE4.out.keep hb5)
  have HT5 := Lib.hid (HT4.out.keep hb5)
  clear hb5 TI5
  have T5 := Lib.hid (HIH.out w5 HR5.out HE5.out)
  go_wp2_with fail
  refine (T5.out).mono ?_
  match r1, T5 with
  | .error k, T5 =>
    rintro e wk ⟨rfl, hnk⟩
    have HF := Lib.hid (HN5.out.trans hnk)
    clear hnk
    unfold wrongAt
    go_wp2_with fail
    exact ⟨rfl, rfl, HF.out⟩
  | .ok (x, jx), T5 =>
    rintro e wk ⟨y, rfl, hsy, hst, hrk, hnk⟩
    have HSY := Lib.hid hsy
    have HST := Lib.hid hst
    have HRK := Lib.hid hrk
    have HNK := Lib.hid (HN5.out.trans hnk)
    have HZZ := Lib.hid (own7_only HZ5.out hnk (by have := HLT.out; omega))
    have HSZ := Lib.hid (show w.heap.size < w5.heap.size from HZ5.out.lt)
    clear hsy hst hrk hnk
    go_wp2_with (first
      | (refine wpList_put7 rfl (.tmp 2) (.tmp 26) rfl (X := y) HZZ.out rfl (by rfl) ?_; intro wl hzl hol; have HZL := Lib.hid hzl; have HOL := Lib.hid hol; clear hzl hol))
    obtain ⟨o0, o1, o2, o3, o4, o5, o6⟩ := HZL.out.cells
    refine bodyPost_ret (v := exV y) ?_ rfl ?_
    · simp [results, Tryz.results233, go_sem, o0, o1, o2, o3, o4, o5, o6, exV]
    · exact says_put HNK.out HRK.out HSY.out (fun b hb => by have := HSZ.out; have hb' : w5.heap.size ≤ b := hb; exact ⟨by omega, by omega⟩) HST.out HOL.out rfl HLT.out HOLD.out
set_option maxHeartbeats 4000000 in
set_option maxRecDepth 100000 in
theorem pr_val {T : List Tok} {E : Nat} (hW : Words T E) {i : Nat} (h : isT T i wOpen = false) (hl : isT T i wLen = false) (hf : isT T i wIf = false) {v : Val} (hv : valT T i = some v)  (wB w : World) (rb : Nat) (A : Option Addr) (c : Nat) (hR : RdAt T E w rb A c i) (hE : Env wB w rb)
     :
    Calls Tryz.prog 233 #[.pointer (some ⟨rb, 0, none⟩)] w (RSays T E rb A c w (.ok (valEx v (atT T E i), i + 1))) := by
  have HWF := Lib.hid (show v.wf by have hx := val_some hW hv; rw [hx.2.1]; exact readP_wf hx.2.2.1)
  have hvs := val_some hW hv
  clear hv
  obtain ⟨w0, hw0, ho0, hb0⟩ := box_zeroE w
  have HO0 := Lib.hid ho0
  have HB0 := Lib.hid hb0
  have HW0 := Lib.hid hw0
  have T1 := Lib.hid (peek_any (hR.keep hb0) hW)
  have HR0 := Lib.hid (hR.keep hb0)
  have HWW := Lib.hid hW
  have HI := Lib.hid h
  have HE0 := Lib.hid (hE.keep hb0)
  have HEW := Lib.hid hE
  have HLT := Lib.hid hR.lt
  have HOLD := Lib.hid (show 0 < T.length → ∀ ad, A = some ad → ad.block < w.heap.size from hR.old)
  have HLN := Lib.hid hl
  clear hl
  have HIF := Lib.hid hf
  clear hf
  have HV := Lib.hid hvs
  clear hvs
  unfold PeekSays tokV at T1
  clear hW h hR hE hw0 ho0 hb0
  go_enter Tryz.func233, Tryz.ntmps233
  go_wp2_with (first | rw [HW0.out])
  refine (T1.out).mono ?_
  rintro e' w1 ⟨rfl, hb1⟩
  obtain ⟨w2, hw2⟩ : ∃ w2, w1.alloc (.cells #[.int .i64 (kindT T i), .string ⟨(textT T i).toArray⟩, .int .i64 (atT T E i)] 115) = w2 := ⟨_, rfl⟩
  have hb2 : Below w1.heap.size w1 w2 := by rw [← hw2]; exact belowNew' _ _
  have ho2 : Own3T w2 w1.heap.size (kindT T i) ⟨(textT T i).toArray⟩ (atT T E i) := by rw [← hw2]; exact own3t_new w1 _ _ _
  have h02 := below_step hb1 hb2
  have T2 := Lib.hid (has_any (HR0.out.keep h02) HWW.out ⟨#[40]⟩)
  rw [show isT T i (⟨#[40]⟩ : ByteArray).data.toList = false from HI.out] at T2
  have HO2 := Lib.hid ho2
  have HB2 := Lib.hid h02
  have HL1 := Lib.hid hb1.size
  have HW2 := Lib.hid hw2
  clear hb1 hb2 ho2 h02 hw2 T1
  go_wp2_with (first | rw [HW2.out])
  refine (T2.out).mono ?_
  rintro e' w3 ⟨rfl, hr3, hn3⟩
  have HR3 := Lib.hid (show RdAt T E w3 rb A c (i) from hr3)
  have HN3 := Lib.hid ((Only.of_below (S := fun k => k = rb) (below_step HB0.out HB2.out)).trans hn3)
  have hne : w1.heap.size ≠ rb := by have := HR0.out.lt; have := HL1.out; omega
  have ho3 : Own3T w3 w1.heap.size (kindT T i) ⟨(textT T i).toArray⟩ (atT T E i) := (hn3.block _ HO2.out.lt hne).trans HO2.out
  have HT3 := Lib.hid ho3
  have hz3 : Own7 w3 w.heap.size zeroE := (hn3.block _ (HO0.out.keep HB2.out).lt (by have := HLT.out; omega)).trans (HO0.out.keep HB2.out)
  have HZ3 := Lib.hid hz3
  have HLW3 := Lib.hid (show w.heap.size < w3.heap.size from hz3.lt)
  have HNW := Lib.hid (show w.heap.size < w1.heap.size from Nat.lt_of_lt_of_le HO0.out.lt HL1.out)
  have HE3 := Lib.hid (show Env wB w3 rb from HE0.out.only ((Only.of_below HB2.out).trans hn3))
  clear hr3 hn3 hz3 ho3 T2
  have TI4 := Lib.hid (is_any HR3.out HWW.out ⟨#[108, 101, 110]⟩)
  rw [show isT T i (⟨#[108, 101, 110]⟩ : ByteArray).data.toList = false from HLN.out] at TI4
  go_wp2_with fail
  refine (TI4.out).mono ?_
  rintro e' w4 ⟨rfl, hb4⟩
  have HR4 := Lib.hid (HR3.out.keep hb4)
  have HN4 := Lib.hid (HN3.out.trans (.of_below hb4))
  have HZ4 := Lib.hid (HZ3.out.keep hb4)
  have HE4 := Lib.hid (HE3.out.keep hb4)
  have HT4 := Lib.hid (HT3.out.keep hb4)
  clear hb4 TI4
  have TI5 := Lib.hid (is_any HR4.out HWW.out ⟨#[105, 102]⟩)
  rw [show isT T i (⟨#[105, 102]⟩ : ByteArray).data.toList = false from HIF.out] at TI5
  go_wp2_with fail
  refine (TI5.out).mono ?_
  rintro e' w5 ⟨rfl, hb5⟩
  have HR5 := Lib.hid (HR4.out.keep hb5)
  have HN5 := Lib.hid (HN4.out.trans (.of_below hb5))
  have HZ5 := Lib.hid (HZ4.out.keep hb5)
  have HE5 := Lib.hid (HE4.out.keep hb5)
  have HT5 := Lib.hid (HT4.out.keep hb5)
  clear hb5 TI5
  have HNE := Lib.hid (show w1.heap.size ≠ rb from hne)
  clear hne
  have hway := HV.out.2.2.2.2
  rcases hway with hk | ⟨hk2, hk⟩ | ⟨hk2, hk3, hk⟩ | ⟨hk2, hk3, hkt, hk⟩
  · have g2 : (kindT T i == 2) = true := beq_iff_eq.2 hk
    clear hk
    obtain ⟨d0, d1, d2⟩ := HT5.out.cells
    have ltk := HT5.out.lt
    have T7 := Lib.hid (take_any HR5.out HWW.out HV.out.1)
    unfold TakeSays tokV at T7
    go_wp2_with fail
    refine (T7.out).mono ?_
    rintro e' w7 ⟨rfl, hr7, hn7⟩
    have hrd7 := hr7
    have T8 := Lib.hid (parse_any ⟨(textT T i).toArray⟩ (by have := HV.out.2.2.2.1; have e : (⟨(textT T i).toArray⟩ : ByteArray).size = (textT T i).length := rfl; omega) w7 ((HE5.out.only hn7).text.keep (HE5.out.only hn7).below) ((HE5.out.only hn7).num.keep (HE5.out.only hn7).below))
    unfold ParseSays at T8
    replace T8 : Hid (Calls Tryz.prog 36 #[.string ⟨(textT T i).toArray⟩] w7 fun e w' => e = .returned (.tuple #[.agg #[.int .i64 v.type, .int .i64 v.n, .string v.s], .nilIface]) ∧ Below w7.heap.size w7 w') := by
      have h1 : (readP (⟨(textT T i).toArray⟩ : ByteArray).data.toList).1 = v := HV.out.2.1.symm
      have h2 : (readP (⟨(textT T i).toArray⟩ : ByteArray).data.toList).2 = 0 := HV.out.2.2.1
      rw [h1, h2] at T8
      exact T8
    have ft := field_text (kindT T i) ⟨(textT T i).toArray⟩ (atT T E i)
    have HR7 := Lib.hid hrd7
    have HN7 := Lib.hid (HN5.out.trans hn7)
    have HZ7 := Lib.hid (own7_only HZ5.out hn7 (by have := HLT.out; omega))
    have HTT := Lib.hid ((hn7.block _ HT5.out.lt HNE.out).trans HT5.out)
    clear hr7 hn7 T7 hrd7
    go_wp2_with fail
    refine (T8.out).mono ?_
    rintro e' w8 ⟨rfl, hb8⟩
    obtain ⟨w9, hw9⟩ : ∃ w9, w8.alloc (.cells #[.int .i64 v.type, .int .i64 v.n, .string v.s] 23) = w9 := ⟨_, rfl⟩
    have hb9 : Below w8.heap.size w8 w9 := by rw [← hw9]; exact belowNew' _ _
    have ho9 : w9.heap[w8.heap.size]? = some (.cells #[.int .i64 v.type, .int .i64 v.n, .string v.s] 23 (0, 0)) := by rw [← hw9]; exact heap_alloc_new w8 _
    have hb79 := below_step hb8 hb9
    have HR9 := Lib.hid (HR7.out.keep hb79)
    have HN9 := Lib.hid (HN7.out.trans (.of_below hb79))
    have HZ9 := Lib.hid (HZ7.out.keep hb79)
    have HT9 := Lib.hid (Own3T.keep HTT.out hb79)
    have HW9 := Lib.hid hw9
    obtain ⟨v0, v1, v2⟩ := box3 ho9
    obtain ⟨d0, d1, d2⟩ := HT9.out.cells
    have ltk := HT9.out.lt
    have ltv : w8.heap.size < w9.heap.size := (Array.getElem?_eq_some_iff.1 ho9).1
    have bd := run_val v (atT T E i)
    clear hw9 hb8 hb9 hb79 ho9 T8 ft
    go_wp2_with (first
      | rw [HW9.out]
      | (refine wpList_put7 rfl (.tmp 2) (.tmp 60) rfl (X := .mk ⟨#[118, 97, 108]⟩ ⟨#[]⟩ v none 0 [] (atT T E i)) HZ9.out rfl (by rfl) ?_; intro wl hzl hol; have HZL := Lib.hid hzl; have HOL := Lib.hid hol; clear hzl hol))
    obtain ⟨o0, o1, o2, o3, o4, o5, o6⟩ := HZL.out.cells
    refine bodyPost_ret (v := exV (.mk ⟨#[118, 97, 108]⟩ ⟨#[]⟩ v none 0 [] (atT T E i))) ?_ rfl ?_
    · simp [results, Tryz.results233, go_sem, o0, o1, o2, o3, o4, o5, o6, exV]
    · exact says_put (x := valEx v (atT T E i)) HN9.out HR9.out (seesS_leaf (S := fun _ => False) (op := ⟨#[118, 97, 108]⟩) (name := ⟨#[]⟩) (show 3 ≤ 400 by decide) (Nat.zero_le _) HWF.out (fits_at HWW.out i)) (fun b hb => hb.elim) (by rw [strip_mk]; rfl) HOL.out rfl HLT.out HOLD.out
  · have g2 : (kindT T i == 2) = false := beq_eq_false_iff_ne.2 hk2
    have g3 : (kindT T i == 3) = true := beq_iff_eq.2 hk
    clear hk hk2
    obtain ⟨d0, d1, d2⟩ := HT5.out.cells
    have ltk := HT5.out.lt
    have T7 := Lib.hid (take_any HR5.out HWW.out HV.out.1)
    unfold TakeSays tokV at T7
    go_wp2_with fail
    refine (T7.out).mono ?_
    rintro e' w7 ⟨rfl, hr7, hn7⟩
    have hrd7 := hr7
    have T8 := Lib.hid (parse_any ⟨(textT T i).toArray⟩ (by have := HV.out.2.2.2.1; have e : (⟨(textT T i).toArray⟩ : ByteArray).size = (textT T i).length := rfl; omega) w7 ((HE5.out.only hn7).text.keep (HE5.out.only hn7).below) ((HE5.out.only hn7).num.keep (HE5.out.only hn7).below))
    unfold ParseSays at T8
    replace T8 : Hid (Calls Tryz.prog 36 #[.string ⟨(textT T i).toArray⟩] w7 fun e w' => e = .returned (.tuple #[.agg #[.int .i64 v.type, .int .i64 v.n, .string v.s], .nilIface]) ∧ Below w7.heap.size w7 w') := by
      have h1 : (readP (⟨(textT T i).toArray⟩ : ByteArray).data.toList).1 = v := HV.out.2.1.symm
      have h2 : (readP (⟨(textT T i).toArray⟩ : ByteArray).data.toList).2 = 0 := HV.out.2.2.1
      rw [h1, h2] at T8
      exact T8
    have ft := field_text (kindT T i) ⟨(textT T i).toArray⟩ (atT T E i)
    have HR7 := Lib.hid hrd7
    have HN7 := Lib.hid (HN5.out.trans hn7)
    have HZ7 := Lib.hid (own7_only HZ5.out hn7 (by have := HLT.out; omega))
    have HTT := Lib.hid ((hn7.block _ HT5.out.lt HNE.out).trans HT5.out)
    clear hr7 hn7 T7 hrd7
    go_wp2_with fail
    refine (T8.out).mono ?_
    rintro e' w8 ⟨rfl, hb8⟩
    obtain ⟨w9, hw9⟩ : ∃ w9, w8.alloc (.cells #[.int .i64 v.type, .int .i64 v.n, .string v.s] 23) = w9 := ⟨_, rfl⟩
    have hb9 : Below w8.heap.size w8 w9 := by rw [← hw9]; exact belowNew' _ _
    have ho9 : w9.heap[w8.heap.size]? = some (.cells #[.int .i64 v.type, .int .i64 v.n, .string v.s] 23 (0, 0)) := by rw [← hw9]; exact heap_alloc_new w8 _
    have hb79 := below_step hb8 hb9
    have HR9 := Lib.hid (HR7.out.keep hb79)
    have HN9 := Lib.hid (HN7.out.trans (.of_below hb79))
    have HZ9 := Lib.hid (HZ7.out.keep hb79)
    have HT9 := Lib.hid (Own3T.keep HTT.out hb79)
    have HW9 := Lib.hid hw9
    obtain ⟨v0, v1, v2⟩ := box3 ho9
    obtain ⟨d0, d1, d2⟩ := HT9.out.cells
    have ltk := HT9.out.lt
    have ltv : w8.heap.size < w9.heap.size := (Array.getElem?_eq_some_iff.1 ho9).1
    have bd := run_val v (atT T E i)
    clear hw9 hb8 hb9 hb79 ho9 T8 ft
    go_wp2_with (first
      | rw [HW9.out]
      | (refine wpList_put7 rfl (.tmp 2) (.tmp 60) rfl (X := .mk ⟨#[118, 97, 108]⟩ ⟨#[]⟩ v none 0 [] (atT T E i)) HZ9.out rfl (by rfl) ?_; intro wl hzl hol; have HZL := Lib.hid hzl; have HOL := Lib.hid hol; clear hzl hol))
    obtain ⟨o0, o1, o2, o3, o4, o5, o6⟩ := HZL.out.cells
    refine bodyPost_ret (v := exV (.mk ⟨#[118, 97, 108]⟩ ⟨#[]⟩ v none 0 [] (atT T E i))) ?_ rfl ?_
    · simp [results, Tryz.results233, go_sem, o0, o1, o2, o3, o4, o5, o6, exV]
    · exact says_put (x := valEx v (atT T E i)) HN9.out HR9.out (seesS_leaf (S := fun _ => False) (op := ⟨#[118, 97, 108]⟩) (name := ⟨#[]⟩) (show 3 ≤ 400 by decide) (Nat.zero_le _) HWF.out (fits_at HWW.out i)) (fun b hb => hb.elim) (by rw [strip_mk]; rfl) HOL.out rfl HLT.out HOLD.out
  · have g2 : (kindT T i == 2) = false := beq_eq_false_iff_ne.2 hk2
    have g3 : (kindT T i == 3) = false := beq_eq_false_iff_ne.2 hk3
    have HTR := Lib.hid hk
    clear hk hk2 hk3
    obtain ⟨d0, d1, d2⟩ := HT5.out.cells
    have ltk := HT5.out.lt
    have TI6 := Lib.hid (is_any HR5.out HWW.out ⟨#[116, 114, 117, 101]⟩)
    rw [show isT T i (⟨#[116, 114, 117, 101]⟩ : ByteArray).data.toList = true from HTR.out] at TI6
    go_wp2_with fail
    refine (TI6.out).mono ?_
    rintro e' w6 ⟨rfl, hb6⟩
    have HR6 := Lib.hid (HR5.out.keep hb6)
    have HN6 := Lib.hid (HN5.out.trans (.of_below hb6))
    have HZ6 := Lib.hid (HZ5.out.keep hb6)
    have HE6 := Lib.hid (HE5.out.keep hb6)
    have HT6 := Lib.hid (HT5.out.keep hb6)
    clear hb6 TI6
    have T7 := Lib.hid (take_any HR6.out HWW.out HV.out.1)
    unfold TakeSays tokV at T7
    go_wp2_with fail
    refine (T7.out).mono ?_
    rintro e' w7 ⟨rfl, hr7, hn7⟩
    have hrd7 := hr7
    have T8 := Lib.hid (parse_any ⟨(textT T i).toArray⟩ (by have := HV.out.2.2.2.1; have e : (⟨(textT T i).toArray⟩ : ByteArray).size = (textT T i).length := rfl; omega) w7 ((HE6.out.only hn7).text.keep (HE6.out.only hn7).below) ((HE6.out.only hn7).num.keep (HE6.out.only hn7).below))
    unfold ParseSays at T8
    replace T8 : Hid (Calls Tryz.prog 36 #[.string ⟨(textT T i).toArray⟩] w7 fun e w' => e = .returned (.tuple #[.agg #[.int .i64 v.type, .int .i64 v.n, .string v.s], .nilIface]) ∧ Below w7.heap.size w7 w') := by
      have h1 : (readP (⟨(textT T i).toArray⟩ : ByteArray).data.toList).1 = v := HV.out.2.1.symm
      have h2 : (readP (⟨(textT T i).toArray⟩ : ByteArray).data.toList).2 = 0 := HV.out.2.2.1
      rw [h1, h2] at T8
      exact T8
    have ft := field_text (kindT T i) ⟨(textT T i).toArray⟩ (atT T E i)
    have HR7 := Lib.hid hrd7
    have HN7 := Lib.hid (HN6.out.trans hn7)
    have HZ7 := Lib.hid (own7_only HZ6.out hn7 (by have := HLT.out; omega))
    have HTT := Lib.hid ((hn7.block _ HT6.out.lt HNE.out).trans HT6.out)
    clear hr7 hn7 T7 hrd7
    go_wp2_with fail
    refine (T8.out).mono ?_
    rintro e' w8 ⟨rfl, hb8⟩
    obtain ⟨w9, hw9⟩ : ∃ w9, w8.alloc (.cells #[.int .i64 v.type, .int .i64 v.n, .string v.s] 23) = w9 := ⟨_, rfl⟩
    have hb9 : Below w8.heap.size w8 w9 := by rw [← hw9]; exact belowNew' _ _
    have ho9 : w9.heap[w8.heap.size]? = some (.cells #[.int .i64 v.type, .int .i64 v.n, .string v.s] 23 (0, 0)) := by rw [← hw9]; exact heap_alloc_new w8 _
    have hb79 := below_step hb8 hb9
    have HR9 := Lib.hid (HR7.out.keep hb79)
    have HN9 := Lib.hid (HN7.out.trans (.of_below hb79))
    have HZ9 := Lib.hid (HZ7.out.keep hb79)
    have HT9 := Lib.hid (Own3T.keep HTT.out hb79)
    have HW9 := Lib.hid hw9
    obtain ⟨v0, v1, v2⟩ := box3 ho9
    obtain ⟨d0, d1, d2⟩ := HT9.out.cells
    have ltk := HT9.out.lt
    have ltv : w8.heap.size < w9.heap.size := (Array.getElem?_eq_some_iff.1 ho9).1
    have bd := run_val v (atT T E i)
    clear hw9 hb8 hb9 hb79 ho9 T8 ft
    go_wp2_with (first
      | rw [HW9.out]
      | (refine wpList_put7 rfl (.tmp 2) (.tmp 60) rfl (X := .mk ⟨#[118, 97, 108]⟩ ⟨#[]⟩ v none 0 [] (atT T E i)) HZ9.out rfl (by rfl) ?_; intro wl hzl hol; have HZL := Lib.hid hzl; have HOL := Lib.hid hol; clear hzl hol))
    obtain ⟨o0, o1, o2, o3, o4, o5, o6⟩ := HZL.out.cells
    refine bodyPost_ret (v := exV (.mk ⟨#[118, 97, 108]⟩ ⟨#[]⟩ v none 0 [] (atT T E i))) ?_ rfl ?_
    · simp [results, Tryz.results233, go_sem, o0, o1, o2, o3, o4, o5, o6, exV]
    · exact says_put (x := valEx v (atT T E i)) HN9.out HR9.out (seesS_leaf (S := fun _ => False) (op := ⟨#[118, 97, 108]⟩) (name := ⟨#[]⟩) (show 3 ≤ 400 by decide) (Nat.zero_le _) HWF.out (fits_at HWW.out i)) (fun b hb => hb.elim) (by rw [strip_mk]; rfl) HOL.out rfl HLT.out HOLD.out
  · have g2 : (kindT T i == 2) = false := beq_eq_false_iff_ne.2 hk2
    have g3 : (kindT T i == 3) = false := beq_eq_false_iff_ne.2 hk3
    have HTR := Lib.hid hkt
    have HFA := Lib.hid hk
    clear hk hk2 hk3 hkt
    obtain ⟨d0, d1, d2⟩ := HT5.out.cells
    have ltk := HT5.out.lt
    have TI6 := Lib.hid (is_any HR5.out HWW.out ⟨#[116, 114, 117, 101]⟩)
    rw [show isT T i (⟨#[116, 114, 117, 101]⟩ : ByteArray).data.toList = false from HTR.out] at TI6
    go_wp2_with fail
    refine (TI6.out).mono ?_
    rintro e' w6 ⟨rfl, hb6⟩
    have HR6 := Lib.hid (HR5.out.keep hb6)
    have HN6 := Lib.hid (HN5.out.trans (.of_below hb6))
    have HZ6 := Lib.hid (HZ5.out.keep hb6)
    have HE6 := Lib.hid (HE5.out.keep hb6)
    have HT6 := Lib.hid (HT5.out.keep hb6)
    clear hb6 TI6
    have TI7 := Lib.hid (is_any HR6.out HWW.out ⟨#[102, 97, 108, 115, 101]⟩)
    rw [show isT T i (⟨#[102, 97, 108, 115, 101]⟩ : ByteArray).data.toList = true from HFA.out] at TI7
    go_wp2_with fail
    refine (TI7.out).mono ?_
    rintro e' w6b ⟨rfl, hb7⟩
    have HR7 := Lib.hid (HR6.out.keep hb7)
    have HN7 := Lib.hid (HN6.out.trans (.of_below hb7))
    have HZ7 := Lib.hid (HZ6.out.keep hb7)
    have HE7 := Lib.hid (HE6.out.keep hb7)
    have HT7 := Lib.hid (HT6.out.keep hb7)
    clear hb7 TI7
    have T7 := Lib.hid (take_any HR7.out HWW.out HV.out.1)
    unfold TakeSays tokV at T7
    go_wp2_with fail
    refine (T7.out).mono ?_
    rintro e' w7 ⟨rfl, hr7, hn7⟩
    have hrd7 := hr7
    have T8 := Lib.hid (parse_any ⟨(textT T i).toArray⟩ (by have := HV.out.2.2.2.1; have e : (⟨(textT T i).toArray⟩ : ByteArray).size = (textT T i).length := rfl; omega) w7 ((HE7.out.only hn7).text.keep (HE7.out.only hn7).below) ((HE7.out.only hn7).num.keep (HE7.out.only hn7).below))
    unfold ParseSays at T8
    replace T8 : Hid (Calls Tryz.prog 36 #[.string ⟨(textT T i).toArray⟩] w7 fun e w' => e = .returned (.tuple #[.agg #[.int .i64 v.type, .int .i64 v.n, .string v.s], .nilIface]) ∧ Below w7.heap.size w7 w') := by
      have h1 : (readP (⟨(textT T i).toArray⟩ : ByteArray).data.toList).1 = v := HV.out.2.1.symm
      have h2 : (readP (⟨(textT T i).toArray⟩ : ByteArray).data.toList).2 = 0 := HV.out.2.2.1
      rw [h1, h2] at T8
      exact T8
    have ft := field_text (kindT T i) ⟨(textT T i).toArray⟩ (atT T E i)
    have HR7 := Lib.hid hrd7
    have HN7 := Lib.hid (HN7.out.trans hn7)
    have HZ7 := Lib.hid (own7_only HZ7.out hn7 (by have := HLT.out; omega))
    have HTT := Lib.hid ((hn7.block _ HT7.out.lt HNE.out).trans HT7.out)
    clear hr7 hn7 T7 hrd7
    go_wp2_with fail
    refine (T8.out).mono ?_
    rintro e' w8 ⟨rfl, hb8⟩
    obtain ⟨w9, hw9⟩ : ∃ w9, w8.alloc (.cells #[.int .i64 v.type, .int .i64 v.n, .string v.s] 23) = w9 := ⟨_, rfl⟩
    have hb9 : Below w8.heap.size w8 w9 := by rw [← hw9]; exact belowNew' _ _
    have ho9 : w9.heap[w8.heap.size]? = some (.cells #[.int .i64 v.type, .int .i64 v.n, .string v.s] 23 (0, 0)) := by rw [← hw9]; exact heap_alloc_new w8 _
    have hb79 := below_step hb8 hb9
    have HR9 := Lib.hid (HR7.out.keep hb79)
    have HN9 := Lib.hid (HN7.out.trans (.of_below hb79))
    have HZ9 := Lib.hid (HZ7.out.keep hb79)
    have HT9 := Lib.hid (Own3T.keep HTT.out hb79)
    have HW9 := Lib.hid hw9
    obtain ⟨v0, v1, v2⟩ := box3 ho9
    obtain ⟨d0, d1, d2⟩ := HT9.out.cells
    have ltk := HT9.out.lt
    have ltv : w8.heap.size < w9.heap.size := (Array.getElem?_eq_some_iff.1 ho9).1
    have bd := run_val v (atT T E i)
    clear hw9 hb8 hb9 hb79 ho9 T8 ft
    go_wp2_with (first
      | rw [HW9.out]
      | (refine wpList_put7 rfl (.tmp 2) (.tmp 60) rfl (X := .mk ⟨#[118, 97, 108]⟩ ⟨#[]⟩ v none 0 [] (atT T E i)) HZ9.out rfl (by rfl) ?_; intro wl hzl hol; have HZL := Lib.hid hzl; have HOL := Lib.hid hol; clear hzl hol))
    obtain ⟨o0, o1, o2, o3, o4, o5, o6⟩ := HZL.out.cells
    refine bodyPost_ret (v := exV (.mk ⟨#[118, 97, 108]⟩ ⟨#[]⟩ v none 0 [] (atT T E i))) ?_ rfl ?_
    · simp [results, Tryz.results233, go_sem, o0, o1, o2, o3, o4, o5, o6, exV]
    · exact says_put (x := valEx v (atT T E i)) HN9.out HR9.out (seesS_leaf (S := fun _ => False) (op := ⟨#[118, 97, 108]⟩) (name := ⟨#[]⟩) (show 3 ≤ 400 by decide) (Nat.zero_le _) HWF.out (fits_at HWW.out i)) (fun b hb => hb.elim) (by rw [strip_mk]; rfl) HOL.out rfl HLT.out HOLD.out
set_option maxHeartbeats 4000000 in
set_option maxRecDepth 100000 in
theorem pr_col {T : List Tok} {E : Nat} (hW : Words T E) {i : Nat} (h : isT T i wOpen = false) (hl : isT T i wLen = false) (hf : isT T i wIf = false) (hv : valT T i = none) {s : List UInt8} (hnm : nameT T i = some s)  (wB w : World) (rb : Nat) (A : Option Addr) (c : Nat) (hR : RdAt T E w rb A c i) (hE : Env wB w rb)
     :
    Calls Tryz.prog 233 #[.pointer (some ⟨rb, 0, none⟩)] w (RSays T E rb A c w (.ok (colEx s (atT T E i), i + 1))) := by
  have hvs := val_none hW hv
  clear hv
  obtain ⟨w0, hw0, ho0, hb0⟩ := box_zeroE w
  have HO0 := Lib.hid ho0
  have HB0 := Lib.hid hb0
  have HW0 := Lib.hid hw0
  have T1 := Lib.hid (peek_any (hR.keep hb0) hW)
  have HR0 := Lib.hid (hR.keep hb0)
  have HWW := Lib.hid hW
  have HI := Lib.hid h
  have HE0 := Lib.hid (hE.keep hb0)
  have HEW := Lib.hid hE
  have HLT := Lib.hid hR.lt
  have HOLD := Lib.hid (show 0 < T.length → ∀ ad, A = some ad → ad.block < w.heap.size from hR.old)
  have HLN := Lib.hid hl
  clear hl
  have HIF := Lib.hid hf
  clear hf
  have HV := Lib.hid hvs
  clear hvs
  have HNM := Lib.hid hnm
  clear hnm
  unfold PeekSays tokV at T1
  clear hW h hR hE hw0 ho0 hb0
  go_enter Tryz.func233, Tryz.ntmps233
  go_wp2_with (first | rw [HW0.out])
  refine (T1.out).mono ?_
  rintro e' w1 ⟨rfl, hb1⟩
  obtain ⟨w2, hw2⟩ : ∃ w2, w1.alloc (.cells #[.int .i64 (kindT T i), .string ⟨(textT T i).toArray⟩, .int .i64 (atT T E i)] 115) = w2 := ⟨_, rfl⟩
  have hb2 : Below w1.heap.size w1 w2 := by rw [← hw2]; exact belowNew' _ _
  have ho2 : Own3T w2 w1.heap.size (kindT T i) ⟨(textT T i).toArray⟩ (atT T E i) := by rw [← hw2]; exact own3t_new w1 _ _ _
  have h02 := below_step hb1 hb2
  have T2 := Lib.hid (has_any (HR0.out.keep h02) HWW.out ⟨#[40]⟩)
  rw [show isT T i (⟨#[40]⟩ : ByteArray).data.toList = false from HI.out] at T2
  have HO2 := Lib.hid ho2
  have HB2 := Lib.hid h02
  have HL1 := Lib.hid hb1.size
  have HW2 := Lib.hid hw2
  clear hb1 hb2 ho2 h02 hw2 T1
  go_wp2_with (first | rw [HW2.out])
  refine (T2.out).mono ?_
  rintro e' w3 ⟨rfl, hr3, hn3⟩
  have HR3 := Lib.hid (show RdAt T E w3 rb A c (i) from hr3)
  have HN3 := Lib.hid ((Only.of_below (S := fun k => k = rb) (below_step HB0.out HB2.out)).trans hn3)
  have hne : w1.heap.size ≠ rb := by have := HR0.out.lt; have := HL1.out; omega
  have ho3 : Own3T w3 w1.heap.size (kindT T i) ⟨(textT T i).toArray⟩ (atT T E i) := (hn3.block _ HO2.out.lt hne).trans HO2.out
  have HT3 := Lib.hid ho3
  have hz3 : Own7 w3 w.heap.size zeroE := (hn3.block _ (HO0.out.keep HB2.out).lt (by have := HLT.out; omega)).trans (HO0.out.keep HB2.out)
  have HZ3 := Lib.hid hz3
  have HLW3 := Lib.hid (show w.heap.size < w3.heap.size from hz3.lt)
  have HNW := Lib.hid (show w.heap.size < w1.heap.size from Nat.lt_of_lt_of_le HO0.out.lt HL1.out)
  have HE3 := Lib.hid (show Env wB w3 rb from HE0.out.only ((Only.of_below HB2.out).trans hn3))
  clear hr3 hn3 hz3 ho3 T2
  have TI4 := Lib.hid (is_any HR3.out HWW.out ⟨#[108, 101, 110]⟩)
  rw [show isT T i (⟨#[108, 101, 110]⟩ : ByteArray).data.toList = false from HLN.out] at TI4
  go_wp2_with fail
  refine (TI4.out).mono ?_
  rintro e' w4 ⟨rfl, hb4⟩
  have HR4 := Lib.hid (HR3.out.keep hb4)
  have HN4 := Lib.hid (HN3.out.trans (.of_below hb4))
  have HZ4 := Lib.hid (HZ3.out.keep hb4)
  have HE4 := Lib.hid (HE3.out.keep hb4)
  have HT4 := Lib.hid (HT3.out.keep hb4)
  clear hb4 TI4
  have TI5 := Lib.hid (is_any HR4.out HWW.out ⟨#[105, 102]⟩)
  rw [show isT T i (⟨#[105, 102]⟩ : ByteArray).data.toList = false from HIF.out] at TI5
  go_wp2_with fail
  refine (TI5.out).mono ?_
  rintro e' w5 ⟨rfl, hb5⟩
  have HR5 := Lib.hid (HR4.out.keep hb5)
  have HN5 := Lib.hid (HN4.out.trans (.of_below hb5))
  have HZ5 := Lib.hid (HZ4.out.keep hb5)
  have HE5 := Lib.hid (HE4.out.keep hb5)
  have HT5 := Lib.hid (HT4.out.keep hb5)
  clear hb5 TI5
  have HNE := Lib.hid (show w1.heap.size ≠ rb from hne)
  clear hne
  have g2 : (kindT T i == 2) = false := beq_eq_false_iff_ne.2 HV.out.1
  have g3 : (kindT T i == 3) = false := beq_eq_false_iff_ne.2 HV.out.2.1
  have HTR := Lib.hid HV.out.2.2.1
  have HFA := Lib.hid HV.out.2.2.2
  obtain ⟨d0, d1, d2⟩ := HT5.out.cells
  have ltk := HT5.out.lt
  have TI6 := Lib.hid (is_any HR5.out HWW.out ⟨#[116, 114, 117, 101]⟩)
  rw [show isT T i (⟨#[116, 114, 117, 101]⟩ : ByteArray).data.toList = false from HTR.out] at TI6
  go_wp2_with fail
  refine (TI6.out).mono ?_
  rintro e' w6 ⟨rfl, hb6⟩
  have HR6 := Lib.hid (HR5.out.keep hb6)
  have HN6 := Lib.hid (HN5.out.trans (.of_below hb6))
  have HZ6 := Lib.hid (HZ5.out.keep hb6)
  have HE6 := Lib.hid (HE5.out.keep hb6)
  have HT6 := Lib.hid (HT5.out.keep hb6)
  clear hb6 TI6
  have TI7 := Lib.hid (is_any HR6.out HWW.out ⟨#[102, 97, 108, 115, 101]⟩)
  rw [show isT T i (⟨#[102, 97, 108, 115, 101]⟩ : ByteArray).data.toList = false from HFA.out] at TI7
  go_wp2_with fail
  refine (TI7.out).mono ?_
  rintro e' w7 ⟨rfl, hb7⟩
  have HR7 := Lib.hid (HR6.out.keep hb7)
  have HN7 := Lib.hid (HN6.out.trans (.of_below hb7))
  have HZ7 := Lib.hid (HZ6.out.keep hb7)
  have HE7 := Lib.hid (HE6.out.keep hb7)
  have HT7 := Lib.hid (HT6.out.keep hb7)
  clear hb7 TI7
  have T9 := Lib.hid (rdName_any (w := w7.drew) (HR7.out.keep (Below.refl _ _).drew) HWW.out (HE7.out.words.keep HE7.out.below.drew))
  unfold NameSays at T9
  rw [HNM.out] at T9
  clear g2 g3 d0 d1 d2 ltk
  go_wp2_with fail
  refine wp_region_held (S := fun w' => Own3T w' w1.heap.size (kindT T i) ⟨(textT T i).toArray⟩ (atT T E i)) (by kernel_rfl) ?_
  change wpAnyH _ _ _ _ _ _ _ _ w7.drew
  have HS : (fun w' : World => Own3T w' w1.heap.size (kindT T i) ⟨(textT T i).toArray⟩ (atT T E i)) w7.drew := HT7.out
  refine takeH (i := 0) (d := some 61) (v := .pointer (some ⟨rb, 0, none⟩)) rfl rfl (by kernel_rfl) (by kernel_rfl) (by kernel_rfl) (fun _ _ _ h => h) (Or.inl ⟨by rfl, fun w' hS => by obtain ⟨d0, d1, d2⟩ := Own3T.cells hS; go_simp⟩) HS ?_
  simp only [Act.put, List.setIfInBounds_toArray, List.set_cons_zero, List.set_cons_succ]
  refine takeH (i := 2) (d := some 63) (v := .pointer (some ⟨w1.heap.size, 2, none⟩)) rfl rfl (by kernel_rfl) (by kernel_rfl) (by kernel_rfl) (fun _ _ _ h => h) (Or.inl ⟨by rfl, fun w' hS => by obtain ⟨d0, d1, d2⟩ := Own3T.cells hS; go_simp⟩) HS ?_
  simp only [Act.put, List.setIfInBounds_toArray, List.set_cons_zero, List.set_cons_succ]
  refine takeH (i := 3) (d := some 64) (v := .int .i64 (atT T E i)) rfl rfl (by kernel_rfl) (by kernel_rfl) (by kernel_rfl) (fun _ _ _ h => h) (Or.inl ⟨by rfl, fun w' hS => by obtain ⟨d0, d1, d2⟩ := Own3T.cells hS; go_simp⟩) HS ?_
  simp only [Act.put, List.setIfInBounds_toArray, List.set_cons_zero, List.set_cons_succ]
  refine wpAnyH_all (rs := [1]) (by kernel_rfl) (by simp) (fun jj hj => ?_)
  obtain rfl : jj = 1 := by simpa using hj
  refine wpOp_returnsD (d := some 62) rfl rfl (by rfl) (f := 107) (args := #[.pointer (some ⟨rb, 0, none⟩)]) (by go_simp) T9.out ?_
  rintro e wd (⟨s', h1, rfl, hrd, hnd⟩ | ⟨h1, -⟩)
  rotate_left
  · cases h1
  obtain rfl : s = s' := by injection h1
  have hot : Own3T wd w1.heap.size (kindT T i) ⟨(textT T i).toArray⟩ (atT T E i) := (hnd.drewL.block _ HT7.out.lt HNE.out).trans HT7.out
  refine ⟨_, rfl, hot, ?_⟩
  simp only [Act.put, List.setIfInBounds_toArray, List.set_cons_zero, List.set_cons_succ]
  refine wpAnyH_all (rs := [4]) (by kernel_rfl) (by simp) (fun jj hj => ?_)
  obtain rfl : jj = 4 := by simpa using hj
  have bd := run_col (mkB s) (atT T E i) wd
  refine wpOp_valueD (d := some 65) rfl rfl (by rfl) (v := .agg #[.string ⟨#[99, 111, 108]⟩, .string (mkB s), .int .i64 0, .int .i64 0, .string ⟨#[]⟩, .slice none 0 0, .int .i64 (atT T E i)]) (w' := wd) (by go_simp) ?_
  refine ⟨hot, ?_⟩
  simp only [Act.put, List.setIfInBounds_toArray, List.set_cons_zero, List.set_cons_succ]
  refine wpAnyH_all (rs := [5]) (by kernel_rfl) (by simp) (fun jj hj => ?_)
  obtain rfl : jj = 5 := by simpa using hj
  have hzd : Own7 wd w.heap.size zeroE := own7_only HZ7.out hnd.drewL (by have := HLT.out; omega)
  refine wpOp_store7 rfl rfl _ _ rfl rfl (X := (.mk ⟨#[99, 111, 108]⟩ (mkB s) noVal none 0 [] (atT T E i))) hzd rfl rfl ?_
  intro wf hzf hof
  refine ⟨(hof.block _ hot.lt (by have := HLW3.out; have := HNW.out; omega)).trans hot, ?_⟩
  refine wpAnyH_done (by kernel_rfl) ?_ _
  have HZF := Lib.hid hzf
  have HOF := Lib.hid hof
  have HND := Lib.hid (HN7.out.trans hnd.drewL)
  have HRD := Lib.hid hrd
  have HSS := Lib.hid (show s.length ≤ 400 by
    obtain ⟨t, ht, -, rfl, -⟩ := nameT_some HNM.out
    exact HWW.out.text t (List.mem_of_getElem? ht))
  clear hzf hof hnd hrd hot hzd bd HS T9
  go_wp2_with fail
  obtain ⟨o0, o1, o2, o3, o4, o5, o6⟩ := HZF.out.cells
  refine bodyPost_ret (v := exV (.mk ⟨#[99, 111, 108]⟩ (mkB s) noVal none 0 [] (atT T E i))) ?_ rfl ?_
  · simp [results, Tryz.results233, go_sem, o0, o1, o2, o3, o4, o5, o6, exV]
  · exact says_put (x := colEx s (atT T E i)) HND.out HRD.out (seesS_leaf (S := fun _ => False) (op := ⟨#[99, 111, 108]⟩) (name := mkB s) (v := noVal) (show 3 ≤ 400 by decide) (by have := HSS.out; have e : (mkB s).size = s.length := rfl; omega) ⟨show fits 0 by decide, show fits 0 by decide, Nat.zero_le _⟩ (fits_at HWW.out i)) (fun b hb => hb.elim) (by rw [strip_mk]; rfl) HOF.out rfl HLT.out HOLD.out
set_option maxHeartbeats 4000000 in
set_option maxRecDepth 100000 in
theorem pr_no {T : List Tok} {E : Nat} (hW : Words T E) {i : Nat} (h : isT T i wOpen = false) (hl : isT T i wLen = false) (hf : isT T i wIf = false) (hv : valT T i = none) (hnm : nameT T i = none)  (wB w : World) (rb : Nat) (A : Option Addr) (c : Nat) (hR : RdAt T E w rb A c i) (hE : Env wB w rb)
     :
    Calls Tryz.prog 233 #[.pointer (some ⟨rb, 0, none⟩)] w (RSays T E rb A c w (.error (atT T E i))) := by
  have hvs := val_none hW hv
  clear hv
  obtain ⟨w0, hw0, ho0, hb0⟩ := box_zeroE w
  have HO0 := Lib.hid ho0
  have HB0 := Lib.hid hb0
  have HW0 := Lib.hid hw0
  have T1 := Lib.hid (peek_any (hR.keep hb0) hW)
  have HR0 := Lib.hid (hR.keep hb0)
  have HWW := Lib.hid hW
  have HI := Lib.hid h
  have HE0 := Lib.hid (hE.keep hb0)
  have HEW := Lib.hid hE
  have HLT := Lib.hid hR.lt
  have HOLD := Lib.hid (show 0 < T.length → ∀ ad, A = some ad → ad.block < w.heap.size from hR.old)
  have HLN := Lib.hid hl
  clear hl
  have HIF := Lib.hid hf
  clear hf
  have HV := Lib.hid hvs
  clear hvs
  have HNM := Lib.hid hnm
  clear hnm
  unfold PeekSays tokV at T1
  clear hW h hR hE hw0 ho0 hb0
  go_enter Tryz.func233, Tryz.ntmps233
  go_wp2_with (first | rw [HW0.out])
  refine (T1.out).mono ?_
  rintro e' w1 ⟨rfl, hb1⟩
  obtain ⟨w2, hw2⟩ : ∃ w2, w1.alloc (.cells #[.int .i64 (kindT T i), .string ⟨(textT T i).toArray⟩, .int .i64 (atT T E i)] 115) = w2 := ⟨_, rfl⟩
  have hb2 : Below w1.heap.size w1 w2 := by rw [← hw2]; exact belowNew' _ _
  have ho2 : Own3T w2 w1.heap.size (kindT T i) ⟨(textT T i).toArray⟩ (atT T E i) := by rw [← hw2]; exact own3t_new w1 _ _ _
  have h02 := below_step hb1 hb2
  have T2 := Lib.hid (has_any (HR0.out.keep h02) HWW.out ⟨#[40]⟩)
  rw [show isT T i (⟨#[40]⟩ : ByteArray).data.toList = false from HI.out] at T2
  have HO2 := Lib.hid ho2
  have HB2 := Lib.hid h02
  have HL1 := Lib.hid hb1.size
  have HW2 := Lib.hid hw2
  clear hb1 hb2 ho2 h02 hw2 T1
  go_wp2_with (first | rw [HW2.out])
  refine (T2.out).mono ?_
  rintro e' w3 ⟨rfl, hr3, hn3⟩
  have HR3 := Lib.hid (show RdAt T E w3 rb A c (i) from hr3)
  have HN3 := Lib.hid ((Only.of_below (S := fun k => k = rb) (below_step HB0.out HB2.out)).trans hn3)
  have hne : w1.heap.size ≠ rb := by have := HR0.out.lt; have := HL1.out; omega
  have ho3 : Own3T w3 w1.heap.size (kindT T i) ⟨(textT T i).toArray⟩ (atT T E i) := (hn3.block _ HO2.out.lt hne).trans HO2.out
  have HT3 := Lib.hid ho3
  have hz3 : Own7 w3 w.heap.size zeroE := (hn3.block _ (HO0.out.keep HB2.out).lt (by have := HLT.out; omega)).trans (HO0.out.keep HB2.out)
  have HZ3 := Lib.hid hz3
  have HLW3 := Lib.hid (show w.heap.size < w3.heap.size from hz3.lt)
  have HNW := Lib.hid (show w.heap.size < w1.heap.size from Nat.lt_of_lt_of_le HO0.out.lt HL1.out)
  have HE3 := Lib.hid (show Env wB w3 rb from HE0.out.only ((Only.of_below HB2.out).trans hn3))
  clear hr3 hn3 hz3 ho3 T2
  have TI4 := Lib.hid (is_any HR3.out HWW.out ⟨#[108, 101, 110]⟩)
  rw [show isT T i (⟨#[108, 101, 110]⟩ : ByteArray).data.toList = false from HLN.out] at TI4
  go_wp2_with fail
  refine (TI4.out).mono ?_
  rintro e' w4 ⟨rfl, hb4⟩
  have HR4 := Lib.hid (HR3.out.keep hb4)
  have HN4 := Lib.hid (HN3.out.trans (.of_below hb4))
  have HZ4 := Lib.hid (HZ3.out.keep hb4)
  have HE4 := Lib.hid (HE3.out.keep hb4)
  have HT4 := Lib.hid (HT3.out.keep hb4)
  clear hb4 TI4
  have TI5 := Lib.hid (is_any HR4.out HWW.out ⟨#[105, 102]⟩)
  rw [show isT T i (⟨#[105, 102]⟩ : ByteArray).data.toList = false from HIF.out] at TI5
  go_wp2_with fail
  refine (TI5.out).mono ?_
  rintro e' w5 ⟨rfl, hb5⟩
  have HR5 := Lib.hid (HR4.out.keep hb5)
  have HN5 := Lib.hid (HN4.out.trans (.of_below hb5))
  have HZ5 := Lib.hid (HZ4.out.keep hb5)
  have HE5 := Lib.hid (HE4.out.keep hb5)
  have HT5 := Lib.hid (HT4.out.keep hb5)
  clear hb5 TI5
  have HNE := Lib.hid (show w1.heap.size ≠ rb from hne)
  clear hne
  have g2 : (kindT T i == 2) = false := beq_eq_false_iff_ne.2 HV.out.1
  have g3 : (kindT T i == 3) = false := beq_eq_false_iff_ne.2 HV.out.2.1
  have HTR := Lib.hid HV.out.2.2.1
  have HFA := Lib.hid HV.out.2.2.2
  obtain ⟨d0, d1, d2⟩ := HT5.out.cells
  have ltk := HT5.out.lt
  have TI6 := Lib.hid (is_any HR5.out HWW.out ⟨#[116, 114, 117, 101]⟩)
  rw [show isT T i (⟨#[116, 114, 117, 101]⟩ : ByteArray).data.toList = false from HTR.out] at TI6
  go_wp2_with fail
  refine (TI6.out).mono ?_
  rintro e' w6 ⟨rfl, hb6⟩
  have HR6 := Lib.hid (HR5.out.keep hb6)
  have HN6 := Lib.hid (HN5.out.trans (.of_below hb6))
  have HZ6 := Lib.hid (HZ5.out.keep hb6)
  have HE6 := Lib.hid (HE5.out.keep hb6)
  have HT6 := Lib.hid (HT5.out.keep hb6)
  clear hb6 TI6
  have TI7 := Lib.hid (is_any HR6.out HWW.out ⟨#[102, 97, 108, 115, 101]⟩)
  rw [show isT T i (⟨#[102, 97, 108, 115, 101]⟩ : ByteArray).data.toList = false from HFA.out] at TI7
  go_wp2_with fail
  refine (TI7.out).mono ?_
  rintro e' w7 ⟨rfl, hb7⟩
  have HR7 := Lib.hid (HR6.out.keep hb7)
  have HN7 := Lib.hid (HN6.out.trans (.of_below hb7))
  have HZ7 := Lib.hid (HZ6.out.keep hb7)
  have HE7 := Lib.hid (HE6.out.keep hb7)
  have HT7 := Lib.hid (HT6.out.keep hb7)
  clear hb7 TI7
  have T9 := Lib.hid (rdName_any (w := w7.drew) (HR7.out.keep (Below.refl _ _).drew) HWW.out (HE7.out.words.keep HE7.out.below.drew))
  unfold NameSays at T9
  rw [HNM.out] at T9
  clear g2 g3 d0 d1 d2 ltk
  go_wp2_with fail
  refine wp_region_held (S := fun w' => Own3T w' w1.heap.size (kindT T i) ⟨(textT T i).toArray⟩ (atT T E i)) (by kernel_rfl) ?_
  change wpAnyH _ _ _ _ _ _ _ _ w7.drew
  have HS : (fun w' : World => Own3T w' w1.heap.size (kindT T i) ⟨(textT T i).toArray⟩ (atT T E i)) w7.drew := HT7.out
  refine takeH (i := 0) (d := some 61) (v := .pointer (some ⟨rb, 0, none⟩)) rfl rfl (by kernel_rfl) (by kernel_rfl) (by kernel_rfl) (fun _ _ _ h => h) (Or.inl ⟨by rfl, fun w' hS => by obtain ⟨d0, d1, d2⟩ := Own3T.cells hS; go_simp⟩) HS ?_
  simp only [Act.put, List.setIfInBounds_toArray, List.set_cons_zero, List.set_cons_succ]
  refine takeH (i := 2) (d := some 63) (v := .pointer (some ⟨w1.heap.size, 2, none⟩)) rfl rfl (by kernel_rfl) (by kernel_rfl) (by kernel_rfl) (fun _ _ _ h => h) (Or.inl ⟨by rfl, fun w' hS => by obtain ⟨d0, d1, d2⟩ := Own3T.cells hS; go_simp⟩) HS ?_
  simp only [Act.put, List.setIfInBounds_toArray, List.set_cons_zero, List.set_cons_succ]
  refine takeH (i := 3) (d := some 64) (v := .int .i64 (atT T E i)) rfl rfl (by kernel_rfl) (by kernel_rfl) (by kernel_rfl) (fun _ _ _ h => h) (Or.inl ⟨by rfl, fun w' hS => by obtain ⟨d0, d1, d2⟩ := Own3T.cells hS; go_simp⟩) HS ?_
  simp only [Act.put, List.setIfInBounds_toArray, List.set_cons_zero, List.set_cons_succ]
  refine wpAnyH_all (rs := [1]) (by kernel_rfl) (by simp) (fun jj hj => ?_)
  obtain rfl : jj = 1 := by simpa using hj
  exact wpOp_panics rfl (by rfl) (f := 107) (args := #[.pointer (some ⟨rb, 0, none⟩)]) (by go_simp) (T9.out.mono fun e w' h => by
    rcases h with ⟨s, h1, -⟩ | ⟨-, h2, h3⟩
    · cases h1
    · exact ⟨h2, h3⟩) (fun wd (hnd : Only (fun k => k = rb) w7.drew wd) => ⟨rfl, rfl, HN7.out.trans hnd.drewL⟩)
end Go.Proofs.YtpbbkpfaphjdoaaGreatDoor
