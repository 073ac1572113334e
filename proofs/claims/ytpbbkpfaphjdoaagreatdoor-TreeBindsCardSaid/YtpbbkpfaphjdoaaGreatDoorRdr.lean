/- The reader of words, as it lies; its small steps, walked: Peek, Take, Fail, Is, Has, Need, Name, one, Done, NewReader. -/
import Derived.Test.YtpbbkpfaphjdoaaGreatDoorRdLaw
import Derived.Test.YtpbbkpfaphjdoaaGreatDoorLexAll
import Derived.Test.YtpbbkpfaphjdoaaGreatDoorOnly
import Derived.Test.YtpbbkpfaphjdoaaGreatDoorExOwn
import Derived.Test.YtpbbkpfaphjdoaaGreatDoorTreeName
import Derived.Deep.QuietTactic
import Derived.BigQuiet
import Derived.StillTailTactics
import Derived.BigRegion
namespace Go.Proofs.YtpbbkpfaphjdoaaGreatDoor
open Go.ChangeShapes Go.WideShapes Go.ChangeAt Go.RowKit

/-- What is known of words that were read of a text. -/
structure Words (T : List Tok) (E : Nat) : Prop where
  len : T.length ≤ 400
  E_le : E ≤ 400
  at_ : ∀ t ∈ T, t.at_ ≤ E
  text : ∀ t ∈ T, t.text.length ≤ 400
  val : ∀ t ∈ T, t.kind = 2 ∨ t.kind = 3 → (readP t.text).2 = 0
  sign : ∀ t ∈ T, t.kind = 4 → t.text ∈ signL
/-- The reader, where it lies. -/
structure RdAt (T : List Tok) (E : Nat) (w : World) (rb : Nat) (A : Option Addr) (c : Nat) (i : Nat) : Prop where
  box : w.heap[rb]? = some (.cells #[.slice A T.length c, .int .i64 i, .int .i64 E] 189 (0, 0))
  toks : SeesToks w A T.length c T
  far : 0 < T.length → ∀ ad, A = some ad → ad.block ≠ rb
  le : i ≤ T.length
section
variable {T : List Tok} {E : Nat} {w w' : World} {rb : Nat} {A : Option Addr} {c i : Nat}
theorem RdAt.lt (h : RdAt T E w rb A c i) : rb < w.heap.size := (Array.getElem?_eq_some_iff.1 h.box).1
theorem RdAt.keep (h : RdAt T E w rb A c i) (hb : Below w.heap.size w w') : RdAt T E w' rb A c i := ⟨(hb.block rb h.lt).trans h.box, h.toks.keep hb, h.far, h.le⟩
theorem RdAt.cells (h : RdAt T E w rb A c i) : w.cell? ⟨rb, 0, none⟩ = some (.slice A T.length c) ∧ w.cell? ⟨rb, 1, none⟩ = some (.int .i64 i) ∧ w.cell? ⟨rb, 2, none⟩ = some (.int .i64 E) := box3 h.box
theorem RdAt.free (h : RdAt T E w rb A c i) : w.frozen? ⟨rb, 1, none⟩ = false := frozen_of_row _ _ _ _ _ h.box
/-- One word on. -/
theorem RdAt.next (h : RdAt T E w rb A c i) (hi : i < T.length) : RdAt T E (w.setCell ⟨rb, 1, none⟩ (.int .i64 ((i : Int) + 1))) rb A c (i + 1) ∧ Only (fun k => k = rb) w (w.setCell ⟨rb, 1, none⟩ (.int .i64 ((i : Int) + 1))) := by
  have ho : Only (fun k => k = rb) w (w.setCell ⟨rb, 1, none⟩ (.int .i64 ((i : Int) + 1))) := (Only.refl (fun k => k = rb) w).setCell (p := ⟨rb, 1, none⟩) rfl _
  refine ⟨⟨?_, ⟨h.toks.1, ho.sees_far h.toks.2 (fun h0 ad e hr => h.far h0 ad e hr)⟩, h.far, hi⟩, ho⟩
  rw [heap_setCell_same _ _ _ _ _ _ h.box]
  rfl
theorem RdAt.old (h : RdAt T E w rb A c i) (h0 : 0 < T.length) (ad : Addr) (e : A = some ad) : ad.block < w.heap.size := by
  obtain ⟨g, o, e2, hg, _⟩ := h.toks.2.2.2.2.2 h0
  rw [e] at e2
  injection e2 with e2
  rw [e2]; exact hg
/-- A store into another block. -/
theorem RdAt.set (h : RdAt T E w rb A c i) {b : Nat} (hb : rb ≠ b ∧ (0 < T.length → ∀ ad, A = some ad → ad.block ≠ b)) (u v x : Value) : RdAt T E (((w.setCell ⟨b, 0, none⟩ u).setCell ⟨b, 1, none⟩ v).setCell ⟨b, 2, none⟩ x) rb A c i := by
  have ho : Only (fun k => k = b) w (((w.setCell ⟨b, 0, none⟩ u).setCell ⟨b, 1, none⟩ v).setCell ⟨b, 2, none⟩ x) := (((Only.refl (fun k => k = b) w).setCell (p := ⟨b, 0, none⟩) rfl _).setCell (p := ⟨b, 1, none⟩) rfl _).setCell (p := ⟨b, 2, none⟩) rfl _
  exact ⟨(ho.block rb h.lt hb.1).trans h.box, ⟨h.toks.1, ho.sees_far h.toks.2 (fun h0 ad e hr => hb.2 h0 ad e hr)⟩, h.far, h.le⟩
theorem Only.setNew {S : Nat → Prop} {a b : World} (h : Only S a b) {p : Addr} (hp : a.heap.size ≤ p.block) (u : Value) : Only S a (b.setCell p u) :=
  ⟨h.os, h.tape, h.output, by simpa [World.setCell] using h.size, fun k hk hs => (Below.heap_setCell _ _ _ _ (fun e => by omega)).trans (h.block k hk hs)⟩
theorem RdAt.only (h : RdAt T E w rb A c i) (ho : Only (fun _ => False) w w') : RdAt T E w' rb A c i := by
  refine ⟨(ho.block rb h.lt (fun e => e)).trans h.box, ⟨h.toks.1, ho.sees_far h.toks.2 (fun _ _ _ e => e)⟩, h.far, h.le⟩
end
def kindT (T : List Tok) (i : Nat) : Int := match T[i]? with
  | none => 0
  | some t => t.kind
/-- The i-th word, as it is handed on. -/
def tokV (T : List Tok) (E i : Nat) : Value := .agg #[.int .i64 (kindT T i), .string ⟨(textT T i).toArray⟩, .int .i64 (atT T E i)]
theorem isT_eq (T : List Tok) (i : Nat) (s : List UInt8) : isT T i s = ((kindT T i == 4 || kindT T i == 1) && (textT T i == s)) := by
  unfold isT kindT textT
  cases T[i]? with
  | none => rfl
  | some t => rfl
def Own3T (w : World) (b : Nat) (k : Int) (s : ByteArray) (p : Int) : Prop := w.heap[b]? = some (.cells #[.int .i64 k, .string s, .int .i64 p] 115 (0, 0))
theorem own3t_new (w : World) (k : Int) (s : ByteArray) (p : Int) : Own3T (w.alloc (.cells #[.int .i64 k, .string s, .int .i64 p] 115)) w.heap.size k s p := heap_alloc_new w _
theorem Own3T.cells {w : World} {b : Nat} {k : Int} {s : ByteArray} {p : Int} (h : Own3T w b k s p) : w.cell? ⟨b, 0, none⟩ = some (.int .i64 k) ∧ w.cell? ⟨b, 1, none⟩ = some (.string s) ∧ w.cell? ⟨b, 2, none⟩ = some (.int .i64 p) := box3 h
theorem Own3T.lt {w : World} {b : Nat} {k : Int} {s : ByteArray} {p : Int} (h : Own3T w b k s p) : b < w.heap.size := (Array.getElem?_eq_some_iff.1 h).1
theorem Own3T.frees {w : World} {b : Nat} {k : Int} {s : ByteArray} {p : Int} (h : Own3T w b k s p) : w.frozen? ⟨b, 0, none⟩ = false ∧ w.frozen? ⟨b, 1, none⟩ = false ∧ w.frozen? ⟨b, 2, none⟩ = false :=
  ⟨frozen_of_row _ _ _ _ _ h, frozen_of_row _ _ _ _ _ h, frozen_of_row _ _ _ _ _ h⟩
theorem Own3T.keep {w w' : World} {b : Nat} {k : Int} {s : ByteArray} {p : Int} (h : Own3T w b k s p) (hb : Below w.heap.size w w') : Own3T w' b k s p := (hb.block b h.lt).trans h
theorem own3t_set {w : World} {b : Nat} {k : Int} {s : ByteArray} {p : Int} (h : Own3T w b k s p) (k' : Int) (s' : ByteArray) (p' : Int) :
    Own3T (((w.setCell ⟨b, 0, none⟩ (.int .i64 k')).setCell ⟨b, 1, none⟩ (.string s')).setCell ⟨b, 2, none⟩ (.int .i64 p')) b k' s' p' := by
  unfold Own3T
  rw [heap_setCell_same _ _ _ _ _ _ (heap_setCell_same _ _ _ _ _ _ (heap_setCell_same _ _ _ _ _ _ h))]
  rfl
def PeekSays (T : List Tok) (E i : Nat) (w : World) (e : Ending) (w' : World) : Prop := e = .returned (tokV T E i) ∧ Below w.heap.size w w'
set_option maxHeartbeats 1000000 in
set_option maxRecDepth 100000 in
theorem peek_any {T : List Tok} {E : Nat} {w : World} {rb : Nat} {A : Option Addr} {c i : Nat} (h : RdAt T E w rb A c i) (hW : Words T E) : Calls Tryz.prog 167 #[.pointer (some ⟨rb, 0, none⟩)] w (PeekSays T E i w) := by
  obtain ⟨w0, hw0⟩ : ∃ w0, w.alloc (.cells #[.int .i64 0, .string ⟨#[]⟩, .int .i64 0] 115) = w0 := ⟨_, rfl⟩
  have hb0 : Below w.heap.size w w0 := by rw [← hw0]; exact belowNew' _ _
  have ho0 : Own3T w0 w.heap.size 0 ⟨#[]⟩ 0 := by rw [← hw0]; exact own3t_new w _ _ _
  have h0 := h.keep hb0
  obtain ⟨c0, c1, c2⟩ := h0.cells
  have HO := Lib.hid ho0
  have HB := Lib.hid hb0
  have HW := Lib.hid hw0
  have hcap : T.length ≤ c := h.toks.2.2.1
  have hmax : c ≤ maxLen := h.toks.2.2.2.1
  unfold maxLen at hmax
  have hlen := hW.len
  have hle := h.le
  have HR := Lib.hid h0
  obtain ⟨n, hn⟩ : ∃ n, T.length = n := ⟨_, rfl⟩
  have HN := Lib.hid hn
  rw [hn] at c0 hcap hlen hle
  clear h0 ho0 hb0 hw0 hW hn
  by_cases hi : i < n
  · have hi2 : (i : Int) < (n : Int) := by omega
    have g1 : decide ((i : Int) < (n : Int)) = true := decide_eq_true hi2
    clear h
    go_enter Tryz.func167, Tryz.ntmps167
    go_wp2_with (first | rw [HW.out])
    go_quiet (fail)
    have hby : Below w0.heap.size w0 (w0.drewN nq) := below_drewN (Below.refl _ _) nq
    have HBY := Lib.hid (below_step HB.out hby)
    have HOY := Lib.hid (HO.out.keep hby)
    have HRY := Lib.hid (HR.out.keep hby)
    clear c0 c1 c2 hby
    generalize w0.drewN nq = wy at HBY HOY HRY ⊢
    obtain ⟨c0, c1, c2⟩ := HRY.out.cells
    rw [HN.out] at c0
    obtain ⟨g, o, x, rfl, hg, hx, d0, d1, d2⟩ := HRY.out.toks.at_ (k := i) (by rw [HN.out]; exact hi)
    have E1 := Lib.hid (show tokV T E i = .agg #[.int .i64 x.kind, .string ⟨x.text.toArray⟩, .int .i64 x.at_] by unfold tokV kindT textT atT; rw [hx])
    obtain ⟨f0, f1, f2⟩ := HOY.out.frees
    obtain ⟨z0, z1, z2⟩ := HOY.out.cells
    have hzl := HOY.out.lt
    clear hx hg
    go_wp2_with fail
    go_still_tail 10, (by kernel_rfl)
    change wpList _ _ _ _ _ wy.drew
    go_wp2_with fail
    have HO9 : Own3T (((wy.setCell ⟨w.heap.size, 0, none⟩ (.int .i64 x.kind)).setCell ⟨w.heap.size, 1, none⟩ (.string ⟨x.text.toArray⟩)).setCell ⟨w.heap.size, 2, none⟩ (.int .i64 x.at_)).drew w.heap.size x.kind ⟨x.text.toArray⟩ x.at_ := own3t_set HOY.out x.kind ⟨x.text.toArray⟩ x.at_
    have HB9 : Hid (Below w.heap.size w (((wy.setCell ⟨w.heap.size, 0, none⟩ (.int .i64 x.kind)).setCell ⟨w.heap.size, 1, none⟩ (.string ⟨x.text.toArray⟩)).setCell ⟨w.heap.size, 2, none⟩ (.int .i64 x.at_)).drew) := Lib.hid (((HBY.out.setCell (p := ⟨w.heap.size, 0, none⟩) (Nat.le_refl _) _).setCell (p := ⟨w.heap.size, 1, none⟩) (Nat.le_refl _) _).setCell (p := ⟨w.heap.size, 2, none⟩) (Nat.le_refl _) _).drew
    generalize (((wy.setCell ⟨w.heap.size, 0, none⟩ (.int .i64 x.kind)).setCell ⟨w.heap.size, 1, none⟩ (.string ⟨x.text.toArray⟩)).setCell ⟨w.heap.size, 2, none⟩ (.int .i64 x.at_)).drew = w9 at HO9 HB9 ⊢
    obtain ⟨o0, o1, o2⟩ := HO9.cells
    refine bodyPost_ret (v := tokV T E i) ?_ rfl ⟨rfl, HB9.out⟩
    rw [E1.out]
    simp [results, Tryz.results167, go_sem, o0, o1, o2]
  · have E1 := Lib.hid (show tokV T E i = .agg #[.int .i64 0, .string ⟨#[]⟩, .int .i64 E] by
      unfold tokV kindT textT atT
      rw [List.getElem?_eq_none (by rw [HN.out]; omega)])
    have g1 : decide ((i : Int) < (n : Int)) = false := decide_eq_false (by omega)
    obtain ⟨f0, f1, f2⟩ := HO.out.frees
    obtain ⟨z0, z1, z2⟩ := HO.out.cells
    clear h
    go_enter Tryz.func167, Tryz.ntmps167
    go_wp2_with (first | rw [HW.out])
    go_quiet (fail)
    go_wp2_with fail
    have HO9 := own3t_set (w := w0.drewN nq) HO.out 0 ⟨#[]⟩ E
    have HB9 : Hid (Below w.heap.size w ((((w0.drewN nq).setCell ⟨w.heap.size, 0, none⟩ (.int .i64 0)).setCell ⟨w.heap.size, 1, none⟩ (.string ⟨#[]⟩)).setCell ⟨w.heap.size, 2, none⟩ (.int .i64 E))) := Lib.hid ((((below_drewN HB.out nq).setCell (p := ⟨w.heap.size, 0, none⟩) (Nat.le_refl _) _).setCell (p := ⟨w.heap.size, 1, none⟩) (Nat.le_refl _) _).setCell (p := ⟨w.heap.size, 2, none⟩) (Nat.le_refl _) _)
    generalize (((w0.drewN nq).setCell ⟨w.heap.size, 0, none⟩ (.int .i64 0)).setCell ⟨w.heap.size, 1, none⟩ (.string ⟨#[]⟩)).setCell ⟨w.heap.size, 2, none⟩ (.int .i64 E) = w9 at HO9 HB9 ⊢
    obtain ⟨o0, o1, o2⟩ := HO9.cells
    refine bodyPost_ret (v := tokV T E i) ?_ rfl ⟨rfl, HB9.out⟩
    rw [E1.out]
    simp [results, Tryz.results167, go_sem, o0, o1, o2]
def TakeSays (T : List Tok) (E : Nat) (rb : Nat) (A : Option Addr) (c i : Nat) (w : World) (e : Ending) (w' : World) : Prop := e = .returned (tokV T E i) ∧ RdAt T E w' rb A c (i + 1) ∧ Only (fun k => k = rb) w w'
set_option maxHeartbeats 1000000 in
set_option maxRecDepth 100000 in
theorem take_any {T : List Tok} {E : Nat} {w : World} {rb : Nat} {A : Option Addr} {c i : Nat} (h : RdAt T E w rb A c i) (hW : Words T E) (hi : i < T.length) : Calls Tryz.prog 169 #[.pointer (some ⟨rb, 0, none⟩)] w (TakeSays T E rb A c i w) := by
  obtain ⟨w0, hw0⟩ : ∃ w0, w.alloc (.cells #[.int .i64 0, .string ⟨#[]⟩, .int .i64 0] 115) = w0 := ⟨_, rfl⟩
  have hb0 : Below w.heap.size w w0 := by rw [← hw0]; exact belowNew' _ _
  have ho0 : Own3T w0 w.heap.size 0 ⟨#[]⟩ 0 := by rw [← hw0]; exact own3t_new w _ _ _
  have T1 := Lib.hid (peek_any (h.keep hb0) hW)
  have HO := Lib.hid ho0
  have HB := Lib.hid hb0
  have HW := Lib.hid hw0
  have HR := Lib.hid (h.keep hb0)
  have hlen := hW.len
  have hil : i < 400 := by omega
  have HI := Lib.hid hi
  have HLT := Lib.hid h.lt
  have HOLD := Lib.hid (show 0 < T.length → ∀ ad, A = some ad → ad.block < w.heap.size from h.old)
  unfold PeekSays tokV at T1
  clear h hW hw0 hb0 ho0 hi hlen
  go_enter Tryz.func169, Tryz.ntmps169
  go_wp2_with (first | rw [HW.out])
  refine (T1.out).mono ?_
  rintro e' w1 ⟨rfl, hb1⟩
  obtain ⟨w2, hw2⟩ : ∃ w2, w1.alloc (.cells #[.int .i64 (kindT T i), .string ⟨(textT T i).toArray⟩, .int .i64 (atT T E i)] 115) = w2 := ⟨_, rfl⟩
  have hb2 : Below w1.heap.size w1 w2 := by rw [← hw2]; exact belowNew' _ _
  have ho2 : Own3T w2 w1.heap.size (kindT T i) ⟨(textT T i).toArray⟩ (atT T E i) := by rw [← hw2]; exact own3t_new w1 _ _ _
  have h02 := below_step hb1 hb2
  have hr2 := HR.out.keep h02
  obtain ⟨hr3, hn3⟩ := hr2.next HI.out
  obtain ⟨w3, hw3⟩ : ∃ w3, w2.setCell ⟨rb, 1, none⟩ (.int .i64 ((i : Int) + 1)) = w3 := ⟨_, rfl⟩
  rw [hw3] at hr3 hn3
  have hne : w1.heap.size ≠ rb := by have := HR.out.lt; have := hb1.size; omega
  have ho3 : Own3T w3 w1.heap.size (kindT T i) ⟨(textT T i).toArray⟩ (atT T E i) := (hn3.block _ ho2.lt hne).trans ho2
  have hoz : Own3T w3 w.heap.size 0 ⟨#[]⟩ 0 := (hn3.block _ (HO.out.keep h02).lt (by have := HLT.out; omega)).trans (HO.out.keep h02)
  have HON := Lib.hid (show Only (fun k => k = rb) w w3 from (Only.of_below HB.out).trans ((Only.of_below h02).trans hn3))
  have HR3 := Lib.hid hr3
  have HOZ := Lib.hid hoz
  obtain ⟨c0, c1, c2⟩ := hr2.cells
  have f1 := hr2.free
  obtain ⟨d0, d1, d2⟩ := ho3.cells
  obtain ⟨z0, z1, z2⟩ := hoz.cells
  obtain ⟨f3, f4, f5⟩ := hoz.frees
  have hw1r : IntKind.i64.wrap ((i : Int) + 1) = (i : Int) + 1 := IntWalk.i64_in _ (by omega)
  have HW2 := Lib.hid hw2
  have HW3 := Lib.hid hw3
  clear hw2 hb1 hb2 ho2 h02 hr2 hr3 hn3 hw3 ho3 hoz T1
  go_wp2_with (first | rw [HW2.out] | rw [HW3.out])
  have HO9 := own3t_set HOZ.out (kindT T i) ⟨(textT T i).toArray⟩ (atT T E i)
  have HN9 := Lib.hid (((HON.out.setNew (p := ⟨w.heap.size, 0, none⟩) (Nat.le_refl _) (.int .i64 (kindT T i))).setNew (p := ⟨w.heap.size, 1, none⟩) (Nat.le_refl _) (.string ⟨(textT T i).toArray⟩)).setNew (p := ⟨w.heap.size, 2, none⟩) (Nat.le_refl _) (.int .i64 (atT T E i)))
  have HR9 := Lib.hid (HR3.out.set (b := w.heap.size) ⟨by have := HLT.out; omega, fun h0 ad e => by have := HOLD.out h0 ad e; omega⟩ (.int .i64 (kindT T i)) (.string ⟨(textT T i).toArray⟩) (.int .i64 (atT T E i)))
  generalize ((w3.setCell ⟨w.heap.size, 0, none⟩ (.int .i64 (kindT T i))).setCell ⟨w.heap.size, 1, none⟩ (.string ⟨(textT T i).toArray⟩)).setCell ⟨w.heap.size, 2, none⟩ (.int .i64 (atT T E i)) = w9 at HO9 HN9 HR9 ⊢
  obtain ⟨o0, o1, o2⟩ := HO9.cells
  refine bodyPost_ret (v := tokV T E i) ?_ rfl ⟨rfl, HR9.out, HN9.out⟩
  simp [results, Tryz.results169, go_sem, o0, o1, o2, tokV]
theorem field_at (k : Int) (s : ByteArray) (p : Int) (w : World) : (Instr.field 115 (.agg #[.int .i64 k, .string s, .int .i64 p]) 2).run Tryz.prog w = .ok (.int .i64 p) w := by kernel_rfl
theorem field_text (k : Int) (s : ByteArray) (p : Int) (w : World) : (Instr.field 115 (.agg #[.int .i64 k, .string s, .int .i64 p]) 1).run Tryz.prog w = .ok (.string s) w := by kernel_rfl
/-- How a wrong text ends. -/
def wrongAt (k : Nat) : Ending := .panicked [{ v := .iface 154 (.agg #[.int .i64 k]), recovered := false }]
set_option maxHeartbeats 1000000 in
set_option maxRecDepth 100000 in
theorem fail_any {T : List Tok} {E : Nat} {w : World} {rb : Nat} {A : Option Addr} {c i : Nat} (h : RdAt T E w rb A c i) (hW : Words T E) : Calls Tryz.prog 163 #[.pointer (some ⟨rb, 0, none⟩)] w fun e w' => e = wrongAt (atT T E i) ∧ Below w.heap.size w w' := by
  have T1 := Lib.hid (peek_any h hW)
  have fd := field_at (kindT T i) ⟨(textT T i).toArray⟩ (atT T E i)
  unfold PeekSays tokV at T1
  clear h hW
  go_enter Tryz.func163, Tryz.ntmps163
  go_wp2_with fail
  refine (T1.out).mono ?_
  rintro e' w1 ⟨rfl, hb1⟩
  have HB := Lib.hid hb1
  go_wp2_with fail
  exact ⟨rfl, rfl, HB.out⟩
set_option maxHeartbeats 1000000 in
set_option maxRecDepth 100000 in
theorem is_any {T : List Tok} {E : Nat} {w : World} {rb : Nat} {A : Option Addr} {c i : Nat} (h : RdAt T E w rb A c i) (hW : Words T E) (s : ByteArray) : Calls Tryz.prog 165 #[.pointer (some ⟨rb, 0, none⟩), .string s] w fun e w' => e = .returned (.bool (isT T i s.data.toList)) ∧ Below w.heap.size w w' := by
  have T1 := Lib.hid (peek_any h hW)
  have HE := Lib.hid (isT_eq T i s.data.toList)
  unfold PeekSays tokV at T1
  have HX := Lib.hid (show ((⟨(textT T i).toArray⟩ : ByteArray).toList == s.toList) = (textT T i == s.data.toList) by rw [Lib.toList_data, Lib.toList_data])
  generalize hk : kindT T i = kd at T1 HE
  generalize ((⟨(textT T i).toArray⟩ : ByteArray)) = tx at T1 HX
  clear h hW hk
  rcases hb4 : (kd == 4) with _ | _
  · rcases hb1 : (kd == 1) with _ | _
    · have HF := Lib.hid (show isT T i s.data.toList = false by rw [HE.out, hb4, hb1]; rfl)
      go_enter Tryz.func165, Tryz.ntmps165
      go_wp2_with fail
      refine (T1.out).mono ?_
      rintro e' w1 ⟨rfl, hbb⟩
      have HB := Lib.hid (below_step hbb (belowNew' w1 (.cells #[.int .i64 kd, .string tx, .int .i64 (atT T E i)] 115)))
      clear hbb
      go_wp2_with fail
      go_ret
      exact ⟨by rw [HF.out]; rfl, HB.out⟩
    · have HF := Lib.hid (show isT T i s.data.toList = (tx.toList == s.toList) by rw [HE.out, hb4, hb1, HX.out]; rfl)
      go_enter Tryz.func165, Tryz.ntmps165
      go_wp2_with fail
      refine (T1.out).mono ?_
      rintro e' w1 ⟨rfl, hbb⟩
      have HB := Lib.hid (below_step hbb (belowNew' w1 (.cells #[.int .i64 kd, .string tx, .int .i64 (atT T E i)] 115)))
      clear hbb
      go_wp2_with fail
      go_ret
      exact ⟨by rw [HF.out]; rfl, HB.out⟩
  · have HF := Lib.hid (show isT T i s.data.toList = (tx.toList == s.toList) by rw [HE.out, hb4, HX.out]; rfl)
    go_enter Tryz.func165, Tryz.ntmps165
    go_wp2_with fail
    refine (T1.out).mono ?_
    rintro e' w1 ⟨rfl, hbb⟩
    have HB := Lib.hid (below_step hbb (belowNew' w1 (.cells #[.int .i64 kd, .string tx, .int .i64 (atT T E i)] 115)))
    clear hbb
    go_wp2_with fail
    go_ret
    exact ⟨by rw [HF.out]; rfl, HB.out⟩
/-- One word on, or as it was. -/
def StepSays (T : List Tok) (E : Nat) (rb : Nat) (A : Option Addr) (c i : Nat) (b : Bool) (w : World) (e : Ending) (w' : World) : Prop := e = .returned (.bool b) ∧ RdAt T E w' rb A c (if b then i + 1 else i) ∧ Only (fun k => k = rb) w w'
set_option maxHeartbeats 1000000 in
set_option maxRecDepth 100000 in
theorem has_any {T : List Tok} {E : Nat} {w : World} {rb : Nat} {A : Option Addr} {c i : Nat} (h : RdAt T E w rb A c i) (hW : Words T E) (s : ByteArray) : Calls Tryz.prog 108 #[.pointer (some ⟨rb, 0, none⟩), .string s] w (StepSays T E rb A c i (isT T i s.data.toList) w) := by
  have T1 := Lib.hid (is_any h hW s)
  have HLT := Lib.hid (fun hh : isT T i s.data.toList = true => isT_lt hh)
  have HR := Lib.hid h
  have hlen := hW.len
  have hle := h.le
  have hil : i ≤ 400 := by omega
  generalize isT T i s.data.toList = b at T1 HLT
  clear h hW hlen hle
  cases b with
  | true =>
    go_enter Tryz.func108, Tryz.ntmps108
    go_wp2_with fail
    refine (T1.out).mono ?_
    rintro e' w1 ⟨rfl, hb1⟩
    have hr1 := HR.out.keep hb1
    obtain ⟨hr3, hn3⟩ := hr1.next (HLT.out trivial)
    have HON := Lib.hid ((Only.of_below (S := fun k => k = rb) hb1).trans hn3)
    have HR3 := Lib.hid hr3
    obtain ⟨c0, c1, c2⟩ := hr1.cells
    have f1 := hr1.free
    have hw1r : IntKind.i64.wrap ((i : Int) + 1) = (i : Int) + 1 := IntWalk.i64_in _ (by omega)
    clear hb1 hr1 hr3 hn3 T1
    go_wp2_with fail
    go_ret
    exact ⟨rfl, HR3.out, HON.out⟩
  | false =>
    go_enter Tryz.func108, Tryz.ntmps108
    go_wp2_with fail
    refine (T1.out).mono ?_
    rintro e' w1 ⟨rfl, hb1⟩
    have HR3 := Lib.hid (HR.out.keep hb1)
    have HON := Lib.hid (Only.of_below (S := fun k => k = rb) hb1)
    clear hb1 T1
    go_wp2_with fail
    go_ret
    exact ⟨rfl, HR3.out, HON.out⟩
def NeedSays (T : List Tok) (E : Nat) (rb : Nat) (A : Option Addr) (c i : Nat) (b : Bool) (w : World) (e : Ending) (w' : World) : Prop :=
  (b = true ∧ e = .returned (.tuple #[]) ∧ RdAt T E w' rb A c (i + 1) ∧ Only (fun k => k = rb) w w') ∨ (b = false ∧ e = wrongAt (atT T E i) ∧ Only (fun k => k = rb) w w')
set_option maxHeartbeats 1000000 in
set_option maxRecDepth 100000 in
theorem need_any {T : List Tok} {E : Nat} {w : World} {rb : Nat} {A : Option Addr} {c i : Nat} (h : RdAt T E w rb A c i) (hW : Words T E) (s : ByteArray) : Calls Tryz.prog 105 #[.pointer (some ⟨rb, 0, none⟩), .string s] w (NeedSays T E rb A c i (isT T i s.data.toList) w) := by
  have T1 := Lib.hid (has_any h hW s)
  have HWW := Lib.hid hW
  generalize isT T i s.data.toList = b at T1
  clear h hW
  cases b with
  | true =>
    go_enter Tryz.func105, Tryz.ntmps105
    go_wp2_with fail
    refine (T1.out).mono ?_
    rintro e' w1 ⟨rfl, hr1, hn1⟩
    have HR := Lib.hid hr1
    have HN := Lib.hid hn1
    clear hr1 hn1 T1
    go_wp2_with fail
    go_end0
    exact Or.inl ⟨rfl, rfl, HR.out, HN.out⟩
  | false =>
    go_enter Tryz.func105, Tryz.ntmps105
    go_wp2_with fail
    refine (T1.out).mono ?_
    rintro e' w1 ⟨rfl, hr1, hn1⟩
    have T2 := Lib.hid (fail_any hr1 HWW.out)
    have HN := Lib.hid hn1
    clear hr1 hn1 T1
    go_wp2_with fail
    refine (T2.out).mono ?_
    rintro e' w2 ⟨rfl, hb2⟩
    have HN2 := Lib.hid (HN.out.trans (Only.of_below hb2))
    unfold wrongAt
    go_wp2_with fail
    exact ⟨rfl, Or.inr ⟨rfl, rfl, HN2.out⟩⟩
def NameSays (T : List Tok) (E : Nat) (rb : Nat) (A : Option Addr) (c i : Nat) (w : World) (e : Ending) (w' : World) : Prop :=
  (∃ s, nameT T i = some s ∧ e = .returned (.string (mkB s)) ∧ RdAt T E w' rb A c (i + 1) ∧ Only (fun k => k = rb) w w') ∨ (nameT T i = none ∧ e = wrongAt (atT T E i) ∧ Only (fun k => k = rb) w w')
theorem nameT_eq (T : List Tok) (i : Nat) : nameT T i = if kindT T i = 1 ∧ treeName (mkB (textT T i)) = true then some (textT T i) else none := by
  unfold nameT kindT textT
  cases T[i]? with
  | none => rfl
  | some t => rfl
theorem kind_lt {T : List Tok} {i : Nat} {k : Int} (h : kindT T i = k) (hk : k ≠ 0) : i < T.length := by
  unfold kindT at h
  cases ht : T[i]? with
  | none => rw [ht] at h; exact absurd h.symm hk
  | some t => exact (List.getElem?_eq_some_iff.1 ht).1
theorem text_len {T : List Tok} {E : Nat} (hW : Words T E) (i : Nat) : (textT T i).length ≤ 400 := by
  unfold textT
  cases ht : T[i]? with
  | none => exact Nat.zero_le _
  | some t => exact hW.text t (List.mem_of_getElem? ht)
set_option maxHeartbeats 1000000 in
set_option maxRecDepth 100000 in
theorem rdName_any {T : List Tok} {E : Nat} {w : World} {rb : Nat} {A : Option Addr} {c i : Nat} (h : RdAt T E w rb A c i) (hW : Words T E) (hN : WordsT w) : Calls Tryz.prog 107 #[.pointer (some ⟨rb, 0, none⟩)] w (NameSays T E rb A c i w) := by
  have T1 := Lib.hid (peek_any h hW)
  have HE := Lib.hid (nameT_eq T i)
  have HR := Lib.hid h
  have HWW := Lib.hid hW
  have HNN := Lib.hid hN
  have hsz : (mkB (textT T i)).size ≤ maxLen := by
    have := text_len hW i
    have e : (mkB (textT T i)).size = (textT T i).length := by simp [mkB, ByteArray.size]
    rw [e]; unfold maxLen; omega
  have TN := Lib.hid (fun (w' : World) (hb : Below w.heap.size w w') => tname_any (mkB (textT T i)) w' (hN.keep hb) hsz)
  unfold PeekSays tokV at T1
  have HKL := Lib.hid (fun hh : kindT T i = 1 => kind_lt hh (by decide))
  obtain ⟨kd, hkd⟩ : ∃ kd, kindT T i = kd := ⟨_, rfl⟩
  rw [hkd] at T1 HE HKL
  obtain ⟨tn, htn⟩ : ∃ tn, treeName (mkB (textT T i)) = tn := ⟨_, rfl⟩
  rw [htn] at TN HE
  have HKD := Lib.hid hkd
  clear h hW hN hsz hkd htn
  by_cases hk : kd = 1
  · subst hk
    cases tn with
    | true =>
      have HS := Lib.hid (show nameT T i = some (textT T i) by rw [HE.out, if_pos ⟨rfl, rfl⟩])
      go_enter Tryz.func107, Tryz.ntmps107
      go_wp2_with fail
      refine (T1.out).mono ?_
      rintro e' w1 ⟨rfl, hb1⟩
      have hb2 := below_step hb1 (belowNew' w1 (.cells #[.int .i64 1, .string ⟨(textT T i).toArray⟩, .int .i64 (atT T E i)] 115))
      have T2 := Lib.hid (TN.out _ hb2)
      have HB2 := Lib.hid hb2
      clear hb1 hb2 T1 TN
      unfold mkB at T2
      go_wp2_with fail
      refine (T2.out).mono ?_
      rintro e' w3 ⟨rfl, hb3⟩
      have hb23 := below_step HB2.out hb3
      have T3 := Lib.hid (take_any (HR.out.keep hb23) HWW.out (HKL.out trivial))
      unfold TakeSays tokV at T3
      rw [HKD.out] at T3
      have HB3 := Lib.hid hb23
      clear hb3 hb23 T2
      go_wp2_with fail
      refine (T3.out).mono ?_
      rintro e' w4 ⟨rfl, hr4, hn4⟩
      have HF := Lib.hid (show NameSays T E rb A c i w (.returned (.string (mkB (textT T i)))) w4 from Or.inl ⟨_, HS.out, rfl, hr4, (Only.of_below HB3.out).trans hn4⟩)
      have fd := field_text 1 ⟨(textT T i).toArray⟩ (atT T E i)
      clear hr4 hn4 T3
      go_wp2_with fail
      go_ret
      exact HF.out
    | false =>
      have HS := Lib.hid (show nameT T i = none by rw [HE.out, if_neg (by simp)])
      go_enter Tryz.func107, Tryz.ntmps107
      go_wp2_with fail
      refine (T1.out).mono ?_
      rintro e' w1 ⟨rfl, hb1⟩
      have hb2 := below_step hb1 (belowNew' w1 (.cells #[.int .i64 1, .string ⟨(textT T i).toArray⟩, .int .i64 (atT T E i)] 115))
      have T2 := Lib.hid (TN.out _ hb2)
      have HB2 := Lib.hid hb2
      clear hb1 hb2 T1 TN
      unfold mkB at T2
      go_wp2_with fail
      refine (T2.out).mono ?_
      rintro e' w3 ⟨rfl, hb3⟩
      have hb23 := below_step HB2.out hb3
      have T3 := Lib.hid (fail_any (HR.out.keep hb23) HWW.out)
      have HB3 := Lib.hid hb23
      clear hb3 hb23 T2
      go_wp2_with fail
      refine (T3.out).mono ?_
      rintro e' w4 ⟨rfl, hb4⟩
      have HN4 := Lib.hid (Only.of_below (S := fun k => k = rb) (below_step HB3.out hb4))
      clear hb4 T3
      unfold wrongAt
      go_wp2_with fail
      exact ⟨rfl, Or.inr ⟨HS.out, rfl, HN4.out⟩⟩
  · have HS := Lib.hid (show nameT T i = none by rw [HE.out, if_neg (fun hh => hk hh.1)])
    have g1 : (kd == 1) = false := beq_eq_false_iff_ne.2 hk
    have g2 : (kd != 1) = true := by show (!(kd == 1)) = true; rw [g1]; rfl
    clear hk
    go_enter Tryz.func107, Tryz.ntmps107
    go_wp2_with fail
    refine (T1.out).mono ?_
    rintro e' w1 ⟨rfl, hb1⟩
    have hb2 := below_step hb1 (belowNew' w1 (.cells #[.int .i64 kd, .string ⟨(textT T i).toArray⟩, .int .i64 (atT T E i)] 115))
    have T3 := Lib.hid (fail_any (HR.out.keep hb2) HWW.out)
    have HB2 := Lib.hid hb2
    clear hb1 hb2 T1 TN
    go_wp2_with fail
    refine (T3.out).mono ?_
    rintro e' w4 ⟨rfl, hb4⟩
    have HN4 := Lib.hid (Only.of_below (S := fun k => k = rb) (below_step HB2.out hb4))
    clear hb4 T3
    unfold wrongAt
    go_wp2_with fail
    exact ⟨rfl, Or.inr ⟨HS.out, rfl, HN4.out⟩⟩
theorem txtAt {w : World} {A : Option Addr} {n c : Nat} {zs : List ByteArray} (h : Sees w A n c 1 (strCells zs)) {k : Nat} (hk : k < n) :
    ∃ g o z, A = some ⟨g, o, none⟩ ∧ zs[k]? = some z ∧ w.cell? ⟨g, o + k, none⟩ = some (.string z) := by
  obtain ⟨g, o, u, e, hu, hc⟩ := h.at_ hk
  obtain ⟨z, hz, rfl⟩ := strCells_at hu
  exact ⟨g, o, z, e, hz, hc⟩
theorem txtLen {w : World} {A : Option Addr} {n c : Nat} {zs : List ByteArray} (h : Sees w A n c 1 (strCells zs)) : zs.length = n := by have := h.1; simpa [strCells] using this
set_option maxHeartbeats 1000000 in
set_option maxRecDepth 100000 in
theorem idx_is {T : List Tok} {E : Nat} {w : World} {rb : Nat} {A : Option Addr} {c i : Nat} (h : RdAt T E w rb A c i) (hW : Words T E) (zs : List ByteArray) (Z : Option Addr) (nz cz : Nat) (hz : Sees w Z nz cz 1 (strCells zs)) :
    Calls Tryz.prog 211 #[.slice Z nz cz, .func (.func 165) #[.pointer (some ⟨rb, 0, none⟩)] #[]] w
      fun r w' => r = .returned (.int .i64 (findB (fun s : ByteArray => isT T i s.data.toList) zs)) ∧ Below w.heap.size w w' := by
  have HR := Lib.hid h
  have HWW := Lib.hid hW
  have HZ := Lib.hid hz
  have hcap : nz ≤ cz := hz.2.1
  have hmax : cz ≤ maxLen := hz.2.2.1
  unfold maxLen at hmax
  have HLn := Lib.hid (txtLen hz)
  clear h hW hz
  go_enter Tryz.func211, Tryz.ntmps211
  go_wp2_with fail
  go_loopw [5, 8] (fun _ i' wr => ∃ k : Nat, k ≤ nz ∧ i' = .int .i64 k ∧ (∀ x ∈ zs.take k, isT T i x.data.toList = false) ∧ Below w.heap.size w wr) (fun _ i' _ => nz - (intOf i').toNat)
  case atStart => exact ⟨0, by omega, rfl, by simp, Below.refl _ _⟩
  case round =>
    obtain ⟨k, hk, rfl, hno, hb⟩ := hrel
    have HN := Lib.hid hno
    have HBR := Lib.hid hb
    clear hno
    by_cases hlk : k < nz
    · obtain ⟨g, o, z, rfl, hzz, c1⟩ := txtAt (HZ.out.keep hb) hlk
      have HX := Lib.hid hzz
      have TI := Lib.hid (is_any (HR.out.keep hb) HWW.out z)
      clear hb hzz
      generalize hB : isT T i z.data.toList = r at TI
      cases r with
      | true =>
        have E1 := Lib.hid (findB_some (p := fun s : ByteArray => isT T i s.data.toList) HN.out HX.out hB)
        clear hB
        go_wp2_with fail
        refine (TI.out).mono ?_
        rintro e' w1 ⟨rfl, hb1⟩
        have HB1 := Lib.hid (below_step HBR.out hb1)
        clear hb1
        go_wp2_with fail
        go_ret
        exact ⟨by rw [E1.out]; rfl, HB1.out⟩
      | false =>
        have HBB := Lib.hid hB
        clear hB
        go_wp2_with fail
        refine (TI.out).mono ?_
        rintro e' w1 ⟨rfl, hb1⟩
        have HB1 := Lib.hid (below_step HBR.out hb1)
        clear hb1
        go_wp2_with fail
        go_roundw
        case rel => exact ⟨k + 1, by omega, by go_num, take_next HN.out HX.out HBB.out, HB1.out⟩
        case measure => simp [intOf]; omega
    · have E1 := Lib.hid (findB_none (p := fun s : ByteArray => isT T i s.data.toList) (l := zs) (by have := HN.out; rwa [List.take_of_length_le (by rw [HLn.out]; omega)] at this))
      clear hb
      go_wp2_with fail
      go_ret
      exact ⟨by rw [E1.out]; rfl, HBR.out⟩
set_option maxRecDepth 100000 in
theorem anyIs {T : List Tok} {E : Nat} {w : World} {rb : Nat} {A : Option Addr} {c i : Nat} (h : RdAt T E w rb A c i) (hW : Words T E) (zs : List ByteArray) (Z : Option Addr) (nz cz : Nat) (hz : Sees w Z nz cz 1 (strCells zs)) :
    Calls Tryz.prog 164 #[.slice Z nz cz, .func (.func 165) #[.pointer (some ⟨rb, 0, none⟩)] #[]] w
      fun r w' => r = .returned (.bool (zs.any fun s => isT T i s.data.toList)) ∧ Below w.heap.size w w' := by
  have TI := Lib.hid (idx_is h hW zs Z nz cz hz)
  have E1 := Lib.hid (findB_any (fun s : ByteArray => isT T i s.data.toList) zs)
  clear h hW hz
  generalize findB (fun s : ByteArray => isT T i s.data.toList) zs = r at TI E1 ⊢
  go_enter Tryz.func164, Tryz.ntmps164
  go_wp2_with fail
  refine (TI.out).mono ?_
  rintro e' w1 ⟨rfl, hb1⟩
  have HB1 := Lib.hid hb1
  clear hb1
  go_wp2_with fail
  go_ret
  exact ⟨by rw [← E1.out]; rfl, HB1.out⟩
/-- A sign of one level, taken if it is there. -/
def OneSays (T : List Tok) (E : Nat) (rb : Nat) (A : Option Addr) (c n i : Nat) (w : World) (e : Ending) (w' : World) : Prop :=
  (∃ s, sgT T n i = some s ∧ e = .returned (.tuple #[tokV T E i, .bool true]) ∧ RdAt T E w' rb A c (i + 1) ∧ Only (fun k => k = rb) w w') ∨
  (sgT T n i = none ∧ e = .returned (.tuple #[.agg #[.int .i64 0, .string ⟨#[]⟩, .int .i64 0], .bool false]) ∧ RdAt T E w' rb A c i ∧ Only (fun k => k = rb) w w')
theorem lvl_any (T : List Tok) (n i : Nat) : ((lvlB n).any fun s => isT T i s.data.toList) = (lvlL n).any (fun s => isT T i s) := by
  unfold lvlB
  rw [List.any_map]
  rfl
set_option maxHeartbeats 1000000 in
set_option maxRecDepth 100000 in
theorem one_any {T : List Tok} {E : Nat} {w : World} {rb : Nat} {A : Option Addr} {c i : Nat} (h : RdAt T E w rb A c i) (hW : Words T E) (n : Nat) (Z : Option Addr) (nz cz : Nat) (hz : Sees w Z nz cz 1 (strCells (lvlB n))) :
    Calls Tryz.prog 189 #[.pointer (some ⟨rb, 0, none⟩), .slice Z nz cz] w (OneSays T E rb A c n i w) := by
  have hmf : ∀ (fn : Fn) (first cap : Array Value) (w : World), (Instr.makeFunc fn first cap).run Tryz.prog w = .ok (.func fn first cap) w := fun _ _ _ _ => rfl
  obtain ⟨w0, hw0⟩ : ∃ w0, w.alloc (.cells #[.int .i64 0, .string ⟨#[]⟩, .int .i64 0] 115) = w0 := ⟨_, rfl⟩
  have hb0 : Below w.heap.size w w0 := by rw [← hw0]; exact belowNew' _ _
  have ho0 : Own3T w0 w.heap.size 0 ⟨#[]⟩ 0 := by rw [← hw0]; exact own3t_new w _ _ _
  have T1 := Lib.hid (anyIs (h.keep hb0) hW (lvlB n) Z nz cz (hz.keep hb0))
  rw [lvl_any] at T1
  have HO := Lib.hid ho0
  have HB := Lib.hid hb0
  have HW := Lib.hid hw0
  have HR := Lib.hid (h.keep hb0)
  have HWW := Lib.hid hW
  have HLT := Lib.hid h.lt
  have HOLD := Lib.hid (show 0 < T.length → ∀ ad, A = some ad → ad.block < w.heap.size from h.old)
  have HSG := Lib.hid (show sgT T n i = if (lvlL n).any (fun s => isT T i s) = true then some (textT T i) else none from rfl)
  have HIL := Lib.hid (fun hh : (lvlL n).any (fun s => isT T i s) = true => show i < T.length by obtain ⟨s, _, h2⟩ := List.any_eq_true.1 hh; exact isT_lt h2)
  generalize (lvlL n).any (fun s => isT T i s) = b at T1 HSG HIL
  clear h hW hz hw0 hb0 ho0
  cases b with
  | true =>
    go_enter Tryz.func189, Tryz.ntmps189
    go_wp2_with (first | rw [HW.out])
    refine (T1.out).mono ?_
    rintro e' w1 ⟨rfl, hb1⟩
    have T2 := Lib.hid (take_any (HR.out.keep hb1) HWW.out (HIL.out trivial))
    unfold TakeSays tokV at T2
    have HO1 := Lib.hid (HO.out.keep hb1)
    have HN1 := Lib.hid (Only.of_below (S := fun k => k = rb) (below_step HB.out hb1))
    clear hb1 T1
    go_wp2_with fail
    refine (T2.out).mono ?_
    rintro e' w2 ⟨rfl, hr2, hn2⟩
    have hoz : Own3T w2 w.heap.size 0 ⟨#[]⟩ 0 := (hn2.block _ HO1.out.lt (by have := HLT.out; omega)).trans HO1.out
    have HR2 := Lib.hid hr2
    have HN2 := Lib.hid (HN1.out.trans hn2)
    have HOZ := Lib.hid hoz
    obtain ⟨z0, z1, z2⟩ := hoz.cells
    obtain ⟨f0, f1, f2⟩ := hoz.frees
    clear hr2 hn2 hoz T2
    go_wp2_with fail
    have HO9 := own3t_set HOZ.out (kindT T i) ⟨(textT T i).toArray⟩ (atT T E i)
    have HN9 := Lib.hid (((HN2.out.setNew (p := ⟨w.heap.size, 0, none⟩) (Nat.le_refl _) (.int .i64 (kindT T i))).setNew (p := ⟨w.heap.size, 1, none⟩) (Nat.le_refl _) (.string ⟨(textT T i).toArray⟩)).setNew (p := ⟨w.heap.size, 2, none⟩) (Nat.le_refl _) (.int .i64 (atT T E i)))
    have HR9 := Lib.hid (HR2.out.set (b := w.heap.size) ⟨by have := HLT.out; omega, fun h0 ad e => by have := HOLD.out h0 ad e; omega⟩ (.int .i64 (kindT T i)) (.string ⟨(textT T i).toArray⟩) (.int .i64 (atT T E i)))
    generalize ((w2.setCell ⟨w.heap.size, 0, none⟩ (.int .i64 (kindT T i))).setCell ⟨w.heap.size, 1, none⟩ (.string ⟨(textT T i).toArray⟩)).setCell ⟨w.heap.size, 2, none⟩ (.int .i64 (atT T E i)) = w9 at HO9 HN9 HR9 ⊢
    obtain ⟨o0, o1, o2⟩ := HO9.cells
    refine bodyPost_ret (v := .tuple #[tokV T E i, .bool true]) ?_ rfl (Or.inl ⟨_, by rw [HSG.out, if_pos trivial], rfl, HR9.out, HN9.out⟩)
    simp [results, Tryz.results189, go_sem, o0, o1, o2, tokV]
  | false =>
    go_enter Tryz.func189, Tryz.ntmps189
    go_wp2_with (first | rw [HW.out])
    refine (T1.out).mono ?_
    rintro e' w1 ⟨rfl, hb1⟩
    have HR1 := Lib.hid (HR.out.keep hb1)
    have hoz := HO.out.keep hb1
    have HN1 := Lib.hid (Only.of_below (S := fun k => k = rb) (below_step HB.out hb1))
    have HOZ := Lib.hid hoz
    obtain ⟨z0, z1, z2⟩ := hoz.cells
    obtain ⟨f0, f1, f2⟩ := hoz.frees
    clear hb1 T1 hoz
    go_wp2_with fail
    have HO9 := own3t_set HOZ.out 0 ⟨#[]⟩ 0
    have HN9 := Lib.hid (((HN1.out.setNew (p := ⟨w.heap.size, 0, none⟩) (Nat.le_refl _) (.int .i64 0)).setNew (p := ⟨w.heap.size, 1, none⟩) (Nat.le_refl _) (.string ⟨#[]⟩)).setNew (p := ⟨w.heap.size, 2, none⟩) (Nat.le_refl _) (.int .i64 0))
    have HR9 := Lib.hid (HR1.out.set (b := w.heap.size) ⟨by have := HLT.out; omega, fun h0 ad e => by have := HOLD.out h0 ad e; omega⟩ (.int .i64 0) (.string ⟨#[]⟩) (.int .i64 0))
    generalize ((w1.setCell ⟨w.heap.size, 0, none⟩ (.int .i64 0)).setCell ⟨w.heap.size, 1, none⟩ (.string ⟨#[]⟩)).setCell ⟨w.heap.size, 2, none⟩ (.int .i64 0) = w9 at HO9 HN9 HR9 ⊢
    obtain ⟨o0, o1, o2⟩ := HO9.cells
    refine bodyPost_ret (v := .tuple #[.agg #[.int .i64 0, .string ⟨#[]⟩, .int .i64 0], .bool false]) ?_ rfl (Or.inr ⟨by rw [HSG.out, if_neg (by simp)], rfl, HR9.out, HN9.out⟩)
    simp [results, Tryz.results189, go_sem, o0, o1, o2]
end Go.Proofs.YtpbbkpfaphjdoaaGreatDoor
