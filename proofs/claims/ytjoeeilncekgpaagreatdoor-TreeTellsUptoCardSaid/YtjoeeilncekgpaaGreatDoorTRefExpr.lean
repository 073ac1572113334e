import Derived.Test.YtjoeeilncekgpaaGreatDoorTRdr
import Derived.Test.YtjoeeilncekgpaaGreatDoorTRefBase
import Derived.Deep.QuietTactic
import Derived.BigQuiet
import Derived.BigRegion
import Derived.Test.YtjoeeilncekgpaaGreatDoorTRdParse
namespace Go.Proofs.YtjoeeilncekgpaaGreatDoor
open Go.ChangeShapes Go.WideShapes Go.ChangeAt Go.RowKit
def badV : Option Nat → Int
 | none => -1
 | some k => k
structure InAt (T : List Tok) (E : Nat) (w : World) (rb : Nat) (A : Option Addr) (c : Nat) (i : Nat) (bad : Option Nat) : Prop where
 box : w.heap[rb]? = some (.cells #[.slice A T.length c, .int .i64 i, .int .i64 E, .int .i64 (badV bad)] 92 (0, 0))
 toks : SeesToks w A T.length c T
 far : 0 < T.length → ∀ ad, A = some ad → ad.block ≠ rb
 le : i ≤ T.length
section
variable {T : List Tok} {E : Nat} {w w' : World} {rb : Nat} {A : Option Addr} {c i : Nat} {bad : Option Nat}
theorem InAt.lt (h : InAt T E w rb A c i bad) : rb < w.heap.size := (Array.getElem?_eq_some_iff.1 h.box).1
theorem InAt.keep (h : InAt T E w rb A c i bad) (hb : Below w.heap.size w w') : InAt T E w' rb A c i bad := ⟨(hb.block rb h.lt).trans h.box, h.toks.keep hb, h.far, h.le⟩
theorem InAt.cells (h : InAt T E w rb A c i bad) : w.cell? ⟨rb, 0, none⟩ = some (.slice A T.length c) ∧ w.cell? ⟨rb, 1, none⟩ = some (.int .i64 i) ∧ w.cell? ⟨rb, 2, none⟩ = some (.int .i64 E) ∧ w.cell? ⟨rb, 3, none⟩ = some (.int .i64 (badV bad)) :=
 ⟨by rw [cell_of_row _ _ _ _ _ _ h.box]; rfl, by rw [cell_of_row _ _ _ _ _ _ h.box]; rfl, by rw [cell_of_row _ _ _ _ _ _ h.box]; rfl, by rw [cell_of_row _ _ _ _ _ _ h.box]; rfl⟩
theorem InAt.frees (h : InAt T E w rb A c i bad) : w.frozen? ⟨rb, 1, none⟩ = false ∧ w.frozen? ⟨rb, 3, none⟩ = false := ⟨frozen_of_row _ _ _ _ _ h.box, frozen_of_row _ _ _ _ _ h.box⟩
theorem InAt.next (h : InAt T E w rb A c i bad) (hi : i < T.length) : InAt T E (w.setCell ⟨rb, 1, none⟩ (.int .i64 ((i : Int) + 1))) rb A c (i + 1) bad ∧ Only (fun k => k = rb) w (w.setCell ⟨rb, 1, none⟩ (.int .i64 ((i : Int) + 1))) := by
 have ho : Only (fun k => k = rb) w (w.setCell ⟨rb, 1, none⟩ (.int .i64 ((i : Int) + 1))) := (Only.refl (fun k => k = rb) w).setCell (p := ⟨rb, 1, none⟩) rfl _
 refine ⟨⟨?_, ⟨h.toks.1, ho.sees_far h.toks.2 (fun h0 ad e hr => h.far h0 ad e hr)⟩, h.far, hi⟩, ho⟩
 rw [heap_setCell_same _ _ _ _ _ _ h.box]
 rfl
theorem InAt.fails (h : InAt T E w rb A c i bad) (k : Nat) : InAt T E (w.setCell ⟨rb, 3, none⟩ (.int .i64 k)) rb A c i (some k) ∧ Only (fun k => k = rb) w (w.setCell ⟨rb, 3, none⟩ (.int .i64 k)) := by
 have ho : Only (fun k => k = rb) w (w.setCell ⟨rb, 3, none⟩ (.int .i64 k)) := (Only.refl (fun k => k = rb) w).setCell (p := ⟨rb, 3, none⟩) rfl _
 refine ⟨⟨?_, ⟨h.toks.1, ho.sees_far h.toks.2 (fun h0 ad e hr => h.far h0 ad e hr)⟩, h.far, h.le⟩, ho⟩
 rw [heap_setCell_same _ _ _ _ _ _ h.box]
 rfl
theorem InAt.old (h : InAt T E w rb A c i bad) (h0 : 0 < T.length) (ad : Addr) (e : A = some ad) : ad.block < w.heap.size := by
 obtain ⟨g, o, e2, hg, _⟩ := h.toks.2.2.2.2.2 h0
 rw [e] at e2
 injection e2 with e2
 rw [e2]; exact hg
theorem InAt.other {S : Nat → Prop} (h : InAt T E w rb A c i bad) (ho : Only S w w') (h1 : ¬ S rb) (h2 : 0 < T.length → ∀ ad, A = some ad → ¬ S ad.block) : InAt T E w' rb A c i bad :=
 ⟨(ho.block rb h.lt h1).trans h.box, ⟨h.toks.1, ho.sees_far h.toks.2 (fun h0 ad e hr => h2 h0 ad e hr)⟩, h.far, h.le⟩
end
def InSays (T : List Tok) (E : Nat) (rb : Nat) (A : Option Addr) (c : Nat) (i : Nat) (bad : Option Nat) (v : Value) (w : World) (e : Ending) (w' : World) : Prop := e = .returned v ∧ InAt T E w' rb A c i bad ∧ Only (fun k => k = rb) w w'
set_option maxHeartbeats 1000000 in
set_option maxRecDepth 100000 in
theorem inAt_any {T : List Tok} {E : Nat} {w : World} {rb : Nat} {A : Option Addr} {c i : Nat} {bad : Option Nat} (h : InAt T E w rb A c i bad) (hW : Words T E) : Calls Tryz.prog 96 #[.pointer (some ⟨rb, 0, none⟩)] w fun e w' => e = .returned (.int .i64 (atT T E i)) ∧ Below w.heap.size w w' := by
 obtain ⟨c0, c1, c2, c3⟩ := h.cells
 have hcap : T.length ≤ c := h.toks.2.2.1
 have hmax : c ≤ maxLen := h.toks.2.2.2.1
 unfold maxLen at hmax
 have hlen := hW.len
 have hle := h.le
 have HR := Lib.hid h
 obtain ⟨n, hn⟩ : ∃ n, T.length = n := ⟨_, rfl⟩
 have HN := Lib.hid hn
 rw [hn] at c0 hcap hlen hle
 clear hW hn
 by_cases hi : i < n
 ·have g1 : decide ((i : Int) < (n : Int)) = true := decide_eq_true (by omega)
  obtain ⟨g, o, x, rfl, hg, hx, d0, d1, d2⟩ := h.toks.at_ (k := i) (by rw [HN.out]; exact hi)
  have E1 := Lib.hid (show atT T E i = x.at_ by unfold atT; rw [hx])
  have HT := Lib.hid (show ∀ w', Below w.heap.size w w' → w'.cell? ⟨rb, 0, none⟩ = some (.slice (some ⟨g, o, none⟩) n c) ∧ w'.cell? ⟨rb, 1, none⟩ = some (.int .i64 i) ∧ w'.cell? ⟨g, o + i * 3 + 2, none⟩ = some (.int .i64 x.at_) from fun w' hb => ⟨(hb.cell h.lt).trans c0, (hb.cell h.lt).trans c1, (hb.cell hg).trans d2⟩)
  clear h hx
  go_enter Tryz.func96, Tryz.ntmps96
  go_wp2_with fail
  go_quiet (fail)
  have hby : Below w.heap.size w (w.drewN nq) := below_drewN (Below.refl _ _) nq
  generalize w.drewN nq = w1 at hby ⊢
  have HB1 := Lib.hid hby
  obtain ⟨q0, q1, q2⟩ := HT.out w1 hby
  clear c0 c1 c2 c3 d0 d1 d2 hby
  go_wp2_with fail
  go_quiet (fail)
  have HB2 := Lib.hid (below_drewN HB1.out nq)
  generalize w1.drewN nq = w2 at HB2 ⊢
  clear q0 q1 q2
  go_wp2_with fail
  go_ret
  rw [E1.out]
  exact ⟨rfl, HB2.out⟩
 ·have g1 : decide ((i : Int) < (n : Int)) = false := decide_eq_false (by omega)
  have E1 := Lib.hid (show atT T E i = E by unfold atT; rw [List.getElem?_eq_none (by rw [HN.out]; omega)])
  have HT := Lib.hid (show ∀ w', Below w.heap.size w w' → w'.cell? ⟨rb, 2, none⟩ = some (.int .i64 E) from fun w' hb => (hb.cell h.lt).trans c2)
  clear h
  go_enter Tryz.func96, Tryz.ntmps96
  go_wp2_with fail
  go_quiet (fail)
  have hby : Below w.heap.size w (w.drewN nq) := below_drewN (Below.refl _ _) nq
  generalize w.drewN nq = w1 at hby ⊢
  have HB1 := Lib.hid hby
  have q2 := HT.out w1 hby
  clear c0 c1 c2 c3 hby
  go_wp2_with fail
  go_ret
  rw [E1.out]
  exact ⟨rfl, HB1.out⟩
set_option maxHeartbeats 1000000 in
set_option maxRecDepth 100000 in
theorem inFail_any {T : List Tok} {E : Nat} {w : World} {rb : Nat} {A : Option Addr} {c i : Nat} {bad : Option Nat} (h : InAt T E w rb A c i bad) (hW : Words T E) : Calls Tryz.prog 66 #[.pointer (some ⟨rb, 0, none⟩)] w (InSays T E rb A c i (some (bad.getD (atT T E i))) (.tuple #[]) w) := by
 obtain ⟨c0, c1, c2, c3⟩ := h.cells
 have HR := Lib.hid h
 have T1 := Lib.hid (inAt_any h hW)
 cases bad with
 | none =>
  have g1 : decide ((-1 : Int) < 0) = true := rfl
  unfold badV at c3
  clear h hW
  go_enter Tryz.func66, Tryz.ntmps66
  go_wp2_with fail
  refine (T1.out).mono ?_
  rintro e' w1 ⟨rfl, hb1⟩
  have hr1 := HR.out.keep hb1
  obtain ⟨q0, q1, q2, q3⟩ := hr1.cells
  obtain ⟨f1, f3⟩ := hr1.frees
  obtain ⟨hr2, hn2⟩ := hr1.fails (atT T E i)
  have HR2 := Lib.hid hr2
  have HN2 := Lib.hid ((Only.of_below (S := fun k => k = rb) hb1).trans hn2)
  clear hb1 hr1 hr2 hn2 T1 c0 c1 c2 c3
  go_wp2_with fail
  go_end0
  exact ⟨rfl, HR2.out, HN2.out⟩
 | some k =>
  have g1 : decide ((k : Int) < 0) = false := decide_eq_false (by omega)
  have hk : ¬ (k : Int) < 0 := by omega
  unfold badV at c3
  clear h hW
  go_enter Tryz.func66, Tryz.ntmps66
  go_wp2_with fail
  go_end0
  exact ⟨rfl, HR.out, Only.refl _ _⟩
def isIn (T : List Tok) (i : Nat) (bad : Option Nat) (s : List UInt8) : Bool := bad.isNone && isT T i s
set_option maxHeartbeats 2000000 in
set_option maxRecDepth 100000 in
theorem inIs_any {T : List Tok} {E : Nat} {w : World} {rb : Nat} {A : Option Addr} {c i : Nat} {bad : Option Nat} (h : InAt T E w rb A c i bad) (hW : Words T E) (s : ByteArray) : Calls Tryz.prog 100 #[.pointer (some ⟨rb, 0, none⟩), .string s] w fun e w' => e = .returned (.bool (isIn T i bad s.data.toList)) ∧ Below w.heap.size w w' := by
 obtain ⟨c0, c1, c2, c3⟩ := h.cells
 have hcap : T.length ≤ c := h.toks.2.2.1
 have hmax : c ≤ maxLen := h.toks.2.2.2.1
 unfold maxLen at hmax
 have hlen := hW.len
 have hle := h.le
 obtain ⟨n, hn⟩ : ∃ n, T.length = n := ⟨_, rfl⟩
 have HN := Lib.hid hn
 rw [hn] at c0 hcap hlen hle
 cases bad with
 | some k =>
  have g0 : decide ((k : Int) < 0) = false := decide_eq_false (by omega)
  have hk : ¬ (k : Int) < 0 := by omega
  unfold badV at c3
  clear h hW hn
  go_enter Tryz.func100, Tryz.ntmps100
  go_wp2_with fail
  go_quiet (fail)
  have HB1 := Lib.hid (show Below w.heap.size w (w.drewN nq) from below_drewN (Below.refl _ _) nq)
  generalize w.drewN nq = w1 at HB1 ⊢
  go_wp2_with fail
  go_ret
  exact ⟨rfl, HB1.out⟩
 | none =>
  have g0 : decide ((-1 : Int) < 0) = true := rfl
  unfold badV at c3
  by_cases hi : i < n
  rotate_left
  ·have g1 : decide ((i : Int) < (n : Int)) = false := decide_eq_false (by omega)
   have E1 := Lib.hid (show isIn T i none s.data.toList = false by unfold isIn isT; rw [List.getElem?_eq_none (by omega)]; rfl)
   clear h hW hn
   go_enter Tryz.func100, Tryz.ntmps100
   go_wp2_with fail
   go_quiet (fail)
   have HB1 := Lib.hid (show Below w.heap.size w (w.drewN nq) from below_drewN (Below.refl _ _) nq)
   generalize w.drewN nq = w1 at HB1 ⊢
   go_wp2_with fail
   go_ret
   rw [E1.out]
   exact ⟨rfl, HB1.out⟩
  ·have g1 : decide ((i : Int) < (n : Int)) = true := decide_eq_true (by omega)
   obtain ⟨g, o, x, rfl, hg, hx, d0, d1, d2⟩ := h.toks.at_ (k := i) (by rw [hn]; exact hi)
   have E1 := Lib.hid (show isIn T i none s.data.toList = ((x.kind == 4 || x.kind == 1) && (x.text == s.data.toList)) by unfold isIn isT; rw [hx]; rfl)
   have HX := Lib.hid (show ((⟨x.text.toArray⟩ : ByteArray).toList == s.toList) = (x.text == s.data.toList) by rw [Lib.toList_data, Lib.toList_data])
   generalize x.kind = kd at d0 E1
   generalize ((⟨x.text.toArray⟩ : ByteArray)) = tx at d1 HX
   clear h hW hn hx
   rcases hb1 : (kd == 1) with _ | _
   ·rcases hb4 : (kd == 4) with _ | _
    ·have HF := Lib.hid (show isIn T i none s.data.toList = false by rw [E1.out, hb4, hb1]; rfl)
     go_enter Tryz.func100, Tryz.ntmps100
     go_wp2_with fail
     go_quiet (fail)
     have HB1 := Lib.hid (show Below w.heap.size w (w.drewN nq) from below_drewN (Below.refl _ _) nq)
     generalize w.drewN nq = w1 at HB1 ⊢
     go_wp2_with fail
     go_ret
     rw [HF.out]
     exact ⟨rfl, HB1.out⟩
    ·have HF := Lib.hid (show isIn T i none s.data.toList = (tx.toList == s.toList) by rw [E1.out, hb4, HX.out]; rfl)
     go_enter Tryz.func100, Tryz.ntmps100
     go_wp2_with fail
     go_quiet (fail)
     have HB1 := Lib.hid (show Below w.heap.size w (w.drewN nq) from below_drewN (Below.refl _ _) nq)
     generalize w.drewN nq = w1 at HB1 ⊢
     go_wp2_with fail
     go_ret
     rw [HF.out]
     exact ⟨rfl, HB1.out⟩
   ·have HF := Lib.hid (show isIn T i none s.data.toList = (tx.toList == s.toList) by rw [E1.out, hb1, HX.out, Bool.or_true]; rfl)
    go_enter Tryz.func100, Tryz.ntmps100
    go_wp2_with fail
    go_quiet (fail)
    have HB1 := Lib.hid (show Below w.heap.size w (w.drewN nq) from below_drewN (Below.refl _ _) nq)
    generalize w.drewN nq = w1 at HB1 ⊢
    go_wp2_with fail
    go_ret
    rw [HF.out]
    exact ⟨rfl, HB1.out⟩
theorem isIn_lt {T : List Tok} {i : Nat} {bad : Option Nat} {s : List UInt8} (h : isIn T i bad s = true) : i < T.length := by
 unfold isIn at h
 simp only [Bool.and_eq_true] at h
 exact isT_lt h.2
set_option maxHeartbeats 1000000 in
set_option maxRecDepth 100000 in
theorem inHas_any {T : List Tok} {E : Nat} {w : World} {rb : Nat} {A : Option Addr} {c i : Nat} {bad : Option Nat} (h : InAt T E w rb A c i bad) (hW : Words T E) (s : ByteArray) : Calls Tryz.prog 48 #[.pointer (some ⟨rb, 0, none⟩), .string s] w (InSays T E rb A c (if isIn T i bad s.data.toList = true then i + 1 else i) bad (.bool (isIn T i bad s.data.toList)) w) := by
 have T1 := Lib.hid (inIs_any h hW s)
 have HLT := Lib.hid (fun hh : isIn T i bad s.data.toList = true => isIn_lt hh)
 have HR := Lib.hid h
 have hlen := hW.len
 have hle := h.le
 have hil : i ≤ 400 := by omega
 generalize isIn T i bad s.data.toList = b at T1 HLT ⊢
 clear h hW hlen hle
 cases b with
 | true =>
  go_enter Tryz.func48, Tryz.ntmps48
  go_wp2_with fail
  refine (T1.out).mono ?_
  rintro e' w1 ⟨rfl, hb1⟩
  have hr1 := HR.out.keep hb1
  obtain ⟨hr3, hn3⟩ := hr1.next (HLT.out trivial)
  have HON := Lib.hid ((Only.of_below (S := fun k => k = rb) hb1).trans hn3)
  have HR3 := Lib.hid hr3
  obtain ⟨c0, c1, c2, c3⟩ := hr1.cells
  obtain ⟨f1, f3⟩ := hr1.frees
  have hw1r : IntKind.i64.wrap ((i : Int) + 1) = (i : Int) + 1 := IntWalk.i64_in _ (by omega)
  clear hb1 hr1 hr3 hn3 T1
  go_wp2_with fail
  go_ret
  exact ⟨rfl, HR3.out, HON.out⟩
 | false =>
  go_enter Tryz.func48, Tryz.ntmps48
  go_wp2_with fail
  refine (T1.out).mono ?_
  rintro e' w1 ⟨rfl, hb1⟩
  have HR3 := Lib.hid (HR.out.keep hb1)
  have HON := Lib.hid (Only.of_below (S := fun k => k = rb) hb1)
  clear hb1 T1
  go_wp2_with fail
  go_ret
  exact ⟨rfl, HR3.out, HON.out⟩
def needI (T : List Tok) (i : Nat) (bad : Option Nat) (s : List UInt8) : Nat := if isIn T i bad s = true then i + 1 else i
def needB (T : List Tok) (E : Nat) (i : Nat) (bad : Option Nat) (s : List UInt8) : Option Nat := if isIn T i bad s = true then bad else some (bad.getD (atT T E i))
set_option maxHeartbeats 1000000 in
set_option maxRecDepth 100000 in
theorem inNeed_any {T : List Tok} {E : Nat} {w : World} {rb : Nat} {A : Option Addr} {c i : Nat} {bad : Option Nat} (h : InAt T E w rb A c i bad) (hW : Words T E) (s : ByteArray) : Calls Tryz.prog 44 #[.pointer (some ⟨rb, 0, none⟩), .string s] w (InSays T E rb A c (needI T i bad s.data.toList) (needB T E i bad s.data.toList) (.tuple #[]) w) := by
 have T1 := Lib.hid (inHas_any h hW s)
 have HWW := Lib.hid hW
 unfold needI needB
 generalize isIn T i bad s.data.toList = b at T1 ⊢
 clear h hW
 cases b with
 | true =>
  go_enter Tryz.func44, Tryz.ntmps44
  go_wp2_with fail
  refine (T1.out).mono ?_
  rintro e' w1 ⟨rfl, hr1, hn1⟩
  have HR := Lib.hid hr1
  have HN := Lib.hid hn1
  clear hr1 hn1 T1
  go_wp2_with fail
  go_end0
  exact ⟨rfl, HR.out, HN.out⟩
 | false =>
  go_enter Tryz.func44, Tryz.ntmps44
  go_wp2_with fail
  refine (T1.out).mono ?_
  rintro e' w1 ⟨rfl, hr1, hn1⟩
  have T2 := Lib.hid (inFail_any (show InAt T E w1 rb A c i bad from hr1) HWW.out)
  have HN := Lib.hid hn1
  clear hr1 hn1 T1
  go_wp2_with fail
  refine (T2.out).mono ?_
  rintro e' w2 ⟨rfl, hr2, hn2⟩
  have HR2 := Lib.hid hr2
  have HN2 := Lib.hid (HN.out.trans hn2)
  clear hr2 hn2 T2
  go_wp2_with fail
  go_end0
  exact ⟨rfl, HR2.out, HN2.out⟩
def takeS (T : List Tok) (i : Nat) (bad : Option Nat) : Option (List UInt8) := if bad = none then nameT T i else none
def TakeInSays (T : List Tok) (E : Nat) (rb : Nat) (A : Option Addr) (c i : Nat) (bad : Option Nat) (w : World) (e : Ending) (w' : World) : Prop :=
 (∃ s, takeS T i bad = some s ∧ InSays T E rb A c (i + 1) bad (.string (mkB s)) w e w') ∨ (takeS T i bad = none ∧ InSays T E rb A c i (some (bad.getD (atT T E i))) (.string ⟨#[]⟩) w e w')
set_option maxHeartbeats 2000000 in
set_option maxRecDepth 100000 in
theorem inTake_any {T : List Tok} {E : Nat} {w : World} {rb : Nat} {A : Option Addr} {c i : Nat} {bad : Option Nat} (h : InAt T E w rb A c i bad) (hW : Words T E) : Calls Tryz.prog 47 #[.pointer (some ⟨rb, 0, none⟩)] w (TakeInSays T E rb A c i bad w) := by
 obtain ⟨c0, c1, c2, c3⟩ := h.cells
 have hcap : T.length ≤ c := h.toks.2.2.1
 have hmax : c ≤ maxLen := h.toks.2.2.2.1
 unfold maxLen at hmax
 have hlen := hW.len
 have hle := h.le
 have HR := Lib.hid h
 have HWW := Lib.hid hW
 obtain ⟨n, hn⟩ : ∃ n, T.length = n := ⟨_, rfl⟩
 have HN := Lib.hid hn
 rw [hn] at c0 hcap hlen hle
 cases bad with
 | some k =>
  have g0 : decide ((0 : Int) ≤ (k : Int)) = true := decide_eq_true (by omega)
  have hk : (0 : Int) ≤ (k : Int) := by omega
  have HS := Lib.hid (show takeS T i (some k) = none from if_neg (fun e => by cases e))
  unfold badV at c3
  clear h hW hn
  go_enter Tryz.func47, Tryz.ntmps47
  go_wp2_with fail
  go_quiet (fail)
  have hby : Below w.heap.size w (w.drewN nq) := below_drewN (Below.refl _ _) nq
  have T2 := Lib.hid (inFail_any (HR.out.keep hby) HWW.out)
  have HBY := Lib.hid hby
  generalize w.drewN nq = w1 at T2 HBY ⊢
  clear hby c0 c1 c2 c3
  go_wp2_with fail
  refine (T2.out).mono ?_
  rintro e' w2 ⟨rfl, hr2, hn2⟩
  have HR2 := Lib.hid hr2
  have HN2 := Lib.hid ((Only.of_below (S := fun k => k = rb) HBY.out).trans hn2)
  clear hr2 hn2 T2
  go_wp2_with fail
  go_ret
  exact Or.inr ⟨HS.out, rfl, HR2.out, HN2.out⟩
 | none =>
  have g0 : decide ((0 : Int) ≤ (-1 : Int)) = false := rfl
  unfold badV at c3
  by_cases hi : i < n
  rotate_left
  ·have g1 : decide ((n : Int) ≤ (i : Int)) = true := decide_eq_true (by omega)
   have HS := Lib.hid (show takeS T i none = none by unfold takeS nameT; rw [if_pos rfl, List.getElem?_eq_none (by omega)])
   clear h hW hn
   go_enter Tryz.func47, Tryz.ntmps47
   go_wp2_with fail
   go_quiet (fail)
   have hby : Below w.heap.size w (w.drewN nq) := below_drewN (Below.refl _ _) nq
   have T2 := Lib.hid (inFail_any (HR.out.keep hby) HWW.out)
   have HBY := Lib.hid hby
   generalize w.drewN nq = w1 at T2 HBY ⊢
   clear hby c0 c1 c2 c3
   go_wp2_with fail
   refine (T2.out).mono ?_
   rintro e' w2 ⟨rfl, hr2, hn2⟩
   have HR2 := Lib.hid hr2
   have HN2 := Lib.hid ((Only.of_below (S := fun k => k = rb) HBY.out).trans hn2)
   clear hr2 hn2 T2
   go_wp2_with fail
   go_ret
   exact Or.inr ⟨HS.out, rfl, HR2.out, HN2.out⟩
  ·have g1 : decide ((n : Int) ≤ (i : Int)) = false := decide_eq_false (by omega)
   obtain ⟨g, o, x, rfl, hg, hx, d0, d1, d2⟩ := h.toks.at_ (k := i) (by rw [hn]; exact hi)
   have HX := Lib.hid hx
   by_cases hk1 : x.kind = 1
   rotate_left
   ·have g2 : (x.kind != 1) = true := by simpa using hk1
    have HS := Lib.hid (show takeS T i none = none by unfold takeS nameT; rw [if_pos rfl, HX.out]; exact if_neg (fun e => hk1 e.1))
    clear h hW hn
    go_enter Tryz.func47, Tryz.ntmps47
    go_wp2_with fail
    go_quiet (fail)
    have hby : Below w.heap.size w (w.drewN nq) := below_drewN (Below.refl _ _) nq
    have T2 := Lib.hid (inFail_any (HR.out.keep hby) HWW.out)
    have HBY := Lib.hid hby
    generalize w.drewN nq = w1 at T2 HBY ⊢
    clear hby c0 c1 c2 c3
    go_wp2_with fail
    refine (T2.out).mono ?_
    rintro e' w2 ⟨rfl, hr2, hn2⟩
    have HR2 := Lib.hid hr2
    have HN2 := Lib.hid ((Only.of_below (S := fun k => k = rb) HBY.out).trans hn2)
    clear hr2 hn2 T2
    go_wp2_with fail
    go_ret
    exact Or.inr ⟨HS.out, rfl, HR2.out, HN2.out⟩
   ·have g2 : (x.kind != 1) = false := by simpa using hk1
    have HTX := Lib.hid (HWW.out.text x (List.mem_of_getElem? HX.out))
    have HT := Lib.hid (show ∀ w', Below w.heap.size w w' → w'.cell? ⟨rb, 0, none⟩ = some (.slice (some ⟨g, o, none⟩) n c) ∧ w'.cell? ⟨rb, 1, none⟩ = some (.int .i64 i) ∧ w'.cell? ⟨g, o + i * 3 + 1, none⟩ = some (.string ⟨x.text.toArray⟩) from fun w' hb => ⟨(hb.cell h.lt).trans c0, (hb.cell h.lt).trans c1, (hb.cell hg).trans d1⟩)
    have HK := Lib.hid (show takeS T i none = if treeName (mkB x.text) = true then some x.text else none by
     unfold takeS nameT; rw [if_pos rfl, HX.out]
     by_cases hx2 : treeName (mkB x.text) = true
     ·simp only [hk1, hx2, and_self, if_true]
     ·simp only [hk1, hx2, and_false, if_false, Bool.false_eq_true])
    have hsz : (mkB x.text).size ≤ maxLen := by
     have e : (mkB x.text).size = x.text.length := rfl
     have := HTX.out
     unfold maxLen; omega
    have HNM := Lib.hid (fun w' : World => rtname_any (mkB x.text) w' hsz)
    have HILT := Lib.hid (show i < T.length by rw [hn]; exact hi)
    have HGL := Lib.hid (show g < w.heap.size from hg)
    have HFAR := Lib.hid (show g ≠ rb from HR.out.far (by rw [hn]; omega) ⟨g, o, none⟩ rfl)
    clear h hW hn hx
    go_enter Tryz.func47, Tryz.ntmps47
    go_wp2_with fail
    go_quiet (fail)
    have hby : Below w.heap.size w (w.drewN nq) := below_drewN (Below.refl _ _) nq
    have HBY := Lib.hid hby
    obtain ⟨q0, q1, q2⟩ := HT.out _ hby
    generalize w.drewN nq = w1 at HBY q0 q1 q2 ⊢
    clear hby c0 c1 c2 c3 d0 d1 d2
    go_wp2_with fail
    go_still_tail 11, (by kernel_rfl)
    change wpList _ _ _ _ _ w1.drew
    have HBZ := Lib.hid (show Below w.heap.size w w1.drew from HBY.out.drew)
    generalize w1.drew = w2 at HBZ ⊢
    clear q0 q1 q2
    have T3 := Lib.hid (HNM.out w2)
    cases htn : treeName (mkB x.text) with
    | true =>
     rw [htn] at T3
     have HS := Lib.hid (show takeS T i none = some x.text by rw [HK.out, htn]; rfl)
     clear htn
     go_wp2_with fail
     refine (T3.out).mono ?_
     rintro e' w3 ⟨rfl, hb3⟩
     have hb := below_step HBZ.out hb3
     have hr3 := HR.out.keep hb
     obtain ⟨hr4, hn4⟩ := hr3.next HILT.out
     obtain ⟨w4, hw4⟩ : ∃ w4, w3.setCell ⟨rb, 1, none⟩ (.int .i64 ((i : Int) + 1)) = w4 := ⟨_, rfl⟩
     rw [hw4] at hr4 hn4
     have HN4 := Lib.hid ((Only.of_below (S := fun k => k = rb) hb).trans hn4)
     have HR4 := Lib.hid hr4
     obtain ⟨f0, f1, f2, f3⟩ := hr3.cells
     obtain ⟨z1, z3⟩ := hr3.frees
     obtain ⟨y0, y1, y2, y3⟩ := hr4.cells
     rw [HN.out] at y0
     have y1' : w4.cell? ⟨rb, 1, none⟩ = some (.int .i64 ((i : Int) + 1)) := by rw [y1, Int.natCast_add]; rfl
     have y4 : w4.cell? ⟨g, o + i * 3 + 1, none⟩ = some (.string ⟨x.text.toArray⟩) := (hn4.cell (p := ⟨g, o + i * 3 + 1, none⟩) (Nat.lt_of_lt_of_le HGL.out hb.size) (fun e => HFAR.out e)).trans ((HT.out w3 hb).2.2)
     have hw1r : IntKind.i64.wrap ((i : Int) + 1) = (i : Int) + 1 := IntWalk.i64_in _ (by omega)
     have hw2r : IntKind.i64.wrap ((i : Int) + 1 - 1) = (i : Int) := by rw [Int.add_sub_cancel]; exact IntWalk.i64_in _ (by omega)
     have HW4 := Lib.hid hw4
     clear hb hb3 hr3 hr4 hn4 hw4 T3 y1 HT
     go_wp2_with (first | rw [HW4.out])
     go_quiet (fail)
     have HN5 := Lib.hid (show Only (fun k => k = rb) w (w4.drewN nq) from HN4.out.drewN nq)
     have HR5 := Lib.hid (HR4.out.keep (below_drewN (Below.refl _ _) nq))
     generalize w4.drewN nq = w5 at HN5 HR5 ⊢
     go_wp2_with fail
     go_ret
     exact Or.inl ⟨_, HS.out, rfl, HR5.out, HN5.out⟩
    | false =>
     rw [htn] at T3
     have HS := Lib.hid (show takeS T i none = none by rw [HK.out, htn]; rfl)
     clear htn
     go_wp2_with fail
     refine (T3.out).mono ?_
     rintro e' w3 ⟨rfl, hb3⟩
     have hb := below_step HBZ.out hb3
     have T4 := Lib.hid (inFail_any (HR.out.keep hb) HWW.out)
     have HB3 := Lib.hid hb
     clear hb hb3 T3
     go_wp2_with fail
     refine (T4.out).mono ?_
     rintro e' w4 ⟨rfl, hr4, hn4⟩
     have HR4 := Lib.hid hr4
     have HN4 := Lib.hid ((Only.of_below (S := fun k => k = rb) HB3.out).trans hn4)
     clear hr4 hn4 T4
     go_wp2_with fail
     go_ret
     exact Or.inr ⟨HS.out, rfl, HR4.out, HN4.out⟩
end Go.Proofs.YtjoeeilncekgpaaGreatDoor
namespace Go.Proofs.YtjoeeilncekgpaaGreatDoor
open Go.ChangeShapes Go.WideShapes Go.ChangeAt Go.RowKit
def RdS (T : List Tok) (E : Nat) (m : Md) (i : Nat) (st : Option Nat) (r : PR) : Prop := match st with
 | none => Rd T E m i r
 | some k => r = .error k
def IsR (r : PR) (y : Ex) (j : Nat) (st : Option Nat) : Prop := match r with
 | .ok (x, j') => st = none ∧ j = j' ∧ strip y = x
 | .error k => st = some k
def ISays (T : List Tok) (E : Nat) (rb : Nat) (A : Option Addr) (c : Nat) (r : PR) (w : World) (e : Ending) (w' : World) : Prop :=
 ∃ y j st, e = .returned (exV y) ∧ SeesS (fun b => w.heap.size ≤ b) w' y ∧ InAt T E w' rb A c j st ∧ Only (fun k => k = rb) w w' ∧ IsR r y j st
theorem isays_put {T : List Tok} {E : Nat} {rb : Nat} {A : Option Addr} {c j R : Nat} {st : Option Nat} {r : PR} {w w4 w6 : World} {S : Nat → Prop} {y : Ex} (hN : Only (fun k => k = rb) w w4) (hI : InAt T E w4 rb A c j st) (hsy : SeesS S w4 y) (hS : ∀ b, S b → w.heap.size ≤ b ∧ b ≠ R) (hr : IsR r y j st) (ho : Only (fun k => k = R) w4 w6) (hR0 : R = w.heap.size) (h1 : rb < w.heap.size) (h2 : 0 < T.length → ∀ ad, A = some ad → ad.block < w.heap.size) :
  ISays T E rb A c r w (.returned (exV y)) w6 := by
 subst hR0
 exact ⟨y, j, st, rfl, (hsy.keep (alike_only2 ho (fun b hb hb2 => (hS b hb).2 hb2))).mono (fun b hb => (hS b hb).1), hI.other ho (by omega) (fun h0 ad e => by have := h2 h0 ad e; omega), hN.then_new ho (Nat.le_refl _), hr⟩
theorem isR_op1 {r r1 : PR} {y1 : Ex} {j : Nat} {st : Option Nat} {op : List UInt8} {pos b : Nat} (h : IsR r1 y1 j st) (hok : ∀ x j, r1 = .ok (x, j) → r = .ok (opEx op [x] pos, j)) (herr : ∀ k, r1 = .error k → r = .error k) : IsR r (.mk (mkB op) ⟨#[]⟩ noVal (some ⟨b, 0, none⟩) 1 [y1] pos) j st := by
 match r1, h with
 | .ok (x, j'), h =>
  obtain ⟨h1, rfl, rfl⟩ := h
  rw [hok _ _ rfl]
  exact ⟨h1, rfl, by rw [strip_mk, strips, strips]; rfl⟩
 | .error k, h => rw [herr _ rfl]; exact h
set_option maxHeartbeats 1000000 in
set_option maxRecDepth 100000 in
theorem ix_bad {T : List Tok} {E : Nat} (n : Int) {i k : Nat} (w : World) (rb : Nat) (A : Option Addr) (c : Nat) (hI : InAt T E w rb A c i (some k)) : Calls Tryz.prog 46 #[.pointer (some ⟨rb, 0, none⟩), .int .i64 n] w (ISays T E rb A c (.error k) w) := by
 obtain ⟨w0, hw0, ho0, hb0⟩ := box_zeroE w
 have hi0 := hI.keep hb0
 obtain ⟨c0, c1, c2, c3⟩ := hi0.cells
 have HW0 := Lib.hid hw0
 have HI0 := Lib.hid hi0
 have HZ0 := Lib.hid ho0
 have HN0 := Lib.hid (Only.of_below (S := fun k => k = rb) hb0)
 have HLT := Lib.hid hI.lt
 have HOLD := Lib.hid (show 0 < T.length → ∀ ad, A = some ad → ad.block < w.heap.size from hI.old)
 have g0 : decide ((0 : Int) ≤ (k : Int)) = true := decide_eq_true (by omega)
 have hk : (0 : Int) ≤ (k : Int) := by omega
 have bz := run_zero
 unfold badV at c3
 clear hI hw0 hi0 ho0 hb0
 go_enter Tryz.func46, Tryz.ntmps46
 go_wp2_with (first
  | rw [HW0.out]
  | (refine wpList_put7 rfl (.tmp 4) (.tmp 19) rfl (X := zeroE) HZ0.out rfl (by rfl) ?_; intro wl hzl hol; have HZL := Lib.hid hzl; have HOL := Lib.hid hol; clear hzl hol))
 obtain ⟨o0, o1, o2, o3, o4, o5, o6⟩ := HZL.out.cells
 refine bodyPost_ret (v := exV zeroE) ?_ rfl ?_
 ·simp [results, Tryz.results46, go_sem, o0, o1, o2, o3, o4, o5, o6, exV]
 ·exact isays_put HN0.out HI0.out (seesS_leaf (S := fun _ => False) (op := ⟨#[]⟩) (name := ⟨#[]⟩) (v := noVal) (Nat.zero_le _) (Nat.zero_le _) ⟨show fits 0 by decide, show fits 0 by decide, Nat.zero_le _⟩ (show fits 0 by decide)) (fun b hb => hb.elim) rfl HOL.out rfl HLT.out HOLD.out
set_option maxHeartbeats 2000000 in
set_option maxRecDepth 100000 in
theorem ix_not {T : List Tok} {E : Nat} (hW : Words T E) {i : Nat} (h : isT T i wNot = true) {r r1 : PR} (w : World) (rb : Nat) (A : Option Addr) (c : Nat) (hI : InAt T E w rb A c i none)
  (IH : ∀ w' : World, InAt T E w' rb A c (i + 1) none → Calls Tryz.prog 46 #[.pointer (some ⟨rb, 0, none⟩), .int .i64 2] w' (ISays T E rb A c r1 w'))
  (hok : ∀ x j, r1 = .ok (x, j) → r = .ok (opEx wNot [x] (atT T E i), j)) (herr : ∀ k, r1 = .error k → r = .error k) :
  Calls Tryz.prog 46 #[.pointer (some ⟨rb, 0, none⟩), .int .i64 2] w (ISays T E rb A c r w) := by
 obtain ⟨w0, hw0, ho0, hb0⟩ := box_zeroE w
 have hi0 := hI.keep hb0
 obtain ⟨c0, c1, c2, c3⟩ := hi0.cells
 have HW0 := Lib.hid hw0
 have HI0 := Lib.hid hi0
 have HZ0 := Lib.hid ho0
 have HN0 := Lib.hid (Only.of_below (S := fun k => k = rb) hb0)
 have HLT := Lib.hid hI.lt
 have HOLD := Lib.hid (show 0 < T.length → ∀ ad, A = some ad → ad.block < w.heap.size from hI.old)
 have T1 := Lib.hid (inAt_any hi0 hW)
 have HWW := Lib.hid hW
 have HH := Lib.hid (show isIn T i none (⟨#[110, 111, 116]⟩ : ByteArray).data.toList = true from h)
 have HIH := Lib.hid IH
 have HOK := Lib.hid hok
 have HER := Lib.hid herr
 unfold badV at c3
 clear hI hw0 hi0 ho0 hb0 h hW IH hok herr
 go_enter Tryz.func46, Tryz.ntmps46
 go_wp2_with (first | rw [HW0.out])
 refine (T1.out).mono ?_
 rintro e' w1 ⟨rfl, hb1⟩
 have HI1 := Lib.hid (HI0.out.keep hb1)
 have HN1 := Lib.hid (HN0.out.trans (.of_below hb1))
 have HZ1 := Lib.hid (HZ0.out.keep hb1)
 clear hb1 T1
 have T2 := Lib.hid (inHas_any HI1.out HWW.out ⟨#[110, 111, 116]⟩)
 rw [HH.out] at T2
 clear c0 c1 c2 c3
 go_wp2_with fail
 refine (T2.out).mono ?_
 rintro e' w2 ⟨rfl, hi2, hn2⟩
 have T3 := Lib.hid (HIH.out w2 hi2)
 have HN2 := Lib.hid (HN1.out.trans hn2)
 have HZ2 := Lib.hid (own7_only HZ1.out hn2 (fun e => by have := HLT.out; have e' : w.heap.size = rb := e; omega))
 clear hi2 hn2 T2
 go_wp2_with fail
 refine (T3.out).mono ?_
 rintro e' w3 ⟨y1, j, st, rfl, hy, hi3, hn3, hr⟩
 obtain ⟨w4, hw4, ho4, hb4, -⟩ := box_ex w3 y1
 have hb5 := belowNew' w4 (.cells #[.string y1.op, .string y1.name, .int .i64 y1.val.type, .int .i64 y1.val.n, .string y1.val.s, .slice y1.A y1.args.length y1.c, .int .i64 y1.pos] 26)
 have hrow : (w4.alloc (.cells #[.string y1.op, .string y1.name, .int .i64 y1.val.type, .int .i64 y1.val.n, .string y1.val.s, .slice y1.A y1.args.length y1.c, .int .i64 y1.pos] 26)).heap[w4.heap.size]? = some (.cells (exsCells [y1]).toArray 26 (0, 0)) := heap_alloc_new w4 _
 obtain ⟨w5, hw5⟩ : ∃ w5, w4.alloc (.cells #[.string y1.op, .string y1.name, .int .i64 y1.val.type, .int .i64 y1.val.n, .string y1.val.s, .slice y1.A y1.args.length y1.c, .int .i64 y1.pos] 26) = w5 := ⟨_, rfl⟩
 rw [hw5] at hb5 hrow
 have HN5 := Lib.hid ((HN2.out.trans hn3).trans ((Only.of_below (S := fun k => k = rb) hb4).trans (.of_below hb5)))
 have HI5 := Lib.hid ((hi3.keep hb4).keep hb5)
 have HL := Lib.hid (show w.heap.size < w4.heap.size from Nat.lt_of_lt_of_le (Nat.lt_of_lt_of_le HZ2.out.lt hn3.size) (Nat.le_of_lt ho4.lt))
 have HL2 := Lib.hid (show w.heap.size < w2.heap.size from HZ2.out.lt)
 have HZ5 := Lib.hid (((own7_only HZ2.out hn3 (fun e => by have := HLT.out; have e' : w.heap.size = rb := e; omega)).keep hb4).keep hb5)
 have HSY := Lib.hid (show SeesS (fun b => w.heap.size < b) w5 (.mk (mkB wNot) ⟨#[]⟩ noVal (some ⟨w4.heap.size, 0, none⟩) 1 [y1] (atT T E i)) from seesS_node (l := [y1]) hrow HL.out (show (1 : Nat) ≤ 400 by decide) (show 3 ≤ 400 by decide) (fits_at HWW.out i) (fun a ha => by
  simp only [List.mem_cons, List.not_mem_nil, or_false] at ha
  subst ha
  exact ((hy.keep (.of_below hb4)).keep (.of_below hb5)).mono (fun b hb => by have := HL2.out; have hb' : w2.heap.size ≤ b := hb; omega)))
 have HR := Lib.hid (isR_op1 (op := wNot) (pos := atT T E i) (b := w4.heap.size) hr HOK.out HER.out)
 obtain ⟨x0, x1, x2, x3, x4, x5, x6⟩ := ho4.cells
 have hl4 := ho4.lt
 have bd := run_op ⟨#[110, 111, 116]⟩ (atT T E i) (some ⟨w4.heap.size, 0, none⟩) 1 1
 have HW4 := Lib.hid hw4
 have HW5 := Lib.hid hw5
 clear hy hi3 hn3 hr hw4 ho4 hb4 hb5 hrow hw5 T3
 unfold exV
 go_wp2_with (first
  | rw [HW4.out] | rw [HW5.out]
  | (refine wpList_put7 rfl (.tmp 4) (.tmp 33) rfl (X := .mk (mkB wNot) ⟨#[]⟩ noVal (some ⟨w4.heap.size, 0, none⟩) 1 [y1] (atT T E i)) HZ5.out rfl (by rfl) ?_; intro wl hzl hol; have HZL := Lib.hid hzl; have HOL := Lib.hid hol; clear hzl hol))
 obtain ⟨o0, o1, o2, o3, o4, o5, o6⟩ := HZL.out.cells
 refine bodyPost_ret (v := exV (.mk (mkB wNot) ⟨#[]⟩ noVal (some ⟨w4.heap.size, 0, none⟩) 1 [y1] (atT T E i))) ?_ rfl ?_
 ·simp [results, Tryz.results46, go_sem, o0, o1, o2, o3, o4, o5, o6, exV]
 ·exact isays_put HN5.out HI5.out HSY.out (fun b hb => ⟨Nat.le_of_lt hb, fun e => by have hb' : w.heap.size < b := hb; omega⟩) HR.out HOL.out rfl HLT.out HOLD.out
set_option maxHeartbeats 2000000 in
set_option maxRecDepth 100000 in
theorem ix_neg {T : List Tok} {E : Nat} (hW : Words T E) {i : Nat} (h : isT T i wMinus = true) {r r1 : PR} (w : World) (rb : Nat) (A : Option Addr) (c : Nat) (hI : InAt T E w rb A c i none)
  (IH : ∀ w' : World, InAt T E w' rb A c (i + 1) none → Calls Tryz.prog 46 #[.pointer (some ⟨rb, 0, none⟩), .int .i64 5] w' (ISays T E rb A c r1 w'))
  (hok : ∀ x j, r1 = .ok (x, j) → r = .ok (opEx wNeg [x] (atT T E i), j)) (herr : ∀ k, r1 = .error k → r = .error k) :
  Calls Tryz.prog 46 #[.pointer (some ⟨rb, 0, none⟩), .int .i64 5] w (ISays T E rb A c r w) := by
 obtain ⟨w0, hw0, ho0, hb0⟩ := box_zeroE w
 have hi0 := hI.keep hb0
 obtain ⟨c0, c1, c2, c3⟩ := hi0.cells
 have HW0 := Lib.hid hw0
 have HI0 := Lib.hid hi0
 have HZ0 := Lib.hid ho0
 have HN0 := Lib.hid (Only.of_below (S := fun k => k = rb) hb0)
 have HLT := Lib.hid hI.lt
 have HOLD := Lib.hid (show 0 < T.length → ∀ ad, A = some ad → ad.block < w.heap.size from hI.old)
 have T1 := Lib.hid (inAt_any hi0 hW)
 have HWW := Lib.hid hW
 have HH := Lib.hid (show isIn T i none (⟨#[45]⟩ : ByteArray).data.toList = true from h)
 have HIH := Lib.hid IH
 have HOK := Lib.hid hok
 have HER := Lib.hid herr
 unfold badV at c3
 clear hI hw0 hi0 ho0 hb0 h hW IH hok herr
 go_enter Tryz.func46, Tryz.ntmps46
 go_wp2_with (first | rw [HW0.out])
 refine (T1.out).mono ?_
 rintro e' w1 ⟨rfl, hb1⟩
 have HI1 := Lib.hid (HI0.out.keep hb1)
 have HN1 := Lib.hid (HN0.out.trans (.of_below hb1))
 have HZ1 := Lib.hid (HZ0.out.keep hb1)
 clear hb1 T1
 have T2 := Lib.hid (inHas_any HI1.out HWW.out ⟨#[45]⟩)
 rw [HH.out] at T2
 clear c0 c1 c2 c3
 go_wp2_with fail
 refine (T2.out).mono ?_
 rintro e' w2 ⟨rfl, hi2, hn2⟩
 have T3 := Lib.hid (HIH.out w2 hi2)
 have HN2 := Lib.hid (HN1.out.trans hn2)
 have HZ2 := Lib.hid (own7_only HZ1.out hn2 (fun e => by have := HLT.out; have e' : w.heap.size = rb := e; omega))
 clear hi2 hn2 T2
 go_wp2_with fail
 refine (T3.out).mono ?_
 rintro e' w3 ⟨y1, j, st, rfl, hy, hi3, hn3, hr⟩
 obtain ⟨w4, hw4, ho4, hb4, -⟩ := box_ex w3 y1
 have hb5 := belowNew' w4 (.cells #[.string y1.op, .string y1.name, .int .i64 y1.val.type, .int .i64 y1.val.n, .string y1.val.s, .slice y1.A y1.args.length y1.c, .int .i64 y1.pos] 26)
 have hrow : (w4.alloc (.cells #[.string y1.op, .string y1.name, .int .i64 y1.val.type, .int .i64 y1.val.n, .string y1.val.s, .slice y1.A y1.args.length y1.c, .int .i64 y1.pos] 26)).heap[w4.heap.size]? = some (.cells (exsCells [y1]).toArray 26 (0, 0)) := heap_alloc_new w4 _
 obtain ⟨w5, hw5⟩ : ∃ w5, w4.alloc (.cells #[.string y1.op, .string y1.name, .int .i64 y1.val.type, .int .i64 y1.val.n, .string y1.val.s, .slice y1.A y1.args.length y1.c, .int .i64 y1.pos] 26) = w5 := ⟨_, rfl⟩
 rw [hw5] at hb5 hrow
 have HN5 := Lib.hid ((HN2.out.trans hn3).trans ((Only.of_below (S := fun k => k = rb) hb4).trans (.of_below hb5)))
 have HI5 := Lib.hid ((hi3.keep hb4).keep hb5)
 have HL := Lib.hid (show w.heap.size < w4.heap.size from Nat.lt_of_lt_of_le (Nat.lt_of_lt_of_le HZ2.out.lt hn3.size) (Nat.le_of_lt ho4.lt))
 have HL2 := Lib.hid (show w.heap.size < w2.heap.size from HZ2.out.lt)
 have HZ5 := Lib.hid (((own7_only HZ2.out hn3 (fun e => by have := HLT.out; have e' : w.heap.size = rb := e; omega)).keep hb4).keep hb5)
 have HSY := Lib.hid (show SeesS (fun b => w.heap.size < b) w5 (.mk (mkB wNeg) ⟨#[]⟩ noVal (some ⟨w4.heap.size, 0, none⟩) 1 [y1] (atT T E i)) from seesS_node (l := [y1]) hrow HL.out (show (1 : Nat) ≤ 400 by decide) (show 3 ≤ 400 by decide) (fits_at HWW.out i) (fun a ha => by
  simp only [List.mem_cons, List.not_mem_nil, or_false] at ha
  subst ha
  exact ((hy.keep (.of_below hb4)).keep (.of_below hb5)).mono (fun b hb => by have := HL2.out; have hb' : w2.heap.size ≤ b := hb; omega)))
 have HR := Lib.hid (isR_op1 (op := wNeg) (pos := atT T E i) (b := w4.heap.size) hr HOK.out HER.out)
 obtain ⟨x0, x1, x2, x3, x4, x5, x6⟩ := ho4.cells
 have hl4 := ho4.lt
 have bd := run_op ⟨#[110, 101, 103]⟩ (atT T E i) (some ⟨w4.heap.size, 0, none⟩) 1 1
 have HW4 := Lib.hid hw4
 have HW5 := Lib.hid hw5
 clear hy hi3 hn3 hr hw4 ho4 hb4 hb5 hrow hw5 T3
 unfold exV
 go_wp2_with (first
  | rw [HW4.out] | rw [HW5.out]
  | (refine wpList_put7 rfl (.tmp 4) (.tmp 45) rfl (X := .mk (mkB wNeg) ⟨#[]⟩ noVal (some ⟨w4.heap.size, 0, none⟩) 1 [y1] (atT T E i)) HZ5.out rfl (by rfl) ?_; intro wl hzl hol; have HZL := Lib.hid hzl; have HOL := Lib.hid hol; clear hzl hol))
 obtain ⟨o0, o1, o2, o3, o4, o5, o6⟩ := HZL.out.cells
 refine bodyPost_ret (v := exV (.mk (mkB wNeg) ⟨#[]⟩ noVal (some ⟨w4.heap.size, 0, none⟩) 1 [y1] (atT T E i))) ?_ rfl ?_
 ·simp [results, Tryz.results46, go_sem, o0, o1, o2, o3, o4, o5, o6, exV]
 ·exact isays_put HN5.out HI5.out HSY.out (fun b hb => ⟨Nat.le_of_lt hb, fun e => by have hb' : w.heap.size < b := hb; omega⟩) HR.out HOL.out rfl HLT.out HOLD.out
set_option maxHeartbeats 2000000 in
set_option maxRecDepth 100000 in
theorem ix_one {T : List Tok} {E : Nat} (hW : Words T E) {i : Nat} (h : isT T i wMinus = false) {r : PR} (w : World) (rb : Nat) (A : Option Addr) (c : Nat) (hI : InAt T E w rb A c i none)
  (IH : ∀ w' : World, InAt T E w' rb A c i none → Calls Tryz.prog 97 #[.pointer (some ⟨rb, 0, none⟩)] w' (ISays T E rb A c r w')) :
  Calls Tryz.prog 46 #[.pointer (some ⟨rb, 0, none⟩), .int .i64 5] w (ISays T E rb A c r w) := by
 obtain ⟨w0, hw0, ho0, hb0⟩ := box_zeroE w
 have hi0 := hI.keep hb0
 obtain ⟨c0, c1, c2, c3⟩ := hi0.cells
 have HW0 := Lib.hid hw0
 have HI0 := Lib.hid hi0
 have HZ0 := Lib.hid ho0
 have HN0 := Lib.hid (Only.of_below (S := fun k => k = rb) hb0)
 have HLT := Lib.hid hI.lt
 have HOLD := Lib.hid (show 0 < T.length → ∀ ad, A = some ad → ad.block < w.heap.size from hI.old)
 have T1 := Lib.hid (inAt_any hi0 hW)
 have HWW := Lib.hid hW
 have HH := Lib.hid (show isIn T i none (⟨#[45]⟩ : ByteArray).data.toList = false from h)
 have HIH := Lib.hid IH
 unfold badV at c3
 clear hI hw0 hi0 ho0 hb0 h hW IH
 go_enter Tryz.func46, Tryz.ntmps46
 go_wp2_with (first | rw [HW0.out])
 refine (T1.out).mono ?_
 rintro e' w1 ⟨rfl, hb1⟩
 have HI1 := Lib.hid (HI0.out.keep hb1)
 have HN1 := Lib.hid (HN0.out.trans (.of_below hb1))
 have HZ1 := Lib.hid (HZ0.out.keep hb1)
 clear hb1 T1
 have T2 := Lib.hid (inHas_any HI1.out HWW.out ⟨#[45]⟩)
 rw [HH.out] at T2
 clear c0 c1 c2 c3
 go_wp2_with fail
 refine (T2.out).mono ?_
 rintro e' w2 ⟨rfl, hi2, hn2⟩
 have T3 := Lib.hid (HIH.out w2 hi2)
 have HN2 := Lib.hid (HN1.out.trans hn2)
 have HZ2 := Lib.hid (own7_only HZ1.out hn2 (fun e => by have := HLT.out; have e' : w.heap.size = rb := e; omega))
 clear hi2 hn2 T2
 go_wp2_with fail
 refine (T3.out).mono ?_
 rintro e' w3 ⟨y1, j, st, rfl, hy, hi3, hn3, hr⟩
 have HN3 := Lib.hid (HN2.out.trans hn3)
 have HI3 := Lib.hid hi3
 have HL2 := Lib.hid (show w.heap.size < w2.heap.size from HZ2.out.lt)
 have HZ3 := Lib.hid (own7_only HZ2.out hn3 (fun e => by have := HLT.out; have e' : w.heap.size = rb := e; omega))
 have HY := Lib.hid hy
 have HR := Lib.hid hr
 clear hy hi3 hn3 hr T3
 unfold exV
 go_wp2_with (first
  | (refine wpList_put7 rfl (.tmp 4) (.tmp 49) rfl (X := y1) HZ3.out rfl (by rfl) ?_; intro wl hzl hol; have HZL := Lib.hid hzl; have HOL := Lib.hid hol; clear hzl hol))
 obtain ⟨o0, o1, o2, o3, o4, o5, o6⟩ := HZL.out.cells
 refine bodyPost_ret (v := exV y1) ?_ rfl ?_
 ·simp [results, Tryz.results46, go_sem, o0, o1, o2, o3, o4, o5, o6, exV]
 ·exact isays_put HN3.out HI3.out HY.out (fun b hb => by have := HL2.out; have hb' : w2.heap.size ≤ b := hb; exact ⟨by omega, by omega⟩) HR.out HOL.out rfl HLT.out HOLD.out
theorem rsigns_new (k : Nat) (hk : k < 5) (w : World) :
  Calls Tryz.prog 98 #[.int .i64 k] w fun e w' => (∃ A c, e = .returned (.slice A (lvlB k).length c) ∧ Sees w' A (lvlB k).length c 1 (strCells (lvlB k)) ∧ ∀ ad, A = some ad → w.heap.size ≤ ad.block) ∧ Below w.heap.size w w' := by
 obtain rfl | rfl | rfl | rfl | rfl : k = 0 ∨ k = 1 ∨ k = 2 ∨ k = 3 ∨ k = 4 := by omega
 ·go_enter Tryz.func98, Tryz.ntmps98
  go_wp2_with fail
  go_ret
  exact ⟨⟨some ⟨w.heap.size, 0, none⟩, 1, rfl, seesNew w (strCells (lvlB 0)) _ 1 1 rfl (by decide), fun ad e => by cases e; exact Nat.le_refl _⟩, belowNew _ _⟩
 ·go_enter Tryz.func98, Tryz.ntmps98
  go_wp2_with fail
  go_ret
  exact ⟨⟨some ⟨w.heap.size, 0, none⟩, 1, rfl, seesNew w (strCells (lvlB 1)) _ 1 1 rfl (by decide), fun ad e => by cases e; exact Nat.le_refl _⟩, belowNew _ _⟩
 ·go_enter Tryz.func98, Tryz.ntmps98
  go_wp2_with fail
  go_ret
  exact ⟨⟨some ⟨w.heap.size, 0, none⟩, 6, rfl, seesNew w (strCells (lvlB 2)) _ 6 1 rfl (by decide), fun ad e => by cases e; exact Nat.le_refl _⟩, belowNew _ _⟩
 ·go_enter Tryz.func98, Tryz.ntmps98
  go_wp2_with fail
  go_ret
  exact ⟨⟨some ⟨w.heap.size, 0, none⟩, 2, rfl, seesNew w (strCells (lvlB 3)) _ 2 1 rfl (by decide), fun ad e => by cases e; exact Nat.le_refl _⟩, belowNew _ _⟩
 ·go_enter Tryz.func98, Tryz.ntmps98
  go_wp2_with fail
  go_ret
  exact ⟨⟨some ⟨w.heap.size, 0, none⟩, 3, rfl, seesNew w (strCells (lvlB 4)) _ 3 1 rfl (by decide), fun ad e => by cases e; exact Nat.le_refl _⟩, belowNew _ _⟩
def msr (T : List Tok) (j : Nat) : Option Nat → Nat
 | none => T.length - j + 2
 | some _ => 1
theorem msr_eq (T : List Tok) (j : Nat) (st : Option Nat) : (if 0 ≤ badV st then 1 else T.length - j + 2) = msr T j st := by
 cases st with
 | none => rfl
 | some k => exact if_pos (by show (0 : Int) ≤ (k : Int); omega)
def isTrueV : Value → Bool
 | .bool b => b
 | _ => false
def inBad (w : World) (rb : Nat) : Int := match w.cell? ⟨rb, 3, none⟩ with
 | some (.int _ i) => i
 | _ => 0
theorem InAt.idx {T : List Tok} {E : Nat} {w : World} {rb : Nat} {A : Option Addr} {c i : Nat} {bad : Option Nat} (h : InAt T E w rb A c i bad) : rdIdx w rb = i := by
 unfold rdIdx
 rw [h.cells.2.1]
 simp
theorem InAt.bad {T : List Tok} {E : Nat} {w : World} {rb : Nat} {A : Option Addr} {c i : Nat} {bad : Option Nat} (h : InAt T E w rb A c i bad) : inBad w rb = badV bad := by
 unfold inBad
 rw [h.cells.2.2.2]
def LpS (T : List Tok) (E n : Nat) (r : PR) (i0 j : Nat) (st : Option Nat) (y : Ex) (b : Bool) : Prop := match st with
 | some k => r = .error k
 | none => i0 < j ∧ (if b = true then Rd T E (.lp n (strip y)) j r else r = .ok (strip y, j))
structure IxL (T : List Tok) (E rb : Nat) (A : Option Addr) (c : Nat) (w : World) (b8 : Nat) (j : Nat) (st : Option Nat) (y : Ex) (wr : World) : Prop where
 own : Own7 wr b8 y
 see : SeesS (fun b => w.heap.size < b ∧ b ≠ b8) wr y
 rd : InAt T E wr rb A c j st
 only : Only (fun k => k = rb) w wr
 res : Own7 wr w.heap.size zeroE
 new : w.heap.size < b8
 lt : rb < w.heap.size
 old : 0 < T.length → ∀ ad, A = some ad → ad.block < w.heap.size
section
variable {T : List Tok} {E rb : Nat} {A : Option Addr} {c : Nat} {w : World} {b8 j : Nat} {st : Option Nat} {y : Ex} {wr : World}
theorem IxL.to (h : IxL T E rb A c w b8 j st y wr) {w' : World} {j' : Nat} {st' : Option Nat} (ho : Only (fun k => k = rb) wr w') (hr : InAt T E w' rb A c j' st') : IxL T E rb A c w b8 j' st' y w' := by
 have h1 := h.lt
 have h2 := h.new
 exact ⟨own7_only h.own ho (fun e => by have e' : b8 = rb := e; omega), h.see.keep (alike_only2 ho (fun b hb e => by have := hb.1; have e' : b = rb := e; omega)), hr, h.only.trans ho, own7_only h.res ho (fun e => by have e' : w.heap.size = rb := e; omega), h2, h1, h.old⟩
theorem IxL.put (h : IxL T E rb A c w b8 j st y wr) {w' : World} {y' : Ex} (ho : Only (fun k => k = b8) wr w') (hown : Own7 w' b8 y') (hs : SeesS (fun b => w.heap.size < b ∧ b ≠ b8) wr y') : IxL T E rb A c w b8 j st y' w' := by
 have h1 := h.lt
 have h2 := h.new
 exact ⟨hown, hs.keep (alike_only2 ho (fun b hb e => hb.2 e)), h.rd.other ho (fun e => by have e' : rb = b8 := e; omega) (fun h0 ad e e2 => by have := h.old h0 ad e; have e' : ad.block = b8 := e2; omega), h.only.then_new ho (Nat.le_of_lt h2), own7_only h.res ho (fun e => by have e' : w.heap.size = b8 := e; omega), h2, h1, h.old⟩
theorem IxL.says (h : IxL T E rb A c w b8 j st y wr) {w' : World} {n i0 : Nat} {r : PR} (hl : LpS T E n r i0 j st y false) (ho : Only (fun b => b = w.heap.size) wr w') : ISays T E rb A c r w (.returned (exV y)) w' := by
 refine isays_put h.only h.rd h.see (fun b hb => ⟨Nat.le_of_lt hb.1, fun e => by have := hb.1; omega⟩) ?_ ho rfl h.lt h.old
 cases st with
 | some k => have hl : r = .error k := hl; rw [hl]; rfl
 | none =>
  obtain ⟨-, hl⟩ := hl
  have hl : r = .ok (strip y, j) := hl
  rw [hl]
  exact ⟨rfl, rfl, rfl⟩
end
theorem sgT_of {T : List Tok} {n j : Nat} {s : List UInt8} (hs : s ∈ lvlL n) (h : isT T j s = true) : sgT T n j = some s := by
 unfold sgT
 rw [if_pos (List.any_eq_true.2 ⟨s, hs, h⟩), isT_text h]
theorem sgT_no {T : List Tok} {n j : Nat} (h : ∀ s ∈ lvlL n, isT T j s = false) : sgT T n j = none := by
 unfold sgT
 rw [if_neg (fun e => by obtain ⟨s, hs, h2⟩ := List.any_eq_true.1 e; rw [h s hs] at h2; cases h2)]
theorem lpS_end {T : List Tok} {E n : Nat} {r : PR} {i0 j : Nat} {st : Option Nat} {y : Ex} (h : LpS T E n r i0 j st y true) (hno : ∀ s ∈ lvlL n, isIn T j st s = false) : LpS T E n r i0 j st y false := by
 cases st with
 | some k => exact h
 | none =>
  obtain ⟨h1, h2⟩ := h
  refine ⟨h1, ?_⟩
  have hs := sgT_no (T := T) (n := n) (j := j) (fun s hs => hno s hs)
  rcases lp_cases (by rw [if_pos rfl] at h2; exact h2 : Rd T E (.lp n (strip y)) j r) with ⟨-, hr⟩ | ⟨s', k, h, -, -⟩ | ⟨s', x2, j2, h, -, -⟩
  ·exact hr
  ·rw [hs] at h; cases h
  ·rw [hs] at h; cases h
theorem lpS_sign {T : List Tok} {E n : Nat} {r : PR} {i0 j : Nat} {st : Option Nat} {y : Ex} {s : List UInt8} (h : LpS T E n r i0 j st y true) (hs : s ∈ lvlL n) (hi : isIn T j st s = true) :
  st = none ∧ i0 < j ∧ j < T.length ∧ ∃ r2, Rd T E (.lv (n + 1)) (j + 1) r2 ∧ ∀ y2 j2 st2 b, IsR r2 y2 j2 st2 → LpS T E n r i0 j2 st2 (.mk (mkB s) ⟨#[]⟩ noVal (some ⟨b, 0, none⟩) 2 [y, y2] (atT T E j)) (decide (n ≠ 2)) ∧ (st2 = none → j < j2) := by
 unfold isIn at hi
 simp only [Bool.and_eq_true] at hi
 obtain ⟨h0, h1⟩ := hi
 cases st with
 | some k => cases h0
 | none =>
  obtain ⟨hij, hrd⟩ := h
  have hrd : Rd T E (.lp n (strip y)) j r := by rw [if_pos rfl] at hrd; exact hrd
  have hjl := isT_lt h1
  refine ⟨rfl, hij, hjl, ?_⟩
  have hsg := sgT_of hs h1
  rcases lp_cases hrd with ⟨h, -⟩ | ⟨s', k, h, ha, hr⟩ | ⟨s', x2, j2, h, ha, hr⟩
  ·rw [hsg] at h; cases h
  ·refine ⟨_, ha, fun y2 j2 st2 b hR => ?_⟩
   have hR : st2 = some k := hR
   subst hR
   exact ⟨hr, fun e => by cases e⟩
  ·obtain rfl : s = s' := by rw [hsg] at h; injection h
   refine ⟨_, ha, fun y2 j3 st2 b hR => ?_⟩
   obtain ⟨rfl, rfl, rfl⟩ := hR
   have hon := rd_on ha _ _ rfl hjl
   have hst : strip (.mk (mkB s) ⟨#[]⟩ noVal (some ⟨b, 0, none⟩) 2 [y, y2] (atT T E j)) = opEx s [strip y, strip y2] (atT T E j) := by rw [strip_mk, strips, strips, strips]; rfl
   refine ⟨⟨by omega, ?_⟩, fun _ => by omega⟩
   rw [hst]
   rcases hr with ⟨h2, hr⟩ | ⟨h2, hr⟩
   ·rw [if_neg (by simp [h2])]; exact hr
   ·rw [if_pos (by simp [h2])]; exact hr
theorem lvlB_at {n q : Nat} {w : World} {A : Option Addr} {c : Nat} (h : Sees w A (lvlB n).length c 1 (strCells (lvlB n))) (hq : q < (lvlB n).length) : ∃ g o s, A = some ⟨g, o, none⟩ ∧ g < w.heap.size ∧ (lvlL n)[q]? = some s ∧ w.cell? ⟨g, o + q, none⟩ = some (.string (mkB s)) := by
 obtain ⟨g, o, z, rfl, hz, hc⟩ := strs_at h hq
 unfold lvlB at hz
 rw [List.getElem?_map] at hz
 cases hs : (lvlL n)[q]? with
 | none => rw [hs] at hz; cases hz
 | some s => rw [hs] at hz; injection hz with hz; subst hz; exact ⟨g, o, s, rfl, World.block_lt_of_cell? w _ hc, rfl, hc⟩
set_option maxHeartbeats 16000000 in
set_option maxRecDepth 100000 in
theorem ix_go {T : List Tok} {E : Nat} (hW : Words T E) {n i : Nat} (hn : n < 5) (h2 : n = 2 → isT T i wNot = false) {r r1 : PR} (w : World) (rb : Nat) (A : Option Addr) (c : Nat) (hI : InAt T E w rb A c i none)
  (IH1 : ∀ w' : World, InAt T E w' rb A c i none → Calls Tryz.prog 46 #[.pointer (some ⟨rb, 0, none⟩), .int .i64 ((n : Int) + 1)] w' (ISays T E rb A c r1 w'))
  (IH2 : ∀ (i' : Nat) (r' : PR), i < i' → i' ≤ T.length → Rd T E (.lv (n + 1)) i' r' → ∀ w' : World, InAt T E w' rb A c i' none → Calls Tryz.prog 46 #[.pointer (some ⟨rb, 0, none⟩), .int .i64 ((n : Int) + 1)] w' (ISays T E rb A c r' w'))
  (hok : ∀ x j, r1 = .ok (x, j) → i < j ∧ Rd T E (.lp n x) j r) (herr : ∀ k, r1 = .error k → r = .error k) :
  Calls Tryz.prog 46 #[.pointer (some ⟨rb, 0, none⟩), .int .i64 n] w (ISays T E rb A c r w) := by
 obtain ⟨w0, hw0, ho0, hb0⟩ := box_zeroE w
 have hi0 := hI.keep hb0
 obtain ⟨c0, c1, c2, c3⟩ := hi0.cells
 have HW0 := Lib.hid hw0
 have HI0 := Lib.hid hi0
 have HZ0 := Lib.hid ho0
 have HN0 := Lib.hid (Only.of_below (S := fun k => k = rb) hb0)
 have HLT := Lib.hid hI.lt
 have HOLD := Lib.hid (show 0 < T.length → ∀ ad, A = some ad → ad.block < w.heap.size from hI.old)
 have hn5 : (n : Int) < 5 := by omega
 have hnw : IntKind.i64.wrap ((n : Int) + 1) = (n : Int) + 1 := IntWalk.i64_in _ (by omega)
 have g5 : ((n : Int) == 5) = false := beq_eq_false_iff_ne.2 (by omega)
 have T1 := Lib.hid (inAt_any hi0 hW)
 have HWW := Lib.hid hW
 have HIH1 := Lib.hid IH1
 have HIH2 := Lib.hid IH2
 have HOK := Lib.hid hok
 have HER := Lib.hid herr
 have TS := Lib.hid (fun w' => rsigns_new n hn w')
 have HLL := Lib.hid (show (lvlL n).length = (lvlB n).length by unfold lvlB; rw [List.length_map])
 have HL6 := Lib.hid (show (lvlB n).length ≤ 6 ∧ ∀ s ∈ lvlL n, s.length ≤ 400 from ⟨by
  have : ∀ m, m < 5 → (lvlB m).length ≤ 6 := by decide
  exact this n hn, fun s hs => by have := lvl_short hs; have e : (mkB s).size = s.length := rfl; omega⟩)
 unfold badV at c3
 clear hI hw0 hi0 ho0 hb0 hW IH1 IH2 hok herr
 by_cases hn2 : n = 2
 ·have g2 : ((n : Int) == 2) = true := beq_iff_eq.2 (by omega)
  have HH := Lib.hid (show isIn T i none (⟨#[110, 111, 116]⟩ : ByteArray).data.toList = false from h2 hn2)
  have HN22 := Lib.hid (show decide (n ≠ 2) = false by simp [hn2])
  clear hn2 h2 hn
  go_enter Tryz.func46, Tryz.ntmps46
  go_wp2_with (first | rw [HW0.out])
  refine (T1.out).mono ?_
  rintro e' w1 ⟨rfl, hb1⟩
  have HI1 := Lib.hid (HI0.out.keep hb1)
  have HN1 := Lib.hid (HN0.out.trans (.of_below hb1))
  have HZ1 := Lib.hid (HZ0.out.keep hb1)
  clear hb1 T1
  have T2 := Lib.hid (inHas_any HI1.out HWW.out ⟨#[110, 111, 116]⟩)
  rw [HH.out] at T2
  clear c0 c1 c2 c3
  go_wp2_with fail
  refine (T2.out).mono ?_
  rintro e' w2 ⟨rfl, hi2, hn2'⟩
  have HI2 := Lib.hid (show InAt T E w2 rb A c i none from hi2)
  have HN2 := Lib.hid (HN1.out.trans hn2')
  have HZ2 := Lib.hid (own7_only HZ1.out hn2' (fun e => by have := HLT.out; have e' : w.heap.size = rb := e; omega))
  clear hi2 hn2' T2
  have T3 := Lib.hid (HIH1.out w2 HI2.out)
  go_wp2_with fail
  refine (T3.out).mono ?_
  rintro e' w3 ⟨y0, j0, st0, rfl, hy, hi3, hn3, hr⟩
  obtain ⟨w4, hw4, ho4, hb4, -⟩ := box_ex w3 y0
  have HL2 := Lib.hid (show w.heap.size < w2.heap.size from HZ2.out.lt)
  have HX4 := Lib.hid (show IxL T E rb A c w w3.heap.size j0 st0 y0 w4 from ⟨ho4, ((seesS_lt2 hy).keep (.of_below hb4)).mono (fun b hb => by have := HL2.out; have h1 : w2.heap.size ≤ b := hb.1; have := hb.2; exact ⟨by omega, by omega⟩), hi3.keep hb4, (HN2.out.trans hn3).trans (.of_below hb4), (own7_only HZ2.out hn3 (fun e => by have := HLT.out; have e' : w.heap.size = rb := e; omega)).keep hb4, Nat.lt_of_lt_of_le HL2.out hn3.size, HLT.out, HOLD.out⟩)
  have HLP := Lib.hid (show LpS T E n r i j0 st0 y0 true by
   match r1, HOK, HER, hr with
   | .ok (x, j'), HOK, _, hr =>
    obtain ⟨rfl, rfl, rfl⟩ := hr
    exact ⟨(HOK.out _ _ rfl).1, by rw [if_pos rfl]; exact (HOK.out _ _ rfl).2⟩
   | .error k, _, HER, hr =>
    have hr : st0 = some k := hr
    subst hr
    exact HER.out _ rfl)
  have HW4 := Lib.hid hw4
  clear hy hi3 hn3 hr hw4 ho4 hb4 T3
  unfold exV
  have T4 := Lib.hid (TS.out w4)
  go_wp2_with (first | rw [HW4.out])
  generalize w3.heap.size = b8 at HX4 ⊢
  refine (T4.out).mono ?_
  rintro e' w5 ⟨⟨lA, lc, rfl, hls, hnew⟩, hb5⟩
  have HX5 := Lib.hid (HX4.out.to (.of_below hb5) (HX4.out.rd.keep hb5))
  have HLS := Lib.hid hls
  have lcap : (lvlB n).length ≤ lc := hls.2.1
  have lmax : lc ≤ maxLen := hls.2.2.1
  unfold maxLen at lmax
  obtain ⟨m, hm⟩ : ∃ m, (lvlB n).length = m := ⟨_, rfl⟩
  have hm6 : m ≤ 6 := by rw [← hm]; exact HL6.out.1
  have HM := Lib.hid hm
  have HB84 := Lib.hid (show rb < w4.heap.size ∧ b8 < w4.heap.size from ⟨HX4.out.rd.lt, HX4.out.own.lt⟩)
  have HLF := Lib.hid (show ∀ (w' : World) (q : Nat), Only (fun k => k = rb ∨ k = b8) w5 w' → q < m → ∃ g o s, lA = some ⟨g, o, none⟩ ∧ (lvlL n)[q]? = some s ∧ w'.cell? ⟨g, o + q, none⟩ = some (.string (mkB s)) from fun w' q hb hq => by
   obtain ⟨g, o, s, e1, hg, hs, hc⟩ := lvlB_at hls (by rw [hm]; exact hq)
   refine ⟨g, o, s, e1, hs, ?_⟩
   exact (hb.cell (p := ⟨g, o + q, none⟩) hg (fun e => by have := HB84.out; have h' : w4.heap.size ≤ g := hnew _ e1; rcases e with e | e; (have e' : g = rb := e; omega); (have e' : g = b8 := e; omega))).trans hc)
  rw [hm] at lcap ⊢
  clear hls hb5 hm T4 HW4 HX4 hnew
  go_wp2_with fail
  go_loopw [10] (fun b wr => ∃ (bb : Bool) (j : Nat) (st : Option Nat) (y : Ex), b = .bool bb ∧ IxL T E rb A c w b8 j st y wr ∧ LpS T E n r i j st y bb ∧ Only (fun k => k = rb ∨ k = b8) w5 wr) (fun b wr => if isTrueV b = true then (if 0 ≤ inBad wr rb then 1 else T.length - rdIdx wr rb + 2) else 0)
  case atStart => exact ⟨true, j0, st0, y0, rfl, HX5.out, HLP.out, Only.refl _ _⟩
  case round =>
   obtain ⟨bb, j, st, y, rfl, hx, hl, ho⟩ := hrel
   have HXR := Lib.hid hx
   have HLR := Lib.hid hl
   have HOR := Lib.hid ho
   clear hx hl ho
   cases bb with
   | false =>
     obtain ⟨t0, t1, t2, t3, t4, t5, t6⟩ := HXR.out.own.cells
     have hlt8 := HXR.out.own.lt
     go_wp2_with (first
      | (refine wpList_put7 rfl (.tmp 4) (.tmp 92) rfl (X := y) HXR.out.res rfl (by rfl) ?_; intro wl hzl hol; have HZL := Lib.hid hzl; have HOL := Lib.hid hol; clear hzl hol))
     obtain ⟨o0, o1, o2, o3, o4, o5, o6⟩ := HZL.out.cells
     refine bodyPost_ret (v := exV y) ?_ rfl ?_
     ·simp [results, Tryz.results46, go_sem, o0, o1, o2, o3, o4, o5, o6, exV]
     ·exact HXR.out.says HLR.out HOL.out
    | true =>
     have HMS := Lib.hid (show (if isTrueV (.bool true) = true then (if 0 ≤ inBad wr rb then 1 else T.length - rdIdx wr rb + 2) else 0) = msr T j st by
      show (if true = true then (if 0 ≤ inBad wr rb then 1 else T.length - rdIdx wr rb + 2) else 0) = msr T j st
      rw [if_pos rfl, HXR.out.rd.bad, HXR.out.rd.idx]
      exact msr_eq T j st)
     go_wp2_with fail
     go_loopw [10, 11] (fun b q wx => ∃ (bb : Bool) (k : Nat) (j' : Nat) (st' : Option Nat) (y' : Ex), b = .bool bb ∧ q = .int .i64 k ∧ k ≤ m ∧ IxL T E rb A c w b8 j' st' y' wx ∧ Only (fun k => k = rb ∨ k = b8) w5 wx ∧ ((bb = false ∧ j' = j ∧ st' = st ∧ y' = y ∧ ∀ s ∈ (lvlL n).take k, isIn T j st s = false) ∨ (bb = true ∧ st = none ∧ LpS T E n r i j' st' y' (decide (n ≠ 2)) ∧ (st' = none → j < j')))) (fun _ q _ => m - (intOf q).toNat)
     case atStart => exact ⟨false, 0, j, st, y, rfl, rfl, Nat.zero_le _, HXR.out, HOR.out, Or.inl ⟨rfl, rfl, rfl, rfl, fun s hs => by simp at hs⟩⟩
     case round =>
      obtain ⟨bb, k, j', st', y', rfl, rfl, hk, hx, ho, hway⟩ := hrel
      have HXX := Lib.hid hx
      have HOX := Lib.hid ho
      clear hx ho
      cases bb with
      | true =>
       obtain ⟨hst, hl, hjj⟩ : st = none ∧ LpS T E n r i j' st' y' (decide (n ≠ 2)) ∧ (st' = none → j < j') := by
        rcases hway with ⟨h, -⟩ | ⟨-, h⟩
        ·cases h
        ·exact h
       have HLX := Lib.hid hl
       have HJJ := Lib.hid hjj
       have HSTN := Lib.hid hst
       clear hway hl hjj hst hk
       by_cases hkm : k < m
       ·skip
        have HLF2 := Lib.hid (show LpS T E n r i j' st' y' false from by have h := HLX.out; rw [HN22.out] at h; exact h)
        obtain ⟨t0, t1, t2, t3, t4, t5, t6⟩ := HXX.out.own.cells
        have hlt8 := HXX.out.own.lt
        go_wp2_with (first
         | (refine wpList_put7 rfl (.tmp 4) (.tmp 92) rfl (X := y') HXX.out.res rfl (by rfl) ?_; intro wl hzl hol; have HZL := Lib.hid hzl; have HOL := Lib.hid hol; clear hzl hol))
        obtain ⟨o0, o1, o2, o3, o4, o5, o6⟩ := HZL.out.cells
        refine bodyPost_ret (v := exV y') ?_ rfl ?_
        ·simp [results, Tryz.results46, go_sem, o0, o1, o2, o3, o4, o5, o6, exV]
        ·exact HXX.out.says HLF2.out HOL.out
       ·skip
        have HLF2 := Lib.hid (show LpS T E n r i j' st' y' false from by have h := HLX.out; rw [HN22.out] at h; exact h)
        obtain ⟨t0, t1, t2, t3, t4, t5, t6⟩ := HXX.out.own.cells
        have hlt8 := HXX.out.own.lt
        go_wp2_with (first
         | (refine wpList_put7 rfl (.tmp 4) (.tmp 92) rfl (X := y') HXX.out.res rfl (by rfl) ?_; intro wl hzl hol; have HZL := Lib.hid hzl; have HOL := Lib.hid hol; clear hzl hol))
        obtain ⟨o0, o1, o2, o3, o4, o5, o6⟩ := HZL.out.cells
        refine bodyPost_ret (v := exV y') ?_ rfl ?_
        ·simp [results, Tryz.results46, go_sem, o0, o1, o2, o3, o4, o5, o6, exV]
        ·exact HXX.out.says HLF2.out HOL.out
      | false =>
       obtain ⟨rfl, rfl, rfl, hno⟩ : j' = j ∧ st' = st ∧ y' = y ∧ ∀ s ∈ (lvlL n).take k, isIn T j st s = false := by
        rcases hway with ⟨-, h⟩ | ⟨h, -⟩
        ·exact h
        ·cases h
       have HNO := Lib.hid hno
       clear hway hno
       by_cases hkm : k < m
       rotate_left
       ·have HEND := Lib.hid (lpS_end HLR.out (fun s hs => HNO.out s (by rw [List.take_of_length_le (by rw [HLL.out, HM.out]; omega)]; exact hs)))
        clear HNO
        obtain ⟨t0, t1, t2, t3, t4, t5, t6⟩ := HXX.out.own.cells
        have hlt8 := HXX.out.own.lt
        go_wp2_with (first
         | (refine wpList_put7 rfl (.tmp 4) (.tmp 92) rfl (X := y') HXX.out.res rfl (by rfl) ?_; intro wl hzl hol; have HZL := Lib.hid hzl; have HOL := Lib.hid hol; clear hzl hol))
        obtain ⟨o0, o1, o2, o3, o4, o5, o6⟩ := HZL.out.cells
        refine bodyPost_ret (v := exV y') ?_ rfl ?_
        ·simp [results, Tryz.results46, go_sem, o0, o1, o2, o3, o4, o5, o6, exV]
        ·exact HXX.out.says HEND.out HOL.out
       ·obtain ⟨g, o, s, rfl, hs, hcl⟩ := HLF.out wr k HOX.out hkm
        have T5 := Lib.hid (inAt_any HXX.out.rd HWW.out)
        have HSM := Lib.hid (List.mem_of_getElem? hs)
        have HS := Lib.hid hs
        clear hcl hs
        go_wp2_with fail
        refine (T5.out).mono ?_
        rintro e' wy ⟨rfl, hby⟩
        have HXY := Lib.hid (HXX.out.to (.of_below hby) (HXX.out.rd.keep hby))
        have HOY := Lib.hid (HOX.out.trans (.of_below hby))
        have T6 := Lib.hid (inHas_any HXY.out.rd HWW.out (mkB s))
        obtain ⟨s1, hcl⟩ : True ∧ wy.cell? ⟨g, o + k, none⟩ = some (.string (mkB s)) := ⟨trivial, by
         obtain ⟨g', o', s', e1, hs', hc'⟩ := HLF.out wy k HOY.out hkm
         injection e1 with e1
         injection e1 with e1 e2
         subst e1 e2
         rw [HS.out] at hs'
         injection hs' with hs'
         rw [hs']; exact hc'⟩
        clear hby T5 s1
        rw [show (mkB s).data.toList = s from rfl] at T6
        cases hin : isIn T j' st' s with
        | false =>
         rw [hin] at T6
         have HIN := Lib.hid hin
         clear hin
         go_wp2_with fail
         refine (T6.out).mono ?_
         rintro e' wz ⟨rfl, hiz, hnz⟩
         have HXZ := Lib.hid (HXY.out.to hnz hiz)
         have HOZ := Lib.hid (HOY.out.trans (hnz.mono (fun q e => Or.inl e)))
         clear hiz hnz T6 hcl
         go_wp2_with fail
         go_roundw
         case rel => exact ⟨false, k + 1, j', st', y', rfl, by go_num, by omega, HXZ.out, HOZ.out, Or.inl ⟨rfl, rfl, rfl, rfl, fun u hu => by
          rw [List.take_add_one, HS.out] at hu
          simp only [Option.toList_some, List.mem_append, List.mem_cons, List.not_mem_nil, or_false] at hu
          rcases hu with hu | rfl
          ·exact HNO.out u hu
          ·exact HIN.out⟩⟩
         case measure => simp [intOf]; omega
        | true =>
         rw [hin] at T6
         obtain ⟨rfl, hij, hjl, r2, hr2, hafter⟩ := lpS_sign HLR.out HSM.out hin
         have HAFT := Lib.hid hafter
         have HIJ := Lib.hid hij
         have HR2 := Lib.hid hr2
         have HJL := Lib.hid hjl
         clear hin hij hjl hr2 hafter
         go_wp2_with fail
         refine (T6.out).mono ?_
         rintro e' wz ⟨rfl, hiz, hnz⟩
         have hiz' : InAt T E wz rb A c (j' + 1) none := hiz
         have HXZ := Lib.hid (HXY.out.to hnz hiz')
         have HOZ := Lib.hid (HOY.out.trans (hnz.mono (fun q e => Or.inl e)))
         have T7 := Lib.hid (HIH2.out (j' + 1) r2 (by have := HIJ.out; omega) HJL.out HR2.out wz hiz')
         clear hiz hiz' hnz T6 hcl
         go_wp2_with fail
         refine (T7.out).mono ?_
         rintro e' wa ⟨y2, j2, st2, rfl, hy2, hia, hna, hR2⟩
         obtain ⟨wb, hwb, hob, hbb, -⟩ := box_ex wa y2
         have HXA := Lib.hid (HXZ.out.to hna hia)
         have HXB := Lib.hid (HXA.out.to (.of_below hbb) (hia.keep hbb))
         obtain ⟨wc, hwc, hoc, hbc, -⟩ := box_ex wb y'
         have HXC := Lib.hid (HXB.out.to (.of_below hbc) ((hia.keep hbb).keep hbc))
         have hobc := hob.keep hbc
         have HOC := Lib.hid ((HOZ.out.trans (hna.mono (fun q e => Or.inl e))).trans ((Only.of_below (S := fun k => k = rb ∨ k = b8) hbb).trans (.of_below hbc)))
         have HSZ := Lib.hid (show wz.heap.size ≤ wa.heap.size ∧ wa.heap.size < wb.heap.size ∧ wb.heap.size < wc.heap.size ∧ b8 < wz.heap.size ∧ rb < wz.heap.size ∧ w.heap.size < wz.heap.size from ⟨hna.size, hob.lt, hoc.lt, HXZ.out.own.lt, HXZ.out.rd.lt, HXZ.out.res.lt⟩)
         have HY2 := Lib.hid ((hy2.keep (.of_below hbb)).keep (.of_below hbc))
         have HR2 := Lib.hid hR2
         obtain ⟨v0, v1, v2, v3, v4, v5, v6⟩ := HXB.out.own.cells
         have hlv := HXB.out.own.lt
         have HCL := Lib.hid (show ∀ w', Only (fun k => k = rb ∨ k = b8) wc w' → w'.cell? ⟨g, o + k, none⟩ = some (.string (mkB s)) from fun w' hw' => by
          obtain ⟨g', o', s', e1, hs', hc'⟩ := HLF.out w' k (HOC.out.trans hw') hkm
          injection e1 with e1
          injection e1 with e1 e2
          subst e1 e2
          rw [HS.out] at hs'
          injection hs' with hs'
          rw [hs']; exact hc')
         have HWB := Lib.hid hwb
         have HWC := Lib.hid hwc
         have HOT := Lib.hid (show Own7 wc wa.heap.size y2 ∧ Own7 wc wb.heap.size y' from ⟨hobc, hoc⟩)
         clear hy2 hia hna hR2 hwb hob hbb hwc hoc hbc hobc T7
         unfold exV
         go_wp2_with (first | rw [HWB.out] | rw [HWC.out])
         refine wp_region_held (S := fun w' => w'.cell? ⟨g, o + k, none⟩ = some (.string (mkB s)) ∧ Own7 w' wa.heap.size y2 ∧ Own7 w' wb.heap.size y') (by kernel_rfl) ?_
         change wpAnyH _ _ _ _ _ _ _ _ wc.drew
         have HSS : (fun w' : World => w'.cell? ⟨g, o + k, none⟩ = some (.string (mkB s)) ∧ Own7 w' wa.heap.size y2 ∧ Own7 w' wb.heap.size y') wc.drew := ⟨HCL.out wc.drew (Only.refl _ _).drew, HOT.out.1, HOT.out.2⟩
         refine takeH (i := 0) (d := some 81) (v := .slice (some ⟨g, o, none⟩) m lc) rfl rfl (by kernel_rfl) (by kernel_rfl) (by kernel_rfl) (fun _ _ _ h => h) (Or.inl ⟨by rfl, fun w' hS => by obtain ⟨hs0, hs1, hs2⟩ := hS; obtain ⟨d0, d1, d2, d3, d4, d5, d6⟩ := hs1.cells; obtain ⟨e0, e1, e2, e3, e4, e5, e6⟩ := hs2.cells; first | (go_simp; done) | (go_simp; omega) | (go_simp; intro h; omega)⟩) HSS ?_
         simp only [Act.put, List.setIfInBounds_toArray, List.set_cons_zero, List.set_cons_succ]
         refine takeH (i := 1) (d := some 82) (v := .int .i64 k) rfl rfl (by kernel_rfl) (by kernel_rfl) (by kernel_rfl) (fun _ _ _ h => h) (Or.inl ⟨by rfl, fun w' hS => by obtain ⟨hs0, hs1, hs2⟩ := hS; obtain ⟨d0, d1, d2, d3, d4, d5, d6⟩ := hs1.cells; obtain ⟨e0, e1, e2, e3, e4, e5, e6⟩ := hs2.cells; first | (go_simp; done) | (go_simp; omega) | (go_simp; intro h; omega)⟩) HSS ?_
         simp only [Act.put, List.setIfInBounds_toArray, List.set_cons_zero, List.set_cons_succ]
         refine takeH (i := 2) (d := some 83) (v := .pointer (some ⟨g, o + k, none⟩)) rfl rfl (by kernel_rfl) (by kernel_rfl) (by kernel_rfl) (fun _ _ _ h => h) (Or.inl ⟨by rfl, fun w' hS => by obtain ⟨hs0, hs1, hs2⟩ := hS; obtain ⟨d0, d1, d2, d3, d4, d5, d6⟩ := hs1.cells; obtain ⟨e0, e1, e2, e3, e4, e5, e6⟩ := hs2.cells; first | (go_simp; done) | (go_simp; omega) | (go_simp; intro h; omega)⟩) HSS ?_
         simp only [Act.put, List.setIfInBounds_toArray, List.set_cons_zero, List.set_cons_succ]
         refine takeH (i := 3) (d := some 84) (v := .string (mkB s)) rfl rfl (by kernel_rfl) (by kernel_rfl) (by kernel_rfl) (fun _ _ _ h => h) (Or.inl ⟨by rfl, fun w' hS => by obtain ⟨hs0, hs1, hs2⟩ := hS; obtain ⟨d0, d1, d2, d3, d4, d5, d6⟩ := hs1.cells; obtain ⟨e0, e1, e2, e3, e4, e5, e6⟩ := hs2.cells; first | (go_simp; done) | (go_simp; omega) | (go_simp; intro h; omega)⟩) HSS ?_
         simp only [Act.put, List.setIfInBounds_toArray, List.set_cons_zero, List.set_cons_succ]
         refine takeH (i := 4) (d := some 85) (v := .int .i64 (atT T E j')) rfl rfl (by kernel_rfl) (by kernel_rfl) (by kernel_rfl) (fun _ _ _ h => h) (Or.inl ⟨by rfl, fun w' hS => by obtain ⟨hs0, hs1, hs2⟩ := hS; obtain ⟨d0, d1, d2, d3, d4, d5, d6⟩ := hs1.cells; obtain ⟨e0, e1, e2, e3, e4, e5, e6⟩ := hs2.cells; first | (go_simp; done) | (go_simp; omega) | (go_simp; intro h; omega)⟩) HSS ?_
         simp only [Act.put, List.setIfInBounds_toArray, List.set_cons_zero, List.set_cons_succ]
         refine takeH (i := 5) (d := some 86) (v := .agg #[.string y'.op, .string y'.name, .int .i64 y'.val.type, .int .i64 y'.val.n, .string y'.val.s, .slice y'.A y'.args.length y'.c, .int .i64 y'.pos]) rfl rfl (by kernel_rfl) (by kernel_rfl) (by kernel_rfl) (fun _ _ _ h => h) (Or.inl ⟨by rfl, fun w' hS => by obtain ⟨hs0, hs1, hs2⟩ := hS; obtain ⟨d0, d1, d2, d3, d4, d5, d6⟩ := hs1.cells; obtain ⟨e0, e1, e2, e3, e4, e5, e6⟩ := hs2.cells; first | (go_simp; done) | (go_simp; omega) | (go_simp; intro h; omega)⟩) HSS ?_
         simp only [Act.put, List.setIfInBounds_toArray, List.set_cons_zero, List.set_cons_succ]
         refine takeH (i := 6) (d := some 87) (v := .agg #[.string y2.op, .string y2.name, .int .i64 y2.val.type, .int .i64 y2.val.n, .string y2.val.s, .slice y2.A y2.args.length y2.c, .int .i64 y2.pos]) rfl rfl (by kernel_rfl) (by kernel_rfl) (by kernel_rfl) (fun _ _ _ h => h) (Or.inl ⟨by rfl, fun w' hS => by obtain ⟨hs0, hs1, hs2⟩ := hS; obtain ⟨d0, d1, d2, d3, d4, d5, d6⟩ := hs1.cells; obtain ⟨e0, e1, e2, e3, e4, e5, e6⟩ := hs2.cells; first | (go_simp; done) | (go_simp; omega) | (go_simp; intro h; omega)⟩) HSS ?_
         simp only [Act.put, List.setIfInBounds_toArray, List.set_cons_zero, List.set_cons_succ]
         refine wpAnyH_all (rs := [7]) (by kernel_rfl) (by simp) (fun jj hj => ?_)
         obtain rfl : jj = 7 := by simpa using hj
         have hbe := belowNew' wc.drew (.cells #[.string y'.op, .string y'.name, .int .i64 y'.val.type, .int .i64 y'.val.n, .string y'.val.s, .slice y'.A y'.args.length y'.c, .int .i64 y'.pos, .string y2.op, .string y2.name, .int .i64 y2.val.type, .int .i64 y2.val.n, .string y2.val.s, .slice y2.A y2.args.length y2.c, .int .i64 y2.pos] 26)
         have hrow : (wc.drew.alloc (.cells #[.string y'.op, .string y'.name, .int .i64 y'.val.type, .int .i64 y'.val.n, .string y'.val.s, .slice y'.A y'.args.length y'.c, .int .i64 y'.pos, .string y2.op, .string y2.name, .int .i64 y2.val.type, .int .i64 y2.val.n, .string y2.val.s, .slice y2.A y2.args.length y2.c, .int .i64 y2.pos] 26)).heap[wc.heap.size]? = some (.cells (exsCells [y', y2]).toArray 26 (0, 0)) := heap_alloc_new wc.drew _
         refine wpOp_valueD (d := some 88) rfl rfl (by rfl) (v := .slice (some ⟨wc.heap.size, 0, none⟩) 2 2) (w' := wc.drew.alloc (.cells #[.string y'.op, .string y'.name, .int .i64 y'.val.type, .int .i64 y'.val.n, .string y'.val.s, .slice y'.A y'.args.length y'.c, .int .i64 y'.pos, .string y2.op, .string y2.name, .int .i64 y2.val.type, .int .i64 y2.val.n, .string y2.val.s, .slice y2.A y2.args.length y2.c, .int .i64 y2.pos] 26)) (by go_simp) ?_
         generalize wc.drew.alloc (.cells #[.string y'.op, .string y'.name, .int .i64 y'.val.type, .int .i64 y'.val.n, .string y'.val.s, .slice y'.A y'.args.length y'.c, .int .i64 y'.pos, .string y2.op, .string y2.name, .int .i64 y2.val.type, .int .i64 y2.val.n, .string y2.val.s, .slice y2.A y2.args.length y2.c, .int .i64 y2.pos] 26) = we at hbe hrow ⊢
         have hne : Only (fun k => k = rb ∨ k = b8) wc we := (Only.refl _ _).drew.trans (.of_below hbe)
         have hbe' : Below wc.heap.size wc we := (Below.refl wc.heap.size wc).drew.trans hbe
         refine ⟨⟨HCL.out we hne, HOT.out.1.keep hbe', HOT.out.2.keep hbe'⟩, ?_⟩
         simp only [Act.put, List.setIfInBounds_toArray, List.set_cons_zero, List.set_cons_succ]
         refine wpAnyH_all (rs := [8]) (by kernel_rfl) (by simp) (fun jj hj => ?_)
         obtain rfl : jj = 8 := by simpa using hj
         have bd := run_op (mkB s) (atT T E j') (some ⟨wc.heap.size, 0, none⟩) 2 2 we
         refine wpOp_valueD (d := some 89) rfl rfl (by rfl) (v := .agg #[.string (mkB s), .string ⟨#[]⟩, .int .i64 0, .int .i64 0, .string ⟨#[]⟩, .slice (some ⟨wc.heap.size, 0, none⟩) 2 2, .int .i64 (atT T E j')]) (w' := we) (by go_simp) ?_
         refine ⟨⟨HCL.out we hne, HOT.out.1.keep hbe', HOT.out.2.keep hbe'⟩, ?_⟩
         simp only [Act.put, List.setIfInBounds_toArray, List.set_cons_zero, List.set_cons_succ]
         refine wpAnyH_all (rs := [9]) (by kernel_rfl) (by simp) (fun jj hj => ?_)
         obtain rfl : jj = 9 := by simpa using hj
         have HXE := Lib.hid (HXC.out.to (.of_below hbe') (HXC.out.rd.keep hbe'))
         refine wpOp_store7 rfl rfl _ _ rfl rfl (X := (.mk (mkB s) ⟨#[]⟩ noVal (some ⟨wc.heap.size, 0, none⟩) 2 [y', y2] (atT T E j'))) HXE.out.own rfl rfl ?_
         intro wf hzf hof
         have hnf : Only (fun k => k = rb ∨ k = b8) wc wf := hne.trans (hof.mono (fun q e => Or.inr e))
         refine ⟨⟨HCL.out wf hnf, own7_only (HOT.out.1.keep hbe') hof (fun e => by have := HSZ.out; have e' : wa.heap.size = b8 := e; omega), own7_only (HOT.out.2.keep hbe') hof (fun e => by have := HSZ.out; have e' : wb.heap.size = b8 := e; omega)⟩, ?_⟩
         refine wpAnyH_done (by kernel_rfl) ?_ _
         have hsy : SeesS (fun b => w.heap.size < b ∧ b ≠ b8) we (.mk (mkB s) ⟨#[]⟩ noVal (some ⟨wc.heap.size, 0, none⟩) 2 [y', y2] (atT T E j')) := seesS_node (l := [y', y2]) hrow ⟨by have := HSZ.out; omega, by have := HSZ.out; omega⟩ (show (2 : Nat) ≤ 400 by decide) (show (mkB s).size ≤ 400 from HL6.out.2 s HSM.out) (fits_at HWW.out j') (fun a ha => by
          simp only [List.mem_cons, List.not_mem_nil, or_false] at ha
          rcases ha with rfl | rfl
          ·exact HXE.out.see
          ·exact (HY2.out.keep (.of_below hbe')).mono (fun b hb => by have := HSZ.out; have hb' : wz.heap.size ≤ b := hb; exact ⟨by omega, by omega⟩))
         have HXF := Lib.hid (HXE.out.put hof hzf hsy)
         have HOF := Lib.hid (HOC.out.trans hnf)
         have HLL2 := Lib.hid (HAFT.out y2 j2 st2 wc.heap.size HR2.out)
         clear hbe hrow hne hbe' hzf hof hnf hsy bd HSS v0 v1 v2 v3 v4 v5 v6 hlv
         go_wp2_with fail
         go_roundw
         case rel => exact ⟨true, k + 1, j2, st2, _, rfl, by go_num, by omega, HXF.out, HOF.out, Or.inr ⟨(by first | rfl | trivial), (by first | rfl | trivial), HLL2.out.1, HLL2.out.2⟩⟩
         case measure => simp [intOf]; omega
 ·have g2 : ((n : Int) == 2) = false := beq_eq_false_iff_ne.2 (by omega)
  have HN22 := Lib.hid (show decide (n ≠ 2) = true by simp [hn2])
  clear hn2 h2 hn
  go_enter Tryz.func46, Tryz.ntmps46
  go_wp2_with (first | rw [HW0.out])
  refine (T1.out).mono ?_
  rintro e' w1 ⟨rfl, hb1⟩
  have HI1 := Lib.hid (HI0.out.keep hb1)
  have HN1 := Lib.hid (HN0.out.trans (.of_below hb1))
  have HZ1 := Lib.hid (HZ0.out.keep hb1)
  clear hb1 T1
  have HI2 := HI1
  have HN2 := HN1
  have HZ2 := HZ1
  clear c0 c1 c2 c3
  generalize w1 = w2 at HI2 HN2 HZ2 ⊢
  have T3 := Lib.hid (HIH1.out w2 HI2.out)
  go_wp2_with fail
  refine (T3.out).mono ?_
  rintro e' w3 ⟨y0, j0, st0, rfl, hy, hi3, hn3, hr⟩
  obtain ⟨w4, hw4, ho4, hb4, -⟩ := box_ex w3 y0
  have HL2 := Lib.hid (show w.heap.size < w2.heap.size from HZ2.out.lt)
  have HX4 := Lib.hid (show IxL T E rb A c w w3.heap.size j0 st0 y0 w4 from ⟨ho4, ((seesS_lt2 hy).keep (.of_below hb4)).mono (fun b hb => by have := HL2.out; have h1 : w2.heap.size ≤ b := hb.1; have := hb.2; exact ⟨by omega, by omega⟩), hi3.keep hb4, (HN2.out.trans hn3).trans (.of_below hb4), (own7_only HZ2.out hn3 (fun e => by have := HLT.out; have e' : w.heap.size = rb := e; omega)).keep hb4, Nat.lt_of_lt_of_le HL2.out hn3.size, HLT.out, HOLD.out⟩)
  have HLP := Lib.hid (show LpS T E n r i j0 st0 y0 true by
   match r1, HOK, HER, hr with
   | .ok (x, j'), HOK, _, hr =>
    obtain ⟨rfl, rfl, rfl⟩ := hr
    exact ⟨(HOK.out _ _ rfl).1, by rw [if_pos rfl]; exact (HOK.out _ _ rfl).2⟩
   | .error k, _, HER, hr =>
    have hr : st0 = some k := hr
    subst hr
    exact HER.out _ rfl)
  have HW4 := Lib.hid hw4
  clear hy hi3 hn3 hr hw4 ho4 hb4 T3
  unfold exV
  have T4 := Lib.hid (TS.out w4)
  go_wp2_with (first | rw [HW4.out])
  generalize w3.heap.size = b8 at HX4 ⊢
  refine (T4.out).mono ?_
  rintro e' w5 ⟨⟨lA, lc, rfl, hls, hnew⟩, hb5⟩
  have HX5 := Lib.hid (HX4.out.to (.of_below hb5) (HX4.out.rd.keep hb5))
  have HLS := Lib.hid hls
  have lcap : (lvlB n).length ≤ lc := hls.2.1
  have lmax : lc ≤ maxLen := hls.2.2.1
  unfold maxLen at lmax
  obtain ⟨m, hm⟩ : ∃ m, (lvlB n).length = m := ⟨_, rfl⟩
  have hm6 : m ≤ 6 := by rw [← hm]; exact HL6.out.1
  have HM := Lib.hid hm
  have HB84 := Lib.hid (show rb < w4.heap.size ∧ b8 < w4.heap.size from ⟨HX4.out.rd.lt, HX4.out.own.lt⟩)
  have HLF := Lib.hid (show ∀ (w' : World) (q : Nat), Only (fun k => k = rb ∨ k = b8) w5 w' → q < m → ∃ g o s, lA = some ⟨g, o, none⟩ ∧ (lvlL n)[q]? = some s ∧ w'.cell? ⟨g, o + q, none⟩ = some (.string (mkB s)) from fun w' q hb hq => by
   obtain ⟨g, o, s, e1, hg, hs, hc⟩ := lvlB_at hls (by rw [hm]; exact hq)
   refine ⟨g, o, s, e1, hs, ?_⟩
   exact (hb.cell (p := ⟨g, o + q, none⟩) hg (fun e => by have := HB84.out; have h' : w4.heap.size ≤ g := hnew _ e1; rcases e with e | e; (have e' : g = rb := e; omega); (have e' : g = b8 := e; omega))).trans hc)
  rw [hm] at lcap ⊢
  clear hls hb5 hm T4 HW4 HX4 hnew
  go_wp2_with fail
  go_loopw [10] (fun b wr => ∃ (bb : Bool) (j : Nat) (st : Option Nat) (y : Ex), b = .bool bb ∧ IxL T E rb A c w b8 j st y wr ∧ LpS T E n r i j st y bb ∧ Only (fun k => k = rb ∨ k = b8) w5 wr) (fun b wr => if isTrueV b = true then (if 0 ≤ inBad wr rb then 1 else T.length - rdIdx wr rb + 2) else 0)
  case atStart => exact ⟨true, j0, st0, y0, rfl, HX5.out, HLP.out, Only.refl _ _⟩
  case round =>
   obtain ⟨bb, j, st, y, rfl, hx, hl, ho⟩ := hrel
   have HXR := Lib.hid hx
   have HLR := Lib.hid hl
   have HOR := Lib.hid ho
   clear hx hl ho
   cases bb with
   | false =>
     obtain ⟨t0, t1, t2, t3, t4, t5, t6⟩ := HXR.out.own.cells
     have hlt8 := HXR.out.own.lt
     go_wp2_with (first
      | (refine wpList_put7 rfl (.tmp 4) (.tmp 92) rfl (X := y) HXR.out.res rfl (by rfl) ?_; intro wl hzl hol; have HZL := Lib.hid hzl; have HOL := Lib.hid hol; clear hzl hol))
     obtain ⟨o0, o1, o2, o3, o4, o5, o6⟩ := HZL.out.cells
     refine bodyPost_ret (v := exV y) ?_ rfl ?_
     ·simp [results, Tryz.results46, go_sem, o0, o1, o2, o3, o4, o5, o6, exV]
     ·exact HXR.out.says HLR.out HOL.out
    | true =>
     have HMS := Lib.hid (show (if isTrueV (.bool true) = true then (if 0 ≤ inBad wr rb then 1 else T.length - rdIdx wr rb + 2) else 0) = msr T j st by
      show (if true = true then (if 0 ≤ inBad wr rb then 1 else T.length - rdIdx wr rb + 2) else 0) = msr T j st
      rw [if_pos rfl, HXR.out.rd.bad, HXR.out.rd.idx]
      exact msr_eq T j st)
     go_wp2_with fail
     go_loopw [10, 11] (fun b q wx => ∃ (bb : Bool) (k : Nat) (j' : Nat) (st' : Option Nat) (y' : Ex), b = .bool bb ∧ q = .int .i64 k ∧ k ≤ m ∧ IxL T E rb A c w b8 j' st' y' wx ∧ Only (fun k => k = rb ∨ k = b8) w5 wx ∧ ((bb = false ∧ j' = j ∧ st' = st ∧ y' = y ∧ ∀ s ∈ (lvlL n).take k, isIn T j st s = false) ∨ (bb = true ∧ st = none ∧ LpS T E n r i j' st' y' (decide (n ≠ 2)) ∧ (st' = none → j < j')))) (fun _ q _ => m - (intOf q).toNat)
     case atStart => exact ⟨false, 0, j, st, y, rfl, rfl, Nat.zero_le _, HXR.out, HOR.out, Or.inl ⟨rfl, rfl, rfl, rfl, fun s hs => by simp at hs⟩⟩
     case round =>
      obtain ⟨bb, k, j', st', y', rfl, rfl, hk, hx, ho, hway⟩ := hrel
      have HXX := Lib.hid hx
      have HOX := Lib.hid ho
      clear hx ho
      cases bb with
      | true =>
       obtain ⟨hst, hl, hjj⟩ : st = none ∧ LpS T E n r i j' st' y' (decide (n ≠ 2)) ∧ (st' = none → j < j') := by
        rcases hway with ⟨h, -⟩ | ⟨-, h⟩
        ·cases h
        ·exact h
       have HLX := Lib.hid hl
       have HJJ := Lib.hid hjj
       have HSTN := Lib.hid hst
       clear hway hl hjj hst hk
       by_cases hkm : k < m
       ·skip
        have HLT2 := Lib.hid (show LpS T E n r i j' st' y' true from by have h := HLX.out; rw [HN22.out] at h; exact h)
        go_wp2_with fail
        go_roundw
        case rel => exact ⟨true, j', st', y', rfl, HXX.out, HLT2.out, HOX.out⟩
        case measure =>
         rw [HMS.out, HSTN.out]
         show (if true = true then _ else 0) < _
         rw [if_pos rfl, HXX.out.rd.bad, HXX.out.rd.idx, msr_eq]
         have := HXX.out.rd.le
         cases st' with
         | none => have := HJJ.out rfl; show T.length - j' + 2 < T.length - j + 2; omega
         | some k => show 1 < T.length - j + 2; omega
       ·skip
        have HLT2 := Lib.hid (show LpS T E n r i j' st' y' true from by have h := HLX.out; rw [HN22.out] at h; exact h)
        go_wp2_with fail
        go_roundw
        case rel => exact ⟨true, j', st', y', rfl, HXX.out, HLT2.out, HOX.out⟩
        case measure =>
         rw [HMS.out, HSTN.out]
         show (if true = true then _ else 0) < _
         rw [if_pos rfl, HXX.out.rd.bad, HXX.out.rd.idx, msr_eq]
         have := HXX.out.rd.le
         cases st' with
         | none => have := HJJ.out rfl; show T.length - j' + 2 < T.length - j + 2; omega
         | some k => show 1 < T.length - j + 2; omega
      | false =>
       obtain ⟨rfl, rfl, rfl, hno⟩ : j' = j ∧ st' = st ∧ y' = y ∧ ∀ s ∈ (lvlL n).take k, isIn T j st s = false := by
        rcases hway with ⟨-, h⟩ | ⟨h, -⟩
        ·exact h
        ·cases h
       have HNO := Lib.hid hno
       clear hway hno
       by_cases hkm : k < m
       rotate_left
       ·have HEND := Lib.hid (lpS_end HLR.out (fun s hs => HNO.out s (by rw [List.take_of_length_le (by rw [HLL.out, HM.out]; omega)]; exact hs)))
        clear HNO
        go_wp2_with fail
        go_roundw
        case rel => exact ⟨false, j', st', y', rfl, HXX.out, HEND.out, HOX.out⟩
        case measure =>
         rw [HMS.out]
         show (if false = true then _ else 0) < _
         rw [if_neg (by decide)]
         cases st' with
         | none => show 0 < T.length - j' + 2; omega
         | some k => show 0 < 1; omega
       ·obtain ⟨g, o, s, rfl, hs, hcl⟩ := HLF.out wr k HOX.out hkm
        have T5 := Lib.hid (inAt_any HXX.out.rd HWW.out)
        have HSM := Lib.hid (List.mem_of_getElem? hs)
        have HS := Lib.hid hs
        clear hcl hs
        go_wp2_with fail
        refine (T5.out).mono ?_
        rintro e' wy ⟨rfl, hby⟩
        have HXY := Lib.hid (HXX.out.to (.of_below hby) (HXX.out.rd.keep hby))
        have HOY := Lib.hid (HOX.out.trans (.of_below hby))
        have T6 := Lib.hid (inHas_any HXY.out.rd HWW.out (mkB s))
        obtain ⟨s1, hcl⟩ : True ∧ wy.cell? ⟨g, o + k, none⟩ = some (.string (mkB s)) := ⟨trivial, by
         obtain ⟨g', o', s', e1, hs', hc'⟩ := HLF.out wy k HOY.out hkm
         injection e1 with e1
         injection e1 with e1 e2
         subst e1 e2
         rw [HS.out] at hs'
         injection hs' with hs'
         rw [hs']; exact hc'⟩
        clear hby T5 s1
        rw [show (mkB s).data.toList = s from rfl] at T6
        cases hin : isIn T j' st' s with
        | false =>
         rw [hin] at T6
         have HIN := Lib.hid hin
         clear hin
         go_wp2_with fail
         refine (T6.out).mono ?_
         rintro e' wz ⟨rfl, hiz, hnz⟩
         have HXZ := Lib.hid (HXY.out.to hnz hiz)
         have HOZ := Lib.hid (HOY.out.trans (hnz.mono (fun q e => Or.inl e)))
         clear hiz hnz T6 hcl
         go_wp2_with fail
         go_roundw
         case rel => exact ⟨false, k + 1, j', st', y', rfl, by go_num, by omega, HXZ.out, HOZ.out, Or.inl ⟨rfl, rfl, rfl, rfl, fun u hu => by
          rw [List.take_add_one, HS.out] at hu
          simp only [Option.toList_some, List.mem_append, List.mem_cons, List.not_mem_nil, or_false] at hu
          rcases hu with hu | rfl
          ·exact HNO.out u hu
          ·exact HIN.out⟩⟩
         case measure => simp [intOf]; omega
        | true =>
         rw [hin] at T6
         obtain ⟨rfl, hij, hjl, r2, hr2, hafter⟩ := lpS_sign HLR.out HSM.out hin
         have HAFT := Lib.hid hafter
         have HIJ := Lib.hid hij
         have HR2 := Lib.hid hr2
         have HJL := Lib.hid hjl
         clear hin hij hjl hr2 hafter
         go_wp2_with fail
         refine (T6.out).mono ?_
         rintro e' wz ⟨rfl, hiz, hnz⟩
         have hiz' : InAt T E wz rb A c (j' + 1) none := hiz
         have HXZ := Lib.hid (HXY.out.to hnz hiz')
         have HOZ := Lib.hid (HOY.out.trans (hnz.mono (fun q e => Or.inl e)))
         have T7 := Lib.hid (HIH2.out (j' + 1) r2 (by have := HIJ.out; omega) HJL.out HR2.out wz hiz')
         clear hiz hiz' hnz T6 hcl
         go_wp2_with fail
         refine (T7.out).mono ?_
         rintro e' wa ⟨y2, j2, st2, rfl, hy2, hia, hna, hR2⟩
         obtain ⟨wb, hwb, hob, hbb, -⟩ := box_ex wa y2
         have HXA := Lib.hid (HXZ.out.to hna hia)
         have HXB := Lib.hid (HXA.out.to (.of_below hbb) (hia.keep hbb))
         obtain ⟨wc, hwc, hoc, hbc, -⟩ := box_ex wb y'
         have HXC := Lib.hid (HXB.out.to (.of_below hbc) ((hia.keep hbb).keep hbc))
         have hobc := hob.keep hbc
         have HOC := Lib.hid ((HOZ.out.trans (hna.mono (fun q e => Or.inl e))).trans ((Only.of_below (S := fun k => k = rb ∨ k = b8) hbb).trans (.of_below hbc)))
         have HSZ := Lib.hid (show wz.heap.size ≤ wa.heap.size ∧ wa.heap.size < wb.heap.size ∧ wb.heap.size < wc.heap.size ∧ b8 < wz.heap.size ∧ rb < wz.heap.size ∧ w.heap.size < wz.heap.size from ⟨hna.size, hob.lt, hoc.lt, HXZ.out.own.lt, HXZ.out.rd.lt, HXZ.out.res.lt⟩)
         have HY2 := Lib.hid ((hy2.keep (.of_below hbb)).keep (.of_below hbc))
         have HR2 := Lib.hid hR2
         obtain ⟨v0, v1, v2, v3, v4, v5, v6⟩ := HXB.out.own.cells
         have hlv := HXB.out.own.lt
         have HCL := Lib.hid (show ∀ w', Only (fun k => k = rb ∨ k = b8) wc w' → w'.cell? ⟨g, o + k, none⟩ = some (.string (mkB s)) from fun w' hw' => by
          obtain ⟨g', o', s', e1, hs', hc'⟩ := HLF.out w' k (HOC.out.trans hw') hkm
          injection e1 with e1
          injection e1 with e1 e2
          subst e1 e2
          rw [HS.out] at hs'
          injection hs' with hs'
          rw [hs']; exact hc')
         have HWB := Lib.hid hwb
         have HWC := Lib.hid hwc
         have HOT := Lib.hid (show Own7 wc wa.heap.size y2 ∧ Own7 wc wb.heap.size y' from ⟨hobc, hoc⟩)
         clear hy2 hia hna hR2 hwb hob hbb hwc hoc hbc hobc T7
         unfold exV
         go_wp2_with (first | rw [HWB.out] | rw [HWC.out])
         refine wp_region_held (S := fun w' => w'.cell? ⟨g, o + k, none⟩ = some (.string (mkB s)) ∧ Own7 w' wa.heap.size y2 ∧ Own7 w' wb.heap.size y') (by kernel_rfl) ?_
         change wpAnyH _ _ _ _ _ _ _ _ wc.drew
         have HSS : (fun w' : World => w'.cell? ⟨g, o + k, none⟩ = some (.string (mkB s)) ∧ Own7 w' wa.heap.size y2 ∧ Own7 w' wb.heap.size y') wc.drew := ⟨HCL.out wc.drew (Only.refl _ _).drew, HOT.out.1, HOT.out.2⟩
         refine takeH (i := 0) (d := some 81) (v := .slice (some ⟨g, o, none⟩) m lc) rfl rfl (by kernel_rfl) (by kernel_rfl) (by kernel_rfl) (fun _ _ _ h => h) (Or.inl ⟨by rfl, fun w' hS => by obtain ⟨hs0, hs1, hs2⟩ := hS; obtain ⟨d0, d1, d2, d3, d4, d5, d6⟩ := hs1.cells; obtain ⟨e0, e1, e2, e3, e4, e5, e6⟩ := hs2.cells; first | (go_simp; done) | (go_simp; omega) | (go_simp; intro h; omega)⟩) HSS ?_
         simp only [Act.put, List.setIfInBounds_toArray, List.set_cons_zero, List.set_cons_succ]
         refine takeH (i := 1) (d := some 82) (v := .int .i64 k) rfl rfl (by kernel_rfl) (by kernel_rfl) (by kernel_rfl) (fun _ _ _ h => h) (Or.inl ⟨by rfl, fun w' hS => by obtain ⟨hs0, hs1, hs2⟩ := hS; obtain ⟨d0, d1, d2, d3, d4, d5, d6⟩ := hs1.cells; obtain ⟨e0, e1, e2, e3, e4, e5, e6⟩ := hs2.cells; first | (go_simp; done) | (go_simp; omega) | (go_simp; intro h; omega)⟩) HSS ?_
         simp only [Act.put, List.setIfInBounds_toArray, List.set_cons_zero, List.set_cons_succ]
         refine takeH (i := 2) (d := some 83) (v := .pointer (some ⟨g, o + k, none⟩)) rfl rfl (by kernel_rfl) (by kernel_rfl) (by kernel_rfl) (fun _ _ _ h => h) (Or.inl ⟨by rfl, fun w' hS => by obtain ⟨hs0, hs1, hs2⟩ := hS; obtain ⟨d0, d1, d2, d3, d4, d5, d6⟩ := hs1.cells; obtain ⟨e0, e1, e2, e3, e4, e5, e6⟩ := hs2.cells; first | (go_simp; done) | (go_simp; omega) | (go_simp; intro h; omega)⟩) HSS ?_
         simp only [Act.put, List.setIfInBounds_toArray, List.set_cons_zero, List.set_cons_succ]
         refine takeH (i := 3) (d := some 84) (v := .string (mkB s)) rfl rfl (by kernel_rfl) (by kernel_rfl) (by kernel_rfl) (fun _ _ _ h => h) (Or.inl ⟨by rfl, fun w' hS => by obtain ⟨hs0, hs1, hs2⟩ := hS; obtain ⟨d0, d1, d2, d3, d4, d5, d6⟩ := hs1.cells; obtain ⟨e0, e1, e2, e3, e4, e5, e6⟩ := hs2.cells; first | (go_simp; done) | (go_simp; omega) | (go_simp; intro h; omega)⟩) HSS ?_
         simp only [Act.put, List.setIfInBounds_toArray, List.set_cons_zero, List.set_cons_succ]
         refine takeH (i := 4) (d := some 85) (v := .int .i64 (atT T E j')) rfl rfl (by kernel_rfl) (by kernel_rfl) (by kernel_rfl) (fun _ _ _ h => h) (Or.inl ⟨by rfl, fun w' hS => by obtain ⟨hs0, hs1, hs2⟩ := hS; obtain ⟨d0, d1, d2, d3, d4, d5, d6⟩ := hs1.cells; obtain ⟨e0, e1, e2, e3, e4, e5, e6⟩ := hs2.cells; first | (go_simp; done) | (go_simp; omega) | (go_simp; intro h; omega)⟩) HSS ?_
         simp only [Act.put, List.setIfInBounds_toArray, List.set_cons_zero, List.set_cons_succ]
         refine takeH (i := 5) (d := some 86) (v := .agg #[.string y'.op, .string y'.name, .int .i64 y'.val.type, .int .i64 y'.val.n, .string y'.val.s, .slice y'.A y'.args.length y'.c, .int .i64 y'.pos]) rfl rfl (by kernel_rfl) (by kernel_rfl) (by kernel_rfl) (fun _ _ _ h => h) (Or.inl ⟨by rfl, fun w' hS => by obtain ⟨hs0, hs1, hs2⟩ := hS; obtain ⟨d0, d1, d2, d3, d4, d5, d6⟩ := hs1.cells; obtain ⟨e0, e1, e2, e3, e4, e5, e6⟩ := hs2.cells; first | (go_simp; done) | (go_simp; omega) | (go_simp; intro h; omega)⟩) HSS ?_
         simp only [Act.put, List.setIfInBounds_toArray, List.set_cons_zero, List.set_cons_succ]
         refine takeH (i := 6) (d := some 87) (v := .agg #[.string y2.op, .string y2.name, .int .i64 y2.val.type, .int .i64 y2.val.n, .string y2.val.s, .slice y2.A y2.args.length y2.c, .int .i64 y2.pos]) rfl rfl (by kernel_rfl) (by kernel_rfl) (by kernel_rfl) (fun _ _ _ h => h) (Or.inl ⟨by rfl, fun w' hS => by obtain ⟨hs0, hs1, hs2⟩ := hS; obtain ⟨d0, d1, d2, d3, d4, d5, d6⟩ := hs1.cells; obtain ⟨e0, e1, e2, e3, e4, e5, e6⟩ := hs2.cells; first | (go_simp; done) | (go_simp; omega) | (go_simp; intro h; omega)⟩) HSS ?_
         simp only [Act.put, List.setIfInBounds_toArray, List.set_cons_zero, List.set_cons_succ]
         refine wpAnyH_all (rs := [7]) (by kernel_rfl) (by simp) (fun jj hj => ?_)
         obtain rfl : jj = 7 := by simpa using hj
         have hbe := belowNew' wc.drew (.cells #[.string y'.op, .string y'.name, .int .i64 y'.val.type, .int .i64 y'.val.n, .string y'.val.s, .slice y'.A y'.args.length y'.c, .int .i64 y'.pos, .string y2.op, .string y2.name, .int .i64 y2.val.type, .int .i64 y2.val.n, .string y2.val.s, .slice y2.A y2.args.length y2.c, .int .i64 y2.pos] 26)
         have hrow : (wc.drew.alloc (.cells #[.string y'.op, .string y'.name, .int .i64 y'.val.type, .int .i64 y'.val.n, .string y'.val.s, .slice y'.A y'.args.length y'.c, .int .i64 y'.pos, .string y2.op, .string y2.name, .int .i64 y2.val.type, .int .i64 y2.val.n, .string y2.val.s, .slice y2.A y2.args.length y2.c, .int .i64 y2.pos] 26)).heap[wc.heap.size]? = some (.cells (exsCells [y', y2]).toArray 26 (0, 0)) := heap_alloc_new wc.drew _
         refine wpOp_valueD (d := some 88) rfl rfl (by rfl) (v := .slice (some ⟨wc.heap.size, 0, none⟩) 2 2) (w' := wc.drew.alloc (.cells #[.string y'.op, .string y'.name, .int .i64 y'.val.type, .int .i64 y'.val.n, .string y'.val.s, .slice y'.A y'.args.length y'.c, .int .i64 y'.pos, .string y2.op, .string y2.name, .int .i64 y2.val.type, .int .i64 y2.val.n, .string y2.val.s, .slice y2.A y2.args.length y2.c, .int .i64 y2.pos] 26)) (by go_simp) ?_
         generalize wc.drew.alloc (.cells #[.string y'.op, .string y'.name, .int .i64 y'.val.type, .int .i64 y'.val.n, .string y'.val.s, .slice y'.A y'.args.length y'.c, .int .i64 y'.pos, .string y2.op, .string y2.name, .int .i64 y2.val.type, .int .i64 y2.val.n, .string y2.val.s, .slice y2.A y2.args.length y2.c, .int .i64 y2.pos] 26) = we at hbe hrow ⊢
         have hne : Only (fun k => k = rb ∨ k = b8) wc we := (Only.refl _ _).drew.trans (.of_below hbe)
         have hbe' : Below wc.heap.size wc we := (Below.refl wc.heap.size wc).drew.trans hbe
         refine ⟨⟨HCL.out we hne, HOT.out.1.keep hbe', HOT.out.2.keep hbe'⟩, ?_⟩
         simp only [Act.put, List.setIfInBounds_toArray, List.set_cons_zero, List.set_cons_succ]
         refine wpAnyH_all (rs := [8]) (by kernel_rfl) (by simp) (fun jj hj => ?_)
         obtain rfl : jj = 8 := by simpa using hj
         have bd := run_op (mkB s) (atT T E j') (some ⟨wc.heap.size, 0, none⟩) 2 2 we
         refine wpOp_valueD (d := some 89) rfl rfl (by rfl) (v := .agg #[.string (mkB s), .string ⟨#[]⟩, .int .i64 0, .int .i64 0, .string ⟨#[]⟩, .slice (some ⟨wc.heap.size, 0, none⟩) 2 2, .int .i64 (atT T E j')]) (w' := we) (by go_simp) ?_
         refine ⟨⟨HCL.out we hne, HOT.out.1.keep hbe', HOT.out.2.keep hbe'⟩, ?_⟩
         simp only [Act.put, List.setIfInBounds_toArray, List.set_cons_zero, List.set_cons_succ]
         refine wpAnyH_all (rs := [9]) (by kernel_rfl) (by simp) (fun jj hj => ?_)
         obtain rfl : jj = 9 := by simpa using hj
         have HXE := Lib.hid (HXC.out.to (.of_below hbe') (HXC.out.rd.keep hbe'))
         refine wpOp_store7 rfl rfl _ _ rfl rfl (X := (.mk (mkB s) ⟨#[]⟩ noVal (some ⟨wc.heap.size, 0, none⟩) 2 [y', y2] (atT T E j'))) HXE.out.own rfl rfl ?_
         intro wf hzf hof
         have hnf : Only (fun k => k = rb ∨ k = b8) wc wf := hne.trans (hof.mono (fun q e => Or.inr e))
         refine ⟨⟨HCL.out wf hnf, own7_only (HOT.out.1.keep hbe') hof (fun e => by have := HSZ.out; have e' : wa.heap.size = b8 := e; omega), own7_only (HOT.out.2.keep hbe') hof (fun e => by have := HSZ.out; have e' : wb.heap.size = b8 := e; omega)⟩, ?_⟩
         refine wpAnyH_done (by kernel_rfl) ?_ _
         have hsy : SeesS (fun b => w.heap.size < b ∧ b ≠ b8) we (.mk (mkB s) ⟨#[]⟩ noVal (some ⟨wc.heap.size, 0, none⟩) 2 [y', y2] (atT T E j')) := seesS_node (l := [y', y2]) hrow ⟨by have := HSZ.out; omega, by have := HSZ.out; omega⟩ (show (2 : Nat) ≤ 400 by decide) (show (mkB s).size ≤ 400 from HL6.out.2 s HSM.out) (fits_at HWW.out j') (fun a ha => by
          simp only [List.mem_cons, List.not_mem_nil, or_false] at ha
          rcases ha with rfl | rfl
          ·exact HXE.out.see
          ·exact (HY2.out.keep (.of_below hbe')).mono (fun b hb => by have := HSZ.out; have hb' : wz.heap.size ≤ b := hb; exact ⟨by omega, by omega⟩))
         have HXF := Lib.hid (HXE.out.put hof hzf hsy)
         have HOF := Lib.hid (HOC.out.trans hnf)
         have HLL2 := Lib.hid (HAFT.out y2 j2 st2 wc.heap.size HR2.out)
         clear hbe hrow hne hbe' hzf hof hnf hsy bd HSS v0 v1 v2 v3 v4 v5 v6 hlv
         go_wp2_with fail
         go_roundw
         case rel => exact ⟨true, k + 1, j2, st2, _, rfl, by go_num, by omega, HXF.out, HOF.out, Or.inr ⟨(by first | rfl | trivial), (by first | rfl | trivial), HLL2.out.1, HLL2.out.2⟩⟩
         case measure => simp [intOf]; omega
end Go.Proofs.YtjoeeilncekgpaaGreatDoor
