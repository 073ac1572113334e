/- query.group, walked: the names of a group, its window. -/
import Derived.Test.YtpbbkpfaphjdoaaGreatDoorSQryX
namespace Go.Proofs.YtpbbkpfaphjdoaaGreatDoor
open Go.ChangeShapes Go.WideShapes Go.ChangeAt Go.RowKit
structure Lies (T : List Tok) (A : Option Addr) (rb qb : Nat) (w0 : World) : Prop where
 ne : qb ≠ rb
 toks : 0 < T.length → ∀ ad, A = some ad → ad.block ≠ qb
 old : 0 < T.length → ∀ ad, A = some ad → ad.block < w0.heap.size
 rd : rb < w0.heap.size
 q : qb < w0.heap.size
theorem Lies.up {T : List Tok} {A : Option Addr} {rb qb : Nat} {w0 w1 : World} (h : Lies T A rb qb w0) (hs : w0.heap.size ≤ w1.heap.size) : Lies T A rb qb w1 := ⟨h.ne, h.toks, fun h0 ad e => Nat.lt_of_lt_of_le (h.old h0 ad e) hs, Nat.lt_of_lt_of_le h.rd hs, Nat.lt_of_lt_of_le h.q hs⟩
section
variable {T : List Tok} {E : Nat} {w : World} {rb : Nat} {A : Option Addr} {c i : Nat}
theorem name_ok {s : List UInt8} (hn : nameT T i = some s) (h : RdAt T E w rb A c i) (hW : Words T E) (hN : WordsT w) : Calls Tryz.prog 107 #[.pointer (some ⟨rb, 0, none⟩)] w fun e w' => e = .returned (.string (mkB s)) ∧ RdAt T E w' rb A c (i + 1) ∧ Only (fun k => k = rb) w w' :=
 (rdName_any h hW hN).mono fun e w' h => by
  rcases h with ⟨u, hu, h1, h2, h3⟩ | ⟨hu, -⟩
  ·rw [hn] at hu; injection hu with hu; subst hu; exact ⟨h1, h2, h3⟩
  ·rw [hn] at hu; cases hu
theorem gname_no (hn : nameT T i = none) (h : RdAt T E w rb A c i) (hW : Words T E) (hN : WordsT w) : Calls Tryz.prog 107 #[.pointer (some ⟨rb, 0, none⟩)] w fun e w' => e = wrongAt (atT T E i) ∧ Only (fun k => k = rb) w w' :=
 (rdName_any h hW hN).mono fun e w' h => by
  rcases h with ⟨u, hu, -⟩ | ⟨hu, h1, h2⟩
  ·rw [hn] at hu; cases hu
  ·exact ⟨h1, h2⟩
theorem name_size {s : List UInt8} (hn : nameT T i = some s) (hW : Words T E) : (mkB s).size ≤ 400 := by
 obtain ⟨t, ht, -, rfl, -⟩ := nameT_some hn
 exact hW.text t (List.mem_of_getElem? ht)
end
theorem Env.two {wB w w' : World} {rb qb : Nat} (h : Env wB w rb) (ho : Only (fun b => b = rb ∨ b = qb) w w') (hq : wB.heap.size ≤ qb) : Env wB w' rb :=
 ⟨h.lev, h.words, h.text, h.num, h.below.trans (ho.below h.below.size (fun _ e => by have := h.le; rcases e with e | e <;> omega)), h.le⟩
theorem grown_beside {T : List Tok} {E : Nat} {rb qb : Nat} {A : Option Addr} {c j : Nat} {w0 wr wy wz wf : World} {e sz n m g cap : Nat} {v : Value} {xs ys : List Value} (hL : Lies T A rb qb w0) (hrow : wr.ownsRow w0.heap.size e sz v n xs)
  (ho : Only (fun k => k = rb) wr wy) (hr : RdAt T E wy rb A c j) (hn : Only (fun b => b = rb ∨ b = qb) w0 wr) (hb : Below wy.heap.size wy wz) (hgr : wz.grownBy wf v.ownBlock) (hown : wf.ownsRow w0.heap.size e sz (.slice (some ⟨g, 0, none⟩) m cap) m ys) (o : Nat) (u : Value) :
  (wf.setCell ⟨qb, o, none⟩ u).ownsRow w0.heap.size e sz (.slice (some ⟨g, 0, none⟩) m cap) m ys ∧ RdAt T E (wf.setCell ⟨qb, o, none⟩ u) rb A c j ∧ Only (fun b => b = rb ∨ b = qb) w0 (wf.setCell ⟨qb, o, none⟩ u) ∧ (∀ t l, RowL wr qb t l → RowL wf qb t l) := by
 have hlt : ∀ k, v.ownBlock = some k → w0.heap.size ≤ k := fun k hk => (hrow.lt k hk).1
 have h1 : Only (fun b => v.ownBlock = some b) wz wf := Only.of_grown hgr (fun k hk => hk.symm)
 have hry : RdAt T E wf rb A c j := (hr.keep hb).other2 h1 (fun e => by have := hlt _ e; have := hL.rd; omega) (fun h0 ad e e2 => by have := hlt _ e2; have := hL.old h0 ad e; omega)
 have h2 : Only (fun b => b = qb) wf (wf.setCell ⟨qb, o, none⟩ u) := putAll_only [u] wf qb o
 refine ⟨own_off hown hL.q _ _, hry.other2 h2 (fun e => hL.ne e.symm) (fun h0 ad e => hL.toks h0 ad e), ?_, fun t l hq => ?_⟩
 ·have ha : Only (fun b => b = rb ∨ b = qb) w0 wz := (hn.trans (ho.mono (fun k e => Or.inl e))).trans (.of_below hb)
  exact (ha.then_news h1 (fun k e => hlt k e)).trans (h2.mono (fun k e => Or.inr e))
 ·exact ((hq.only ho hL.ne).keep hb).only h1 (fun e => by have := hlt _ e; have := hL.q; omega)
structure GrpAt (T : List Tok) (E rb qb : Nat) (A : Option Addr) (c : Nat) (w0 wr : World) (q0 : QX) (k j : Nat) (vg : Value) (ns : List ByteArray) : Prop where
 len : ns.length = k
 row : wr.ownsRow w0.heap.size 9 1 vg k (strCells ns)
 q : RowL wr qb 30 (qL q0.from_ q0.wher (.slice q0.CA q0.cols.length q0.cc) (.slice q0.NA q0.names.length q0.nc) vg q0.size q0.slide (.slice q0.AA q0.aggs.length q0.ac))
 rd : RdAt T E wr rb A c j
 only : Only (fun b => b = rb ∨ b = qb) w0 wr
 sz : ∀ s ∈ ns, s.size ≤ 400
theorem GrpAt.more {T : List Tok} {E rb qb : Nat} {A : Option Addr} {c : Nat} {w0 wr : World} {q0 : QX} {k j : Nat} {vg : Value} {ns : List ByteArray} (h : GrpAt T E rb qb A c w0 wr q0 k j vg ns) (hL : Lies T A rb qb w0) {s : ByteArray} (hs : s.size ≤ 400) {wy wz wf : World} {j2 g cap : Nat}
  (ho : Only (fun b => b = rb) wr wy) (hr : RdAt T E wy rb A c j2) (hb : Below wy.heap.size wy wz) (hgr : wz.grownBy wf vg.ownBlock) (hown : wf.ownsRow w0.heap.size 9 1 (.slice (some ⟨g, 0, none⟩) (k + 1) cap) (k + 1) (strCells ns ++ [.string s])) :
  (wf.cell? ⟨qb, 10, none⟩ = some vg ∧ wf.frozen? ⟨qb, 10, none⟩ = false ∧ qb < wf.heap.size) ∧ GrpAt T E rb qb A c w0 (wf.setCell ⟨qb, 10, none⟩ (.slice (some ⟨g, 0, none⟩) (k + 1) cap)) q0 (k + 1) j2 (.slice (some ⟨g, 0, none⟩) (k + 1) cap) (ns ++ [s]) := by
 obtain ⟨h1, h2, h3, h4⟩ := grown_beside hL h.row ho hr h.only hb hgr hown 10 (.slice (some ⟨g, 0, none⟩) (k + 1) cap)
 have hq := h4 _ _ h.q
 refine ⟨⟨hq.cell rfl, hq.free 10, hq.lt⟩, ⟨by rw [List.length_append, h.len]; rfl, by rw [strCells_snoc']; exact h1, hq.set 10 _, h2, h3, fun u hu => ?_⟩⟩
 rcases List.mem_append.1 hu with hu | hu
 ·exact h.sz u hu
 ·simp at hu; subst hu; exact hs
theorem GrpAt.to {T : List Tok} {E rb qb : Nat} {A : Option Addr} {c : Nat} {w0 wr : World} {q0 : QX} {k j : Nat} {vg : Value} {ns : List ByteArray} (h : GrpAt T E rb qb A c w0 wr q0 k j vg ns) (hL : Lies T A rb qb w0) {w' : World} {j' : Nat} (ho : Only (fun b => b = rb) wr w') (hr : RdAt T E w' rb A c j') : GrpAt T E rb qb A c w0 w' q0 k j' vg ns :=
 ⟨h.len, ho.own h.row (fun b hb e => by have := (h.row.lt b hb).1; have e : b = rb := e; have := hL.rd; omega), h.q.only ho hL.ne, hr, h.only.trans (ho.mono (fun _ e => Or.inl e)), h.sz⟩
theorem num_fits {T : List Tok} {E : Nat} (hW : Words T E) {i j : Nat} {n : Int} (h : numQ T E i = .ok (n, j)) : fits n := by
 rw [numQ_eq] at h
 by_cases hk : kindT T i = 2
 ·rw [if_pos hk] at h
  injection h with h
  injection h with h _
  rw [← h]
  exact (readP_wf (num_read hW hk).1).2.1
 ·rw [if_neg hk] at h; cases h
def GrpV (w : World) (qb : Nat) (y : QX) (p : QP) (v : Value) (w' : World) : Prop := v = .tuple #[] ∧ ∃ (GA : Option Addr) (gc : Nat) (ns : List ByteArray) (sz sl : Int), RowL w' qb 30 (qxL { y with GA := GA, gc := gc, group := ns, size := sz, slide := sl }) ∧ SeesIn (fun b => w.heap.size ≤ b) w' GA ns.length gc 1 (strCells ns) ∧ qpX { y with GA := GA, gc := gc, group := ns, size := sz, slide := sl } = p ∧ (∀ s ∈ ns, s.size ≤ 400) ∧ fits sz ∧ fits sl
set_option maxHeartbeats 8000000 in
set_option maxRecDepth 100000 in
theorem group_any {T : List Tok} {E : Nat} (hW : Words T E) (i : Nat) (wB w : World) (rb qb : Nat) (A : Option Addr) (c : Nat) (hR : RdAt T E w rb A c i) (hE : Env wB w rb) (hqB : wB.heap.size ≤ qb) (hL : Lies T A rb qb w) (y : QX) (hG : y.GA = none ∧ y.gc = 0 ∧ y.group = []) (hq : RowL w qb 30 (qxL y)) :
  Calls Tryz.prog 109 #[.pointer (some ⟨rb, 0, none⟩), .pointer (some ⟨qb, 0, none⟩)] w (QSays2 T E rb qb A c w (GrpV w qb y) (groupQ T E (qpX y) i)) := by
 obtain ⟨r, hr⟩ : ∃ r, groupQ T E (qpX y) i = r := ⟨_, rfl⟩
 obtain ⟨fr, wh, CA, cc, cols, NA, nc, names, GA, gc, grp, sz, sl, AA, ac, aggs⟩ := y
 obtain ⟨rfl, rfl, rfl⟩ : GA = none ∧ gc = 0 ∧ grp = [] := hG
 have T1 := Lib.hid (need_any hR hW ⟨#[103, 114, 111, 117, 112]⟩)
 have HWW := Lib.hid hW
 have HR := Lib.hid hr
 have HE := Lib.hid hE
 have HQB := Lib.hid hqB
 have HL := Lib.hid hL
 have HQ := Lib.hid hq
 rw [hr]
 unfold groupQ at HR
 clear hW hR hE hL hq hr hqB
 go_enter Tryz.func109, Tryz.ntmps109
 go_wp2_with fail
 refine (T1.out).mono ?_
 rintro e' w1 (⟨hh, rfl, hr1, hn1⟩ | ⟨hh, rfl, hn1⟩)
 rotate_left
 ·have HF := Lib.hid (hn1.mono (T := fun k => k = rb ∨ k = qb) (fun k e => Or.inl e))
  rw [need_no (s := qGroup) hh] at HR
  clear hn1 T1
  unfold wrongAt
  go_wp2_with fail
  refine ⟨rfl, ?_⟩
  rw [← HR.out]
  exact ⟨rfl, HF.out⟩
 rw [need_ok (s := qGroup) hh] at HR
 have T2 := Lib.hid (need_any hr1 HWW.out ⟨#[98, 121]⟩)
 have HN1 := Lib.hid hn1
 clear hh hr1 hn1 T1
 go_wp2_with fail
 refine (T2.out).mono ?_
 rintro e' w2 (⟨hh, rfl, hr2, hn2⟩ | ⟨hh, rfl, hn2⟩)
 rotate_left
 ·have HF := Lib.hid ((HN1.out.trans hn2).mono (T := fun k => k = rb ∨ k = qb) (fun k e => Or.inl e))
  replace HR := Lib.hid (show .error (atT T E (i + 1)) = r by rw [← HR.out]; show _ = ((needQ T E qBy (i + 1)).bind _); rw [need_no (s := qBy) hh]; rfl)
  clear hn2 T2
  unfold wrongAt
  go_wp2_with fail
  refine ⟨rfl, ?_⟩
  rw [← HR.out]
  exact ⟨rfl, HF.out⟩
 replace HR := Lib.hid (show ((grpQ T E (T.length + 1) (qpX ⟨fr, wh, CA, cc, cols, NA, nc, names, none, 0, [], sz, sl, AA, ac, aggs⟩) (i + 1 + 1)).bind fun p => winQ T E p.1 p.2) = r by rw [← HR.out]; show _ = ((needQ T E qBy (i + 1)).bind _); rw [need_ok (s := qBy) hh]; rfl)
 have HN2 := Lib.hid (HN1.out.trans hn2)
 have hg2 : GrpAt T E rb qb A c w w2 ⟨fr, wh, CA, cc, cols, NA, nc, names, none, 0, [], sz, sl, AA, ac, aggs⟩ 0 (i + 1 + 1) (.slice none 0 0) [] := ⟨rfl, World.ownsRow_nil _ _ _ _, HQ.out.only HN2.out HL.out.ne, hr2, HN2.out.mono (fun k e => Or.inl e), (fun s h => by cases h)⟩
 have HG2 := Lib.hid hg2
 have HE2 := Lib.hid (HE.out.only HN2.out)
 obtain ⟨y, hy⟩ : ∃ y : QX, y = ⟨fr, wh, CA, cc, cols, NA, nc, names, none, 0, [], sz, sl, AA, ac, aggs⟩ := ⟨_, rfl⟩
 rw [← hy] at HG2 HR
 have HY := Lib.hid hy
 clear hh hr2 hn2 T2 hg2 HN1 HN2 hy HQ
 generalize i + 1 + 1 = j at *
 have HC := Lib.hid (show w2.drew.cell? ⟨qb, 10, none⟩ = some (.slice none 0 0) from HG2.out.q.cell rfl)
 cases hnm : nameT T j with
 | none =>
  have T9 := Lib.hid (gname_no hnm (HG2.out.rd.keep (Below.refl _ _).drew) HWW.out ((HE2.out.words.keep HE2.out.below).keep (Below.refl _ _).drew))
  replace HR := Lib.hid (show .error (atT T E j) = r by rw [← HR.out]; show _ = (((nameQ T E j).bind _).bind _); rw [nameQ_no hnm]; rfl)
  clear hnm
  go_wp2_with fail
  refine regionD (fun w' => w'.cell? ⟨qb, 10, none⟩ = some (.slice none 0 0)) 8 (by kernel_rfl) ?_
  refine takeP (i := 0) (dst := some 8) (v := .pointer (some ⟨qb, 0, none⟩)) rfl rfl (by kernel_rfl) (by kernel_rfl) (by kernel_rfl) (fun _ _ _ h => h) (by decide) (Or.inl ⟨by rfl, fun w' _ => by go_simp⟩) (Or.inr HC.out) ?_
  simp only [Act.put, aS, aZ, aC]
  refine takeP (i := 1) (dst := some 9) (v := .pointer (some ⟨qb, 0, none⟩)) rfl rfl (by kernel_rfl) (by kernel_rfl) (by kernel_rfl) (fun _ _ _ h => h) (by decide) (Or.inl ⟨by rfl, fun w' _ => by go_simp⟩) (Or.inr HC.out) ?_
  simp only [Act.put, aS, aZ, aC]
  refine takeP (i := 2) (dst := some 10) (v := .pointer (some ⟨qb, 0, none⟩)) rfl rfl (by kernel_rfl) (by kernel_rfl) (by kernel_rfl) (fun _ _ _ h => h) (by decide) (Or.inl ⟨by rfl, fun w' _ => by go_simp⟩) (Or.inr HC.out) ?_
  simp only [Act.put, aS, aZ, aC]
  refine takeP (i := 3) (dst := some 11) (v := .pointer (some ⟨qb, 10, none⟩)) rfl rfl (by kernel_rfl) (by kernel_rfl) (by kernel_rfl) (fun _ _ _ h => h) (by decide) (Or.inl ⟨by rfl, fun w' _ => by go_simp⟩) (Or.inr HC.out) ?_
  simp only [Act.put, aS, aZ, aC]
  refine takeD (i := 4) (dst := some 12) (v := .slice none 0 0) rfl rfl (by kernel_rfl) (by kernel_rfl) (by kernel_rfl) (fun _ _ _ h => h) (by decide) (by kernel_rfl) (by kernel_rfl) (Or.inl ⟨by rfl, fun w' h => by go_simp⟩) HC.out ?_
  simp only [Act.put, aS, aZ, aC]
  refine takeP (i := 5) (dst := some 13) (v := .pointer (some ⟨rb, 0, none⟩)) rfl rfl (by kernel_rfl) (by kernel_rfl) (by kernel_rfl) (fun _ _ _ h => h) (by decide) (Or.inl ⟨by rfl, fun w' _ => by go_simp⟩) (Or.inr HC.out) ?_
  simp only [Act.put, aS, aZ, aC]
  exact oneD (i := 6) (by kernel_rfl) (wpOp_panics rfl (by rfl) (f := 107) (args := #[.pointer (some ⟨rb, 0, none⟩)]) (by go_simp) (T9.out.mono fun e w' ⟨h1, h2⟩ => ⟨h1, h2⟩) (fun wy hny => ⟨rfl, by rw [← HR.out]; exact ⟨rfl, HG2.out.only.trans ((hny.drewL).mono (fun k e => Or.inl e))⟩⟩))
 | some nm =>
  have T9 := Lib.hid (name_ok hnm (HG2.out.rd.keep (Below.refl _ _).drew) HWW.out ((HE2.out.words.keep HE2.out.below).keep (Below.refl _ _).drew))
  have HNS := Lib.hid (name_size hnm HWW.out)
  have HRG := Lib.hid (show (if isT T (j + 1) wComma = true then grpQ T E T.length { qpX y with group := [nm] } (j + 1 + 1) else .ok ({ qpX y with group := [nm] }, j + 1)) = grpQ T E (T.length + 1) (qpX y) j by
   show _ = ((nameQ T E j).bind _)
   rw [nameQ_ok hnm, HY.out]; rfl)
  clear hnm
  go_wp2_with fail
  refine regionD (fun w' => w'.cell? ⟨qb, 10, none⟩ = some (.slice none 0 0)) 8 (by kernel_rfl) ?_
  refine takeP (i := 0) (dst := some 8) (v := .pointer (some ⟨qb, 0, none⟩)) rfl rfl (by kernel_rfl) (by kernel_rfl) (by kernel_rfl) (fun _ _ _ h => h) (by decide) (Or.inl ⟨by rfl, fun w' _ => by go_simp⟩) (Or.inr HC.out) ?_
  simp only [Act.put, aS, aZ, aC]
  refine takeP (i := 1) (dst := some 9) (v := .pointer (some ⟨qb, 0, none⟩)) rfl rfl (by kernel_rfl) (by kernel_rfl) (by kernel_rfl) (fun _ _ _ h => h) (by decide) (Or.inl ⟨by rfl, fun w' _ => by go_simp⟩) (Or.inr HC.out) ?_
  simp only [Act.put, aS, aZ, aC]
  refine takeP (i := 2) (dst := some 10) (v := .pointer (some ⟨qb, 0, none⟩)) rfl rfl (by kernel_rfl) (by kernel_rfl) (by kernel_rfl) (fun _ _ _ h => h) (by decide) (Or.inl ⟨by rfl, fun w' _ => by go_simp⟩) (Or.inr HC.out) ?_
  simp only [Act.put, aS, aZ, aC]
  refine takeP (i := 3) (dst := some 11) (v := .pointer (some ⟨qb, 10, none⟩)) rfl rfl (by kernel_rfl) (by kernel_rfl) (by kernel_rfl) (fun _ _ _ h => h) (by decide) (Or.inl ⟨by rfl, fun w' _ => by go_simp⟩) (Or.inr HC.out) ?_
  simp only [Act.put, aS, aZ, aC]
  refine takeD (i := 4) (dst := some 12) (v := .slice none 0 0) rfl rfl (by kernel_rfl) (by kernel_rfl) (by kernel_rfl) (fun _ _ _ h => h) (by decide) (by kernel_rfl) (by kernel_rfl) (Or.inl ⟨by rfl, fun w' h => by go_simp⟩) HC.out ?_
  simp only [Act.put, aS, aZ, aC]
  refine takeP (i := 5) (dst := some 13) (v := .pointer (some ⟨rb, 0, none⟩)) rfl rfl (by kernel_rfl) (by kernel_rfl) (by kernel_rfl) (fun _ _ _ h => h) (by decide) (Or.inl ⟨by rfl, fun w' _ => by go_simp⟩) (Or.inr HC.out) ?_
  simp only [Act.put, aS, aZ, aC]
  refine oneD (i := 6) (by kernel_rfl) (wpOp_returnsD (d := some 14) rfl rfl (by rfl) (f := 107) (args := #[.pointer (some ⟨rb, 0, none⟩)]) (by go_simp) T9.out ?_)
  rintro e wy ⟨rfl, hry, hny⟩
  have HC2 := Lib.hid (only_cell hny HC.out HL.out.ne)
  refine ⟨_, rfl, Or.inr HC2.out, ?_⟩
  simp only [Act.put, aS, aZ, aC]
  have hbz := belowNew' wy (.cells #[.string (mkB nm)] 9)
  have hrow : (wy.alloc (.cells #[.string (mkB nm)] 9)).heap[wy.heap.size]? = some (.cells (strCells [mkB nm]).toArray 9 (0, 0)) := heap_alloc_new wy _
  refine oneD (i := 7) (by kernel_rfl) (wpOp_valueD (d := some 15) rfl rfl (by rfl) (v := .slice (some ⟨wy.heap.size, 0, none⟩) 1 1) (w' := wy.alloc (.cells #[.string (mkB nm)] 9)) (by go_simp) ?_)
  generalize wy.alloc (.cells #[.string (mkB nm)] 9) = wz at hbz hrow ⊢
  have HC3 := Lib.hid ((hbz.cell (p := ⟨qb, _, none⟩) (World.block_lt_of_cell? wy _ HC2.out)).trans HC2.out)
  refine ⟨Or.inr HC3.out, ?_⟩
  simp only [Act.put, aS, aZ, aC]
  refine oneD (i := 8) (by kernel_rfl) (wpOp_append_one (d := some 16) strSlice rfl rfl rfl (.tmp 12) (.tmp 15) rfl (v := .slice none 0 0) (n := 0) (xs := strCells []) (ys := [.string (mkB nm)]) (b := wy.heap.size) (c := 1) (H := wz.heap.size) rfl rfl (show wz.ownsRow w.heap.size 9 1 (.slice none 0 0) 0 [] ∧ w.heap.size ≤ wz.heap.size from ⟨World.ownsRow_nil _ _ _ _, by have := HG2.out.only.size; have := hny.size; have := hbz.size; have e : w2.drew.heap.size = w2.heap.size := rfl; omega⟩).1 (show wz.ownsRow w.heap.size 9 1 (.slice none 0 0) 0 [] ∧ w.heap.size ≤ wz.heap.size from ⟨World.ownsRow_nil _ _ _ _, by have := HG2.out.only.size; have := hny.size; have := hbz.size; have e : w2.drew.heap.size = w2.heap.size := rfl; omega⟩).2 rfl (fun q u hu => ?_) (fun u hu => by simp at hu; subst hu; rfl) (by omega) rfl ?_)
  ·have hu' : (strCells [mkB nm])[q]? = some u := hu
   have hcq : wz.cell? ⟨wy.heap.size, q, none⟩ = some u := by rw [cell_of_row _ _ _ _ _ _ hrow]; simpa using hu'
   rw [addr_add0]; exact hcq
  intro g cap wf hown hgr hat
  have HMORE := Lib.hid (HG2.out.more HL.out HNS.out hny.drewL hry hbz hgr hown)
  refine ⟨Or.inl (by kernel_rfl), ?_⟩
  simp only [Act.put, aS, aZ, aC]
  obtain ⟨qc, qf, ql⟩ := (HMORE.out).1
  refine takeP (i := 9) (dst := some 17) (v := .pointer (some ⟨qb, 0, none⟩)) rfl rfl (by kernel_rfl) (by kernel_rfl) (by kernel_rfl) (fun _ _ _ h => h) (by decide) (Or.inl ⟨by rfl, fun w' _ => by go_simp⟩) (Or.inl (by kernel_rfl)) ?_
  simp only [Act.put, aS, aZ, aC]
  refine takeP (i := 10) (dst := some 18) (v := .pointer (some ⟨qb, 10, none⟩)) rfl rfl (by kernel_rfl) (by kernel_rfl) (by kernel_rfl) (fun _ _ _ h => h) (by decide) (Or.inl ⟨by rfl, fun w' _ => by go_simp⟩) (Or.inl (by kernel_rfl)) ?_
  simp only [Act.put, aS, aZ, aC]
  refine oneD (i := 11) (by kernel_rfl) (wpOp_skip rfl (by rfl) (w' := wf.setCell ⟨qb, 10, none⟩ (.slice (some ⟨g, 0, none⟩) (0 + 1) cap)) (by go_simp) ?_)
  refine ⟨Or.inl (by kernel_rfl), ?_⟩
  simp only [Act.put]
  refine doneD (by kernel_rfl) ?_ _
  generalize wf.setCell ⟨qb, 10, none⟩ (.slice (some ⟨g, 0, none⟩) (0 + 1) cap) = wg at HMORE ⊢
  clear qc qf ql
  have HG3 := Lib.hid (show GrpAt T E rb qb A c w wg y 1 (j + 1) (.slice (some ⟨g, 0, none⟩) 1 cap) [mkB nm] from HMORE.out.2)
  have HJ := Lib.hid hry.le
  clear hown hgr hat HMORE hbz hrow hry hny HC HC2 HC3 T9 HNS
  go_wp2_with fail
  go_loopw [] (fun wr => ∃ (k j2 f : Nat) (vg : Value) (ns : List ByteArray), GrpAt T E rb qb A c w wr y k j2 vg ns ∧ T.length ≤ j2 + f ∧ k ≤ j2 ∧ (if isT T j2 wComma = true then grpQ T E f { qpX y with group := ns.map (·.data.toList) } (j2 + 1) else .ok ({ qpX y with group := ns.map (·.data.toList) }, j2)) = grpQ T E (T.length + 1) (qpX y) j) (fun wr => T.length - rdIdx wr rb)
  case atStart => exact ⟨1, j + 1, T.length, _, _, HG3.out, by omega, by omega, HRG.out⟩
  case round =>
   obtain ⟨k, j2, f, vg, ns, hg, hf, hkj, hl⟩ := hrel
   have HG := Lib.hid hg
   have HF := Lib.hid (show T.length ≤ j2 + f ∧ k ≤ j2 from ⟨hf, hkj⟩)
   have HGQ := Lib.hid hl
   have T4 := Lib.hid (has_any hg.rd HWW.out ⟨#[44]⟩)
   have HIX := Lib.hid hg.rd.idx
   clear hg hf hkj hl HG3 HRG
   unfold StepSays at T4
   obtain ⟨b, hb⟩ : ∃ b, isT T j2 wComma = b := ⟨_, rfl⟩
   rw [show isT T j2 (⟨#[44]⟩ : ByteArray).data.toList = b from hb] at T4
   rw [hb] at HGQ
   have HB := Lib.hid hb
   clear hb
   cases b with
   | true =>
    go_wp2_with fail
    refine (T4.out).mono ?_
    rintro e' wx ⟨rfl, hrx, hnx⟩
    have hrx2 : RdAt T E wx rb A c (j2 + 1) := hrx
    have HGX := Lib.hid (HG.out.to HL.out hnx hrx2)
    have HFX := Lib.hid (show T.length ≤ j2 + f ∧ j2 < T.length ∧ k ≤ j2 from ⟨HF.out.1, isT_lt HB.out, HF.out.2⟩)
    have HEX := Lib.hid (HE.out.two HGX.out.only HQB.out)
    clear hrx hrx2 hnx T4
    obtain ⟨f', rfl⟩ : ∃ f', f = f' + 1 := ⟨f - 1, by have := HFX.out; omega⟩
    have HC := Lib.hid (show wx.drew.cell? ⟨qb, 10, none⟩ = some vg from HGX.out.q.cell rfl)
    obtain ⟨GA, gc, rfl⟩ := own_shape HGX.out.row
    cases hnm : nameT T (j2 + 1) with
    | none =>
     have T9 := Lib.hid (gname_no hnm (HGX.out.rd.keep (Below.refl _ _).drew) HWW.out ((HEX.out.words.keep HEX.out.below).keep (Below.refl _ _).drew))
     have HR2 := Lib.hid (show .error (atT T E (j2 + 1)) = r by
      rw [← HR.out, ← HGQ.out, if_pos trivial]
      show _ = (((nameQ T E (j2 + 1)).bind _).bind _); rw [nameQ_no hnm]; rfl)
     clear hnm
     go_wp2_with fail
     refine regionD (fun w' => w'.cell? ⟨qb, 10, none⟩ = some (.slice GA k gc)) 8 (by kernel_rfl) ?_
     refine takeP (i := 0) (dst := some 21) (v := .pointer (some ⟨qb, 0, none⟩)) rfl rfl (by kernel_rfl) (by kernel_rfl) (by kernel_rfl) (fun _ _ _ h => h) (by decide) (Or.inl ⟨by rfl, fun w' _ => by go_simp⟩) (Or.inr HC.out) ?_
     simp only [Act.put, aS, aZ, aC]
     refine takeP (i := 1) (dst := some 22) (v := .pointer (some ⟨qb, 0, none⟩)) rfl rfl (by kernel_rfl) (by kernel_rfl) (by kernel_rfl) (fun _ _ _ h => h) (by decide) (Or.inl ⟨by rfl, fun w' _ => by go_simp⟩) (Or.inr HC.out) ?_
     simp only [Act.put, aS, aZ, aC]
     refine takeP (i := 2) (dst := some 23) (v := .pointer (some ⟨qb, 0, none⟩)) rfl rfl (by kernel_rfl) (by kernel_rfl) (by kernel_rfl) (fun _ _ _ h => h) (by decide) (Or.inl ⟨by rfl, fun w' _ => by go_simp⟩) (Or.inr HC.out) ?_
     simp only [Act.put, aS, aZ, aC]
     refine takeP (i := 3) (dst := some 24) (v := .pointer (some ⟨qb, 10, none⟩)) rfl rfl (by kernel_rfl) (by kernel_rfl) (by kernel_rfl) (fun _ _ _ h => h) (by decide) (Or.inl ⟨by rfl, fun w' _ => by go_simp⟩) (Or.inr HC.out) ?_
     simp only [Act.put, aS, aZ, aC]
     refine takeD (i := 4) (dst := some 25) (v := .slice GA k gc) rfl rfl (by kernel_rfl) (by kernel_rfl) (by kernel_rfl) (fun _ _ _ h => h) (by decide) (by kernel_rfl) (by kernel_rfl) (Or.inl ⟨by rfl, fun w' h => by go_simp⟩) HC.out ?_
     simp only [Act.put, aS, aZ, aC]
     refine takeP (i := 5) (dst := some 26) (v := .pointer (some ⟨rb, 0, none⟩)) rfl rfl (by kernel_rfl) (by kernel_rfl) (by kernel_rfl) (fun _ _ _ h => h) (by decide) (Or.inl ⟨by rfl, fun w' _ => by go_simp⟩) (Or.inr HC.out) ?_
     simp only [Act.put, aS, aZ, aC]
     exact oneD (i := 6) (by kernel_rfl) (wpOp_panics rfl (by rfl) (f := 107) (args := #[.pointer (some ⟨rb, 0, none⟩)]) (by go_simp) (T9.out.mono fun e w' ⟨h1, h2⟩ => ⟨h1, h2⟩) (fun wy hny => ⟨rfl, by rw [← HR2.out]; exact ⟨rfl, HGX.out.only.trans ((hny.drewL).mono (fun k e => Or.inl e))⟩⟩))
    | some nm =>
     have T9 := Lib.hid (name_ok hnm (HGX.out.rd.keep (Below.refl _ _).drew) HWW.out ((HEX.out.words.keep HEX.out.below).keep (Below.refl _ _).drew))
     have HNS := Lib.hid (name_size hnm HWW.out)
     have HKL := Lib.hid (show k ≤ 400 by have := HFX.out; have := HWW.out.len; omega)
     have hkl : k ≤ 400 := HKL.out
     have HGQ2 := Lib.hid (show (if isT T (j2 + 1 + 1) wComma = true then grpQ T E f' { qpX y with group := (ns ++ [mkB nm]).map (·.data.toList) } (j2 + 1 + 1 + 1) else .ok ({ qpX y with group := (ns ++ [mkB nm]).map (·.data.toList) }, j2 + 1 + 1)) = grpQ T E (T.length + 1) (qpX y) j by
      rw [← HGQ.out]
      refine Eq.trans ?_ (if_pos trivial).symm
      show _ = ((nameQ T E (j2 + 1)).bind _)
      rw [nameQ_ok hnm, List.map_append]; rfl)
     clear hnm HGQ
     go_wp2_with fail
     refine regionD (fun w' => w'.cell? ⟨qb, 10, none⟩ = some (.slice GA k gc)) 8 (by kernel_rfl) ?_
     refine takeP (i := 0) (dst := some 21) (v := .pointer (some ⟨qb, 0, none⟩)) rfl rfl (by kernel_rfl) (by kernel_rfl) (by kernel_rfl) (fun _ _ _ h => h) (by decide) (Or.inl ⟨by rfl, fun w' _ => by go_simp⟩) (Or.inr HC.out) ?_
     simp only [Act.put, aS, aZ, aC]
     refine takeP (i := 1) (dst := some 22) (v := .pointer (some ⟨qb, 0, none⟩)) rfl rfl (by kernel_rfl) (by kernel_rfl) (by kernel_rfl) (fun _ _ _ h => h) (by decide) (Or.inl ⟨by rfl, fun w' _ => by go_simp⟩) (Or.inr HC.out) ?_
     simp only [Act.put, aS, aZ, aC]
     refine takeP (i := 2) (dst := some 23) (v := .pointer (some ⟨qb, 0, none⟩)) rfl rfl (by kernel_rfl) (by kernel_rfl) (by kernel_rfl) (fun _ _ _ h => h) (by decide) (Or.inl ⟨by rfl, fun w' _ => by go_simp⟩) (Or.inr HC.out) ?_
     simp only [Act.put, aS, aZ, aC]
     refine takeP (i := 3) (dst := some 24) (v := .pointer (some ⟨qb, 10, none⟩)) rfl rfl (by kernel_rfl) (by kernel_rfl) (by kernel_rfl) (fun _ _ _ h => h) (by decide) (Or.inl ⟨by rfl, fun w' _ => by go_simp⟩) (Or.inr HC.out) ?_
     simp only [Act.put, aS, aZ, aC]
     refine takeD (i := 4) (dst := some 25) (v := .slice GA k gc) rfl rfl (by kernel_rfl) (by kernel_rfl) (by kernel_rfl) (fun _ _ _ h => h) (by decide) (by kernel_rfl) (by kernel_rfl) (Or.inl ⟨by rfl, fun w' h => by go_simp⟩) HC.out ?_
     simp only [Act.put, aS, aZ, aC]
     refine takeP (i := 5) (dst := some 26) (v := .pointer (some ⟨rb, 0, none⟩)) rfl rfl (by kernel_rfl) (by kernel_rfl) (by kernel_rfl) (fun _ _ _ h => h) (by decide) (Or.inl ⟨by rfl, fun w' _ => by go_simp⟩) (Or.inr HC.out) ?_
     simp only [Act.put, aS, aZ, aC]
     refine oneD (i := 6) (by kernel_rfl) (wpOp_returnsD (d := some 27) rfl rfl (by rfl) (f := 107) (args := #[.pointer (some ⟨rb, 0, none⟩)]) (by go_simp) T9.out ?_)
     rintro e wy ⟨rfl, hry, hny⟩
     have HC2 := Lib.hid (only_cell hny HC.out HL.out.ne)
     refine ⟨_, rfl, Or.inr HC2.out, ?_⟩
     simp only [Act.put, aS, aZ, aC]
     have hbz := belowNew' wy (.cells #[.string (mkB nm)] 9)
     have hrow : (wy.alloc (.cells #[.string (mkB nm)] 9)).heap[wy.heap.size]? = some (.cells (strCells [mkB nm]).toArray 9 (0, 0)) := heap_alloc_new wy _
     refine oneD (i := 7) (by kernel_rfl) (wpOp_valueD (d := some 28) rfl rfl (by rfl) (v := .slice (some ⟨wy.heap.size, 0, none⟩) 1 1) (w' := wy.alloc (.cells #[.string (mkB nm)] 9)) (by go_simp) ?_)
     generalize wy.alloc (.cells #[.string (mkB nm)] 9) = wz at hbz hrow ⊢
     have HC3 := Lib.hid ((hbz.cell (p := ⟨qb, _, none⟩) (World.block_lt_of_cell? wy _ HC2.out)).trans HC2.out)
     refine ⟨Or.inr HC3.out, ?_⟩
     simp only [Act.put, aS, aZ, aC]
     refine oneD (i := 8) (by kernel_rfl) (wpOp_append_one (d := some 29) strSlice rfl rfl rfl (.tmp 25) (.tmp 28) rfl (v := .slice GA k gc) (n := k) (xs := strCells ns) (ys := [.string (mkB nm)]) (b := wy.heap.size) (c := 1) (H := wz.heap.size) rfl rfl (show wz.ownsRow w.heap.size 9 1 (.slice GA k gc) k (strCells ns) ∧ w.heap.size ≤ wz.heap.size from ⟨((HGX.out.to HL.out hny.drewL hry).to HL.out (.of_below hbz) (hry.keep hbz)).row, by have := HGX.out.only.size; have := hny.size; have := hbz.size; have e : wx.drew.heap.size = wx.heap.size := rfl; omega⟩).1 (show wz.ownsRow w.heap.size 9 1 (.slice GA k gc) k (strCells ns) ∧ w.heap.size ≤ wz.heap.size from ⟨((HGX.out.to HL.out hny.drewL hry).to HL.out (.of_below hbz) (hry.keep hbz)).row, by have := HGX.out.only.size; have := hny.size; have := hbz.size; have e : wx.drew.heap.size = wx.heap.size := rfl; omega⟩).2 rfl (fun q u hu => ?_) (fun u hu => by simp at hu; subst hu; rfl) (by omega) rfl ?_)
     ·have hu' : (strCells [mkB nm])[q]? = some u := hu
      have hcq : wz.cell? ⟨wy.heap.size, q, none⟩ = some u := by rw [cell_of_row _ _ _ _ _ _ hrow]; simpa using hu'
      rw [addr_add0]; exact hcq
     intro g cap wf hown hgr hat
     have HMORE := Lib.hid (HGX.out.more HL.out HNS.out hny.drewL hry hbz hgr hown)
     refine ⟨Or.inl (by kernel_rfl), ?_⟩
     simp only [Act.put, aS, aZ, aC]
     obtain ⟨qc, qf, ql⟩ := (HMORE.out).1
     refine takeP (i := 9) (dst := some 30) (v := .pointer (some ⟨qb, 0, none⟩)) rfl rfl (by kernel_rfl) (by kernel_rfl) (by kernel_rfl) (fun _ _ _ h => h) (by decide) (Or.inl ⟨by rfl, fun w' _ => by go_simp⟩) (Or.inl (by kernel_rfl)) ?_
     simp only [Act.put, aS, aZ, aC]
     refine takeP (i := 10) (dst := some 31) (v := .pointer (some ⟨qb, 10, none⟩)) rfl rfl (by kernel_rfl) (by kernel_rfl) (by kernel_rfl) (fun _ _ _ h => h) (by decide) (Or.inl ⟨by rfl, fun w' _ => by go_simp⟩) (Or.inl (by kernel_rfl)) ?_
     simp only [Act.put, aS, aZ, aC]
     refine oneD (i := 11) (by kernel_rfl) (wpOp_skip rfl (by rfl) (w' := wf.setCell ⟨qb, 10, none⟩ (.slice (some ⟨g, 0, none⟩) (k + 1) cap)) (by go_simp) ?_)
     refine ⟨Or.inl (by kernel_rfl), ?_⟩
     simp only [Act.put]
     refine doneD (by kernel_rfl) ?_ _
     generalize wf.setCell ⟨qb, 10, none⟩ (.slice (some ⟨g, 0, none⟩) (k + 1) cap) = wg at HMORE ⊢
     clear qc qf ql
     have HJ2 := Lib.hid hry.le
     clear hown hgr hat hbz hrow hry hny HC HC2 HC3 T9 HNS hkl
     go_wp2_with fail
     go_roundw
     case rel =>
      (repeat apply Exists.intro)
      exact ⟨⟨k + 1, j2 + 1 + 1, f', _, _, HMORE.out.2, by have := HFX.out; omega, by have := HFX.out; omega, HGQ2.out⟩, rfl⟩
     case measure =>
      rw [HMORE.out.2.rd.idx, HIX.out]
      have := HFX.out
      omega
   | false =>
    replace HGQ := Lib.hid (show .ok ({ qpX y with group := ns.map (·.data.toList) }, j2) = grpQ T E (T.length + 1) (qpX y) j by rw [← HGQ.out]; exact (if_neg (by decide)).symm)
    have HR2 := Lib.hid (show winQ T E { qpX y with group := ns.map (·.data.toList) } j2 = r by rw [← HR.out, ← HGQ.out]; rfl)
    unfold winQ at HR2
    go_wp2_with fail
    refine (T4.out).mono ?_
    rintro e' wx ⟨rfl, hrx, hnx⟩
    have hrx2 : RdAt T E wx rb A c j2 := hrx
    have HGX := Lib.hid (HG.out.to HL.out hnx hrx2)
    have T5 := Lib.hid (need_any hrx2 HWW.out ⟨#[119, 105, 110, 100, 111, 119]⟩)
    clear hrx hrx2 hnx T4 HG HGQ HR
    go_wp2_with fail
    refine (T5.out).mono ?_
    rintro e' w3 (⟨hh, rfl, hr3, hn3⟩ | ⟨hh, rfl, hn3⟩)
    rotate_left
    ·have HF := Lib.hid (HGX.out.only.trans (hn3.mono (fun k e => Or.inl e)))
     rw [need_no (s := qWindow) hh] at HR2
     clear hn3 T5
     unfold wrongAt
     go_wp2_with fail
     refine ⟨rfl, ?_⟩
     rw [← HR2.out]
     exact ⟨rfl, HF.out⟩
    rw [need_ok (s := qWindow) hh] at HR2
    have HG3 := Lib.hid (HGX.out.to HL.out hn3 hr3)
    have HE3 := Lib.hid (HE.out.two HG3.out.only HQB.out)
    have T6 := Lib.hid (qnum_any HWW.out (j2 + 1) wB w3 rb A c hr3 HE3.out)
    clear hh hr3 hn3 T5 HGX
    generalize j2 + 1 = j3 at *
    go_wp2_with fail
    refine (T6.out).mono ?_
    intro e' w4 h4
    cases hx : numQ T E j3 with
    | error k4 =>
     rw [hx] at h4
     obtain ⟨rfl, hn4⟩ := h4
     have HF := Lib.hid (HG3.out.only.trans (hn4.mono (fun k e => Or.inl e)))
     replace HR2 := Lib.hid (show .error k4 = r by rw [← HR2.out]; show _ = ((numQ T E j3).bind _); rw [hx]; rfl)
     clear hn4 T6 hx
     unfold wrongAt
     go_wp2_with fail
     refine ⟨rfl, ?_⟩
     rw [← HR2.out]
     exact ⟨rfl, HF.out⟩
    | ok pp =>
     obtain ⟨n, j4⟩ := pp
     rw [hx] at h4
     obtain ⟨-, rfl, rfl, hr4, hn4⟩ := h4
     replace HR2 := Lib.hid (show (if isT T j4 qSlide = true then (numQ T E (j4 + 1)).bind fun m => .ok ({ qpX y with group := ns.map (·.data.toList), size := n, slide := m.1 }, m.2) else .ok ({ qpX y with group := ns.map (·.data.toList), size := n, slide := n }, j4)) = r by rw [← HR2.out]; show _ = ((numQ T E j3).bind _); rw [hx]; rfl)
     have HFN := Lib.hid (num_fits HWW.out hx)
     have hg4 := HG3.out.to HL.out hn4 hr4
     obtain ⟨GA, gc, rfl⟩ := own_shape hg4.row
     obtain ⟨GA', gc', e5, hs5⟩ := SeesIn.of_own (S := fun b => w.heap.size ≤ b) hg4.row (fun b h _ => h)
     injection e5 with e5 _ e6
     subst e5 e6
     have hk : ns.length = k := hg4.len
     subst hk
     obtain ⟨w5, hw5⟩ : ∃ w5, w4.setCell ⟨qb, 11, none⟩ (.int .i64 n) = w5 := ⟨_, rfl⟩
     have hq5 : RowL w5 qb 30 (qL y.from_ y.wher (.slice y.CA y.cols.length y.cc) (.slice y.NA y.names.length y.nc) (.slice GA ns.length gc) n y.slide (.slice y.AA y.aggs.length y.ac)) := by rw [← hw5]; exact hg4.q.set 11 (.int .i64 n)
     have ho5 : Only (fun k => k = qb) w4 w5 := by rw [← hw5]; exact putAll_only [.int .i64 n] w4 qb 11
     obtain ⟨w6, hw6⟩ : ∃ w6, w5.setCell ⟨qb, 12, none⟩ (.int .i64 n) = w6 := ⟨_, rfl⟩
     have hq6 : RowL w6 qb 30 (qL y.from_ y.wher (.slice y.CA y.cols.length y.cc) (.slice y.NA y.names.length y.nc) (.slice GA ns.length gc) n n (.slice y.AA y.aggs.length y.ac)) := by rw [← hw6]; exact hq5.set 12 (.int .i64 n)
     have ho6 : Only (fun k => k = qb) w5 w6 := by rw [← hw6]; exact putAll_only [.int .i64 n] w5 qb 12
     have ho46 := ho5.trans ho6
     have HR6 := Lib.hid (hg4.rd.other ho46 HL.out.ne.symm HL.out.toks)
     have HN6 := Lib.hid (hg4.only.trans (ho46.mono (fun k e => Or.inr e)))
     have HS6 := Lib.hid (hs5.keep (alike_only2 ho46 (fun b hb e => by have hb : w.heap.size ≤ b := hb; have e : b = qb := e; have := HL.out.q; omega)))
     have HQ6 := Lib.hid hq6
     have HSZ := Lib.hid hg4.sz
     have T7 := Lib.hid (has_any HR6.out HWW.out ⟨#[115, 108, 105, 100, 101]⟩)
     unfold StepSays at T7
     have k11 : w4.cell? ⟨qb, 11, none⟩ = some (.int .i64 y.size) := hg4.q.cell rfl
     have f11 := hg4.q.free 11
     have hl4 := hg4.q.lt
     have l11 : w5.cell? ⟨qb, 11, none⟩ = some (.int .i64 n) := hq5.cell rfl
     have k12 : w5.cell? ⟨qb, 12, none⟩ = some (.int .i64 y.slide) := hq5.cell rfl
     have f12 := hq5.free 12
     have hl5 := hq5.lt
     have HW5 := Lib.hid hw5
     have HW6 := Lib.hid hw6
     clear hx T6 hr4 hn4 hg4 hs5 hw5 hq5 ho5 hw6 hq6 ho6 ho46 HG3 HE3
     obtain ⟨b, hb⟩ : ∃ b, isT T j4 qSlide = b := ⟨_, rfl⟩
     rw [show isT T j4 (⟨#[115, 108, 105, 100, 101]⟩ : ByteArray).data.toList = b from hb] at T7
     rw [hb] at HR2
     clear hb
     go_wp2_with (first | rw [HW5.out] | rw [HW6.out])
     refine (T7.out).mono ?_
     rintro e' w7 ⟨rfl, hr7, hn7⟩
     have HN7 := Lib.hid (HN6.out.trans (hn7.mono (fun k e => Or.inl e)))
     have HQ7 := Lib.hid (HQ6.out.only hn7 HL.out.ne)
     have HS7 := Lib.hid (HS6.out.keep (alike_only2 hn7 (fun b hb e => by have hb : w.heap.size ≤ b := hb; have e : b = rb := e; have := HL.out.rd; omega)))
     have HRR := Lib.hid hr7
     have HLL := Lib.hid (show y.from_ = fr ∧ y.wher = wh from by rw [HY.out]; exact ⟨rfl, rfl⟩)
     clear hr7 hn7 T7 k11 f11 hl4 l11 k12 f12 hl5 HW5 HW6
     cases b with
     | false =>
      go_wp2_with fail
      go_end0
      rw [← HR2.out, if_neg (by decide)]
      have hy := HY.out
      subst hy
      exact ⟨_, rfl, ⟨rfl, GA, gc, ns, n, n, HQ7.out, HS7.out, rfl, HSZ.out, HFN.out, HFN.out⟩, HRR.out, HN7.out⟩
     | true =>
      have hr7 : RdAt T E w7 rb A c (j4 + 1) := HRR.out
      have T8 := Lib.hid (qnum_any HWW.out (j4 + 1) wB w7 rb A c hr7 (HE.out.two HN7.out HQB.out))
      clear hr7 HRR
      go_wp2_with fail
      refine (T8.out).mono ?_
      intro e' w8 h8
      cases hx : numQ T E (j4 + 1) with
      | error k8 =>
       rw [hx] at h8
       obtain ⟨rfl, hn8⟩ := h8
       have HF := Lib.hid (HN7.out.trans (hn8.mono (fun k e => Or.inl e)))
       replace HR2 := Lib.hid (show .error k8 = r by rw [← HR2.out]; refine Eq.trans ?_ (if_pos trivial).symm; rw [hx]; rfl)
       clear hn8 T8 hx
       unfold wrongAt
       go_wp2_with fail
       refine ⟨rfl, ?_⟩
       rw [← HR2.out]
       exact ⟨rfl, HF.out⟩
      | ok pp =>
       obtain ⟨m, j5⟩ := pp
       rw [hx] at h8
       obtain ⟨-, rfl, rfl, hr8, hn8⟩ := h8
       replace HR2 := Lib.hid (show .ok ({ qpX y with group := ns.map (·.data.toList), size := n, slide := m }, j5) = r by rw [← HR2.out]; refine Eq.trans ?_ (if_pos trivial).symm; rw [hx]; rfl)
       have HFM := Lib.hid (num_fits HWW.out hx)
       have hq8 := HQ7.out.only hn8 HL.out.ne
       obtain ⟨w9, hw9⟩ : ∃ w9, w8.setCell ⟨qb, 12, none⟩ (.int .i64 m) = w9 := ⟨_, rfl⟩
       have hq9 : RowL w9 qb 30 (qL y.from_ y.wher (.slice y.CA y.cols.length y.cc) (.slice y.NA y.names.length y.nc) (.slice GA ns.length gc) n m (.slice y.AA y.aggs.length y.ac)) := by rw [← hw9]; exact hq8.set 12 (.int .i64 m)
       have ho9 : Only (fun k => k = qb) w8 w9 := by rw [← hw9]; exact putAll_only [.int .i64 m] w8 qb 12
       have HR9 := Lib.hid (hr8.other ho9 HL.out.ne.symm HL.out.toks)
       have HN9 := Lib.hid ((HN7.out.trans (hn8.mono (fun k e => Or.inl e))).trans (ho9.mono (fun k e => Or.inr e)))
       have HS9 := Lib.hid ((HS7.out.keep (alike_only2 hn8 (fun b hb e => by have hb : w.heap.size ≤ b := hb; have e : b = rb := e; have := HL.out.rd; omega))).keep (alike_only2 ho9 (fun b hb e => by have hb : w.heap.size ≤ b := hb; have e : b = qb := e; have := HL.out.q; omega)))
       have HQ9 := Lib.hid hq9
       have k12 : w8.cell? ⟨qb, 12, none⟩ = some (.int .i64 n) := hq8.cell rfl
       have f12 := hq8.free 12
       have hl8 := hq8.lt
       have HW9 := Lib.hid hw9
       clear hx hr8 hn8 hq8 hw9 hq9 ho9 T8
       go_wp2_with (first | rw [HW9.out])
       go_end0
       rw [← HR2.out]
       have hy := HY.out
       subst hy
       exact ⟨_, rfl, ⟨rfl, GA, gc, ns, n, m, HQ9.out, HS9.out, rfl, HSZ.out, HFN.out, HFM.out⟩, HR9.out, HN9.out⟩
end Go.Proofs.YtpbbkpfaphjdoaaGreatDoor
